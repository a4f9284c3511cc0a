/- Plain: the document's forms, right instructions, words. Plain: bits beside each other are added up. Plain: the word of a right instruction is the document's. Plain: a right instruction's word is the document's. Plain: the instructions that may be are the document's. -/
import Derived.Test.YteidojpklpfdeaaDoorMB
import Derived.Test.YteidojpklpfdeaaDoorMA
/- Plain: the document's forms, right instructions, words. -/
namespace Go.Proofs.YteidojpklpfdeaaDoor
open Go.RowKit
attribute [local go_sem] setCell_drewN alloc_drewN
set_option linter.unusedVariables false
set_option linter.unusedSimpArgs false

def rd_ (f : Int) : Bool := !([4, 6, 11, 16].any (· == f))
def rs1_ (f : Int) : Bool := !([1, 2, 11, 13].any (· == f))
def rs2_ (f : Int) : Bool := [4, 6, 9, 15, 16].any (· == f)

structure Im where
  a : Int
  b : Int
  by_ : Int
  ok : Bool

def immR (f : Int) : Im :=
  if f == 1 then ⟨-2147483648, 2147479552, 4096, true⟩
  else if f == 2 then ⟨-1048576, 1048574, 2, true⟩
  else if f == 4 then ⟨-4096, 4094, 2, true⟩
  else if f == 3 || f == 5 || f == 6 then ⟨-2048, 2047, 1, true⟩
  else if f == 7 then ⟨0, 63, 1, true⟩
  else if f == 8 || f == 13 then ⟨0, 31, 1, true⟩
  else if f == 10 then ⟨0, 4095, 1, true⟩
  else ⟨0, 0, 1, false⟩

/-- An operation's row; zero of none. -/
def rowOf (op : Int) : Row := if known op then rowAt op else row0

def sysF (f : Int) : Bool := [12, 13].any (· == f)
def ordF (f : Int) : Bool := [14, 15].any (· == f)
def inRange (x : Ins) : Bool := decide (0 ≤ x.rd) && decide (x.rd ≤ 31) && decide (0 ≤ x.rs1) && decide (x.rs1 ≤ 31) && decide (0 ≤ x.rs2) && decide (x.rs2 ≤ 31) && decide (0 ≤ x.csr) && decide (x.csr ≤ 4095)
def partA (f rd rs1 rs2 : Int) : Bool := (rd_ f || rd == 0) && (rs1_ f || rs1 == 0) && (rs2_ f || rs2 == 0)
def partB (f csr : Int) (aq rl : Bool) : Bool := (sysF f || csr == 0) && (ordF f || (!aq && !rl))
def partC (i : Im) (imm : Int) : Bool := decide (i.a ≤ imm) && decide (imm ≤ i.b) && (imm.tmod i.by_ == 0)
def rrightBy (f : Int) (x : Ins) : Bool := inRange x && (partA f x.rd x.rs1 x.rs2 && (partB f x.csr x.aq x.rl && partC (immR f) x.imm))

def rright (x : Ins) : Bool := known x.op && rrightBy (rowAt x.op).form x

theorem immR_by (f : Int) : 0 < (immR f).by_ := by unfold immR; repeat' split <;> try decide

theorem get_lt_pow (w a n : Int) : get w a n < 2 ^ n.toNat := by
  have h : (0 : Int) < 2 ^ n.toNat := Int.pow_pos (by decide)
  unfold get
  split
  · exact h
  · split
    · exact h
    · exact Int.emod_lt_of_pos _ h

def rpart (v f n t : Int) : Int := get (v % 18446744073709551616) f n * 2 ^ t.toNat

theorem rpart_bd (v f n t : Int) : 0 ≤ rpart v f n t ∧ rpart v f n t < 2 ^ (n.toNat + t.toNat) := by
  unfold rpart
  have h1 := get_nonneg (v % 18446744073709551616) f n
  have h2 := get_lt_pow (v % 18446744073709551616) f n
  have h : (0 : Int) < 2 ^ t.toNat := Int.pow_pos (by decide)
  rw [Int.pow_add]
  exact ⟨Int.mul_nonneg h1 (Int.le_of_lt h), Int.mul_lt_mul_of_pos_right h2 h⟩

/-- A right instruction's number in its word. -/
def rnumber (f v : Int) : Int :=
  if f == 1 then rpart v 12 20 12
  else if f == 2 then rpart v 20 1 31 + rpart v 1 10 21 + rpart v 11 1 20 + rpart v 12 8 12
  else if f == 4 then rpart v 12 1 31 + rpart v 5 6 25 + rpart v 1 4 8 + rpart v 11 1 7
  else if f == 6 then rpart v 5 7 25 + rpart v 0 5 7
  else if f == 13 then rpart v 0 5 15
  else if f == 3 || f == 5 || f == 10 then rpart v 0 12 20
  else rpart v 0 6 20

theorem rpart_b (v f n t : Int) (b : Int) (h : (2 : Int) ^ (n.toNat + t.toNat) ≤ b) : 0 ≤ rpart v f n t ∧ rpart v f n t < b :=
  ⟨(rpart_bd v f n t).1, Int.lt_of_lt_of_le (rpart_bd v f n t).2 h⟩

/-- A right instruction's word. -/
def rwordBy (r : Row) (x : Ins) : Int :=
  let w := r.code + x.rd * 128 + x.rs1 * 32768 + x.rs2 * 1048576 + x.csr * 1048576
  let w := if r.form == 1 || r.form == 2 then w else w + r.f3 * 4096
  let w := if (immR r.form).ok then w + rnumber r.form x.imm else w
  let w := if r.form == 7 || r.form == 8 || r.form == 9 || r.form == 16 then w + r.f7 * 33554432
    else if r.form == 11 then w + r.f7 * 1048576 else if r.form == 14 || r.form == 15 then w + r.f7 * 134217728 else w
  let w := if x.aq then w + 67108864 else w
  if x.rl then w + 33554432 else w

def rword (x : Ins) : Int := rwordBy (rowAt x.op) x

def RowBd (r : Row) : Prop := 0 ≤ r.code ∧ r.code ≤ 127 ∧ 0 ≤ r.f3 ∧ r.f3 ≤ 7 ∧ 0 ≤ r.f7 ∧ r.f7 ≤ 1000
theorem row_bd (op : Int) (h0 : 1 ≤ op) (h1 : op ≤ 98) : RowBd (rowAt op) := by
  have key : ∀ i : Fin 98, 0 ≤ (allRows.getD (i.val + 1) row0).code ∧ (allRows.getD (i.val + 1) row0).code ≤ 127 ∧ 0 ≤ (allRows.getD (i.val + 1) row0).f3 ∧ (allRows.getD (i.val + 1) row0).f3 ≤ 7 ∧ 0 ≤ (allRows.getD (i.val + 1) row0).f7 ∧ (allRows.getD (i.val + 1) row0).f7 ≤ 1000 := by decide +kernel
  have h := key ⟨(op - 1).toNat, by omega⟩
  have e : (op - 1).toNat + 1 = op.toNat := by omega
  simp only [e] at h
  exact h

theorem rnumber_bd (f v : Int) : 0 ≤ rnumber f v ∧ rnumber f v < 17179869184 := by
  have p1 := rpart_b v 12 20 12 4294967296 (by decide)
  have p2 := rpart_b v 20 1 31 4294967296 (by decide)
  have p3 := rpart_b v 1 10 21 4294967296 (by decide)
  have p4 := rpart_b v 11 1 20 4294967296 (by decide)
  have p5 := rpart_b v 12 8 12 4294967296 (by decide)
  have p6 := rpart_b v 12 1 31 4294967296 (by decide)
  have p7 := rpart_b v 5 6 25 4294967296 (by decide)
  have p8 := rpart_b v 1 4 8 4294967296 (by decide)
  have p9 := rpart_b v 11 1 7 4294967296 (by decide)
  have p10 := rpart_b v 5 7 25 4294967296 (by decide)
  have p11 := rpart_b v 0 5 7 4294967296 (by decide)
  have p12 := rpart_b v 0 5 15 4294967296 (by decide)
  have p13 := rpart_b v 0 12 20 4294967296 (by decide)
  have p14 := rpart_b v 0 6 20 4294967296 (by decide)
  unfold rnumber
  repeat' split <;> try omega

end Go.Proofs.YteidojpklpfdeaaDoor

/- Plain: bits beside each other are added up. -/
namespace Go.Proofs.YteidojpklpfdeaaDoor
open Go.RowKit
attribute [local go_sem] setCell_drewN alloc_drewN
set_option linter.unusedVariables false
set_option linter.unusedSimpArgs false

theorem or_add (a b k : Nat) (h : a < 2 ^ k) : a ||| b * 2 ^ k = a + b * 2 ^ k := by
  have := Nat.two_pow_add_eq_or_of_lt h b
  rw [Nat.or_comm, Nat.mul_comm b, ← this, Nat.add_comm]

theorem or_add7 (a b : Nat) (h : a < 128) : a ||| b * 128 = a + b * 128 := or_add a b 7 h
theorem or_add8 (a b : Nat) (h : a < 256) : a ||| b * 256 = a + b * 256 := or_add a b 8 h
theorem or_add12 (a b : Nat) (h : a < 4096) : a ||| b * 4096 = a + b * 4096 := or_add a b 12 h
theorem or_add15 (a b : Nat) (h : a < 32768) : a ||| b * 32768 = a + b * 32768 := or_add a b 15 h
theorem or_add20 (a b : Nat) (h : a < 1048576) : a ||| b * 1048576 = a + b * 1048576 := or_add a b 20 h
theorem or_add21 (a b : Nat) (h : a < 2097152) : a ||| b * 2097152 = a + b * 2097152 := or_add a b 21 h
theorem or_add25 (a b : Nat) (h : a < 33554432) : a ||| b * 33554432 = a + b * 33554432 := or_add a b 25 h
theorem or_add26 (a b : Nat) (h : a < 67108864) : a ||| b * 67108864 = a + b * 67108864 := or_add a b 26 h
theorem or_add27 (a b : Nat) (h : a < 134217728) : a ||| b * 134217728 = a + b * 134217728 := or_add a b 27 h
theorem or_add31 (a b : Nat) (h : a < 2147483648) : a ||| b * 2147483648 = a + b * 2147483648 := or_add a b 31 h

theorem or32_nat (a b : Nat) (ha : a < 4294967296) (hb : b < 4294967296) : or32 (a : Int) (b : Int) = ((a ||| b : Nat) : Int) := u32_or_nat a b ha hb

theorem lor_lt (a b : Nat) (ha : a < 4294967296) (hb : b < 4294967296) : a ||| b < 4294967296 := by
  have := Nat.or_lt_two_pow (x := a) (y := b) (n := 32) (by omega) (by omega)
  omega

/-- The registers and the like. -/
theorem base_sum (c rd f3 rs1 rs2 : Nat) (h0 : c < 128) (h1 : rd < 32) (h2 : f3 < 8) (h3 : rs1 < 32) :
    (((c ||| rd * 128) ||| rs1 * 32768) ||| rs2 * 1048576) ||| f3 * 4096 = c + rd * 128 + f3 * 4096 + rs1 * 32768 + rs2 * 1048576 := by
  have e : (((c ||| rd * 128) ||| rs1 * 32768) ||| rs2 * 1048576) ||| f3 * 4096 = (((c ||| rd * 128) ||| f3 * 4096) ||| rs1 * 32768) ||| rs2 * 1048576 := by ac_rfl
  rw [e, or_add7 _ _ h0, or_add12 _ _ (by omega), or_add15 _ _ (by omega), or_add20 _ _ (by omega)]

theorem get_lit (x : Int) (a n : Nat) (ha : a ≤ 63) : get x a n = x / 2 ^ a % 2 ^ n := by
  unfold get
  rw [if_neg (by omega), if_neg (by omega)]
  rfl

end Go.Proofs.YteidojpklpfdeaaDoor

/- Plain: the word of a right instruction is the document's. -/
namespace Go.Proofs.YteidojpklpfdeaaDoor
open Go.RowKit
attribute [local go_sem] setCell_drewN alloc_drewN
set_option linter.unusedVariables false
set_option linter.unusedSimpArgs false

/-- n bits of a number, from one on. -/
def fld (v : Int) (f n : Nat) : Nat := (v % 18446744073709551616).toNat / 2 ^ f % 2 ^ n

theorem fld_lt (v : Int) (f n : Nat) : fld v f n < 2 ^ n := Nat.mod_lt _ (Nat.two_pow_pos n)

theorem rpart_fld (v : Int) (f n t : Nat) (hf : f ≤ 63) : rpart v f n t = ((fld v f n * 2 ^ t : Nat) : Int) := by
  have hV : v % 18446744073709551616 = ((v % 18446744073709551616).toNat : Int) := by omega
  unfold rpart fld
  rw [get_lit _ _ _ hf]
  generalize (v % 18446744073709551616).toNat = V at *
  rw [hV]
  simp only [Int.toNat_natCast]
  push_cast
  rfl

theorem place_fld (v : Int) (f n t : Nat) (hf : f ≤ 63) (hn : n + t ≤ 32) : place v f n t = ((fld v f n * 2 ^ t : Nat) : Int) := by
  rw [← rpart_fld v f n t hf]
  have h := rpart_bd v f n t
  unfold place
  unfold rpart at h ⊢
  rw [Int.emod_eq_of_lt h.1]
  refine Int.lt_of_lt_of_le h.2 ?_
  simp only [Int.toNat_natCast]
  rw [pow_toNat]
  exact Int.ofNat_le.2 (Nat.pow_le_pow_right (by omega) hn)

theorem base32 (c rd f3 rs1 rs2 : Nat) (h0 : c < 128) (h1 : rd < 32) (h2 : f3 < 8) (h3 : rs1 < 32) (h4 : rs2 < 32) :
    or32 (or32 (or32 (or32 (c : Int) ((rd : Int) % 4294967296 * 128 % 4294967296)) ((rs1 : Int) % 4294967296 * 32768 % 4294967296)) ((rs2 : Int) % 4294967296 * 1048576 % 4294967296)) ((f3 : Int) * 4096 % 4294967296)
      = ((c + rd * 128 + f3 * 4096 + rs1 * 32768 + rs2 * 1048576 : Nat) : Int) := by
  have e1 : ((rd : Int) % 4294967296 * 128 % 4294967296) = ((rd * 128 : Nat) : Int) := by omega
  have e2 : ((rs1 : Int) % 4294967296 * 32768 % 4294967296) = ((rs1 * 32768 : Nat) : Int) := by omega
  have e3 : ((rs2 : Int) % 4294967296 * 1048576 % 4294967296) = ((rs2 * 1048576 : Nat) : Int) := by omega
  have e4 : ((f3 : Int) * 4096 % 4294967296) = ((f3 * 4096 : Nat) : Int) := by omega
  rw [e1, e2, e3, e4, or32_nat _ _ (by omega) (by omega), or32_nat _ _ (lor_lt _ _ (by omega) (by omega)) (by omega), or32_nat _ _ (lor_lt _ _ (lor_lt _ _ (by omega) (by omega)) (by omega)) (by omega),
    or32_nat _ _ (lor_lt _ _ (lor_lt _ _ (lor_lt _ _ (by omega) (by omega)) (by omega)) (by omega)) (by omega), base_sum c rd f3 rs1 rs2 h0 h1 h2 h3]

theorem base32n (c rd rs1 rs2 : Nat) (h0 : c < 128) (h1 : rd < 32) (h3 : rs1 < 32) (h4 : rs2 < 32) :
    or32 (or32 (or32 (c : Int) ((rd : Int) % 4294967296 * 128 % 4294967296)) ((rs1 : Int) % 4294967296 * 32768 % 4294967296)) ((rs2 : Int) % 4294967296 * 1048576 % 4294967296)
      = ((c + rd * 128 + rs1 * 32768 + rs2 * 1048576 : Nat) : Int) := by
  have e1 : ((rd : Int) % 4294967296 * 128 % 4294967296) = ((rd * 128 : Nat) : Int) := by omega
  have e2 : ((rs1 : Int) % 4294967296 * 32768 % 4294967296) = ((rs1 * 32768 : Nat) : Int) := by omega
  have e3 : ((rs2 : Int) % 4294967296 * 1048576 % 4294967296) = ((rs2 * 1048576 : Nat) : Int) := by omega
  rw [e1, e2, e3, or32_nat _ _ (by omega) (by omega), or32_nat _ _ (lor_lt _ _ (by omega) (by omega)) (by omega), or32_nat _ _ (lor_lt _ _ (lor_lt _ _ (by omega) (by omega)) (by omega)) (by omega),
    or_add7 _ _ h0, or_add15 _ _ (by omega), or_add20 _ _ (by omega)]

def RowBd2 (r : Row) : Prop := (r.form = 11 → r.f7 ≤ 4095) ∧ (r.form = 14 ∨ r.form = 15 → r.f7 ≤ 31) ∧ (r.form ≠ 11 → r.f7 ≤ 127)
theorem row_bd2 (op : Int) (h0 : 1 ≤ op) (h1 : op ≤ 98) : RowBd2 (rowAt op) := by
  have key : ∀ i : Fin 98, ((allRows.getD (i.val + 1) row0).form = 11 → (allRows.getD (i.val + 1) row0).f7 ≤ 4095) ∧ ((allRows.getD (i.val + 1) row0).form = 14 ∨ (allRows.getD (i.val + 1) row0).form = 15 → (allRows.getD (i.val + 1) row0).f7 ≤ 31) ∧ ((allRows.getD (i.val + 1) row0).form ≠ 11 → (allRows.getD (i.val + 1) row0).f7 ≤ 127) := by decide +kernel
  have h := key ⟨(op - 1).toNat, by omega⟩
  have e : (op - 1).toNat + 1 = op.toNat := by omega
  simp only [e] at h
  exact h

theorem or32_upper (B p : Nat) (hB : B < 4096) (hp : p < 1048576) : or32 (B : Int) ((p * 4096 : Nat) : Int) = ((B + p * 4096 : Nat) : Int) := by
  rw [or32_nat _ _ (by omega) (by omega), or_add12 _ _ hB]
theorem or32_at20 (B p : Nat) (hB : B < 1048576) (hp : p < 4096) : or32 (B : Int) ((p * 1048576 : Nat) : Int) = ((B + p * 1048576 : Nat) : Int) := by
  rw [or32_nat _ _ (by omega) (by omega), or_add20 _ _ hB]
theorem or32_at25 (B p : Nat) (hB : B < 33554432) (hp : p < 128) : or32 (B : Int) ((p * 33554432 : Nat) : Int) = ((B + p * 33554432 : Nat) : Int) := by
  rw [or32_nat _ _ (by omega) (by omega), or_add25 _ _ hB]

theorem or32_jump (B a b c d : Nat) (hB : B < 4096) (ha : a < 2) (hb : b < 1024) (hc : c < 2) (hd : d < 256) :
    or32 (B : Int) (or32 (or32 (or32 ((a * 2147483648 : Nat) : Int) ((b * 2097152 : Nat) : Int)) ((c * 1048576 : Nat) : Int)) ((d * 4096 : Nat) : Int))
      = ((B + d * 4096 + c * 1048576 + b * 2097152 + a * 2147483648 : Nat) : Int) := by
  have l1 := lor_lt (a * 2147483648) (b * 2097152) (by omega) (by omega)
  have l2 := lor_lt _ (c * 1048576) l1 (by omega)
  have l3 := lor_lt _ (d * 4096) l2 (by omega)
  rw [or32_nat _ _ (by omega) (by omega), or32_nat _ _ l1 (by omega), or32_nat _ _ l2 (by omega), or32_nat _ _ (by omega) l3]
  have e : B ||| (a * 2147483648 ||| b * 2097152 ||| c * 1048576 ||| d * 4096) = (((B ||| d * 4096) ||| c * 1048576) ||| b * 2097152) ||| a * 2147483648 := by ac_rfl
  rw [e, or_add12 _ _ hB, or_add20 _ _ (by omega), or_add21 _ _ (by omega), or_add31 _ _ (by omega)]

theorem or32_branch (c f3 rs1 rs2 p q r t : Nat) (h0 : c < 128) (h2 : f3 < 8) (h3 : rs1 < 32) (h4 : rs2 < 32) (hp : p < 2) (hq : q < 64) (hr : r < 16) (ht : t < 2) :
    or32 ((c + f3 * 4096 + rs1 * 32768 + rs2 * 1048576 : Nat) : Int) (or32 (or32 (or32 ((p * 2147483648 : Nat) : Int) ((q * 33554432 : Nat) : Int)) ((r * 256 : Nat) : Int)) ((t * 128 : Nat) : Int))
      = ((c + t * 128 + r * 256 + f3 * 4096 + rs1 * 32768 + rs2 * 1048576 + q * 33554432 + p * 2147483648 : Nat) : Int) := by
  have l1 := lor_lt (p * 2147483648) (q * 33554432) (by omega) (by omega)
  have l2 := lor_lt _ (r * 256) l1 (by omega)
  have l3 := lor_lt _ (t * 128) l2 (by omega)
  have eb : c + f3 * 4096 + rs1 * 32768 + rs2 * 1048576 = ((c ||| f3 * 4096) ||| rs1 * 32768) ||| rs2 * 1048576 := by
    rw [or_add12 _ _ (by omega), or_add15 _ _ (by omega), or_add20 _ _ (by omega)]
  rw [or32_nat _ _ (by omega) (by omega), or32_nat _ _ l1 (by omega), or32_nat _ _ l2 (by omega), or32_nat _ _ (by omega) l3, eb]
  have e : (((c ||| f3 * 4096) ||| rs1 * 32768) ||| rs2 * 1048576) ||| (p * 2147483648 ||| q * 33554432 ||| r * 256 ||| t * 128)
      = (((((((c ||| t * 128) ||| r * 256) ||| f3 * 4096) ||| rs1 * 32768) ||| rs2 * 1048576) ||| q * 33554432) ||| p * 2147483648) := by ac_rfl
  rw [e, or_add7 _ _ h0, or_add8 _ _ (by omega), or_add12 _ _ (by omega), or_add15 _ _ (by omega), or_add20 _ _ (by omega), or_add25 _ _ (by omega), or_add31 _ _ (by omega)]

theorem or32_store (c f3 rs1 rs2 q t : Nat) (h0 : c < 128) (h2 : f3 < 8) (h3 : rs1 < 32) (h4 : rs2 < 32) (hq : q < 128) (ht : t < 32) :
    or32 ((c + f3 * 4096 + rs1 * 32768 + rs2 * 1048576 : Nat) : Int) (or32 ((q * 33554432 : Nat) : Int) ((t * 128 : Nat) : Int))
      = ((c + t * 128 + f3 * 4096 + rs1 * 32768 + rs2 * 1048576 + q * 33554432 : Nat) : Int) := by
  have l1 := lor_lt (q * 33554432) (t * 128) (by omega) (by omega)
  have eb : c + f3 * 4096 + rs1 * 32768 + rs2 * 1048576 = ((c ||| f3 * 4096) ||| rs1 * 32768) ||| rs2 * 1048576 := by
    rw [or_add12 _ _ (by omega), or_add15 _ _ (by omega), or_add20 _ _ (by omega)]
  rw [or32_nat _ _ (by omega) (by omega), or32_nat _ _ (by omega) l1, eb]
  have e : (((c ||| f3 * 4096) ||| rs1 * 32768) ||| rs2 * 1048576) ||| (q * 33554432 ||| t * 128)
      = (((((c ||| t * 128) ||| f3 * 4096) ||| rs1 * 32768) ||| rs2 * 1048576) ||| q * 33554432) := by ac_rfl
  rw [e, or_add7 _ _ h0, or_add12 _ _ (by omega), or_add15 _ _ (by omega), or_add20 _ _ (by omega), or_add25 _ _ (by omega)]

theorem or32_shift (B p f7 : Nat) (hB : B < 1048576) (hp : p < 64) (hf : f7 < 128) (hd : p < 32 ∨ f7 % 2 = 0) :
    or32 (B : Int) (or32 ((p * 1048576 : Nat) : Int) ((f7 * 33554432 : Nat) : Int)) = ((B + p * 1048576 + f7 * 33554432 : Nat) : Int) := by
  have l1 := lor_lt (p * 1048576) (f7 * 33554432) (by omega) (by omega)
  rw [or32_nat _ _ (by omega) (by omega), or32_nat _ _ (by omega) l1]
  rcases hd with hd | hd
  · have e : B ||| (p * 1048576 ||| f7 * 33554432) = (B ||| p * 1048576) ||| f7 * 33554432 := by ac_rfl
    rw [e, or_add20 _ _ hB, or_add25 _ _ (by omega)]
  · obtain ⟨m, rfl⟩ : ∃ m, f7 = 2 * m := ⟨f7 / 2, by omega⟩
    have e2 : 2 * m * 33554432 = m * 67108864 := by omega
    have e : B ||| (p * 1048576 ||| m * 67108864) = (B ||| p * 1048576) ||| m * 67108864 := by ac_rfl
    rw [e2, e, or_add20 _ _ hB, or_add26 _ _ (by omega)]

theorem or32_systemi (B csr u : Nat) (hB : B < 32768) (hc : csr < 4096) (hu : u < 32) :
    or32 (B : Int) (or32 ((csr * 1048576 : Nat) : Int) ((u * 32768 : Nat) : Int)) = ((B + u * 32768 + csr * 1048576 : Nat) : Int) := by
  have l1 := lor_lt (csr * 1048576) (u * 32768) (by omega) (by omega)
  rw [or32_nat _ _ (by omega) (by omega), or32_nat _ _ (by omega) l1]
  have e : B ||| (csr * 1048576 ||| u * 32768) = (B ||| u * 32768) ||| csr * 1048576 := by ac_rfl
  rw [e, or_add15 _ _ hB, or_add20 _ _ (by omega)]

theorem or32_order (B f7 a l : Nat) (hB : B < 33554432) (hf : f7 < 32) (ha : a < 2) (hl : l < 2) :
    or32 (B : Int) (or32 (or32 ((f7 * 134217728 : Nat) : Int) ((a * 67108864 : Nat) : Int)) ((l * 33554432 : Nat) : Int)) = ((B + l * 33554432 + a * 67108864 + f7 * 134217728 : Nat) : Int) := by
  have l1 := lor_lt (f7 * 134217728) (a * 67108864) (by omega) (by omega)
  have l2 := lor_lt _ (l * 33554432) l1 (by omega)
  rw [or32_nat _ _ (by omega) (by omega), or32_nat _ _ l1 (by omega), or32_nat _ _ (by omega) l2]
  have e : B ||| (f7 * 134217728 ||| a * 67108864 ||| l * 33554432) = ((B ||| l * 33554432) ||| a * 67108864) ||| f7 * 134217728 := by ac_rfl
  rw [e, or_add25 _ _ hB, or_add26 _ _ (by omega), or_add27 _ _ (by omega)]

end Go.Proofs.YteidojpklpfdeaaDoor

/- Plain: a right instruction's word is the document's. -/
namespace Go.Proofs.YteidojpklpfdeaaDoor
open Go.RowKit
attribute [local go_sem] setCell_drewN alloc_drewN
set_option linter.unusedVariables false
set_option linter.unusedSimpArgs false

theorem or32_zero (a : Nat) (ha : a < 4294967296) : or32 (a : Int) 0 = (a : Int) := by
  have := or32_nat a 0 ha (by omega)
  simpa using this

theorem row_even (op : Int) (h0 : 1 ≤ op) (h1 : op ≤ 98) : (rowAt op).form = 7 → (rowAt op).f7 % 2 = 0 := by
  have key : ∀ i : Fin 98, (allRows.getD (i.val + 1) row0).form = 7 → (allRows.getD (i.val + 1) row0).f7 % 2 = 0 := by decide +kernel
  have h := key ⟨(op - 1).toNat, by omega⟩
  have e : (op - 1).toNat + 1 = op.toNat := by omega
  simp only [e] at h
  exact h

theorem order_a (f7 : Nat) (hf : f7 < 32) : or32 ((f7 * 134217728 : Nat) : Int) 67108864 = (((f7 * 4 + 2) * 33554432 : Nat) : Int) := by
  have h := or32_nat (f7 * 134217728) 67108864 (by omega) (by omega)
  have e : f7 * 134217728 ||| 67108864 = 67108864 ||| f7 * 134217728 := by ac_rfl
  rw [e, or_add27 _ _ (by omega)] at h
  exact h.trans (by omega)
theorem order_l (m : Nat) (hm : m < 64) : or32 (((m * 2) * 33554432 : Nat) : Int) 33554432 = (((m * 2 + 1) * 33554432 : Nat) : Int) := by
  have h := or32_nat (m * 2 * 33554432) 33554432 (by omega) (by omega)
  have e0 : m * 2 * 33554432 = m * 67108864 := by omega
  have e : m * 67108864 ||| 33554432 = 33554432 ||| m * 67108864 := by ac_rfl
  rw [e0] at h ⊢
  rw [e, or_add26 _ _ (by omega)] at h
  exact h.trans (by omega)

theorem order_al (f7 : Nat) (aq rl : Bool) (hf : f7 < 32) :
    (if rl = true then or32 (if aq = true then or32 ((f7 : Int) * 134217728 % 4294967296) 67108864 else (f7 : Int) * 134217728 % 4294967296) 33554432
      else (if aq = true then or32 ((f7 : Int) * 134217728 % 4294967296) 67108864 else (f7 : Int) * 134217728 % 4294967296))
      = (((f7 * 4 + (if aq then 2 else 0) + (if rl then 1 else 0)) * 33554432 : Nat) : Int) := by
  have e : (f7 : Int) * 134217728 % 4294967296 = ((f7 * 134217728 : Nat) : Int) := by omega
  have ea := order_a f7 hf
  have l0 := order_l (f7 * 2) (by omega)
  have l1 := order_l (f7 * 2 + 1) (by omega)
  rw [show f7 * 2 * 2 * 33554432 = f7 * 134217728 by omega] at l0
  rw [show (f7 * 2 + 1) * 2 = f7 * 4 + 2 by omega] at l1
  rw [e]
  cases aq <;> cases rl <;> simp only [Bool.false_eq_true, ↓reduceIte]
  · omega
  · rw [l0]; omega
  · rw [ea]
  · rw [ea, l1]

theorem reg_nat (n : Int) (b : Bool) (h : regOk n b = true) : ∃ k : Nat, n = k ∧ k < 32 ∧ (b = false → k = 0) := by
  cases b
  · simp [regOk] at h
    exact ⟨0, by omega, by omega, fun _ => rfl⟩
  · simp [regOk] at h
    exact ⟨n.toNat, by omega, by omega, fun h => by cases h⟩

set_option maxHeartbeats 4000000 in
theorem word_eq (x : Ins) (h1 : 1 ≤ x.op) (h2 : x.op ≤ 98) (hr : rightBy (partsOf (rowAt x.op).form) x = true) : wordOf x = rword x := by
  have hfo := form_ok x.op h1 h2
  have hbd := row_bd x.op h1 h2
  have hbd2 := row_bd2 x.op h1 h2
  have hev := row_even x.op h1 h2
  unfold wordOf rword
  generalize rowAt x.op = r at *
  obtain ⟨nm, form, c, f3, f7⟩ := r
  obtain ⟨op, rd, rs1, rs2, imm, csr, aq, rl⟩ := x
  dsimp only [RowBd, RowBd2] at *
  obtain ⟨b1, b2, b3, b4, b5, b6⟩ := hbd
  obtain ⟨c, rfl⟩ := Int.eq_ofNat_of_zero_le b1
  obtain ⟨f3, rfl⟩ := Int.eq_ofNat_of_zero_le b3
  obtain ⟨f7, rfl⟩ := Int.eq_ofNat_of_zero_le b5
  have hc : c < 128 := by omega
  have hf3 : f3 < 8 := by omega
  simp only [rightBy, Bool.and_eq_true] at hr
  obtain ⟨⟨⟨⟨⟨g1, g2⟩, g3⟩, g4⟩, g5⟩, g6⟩ := hr
  obtain ⟨rd, rfl, hrd, zrd⟩ := reg_nat _ _ g1
  obtain ⟨rs1, rfl, hrs1, zrs1⟩ := reg_nat _ _ g2
  obtain ⟨rs2, rfl, hrs2, zrs2⟩ := reg_nat _ _ g3
  have A := base32 c rd f3 rs1 rs2 hc hrd hf3 hrs1 hrs2
  have An := base32n c rd rs1 rs2 hc hrd hrs1 hrs2
  rcases hfo with rfl | rfl | rfl | rfl | rfl | rfl | rfl | rfl | rfl | rfl | rfl | rfl | rfl | rfl | rfl | rfl
  all_goals simp only [partsOf, restOf, rwordBy, immR, rnumber, Int.reduceBEq, Bool.false_eq_true, ↓reduceIte, Bool.or_eq_true, Bool.or_self, Bool.or_false, Bool.or_true, Bool.false_or, Bool.true_or, decide_eq_true_eq, Bool.not_eq_true', Bool.and_eq_true] at g4 g5 g6 zrd zrs1 zrs2 ⊢
  all_goals clear g1 g2 g3
  · have p12_12 : place imm 12 20 12 = ((fld imm 12 20 * 4096 : Nat) : Int) := place_fld imm 12 20 12 (by omega) (by omega)
    have q12_12 : rpart imm 12 20 12 = ((fld imm 12 20 * 4096 : Nat) : Int) := rpart_fld imm 12 20 12 (by omega)
    have l12_12 := fld_lt imm 12 20
    simp only [Nat.reducePow] at l12_12
    obtain ⟨rfl, rfl⟩ : aq = false ∧ rl = false := by simpa using g6
    rw [An, p12_12, q12_12, or32_upper _ _ (by simp at zrs1 zrs2; omega) l12_12]
    simp only [Bool.false_eq_true, ↓reduceIte]
    omega
  · have p20_31 : place imm 20 1 31 = ((fld imm 20 1 * 2147483648 : Nat) : Int) := place_fld imm 20 1 31 (by omega) (by omega)
    have q20_31 : rpart imm 20 1 31 = ((fld imm 20 1 * 2147483648 : Nat) : Int) := rpart_fld imm 20 1 31 (by omega)
    have l20_31 := fld_lt imm 20 1
    simp only [Nat.reducePow] at l20_31
    have p1_21 : place imm 1 10 21 = ((fld imm 1 10 * 2097152 : Nat) : Int) := place_fld imm 1 10 21 (by omega) (by omega)
    have q1_21 : rpart imm 1 10 21 = ((fld imm 1 10 * 2097152 : Nat) : Int) := rpart_fld imm 1 10 21 (by omega)
    have l1_21 := fld_lt imm 1 10
    simp only [Nat.reducePow] at l1_21
    have p11_20 : place imm 11 1 20 = ((fld imm 11 1 * 1048576 : Nat) : Int) := place_fld imm 11 1 20 (by omega) (by omega)
    have q11_20 : rpart imm 11 1 20 = ((fld imm 11 1 * 1048576 : Nat) : Int) := rpart_fld imm 11 1 20 (by omega)
    have l11_20 := fld_lt imm 11 1
    simp only [Nat.reducePow] at l11_20
    have p12_12 : place imm 12 8 12 = ((fld imm 12 8 * 4096 : Nat) : Int) := place_fld imm 12 8 12 (by omega) (by omega)
    have q12_12 : rpart imm 12 8 12 = ((fld imm 12 8 * 4096 : Nat) : Int) := rpart_fld imm 12 8 12 (by omega)
    have l12_12 := fld_lt imm 12 8
    simp only [Nat.reducePow] at l12_12
    obtain ⟨rfl, rfl⟩ : aq = false ∧ rl = false := by simpa using g6
    rw [An, p20_31, p1_21, p11_20, p12_12, q20_31, q1_21, q11_20, q12_12, or32_jump _ _ _ _ _ (by simp at zrs1 zrs2; omega) l20_31 l1_21 l11_20 l12_12]
    simp only [Bool.false_eq_true, ↓reduceIte]
    omega
  · have p0_20 : place imm 0 12 20 = ((fld imm 0 12 * 1048576 : Nat) : Int) := place_fld imm 0 12 20 (by omega) (by omega)
    have q0_20 : rpart imm 0 12 20 = ((fld imm 0 12 * 1048576 : Nat) : Int) := rpart_fld imm 0 12 20 (by omega)
    have l0_20 := fld_lt imm 0 12
    simp only [Nat.reducePow] at l0_20
    obtain ⟨rfl, rfl⟩ : aq = false ∧ rl = false := by simpa using g6
    rw [A, p0_20, q0_20, or32_at20 _ _ (by simp at zrs2; omega) l0_20]
    simp only [Bool.false_eq_true, ↓reduceIte]
    omega
  · have p12_31 : place imm 12 1 31 = ((fld imm 12 1 * 2147483648 : Nat) : Int) := place_fld imm 12 1 31 (by omega) (by omega)
    have q12_31 : rpart imm 12 1 31 = ((fld imm 12 1 * 2147483648 : Nat) : Int) := rpart_fld imm 12 1 31 (by omega)
    have l12_31 := fld_lt imm 12 1
    simp only [Nat.reducePow] at l12_31
    have p5_25 : place imm 5 6 25 = ((fld imm 5 6 * 33554432 : Nat) : Int) := place_fld imm 5 6 25 (by omega) (by omega)
    have q5_25 : rpart imm 5 6 25 = ((fld imm 5 6 * 33554432 : Nat) : Int) := rpart_fld imm 5 6 25 (by omega)
    have l5_25 := fld_lt imm 5 6
    simp only [Nat.reducePow] at l5_25
    have p1_8 : place imm 1 4 8 = ((fld imm 1 4 * 256 : Nat) : Int) := place_fld imm 1 4 8 (by omega) (by omega)
    have q1_8 : rpart imm 1 4 8 = ((fld imm 1 4 * 256 : Nat) : Int) := rpart_fld imm 1 4 8 (by omega)
    have l1_8 := fld_lt imm 1 4
    simp only [Nat.reducePow] at l1_8
    have p11_7 : place imm 11 1 7 = ((fld imm 11 1 * 128 : Nat) : Int) := place_fld imm 11 1 7 (by omega) (by omega)
    have q11_7 : rpart imm 11 1 7 = ((fld imm 11 1 * 128 : Nat) : Int) := rpart_fld imm 11 1 7 (by omega)
    have l11_7 := fld_lt imm 11 1
    simp only [Nat.reducePow] at l11_7
    obtain ⟨rfl, rfl⟩ : aq = false ∧ rl = false := by simpa using g6
    obtain rfl : rd = 0 := by simpa using zrd
    simp only [Nat.zero_mul, Nat.add_zero] at A
    rw [A, p12_31, p5_25, p1_8, p11_7, q12_31, q5_25, q1_8, q11_7, or32_branch _ _ _ _ _ _ _ _ hc hf3 hrs1 hrs2 l12_31 l5_25 l1_8 l11_7]
    simp only [Bool.false_eq_true, ↓reduceIte]
    omega
  · have p0_20 : place imm 0 12 20 = ((fld imm 0 12 * 1048576 : Nat) : Int) := place_fld imm 0 12 20 (by omega) (by omega)
    have q0_20 : rpart imm 0 12 20 = ((fld imm 0 12 * 1048576 : Nat) : Int) := rpart_fld imm 0 12 20 (by omega)
    have l0_20 := fld_lt imm 0 12
    simp only [Nat.reducePow] at l0_20
    obtain ⟨rfl, rfl⟩ : aq = false ∧ rl = false := by simpa using g6
    rw [A, p0_20, q0_20, or32_at20 _ _ (by simp at zrs2; omega) l0_20]
    simp only [Bool.false_eq_true, ↓reduceIte]
    omega
  · have p5_25 : place imm 5 7 25 = ((fld imm 5 7 * 33554432 : Nat) : Int) := place_fld imm 5 7 25 (by omega) (by omega)
    have q5_25 : rpart imm 5 7 25 = ((fld imm 5 7 * 33554432 : Nat) : Int) := rpart_fld imm 5 7 25 (by omega)
    have l5_25 := fld_lt imm 5 7
    simp only [Nat.reducePow] at l5_25
    have p0_7 : place imm 0 5 7 = ((fld imm 0 5 * 128 : Nat) : Int) := place_fld imm 0 5 7 (by omega) (by omega)
    have q0_7 : rpart imm 0 5 7 = ((fld imm 0 5 * 128 : Nat) : Int) := rpart_fld imm 0 5 7 (by omega)
    have l0_7 := fld_lt imm 0 5
    simp only [Nat.reducePow] at l0_7
    obtain ⟨rfl, rfl⟩ : aq = false ∧ rl = false := by simpa using g6
    obtain rfl : rd = 0 := by simpa using zrd
    simp only [Nat.zero_mul, Nat.add_zero] at A
    rw [A, p5_25, p0_7, q5_25, q0_7, or32_store _ _ _ _ _ _ hc hf3 hrs1 hrs2 l5_25 l0_7]
    simp only [Bool.false_eq_true, ↓reduceIte]
    omega
  · have p0_20 : place imm 0 6 20 = ((fld imm 0 6 * 1048576 : Nat) : Int) := place_fld imm 0 6 20 (by omega) (by omega)
    have q0_20 : rpart imm 0 6 20 = ((fld imm 0 6 * 1048576 : Nat) : Int) := rpart_fld imm 0 6 20 (by omega)
    have l0_20 := fld_lt imm 0 6
    simp only [Nat.reducePow] at l0_20
    obtain ⟨rfl, rfl⟩ : aq = false ∧ rl = false := by simpa using g6
    have e7 : (f7 : Int) * 33554432 % 4294967296 = ((f7 * 33554432 : Nat) : Int) := by omega
    have hev2 := hev rfl
    rw [A, p0_20, q0_20, e7, or32_shift _ _ _ (by simp at zrs2; omega) l0_20 (by omega) (.inr (by omega))]
    simp only [Bool.false_eq_true, ↓reduceIte]
    omega
  · have p0_20 : place imm 0 6 20 = ((fld imm 0 6 * 1048576 : Nat) : Int) := place_fld imm 0 6 20 (by omega) (by omega)
    have q0_20 : rpart imm 0 6 20 = ((fld imm 0 6 * 1048576 : Nat) : Int) := rpart_fld imm 0 6 20 (by omega)
    have l0_20 := fld_lt imm 0 6
    simp only [Nat.reducePow] at l0_20
    obtain ⟨rfl, rfl⟩ : aq = false ∧ rl = false := by simpa using g6
    have e7 : (f7 : Int) * 33554432 % 4294967296 = ((f7 * 33554432 : Nat) : Int) := by omega
    have hv : fld imm 0 6 < 32 := by unfold fld; simp; omega
    rw [A, p0_20, q0_20, e7, or32_shift _ _ _ (by simp at zrs2; omega) l0_20 (by omega) (.inl hv)]
    simp only [Bool.false_eq_true, ↓reduceIte]
    omega
  · obtain ⟨rfl, rfl⟩ : aq = false ∧ rl = false := by simpa using g6
    have e7 : (f7 : Int) * 33554432 % 4294967296 = ((f7 * 33554432 : Nat) : Int) := by omega
    rw [A, e7, or32_at25 _ _ (by omega) (by omega)]
    simp only [Bool.false_eq_true, ↓reduceIte]
    omega
  · have p0_20 : place imm 0 12 20 = ((fld imm 0 12 * 1048576 : Nat) : Int) := place_fld imm 0 12 20 (by omega) (by omega)
    have q0_20 : rpart imm 0 12 20 = ((fld imm 0 12 * 1048576 : Nat) : Int) := rpart_fld imm 0 12 20 (by omega)
    have l0_20 := fld_lt imm 0 12
    simp only [Nat.reducePow] at l0_20
    obtain ⟨rfl, rfl⟩ : aq = false ∧ rl = false := by simpa using g6
    rw [A, p0_20, q0_20, or32_at20 _ _ (by simp at zrs2; omega) l0_20]
    simp only [Bool.false_eq_true, ↓reduceIte]
    omega
  · obtain ⟨rfl, rfl⟩ : aq = false ∧ rl = false := by simpa using g6
    have e7 : (f7 : Int) * 1048576 % 4294967296 = ((f7 * 1048576 : Nat) : Int) := by omega
    rw [A, e7, or32_at20 _ _ (by simp at zrs2; omega) (by omega)]
    simp only [Bool.false_eq_true, ↓reduceIte]
    omega
  · obtain ⟨rfl, rfl⟩ : aq = false ∧ rl = false := by simpa using g6
    obtain ⟨csr, rfl⟩ := Int.eq_ofNat_of_zero_le g5.1
    have ec : (csr : Int) % 4294967296 * 1048576 % 4294967296 = ((csr * 1048576 : Nat) : Int) := by omega
    rw [A, ec, or32_at20 _ _ (by simp at zrs2; omega) (by omega)]
    simp only [Bool.false_eq_true, ↓reduceIte]
    omega
  · have p0_15 : place imm 0 5 15 = ((fld imm 0 5 * 32768 : Nat) : Int) := place_fld imm 0 5 15 (by omega) (by omega)
    have q0_15 : rpart imm 0 5 15 = ((fld imm 0 5 * 32768 : Nat) : Int) := rpart_fld imm 0 5 15 (by omega)
    have l0_15 := fld_lt imm 0 5
    simp only [Nat.reducePow] at l0_15
    obtain ⟨rfl, rfl⟩ : aq = false ∧ rl = false := by simpa using g6
    obtain ⟨csr, rfl⟩ := Int.eq_ofNat_of_zero_le g5.1
    have ec : (csr : Int) % 4294967296 * 1048576 % 4294967296 = ((csr * 1048576 : Nat) : Int) := by omega
    rw [A, ec, p0_15, q0_15, or32_systemi _ _ _ (by simp at zrs1 zrs2; omega) (by omega) l0_15]
    simp only [Bool.false_eq_true, ↓reduceIte]
    omega
  · rw [order_al f7 aq rl (by omega), A, or32_at25 _ _ (by omega) (by cases aq <;> cases rl <;> simp <;> omega)]
    cases aq <;> cases rl <;> simp only [Bool.false_eq_true, ↓reduceIte] <;> omega
  · rw [order_al f7 aq rl (by omega), A, or32_at25 _ _ (by omega) (by cases aq <;> cases rl <;> simp <;> omega)]
    cases aq <;> cases rl <;> simp only [Bool.false_eq_true, ↓reduceIte] <;> omega
  · obtain ⟨rfl, rfl⟩ : aq = false ∧ rl = false := by simpa using g6
    have e7 : (f7 : Int) * 33554432 % 4294967296 = ((f7 * 33554432 : Nat) : Int) := by omega
    rw [A, e7, or32_at25 _ _ (by omega) (by omega)]
    simp only [Bool.false_eq_true, ↓reduceIte]
    omega

end Go.Proofs.YteidojpklpfdeaaDoor

/- Plain: the instructions that may be are the document's. -/
namespace Go.Proofs.YteidojpklpfdeaaDoor
open Go.RowKit
attribute [local go_sem] setCell_drewN alloc_drewN
set_option linter.unusedVariables false
set_option linter.unusedSimpArgs false

set_option maxHeartbeats 4000000 in
theorem rightBy_eq (f : Int) (hf : IsForm f) (x : Ins) : rightBy (partsOf f) x = rrightBy f x := by
  obtain ⟨op, rd, rs1, rs2, imm, csr, aq, rl⟩ := x
  rcases hf with rfl | rfl | rfl | rfl | rfl | rfl | rfl | rfl | rfl | rfl | rfl | rfl | rfl | rfl | rfl | rfl
  all_goals
    rw [Bool.eq_iff_iff]
    cases aq <;> cases rl <;> simp [rightBy, rrightBy, partsOf, regOk, inRange, partA, partB, partC, immR, rd_, rs1_, rs2_, sysF, ordF] <;> omega

theorem right_eq (x : Ins) : right x = rright x := by
  unfold right rright
  cases hk : known x.op with
  | false => rfl
  | true =>
    have hb : 1 ≤ x.op ∧ x.op ≤ 98 := by simpa [known] using hk
    rw [rightBy_eq _ (form_ok x.op hb.1 hb.2)]

end Go.Proofs.YteidojpklpfdeaaDoor
