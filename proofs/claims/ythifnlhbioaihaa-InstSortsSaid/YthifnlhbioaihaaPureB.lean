/- Plain: the word of a right instruction is the document's. -/
import Derived.Test.YthifnlhbioaihaaPureA
import Derived.Test.YthifnlhbioaihaaRefC
namespace Go.Proofs.Ythifnlhbioaihaa
open Go.RowKit
set_option linter.unusedVariables false
set_option linter.unusedSimpArgs false

/-- n bits of a number, from one on. -/
def fld (v : Int) (f n : Nat) : Nat := (v % 18446744073709551616).toNat / 2 ^ f % 2 ^ n

theorem fld_lt (v : Int) (f n : Nat) : fld v f n < 2 ^ n := Nat.mod_lt _ (Nat.two_pow_pos n)

theorem rpart_fld (v : Int) (f n t : Nat) (hf : f ≤ 63) : rpart v f n t = ((fld v f n * 2 ^ t : Nat) : Int) := by
  have hV : v % 18446744073709551616 = ((v % 18446744073709551616).toNat : Int) := by omega
  unfold rpart fld
  rw [get_lit _ _ _ hf]
  generalize (v % 18446744073709551616).toNat = V at *
  rw [hV]
  simp only [Int.toNat_natCast]
  push_cast
  rfl

theorem place_fld (v : Int) (f n t : Nat) (hf : f ≤ 63) (hn : n + t ≤ 32) : place v f n t = ((fld v f n * 2 ^ t : Nat) : Int) := by
  rw [← rpart_fld v f n t hf]
  have h := rpart_bd v f n t
  unfold place
  unfold rpart at h ⊢
  rw [Int.emod_eq_of_lt h.1]
  refine Int.lt_of_lt_of_le h.2 ?_
  simp only [Int.toNat_natCast]
  rw [pow_toNat]
  exact Int.ofNat_le.2 (Nat.pow_le_pow_right (by omega) hn)

theorem base32 (c rd f3 rs1 rs2 : Nat) (h0 : c < 128) (h1 : rd < 32) (h2 : f3 < 8) (h3 : rs1 < 32) (h4 : rs2 < 32) :
    or32 (or32 (or32 (or32 (c : Int) ((rd : Int) % 4294967296 * 128 % 4294967296)) ((rs1 : Int) % 4294967296 * 32768 % 4294967296)) ((rs2 : Int) % 4294967296 * 1048576 % 4294967296)) ((f3 : Int) * 4096 % 4294967296)
      = ((c + rd * 128 + f3 * 4096 + rs1 * 32768 + rs2 * 1048576 : Nat) : Int) := by
  have e1 : ((rd : Int) % 4294967296 * 128 % 4294967296) = ((rd * 128 : Nat) : Int) := by omega
  have e2 : ((rs1 : Int) % 4294967296 * 32768 % 4294967296) = ((rs1 * 32768 : Nat) : Int) := by omega
  have e3 : ((rs2 : Int) % 4294967296 * 1048576 % 4294967296) = ((rs2 * 1048576 : Nat) : Int) := by omega
  have e4 : ((f3 : Int) * 4096 % 4294967296) = ((f3 * 4096 : Nat) : Int) := by omega
  rw [e1, e2, e3, e4, or32_nat _ _ (by omega) (by omega), or32_nat _ _ (lor_lt _ _ (by omega) (by omega)) (by omega), or32_nat _ _ (lor_lt _ _ (lor_lt _ _ (by omega) (by omega)) (by omega)) (by omega),
    or32_nat _ _ (lor_lt _ _ (lor_lt _ _ (lor_lt _ _ (by omega) (by omega)) (by omega)) (by omega)) (by omega), base_sum c rd f3 rs1 rs2 h0 h1 h2 h3]

theorem base32n (c rd rs1 rs2 : Nat) (h0 : c < 128) (h1 : rd < 32) (h3 : rs1 < 32) (h4 : rs2 < 32) :
    or32 (or32 (or32 (c : Int) ((rd : Int) % 4294967296 * 128 % 4294967296)) ((rs1 : Int) % 4294967296 * 32768 % 4294967296)) ((rs2 : Int) % 4294967296 * 1048576 % 4294967296)
      = ((c + rd * 128 + rs1 * 32768 + rs2 * 1048576 : Nat) : Int) := by
  have e1 : ((rd : Int) % 4294967296 * 128 % 4294967296) = ((rd * 128 : Nat) : Int) := by omega
  have e2 : ((rs1 : Int) % 4294967296 * 32768 % 4294967296) = ((rs1 * 32768 : Nat) : Int) := by omega
  have e3 : ((rs2 : Int) % 4294967296 * 1048576 % 4294967296) = ((rs2 * 1048576 : Nat) : Int) := by omega
  rw [e1, e2, e3, or32_nat _ _ (by omega) (by omega), or32_nat _ _ (lor_lt _ _ (by omega) (by omega)) (by omega), or32_nat _ _ (lor_lt _ _ (lor_lt _ _ (by omega) (by omega)) (by omega)) (by omega),
    or_add7 _ _ h0, or_add15 _ _ (by omega), or_add20 _ _ (by omega)]

def RowBd2 (r : Row) : Prop := (r.form = 11 → r.f7 ≤ 4095) ∧ (r.form = 14 ∨ r.form = 15 → r.f7 ≤ 31) ∧ (r.form ≠ 11 → r.f7 ≤ 127)
theorem row_bd2 (op : Int) (h0 : 1 ≤ op) (h1 : op ≤ 98) : RowBd2 (rowAt op) := by
  have key : ∀ i : Fin 98, ((allRows.getD (i.val + 1) row0).form = 11 → (allRows.getD (i.val + 1) row0).f7 ≤ 4095) ∧ ((allRows.getD (i.val + 1) row0).form = 14 ∨ (allRows.getD (i.val + 1) row0).form = 15 → (allRows.getD (i.val + 1) row0).f7 ≤ 31) ∧ ((allRows.getD (i.val + 1) row0).form ≠ 11 → (allRows.getD (i.val + 1) row0).f7 ≤ 127) := by decide +kernel
  have h := key ⟨(op - 1).toNat, by omega⟩
  have e : (op - 1).toNat + 1 = op.toNat := by omega
  simp only [e] at h
  exact h

theorem or32_upper (B p : Nat) (hB : B < 4096) (hp : p < 1048576) : or32 (B : Int) ((p * 4096 : Nat) : Int) = ((B + p * 4096 : Nat) : Int) := by
  rw [or32_nat _ _ (by omega) (by omega), or_add12 _ _ hB]
theorem or32_at20 (B p : Nat) (hB : B < 1048576) (hp : p < 4096) : or32 (B : Int) ((p * 1048576 : Nat) : Int) = ((B + p * 1048576 : Nat) : Int) := by
  rw [or32_nat _ _ (by omega) (by omega), or_add20 _ _ hB]
theorem or32_at25 (B p : Nat) (hB : B < 33554432) (hp : p < 128) : or32 (B : Int) ((p * 33554432 : Nat) : Int) = ((B + p * 33554432 : Nat) : Int) := by
  rw [or32_nat _ _ (by omega) (by omega), or_add25 _ _ hB]

theorem or32_jump (B a b c d : Nat) (hB : B < 4096) (ha : a < 2) (hb : b < 1024) (hc : c < 2) (hd : d < 256) :
    or32 (B : Int) (or32 (or32 (or32 ((a * 2147483648 : Nat) : Int) ((b * 2097152 : Nat) : Int)) ((c * 1048576 : Nat) : Int)) ((d * 4096 : Nat) : Int))
      = ((B + d * 4096 + c * 1048576 + b * 2097152 + a * 2147483648 : Nat) : Int) := by
  have l1 := lor_lt (a * 2147483648) (b * 2097152) (by omega) (by omega)
  have l2 := lor_lt _ (c * 1048576) l1 (by omega)
  have l3 := lor_lt _ (d * 4096) l2 (by omega)
  rw [or32_nat _ _ (by omega) (by omega), or32_nat _ _ l1 (by omega), or32_nat _ _ l2 (by omega), or32_nat _ _ (by omega) l3]
  have e : B ||| (a * 2147483648 ||| b * 2097152 ||| c * 1048576 ||| d * 4096) = (((B ||| d * 4096) ||| c * 1048576) ||| b * 2097152) ||| a * 2147483648 := by ac_rfl
  rw [e, or_add12 _ _ hB, or_add20 _ _ (by omega), or_add21 _ _ (by omega), or_add31 _ _ (by omega)]

theorem or32_branch (c f3 rs1 rs2 p q r t : Nat) (h0 : c < 128) (h2 : f3 < 8) (h3 : rs1 < 32) (h4 : rs2 < 32) (hp : p < 2) (hq : q < 64) (hr : r < 16) (ht : t < 2) :
    or32 ((c + f3 * 4096 + rs1 * 32768 + rs2 * 1048576 : Nat) : Int) (or32 (or32 (or32 ((p * 2147483648 : Nat) : Int) ((q * 33554432 : Nat) : Int)) ((r * 256 : Nat) : Int)) ((t * 128 : Nat) : Int))
      = ((c + t * 128 + r * 256 + f3 * 4096 + rs1 * 32768 + rs2 * 1048576 + q * 33554432 + p * 2147483648 : Nat) : Int) := by
  have l1 := lor_lt (p * 2147483648) (q * 33554432) (by omega) (by omega)
  have l2 := lor_lt _ (r * 256) l1 (by omega)
  have l3 := lor_lt _ (t * 128) l2 (by omega)
  have eb : c + f3 * 4096 + rs1 * 32768 + rs2 * 1048576 = ((c ||| f3 * 4096) ||| rs1 * 32768) ||| rs2 * 1048576 := by
    rw [or_add12 _ _ (by omega), or_add15 _ _ (by omega), or_add20 _ _ (by omega)]
  rw [or32_nat _ _ (by omega) (by omega), or32_nat _ _ l1 (by omega), or32_nat _ _ l2 (by omega), or32_nat _ _ (by omega) l3, eb]
  have e : (((c ||| f3 * 4096) ||| rs1 * 32768) ||| rs2 * 1048576) ||| (p * 2147483648 ||| q * 33554432 ||| r * 256 ||| t * 128)
      = (((((((c ||| t * 128) ||| r * 256) ||| f3 * 4096) ||| rs1 * 32768) ||| rs2 * 1048576) ||| q * 33554432) ||| p * 2147483648) := by ac_rfl
  rw [e, or_add7 _ _ h0, or_add8 _ _ (by omega), or_add12 _ _ (by omega), or_add15 _ _ (by omega), or_add20 _ _ (by omega), or_add25 _ _ (by omega), or_add31 _ _ (by omega)]

theorem or32_store (c f3 rs1 rs2 q t : Nat) (h0 : c < 128) (h2 : f3 < 8) (h3 : rs1 < 32) (h4 : rs2 < 32) (hq : q < 128) (ht : t < 32) :
    or32 ((c + f3 * 4096 + rs1 * 32768 + rs2 * 1048576 : Nat) : Int) (or32 ((q * 33554432 : Nat) : Int) ((t * 128 : Nat) : Int))
      = ((c + t * 128 + f3 * 4096 + rs1 * 32768 + rs2 * 1048576 + q * 33554432 : Nat) : Int) := by
  have l1 := lor_lt (q * 33554432) (t * 128) (by omega) (by omega)
  have eb : c + f3 * 4096 + rs1 * 32768 + rs2 * 1048576 = ((c ||| f3 * 4096) ||| rs1 * 32768) ||| rs2 * 1048576 := by
    rw [or_add12 _ _ (by omega), or_add15 _ _ (by omega), or_add20 _ _ (by omega)]
  rw [or32_nat _ _ (by omega) (by omega), or32_nat _ _ (by omega) l1, eb]
  have e : (((c ||| f3 * 4096) ||| rs1 * 32768) ||| rs2 * 1048576) ||| (q * 33554432 ||| t * 128)
      = (((((c ||| t * 128) ||| f3 * 4096) ||| rs1 * 32768) ||| rs2 * 1048576) ||| q * 33554432) := by ac_rfl
  rw [e, or_add7 _ _ h0, or_add12 _ _ (by omega), or_add15 _ _ (by omega), or_add20 _ _ (by omega), or_add25 _ _ (by omega)]

theorem or32_shift (B p f7 : Nat) (hB : B < 1048576) (hp : p < 64) (hf : f7 < 128) (hd : p < 32 ∨ f7 % 2 = 0) :
    or32 (B : Int) (or32 ((p * 1048576 : Nat) : Int) ((f7 * 33554432 : Nat) : Int)) = ((B + p * 1048576 + f7 * 33554432 : Nat) : Int) := by
  have l1 := lor_lt (p * 1048576) (f7 * 33554432) (by omega) (by omega)
  rw [or32_nat _ _ (by omega) (by omega), or32_nat _ _ (by omega) l1]
  rcases hd with hd | hd
  · have e : B ||| (p * 1048576 ||| f7 * 33554432) = (B ||| p * 1048576) ||| f7 * 33554432 := by ac_rfl
    rw [e, or_add20 _ _ hB, or_add25 _ _ (by omega)]
  · obtain ⟨m, rfl⟩ : ∃ m, f7 = 2 * m := ⟨f7 / 2, by omega⟩
    have e2 : 2 * m * 33554432 = m * 67108864 := by omega
    have e : B ||| (p * 1048576 ||| m * 67108864) = (B ||| p * 1048576) ||| m * 67108864 := by ac_rfl
    rw [e2, e, or_add20 _ _ hB, or_add26 _ _ (by omega)]

theorem or32_systemi (B csr u : Nat) (hB : B < 32768) (hc : csr < 4096) (hu : u < 32) :
    or32 (B : Int) (or32 ((csr * 1048576 : Nat) : Int) ((u * 32768 : Nat) : Int)) = ((B + u * 32768 + csr * 1048576 : Nat) : Int) := by
  have l1 := lor_lt (csr * 1048576) (u * 32768) (by omega) (by omega)
  rw [or32_nat _ _ (by omega) (by omega), or32_nat _ _ (by omega) l1]
  have e : B ||| (csr * 1048576 ||| u * 32768) = (B ||| u * 32768) ||| csr * 1048576 := by ac_rfl
  rw [e, or_add15 _ _ hB, or_add20 _ _ (by omega)]

theorem or32_order (B f7 a l : Nat) (hB : B < 33554432) (hf : f7 < 32) (ha : a < 2) (hl : l < 2) :
    or32 (B : Int) (or32 (or32 ((f7 * 134217728 : Nat) : Int) ((a * 67108864 : Nat) : Int)) ((l * 33554432 : Nat) : Int)) = ((B + l * 33554432 + a * 67108864 + f7 * 134217728 : Nat) : Int) := by
  have l1 := lor_lt (f7 * 134217728) (a * 67108864) (by omega) (by omega)
  have l2 := lor_lt _ (l * 33554432) l1 (by omega)
  rw [or32_nat _ _ (by omega) (by omega), or32_nat _ _ l1 (by omega), or32_nat _ _ (by omega) l2]
  have e : B ||| (f7 * 134217728 ||| a * 67108864 ||| l * 33554432) = ((B ||| l * 33554432) ||| a * 67108864) ||| f7 * 134217728 := by ac_rfl
  rw [e, or_add25 _ _ hB, or_add26 _ _ (by omega), or_add27 _ _ (by omega)]

end Go.Proofs.Ythifnlhbioaihaa
