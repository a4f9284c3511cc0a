/- The walks of vireoref03: part, number, Word. -/
import Derived.Test.YthifnlhbioaihaaRefB
namespace Go.Proofs.Ythifnlhbioaihaa
open Go.RowKit
set_option linter.unusedVariables false
set_option linter.unusedSimpArgs false

theorem get_lt_pow (w a n : Int) : get w a n < 2 ^ n.toNat := by
  have h : (0 : Int) < 2 ^ n.toNat := Int.pow_pos (by decide)
  unfold get
  split
  · exact h
  · split
    · exact h
    · exact Int.emod_lt_of_pos _ h

def rpart (v f n t : Int) : Int := get (v % 18446744073709551616) f n * 2 ^ t.toNat

theorem rpart_bd (v f n t : Int) : 0 ≤ rpart v f n t ∧ rpart v f n t < 2 ^ (n.toNat + t.toNat) := by
  unfold rpart
  have h1 := get_nonneg (v % 18446744073709551616) f n
  have h2 := get_lt_pow (v % 18446744073709551616) f n
  have h : (0 : Int) < 2 ^ t.toNat := Int.pow_pos (by decide)
  rw [Int.pow_add]
  exact ⟨Int.mul_nonneg h1 (Int.le_of_lt h), Int.mul_lt_mul_of_pos_right h2 h⟩

set_option maxHeartbeats 1000000 in
theorem part_any (v f n t : Int) (w : World) (hn0 : 0 ≤ n) (hn : n ≤ 20) (ht0 : 0 ≤ t) (ht : t ≤ 31) :
    Calls Try.prog 44 #[.int .i64 v, .int .i64 f, .int .i64 n, .int .i64 t] w fun e w' => e = .returned (.int .i64 (rpart v f n t)) ∧ Below w.heap.size w w' := by
  have hg0 := get_nonneg (IntKind.u64.wrap v) f n
  have hg1 := get_lt_pow (IntKind.u64.wrap v) f n
  have hp : (2 : Int) ^ n.toNat ≤ 2 ^ 20 := by rw [pow_toNat, pow_toNat]; exact Int.ofNat_le.2 (Nat.pow_le_pow_right (by omega) (by omega))
  have hg2 : get (IntKind.u64.wrap v) f n < 1048576 := by omega
  have hq0 : (0 : Int) < 2 ^ t.toNat := Int.pow_pos (by decide)
  have hq1 : (2 : Int) ^ t.toNat ≤ 2 ^ 31 := by rw [pow_toNat, pow_toNat]; exact Int.ofNat_le.2 (Nat.pow_le_pow_right (by omega) (by omega))
  have hq2 : (2 : Int) ^ t.toNat ≤ 2147483648 := by omega
  clear hg1 hp hq1
  have e : rpart v f n t = get (IntKind.u64.wrap v) f n * 2 ^ t.toNat := by unfold rpart; rw [IntKind.wrap_u64]
  have HE := hid e; clear e
  have HG := hid (fun w => rget_any (IntKind.u64.wrap v) f n w (by rw [IntKind.wrap_u64]; omega) (by rw [IntKind.wrap_u64]; omega))
  generalize hgg : get (IntKind.u64.wrap v) f n = g at *
  have HGG := hid hgg; clear hgg
  go_enter Try.func44, Try.ntmps44
  go_wp2_with fail
  go_region_held3 (fun _ => True) (first | trivial | go_keep) (first | (go_at_call 50; refine (HG.out _).mono ?_; rintro e w' ⟨rfl, hb⟩))
  have hm0 : 0 ≤ g * 2 ^ t.toNat := Int.mul_nonneg hg0 (Int.le_of_lt hq0)
  have hm1 : g * 2 ^ t.toNat ≤ 1048576 * 2147483648 := Int.mul_le_mul (by omega) hq2 (Int.le_of_lt hq0) (by decide)
  go_wp2_with fail
  go_ret
  refine ⟨ret_int ?_, ?_⟩
  · rw [HE.out, IntKind.wrap_i64, IntKind.wrap_i64, IntKind.wrap_i64]
    have e1 : (g + 9223372036854775808) % 18446744073709551616 - 9223372036854775808 = g := by omega
    have e2 : ((2 : Int) ^ t.toNat + 9223372036854775808) % 18446744073709551616 - 9223372036854775808 = 2 ^ t.toNat := by omega
    rw [e1, e2]
    omega
  · exact (Below.refl _ _).drew.trans hb

/-- A right instruction's number in its word. -/
def rnumber (f v : Int) : Int :=
  if f == 1 then rpart v 12 20 12
  else if f == 2 then rpart v 20 1 31 + rpart v 1 10 21 + rpart v 11 1 20 + rpart v 12 8 12
  else if f == 4 then rpart v 12 1 31 + rpart v 5 6 25 + rpart v 1 4 8 + rpart v 11 1 7
  else if f == 6 then rpart v 5 7 25 + rpart v 0 5 7
  else if f == 13 then rpart v 0 5 15
  else if f == 3 || f == 5 || f == 10 then rpart v 0 12 20
  else rpart v 0 6 20

theorem rpart_b (v f n t : Int) (b : Int) (h : (2 : Int) ^ (n.toNat + t.toNat) ≤ b) : 0 ≤ rpart v f n t ∧ rpart v f n t < b :=
  ⟨(rpart_bd v f n t).1, Int.lt_of_lt_of_le (rpart_bd v f n t).2 h⟩

set_option maxHeartbeats 4000000 in
theorem number_any (f v : Int) (w : World) (hf : f = 1 ∨ f = 2 ∨ f = 3 ∨ f = 4 ∨ f = 5 ∨ f = 6 ∨ f = 7 ∨ f = 8 ∨ f = 10 ∨ f = 13) :
    Calls Try.prog 38 #[.int .i64 f, .int .i64 v] w fun e w' => e = .returned (.int .i64 (rnumber f v)) ∧ Below w.heap.size w w' := by
  have p1 := rpart_b v 12 20 12 4294967296 (by decide)
  have p2 := rpart_b v 20 1 31 4294967296 (by decide)
  have p3 := rpart_b v 1 10 21 4294967296 (by decide)
  have p4 := rpart_b v 11 1 20 4294967296 (by decide)
  have p5 := rpart_b v 12 8 12 4294967296 (by decide)
  have p6 := rpart_b v 12 1 31 4294967296 (by decide)
  have p7 := rpart_b v 5 6 25 4294967296 (by decide)
  have p8 := rpart_b v 1 4 8 4294967296 (by decide)
  have p9 := rpart_b v 11 1 7 4294967296 (by decide)
  have p10 := rpart_b v 5 7 25 4294967296 (by decide)
  have p11 := rpart_b v 0 5 7 4294967296 (by decide)
  have hacc := Below.refl w.heap.size w
  rcases hf with rfl | rfl | rfl | rfl | rfl | rfl | rfl | rfl | rfl | rfl
  all_goals
    go_enter Try.func38, Try.ntmps38
    go_wp2_with (go_at_call 44; refine (part_any _ _ _ _ _ (by decide) (by decide) (by decide) (by decide)).mono ?_; rintro e w' ⟨rfl, hb⟩; replace hacc := hacc.trans (hb.mono hacc.size); clear hb)
    go_ret
    exact ⟨ret_int (by simp [rnumber]), hacc⟩

/-- A right instruction's word. -/
def rwordBy (r : Row) (x : Ins) : Int :=
  let w := r.code + x.rd * 128 + x.rs1 * 32768 + x.rs2 * 1048576 + x.csr * 1048576
  let w := if r.form == 1 || r.form == 2 then w else w + r.f3 * 4096
  let w := if (immR r.form).ok then w + rnumber r.form x.imm else w
  let w := if r.form == 7 || r.form == 8 || r.form == 9 || r.form == 16 then w + r.f7 * 33554432
    else if r.form == 11 then w + r.f7 * 1048576 else if r.form == 14 || r.form == 15 then w + r.f7 * 134217728 else w
  let w := if x.aq then w + 67108864 else w
  if x.rl then w + 33554432 else w

def rword (x : Ins) : Int := rwordBy (rowAt x.op) x

def RowBd (r : Row) : Prop := 0 ≤ r.code ∧ r.code ≤ 127 ∧ 0 ≤ r.f3 ∧ r.f3 ≤ 7 ∧ 0 ≤ r.f7 ∧ r.f7 ≤ 1000
theorem row_bd (op : Int) (h0 : 1 ≤ op) (h1 : op ≤ 98) : RowBd (rowAt op) := by
  have key : ∀ i : Fin 98, 0 ≤ (allRows.getD (i.val + 1) row0).code ∧ (allRows.getD (i.val + 1) row0).code ≤ 127 ∧ 0 ≤ (allRows.getD (i.val + 1) row0).f3 ∧ (allRows.getD (i.val + 1) row0).f3 ≤ 7 ∧ 0 ≤ (allRows.getD (i.val + 1) row0).f7 ∧ (allRows.getD (i.val + 1) row0).f7 ≤ 1000 := by decide +kernel
  have h := key ⟨(op - 1).toNat, by omega⟩
  have e : (op - 1).toNat + 1 = op.toNat := by omega
  simp only [e] at h
  exact h

theorem rnumber_bd (f v : Int) : 0 ≤ rnumber f v ∧ rnumber f v < 17179869184 := by
  have p1 := rpart_b v 12 20 12 4294967296 (by decide)
  have p2 := rpart_b v 20 1 31 4294967296 (by decide)
  have p3 := rpart_b v 1 10 21 4294967296 (by decide)
  have p4 := rpart_b v 11 1 20 4294967296 (by decide)
  have p5 := rpart_b v 12 8 12 4294967296 (by decide)
  have p6 := rpart_b v 12 1 31 4294967296 (by decide)
  have p7 := rpart_b v 5 6 25 4294967296 (by decide)
  have p8 := rpart_b v 1 4 8 4294967296 (by decide)
  have p9 := rpart_b v 11 1 7 4294967296 (by decide)
  have p10 := rpart_b v 5 7 25 4294967296 (by decide)
  have p11 := rpart_b v 0 5 7 4294967296 (by decide)
  have p12 := rpart_b v 0 5 15 4294967296 (by decide)
  have p13 := rpart_b v 0 12 20 4294967296 (by decide)
  have p14 := rpart_b v 0 6 20 4294967296 (by decide)
  unfold rnumber
  repeat' split <;> try omega

theorem bcell {W w1 : World} (hb : Below W.heap.size W w1) : ∀ b o, b < W.heap.size → w1.cell? ⟨b, o, none⟩ = W.cell? ⟨b, o, none⟩ := fun b o h => hb.cell (p := ⟨b, o, none⟩) h

theorem in1 (f : Int) (g : Nat) (w : World) (c0 : w.cell? ⟨g, 0, none⟩ = some (.int .i64 1)) (c1 : w.cell? ⟨g, 1, none⟩ = some (.int .i64 2)) :
    Calls Try.prog 33 #[.int .i64 f, .slice (some ⟨g, 0, none⟩) 2 2] w fun e w' => e = .returned (.bool ([1, 2].any (· == f))) ∧ w = w' :=
  in_any f g 2 [1, 2] w rfl (by decide) (by intro j h; match j, h with | 0, _ => exact c0 | 1, _ => exact c1 | j + 2, h => simp at h; omega)

set_option maxHeartbeats 8000000 in
set_option maxRecDepth 100000 in
theorem rword_any (x : Ins) (w : World) (h1 : 1 ≤ x.op) (h2 : x.op ≤ 98) (hr : inRange x = true) :
    Calls Try.prog 13 #[.agg #[.int .i64 x.op, .int .i64 x.rd, .int .i64 x.rs1, .int .i64 x.rs2, .int .i64 x.imm, .int .i64 x.csr, .bool x.aq, .bool x.rl]] w fun e w' => e = .returned (.int .i64 (rword x)) ∧ Below w.heap.size w w' := by
  have HOF := hid (fun w => of_known x.op w h1 h2)
  have hfo := form_ok x.op h1 h2
  have hbd := row_bd x.op h1 h2
  have HI := hid (fun w => immR_any (rowAt x.op).form w hfo)
  have HN := hid (fun h w => number_any (rowAt x.op).form x.imm w h)
  have hnb := rnumber_bd (rowAt x.op).form x.imm
  have HW := hid (show rword x = rwordBy (rowAt x.op) x from rfl)
  have hrg : (0 ≤ x.rd ∧ x.rd ≤ 31) ∧ (0 ≤ x.rs1 ∧ x.rs1 ≤ 31) ∧ (0 ≤ x.rs2 ∧ x.rs2 ≤ 31) ∧ (0 ≤ x.csr ∧ x.csr ≤ 4095) := by simp [inRange] at hr; omega
  obtain ⟨⟨g1, g2⟩, ⟨g3, g4⟩, ⟨g5, g6⟩, g7, g8⟩ := hrg
  generalize rowAt x.op = r at *
  obtain ⟨nm, form, code, f3, f7⟩ := r
  obtain ⟨op, rd, rs1, rs2, imm, csr, aq, rl⟩ := x
  dsimp only [RowBd] at *
  obtain ⟨b1, b2, b3, b4, b5, b6⟩ := hbd
  obtain ⟨n1, n2⟩ := hnb
  generalize hrn : rnumber form imm = rn at *
  have HRN := hid hrn; clear hrn hr
  have hrf := run_rrow1
  rcases hfo with rfl | rfl | rfl | rfl | rfl | rfl | rfl | rfl | rfl | rfl | rfl | rfl | rfl | rfl | rfl | rfl
  all_goals
    have HG := hid (And.intro (And.intro b1 b2) (And.intro n1 n2))
    go_enter Try.func13, Try.ntmps13
    go_wp2_with (first | (go_at_call 16; refine (HOF.out _).mono ?_; rintro e w' ⟨rfl, rfl⟩) | (go_at_call 33; refine (in1 _ _ _ ?_ ?_).mono ?_; (focus (simp [go_sem]; done)); (focus (simp [go_sem]; done)); rintro e w' ⟨rfl, rfl⟩) | (go_at_call 34; refine (HI.out _).mono ?_; simp only [immR, Int.reduceBEq, Bool.or_self, Bool.or_false, Bool.or_true, Bool.true_or, Bool.false_or, Bool.false_eq_true, ↓reduceIte]; rintro e w' ⟨rfl, rfl⟩) | (go_at_call 38; refine (HN.out (by decide) _).mono ?_; rintro e w2 ⟨rfl, hb⟩; have hcc := bcell hb))
    all_goals
      go_ret
      refine ⟨ret_int (by rw [HW.out]; simp [rwordBy, immR, HRN.out, *]), ?_⟩
      first | (refine Below.trans ?_ (hb.mono (by simp; omega)); repeat (first | exact Below.refl _ _ | refine Below.alloc ?_ (by first | (simp; done) | (simp; omega)) _)) | (repeat (first | exact Below.refl _ _ | refine Below.alloc ?_ (by first | (simp; done) | (simp; omega)) _))

end Go.Proofs.Ythifnlhbioaihaa
