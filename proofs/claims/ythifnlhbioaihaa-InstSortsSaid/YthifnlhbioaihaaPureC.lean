/- Plain: a right instruction's word is the document's. -/
import Derived.Test.YthifnlhbioaihaaPureB
namespace Go.Proofs.Ythifnlhbioaihaa
open Go.RowKit
set_option linter.unusedVariables false
set_option linter.unusedSimpArgs false

theorem or32_zero (a : Nat) (ha : a < 4294967296) : or32 (a : Int) 0 = (a : Int) := by
  have := or32_nat a 0 ha (by omega)
  simpa using this

theorem row_even (op : Int) (h0 : 1 ≤ op) (h1 : op ≤ 98) : (rowAt op).form = 7 → (rowAt op).f7 % 2 = 0 := by
  have key : ∀ i : Fin 98, (allRows.getD (i.val + 1) row0).form = 7 → (allRows.getD (i.val + 1) row0).f7 % 2 = 0 := by decide +kernel
  have h := key ⟨(op - 1).toNat, by omega⟩
  have e : (op - 1).toNat + 1 = op.toNat := by omega
  simp only [e] at h
  exact h

theorem order_a (f7 : Nat) (hf : f7 < 32) : or32 ((f7 * 134217728 : Nat) : Int) 67108864 = (((f7 * 4 + 2) * 33554432 : Nat) : Int) := by
  have h := or32_nat (f7 * 134217728) 67108864 (by omega) (by omega)
  have e : f7 * 134217728 ||| 67108864 = 67108864 ||| f7 * 134217728 := by ac_rfl
  rw [e, or_add27 _ _ (by omega)] at h
  exact h.trans (by omega)
theorem order_l (m : Nat) (hm : m < 64) : or32 (((m * 2) * 33554432 : Nat) : Int) 33554432 = (((m * 2 + 1) * 33554432 : Nat) : Int) := by
  have h := or32_nat (m * 2 * 33554432) 33554432 (by omega) (by omega)
  have e0 : m * 2 * 33554432 = m * 67108864 := by omega
  have e : m * 67108864 ||| 33554432 = 33554432 ||| m * 67108864 := by ac_rfl
  rw [e0] at h ⊢
  rw [e, or_add26 _ _ (by omega)] at h
  exact h.trans (by omega)

theorem order_al (f7 : Nat) (aq rl : Bool) (hf : f7 < 32) :
    (if rl = true then or32 (if aq = true then or32 ((f7 : Int) * 134217728 % 4294967296) 67108864 else (f7 : Int) * 134217728 % 4294967296) 33554432
      else (if aq = true then or32 ((f7 : Int) * 134217728 % 4294967296) 67108864 else (f7 : Int) * 134217728 % 4294967296))
      = (((f7 * 4 + (if aq then 2 else 0) + (if rl then 1 else 0)) * 33554432 : Nat) : Int) := by
  have e : (f7 : Int) * 134217728 % 4294967296 = ((f7 * 134217728 : Nat) : Int) := by omega
  have ea := order_a f7 hf
  have l0 := order_l (f7 * 2) (by omega)
  have l1 := order_l (f7 * 2 + 1) (by omega)
  rw [show f7 * 2 * 2 * 33554432 = f7 * 134217728 by omega] at l0
  rw [show (f7 * 2 + 1) * 2 = f7 * 4 + 2 by omega] at l1
  rw [e]
  cases aq <;> cases rl <;> simp only [Bool.false_eq_true, ↓reduceIte]
  · omega
  · rw [l0]; omega
  · rw [ea]
  · rw [ea, l1]

theorem reg_nat (n : Int) (b : Bool) (h : regOk n b = true) : ∃ k : Nat, n = k ∧ k < 32 ∧ (b = false → k = 0) := by
  cases b
  · simp [regOk] at h
    exact ⟨0, by omega, by omega, fun _ => rfl⟩
  · simp [regOk] at h
    exact ⟨n.toNat, by omega, by omega, fun h => by cases h⟩

set_option maxHeartbeats 4000000 in
theorem word_eq (x : Ins) (h1 : 1 ≤ x.op) (h2 : x.op ≤ 98) (hr : rightBy (partsOf (rowAt x.op).form) x = true) : wordOf x = rword x := by
  have hfo := form_ok x.op h1 h2
  have hbd := row_bd x.op h1 h2
  have hbd2 := row_bd2 x.op h1 h2
  have hev := row_even x.op h1 h2
  unfold wordOf rword
  generalize rowAt x.op = r at *
  obtain ⟨nm, form, c, f3, f7⟩ := r
  obtain ⟨op, rd, rs1, rs2, imm, csr, aq, rl⟩ := x
  dsimp only [RowBd, RowBd2] at *
  obtain ⟨b1, b2, b3, b4, b5, b6⟩ := hbd
  obtain ⟨c, rfl⟩ := Int.eq_ofNat_of_zero_le b1
  obtain ⟨f3, rfl⟩ := Int.eq_ofNat_of_zero_le b3
  obtain ⟨f7, rfl⟩ := Int.eq_ofNat_of_zero_le b5
  have hc : c < 128 := by omega
  have hf3 : f3 < 8 := by omega
  simp only [rightBy, Bool.and_eq_true] at hr
  obtain ⟨⟨⟨⟨⟨g1, g2⟩, g3⟩, g4⟩, g5⟩, g6⟩ := hr
  obtain ⟨rd, rfl, hrd, zrd⟩ := reg_nat _ _ g1
  obtain ⟨rs1, rfl, hrs1, zrs1⟩ := reg_nat _ _ g2
  obtain ⟨rs2, rfl, hrs2, zrs2⟩ := reg_nat _ _ g3
  have A := base32 c rd f3 rs1 rs2 hc hrd hf3 hrs1 hrs2
  have An := base32n c rd rs1 rs2 hc hrd hrs1 hrs2
  rcases hfo with rfl | rfl | rfl | rfl | rfl | rfl | rfl | rfl | rfl | rfl | rfl | rfl | rfl | rfl | rfl | rfl
  all_goals simp only [partsOf, restOf, rwordBy, immR, rnumber, Int.reduceBEq, Bool.false_eq_true, ↓reduceIte, Bool.or_eq_true, Bool.or_self, Bool.or_false, Bool.or_true, Bool.false_or, Bool.true_or, decide_eq_true_eq, Bool.not_eq_true', Bool.and_eq_true] at g4 g5 g6 zrd zrs1 zrs2 ⊢
  all_goals clear g1 g2 g3
  · have p12_12 : place imm 12 20 12 = ((fld imm 12 20 * 4096 : Nat) : Int) := place_fld imm 12 20 12 (by omega) (by omega)
    have q12_12 : rpart imm 12 20 12 = ((fld imm 12 20 * 4096 : Nat) : Int) := rpart_fld imm 12 20 12 (by omega)
    have l12_12 := fld_lt imm 12 20
    simp only [Nat.reducePow] at l12_12
    obtain ⟨rfl, rfl⟩ : aq = false ∧ rl = false := by simpa using g6
    rw [An, p12_12, q12_12, or32_upper _ _ (by simp at zrs1 zrs2; omega) l12_12]
    simp only [Bool.false_eq_true, ↓reduceIte]
    omega
  · have p20_31 : place imm 20 1 31 = ((fld imm 20 1 * 2147483648 : Nat) : Int) := place_fld imm 20 1 31 (by omega) (by omega)
    have q20_31 : rpart imm 20 1 31 = ((fld imm 20 1 * 2147483648 : Nat) : Int) := rpart_fld imm 20 1 31 (by omega)
    have l20_31 := fld_lt imm 20 1
    simp only [Nat.reducePow] at l20_31
    have p1_21 : place imm 1 10 21 = ((fld imm 1 10 * 2097152 : Nat) : Int) := place_fld imm 1 10 21 (by omega) (by omega)
    have q1_21 : rpart imm 1 10 21 = ((fld imm 1 10 * 2097152 : Nat) : Int) := rpart_fld imm 1 10 21 (by omega)
    have l1_21 := fld_lt imm 1 10
    simp only [Nat.reducePow] at l1_21
    have p11_20 : place imm 11 1 20 = ((fld imm 11 1 * 1048576 : Nat) : Int) := place_fld imm 11 1 20 (by omega) (by omega)
    have q11_20 : rpart imm 11 1 20 = ((fld imm 11 1 * 1048576 : Nat) : Int) := rpart_fld imm 11 1 20 (by omega)
    have l11_20 := fld_lt imm 11 1
    simp only [Nat.reducePow] at l11_20
    have p12_12 : place imm 12 8 12 = ((fld imm 12 8 * 4096 : Nat) : Int) := place_fld imm 12 8 12 (by omega) (by omega)
    have q12_12 : rpart imm 12 8 12 = ((fld imm 12 8 * 4096 : Nat) : Int) := rpart_fld imm 12 8 12 (by omega)
    have l12_12 := fld_lt imm 12 8
    simp only [Nat.reducePow] at l12_12
    obtain ⟨rfl, rfl⟩ : aq = false ∧ rl = false := by simpa using g6
    rw [An, p20_31, p1_21, p11_20, p12_12, q20_31, q1_21, q11_20, q12_12, or32_jump _ _ _ _ _ (by simp at zrs1 zrs2; omega) l20_31 l1_21 l11_20 l12_12]
    simp only [Bool.false_eq_true, ↓reduceIte]
    omega
  · have p0_20 : place imm 0 12 20 = ((fld imm 0 12 * 1048576 : Nat) : Int) := place_fld imm 0 12 20 (by omega) (by omega)
    have q0_20 : rpart imm 0 12 20 = ((fld imm 0 12 * 1048576 : Nat) : Int) := rpart_fld imm 0 12 20 (by omega)
    have l0_20 := fld_lt imm 0 12
    simp only [Nat.reducePow] at l0_20
    obtain ⟨rfl, rfl⟩ : aq = false ∧ rl = false := by simpa using g6
    rw [A, p0_20, q0_20, or32_at20 _ _ (by simp at zrs2; omega) l0_20]
    simp only [Bool.false_eq_true, ↓reduceIte]
    omega
  · have p12_31 : place imm 12 1 31 = ((fld imm 12 1 * 2147483648 : Nat) : Int) := place_fld imm 12 1 31 (by omega) (by omega)
    have q12_31 : rpart imm 12 1 31 = ((fld imm 12 1 * 2147483648 : Nat) : Int) := rpart_fld imm 12 1 31 (by omega)
    have l12_31 := fld_lt imm 12 1
    simp only [Nat.reducePow] at l12_31
    have p5_25 : place imm 5 6 25 = ((fld imm 5 6 * 33554432 : Nat) : Int) := place_fld imm 5 6 25 (by omega) (by omega)
    have q5_25 : rpart imm 5 6 25 = ((fld imm 5 6 * 33554432 : Nat) : Int) := rpart_fld imm 5 6 25 (by omega)
    have l5_25 := fld_lt imm 5 6
    simp only [Nat.reducePow] at l5_25
    have p1_8 : place imm 1 4 8 = ((fld imm 1 4 * 256 : Nat) : Int) := place_fld imm 1 4 8 (by omega) (by omega)
    have q1_8 : rpart imm 1 4 8 = ((fld imm 1 4 * 256 : Nat) : Int) := rpart_fld imm 1 4 8 (by omega)
    have l1_8 := fld_lt imm 1 4
    simp only [Nat.reducePow] at l1_8
    have p11_7 : place imm 11 1 7 = ((fld imm 11 1 * 128 : Nat) : Int) := place_fld imm 11 1 7 (by omega) (by omega)
    have q11_7 : rpart imm 11 1 7 = ((fld imm 11 1 * 128 : Nat) : Int) := rpart_fld imm 11 1 7 (by omega)
    have l11_7 := fld_lt imm 11 1
    simp only [Nat.reducePow] at l11_7
    obtain ⟨rfl, rfl⟩ : aq = false ∧ rl = false := by simpa using g6
    obtain rfl : rd = 0 := by simpa using zrd
    simp only [Nat.zero_mul, Nat.add_zero] at A
    rw [A, p12_31, p5_25, p1_8, p11_7, q12_31, q5_25, q1_8, q11_7, or32_branch _ _ _ _ _ _ _ _ hc hf3 hrs1 hrs2 l12_31 l5_25 l1_8 l11_7]
    simp only [Bool.false_eq_true, ↓reduceIte]
    omega
  · have p0_20 : place imm 0 12 20 = ((fld imm 0 12 * 1048576 : Nat) : Int) := place_fld imm 0 12 20 (by omega) (by omega)
    have q0_20 : rpart imm 0 12 20 = ((fld imm 0 12 * 1048576 : Nat) : Int) := rpart_fld imm 0 12 20 (by omega)
    have l0_20 := fld_lt imm 0 12
    simp only [Nat.reducePow] at l0_20
    obtain ⟨rfl, rfl⟩ : aq = false ∧ rl = false := by simpa using g6
    rw [A, p0_20, q0_20, or32_at20 _ _ (by simp at zrs2; omega) l0_20]
    simp only [Bool.false_eq_true, ↓reduceIte]
    omega
  · have p5_25 : place imm 5 7 25 = ((fld imm 5 7 * 33554432 : Nat) : Int) := place_fld imm 5 7 25 (by omega) (by omega)
    have q5_25 : rpart imm 5 7 25 = ((fld imm 5 7 * 33554432 : Nat) : Int) := rpart_fld imm 5 7 25 (by omega)
    have l5_25 := fld_lt imm 5 7
    simp only [Nat.reducePow] at l5_25
    have p0_7 : place imm 0 5 7 = ((fld imm 0 5 * 128 : Nat) : Int) := place_fld imm 0 5 7 (by omega) (by omega)
    have q0_7 : rpart imm 0 5 7 = ((fld imm 0 5 * 128 : Nat) : Int) := rpart_fld imm 0 5 7 (by omega)
    have l0_7 := fld_lt imm 0 5
    simp only [Nat.reducePow] at l0_7
    obtain ⟨rfl, rfl⟩ : aq = false ∧ rl = false := by simpa using g6
    obtain rfl : rd = 0 := by simpa using zrd
    simp only [Nat.zero_mul, Nat.add_zero] at A
    rw [A, p5_25, p0_7, q5_25, q0_7, or32_store _ _ _ _ _ _ hc hf3 hrs1 hrs2 l5_25 l0_7]
    simp only [Bool.false_eq_true, ↓reduceIte]
    omega
  · have p0_20 : place imm 0 6 20 = ((fld imm 0 6 * 1048576 : Nat) : Int) := place_fld imm 0 6 20 (by omega) (by omega)
    have q0_20 : rpart imm 0 6 20 = ((fld imm 0 6 * 1048576 : Nat) : Int) := rpart_fld imm 0 6 20 (by omega)
    have l0_20 := fld_lt imm 0 6
    simp only [Nat.reducePow] at l0_20
    obtain ⟨rfl, rfl⟩ : aq = false ∧ rl = false := by simpa using g6
    have e7 : (f7 : Int) * 33554432 % 4294967296 = ((f7 * 33554432 : Nat) : Int) := by omega
    have hev2 := hev rfl
    rw [A, p0_20, q0_20, e7, or32_shift _ _ _ (by simp at zrs2; omega) l0_20 (by omega) (.inr (by omega))]
    simp only [Bool.false_eq_true, ↓reduceIte]
    omega
  · have p0_20 : place imm 0 6 20 = ((fld imm 0 6 * 1048576 : Nat) : Int) := place_fld imm 0 6 20 (by omega) (by omega)
    have q0_20 : rpart imm 0 6 20 = ((fld imm 0 6 * 1048576 : Nat) : Int) := rpart_fld imm 0 6 20 (by omega)
    have l0_20 := fld_lt imm 0 6
    simp only [Nat.reducePow] at l0_20
    obtain ⟨rfl, rfl⟩ : aq = false ∧ rl = false := by simpa using g6
    have e7 : (f7 : Int) * 33554432 % 4294967296 = ((f7 * 33554432 : Nat) : Int) := by omega
    have hv : fld imm 0 6 < 32 := by unfold fld; simp; omega
    rw [A, p0_20, q0_20, e7, or32_shift _ _ _ (by simp at zrs2; omega) l0_20 (by omega) (.inl hv)]
    simp only [Bool.false_eq_true, ↓reduceIte]
    omega
  · obtain ⟨rfl, rfl⟩ : aq = false ∧ rl = false := by simpa using g6
    have e7 : (f7 : Int) * 33554432 % 4294967296 = ((f7 * 33554432 : Nat) : Int) := by omega
    rw [A, e7, or32_at25 _ _ (by omega) (by omega)]
    simp only [Bool.false_eq_true, ↓reduceIte]
    omega
  · have p0_20 : place imm 0 12 20 = ((fld imm 0 12 * 1048576 : Nat) : Int) := place_fld imm 0 12 20 (by omega) (by omega)
    have q0_20 : rpart imm 0 12 20 = ((fld imm 0 12 * 1048576 : Nat) : Int) := rpart_fld imm 0 12 20 (by omega)
    have l0_20 := fld_lt imm 0 12
    simp only [Nat.reducePow] at l0_20
    obtain ⟨rfl, rfl⟩ : aq = false ∧ rl = false := by simpa using g6
    rw [A, p0_20, q0_20, or32_at20 _ _ (by simp at zrs2; omega) l0_20]
    simp only [Bool.false_eq_true, ↓reduceIte]
    omega
  · obtain ⟨rfl, rfl⟩ : aq = false ∧ rl = false := by simpa using g6
    have e7 : (f7 : Int) * 1048576 % 4294967296 = ((f7 * 1048576 : Nat) : Int) := by omega
    rw [A, e7, or32_at20 _ _ (by simp at zrs2; omega) (by omega)]
    simp only [Bool.false_eq_true, ↓reduceIte]
    omega
  · obtain ⟨rfl, rfl⟩ : aq = false ∧ rl = false := by simpa using g6
    obtain ⟨csr, rfl⟩ := Int.eq_ofNat_of_zero_le g5.1
    have ec : (csr : Int) % 4294967296 * 1048576 % 4294967296 = ((csr * 1048576 : Nat) : Int) := by omega
    rw [A, ec, or32_at20 _ _ (by simp at zrs2; omega) (by omega)]
    simp only [Bool.false_eq_true, ↓reduceIte]
    omega
  · have p0_15 : place imm 0 5 15 = ((fld imm 0 5 * 32768 : Nat) : Int) := place_fld imm 0 5 15 (by omega) (by omega)
    have q0_15 : rpart imm 0 5 15 = ((fld imm 0 5 * 32768 : Nat) : Int) := rpart_fld imm 0 5 15 (by omega)
    have l0_15 := fld_lt imm 0 5
    simp only [Nat.reducePow] at l0_15
    obtain ⟨rfl, rfl⟩ : aq = false ∧ rl = false := by simpa using g6
    obtain ⟨csr, rfl⟩ := Int.eq_ofNat_of_zero_le g5.1
    have ec : (csr : Int) % 4294967296 * 1048576 % 4294967296 = ((csr * 1048576 : Nat) : Int) := by omega
    rw [A, ec, p0_15, q0_15, or32_systemi _ _ _ (by simp at zrs1 zrs2; omega) (by omega) l0_15]
    simp only [Bool.false_eq_true, ↓reduceIte]
    omega
  · rw [order_al f7 aq rl (by omega), A, or32_at25 _ _ (by omega) (by cases aq <;> cases rl <;> simp <;> omega)]
    cases aq <;> cases rl <;> simp only [Bool.false_eq_true, ↓reduceIte] <;> omega
  · rw [order_al f7 aq rl (by omega), A, or32_at25 _ _ (by omega) (by cases aq <;> cases rl <;> simp <;> omega)]
    cases aq <;> cases rl <;> simp only [Bool.false_eq_true, ↓reduceIte] <;> omega
  · obtain ⟨rfl, rfl⟩ : aq = false ∧ rl = false := by simpa using g6
    have e7 : (f7 : Int) * 33554432 % 4294967296 = ((f7 * 33554432 : Nat) : Int) := by omega
    rw [A, e7, or32_at25 _ _ (by omega) (by omega)]
    simp only [Bool.false_eq_true, ↓reduceIte]
    omega

end Go.Proofs.Ythifnlhbioaihaa
