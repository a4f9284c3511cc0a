/- Plain: which words are which operation's, by quotients and remainders; no word is two operations'. -/
import Derived.Test.YthifnlhbioaihaaPureE
import Derived.Test.YthifnlhbioaihaaPureC
import Derived.Test.YthifnlhbioaihaaDec
namespace Go.Proofs.Ythifnlhbioaihaa
open Go.RowKit
set_option linter.unusedVariables false
set_option linter.unusedSimpArgs false

theorem and_split (w m k : Nat) : w &&& m = ((w % 2 ^ k) &&& (m % 2 ^ k)) + ((w / 2 ^ k) &&& (m / 2 ^ k)) * 2 ^ k := by
  rw [← Nat.and_mod_two_pow, ← Nat.and_div_two_pow, Nat.add_comm]
  exact (Nat.div_add_mod' _ _).symm

theorem and7 (w : Nat) : w &&& 127 = w % 128 := Nat.and_two_pow_sub_one_eq_mod w 7
theorem and3 (w : Nat) : w &&& 7 = w % 8 := Nat.and_two_pow_sub_one_eq_mod w 3
theorem and5 (w : Nat) : w &&& 31 = w % 32 := Nat.and_two_pow_sub_one_eq_mod w 5
theorem and6 (w : Nat) : w &&& 63 = w % 64 := Nat.and_two_pow_sub_one_eq_mod w 6
theorem and15 (w : Nat) : w &&& 32767 = w % 32768 := Nat.and_two_pow_sub_one_eq_mod w 15
theorem and32 (w : Nat) : w &&& 4294967295 = w % 4294967296 := Nat.and_two_pow_sub_one_eq_mod w 32

theorem and_28799 (w : Nat) : w &&& 28799 = w % 128 + w / 4096 % 8 * 4096 := by
  have h := and_split w 28799 7
  have h2 := and_split (w / 128) 224 5
  simp only [Nat.reducePow, Nat.reduceMod, Nat.reduceDiv, and7, and3, Nat.and_zero] at h h2
  rw [h, h2]
  omega

theorem and_m7 (w : Nat) (hw : w < 4294967296) : w &&& 4227887231 = w % 128 + w / 4096 % 8 * 4096 + w / 67108864 * 67108864 := by
  have h := and_split w 4227887231 26
  simp only [Nat.reducePow, Nat.reduceMod, Nat.reduceDiv, and6, and_28799] at h
  rw [h]
  omega
theorem and_m9 (w : Nat) (hw : w < 4294967296) : w &&& 4261441663 = w % 128 + w / 4096 % 8 * 4096 + w / 33554432 * 33554432 := by
  have h := and_split w 4261441663 25
  simp only [Nat.reducePow, Nat.reduceMod, Nat.reduceDiv, and7, and_28799] at h
  rw [h]
  omega
theorem and_m15 (w : Nat) (hw : w < 4294967296) : w &&& 4160778367 = w % 128 + w / 4096 % 8 * 4096 + w / 134217728 * 134217728 := by
  have h := and_split w 4160778367 27
  simp only [Nat.reducePow, Nat.reduceMod, Nat.reduceDiv, and5, and_28799] at h
  rw [h]
  omega
theorem and_m14 (w : Nat) (hw : w < 4294967296) : w &&& 4193284223 = w % 128 + w / 4096 % 8 * 4096 + w / 1048576 % 32 * 1048576 + w / 134217728 * 134217728 := by
  have h := and_split w 4193284223 27
  have h2 := and_split (w % 134217728) 32534655 20
  simp only [Nat.reducePow, Nat.reduceMod, Nat.reduceDiv, and5, and_28799] at h h2
  rw [h, h2]
  omega
theorem and_m16 (w : Nat) (hw : w < 4294967296) : w &&& 4261445631 = w % 32768 + w / 33554432 * 33554432 := by
  have h := and_split w 4261445631 25
  simp only [Nat.reducePow, Nat.reduceMod, Nat.reduceDiv, and7, and15] at h
  rw [h]
  omega

/-- Is a word an operation's? -/
def HitP (r : Row) (w : Int) : Prop :=
  w % 128 = r.code ∧ (r.form ≠ 1 ∧ r.form ≠ 2 → w / 4096 % 8 = r.f3) ∧ (r.form = 7 → w / 67108864 * 2 = r.f7) ∧ (r.form = 8 ∨ r.form = 9 ∨ r.form = 16 → w / 33554432 = r.f7)
    ∧ (r.form = 16 → w / 128 % 32 = 0) ∧ (r.form = 14 → w / 1048576 % 32 = 0) ∧ (r.form = 14 ∨ r.form = 15 → w / 134217728 = r.f7) ∧ (r.form = 11 → w / 1048576 = r.f7 ∧ w / 32768 % 32 = 0 ∧ w / 128 % 32 = 0)

theorem or32_f3 (c f3 : Nat) (h0 : c < 128) (h1 : f3 < 8) : or32 (c : Int) ((f3 : Int) * 4096 % 4294967296) = ((c + f3 * 4096 : Nat) : Int) := by
  rw [show ((f3 : Int) * 4096 % 4294967296) = ((f3 * 4096 : Nat) : Int) by omega, or32_nat _ _ (by omega) (by omega), or_add12 _ _ (by omega)]

theorem fixed_25 (B f7 : Nat) (h0 : B < 33554432) (h1 : f7 < 128) : or32 (B : Int) ((f7 : Int) * 33554432 % 4294967296) = ((B + f7 * 33554432 : Nat) : Int) := by
  rw [show ((f7 : Int) * 33554432 % 4294967296) = ((f7 * 33554432 : Nat) : Int) by omega, or32_at25 _ _ h0 h1]
theorem fixed_20 (B f7 : Nat) (h0 : B < 1048576) (h1 : f7 < 4096) : or32 (B : Int) ((f7 : Int) * 1048576 % 4294967296) = ((B + f7 * 1048576 : Nat) : Int) := by
  rw [show ((f7 : Int) * 1048576 % 4294967296) = ((f7 * 1048576 : Nat) : Int) by omega, or32_at20 _ _ h0 h1]
theorem fixed_27 (B f7 : Nat) (h0 : B < 134217728) (h1 : f7 < 32) : or32 (B : Int) ((f7 : Int) * 134217728 % 4294967296) = ((B + f7 * 134217728 : Nat) : Int) := by
  rw [show ((f7 : Int) * 134217728 % 4294967296) = ((f7 * 134217728 : Nat) : Int) by omega, or32_nat _ _ (by omega) (by omega), or_add27 _ _ h0]

theorem and32_nat (a b : Nat) (ha : a < 4294967296) (hb : b < 4294967296) : bits .and .u32 (a : Int) (b : Int) = ((a &&& b : Nat) : Int) := u32_and_nat a b ha hb

set_option maxHeartbeats 4000000 in
theorem hit_iff (op : Int) (h1 : 1 ≤ op) (h2 : op ≤ 98) (w : Nat) (hw : w < 4294967296) : hit w (rowAt op) = true ↔ HitP (rowAt op) w := by
  have hfo := form_ok op h1 h2
  have hbd := row_bd op h1 h2
  have hbd2 := row_bd2 op h1 h2
  have hev := row_even op h1 h2
  generalize rowAt op = r at *
  obtain ⟨nm, form, c, f3, f7⟩ := r
  dsimp only [RowBd, RowBd2] at *
  obtain ⟨b1, b2, b3, b4, b5, b6⟩ := hbd
  obtain ⟨c, rfl⟩ := Int.eq_ofNat_of_zero_le b1
  obtain ⟨f3, rfl⟩ := Int.eq_ofNat_of_zero_le b3
  obtain ⟨f7, rfl⟩ := Int.eq_ofNat_of_zero_le b5
  have hc : c < 128 := by omega
  have hf3 : f3 < 8 := by omega
  have A := or32_f3 c f3 hc hf3
  rcases hfo with rfl | rfl | rfl | rfl | rfl | rfl | rfl | rfl | rfl | rfl | rfl | rfl | rfl | rfl | rfl | rfl
  all_goals simp only [hit, HitP, fixedOf, maskOf, Int.reduceBEq, Int.reduceEq, Int.reduceNe, Bool.false_eq_true, ↓reduceIte, Bool.or_self, Bool.or_false, Bool.or_true, Bool.false_or, Bool.true_or, beq_iff_eq, ne_eq, not_true_eq_false, not_false_eq_true, and_self, and_true, true_and, false_and, and_false, or_false, false_or, or_self, or_true, true_or, forall_const, false_implies, true_implies, implies_true, A]
  all_goals clear A
  · rw [show (127 : Int) = ((127 : Nat) : Int) from rfl, and32_nat _ _ hw (by omega), and7]; omega
  · rw [show (127 : Int) = ((127 : Nat) : Int) from rfl, and32_nat _ _ hw (by omega), and7]; omega
  · rw [show (28799 : Int) = ((28799 : Nat) : Int) from rfl, and32_nat _ _ hw (by omega), and_28799]; omega
  · rw [show (28799 : Int) = ((28799 : Nat) : Int) from rfl, and32_nat _ _ hw (by omega), and_28799]; omega
  · rw [show (28799 : Int) = ((28799 : Nat) : Int) from rfl, and32_nat _ _ hw (by omega), and_28799]; omega
  · rw [show (28799 : Int) = ((28799 : Nat) : Int) from rfl, and32_nat _ _ hw (by omega), and_28799]; omega
  · rw [show (4227887231 : Int) = ((4227887231 : Nat) : Int) from rfl, and32_nat _ _ hw (by omega), and_m7 _ hw, fixed_25 _ _ (by omega) (by omega)]; have := hev rfl; omega
  · rw [show (4261441663 : Int) = ((4261441663 : Nat) : Int) from rfl, and32_nat _ _ hw (by omega), and_m9 _ hw, fixed_25 _ _ (by omega) (by omega)]; omega
  · rw [show (4261441663 : Int) = ((4261441663 : Nat) : Int) from rfl, and32_nat _ _ hw (by omega), and_m9 _ hw, fixed_25 _ _ (by omega) (by omega)]; omega
  · rw [show (28799 : Int) = ((28799 : Nat) : Int) from rfl, and32_nat _ _ hw (by omega), and_28799]; omega
  · rw [show (4294967295 : Int) = ((4294967295 : Nat) : Int) from rfl, and32_nat _ _ hw (by omega), and32, fixed_20 _ _ (by omega) (by omega)]; omega
  · rw [show (28799 : Int) = ((28799 : Nat) : Int) from rfl, and32_nat _ _ hw (by omega), and_28799]; omega
  · rw [show (28799 : Int) = ((28799 : Nat) : Int) from rfl, and32_nat _ _ hw (by omega), and_28799]; omega
  · rw [show (4193284223 : Int) = ((4193284223 : Nat) : Int) from rfl, and32_nat _ _ hw (by omega), and_m14 _ hw, fixed_27 _ _ (by omega) (by omega)]; omega
  · rw [show (4160778367 : Int) = ((4160778367 : Nat) : Int) from rfl, and32_nat _ _ hw (by omega), and_m15 _ hw, fixed_27 _ _ (by omega) (by omega)]; omega
  · rw [show (4261445631 : Int) = ((4261445631 : Nat) : Int) from rfl, and32_nat _ _ hw (by omega), and_m16 _ hw, fixed_25 _ _ (by omega) (by omega)]; omega

/-- The masks and the fixed bits of all operations. -/
def masks : List (Nat × Nat) := rows.map fun r => ((maskOf r.form).toNat, (fixedOf r).toNat)

def apart : List (Nat × Nat) → Bool
  | [] => true
  | a :: l => l.all (fun b => (a.2 &&& b.1) != (b.2 &&& a.1)) && apart l

theorem apart_masks : apart masks = true := by decide +kernel

theorem apart_at : ∀ (l : List (Nat × Nat)), apart l = true → ∀ (i j : Nat) (hi : i < l.length) (hj : j < l.length), i < j → (l[i].2 &&& l[j].1) ≠ (l[j].2 &&& l[i].1) := by
  intro l
  induction l with
  | nil => intro _ i j hi; simp at hi
  | cons a l ih =>
    intro h i j hi hj hij
    simp only [apart, Bool.and_eq_true, List.all_eq_true, bne_iff_ne] at h
    obtain ⟨j, rfl⟩ : ∃ m, j = m + 1 := ⟨j - 1, by omega⟩
    cases i with
    | zero => exact h.1 _ (List.getElem_mem _)
    | succ i => exact ih h.2 i j (by simpa using hi) (by simpa using hj) (by omega)

theorem masks_at (op : Nat) (h1 : 1 ≤ op) (h2 : op ≤ 98) : ∃ h : op - 1 < masks.length, (masks[op - 1].1 : Int) = maskOf (rowAt op).form ∧ (masks[op - 1].2 : Int) = fixedOf (rowAt op) := by
  have hl : masks.length = 98 := by decide +kernel
  have key : ∀ i : Fin 98, 0 ≤ maskOf (allRows.getD (i.val + 1) row0).form ∧ 0 ≤ fixedOf (allRows.getD (i.val + 1) row0) := by decide +kernel
  have k := key ⟨op - 1, by omega⟩
  have e : op - 1 + 1 = op := by omega
  simp only [e] at k
  refine ⟨by omega, ?_⟩
  have hrl : rows.length = 98 := by decide +kernel
  have hm : op - 1 < rows.length := by omega
  have hr : rowAt (op : Int) = rows[op - 1] := by
    obtain ⟨m, rfl⟩ : ∃ m, op = m + 1 := ⟨op - 1, by omega⟩
    have hm' : m < rows.length := by omega
    unfold rowAt
    rw [Int.toNat_natCast]
    simp [allRows, List.getD_eq_getElem?_getD, hm']
  have k2 : allRows.getD op row0 = rowAt (op : Int) := by unfold rowAt; rw [Int.toNat_natCast]
  rw [k2, hr] at k
  simp only [hr, masks, List.getElem_map]
  omega

/-- No word is two operations'. -/
theorem hit_lt (w : Nat) (hw : w < 4294967296) (i j : Nat) (i1 : 1 ≤ i) (i2 : i < j) (j2 : j ≤ 98) (hi : hit w (rowAt i) = true) (hj : hit w (rowAt j) = true) : False := by
  obtain ⟨li, mi, fi⟩ := masks_at i i1 (by omega)
  obtain ⟨lj, mj, fj⟩ := masks_at j (by omega) j2
  have h := apart_at masks apart_masks (i - 1) (j - 1) li lj (by omega)
  have hb : ∀ k : Nat, 1 ≤ k → k ≤ 98 → maskOf (rowAt k).form ≤ 4294967295 := by
    intro k k1 k2
    have key : ∀ i : Fin 98, maskOf (allRows.getD (i.val + 1) row0).form ≤ 4294967295 := by decide +kernel
    have h := key ⟨k - 1, by omega⟩
    have e : k - 1 + 1 = k := by omega
    simp only [e] at h
    unfold rowAt
    rw [Int.toNat_natCast]
    exact h
  have bi := hb i i1 (by omega)
  have bj := hb j (by omega) j2
  unfold hit at hi hj
  rw [beq_iff_eq] at hi hj
  rw [← mi] at hi bi
  rw [← mj] at hj bj
  rw [← fi, and32_nat _ _ hw (by omega)] at hi
  rw [← fj, and32_nat _ _ hw (by omega)] at hj
  have hi' : w &&& masks[i - 1].1 = masks[i - 1].2 := by omega
  have hj' : w &&& masks[j - 1].1 = masks[j - 1].2 := by omega
  apply h
  rw [← hi', ← hj']
  ac_rfl

theorem hit_one (w : Nat) (hw : w < 4294967296) (i j : Nat) (i1 : 1 ≤ i) (i2 : i ≤ 98) (j1 : 1 ≤ j) (j2 : j ≤ 98) (hi : hit w (rowAt i) = true) (hj : hit w (rowAt j) = true) : i = j := by
  rcases Nat.lt_trichotomy i j with h | h | h
  · exact (hit_lt w hw i j i1 h j2 hi hj).elim
  · exact h
  · exact (hit_lt w hw j i j1 h i2 hj hi).elim

end Go.Proofs.Ythifnlhbioaihaa
