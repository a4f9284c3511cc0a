/- Plain: a word that is an operation's, read and written again. (Parts of PureE, PureF, PureH, PureI, EqIns.) -/
import Derived.Test.YteidojpklpfdeaaDoorMC
import Derived.Test.YteidojpklpfdeaaDoorMB
import Derived.Laws.StructEq
namespace Go.Proofs.YteidojpklpfdeaaDoor
open Go.RowKit
attribute [local go_sem] setCell_drewN alloc_drewN
set_option linter.unusedVariables false
set_option linter.unusedSimpArgs false

theorem g_7_5 (w : Int) : get w 7 5 = w / 128 % 32 := by have := get_lit w 7 5 (by omega); simpa using this
theorem g_15_5 (w : Int) : get w 15 5 = w / 32768 % 32 := by have := get_lit w 15 5 (by omega); simpa using this
theorem g_20_5 (w : Int) : get w 20 5 = w / 1048576 % 32 := by have := get_lit w 20 5 (by omega); simpa using this
theorem g_20_6 (w : Int) : get w 20 6 = w / 1048576 % 64 := by have := get_lit w 20 6 (by omega); simpa using this
theorem g_20_12 (w : Int) : get w 20 12 = w / 1048576 % 4096 := by have := get_lit w 20 12 (by omega); simpa using this
theorem g_12_20 (w : Int) : get w 12 20 = w / 4096 % 1048576 := by have := get_lit w 12 20 (by omega); simpa using this
theorem g_31_1 (w : Int) : get w 31 1 = w / 2147483648 % 2 := by have := get_lit w 31 1 (by omega); simpa using this
theorem g_21_10 (w : Int) : get w 21 10 = w / 2097152 % 1024 := by have := get_lit w 21 10 (by omega); simpa using this
theorem g_20_1 (w : Int) : get w 20 1 = w / 1048576 % 2 := by have := get_lit w 20 1 (by omega); simpa using this
theorem g_12_8 (w : Int) : get w 12 8 = w / 4096 % 256 := by have := get_lit w 12 8 (by omega); simpa using this
theorem g_25_6 (w : Int) : get w 25 6 = w / 33554432 % 64 := by have := get_lit w 25 6 (by omega); simpa using this
theorem g_8_4 (w : Int) : get w 8 4 = w / 256 % 16 := by have := get_lit w 8 4 (by omega); simpa using this
theorem g_7_1 (w : Int) : get w 7 1 = w / 128 % 2 := by have := get_lit w 7 1 (by omega); simpa using this
theorem g_25_7 (w : Int) : get w 25 7 = w / 33554432 % 128 := by have := get_lit w 25 7 (by omega); simpa using this
theorem g_26_1 (w : Int) : get w 26 1 = w / 67108864 % 2 := by have := get_lit w 26 1 (by omega); simpa using this
theorem g_25_1 (w : Int) : get w 25 1 = w / 33554432 % 2 := by have := get_lit w 25 1 (by omega); simpa using this

/-- A number of twice h, as a signed one. -/
def sgn (h v : Int) : Int := if v < h then v else v - 2 * h

theorem or64_nat (a b : Nat) (ha : a < 18446744073709551616) (hb : b < 18446744073709551616) : or64 (a : Int) (b : Int) = ((a ||| b : Nat) : Int) := u64_or_nat a b ha hb

theorem sext32 (v : Nat) (h : v < 4294967296) : wrap64 (sext (v : Int) 32) = sgn 2147483648 v := by
  have e : sext (v : Int) 32 = if (v : Int) % 4294967296 / 2147483648 % 2 = 1 then or64 ((v : Int) % 4294967296) 18446744069414584320 else (v : Int) % 4294967296 := by
    have g := get_lit ((v : Int) % 4294967296) 31 1 (by omega)
    unfold sext
    rw [if_neg (by decide), if_neg (by decide)]
    simp at g ⊢
    rw [g]
    rfl
  have e2 : ((18446744069414584320 : Int)) = ((4294967295 * 4294967296 : Nat) : Int) := by decide
  have em : (v : Int) % 4294967296 = (v : Int) := by omega
  rw [e, em, e2, or64_nat _ _ (by omega) (by omega), or_add v 4294967295 32 (by omega)]
  unfold sgn wrap64
  split <;> split <;> omega

theorem sext21 (v : Nat) (h : v < 2097152) : wrap64 (sext (v : Int) 21) = sgn 1048576 v := by
  have e : sext (v : Int) 21 = if (v : Int) % 2097152 / 1048576 % 2 = 1 then or64 ((v : Int) % 2097152) 18446744073707454464 else (v : Int) % 2097152 := by
    have g := get_lit ((v : Int) % 2097152) 20 1 (by omega)
    unfold sext
    rw [if_neg (by decide), if_neg (by decide)]
    simp at g ⊢
    rw [g]
    rfl
  have e2 : ((18446744073707454464 : Int)) = ((8796093022207 * 2097152 : Nat) : Int) := by decide
  have em : (v : Int) % 2097152 = (v : Int) := by omega
  rw [e, em, e2, or64_nat _ _ (by omega) (by omega), or_add v 8796093022207 21 (by omega)]
  unfold sgn wrap64
  split <;> split <;> omega

theorem sext13 (v : Nat) (h : v < 8192) : wrap64 (sext (v : Int) 13) = sgn 4096 v := by
  have e : sext (v : Int) 13 = if (v : Int) % 8192 / 4096 % 2 = 1 then or64 ((v : Int) % 8192) 18446744073709543424 else (v : Int) % 8192 := by
    have g := get_lit ((v : Int) % 8192) 12 1 (by omega)
    unfold sext
    rw [if_neg (by decide), if_neg (by decide)]
    simp at g ⊢
    rw [g]
    rfl
  have e2 : ((18446744073709543424 : Int)) = ((2251799813685247 * 8192 : Nat) : Int) := by decide
  have em : (v : Int) % 8192 = (v : Int) := by omega
  rw [e, em, e2, or64_nat _ _ (by omega) (by omega), or_add v 2251799813685247 13 (by omega)]
  unfold sgn wrap64
  split <;> split <;> omega

theorem sext12 (v : Nat) (h : v < 4096) : wrap64 (sext (v : Int) 12) = sgn 2048 v := by
  have e : sext (v : Int) 12 = if (v : Int) % 4096 / 2048 % 2 = 1 then or64 ((v : Int) % 4096) 18446744073709547520 else (v : Int) % 4096 := by
    have g := get_lit ((v : Int) % 4096) 11 1 (by omega)
    unfold sext
    rw [if_neg (by decide), if_neg (by decide)]
    simp at g ⊢
    rw [g]
    rfl
  have e2 : ((18446744073709547520 : Int)) = ((4503599627370495 * 4096 : Nat) : Int) := by decide
  have em : (v : Int) % 4096 = (v : Int) := by omega
  rw [e, em, e2, or64_nat _ _ (by omega) (by omega), or_add v 4503599627370495 12 (by omega)]
  unfold sgn wrap64
  split <;> split <;> omega

/-- A word's number, by its form, as a sum. -/
def numOf (f w : Int) : Int :=
  if f = 1 then sgn 2147483648 (w / 4096 % 1048576 * 4096)
  else if f = 2 then sgn 1048576 (w / 2147483648 % 2 * 1048576 + w / 2097152 % 1024 * 2 + w / 1048576 % 2 * 2048 + w / 4096 % 256 * 4096)
  else if f = 4 then sgn 4096 (w / 2147483648 % 2 * 4096 + w / 33554432 % 64 * 32 + w / 256 % 16 * 2 + w / 128 % 2 * 2048)
  else if f = 6 then sgn 2048 (w / 33554432 % 128 * 32 + w / 128 % 32)
  else if f = 7 then w / 1048576 % 64
  else if f = 8 then w / 1048576 % 32
  else if f = 10 then w / 1048576 % 4096
  else if f = 13 then w / 32768 % 32
  else sgn 2048 (w / 1048576 % 4096)

theorem or_jump (a b c d : Nat) (ha : a < 2) (hb : b < 1024) (hc : c < 2) (hd : d < 256) :
    or64 (or64 (or64 ((a * 1048576 : Nat) : Int) ((b * 2 : Nat) : Int)) ((c * 2048 : Nat) : Int)) ((d * 4096 : Nat) : Int) = ((a * 1048576 + b * 2 + c * 2048 + d * 4096 : Nat) : Int) := by
  have hl : ∀ x y : Nat, x < 4294967296 → y < 4294967296 → x ||| y < 4294967296 := lor_lt
  have l1 := hl (a * 1048576) (b * 2) (by omega) (by omega)
  have l2 := hl _ (c * 2048) l1 (by omega)
  rw [or64_nat _ _ (by omega) (by omega), or64_nat _ _ (by omega) (by omega), or64_nat _ _ (by omega) (by omega)]
  have e : a * 1048576 ||| b * 2 ||| c * 2048 ||| d * 4096 = ((b * 2 ||| c * 2048) ||| d * 4096) ||| a * 1048576 := by ac_rfl
  rw [e, or_add (b * 2) c 11 (by omega), or_add _ d 12 (by omega), or_add _ a 20 (by omega)]
  omega

theorem or_branch (a b c d : Nat) (ha : a < 2) (hb : b < 64) (hc : c < 16) (hd : d < 2) :
    or64 (or64 (or64 ((a * 4096 : Nat) : Int) ((b * 32 : Nat) : Int)) ((c * 2 : Nat) : Int)) ((d * 2048 : Nat) : Int) = ((a * 4096 + b * 32 + c * 2 + d * 2048 : Nat) : Int) := by
  have hl : ∀ x y : Nat, x < 4294967296 → y < 4294967296 → x ||| y < 4294967296 := lor_lt
  have l1 := hl (a * 4096) (b * 32) (by omega) (by omega)
  have l2 := hl _ (c * 2) l1 (by omega)
  rw [or64_nat _ _ (by omega) (by omega), or64_nat _ _ (by omega) (by omega), or64_nat _ _ (by omega) (by omega)]
  have e : a * 4096 ||| b * 32 ||| c * 2 ||| d * 2048 = ((c * 2 ||| b * 32) ||| d * 2048) ||| a * 4096 := by ac_rfl
  rw [e, or_add (c * 2) b 5 (by omega), or_add _ d 11 (by omega), or_add _ a 12 (by omega)]
  omega

theorem or_store (a b : Nat) (ha : a < 128) (hb : b < 32) : or64 ((a * 32 : Nat) : Int) (b : Int) = ((a * 32 + b : Nat) : Int) := by
  rw [or64_nat _ _ (by omega) (by omega)]
  have e : a * 32 ||| b = b ||| a * 32 := by ac_rfl
  rw [e, or_add b a 5 (by omega)]
  omega

set_option maxHeartbeats 1000000 in
theorem immOf_num (f : Int) (w : Nat) : immOf f w = numOf f w := by
  unfold immOf numOf
  simp only [g_7_5, g_15_5, g_20_5, g_20_6, g_20_12, g_12_20, g_31_1, g_21_10, g_20_1, g_12_8, g_25_6, g_8_4, g_7_1, g_25_7, beq_iff_eq]
  split
  · have h := sext32 (w / 4096 % 1048576 * 4096) (by omega)
    rw [show ((w : Int) / 4096 % 1048576 * 4096 % 18446744073709551616) = ((w / 4096 % 1048576 * 4096 : Nat) : Int) by omega, h]
    congr 1
  split
  · have h := sext21 (w / 2147483648 % 2 * 1048576 + w / 2097152 % 1024 * 2 + w / 1048576 % 2 * 2048 + w / 4096 % 256 * 4096) (by omega)
    rw [show ((w : Int) / 2147483648 % 2 * 1048576 % 18446744073709551616) = ((w / 2147483648 % 2 * 1048576 : Nat) : Int) by omega,
      show ((w : Int) / 2097152 % 1024 * 2 % 18446744073709551616) = ((w / 2097152 % 1024 * 2 : Nat) : Int) by omega,
      show ((w : Int) / 1048576 % 2 * 2048 % 18446744073709551616) = ((w / 1048576 % 2 * 2048 : Nat) : Int) by omega,
      show ((w : Int) / 4096 % 256 * 4096 % 18446744073709551616) = ((w / 4096 % 256 * 4096 : Nat) : Int) by omega,
      or_jump _ _ _ _ (by omega) (by omega) (by omega) (by omega), h]
    congr 1
  split
  · have h := sext13 (w / 2147483648 % 2 * 4096 + w / 33554432 % 64 * 32 + w / 256 % 16 * 2 + w / 128 % 2 * 2048) (by omega)
    rw [show ((w : Int) / 2147483648 % 2 * 4096 % 18446744073709551616) = ((w / 2147483648 % 2 * 4096 : Nat) : Int) by omega,
      show ((w : Int) / 33554432 % 64 * 32 % 18446744073709551616) = ((w / 33554432 % 64 * 32 : Nat) : Int) by omega,
      show ((w : Int) / 256 % 16 * 2 % 18446744073709551616) = ((w / 256 % 16 * 2 : Nat) : Int) by omega,
      show ((w : Int) / 128 % 2 * 2048 % 18446744073709551616) = ((w / 128 % 2 * 2048 : Nat) : Int) by omega,
      or_branch _ _ _ _ (by omega) (by omega) (by omega) (by omega), h]
    congr 1
  split
  · have h := sext12 (w / 33554432 % 128 * 32 + w / 128 % 32) (by omega)
    rw [show ((w : Int) / 33554432 % 128 * 32 % 18446744073709551616) = ((w / 33554432 % 128 * 32 : Nat) : Int) by omega,
      show ((w : Int) / 128 % 32) = ((w / 128 % 32 : Nat) : Int) by omega,
      or_store _ _ (by omega) (by omega), h]
    congr 1
  split
  · unfold wrap64; omega
  split
  · unfold wrap64; omega
  split
  · unfold wrap64; omega
  split
  · unfold wrap64; omega
  · have h := sext12 (w / 1048576 % 4096) (by omega)
    rw [show ((w : Int) / 1048576 % 4096) = ((w / 1048576 % 4096 : Nat) : Int) by omega, h]

end Go.Proofs.YteidojpklpfdeaaDoor

namespace Go.Proofs.YteidojpklpfdeaaDoor
open Go.RowKit
set_option linter.unusedVariables false
set_option linter.unusedSimpArgs false

theorem and_split (w m k : Nat) : w &&& m = ((w % 2 ^ k) &&& (m % 2 ^ k)) + ((w / 2 ^ k) &&& (m / 2 ^ k)) * 2 ^ k := by
  rw [← Nat.and_mod_two_pow, ← Nat.and_div_two_pow, Nat.add_comm]
  exact (Nat.div_add_mod' _ _).symm

theorem and7 (w : Nat) : w &&& 127 = w % 128 := Nat.and_two_pow_sub_one_eq_mod w 7
theorem and3 (w : Nat) : w &&& 7 = w % 8 := Nat.and_two_pow_sub_one_eq_mod w 3
theorem and5 (w : Nat) : w &&& 31 = w % 32 := Nat.and_two_pow_sub_one_eq_mod w 5
theorem and6 (w : Nat) : w &&& 63 = w % 64 := Nat.and_two_pow_sub_one_eq_mod w 6
theorem and15 (w : Nat) : w &&& 32767 = w % 32768 := Nat.and_two_pow_sub_one_eq_mod w 15
theorem and32 (w : Nat) : w &&& 4294967295 = w % 4294967296 := Nat.and_two_pow_sub_one_eq_mod w 32

theorem and_28799 (w : Nat) : w &&& 28799 = w % 128 + w / 4096 % 8 * 4096 := by
  have h := and_split w 28799 7
  have h2 := and_split (w / 128) 224 5
  simp only [Nat.reducePow, Nat.reduceMod, Nat.reduceDiv, and7, and3, Nat.and_zero] at h h2
  rw [h, h2]
  omega

theorem and_m7 (w : Nat) (hw : w < 4294967296) : w &&& 4227887231 = w % 128 + w / 4096 % 8 * 4096 + w / 67108864 * 67108864 := by
  have h := and_split w 4227887231 26
  simp only [Nat.reducePow, Nat.reduceMod, Nat.reduceDiv, and6, and_28799] at h
  rw [h]
  omega
theorem and_m9 (w : Nat) (hw : w < 4294967296) : w &&& 4261441663 = w % 128 + w / 4096 % 8 * 4096 + w / 33554432 * 33554432 := by
  have h := and_split w 4261441663 25
  simp only [Nat.reducePow, Nat.reduceMod, Nat.reduceDiv, and7, and_28799] at h
  rw [h]
  omega
theorem and_m15 (w : Nat) (hw : w < 4294967296) : w &&& 4160778367 = w % 128 + w / 4096 % 8 * 4096 + w / 134217728 * 134217728 := by
  have h := and_split w 4160778367 27
  simp only [Nat.reducePow, Nat.reduceMod, Nat.reduceDiv, and5, and_28799] at h
  rw [h]
  omega
theorem and_m14 (w : Nat) (hw : w < 4294967296) : w &&& 4193284223 = w % 128 + w / 4096 % 8 * 4096 + w / 1048576 % 32 * 1048576 + w / 134217728 * 134217728 := by
  have h := and_split w 4193284223 27
  have h2 := and_split (w % 134217728) 32534655 20
  simp only [Nat.reducePow, Nat.reduceMod, Nat.reduceDiv, and5, and_28799] at h h2
  rw [h, h2]
  omega
theorem and_m16 (w : Nat) (hw : w < 4294967296) : w &&& 4261445631 = w % 32768 + w / 33554432 * 33554432 := by
  have h := and_split w 4261445631 25
  simp only [Nat.reducePow, Nat.reduceMod, Nat.reduceDiv, and7, and15] at h
  rw [h]
  omega

/-- Is a word an operation's? -/
def HitP (r : Row) (w : Int) : Prop :=
  w % 128 = r.code ∧ (r.form ≠ 1 ∧ r.form ≠ 2 → w / 4096 % 8 = r.f3) ∧ (r.form = 7 → w / 67108864 * 2 = r.f7) ∧ (r.form = 8 ∨ r.form = 9 ∨ r.form = 16 → w / 33554432 = r.f7)
    ∧ (r.form = 16 → w / 128 % 32 = 0) ∧ (r.form = 14 → w / 1048576 % 32 = 0) ∧ (r.form = 14 ∨ r.form = 15 → w / 134217728 = r.f7) ∧ (r.form = 11 → w / 1048576 = r.f7 ∧ w / 32768 % 32 = 0 ∧ w / 128 % 32 = 0)

theorem or32_f3 (c f3 : Nat) (h0 : c < 128) (h1 : f3 < 8) : or32 (c : Int) ((f3 : Int) * 4096 % 4294967296) = ((c + f3 * 4096 : Nat) : Int) := by
  rw [show ((f3 : Int) * 4096 % 4294967296) = ((f3 * 4096 : Nat) : Int) by omega, or32_nat _ _ (by omega) (by omega), or_add12 _ _ (by omega)]

theorem fixed_25 (B f7 : Nat) (h0 : B < 33554432) (h1 : f7 < 128) : or32 (B : Int) ((f7 : Int) * 33554432 % 4294967296) = ((B + f7 * 33554432 : Nat) : Int) := by
  rw [show ((f7 : Int) * 33554432 % 4294967296) = ((f7 * 33554432 : Nat) : Int) by omega, or32_at25 _ _ h0 h1]
theorem fixed_20 (B f7 : Nat) (h0 : B < 1048576) (h1 : f7 < 4096) : or32 (B : Int) ((f7 : Int) * 1048576 % 4294967296) = ((B + f7 * 1048576 : Nat) : Int) := by
  rw [show ((f7 : Int) * 1048576 % 4294967296) = ((f7 * 1048576 : Nat) : Int) by omega, or32_at20 _ _ h0 h1]
theorem fixed_27 (B f7 : Nat) (h0 : B < 134217728) (h1 : f7 < 32) : or32 (B : Int) ((f7 : Int) * 134217728 % 4294967296) = ((B + f7 * 134217728 : Nat) : Int) := by
  rw [show ((f7 : Int) * 134217728 % 4294967296) = ((f7 * 134217728 : Nat) : Int) by omega, or32_nat _ _ (by omega) (by omega), or_add27 _ _ h0]

theorem and32_nat (a b : Nat) (ha : a < 4294967296) (hb : b < 4294967296) : bits .and .u32 (a : Int) (b : Int) = ((a &&& b : Nat) : Int) := u32_and_nat a b ha hb

set_option maxHeartbeats 4000000 in
theorem hit_iff (op : Int) (h1 : 1 ≤ op) (h2 : op ≤ 98) (w : Nat) (hw : w < 4294967296) : hit w (rowAt op) = true ↔ HitP (rowAt op) w := by
  have hfo := form_ok op h1 h2
  have hbd := row_bd op h1 h2
  have hbd2 := row_bd2 op h1 h2
  have hev := row_even op h1 h2
  generalize rowAt op = r at *
  obtain ⟨nm, form, c, f3, f7⟩ := r
  dsimp only [RowBd, RowBd2] at *
  obtain ⟨b1, b2, b3, b4, b5, b6⟩ := hbd
  obtain ⟨c, rfl⟩ := Int.eq_ofNat_of_zero_le b1
  obtain ⟨f3, rfl⟩ := Int.eq_ofNat_of_zero_le b3
  obtain ⟨f7, rfl⟩ := Int.eq_ofNat_of_zero_le b5
  have hc : c < 128 := by omega
  have hf3 : f3 < 8 := by omega
  have A := or32_f3 c f3 hc hf3
  rcases hfo with rfl | rfl | rfl | rfl | rfl | rfl | rfl | rfl | rfl | rfl | rfl | rfl | rfl | rfl | rfl | rfl
  all_goals simp only [hit, HitP, fixedOf, maskOf, Int.reduceBEq, Int.reduceEq, Int.reduceNe, Bool.false_eq_true, ↓reduceIte, Bool.or_self, Bool.or_false, Bool.or_true, Bool.false_or, Bool.true_or, beq_iff_eq, ne_eq, not_true_eq_false, not_false_eq_true, and_self, and_true, true_and, false_and, and_false, or_false, false_or, or_self, or_true, true_or, forall_const, false_implies, true_implies, implies_true, A]
  all_goals clear A
  · rw [show (127 : Int) = ((127 : Nat) : Int) from rfl, and32_nat _ _ hw (by omega), and7]; omega
  · rw [show (127 : Int) = ((127 : Nat) : Int) from rfl, and32_nat _ _ hw (by omega), and7]; omega
  · rw [show (28799 : Int) = ((28799 : Nat) : Int) from rfl, and32_nat _ _ hw (by omega), and_28799]; omega
  · rw [show (28799 : Int) = ((28799 : Nat) : Int) from rfl, and32_nat _ _ hw (by omega), and_28799]; omega
  · rw [show (28799 : Int) = ((28799 : Nat) : Int) from rfl, and32_nat _ _ hw (by omega), and_28799]; omega
  · rw [show (28799 : Int) = ((28799 : Nat) : Int) from rfl, and32_nat _ _ hw (by omega), and_28799]; omega
  · rw [show (4227887231 : Int) = ((4227887231 : Nat) : Int) from rfl, and32_nat _ _ hw (by omega), and_m7 _ hw, fixed_25 _ _ (by omega) (by omega)]; have := hev rfl; omega
  · rw [show (4261441663 : Int) = ((4261441663 : Nat) : Int) from rfl, and32_nat _ _ hw (by omega), and_m9 _ hw, fixed_25 _ _ (by omega) (by omega)]; omega
  · rw [show (4261441663 : Int) = ((4261441663 : Nat) : Int) from rfl, and32_nat _ _ hw (by omega), and_m9 _ hw, fixed_25 _ _ (by omega) (by omega)]; omega
  · rw [show (28799 : Int) = ((28799 : Nat) : Int) from rfl, and32_nat _ _ hw (by omega), and_28799]; omega
  · rw [show (4294967295 : Int) = ((4294967295 : Nat) : Int) from rfl, and32_nat _ _ hw (by omega), and32, fixed_20 _ _ (by omega) (by omega)]; omega
  · rw [show (28799 : Int) = ((28799 : Nat) : Int) from rfl, and32_nat _ _ hw (by omega), and_28799]; omega
  · rw [show (28799 : Int) = ((28799 : Nat) : Int) from rfl, and32_nat _ _ hw (by omega), and_28799]; omega
  · rw [show (4193284223 : Int) = ((4193284223 : Nat) : Int) from rfl, and32_nat _ _ hw (by omega), and_m14 _ hw, fixed_27 _ _ (by omega) (by omega)]; omega
  · rw [show (4160778367 : Int) = ((4160778367 : Nat) : Int) from rfl, and32_nat _ _ hw (by omega), and_m15 _ hw, fixed_27 _ _ (by omega) (by omega)]; omega
  · rw [show (4261445631 : Int) = ((4261445631 : Nat) : Int) from rfl, and32_nat _ _ hw (by omega), and_m16 _ hw, fixed_25 _ _ (by omega) (by omega)]; omega

/-- The masks and the fixed bits of all operations. -/
def masks : List (Nat × Nat) := rows.map fun r => ((maskOf r.form).toNat, (fixedOf r).toNat)

def apart : List (Nat × Nat) → Bool
  | [] => true
  | a :: l => l.all (fun b => (a.2 &&& b.1) != (b.2 &&& a.1)) && apart l

theorem apart_masks : apart masks = true := by decide +kernel

theorem apart_at : ∀ (l : List (Nat × Nat)), apart l = true → ∀ (i j : Nat) (hi : i < l.length) (hj : j < l.length), i < j → (l[i].2 &&& l[j].1) ≠ (l[j].2 &&& l[i].1) := by
  intro l
  induction l with
  | nil => intro _ i j hi; simp at hi
  | cons a l ih =>
    intro h i j hi hj hij
    simp only [apart, Bool.and_eq_true, List.all_eq_true, bne_iff_ne] at h
    obtain ⟨j, rfl⟩ : ∃ m, j = m + 1 := ⟨j - 1, by omega⟩
    cases i with
    | zero => exact h.1 _ (List.getElem_mem _)
    | succ i => exact ih h.2 i j (by simpa using hi) (by simpa using hj) (by omega)

theorem masks_at (op : Nat) (h1 : 1 ≤ op) (h2 : op ≤ 98) : ∃ h : op - 1 < masks.length, (masks[op - 1].1 : Int) = maskOf (rowAt op).form ∧ (masks[op - 1].2 : Int) = fixedOf (rowAt op) := by
  have hl : masks.length = 98 := by decide +kernel
  have key : ∀ i : Fin 98, 0 ≤ maskOf (allRows.getD (i.val + 1) row0).form ∧ 0 ≤ fixedOf (allRows.getD (i.val + 1) row0) := by decide +kernel
  have k := key ⟨op - 1, by omega⟩
  have e : op - 1 + 1 = op := by omega
  simp only [e] at k
  refine ⟨by omega, ?_⟩
  have hrl : rows.length = 98 := by decide +kernel
  have hm : op - 1 < rows.length := by omega
  have hr : rowAt (op : Int) = rows[op - 1] := by
    obtain ⟨m, rfl⟩ : ∃ m, op = m + 1 := ⟨op - 1, by omega⟩
    have hm' : m < rows.length := by omega
    unfold rowAt
    rw [Int.toNat_natCast]
    simp [allRows, List.getD_eq_getElem?_getD, hm']
  have k2 : allRows.getD op row0 = rowAt (op : Int) := by unfold rowAt; rw [Int.toNat_natCast]
  rw [k2, hr] at k
  simp only [hr, masks, List.getElem_map]
  omega

/-- No word is two operations'. -/
theorem hit_lt (w : Nat) (hw : w < 4294967296) (i j : Nat) (i1 : 1 ≤ i) (i2 : i < j) (j2 : j ≤ 98) (hi : hit w (rowAt i) = true) (hj : hit w (rowAt j) = true) : False := by
  obtain ⟨li, mi, fi⟩ := masks_at i i1 (by omega)
  obtain ⟨lj, mj, fj⟩ := masks_at j (by omega) j2
  have h := apart_at masks apart_masks (i - 1) (j - 1) li lj (by omega)
  have hb : ∀ k : Nat, 1 ≤ k → k ≤ 98 → maskOf (rowAt k).form ≤ 4294967295 := by
    intro k k1 k2
    have key : ∀ i : Fin 98, maskOf (allRows.getD (i.val + 1) row0).form ≤ 4294967295 := by decide +kernel
    have h := key ⟨k - 1, by omega⟩
    have e : k - 1 + 1 = k := by omega
    simp only [e] at h
    unfold rowAt
    rw [Int.toNat_natCast]
    exact h
  have bi := hb i i1 (by omega)
  have bj := hb j (by omega) j2
  unfold hit at hi hj
  rw [beq_iff_eq] at hi hj
  rw [← mi] at hi bi
  rw [← mj] at hj bj
  rw [← fi, and32_nat _ _ hw (by omega)] at hi
  rw [← fj, and32_nat _ _ hw (by omega)] at hj
  have hi' : w &&& masks[i - 1].1 = masks[i - 1].2 := by omega
  have hj' : w &&& masks[j - 1].1 = masks[j - 1].2 := by omega
  apply h
  rw [← hi', ← hj']
  ac_rfl

theorem hit_one (w : Nat) (hw : w < 4294967296) (i j : Nat) (i1 : 1 ≤ i) (i2 : i ≤ 98) (j1 : 1 ≤ j) (j2 : j ≤ 98) (hi : hit w (rowAt i) = true) (hj : hit w (rowAt j) = true) : i = j := by
  rcases Nat.lt_trichotomy i j with h | h | h
  · exact (hit_lt w hw i j i1 h j2 hi hj).elim
  · exact h
  · exact (hit_lt w hw j i j1 h i2 hj hi).elim

end Go.Proofs.YteidojpklpfdeaaDoor

namespace Go.Proofs.YteidojpklpfdeaaDoor
open Go.RowKit
set_option linter.unusedVariables false
set_option linter.unusedSimpArgs false
theorem upper_back (v : Int) (h0 : -2147483648 ≤ v) (h1 : v ≤ 2147479552) (h2 : v % 4096 = 0) : sgn 2147483648 ((fld v 12 20 : Int) * 4096) = v := by
  simp only [fld, Nat.reducePow]; unfold sgn; split <;> omega
theorem jump_back (v : Int) (h0 : -1048576 ≤ v) (h1 : v ≤ 1048574) (h2 : v % 2 = 0) : sgn 1048576 ((fld v 20 1 : Int) * 1048576 + (fld v 1 10 : Int) * 2 + (fld v 11 1 : Int) * 2048 + (fld v 12 8 : Int) * 4096) = v := by
  simp only [fld, Nat.reducePow]; unfold sgn; split <;> omega
theorem branch_back (v : Int) (h0 : -4096 ≤ v) (h1 : v ≤ 4094) (h2 : v % 2 = 0) : sgn 4096 ((fld v 12 1 : Int) * 4096 + (fld v 5 6 : Int) * 32 + (fld v 1 4 : Int) * 2 + (fld v 11 1 : Int) * 2048) = v := by
  simp only [fld, Nat.reducePow]; unfold sgn; split <;> omega
theorem store_back (v : Int) (h0 : -2048 ≤ v) (h1 : v ≤ 2047) : sgn 2048 ((fld v 5 7 : Int) * 32 + (fld v 0 5 : Int)) = v := by
  simp only [fld, Nat.reducePow]; unfold sgn; split <;> omega
theorem number_back (v : Int) (h0 : -2048 ≤ v) (h1 : v ≤ 2047) : sgn 2048 (fld v 0 12 : Int) = v := by
  simp only [fld, Nat.reducePow]; unfold sgn; split <;> omega
theorem low_back12 (v : Int) (h0 : 0 ≤ v) (h1 : v ≤ 4095) : (fld v 0 12 : Int) = v := by
  simp only [fld, Nat.reducePow]; omega
theorem low_back6 (v : Int) (h0 : 0 ≤ v) (h1 : v ≤ 63) : (fld v 0 6 : Int) = v := by
  simp only [fld, Nat.reducePow]; omega
theorem low_back5 (v : Int) (h0 : 0 ≤ v) (h1 : v ≤ 31) : (fld v 0 5 : Int) = v := by
  simp only [fld, Nat.reducePow]; omega

theorem upper_fwd (a : Nat) (ha : a < 1048576) : fld (sgn 2147483648 ((a : Int) * 4096)) 12 20 = a ∧ -2147483648 ≤ sgn 2147483648 ((a : Int) * 4096) ∧ sgn 2147483648 ((a : Int) * 4096) ≤ 2147479552 ∧ sgn 2147483648 ((a : Int) * 4096) % 4096 = 0 := by
  simp only [fld, Nat.reducePow]; unfold sgn; split <;> omega
theorem jump_fwd (a b c d : Nat) (ha : a < 2) (hb : b < 1024) (hc : c < 2) (hd : d < 256) (v : Int) (hv : v = sgn 1048576 ((a : Int) * 1048576 + (b : Int) * 2 + (c : Int) * 2048 + (d : Int) * 4096)) :
    fld v 20 1 = a ∧ fld v 1 10 = b ∧ fld v 11 1 = c ∧ fld v 12 8 = d ∧ -1048576 ≤ v ∧ v ≤ 1048574 ∧ v % 2 = 0 := by
  simp only [fld, Nat.reducePow]; unfold sgn at hv; refine ⟨?_, ?_, ?_, ?_, ?_, ?_, ?_⟩ <;> split at hv <;> omega
theorem branch_fwd (a b c d : Nat) (ha : a < 2) (hb : b < 64) (hc : c < 16) (hd : d < 2) (v : Int) (hv : v = sgn 4096 ((a : Int) * 4096 + (b : Int) * 32 + (c : Int) * 2 + (d : Int) * 2048)) :
    fld v 12 1 = a ∧ fld v 5 6 = b ∧ fld v 1 4 = c ∧ fld v 11 1 = d ∧ -4096 ≤ v ∧ v ≤ 4094 ∧ v % 2 = 0 := by
  simp only [fld, Nat.reducePow]; unfold sgn at hv; refine ⟨?_, ?_, ?_, ?_, ?_, ?_, ?_⟩ <;> split at hv <;> omega
theorem store_fwd (a b : Nat) (ha : a < 128) (hb : b < 32) (v : Int) (hv : v = sgn 2048 ((a : Int) * 32 + (b : Int))) : fld v 5 7 = a ∧ fld v 0 5 = b ∧ -2048 ≤ v ∧ v ≤ 2047 := by
  simp only [fld, Nat.reducePow]; unfold sgn at hv; refine ⟨?_, ?_, ?_, ?_⟩ <;> split at hv <;> omega
theorem number_fwd (a : Nat) (ha : a < 4096) (v : Int) (hv : v = sgn 2048 (a : Int)) : fld v 0 12 = a ∧ -2048 ≤ v ∧ v ≤ 2047 := by
  simp only [fld, Nat.reducePow]; unfold sgn at hv; refine ⟨?_, ?_, ?_⟩ <;> split at hv <;> omega

theorem digI (W a n d : Nat) (h : W / a % n = d) : (W : Int) / (a : Int) % (n : Int) = d := by rw [← h]; rfl
theorem wself5 (W : Nat) : wrap64 ((W : Int) / 128 % 32) = (W : Int) / 128 % 32 := by unfold wrap64; omega
theorem wdig5 (W d : Nat) (h : W / 128 % 32 = d) : wrap64 ((W : Int) / 128 % 32) = d := (wself5 W).trans (digI W 128 32 d h)
theorem wself15 (W : Nat) : wrap64 ((W : Int) / 32768 % 32) = (W : Int) / 32768 % 32 := by unfold wrap64; omega
theorem wdig15 (W d : Nat) (h : W / 32768 % 32 = d) : wrap64 ((W : Int) / 32768 % 32) = d := (wself15 W).trans (digI W 32768 32 d h)
theorem wself20 (W : Nat) : wrap64 ((W : Int) / 1048576 % 32) = (W : Int) / 1048576 % 32 := by unfold wrap64; omega
theorem wdig20 (W d : Nat) (h : W / 1048576 % 32 = d) : wrap64 ((W : Int) / 1048576 % 32) = d := (wself20 W).trans (digI W 1048576 32 d h)
theorem wself12 (W : Nat) : wrap64 ((W : Int) / 1048576 % 4096) = (W : Int) / 1048576 % 4096 := by unfold wrap64; omega
theorem wdig12 (W d : Nat) (h : W / 1048576 % 4096 = d) : wrap64 ((W : Int) / 1048576 % 4096) = d := (wself12 W).trans (digI W 1048576 4096 d h)


end Go.Proofs.YteidojpklpfdeaaDoor

namespace Go.Proofs.YteidojpklpfdeaaDoor
open Go.RowKit
set_option linter.unusedVariables false
set_option linter.unusedSimpArgs false
theorem par (x : Int) : x % 2 = 0 ∨ x % 2 = 1 := by omega
theorem cast3 (W a n k : Nat) : ((W / a % n * k : Nat) : Int) = (W : Int) / (a : Int) % (n : Int) * (k : Int) := by rw [Int.natCast_mul, Int.natCast_emod, Int.natCast_ediv]
theorem low_fwd7 (a : Nat) (h : a < 64) (v : Int) (hv : v = a) : fld v 0 6 = a ∧ 0 ≤ v ∧ v ≤ 63 := by subst hv; simp only [fld, Nat.reducePow]; omega
theorem low_fwd8 (a : Nat) (h : a < 32) (v : Int) (hv : v = a) : fld v 0 6 = a ∧ 0 ≤ v ∧ v ≤ 31 := by subst hv; simp only [fld, Nat.reducePow]; omega
theorem low_fwd10 (a : Nat) (h : a < 4096) (v : Int) (hv : v = a) : fld v 0 12 = a ∧ 0 ≤ v ∧ v ≤ 4095 := by subst hv; simp only [fld, Nat.reducePow]; omega
theorem low_fwd13 (a : Nat) (h : a < 32) (v : Int) (hv : v = a) : fld v 0 5 = a ∧ 0 ≤ v ∧ v ≤ 31 := by subst hv; simp only [fld, Nat.reducePow]; omega
theorem rok0 : regOk 0 false = true := by decide
theorem rok5 (W : Nat) : regOk ((W : Int) / 128 % 32) true = true := by simp only [regOk, ↓reduceIte, decide_eq_true_eq]; omega
theorem rok15 (W : Nat) : regOk ((W : Int) / 32768 % 32) true = true := by simp only [regOk, ↓reduceIte, decide_eq_true_eq]; omega
theorem rok20 (W : Nat) : regOk ((W : Int) / 1048576 % 32) true = true := by simp only [regOk, ↓reduceIte, decide_eq_true_eq]; omega
theorem cok0 (W : Nat) : decide (0 ≤ (W : Int) / 1048576 % 4096) = true := by rw [decide_eq_true_eq]; omega
theorem cok1 (W : Nat) : decide ((W : Int) / 1048576 % 4096 ≤ 4095) = true := by rw [decide_eq_true_eq]; omega

theorem sums1 (W : Nat) (hw : W < 4294967296) : (W : Int) = (W : Int) % 128 + (W : Int) / 128 % 32 * 128 + (W : Int) / 4096 % 1048576 * 4096 := by
  omega

set_option maxHeartbeats 1000000 in
theorem whose1 (nm : ByteArray) (k : Int) (c f3 f7 : Nat) (W : Nat) (hw : W < 4294967296) (hh : HitP ⟨nm, 1, c, f3, f7⟩ W) : rightBy (partsOf 1) (fieldsOf k 1 W) = true ∧ rwordBy ⟨nm, 1, c, f3, f7⟩ (fieldsOf k 1 W) = W := by
  simp only [HitP, ne_eq, not_true_eq_false, not_false_eq_true, and_self, and_true, true_and, false_and, and_false, or_false, false_or, or_self, or_true, true_or, forall_const, false_implies, true_implies, implies_true, Int.reduceBEq, Int.reduceEq, Int.reduceNe, Bool.false_eq_true, ↓reduceIte, Bool.or_eq_true, Bool.or_self, Bool.or_false, Bool.or_true, Bool.false_or, Bool.true_or, decide_eq_true_eq, Bool.not_eq_true', Bool.and_eq_true] at hh
  have x5 := wself5 W
  have x15 := wself15 W
  have x20 := wself20 W
  have x12 := wself12 W
  have hn := immOf_num 1 W
  simp only [numOf, Int.reduceEq, ↓reduceIte] at hn
  obtain ⟨e12_12, r1, r2, r3⟩ : fld (immOf 1 W) 12 20 = W / 4096 % 1048576 ∧ -2147483648 ≤ immOf 1 W ∧ immOf 1 W ≤ 2147479552 ∧ immOf 1 W % 4096 = 0 := by have h := upper_fwd (W / 4096 % 1048576) (Nat.mod_lt _ (by decide)); rw [hn]; exact h
  clear hn
  generalize hv : immOf 1 W = v at *
  have q12_12 : rpart v 12 20 12 = (W : Int) / 4096 % 1048576 * 4096 := (rpart_fld v 12 20 12 (by decide)).trans (by rw [e12_12]; exact cast3 W 4096 1048576 4096)
  have hm : v.tmod 4096 = 0 := Int.tmod_eq_zero_of_dvd (Int.dvd_of_emod_eq_zero r3)
  have hm1 : decide (v.tmod 4096 = 0) = true := decide_eq_true hm
  have hr1 : decide (-2147483648 ≤ v) = true := decide_eq_true r1
  have hr2 : decide (v ≤ 2147479552) = true := decide_eq_true r2
  refine ⟨?_, ?_⟩
  · simp only [fieldsOf, partsOf, rightBy, g_7_5, g_15_5, g_20_5, g_20_12, x5, x15, x20, x12, rok0, rok5 W, rok15 W, rok20 W, cok0 W, cok1 W, hv, hm1, hr1, hr2, Int.reduceBEq, Int.reduceEq, Bool.false_eq_true, ↓reduceIte, decide_true, Bool.and_self, Bool.not_false, Bool.true_or, Bool.or_true, Bool.false_or]
  · simp only [fieldsOf, partsOf, rwordBy, immR, rnumber, g_7_5, g_15_5, g_20_5, g_20_12, g_26_1, g_25_1, x5, x15, x20, x12, hv, q12_12, Int.reduceBEq, Int.reduceEq, Int.reduceNe, Bool.false_eq_true, ↓reduceIte, Bool.or_eq_true, Bool.or_self, Bool.or_false, Bool.or_true, Bool.false_or, Bool.true_or, decide_eq_true_eq, Bool.not_eq_true', Bool.and_eq_true]
    clear x5 x15 x20 x12
    clear q12_12 e12_12 hm hm1 hr1 hr2 hv r1 r2
    have hs := sums1 W hw
    generalize (W : Int) % 128 = a0 at *
    generalize (W : Int) / 128 % 32 = a1 at *
    generalize (W : Int) / 4096 % 1048576 = a2 at *
    omega

theorem sums2 (W : Nat) (hw : W < 4294967296) : (W : Int) = (W : Int) % 128 + (W : Int) / 128 % 32 * 128 + (W : Int) / 4096 % 256 * 4096 + (W : Int) / 1048576 % 2 * 1048576 + (W : Int) / 2097152 % 1024 * 2097152 + (W : Int) / 2147483648 % 2 * 2147483648 := by
  omega

set_option maxHeartbeats 1000000 in
theorem whose2 (nm : ByteArray) (k : Int) (c f3 f7 : Nat) (W : Nat) (hw : W < 4294967296) (hh : HitP ⟨nm, 2, c, f3, f7⟩ W) : rightBy (partsOf 2) (fieldsOf k 2 W) = true ∧ rwordBy ⟨nm, 2, c, f3, f7⟩ (fieldsOf k 2 W) = W := by
  simp only [HitP, ne_eq, not_true_eq_false, not_false_eq_true, and_self, and_true, true_and, false_and, and_false, or_false, false_or, or_self, or_true, true_or, forall_const, false_implies, true_implies, implies_true, Int.reduceBEq, Int.reduceEq, Int.reduceNe, Bool.false_eq_true, ↓reduceIte, Bool.or_eq_true, Bool.or_self, Bool.or_false, Bool.or_true, Bool.false_or, Bool.true_or, decide_eq_true_eq, Bool.not_eq_true', Bool.and_eq_true] at hh
  have x5 := wself5 W
  have x15 := wself15 W
  have x20 := wself20 W
  have x12 := wself12 W
  have hn := immOf_num 2 W
  simp only [numOf, Int.reduceEq, ↓reduceIte] at hn
  obtain ⟨e20_31, e1_21, e11_20, e12_12, r1, r2, r3⟩ := jump_fwd (W / 2147483648 % 2) (W / 2097152 % 1024) (W / 1048576 % 2) (W / 4096 % 256) (Nat.mod_lt _ (by decide)) (Nat.mod_lt _ (by decide)) (Nat.mod_lt _ (by decide)) (Nat.mod_lt _ (by decide)) (immOf 2 W) hn
  clear hn
  generalize hv : immOf 2 W = v at *
  have q20_31 : rpart v 20 1 31 = (W : Int) / 2147483648 % 2 * 2147483648 := (rpart_fld v 20 1 31 (by decide)).trans (by rw [e20_31]; exact cast3 W 2147483648 2 2147483648)
  have q1_21 : rpart v 1 10 21 = (W : Int) / 2097152 % 1024 * 2097152 := (rpart_fld v 1 10 21 (by decide)).trans (by rw [e1_21]; exact cast3 W 2097152 1024 2097152)
  have q11_20 : rpart v 11 1 20 = (W : Int) / 1048576 % 2 * 1048576 := (rpart_fld v 11 1 20 (by decide)).trans (by rw [e11_20]; exact cast3 W 1048576 2 1048576)
  have q12_12 : rpart v 12 8 12 = (W : Int) / 4096 % 256 * 4096 := (rpart_fld v 12 8 12 (by decide)).trans (by rw [e12_12]; exact cast3 W 4096 256 4096)
  have hm : v.tmod 2 = 0 := Int.tmod_eq_zero_of_dvd (Int.dvd_of_emod_eq_zero r3)
  have hm1 : decide (v.tmod 2 = 0) = true := decide_eq_true hm
  have hr1 : decide (-1048576 ≤ v) = true := decide_eq_true r1
  have hr2 : decide (v ≤ 1048574) = true := decide_eq_true r2
  refine ⟨?_, ?_⟩
  · simp only [fieldsOf, partsOf, rightBy, g_7_5, g_15_5, g_20_5, g_20_12, x5, x15, x20, x12, rok0, rok5 W, rok15 W, rok20 W, cok0 W, cok1 W, hv, hm1, hr1, hr2, Int.reduceBEq, Int.reduceEq, Bool.false_eq_true, ↓reduceIte, decide_true, Bool.and_self, Bool.not_false, Bool.true_or, Bool.or_true, Bool.false_or]
  · simp only [fieldsOf, partsOf, rwordBy, immR, rnumber, g_7_5, g_15_5, g_20_5, g_20_12, g_26_1, g_25_1, x5, x15, x20, x12, hv, q20_31, q1_21, q11_20, q12_12, Int.reduceBEq, Int.reduceEq, Int.reduceNe, Bool.false_eq_true, ↓reduceIte, Bool.or_eq_true, Bool.or_self, Bool.or_false, Bool.or_true, Bool.false_or, Bool.true_or, decide_eq_true_eq, Bool.not_eq_true', Bool.and_eq_true]
    clear x5 x15 x20 x12
    clear q20_31 e20_31 q1_21 e1_21 q11_20 e11_20 q12_12 e12_12 hm hm1 hr1 hr2 hv r1 r2
    have hs := sums2 W hw
    generalize (W : Int) % 128 = a0 at *
    generalize (W : Int) / 128 % 32 = a1 at *
    generalize (W : Int) / 4096 % 256 = a2 at *
    generalize (W : Int) / 1048576 % 2 = a3 at *
    generalize (W : Int) / 2097152 % 1024 = a4 at *
    generalize (W : Int) / 2147483648 % 2 = a5 at *
    omega

theorem sums3 (W : Nat) (hw : W < 4294967296) : (W : Int) = (W : Int) % 128 + (W : Int) / 128 % 32 * 128 + (W : Int) / 4096 % 8 * 4096 + (W : Int) / 32768 % 32 * 32768 + (W : Int) / 1048576 % 4096 * 1048576 := by
  omega

set_option maxHeartbeats 1000000 in
theorem whose3 (nm : ByteArray) (k : Int) (c f3 f7 : Nat) (W : Nat) (hw : W < 4294967296) (hh : HitP ⟨nm, 3, c, f3, f7⟩ W) : rightBy (partsOf 3) (fieldsOf k 3 W) = true ∧ rwordBy ⟨nm, 3, c, f3, f7⟩ (fieldsOf k 3 W) = W := by
  simp only [HitP, ne_eq, not_true_eq_false, not_false_eq_true, and_self, and_true, true_and, false_and, and_false, or_false, false_or, or_self, or_true, true_or, forall_const, false_implies, true_implies, implies_true, Int.reduceBEq, Int.reduceEq, Int.reduceNe, Bool.false_eq_true, ↓reduceIte, Bool.or_eq_true, Bool.or_self, Bool.or_false, Bool.or_true, Bool.false_or, Bool.true_or, decide_eq_true_eq, Bool.not_eq_true', Bool.and_eq_true] at hh
  have x5 := wself5 W
  have x15 := wself15 W
  have x20 := wself20 W
  have x12 := wself12 W
  have hn := immOf_num 3 W
  simp only [numOf, Int.reduceEq, ↓reduceIte] at hn
  obtain ⟨e0_20, r1, r2⟩ := number_fwd (W / 1048576 % 4096) (Nat.mod_lt _ (by decide)) (immOf 3 W) hn
  clear hn
  generalize hv : immOf 3 W = v at *
  have q0_20 : rpart v 0 12 20 = (W : Int) / 1048576 % 4096 * 1048576 := (rpart_fld v 0 12 20 (by decide)).trans (by rw [e0_20]; exact cast3 W 1048576 4096 1048576)
  have hm : v.tmod 1 = 0 := Int.tmod_one v
  have hm1 : decide (v.tmod 1 = 0) = true := decide_eq_true hm
  have hr1 : decide (-2048 ≤ v) = true := decide_eq_true r1
  have hr2 : decide (v ≤ 2047) = true := decide_eq_true r2
  refine ⟨?_, ?_⟩
  · simp only [fieldsOf, partsOf, rightBy, g_7_5, g_15_5, g_20_5, g_20_12, x5, x15, x20, x12, rok0, rok5 W, rok15 W, rok20 W, cok0 W, cok1 W, hv, hm1, hr1, hr2, Int.reduceBEq, Int.reduceEq, Bool.false_eq_true, ↓reduceIte, decide_true, Bool.and_self, Bool.not_false, Bool.true_or, Bool.or_true, Bool.false_or]
  · simp only [fieldsOf, partsOf, rwordBy, immR, rnumber, g_7_5, g_15_5, g_20_5, g_20_12, g_26_1, g_25_1, x5, x15, x20, x12, hv, q0_20, Int.reduceBEq, Int.reduceEq, Int.reduceNe, Bool.false_eq_true, ↓reduceIte, Bool.or_eq_true, Bool.or_self, Bool.or_false, Bool.or_true, Bool.false_or, Bool.true_or, decide_eq_true_eq, Bool.not_eq_true', Bool.and_eq_true]
    clear x5 x15 x20 x12
    clear q0_20 e0_20 hm hm1 hr1 hr2 hv r1 r2
    have hs := sums3 W hw
    generalize (W : Int) % 128 = a0 at *
    generalize (W : Int) / 128 % 32 = a1 at *
    generalize (W : Int) / 4096 % 8 = a2 at *
    generalize (W : Int) / 32768 % 32 = a3 at *
    generalize (W : Int) / 1048576 % 4096 = a4 at *
    omega

theorem sums4 (W : Nat) (hw : W < 4294967296) : (W : Int) = (W : Int) % 128 + (W : Int) / 128 % 2 * 128 + (W : Int) / 256 % 16 * 256 + (W : Int) / 4096 % 8 * 4096 + (W : Int) / 32768 % 32 * 32768 + (W : Int) / 1048576 % 32 * 1048576 + (W : Int) / 33554432 % 64 * 33554432 + (W : Int) / 2147483648 % 2 * 2147483648 := by
  omega

set_option maxHeartbeats 1000000 in
theorem whose4 (nm : ByteArray) (k : Int) (c f3 f7 : Nat) (W : Nat) (hw : W < 4294967296) (hh : HitP ⟨nm, 4, c, f3, f7⟩ W) : rightBy (partsOf 4) (fieldsOf k 4 W) = true ∧ rwordBy ⟨nm, 4, c, f3, f7⟩ (fieldsOf k 4 W) = W := by
  simp only [HitP, ne_eq, not_true_eq_false, not_false_eq_true, and_self, and_true, true_and, false_and, and_false, or_false, false_or, or_self, or_true, true_or, forall_const, false_implies, true_implies, implies_true, Int.reduceBEq, Int.reduceEq, Int.reduceNe, Bool.false_eq_true, ↓reduceIte, Bool.or_eq_true, Bool.or_self, Bool.or_false, Bool.or_true, Bool.false_or, Bool.true_or, decide_eq_true_eq, Bool.not_eq_true', Bool.and_eq_true] at hh
  have x5 := wself5 W
  have x15 := wself15 W
  have x20 := wself20 W
  have x12 := wself12 W
  have hn := immOf_num 4 W
  simp only [numOf, Int.reduceEq, ↓reduceIte] at hn
  obtain ⟨e12_31, e5_25, e1_8, e11_7, r1, r2, r3⟩ := branch_fwd (W / 2147483648 % 2) (W / 33554432 % 64) (W / 256 % 16) (W / 128 % 2) (Nat.mod_lt _ (by decide)) (Nat.mod_lt _ (by decide)) (Nat.mod_lt _ (by decide)) (Nat.mod_lt _ (by decide)) (immOf 4 W) hn
  clear hn
  generalize hv : immOf 4 W = v at *
  have q12_31 : rpart v 12 1 31 = (W : Int) / 2147483648 % 2 * 2147483648 := (rpart_fld v 12 1 31 (by decide)).trans (by rw [e12_31]; exact cast3 W 2147483648 2 2147483648)
  have q5_25 : rpart v 5 6 25 = (W : Int) / 33554432 % 64 * 33554432 := (rpart_fld v 5 6 25 (by decide)).trans (by rw [e5_25]; exact cast3 W 33554432 64 33554432)
  have q1_8 : rpart v 1 4 8 = (W : Int) / 256 % 16 * 256 := (rpart_fld v 1 4 8 (by decide)).trans (by rw [e1_8]; exact cast3 W 256 16 256)
  have q11_7 : rpart v 11 1 7 = (W : Int) / 128 % 2 * 128 := (rpart_fld v 11 1 7 (by decide)).trans (by rw [e11_7]; exact cast3 W 128 2 128)
  have hm : v.tmod 2 = 0 := Int.tmod_eq_zero_of_dvd (Int.dvd_of_emod_eq_zero r3)
  have hm1 : decide (v.tmod 2 = 0) = true := decide_eq_true hm
  have hr1 : decide (-4096 ≤ v) = true := decide_eq_true r1
  have hr2 : decide (v ≤ 4094) = true := decide_eq_true r2
  refine ⟨?_, ?_⟩
  · simp only [fieldsOf, partsOf, rightBy, g_7_5, g_15_5, g_20_5, g_20_12, x5, x15, x20, x12, rok0, rok5 W, rok15 W, rok20 W, cok0 W, cok1 W, hv, hm1, hr1, hr2, Int.reduceBEq, Int.reduceEq, Bool.false_eq_true, ↓reduceIte, decide_true, Bool.and_self, Bool.not_false, Bool.true_or, Bool.or_true, Bool.false_or]
  · simp only [fieldsOf, partsOf, rwordBy, immR, rnumber, g_7_5, g_15_5, g_20_5, g_20_12, g_26_1, g_25_1, x5, x15, x20, x12, hv, q12_31, q5_25, q1_8, q11_7, Int.reduceBEq, Int.reduceEq, Int.reduceNe, Bool.false_eq_true, ↓reduceIte, Bool.or_eq_true, Bool.or_self, Bool.or_false, Bool.or_true, Bool.false_or, Bool.true_or, decide_eq_true_eq, Bool.not_eq_true', Bool.and_eq_true]
    clear x5 x15 x20 x12
    clear q12_31 e12_31 q5_25 e5_25 q1_8 e1_8 q11_7 e11_7 hm hm1 hr1 hr2 hv r1 r2
    have hs := sums4 W hw
    generalize (W : Int) % 128 = a0 at *
    generalize (W : Int) / 128 % 2 = a1 at *
    generalize (W : Int) / 256 % 16 = a2 at *
    generalize (W : Int) / 4096 % 8 = a3 at *
    generalize (W : Int) / 32768 % 32 = a4 at *
    generalize (W : Int) / 1048576 % 32 = a5 at *
    generalize (W : Int) / 33554432 % 64 = a6 at *
    generalize (W : Int) / 2147483648 % 2 = a7 at *
    omega

theorem sums5 (W : Nat) (hw : W < 4294967296) : (W : Int) = (W : Int) % 128 + (W : Int) / 128 % 32 * 128 + (W : Int) / 4096 % 8 * 4096 + (W : Int) / 32768 % 32 * 32768 + (W : Int) / 1048576 % 4096 * 1048576 := by
  omega

set_option maxHeartbeats 1000000 in
theorem whose5 (nm : ByteArray) (k : Int) (c f3 f7 : Nat) (W : Nat) (hw : W < 4294967296) (hh : HitP ⟨nm, 5, c, f3, f7⟩ W) : rightBy (partsOf 5) (fieldsOf k 5 W) = true ∧ rwordBy ⟨nm, 5, c, f3, f7⟩ (fieldsOf k 5 W) = W := by
  simp only [HitP, ne_eq, not_true_eq_false, not_false_eq_true, and_self, and_true, true_and, false_and, and_false, or_false, false_or, or_self, or_true, true_or, forall_const, false_implies, true_implies, implies_true, Int.reduceBEq, Int.reduceEq, Int.reduceNe, Bool.false_eq_true, ↓reduceIte, Bool.or_eq_true, Bool.or_self, Bool.or_false, Bool.or_true, Bool.false_or, Bool.true_or, decide_eq_true_eq, Bool.not_eq_true', Bool.and_eq_true] at hh
  have x5 := wself5 W
  have x15 := wself15 W
  have x20 := wself20 W
  have x12 := wself12 W
  have hn := immOf_num 5 W
  simp only [numOf, Int.reduceEq, ↓reduceIte] at hn
  obtain ⟨e0_20, r1, r2⟩ := number_fwd (W / 1048576 % 4096) (Nat.mod_lt _ (by decide)) (immOf 5 W) hn
  clear hn
  generalize hv : immOf 5 W = v at *
  have q0_20 : rpart v 0 12 20 = (W : Int) / 1048576 % 4096 * 1048576 := (rpart_fld v 0 12 20 (by decide)).trans (by rw [e0_20]; exact cast3 W 1048576 4096 1048576)
  have hm : v.tmod 1 = 0 := Int.tmod_one v
  have hm1 : decide (v.tmod 1 = 0) = true := decide_eq_true hm
  have hr1 : decide (-2048 ≤ v) = true := decide_eq_true r1
  have hr2 : decide (v ≤ 2047) = true := decide_eq_true r2
  refine ⟨?_, ?_⟩
  · simp only [fieldsOf, partsOf, rightBy, g_7_5, g_15_5, g_20_5, g_20_12, x5, x15, x20, x12, rok0, rok5 W, rok15 W, rok20 W, cok0 W, cok1 W, hv, hm1, hr1, hr2, Int.reduceBEq, Int.reduceEq, Bool.false_eq_true, ↓reduceIte, decide_true, Bool.and_self, Bool.not_false, Bool.true_or, Bool.or_true, Bool.false_or]
  · simp only [fieldsOf, partsOf, rwordBy, immR, rnumber, g_7_5, g_15_5, g_20_5, g_20_12, g_26_1, g_25_1, x5, x15, x20, x12, hv, q0_20, Int.reduceBEq, Int.reduceEq, Int.reduceNe, Bool.false_eq_true, ↓reduceIte, Bool.or_eq_true, Bool.or_self, Bool.or_false, Bool.or_true, Bool.false_or, Bool.true_or, decide_eq_true_eq, Bool.not_eq_true', Bool.and_eq_true]
    clear x5 x15 x20 x12
    clear q0_20 e0_20 hm hm1 hr1 hr2 hv r1 r2
    have hs := sums5 W hw
    generalize (W : Int) % 128 = a0 at *
    generalize (W : Int) / 128 % 32 = a1 at *
    generalize (W : Int) / 4096 % 8 = a2 at *
    generalize (W : Int) / 32768 % 32 = a3 at *
    generalize (W : Int) / 1048576 % 4096 = a4 at *
    omega

theorem sums6 (W : Nat) (hw : W < 4294967296) : (W : Int) = (W : Int) % 128 + (W : Int) / 128 % 32 * 128 + (W : Int) / 4096 % 8 * 4096 + (W : Int) / 32768 % 32 * 32768 + (W : Int) / 1048576 % 32 * 1048576 + (W : Int) / 33554432 % 128 * 33554432 := by
  omega

set_option maxHeartbeats 1000000 in
theorem whose6 (nm : ByteArray) (k : Int) (c f3 f7 : Nat) (W : Nat) (hw : W < 4294967296) (hh : HitP ⟨nm, 6, c, f3, f7⟩ W) : rightBy (partsOf 6) (fieldsOf k 6 W) = true ∧ rwordBy ⟨nm, 6, c, f3, f7⟩ (fieldsOf k 6 W) = W := by
  simp only [HitP, ne_eq, not_true_eq_false, not_false_eq_true, and_self, and_true, true_and, false_and, and_false, or_false, false_or, or_self, or_true, true_or, forall_const, false_implies, true_implies, implies_true, Int.reduceBEq, Int.reduceEq, Int.reduceNe, Bool.false_eq_true, ↓reduceIte, Bool.or_eq_true, Bool.or_self, Bool.or_false, Bool.or_true, Bool.false_or, Bool.true_or, decide_eq_true_eq, Bool.not_eq_true', Bool.and_eq_true] at hh
  have x5 := wself5 W
  have x15 := wself15 W
  have x20 := wself20 W
  have x12 := wself12 W
  have hn := immOf_num 6 W
  simp only [numOf, Int.reduceEq, ↓reduceIte] at hn
  obtain ⟨e5_25, e0_7, r1, r2⟩ := store_fwd (W / 33554432 % 128) (W / 128 % 32) (Nat.mod_lt _ (by decide)) (Nat.mod_lt _ (by decide)) (immOf 6 W) hn
  clear hn
  generalize hv : immOf 6 W = v at *
  have q5_25 : rpart v 5 7 25 = (W : Int) / 33554432 % 128 * 33554432 := (rpart_fld v 5 7 25 (by decide)).trans (by rw [e5_25]; exact cast3 W 33554432 128 33554432)
  have q0_7 : rpart v 0 5 7 = (W : Int) / 128 % 32 * 128 := (rpart_fld v 0 5 7 (by decide)).trans (by rw [e0_7]; exact cast3 W 128 32 128)
  have hm : v.tmod 1 = 0 := Int.tmod_one v
  have hm1 : decide (v.tmod 1 = 0) = true := decide_eq_true hm
  have hr1 : decide (-2048 ≤ v) = true := decide_eq_true r1
  have hr2 : decide (v ≤ 2047) = true := decide_eq_true r2
  refine ⟨?_, ?_⟩
  · simp only [fieldsOf, partsOf, rightBy, g_7_5, g_15_5, g_20_5, g_20_12, x5, x15, x20, x12, rok0, rok5 W, rok15 W, rok20 W, cok0 W, cok1 W, hv, hm1, hr1, hr2, Int.reduceBEq, Int.reduceEq, Bool.false_eq_true, ↓reduceIte, decide_true, Bool.and_self, Bool.not_false, Bool.true_or, Bool.or_true, Bool.false_or]
  · simp only [fieldsOf, partsOf, rwordBy, immR, rnumber, g_7_5, g_15_5, g_20_5, g_20_12, g_26_1, g_25_1, x5, x15, x20, x12, hv, q5_25, q0_7, Int.reduceBEq, Int.reduceEq, Int.reduceNe, Bool.false_eq_true, ↓reduceIte, Bool.or_eq_true, Bool.or_self, Bool.or_false, Bool.or_true, Bool.false_or, Bool.true_or, decide_eq_true_eq, Bool.not_eq_true', Bool.and_eq_true]
    clear x5 x15 x20 x12
    clear q5_25 e5_25 q0_7 e0_7 hm hm1 hr1 hr2 hv r1 r2
    have hs := sums6 W hw
    generalize (W : Int) % 128 = a0 at *
    generalize (W : Int) / 128 % 32 = a1 at *
    generalize (W : Int) / 4096 % 8 = a2 at *
    generalize (W : Int) / 32768 % 32 = a3 at *
    generalize (W : Int) / 1048576 % 32 = a4 at *
    generalize (W : Int) / 33554432 % 128 = a5 at *
    omega

theorem sums7 (W : Nat) (hw : W < 4294967296) : (W : Int) = (W : Int) % 128 + (W : Int) / 128 % 32 * 128 + (W : Int) / 4096 % 8 * 4096 + (W : Int) / 32768 % 32 * 32768 + (W : Int) / 1048576 % 64 * 1048576 + (W : Int) / 67108864 * 67108864 := by
  omega

set_option maxHeartbeats 1000000 in
theorem whose7 (nm : ByteArray) (k : Int) (c f3 f7 : Nat) (W : Nat) (hw : W < 4294967296) (hh : HitP ⟨nm, 7, c, f3, f7⟩ W) : rightBy (partsOf 7) (fieldsOf k 7 W) = true ∧ rwordBy ⟨nm, 7, c, f3, f7⟩ (fieldsOf k 7 W) = W := by
  simp only [HitP, ne_eq, not_true_eq_false, not_false_eq_true, and_self, and_true, true_and, false_and, and_false, or_false, false_or, or_self, or_true, true_or, forall_const, false_implies, true_implies, implies_true, Int.reduceBEq, Int.reduceEq, Int.reduceNe, Bool.false_eq_true, ↓reduceIte, Bool.or_eq_true, Bool.or_self, Bool.or_false, Bool.or_true, Bool.false_or, Bool.true_or, decide_eq_true_eq, Bool.not_eq_true', Bool.and_eq_true] at hh
  have x5 := wself5 W
  have x15 := wself15 W
  have x20 := wself20 W
  have x12 := wself12 W
  have hn := immOf_num 7 W
  simp only [numOf, Int.reduceEq, ↓reduceIte] at hn
  obtain ⟨e0_20, r1, r2⟩ := low_fwd7 (W / 1048576 % 64) (Nat.mod_lt _ (by decide)) (immOf 7 W) hn
  clear hn
  generalize hv : immOf 7 W = v at *
  have q0_20 : rpart v 0 6 20 = (W : Int) / 1048576 % 64 * 1048576 := (rpart_fld v 0 6 20 (by decide)).trans (by rw [e0_20]; exact cast3 W 1048576 64 1048576)
  have hm : v.tmod 1 = 0 := Int.tmod_one v
  have hm1 : decide (v.tmod 1 = 0) = true := decide_eq_true hm
  have hr1 : decide (0 ≤ v) = true := decide_eq_true r1
  have hr2 : decide (v ≤ 63) = true := decide_eq_true r2
  refine ⟨?_, ?_⟩
  · simp only [fieldsOf, partsOf, rightBy, g_7_5, g_15_5, g_20_5, g_20_12, x5, x15, x20, x12, rok0, rok5 W, rok15 W, rok20 W, cok0 W, cok1 W, hv, hm1, hr1, hr2, Int.reduceBEq, Int.reduceEq, Bool.false_eq_true, ↓reduceIte, decide_true, Bool.and_self, Bool.not_false, Bool.true_or, Bool.or_true, Bool.false_or]
  · simp only [fieldsOf, partsOf, rwordBy, immR, rnumber, g_7_5, g_15_5, g_20_5, g_20_12, g_26_1, g_25_1, x5, x15, x20, x12, hv, q0_20, Int.reduceBEq, Int.reduceEq, Int.reduceNe, Bool.false_eq_true, ↓reduceIte, Bool.or_eq_true, Bool.or_self, Bool.or_false, Bool.or_true, Bool.false_or, Bool.true_or, decide_eq_true_eq, Bool.not_eq_true', Bool.and_eq_true]
    clear x5 x15 x20 x12
    clear q0_20 e0_20 hm hm1 hr1 hr2 hv r1 r2
    have hs := sums7 W hw
    generalize (W : Int) % 128 = a0 at *
    generalize (W : Int) / 128 % 32 = a1 at *
    generalize (W : Int) / 4096 % 8 = a2 at *
    generalize (W : Int) / 32768 % 32 = a3 at *
    generalize (W : Int) / 1048576 % 64 = a4 at *
    generalize (W : Int) / 67108864 = a5 at *
    omega

theorem sums8 (W : Nat) (hw : W < 4294967296) : (W : Int) = (W : Int) % 128 + (W : Int) / 128 % 32 * 128 + (W : Int) / 4096 % 8 * 4096 + (W : Int) / 32768 % 32 * 32768 + (W : Int) / 1048576 % 32 * 1048576 + (W : Int) / 33554432 * 33554432 := by
  omega

set_option maxHeartbeats 1000000 in
theorem whose8 (nm : ByteArray) (k : Int) (c f3 f7 : Nat) (W : Nat) (hw : W < 4294967296) (hh : HitP ⟨nm, 8, c, f3, f7⟩ W) : rightBy (partsOf 8) (fieldsOf k 8 W) = true ∧ rwordBy ⟨nm, 8, c, f3, f7⟩ (fieldsOf k 8 W) = W := by
  simp only [HitP, ne_eq, not_true_eq_false, not_false_eq_true, and_self, and_true, true_and, false_and, and_false, or_false, false_or, or_self, or_true, true_or, forall_const, false_implies, true_implies, implies_true, Int.reduceBEq, Int.reduceEq, Int.reduceNe, Bool.false_eq_true, ↓reduceIte, Bool.or_eq_true, Bool.or_self, Bool.or_false, Bool.or_true, Bool.false_or, Bool.true_or, decide_eq_true_eq, Bool.not_eq_true', Bool.and_eq_true] at hh
  have x5 := wself5 W
  have x15 := wself15 W
  have x20 := wself20 W
  have x12 := wself12 W
  have hn := immOf_num 8 W
  simp only [numOf, Int.reduceEq, ↓reduceIte] at hn
  obtain ⟨e0_20, r1, r2⟩ := low_fwd8 (W / 1048576 % 32) (Nat.mod_lt _ (by decide)) (immOf 8 W) hn
  clear hn
  generalize hv : immOf 8 W = v at *
  have q0_20 : rpart v 0 6 20 = (W : Int) / 1048576 % 32 * 1048576 := (rpart_fld v 0 6 20 (by decide)).trans (by rw [e0_20]; exact cast3 W 1048576 32 1048576)
  have hm : v.tmod 1 = 0 := Int.tmod_one v
  have hm1 : decide (v.tmod 1 = 0) = true := decide_eq_true hm
  have hr1 : decide (0 ≤ v) = true := decide_eq_true r1
  have hr2 : decide (v ≤ 31) = true := decide_eq_true r2
  refine ⟨?_, ?_⟩
  · simp only [fieldsOf, partsOf, rightBy, g_7_5, g_15_5, g_20_5, g_20_12, x5, x15, x20, x12, rok0, rok5 W, rok15 W, rok20 W, cok0 W, cok1 W, hv, hm1, hr1, hr2, Int.reduceBEq, Int.reduceEq, Bool.false_eq_true, ↓reduceIte, decide_true, Bool.and_self, Bool.not_false, Bool.true_or, Bool.or_true, Bool.false_or]
  · simp only [fieldsOf, partsOf, rwordBy, immR, rnumber, g_7_5, g_15_5, g_20_5, g_20_12, g_26_1, g_25_1, x5, x15, x20, x12, hv, q0_20, Int.reduceBEq, Int.reduceEq, Int.reduceNe, Bool.false_eq_true, ↓reduceIte, Bool.or_eq_true, Bool.or_self, Bool.or_false, Bool.or_true, Bool.false_or, Bool.true_or, decide_eq_true_eq, Bool.not_eq_true', Bool.and_eq_true]
    clear x5 x15 x20 x12
    clear q0_20 e0_20 hm hm1 hr1 hr2 hv r1 r2
    have hs := sums8 W hw
    generalize (W : Int) % 128 = a0 at *
    generalize (W : Int) / 128 % 32 = a1 at *
    generalize (W : Int) / 4096 % 8 = a2 at *
    generalize (W : Int) / 32768 % 32 = a3 at *
    generalize (W : Int) / 1048576 % 32 = a4 at *
    generalize (W : Int) / 33554432 = a5 at *
    omega

theorem sums9 (W : Nat) (hw : W < 4294967296) : (W : Int) = (W : Int) % 128 + (W : Int) / 128 % 32 * 128 + (W : Int) / 4096 % 8 * 4096 + (W : Int) / 32768 % 32 * 32768 + (W : Int) / 1048576 % 32 * 1048576 + (W : Int) / 33554432 * 33554432 := by
  omega

set_option maxHeartbeats 1000000 in
theorem whose9 (nm : ByteArray) (k : Int) (c f3 f7 : Nat) (W : Nat) (hw : W < 4294967296) (hh : HitP ⟨nm, 9, c, f3, f7⟩ W) : rightBy (partsOf 9) (fieldsOf k 9 W) = true ∧ rwordBy ⟨nm, 9, c, f3, f7⟩ (fieldsOf k 9 W) = W := by
  simp only [HitP, ne_eq, not_true_eq_false, not_false_eq_true, and_self, and_true, true_and, false_and, and_false, or_false, false_or, or_self, or_true, true_or, forall_const, false_implies, true_implies, implies_true, Int.reduceBEq, Int.reduceEq, Int.reduceNe, Bool.false_eq_true, ↓reduceIte, Bool.or_eq_true, Bool.or_self, Bool.or_false, Bool.or_true, Bool.false_or, Bool.true_or, decide_eq_true_eq, Bool.not_eq_true', Bool.and_eq_true] at hh
  have x5 := wself5 W
  have x15 := wself15 W
  have x20 := wself20 W
  have x12 := wself12 W
  refine ⟨?_, ?_⟩
  · simp only [fieldsOf, partsOf, rightBy, g_7_5, g_15_5, g_20_5, g_20_12, x5, x15, x20, x12, rok0, rok5 W, rok15 W, rok20 W, cok0 W, cok1 W, Int.reduceBEq, Int.reduceEq, Bool.false_eq_true, ↓reduceIte, decide_true, Bool.and_self, Bool.not_false, Bool.true_or, Bool.or_true, Bool.false_or]
  · simp only [fieldsOf, partsOf, rwordBy, immR, rnumber, g_7_5, g_15_5, g_20_5, g_20_12, g_26_1, g_25_1, x5, x15, x20, x12, Int.reduceBEq, Int.reduceEq, Int.reduceNe, Bool.false_eq_true, ↓reduceIte, Bool.or_eq_true, Bool.or_self, Bool.or_false, Bool.or_true, Bool.false_or, Bool.true_or, decide_eq_true_eq, Bool.not_eq_true', Bool.and_eq_true]
    clear x5 x15 x20 x12
    have hs := sums9 W hw
    generalize (W : Int) % 128 = a0 at *
    generalize (W : Int) / 128 % 32 = a1 at *
    generalize (W : Int) / 4096 % 8 = a2 at *
    generalize (W : Int) / 32768 % 32 = a3 at *
    generalize (W : Int) / 1048576 % 32 = a4 at *
    generalize (W : Int) / 33554432 = a5 at *
    omega

theorem sums10 (W : Nat) (hw : W < 4294967296) : (W : Int) = (W : Int) % 128 + (W : Int) / 128 % 32 * 128 + (W : Int) / 4096 % 8 * 4096 + (W : Int) / 32768 % 32 * 32768 + (W : Int) / 1048576 % 4096 * 1048576 := by
  omega

set_option maxHeartbeats 1000000 in
theorem whose10 (nm : ByteArray) (k : Int) (c f3 f7 : Nat) (W : Nat) (hw : W < 4294967296) (hh : HitP ⟨nm, 10, c, f3, f7⟩ W) : rightBy (partsOf 10) (fieldsOf k 10 W) = true ∧ rwordBy ⟨nm, 10, c, f3, f7⟩ (fieldsOf k 10 W) = W := by
  simp only [HitP, ne_eq, not_true_eq_false, not_false_eq_true, and_self, and_true, true_and, false_and, and_false, or_false, false_or, or_self, or_true, true_or, forall_const, false_implies, true_implies, implies_true, Int.reduceBEq, Int.reduceEq, Int.reduceNe, Bool.false_eq_true, ↓reduceIte, Bool.or_eq_true, Bool.or_self, Bool.or_false, Bool.or_true, Bool.false_or, Bool.true_or, decide_eq_true_eq, Bool.not_eq_true', Bool.and_eq_true] at hh
  have x5 := wself5 W
  have x15 := wself15 W
  have x20 := wself20 W
  have x12 := wself12 W
  have hn := immOf_num 10 W
  simp only [numOf, Int.reduceEq, ↓reduceIte] at hn
  obtain ⟨e0_20, r1, r2⟩ := low_fwd10 (W / 1048576 % 4096) (Nat.mod_lt _ (by decide)) (immOf 10 W) hn
  clear hn
  generalize hv : immOf 10 W = v at *
  have q0_20 : rpart v 0 12 20 = (W : Int) / 1048576 % 4096 * 1048576 := (rpart_fld v 0 12 20 (by decide)).trans (by rw [e0_20]; exact cast3 W 1048576 4096 1048576)
  have hm : v.tmod 1 = 0 := Int.tmod_one v
  have hm1 : decide (v.tmod 1 = 0) = true := decide_eq_true hm
  have hr1 : decide (0 ≤ v) = true := decide_eq_true r1
  have hr2 : decide (v ≤ 4095) = true := decide_eq_true r2
  refine ⟨?_, ?_⟩
  · simp only [fieldsOf, partsOf, rightBy, g_7_5, g_15_5, g_20_5, g_20_12, x5, x15, x20, x12, rok0, rok5 W, rok15 W, rok20 W, cok0 W, cok1 W, hv, hm1, hr1, hr2, Int.reduceBEq, Int.reduceEq, Bool.false_eq_true, ↓reduceIte, decide_true, Bool.and_self, Bool.not_false, Bool.true_or, Bool.or_true, Bool.false_or]
  · simp only [fieldsOf, partsOf, rwordBy, immR, rnumber, g_7_5, g_15_5, g_20_5, g_20_12, g_26_1, g_25_1, x5, x15, x20, x12, hv, q0_20, Int.reduceBEq, Int.reduceEq, Int.reduceNe, Bool.false_eq_true, ↓reduceIte, Bool.or_eq_true, Bool.or_self, Bool.or_false, Bool.or_true, Bool.false_or, Bool.true_or, decide_eq_true_eq, Bool.not_eq_true', Bool.and_eq_true]
    clear x5 x15 x20 x12
    clear q0_20 e0_20 hm hm1 hr1 hr2 hv r1 r2
    have hs := sums10 W hw
    generalize (W : Int) % 128 = a0 at *
    generalize (W : Int) / 128 % 32 = a1 at *
    generalize (W : Int) / 4096 % 8 = a2 at *
    generalize (W : Int) / 32768 % 32 = a3 at *
    generalize (W : Int) / 1048576 % 4096 = a4 at *
    omega

theorem sums11 (W : Nat) (hw : W < 4294967296) (z15 : (W : Int) / 32768 % 32 = 0) (z7 : (W : Int) / 128 % 32 = 0) : (W : Int) = (W : Int) % 128 + (W : Int) / 4096 % 8 * 4096 + (W : Int) / 1048576 * 1048576 := by
  omega

set_option maxHeartbeats 1000000 in
theorem whose11 (nm : ByteArray) (k : Int) (c f3 f7 : Nat) (W : Nat) (hw : W < 4294967296) (hh : HitP ⟨nm, 11, c, f3, f7⟩ W) : rightBy (partsOf 11) (fieldsOf k 11 W) = true ∧ rwordBy ⟨nm, 11, c, f3, f7⟩ (fieldsOf k 11 W) = W := by
  simp only [HitP, ne_eq, not_true_eq_false, not_false_eq_true, and_self, and_true, true_and, false_and, and_false, or_false, false_or, or_self, or_true, true_or, forall_const, false_implies, true_implies, implies_true, Int.reduceBEq, Int.reduceEq, Int.reduceNe, Bool.false_eq_true, ↓reduceIte, Bool.or_eq_true, Bool.or_self, Bool.or_false, Bool.or_true, Bool.false_or, Bool.true_or, decide_eq_true_eq, Bool.not_eq_true', Bool.and_eq_true] at hh
  have x5 := wself5 W
  have x15 := wself15 W
  have x20 := wself20 W
  have x12 := wself12 W
  refine ⟨?_, ?_⟩
  · simp only [fieldsOf, partsOf, rightBy, g_7_5, g_15_5, g_20_5, g_20_12, x5, x15, x20, x12, rok0, rok5 W, rok15 W, rok20 W, cok0 W, cok1 W, Int.reduceBEq, Int.reduceEq, Bool.false_eq_true, ↓reduceIte, decide_true, Bool.and_self, Bool.not_false, Bool.true_or, Bool.or_true, Bool.false_or]
  · simp only [fieldsOf, partsOf, rwordBy, immR, rnumber, g_7_5, g_15_5, g_20_5, g_20_12, g_26_1, g_25_1, x5, x15, x20, x12, Int.reduceBEq, Int.reduceEq, Int.reduceNe, Bool.false_eq_true, ↓reduceIte, Bool.or_eq_true, Bool.or_self, Bool.or_false, Bool.or_true, Bool.false_or, Bool.true_or, decide_eq_true_eq, Bool.not_eq_true', Bool.and_eq_true]
    clear x5 x15 x20 x12
    have hs := sums11 W hw (by omega) (by omega)
    generalize (W : Int) % 128 = a0 at *
    generalize (W : Int) / 4096 % 8 = a1 at *
    generalize (W : Int) / 1048576 = a2 at *
    omega

theorem sums12 (W : Nat) (hw : W < 4294967296) : (W : Int) = (W : Int) % 128 + (W : Int) / 128 % 32 * 128 + (W : Int) / 4096 % 8 * 4096 + (W : Int) / 32768 % 32 * 32768 + (W : Int) / 1048576 % 4096 * 1048576 := by
  omega

set_option maxHeartbeats 1000000 in
theorem whose12 (nm : ByteArray) (k : Int) (c f3 f7 : Nat) (W : Nat) (hw : W < 4294967296) (hh : HitP ⟨nm, 12, c, f3, f7⟩ W) : rightBy (partsOf 12) (fieldsOf k 12 W) = true ∧ rwordBy ⟨nm, 12, c, f3, f7⟩ (fieldsOf k 12 W) = W := by
  simp only [HitP, ne_eq, not_true_eq_false, not_false_eq_true, and_self, and_true, true_and, false_and, and_false, or_false, false_or, or_self, or_true, true_or, forall_const, false_implies, true_implies, implies_true, Int.reduceBEq, Int.reduceEq, Int.reduceNe, Bool.false_eq_true, ↓reduceIte, Bool.or_eq_true, Bool.or_self, Bool.or_false, Bool.or_true, Bool.false_or, Bool.true_or, decide_eq_true_eq, Bool.not_eq_true', Bool.and_eq_true] at hh
  have x5 := wself5 W
  have x15 := wself15 W
  have x20 := wself20 W
  have x12 := wself12 W
  refine ⟨?_, ?_⟩
  · simp only [fieldsOf, partsOf, rightBy, g_7_5, g_15_5, g_20_5, g_20_12, x5, x15, x20, x12, rok0, rok5 W, rok15 W, rok20 W, cok0 W, cok1 W, Int.reduceBEq, Int.reduceEq, Bool.false_eq_true, ↓reduceIte, decide_true, Bool.and_self, Bool.not_false, Bool.true_or, Bool.or_true, Bool.false_or]
  · simp only [fieldsOf, partsOf, rwordBy, immR, rnumber, g_7_5, g_15_5, g_20_5, g_20_12, g_26_1, g_25_1, x5, x15, x20, x12, Int.reduceBEq, Int.reduceEq, Int.reduceNe, Bool.false_eq_true, ↓reduceIte, Bool.or_eq_true, Bool.or_self, Bool.or_false, Bool.or_true, Bool.false_or, Bool.true_or, decide_eq_true_eq, Bool.not_eq_true', Bool.and_eq_true]
    clear x5 x15 x20 x12
    have hs := sums12 W hw
    generalize (W : Int) % 128 = a0 at *
    generalize (W : Int) / 128 % 32 = a1 at *
    generalize (W : Int) / 4096 % 8 = a2 at *
    generalize (W : Int) / 32768 % 32 = a3 at *
    generalize (W : Int) / 1048576 % 4096 = a4 at *
    omega

theorem sums13 (W : Nat) (hw : W < 4294967296) : (W : Int) = (W : Int) % 128 + (W : Int) / 128 % 32 * 128 + (W : Int) / 4096 % 8 * 4096 + (W : Int) / 32768 % 32 * 32768 + (W : Int) / 1048576 % 4096 * 1048576 := by
  omega

set_option maxHeartbeats 1000000 in
theorem whose13 (nm : ByteArray) (k : Int) (c f3 f7 : Nat) (W : Nat) (hw : W < 4294967296) (hh : HitP ⟨nm, 13, c, f3, f7⟩ W) : rightBy (partsOf 13) (fieldsOf k 13 W) = true ∧ rwordBy ⟨nm, 13, c, f3, f7⟩ (fieldsOf k 13 W) = W := by
  simp only [HitP, ne_eq, not_true_eq_false, not_false_eq_true, and_self, and_true, true_and, false_and, and_false, or_false, false_or, or_self, or_true, true_or, forall_const, false_implies, true_implies, implies_true, Int.reduceBEq, Int.reduceEq, Int.reduceNe, Bool.false_eq_true, ↓reduceIte, Bool.or_eq_true, Bool.or_self, Bool.or_false, Bool.or_true, Bool.false_or, Bool.true_or, decide_eq_true_eq, Bool.not_eq_true', Bool.and_eq_true] at hh
  have x5 := wself5 W
  have x15 := wself15 W
  have x20 := wself20 W
  have x12 := wself12 W
  have hn := immOf_num 13 W
  simp only [numOf, Int.reduceEq, ↓reduceIte] at hn
  obtain ⟨e0_15, r1, r2⟩ := low_fwd13 (W / 32768 % 32) (Nat.mod_lt _ (by decide)) (immOf 13 W) hn
  clear hn
  generalize hv : immOf 13 W = v at *
  have q0_15 : rpart v 0 5 15 = (W : Int) / 32768 % 32 * 32768 := (rpart_fld v 0 5 15 (by decide)).trans (by rw [e0_15]; exact cast3 W 32768 32 32768)
  have hm : v.tmod 1 = 0 := Int.tmod_one v
  have hm1 : decide (v.tmod 1 = 0) = true := decide_eq_true hm
  have hr1 : decide (0 ≤ v) = true := decide_eq_true r1
  have hr2 : decide (v ≤ 31) = true := decide_eq_true r2
  refine ⟨?_, ?_⟩
  · simp only [fieldsOf, partsOf, rightBy, g_7_5, g_15_5, g_20_5, g_20_12, x5, x15, x20, x12, rok0, rok5 W, rok15 W, rok20 W, cok0 W, cok1 W, hv, hm1, hr1, hr2, Int.reduceBEq, Int.reduceEq, Bool.false_eq_true, ↓reduceIte, decide_true, Bool.and_self, Bool.not_false, Bool.true_or, Bool.or_true, Bool.false_or]
  · simp only [fieldsOf, partsOf, rwordBy, immR, rnumber, g_7_5, g_15_5, g_20_5, g_20_12, g_26_1, g_25_1, x5, x15, x20, x12, hv, q0_15, Int.reduceBEq, Int.reduceEq, Int.reduceNe, Bool.false_eq_true, ↓reduceIte, Bool.or_eq_true, Bool.or_self, Bool.or_false, Bool.or_true, Bool.false_or, Bool.true_or, decide_eq_true_eq, Bool.not_eq_true', Bool.and_eq_true]
    clear x5 x15 x20 x12
    clear q0_15 e0_15 hm hm1 hr1 hr2 hv r1 r2
    have hs := sums13 W hw
    generalize (W : Int) % 128 = a0 at *
    generalize (W : Int) / 128 % 32 = a1 at *
    generalize (W : Int) / 4096 % 8 = a2 at *
    generalize (W : Int) / 32768 % 32 = a3 at *
    generalize (W : Int) / 1048576 % 4096 = a4 at *
    omega

theorem sums14 (W : Nat) (hw : W < 4294967296) (z20 : (W : Int) / 1048576 % 32 = 0) : (W : Int) = (W : Int) % 128 + (W : Int) / 128 % 32 * 128 + (W : Int) / 4096 % 8 * 4096 + (W : Int) / 32768 % 32 * 32768 + (W : Int) / 33554432 % 2 * 33554432 + (W : Int) / 67108864 % 2 * 67108864 + (W : Int) / 134217728 * 134217728 := by
  omega

set_option maxHeartbeats 1000000 in
theorem whose14 (nm : ByteArray) (k : Int) (c f3 f7 : Nat) (W : Nat) (hw : W < 4294967296) (hh : HitP ⟨nm, 14, c, f3, f7⟩ W) : rightBy (partsOf 14) (fieldsOf k 14 W) = true ∧ rwordBy ⟨nm, 14, c, f3, f7⟩ (fieldsOf k 14 W) = W := by
  simp only [HitP, ne_eq, not_true_eq_false, not_false_eq_true, and_self, and_true, true_and, false_and, and_false, or_false, false_or, or_self, or_true, true_or, forall_const, false_implies, true_implies, implies_true, Int.reduceBEq, Int.reduceEq, Int.reduceNe, Bool.false_eq_true, ↓reduceIte, Bool.or_eq_true, Bool.or_self, Bool.or_false, Bool.or_true, Bool.false_or, Bool.true_or, decide_eq_true_eq, Bool.not_eq_true', Bool.and_eq_true] at hh
  have x5 := wself5 W
  have x15 := wself15 W
  have x20 := wself20 W
  have x12 := wself12 W
  refine ⟨?_, ?_⟩
  · simp only [fieldsOf, partsOf, rightBy, g_7_5, g_15_5, g_20_5, g_20_12, x5, x15, x20, x12, rok0, rok5 W, rok15 W, rok20 W, cok0 W, cok1 W, Int.reduceBEq, Int.reduceEq, Bool.false_eq_true, ↓reduceIte, decide_true, Bool.and_self, Bool.not_false, Bool.true_or, Bool.or_true, Bool.false_or]
  · simp only [fieldsOf, partsOf, rwordBy, immR, rnumber, g_7_5, g_15_5, g_20_5, g_20_12, g_26_1, g_25_1, x5, x15, x20, x12, Int.reduceBEq, Int.reduceEq, Int.reduceNe, Bool.false_eq_true, ↓reduceIte, Bool.or_eq_true, Bool.or_self, Bool.or_false, Bool.or_true, Bool.false_or, Bool.true_or, decide_eq_true_eq, Bool.not_eq_true', Bool.and_eq_true]
    clear x5 x15 x20 x12
    have hs := sums14 W hw (by omega)
    rcases par ((W : Int) / 67108864) with ha | ha <;> rcases par ((W : Int) / 33554432) with hl | hl <;> simp only [ha, hl, Int.reduceBEq, Int.reduceEq, Int.reduceNe, Bool.false_eq_true, ↓reduceIte, Bool.or_eq_true, Bool.or_self, Bool.or_false, Bool.or_true, Bool.false_or, Bool.true_or, decide_eq_true_eq, Bool.not_eq_true', Bool.and_eq_true] at hs ⊢ <;> clear ha hl
    all_goals
      generalize (W : Int) % 128 = a0 at *
      generalize (W : Int) / 128 % 32 = a1 at *
      generalize (W : Int) / 4096 % 8 = a2 at *
      generalize (W : Int) / 32768 % 32 = a3 at *
      generalize (W : Int) / 134217728 = a6 at *
      omega

theorem sums15 (W : Nat) (hw : W < 4294967296) : (W : Int) = (W : Int) % 128 + (W : Int) / 128 % 32 * 128 + (W : Int) / 4096 % 8 * 4096 + (W : Int) / 32768 % 32 * 32768 + (W : Int) / 1048576 % 32 * 1048576 + (W : Int) / 33554432 % 2 * 33554432 + (W : Int) / 67108864 % 2 * 67108864 + (W : Int) / 134217728 * 134217728 := by
  omega

set_option maxHeartbeats 1000000 in
theorem whose15 (nm : ByteArray) (k : Int) (c f3 f7 : Nat) (W : Nat) (hw : W < 4294967296) (hh : HitP ⟨nm, 15, c, f3, f7⟩ W) : rightBy (partsOf 15) (fieldsOf k 15 W) = true ∧ rwordBy ⟨nm, 15, c, f3, f7⟩ (fieldsOf k 15 W) = W := by
  simp only [HitP, ne_eq, not_true_eq_false, not_false_eq_true, and_self, and_true, true_and, false_and, and_false, or_false, false_or, or_self, or_true, true_or, forall_const, false_implies, true_implies, implies_true, Int.reduceBEq, Int.reduceEq, Int.reduceNe, Bool.false_eq_true, ↓reduceIte, Bool.or_eq_true, Bool.or_self, Bool.or_false, Bool.or_true, Bool.false_or, Bool.true_or, decide_eq_true_eq, Bool.not_eq_true', Bool.and_eq_true] at hh
  have x5 := wself5 W
  have x15 := wself15 W
  have x20 := wself20 W
  have x12 := wself12 W
  refine ⟨?_, ?_⟩
  · simp only [fieldsOf, partsOf, rightBy, g_7_5, g_15_5, g_20_5, g_20_12, x5, x15, x20, x12, rok0, rok5 W, rok15 W, rok20 W, cok0 W, cok1 W, Int.reduceBEq, Int.reduceEq, Bool.false_eq_true, ↓reduceIte, decide_true, Bool.and_self, Bool.not_false, Bool.true_or, Bool.or_true, Bool.false_or]
  · simp only [fieldsOf, partsOf, rwordBy, immR, rnumber, g_7_5, g_15_5, g_20_5, g_20_12, g_26_1, g_25_1, x5, x15, x20, x12, Int.reduceBEq, Int.reduceEq, Int.reduceNe, Bool.false_eq_true, ↓reduceIte, Bool.or_eq_true, Bool.or_self, Bool.or_false, Bool.or_true, Bool.false_or, Bool.true_or, decide_eq_true_eq, Bool.not_eq_true', Bool.and_eq_true]
    clear x5 x15 x20 x12
    have hs := sums15 W hw
    rcases par ((W : Int) / 67108864) with ha | ha <;> rcases par ((W : Int) / 33554432) with hl | hl <;> simp only [ha, hl, Int.reduceBEq, Int.reduceEq, Int.reduceNe, Bool.false_eq_true, ↓reduceIte, Bool.or_eq_true, Bool.or_self, Bool.or_false, Bool.or_true, Bool.false_or, Bool.true_or, decide_eq_true_eq, Bool.not_eq_true', Bool.and_eq_true] at hs ⊢ <;> clear ha hl
    all_goals
      generalize (W : Int) % 128 = a0 at *
      generalize (W : Int) / 128 % 32 = a1 at *
      generalize (W : Int) / 4096 % 8 = a2 at *
      generalize (W : Int) / 32768 % 32 = a3 at *
      generalize (W : Int) / 1048576 % 32 = a4 at *
      generalize (W : Int) / 134217728 = a7 at *
      omega

theorem sums16 (W : Nat) (hw : W < 4294967296) (z7 : (W : Int) / 128 % 32 = 0) : (W : Int) = (W : Int) % 128 + (W : Int) / 4096 % 8 * 4096 + (W : Int) / 32768 % 32 * 32768 + (W : Int) / 1048576 % 32 * 1048576 + (W : Int) / 33554432 * 33554432 := by
  omega

set_option maxHeartbeats 1000000 in
theorem whose16 (nm : ByteArray) (k : Int) (c f3 f7 : Nat) (W : Nat) (hw : W < 4294967296) (hh : HitP ⟨nm, 16, c, f3, f7⟩ W) : rightBy (partsOf 16) (fieldsOf k 16 W) = true ∧ rwordBy ⟨nm, 16, c, f3, f7⟩ (fieldsOf k 16 W) = W := by
  simp only [HitP, ne_eq, not_true_eq_false, not_false_eq_true, and_self, and_true, true_and, false_and, and_false, or_false, false_or, or_self, or_true, true_or, forall_const, false_implies, true_implies, implies_true, Int.reduceBEq, Int.reduceEq, Int.reduceNe, Bool.false_eq_true, ↓reduceIte, Bool.or_eq_true, Bool.or_self, Bool.or_false, Bool.or_true, Bool.false_or, Bool.true_or, decide_eq_true_eq, Bool.not_eq_true', Bool.and_eq_true] at hh
  have x5 := wself5 W
  have x15 := wself15 W
  have x20 := wself20 W
  have x12 := wself12 W
  refine ⟨?_, ?_⟩
  · simp only [fieldsOf, partsOf, rightBy, g_7_5, g_15_5, g_20_5, g_20_12, x5, x15, x20, x12, rok0, rok5 W, rok15 W, rok20 W, cok0 W, cok1 W, Int.reduceBEq, Int.reduceEq, Bool.false_eq_true, ↓reduceIte, decide_true, Bool.and_self, Bool.not_false, Bool.true_or, Bool.or_true, Bool.false_or]
  · simp only [fieldsOf, partsOf, rwordBy, immR, rnumber, g_7_5, g_15_5, g_20_5, g_20_12, g_26_1, g_25_1, x5, x15, x20, x12, Int.reduceBEq, Int.reduceEq, Int.reduceNe, Bool.false_eq_true, ↓reduceIte, Bool.or_eq_true, Bool.or_self, Bool.or_false, Bool.or_true, Bool.false_or, Bool.true_or, decide_eq_true_eq, Bool.not_eq_true', Bool.and_eq_true]
    clear x5 x15 x20 x12
    have hs := sums16 W hw (by omega)
    generalize (W : Int) % 128 = a0 at *
    generalize (W : Int) / 4096 % 8 = a1 at *
    generalize (W : Int) / 32768 % 32 = a2 at *
    generalize (W : Int) / 1048576 % 32 = a3 at *
    generalize (W : Int) / 33554432 = a4 at *
    omega

set_option maxHeartbeats 4000000 in
theorem word_whose (k : Int) (h1 : 1 ≤ k) (h2 : k ≤ 98) (W : Nat) (hw : W < 4294967296) (hh : HitP (rowAt k) W) :
    rightBy (partsOf (rowAt k).form) (fieldsOf k (rowAt k).form W) = true ∧ rword (fieldsOf k (rowAt k).form W) = W := by
  have hfo := form_ok k h1 h2
  have hbd := row_bd k h1 h2
  have e : ∀ f, rword (fieldsOf k f W) = rwordBy (rowAt k) (fieldsOf k f W) := fun _ => rfl
  rw [e]
  clear e
  generalize rowAt k = r at *
  obtain ⟨nm, form, c, f3, f7⟩ := r
  dsimp only [RowBd] at *
  obtain ⟨b1, b2, b3, b4, b5, b6⟩ := hbd
  obtain ⟨c, rfl⟩ := Int.eq_ofNat_of_zero_le b1
  obtain ⟨f3, rfl⟩ := Int.eq_ofNat_of_zero_le b3
  obtain ⟨f7, rfl⟩ := Int.eq_ofNat_of_zero_le b5
  have hc : c < 128 := by omega
  have hf3 : f3 < 8 := by omega
  rcases hfo with rfl | rfl | rfl | rfl | rfl | rfl | rfl | rfl | rfl | rfl | rfl | rfl | rfl | rfl | rfl | rfl
  · exact whose1 nm k c f3 f7 W hw hh
  · exact whose2 nm k c f3 f7 W hw hh
  · exact whose3 nm k c f3 f7 W hw hh
  · exact whose4 nm k c f3 f7 W hw hh
  · exact whose5 nm k c f3 f7 W hw hh
  · exact whose6 nm k c f3 f7 W hw hh
  · exact whose7 nm k c f3 f7 W hw hh
  · exact whose8 nm k c f3 f7 W hw hh
  · exact whose9 nm k c f3 f7 W hw hh
  · exact whose10 nm k c f3 f7 W hw hh
  · exact whose11 nm k c f3 f7 W hw hh
  · exact whose12 nm k c f3 f7 W hw hh
  · exact whose13 nm k c f3 f7 W hw hh
  · exact whose14 nm k c f3 f7 W hw hh
  · exact whose15 nm k c f3 f7 W hw hh
  · exact whose16 nm k c f3 f7 W hw hh

end Go.Proofs.YteidojpklpfdeaaDoor

namespace Go.Proofs.YteidojpklpfdeaaDoor
open Go.RowKit
set_option linter.unusedVariables false
set_option linter.unusedSimpArgs false

theorem ins_guard : Tryd.prog.eqGuardType Tryd.prog.depth 24 = false := by kernel_rfl
theorem ins_held : Tryd.prog.stoodInHeld 24 = false := by kernel_rfl
theorem ins_flds : Tryd.prog.underlying 24 = some (.struct (Tryd.prog.fieldsOf 24)) := by kernel_rfl

theorem eq_ins (x y : Ins) (w : World) : (binOp .eql 24 (.agg #[.int .i64 x.op, .int .i64 x.rd, .int .i64 x.rs1, .int .i64 x.rs2, .int .i64 x.imm, .int .i64 x.csr, .bool x.aq, .bool x.rl]) (.agg #[.int .i64 y.op, .int .i64 y.rd, .int .i64 y.rs1, .int .i64 y.rs2, .int .i64 y.imm, .int .i64 y.csr, .bool y.aq, .bool y.rl])).run Tryd.prog w = .ok (.bool (decide (x = y))) w := by
  obtain ⟨a0, a1, a2, a3, a4, a5, a6, a7⟩ := x
  obtain ⟨b0, b1, b2, b3, b4, b5, b6, b7⟩ := y
  rw [run_eql_struct, run_equalIn_struct _ _ _ _ _ ins_flds ins_held]
  simp [Program.fieldsOf, Tryd.underlying24, Op.eqFields, go_sem]
  repeat' split <;> simp_all

theorem decoded_whose (W : Nat) (hw : W < 4294967296) (a : Ins) (c : Int) (hd : Decoded W a c) : (c = 0 ∧ right a = true ∧ wordOf a = W) ∨ (c = 31 ∧ a = zeroIns) := by
  rcases hd with ⟨k, k1, k2, _, k3, rfl, rfl⟩ | ⟨_, rfl, rfl⟩
  · left
    have hp := (hit_iff k (by omega) (by omega) W hw).1 k3
    obtain ⟨g1, g2⟩ := word_whose k (by omega) (by omega) W hw hp
    have ho : (fieldsOf k (rowAt k).form W).op = k := rfl
    refine ⟨rfl, ?_, ?_⟩
    · unfold right
      rw [ho, g1]
      simp [known]; omega
    · rw [word_eq _ (by rw [ho]; omega) (by rw [ho]; omega) (by rw [ho]; exact g1), g2]
  · exact .inr ⟨rfl, rfl⟩

end Go.Proofs.YteidojpklpfdeaaDoor
