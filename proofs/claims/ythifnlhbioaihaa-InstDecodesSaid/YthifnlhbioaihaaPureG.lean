/- Plain: the instruction that a word would be is the document's. -/
import Derived.Test.YthifnlhbioaihaaPureE
import Derived.Test.YthifnlhbioaihaaRefE0
namespace Go.Proofs.Ythifnlhbioaihaa
open Go.RowKit
set_option linter.unusedVariables false
set_option linter.unusedSimpArgs false

theorem val_append (l m : List Int) : val (l ++ m) = val l + 2 ^ l.length * val m := by
  induction l with
  | nil => simp [val]
  | cons b l ih =>
    simp only [List.cons_append, val, ih, List.length_cons]
    rw [Int.pow_succ, Int.mul_comm (2 ^ l.length) 2, Int.mul_assoc, Int.mul_add]
    omega

theorem val_const (b : Int) (k : Nat) : val (List.replicate k b) = b * (2 ^ k - 1) := by
  induction k with
  | zero => simp [val]
  | succ k ih =>
    simp only [List.replicate_succ, val, ih]
    have e : b * (2 ^ k * 2 - 1) = 2 * (b * 2 ^ k) - b := by rw [Int.mul_sub, Int.mul_one, Int.mul_comm (2 ^ k) 2, ← Int.mul_assoc, Int.mul_comm b 2, Int.mul_assoc]
    rw [Int.pow_succ, e, Int.mul_sub, Int.mul_one]
    omega

theorem sxList_eq (x : Int) (n : Nat) (h1 : 1 ≤ n) (h : n ≤ 64) : sxList x n = bitsFrom x 0 n ++ List.replicate (64 - n) (bitAt x (n - 1)) := by
  apply List.ext_getElem
  · simp [sxList, bitsFrom]; omega
  · intro j h1 h2
    have hj : j < 64 := by simpa [sxList] using h1
    rw [List.getElem_append]
    split
    · next hlt =>
      have hlt' : j < n := by simpa [bitsFrom] using hlt
      simp [sxList, sx, bitsFrom, hlt']
    · next hlt =>
      have hlt' : ¬ j < n := by simpa [bitsFrom] using hlt
      simp [sxList, sx, hlt', hj]

theorem rsext_eq (x : Int) (n : Nat) (h1 : 1 ≤ n) (h : n ≤ 64) : rsext x n = x % 2 ^ n + 2 ^ n * (bitAt x (n - 1) * (2 ^ (64 - n) - 1)) := by
  unfold rsext
  rw [Int.toNat_natCast, sxList_eq x n h1 h, val_append, val_const, bitsFrom_len, val_bitsFrom]
  simp

theorem rsext32 (v : Nat) (h : v < 4294967296) : wrap64 (rsext (v : Int) 32) = sgn 2147483648 v := by
  have e : rsext (v : Int) 32 = _ := rsext_eq v 32 (by omega) (by omega)
  simp only [bitAt, Nat.reduceSub, Int.reducePow, Int.reduceSub] at e
  rw [e]
  unfold sgn wrap64
  split <;> omega
theorem rsext21 (v : Nat) (h : v < 2097152) : wrap64 (rsext (v : Int) 21) = sgn 1048576 v := by
  have e : rsext (v : Int) 21 = _ := rsext_eq v 21 (by omega) (by omega)
  simp only [bitAt, Nat.reduceSub, Int.reducePow, Int.reduceSub] at e
  rw [e]
  unfold sgn wrap64
  split <;> omega
theorem rsext13 (v : Nat) (h : v < 8192) : wrap64 (rsext (v : Int) 13) = sgn 4096 v := by
  have e : rsext (v : Int) 13 = _ := rsext_eq v 13 (by omega) (by omega)
  simp only [bitAt, Nat.reduceSub, Int.reducePow, Int.reduceSub] at e
  rw [e]
  unfold sgn wrap64
  split <;> omega
theorem rsext12 (v : Nat) (h : v < 4096) : wrap64 (rsext (v : Int) 12) = sgn 2048 v := by
  have e : rsext (v : Int) 12 = _ := rsext_eq v 12 (by omega) (by omega)
  simp only [bitAt, Nat.reduceSub, Int.reducePow, Int.reduceSub] at e
  rw [e]
  unfold sgn wrap64
  split <;> omega

theorem rback_num (f : Int) (w : Nat) (hf : IsForm f) : rback f w = if (partsOf f).imm then numOf f w else 0 := by
  rcases hf with rfl | rfl | rfl | rfl | rfl | rfl | rfl | rfl | rfl | rfl | rfl | rfl | rfl | rfl | rfl | rfl
  all_goals simp only [rback, numOf, partsOf, g_7_5, g_15_5, g_20_5, g_20_6, g_20_12, g_12_20, g_31_1, g_21_10, g_20_1, g_12_8, g_25_6, g_8_4, g_7_1, g_25_7, Int.reduceBEq, Int.reduceEq, Bool.false_eq_true, ↓reduceIte, Bool.or_self, Bool.or_false, Bool.or_true, Bool.false_or, Bool.true_or]
  · have h := rsext32 (w / 4096 % 1048576 * 4096) (by omega)
    rw [show ((w : Int) / 4096 % 1048576 * 4096) = ((w / 4096 % 1048576 * 4096 : Nat) : Int) by omega, h]
  · have h := rsext21 (w / 2147483648 % 2 * 1048576 + w / 2097152 % 1024 * 2 + w / 1048576 % 2 * 2048 + w / 4096 % 256 * 4096) (by omega)
    rw [show ((w : Int) / 2147483648 % 2 * 1048576 + (w : Int) / 2097152 % 1024 * 2 + (w : Int) / 1048576 % 2 * 2048 + (w : Int) / 4096 % 256 * 4096) = ((w / 2147483648 % 2 * 1048576 + w / 2097152 % 1024 * 2 + w / 1048576 % 2 * 2048 + w / 4096 % 256 * 4096 : Nat) : Int) by omega, h]
  · have h := rsext12 (w / 1048576 % 4096) (by omega)
    rw [show ((w : Int) / 1048576 % 4096) = ((w / 1048576 % 4096 : Nat) : Int) by omega, h]
  · have h := rsext13 (w / 2147483648 % 2 * 4096 + w / 33554432 % 64 * 32 + w / 256 % 16 * 2 + w / 128 % 2 * 2048) (by omega)
    rw [show ((w : Int) / 2147483648 % 2 * 4096 + (w : Int) / 33554432 % 64 * 32 + (w : Int) / 256 % 16 * 2 + (w : Int) / 128 % 2 * 2048) = ((w / 2147483648 % 2 * 4096 + w / 33554432 % 64 * 32 + w / 256 % 16 * 2 + w / 128 % 2 * 2048 : Nat) : Int) by omega, h]
  · have h := rsext12 (w / 1048576 % 4096) (by omega)
    rw [show ((w : Int) / 1048576 % 4096) = ((w / 1048576 % 4096 : Nat) : Int) by omega, h]
  · have h := rsext12 (w / 33554432 % 128 * 32 + w / 128 % 32) (by omega)
    rw [show ((w : Int) / 33554432 % 128 * 32 + (w : Int) / 128 % 32) = ((w / 33554432 % 128 * 32 + w / 128 % 32 : Nat) : Int) by omega, h]

theorem guess_eq (op f : Int) (w : Nat) (hf : IsForm f) : guessBy op f w = fieldsOf op f w := by
  have hn := immOf_num f w
  have hb := rback_num f w hf
  have w5 : wrap64 ((w : Int) / 128 % 32) = (w : Int) / 128 % 32 := by unfold wrap64; omega
  have w15 : wrap64 ((w : Int) / 32768 % 32) = (w : Int) / 32768 % 32 := by unfold wrap64; omega
  have w20 : wrap64 ((w : Int) / 1048576 % 32) = (w : Int) / 1048576 % 32 := by unfold wrap64; omega
  have w12 : wrap64 ((w : Int) / 1048576 % 4096) = (w : Int) / 1048576 % 4096 := by unfold wrap64; omega
  unfold guessBy fieldsOf
  rw [hb, hn]
  simp only [g_7_5, g_15_5, g_20_5, g_20_12, w5, w15, w20, w12]
  generalize numOf f w = n
  clear hn hb w5 w15 w20 w12
  rcases hf with rfl | rfl | rfl | rfl | rfl | rfl | rfl | rfl | rfl | rfl | rfl | rfl | rfl | rfl | rfl | rfl
  all_goals simp [partsOf, rd_, rs1_, rs2_, sysF, ordF]

end Go.Proofs.Ythifnlhbioaihaa
