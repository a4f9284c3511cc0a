/- Plain: a word's parts as quotients and remainders; a word's number, by its form. -/
import Derived.Test.YthifnlhbioaihaaPureA
import Derived.Test.YthifnlhbioaihaaFields
namespace Go.Proofs.Ythifnlhbioaihaa
open Go.RowKit
set_option linter.unusedVariables false
set_option linter.unusedSimpArgs false

theorem g_7_5 (w : Int) : get w 7 5 = w / 128 % 32 := by have := get_lit w 7 5 (by omega); simpa using this
theorem g_15_5 (w : Int) : get w 15 5 = w / 32768 % 32 := by have := get_lit w 15 5 (by omega); simpa using this
theorem g_20_5 (w : Int) : get w 20 5 = w / 1048576 % 32 := by have := get_lit w 20 5 (by omega); simpa using this
theorem g_20_6 (w : Int) : get w 20 6 = w / 1048576 % 64 := by have := get_lit w 20 6 (by omega); simpa using this
theorem g_20_12 (w : Int) : get w 20 12 = w / 1048576 % 4096 := by have := get_lit w 20 12 (by omega); simpa using this
theorem g_12_20 (w : Int) : get w 12 20 = w / 4096 % 1048576 := by have := get_lit w 12 20 (by omega); simpa using this
theorem g_31_1 (w : Int) : get w 31 1 = w / 2147483648 % 2 := by have := get_lit w 31 1 (by omega); simpa using this
theorem g_21_10 (w : Int) : get w 21 10 = w / 2097152 % 1024 := by have := get_lit w 21 10 (by omega); simpa using this
theorem g_20_1 (w : Int) : get w 20 1 = w / 1048576 % 2 := by have := get_lit w 20 1 (by omega); simpa using this
theorem g_12_8 (w : Int) : get w 12 8 = w / 4096 % 256 := by have := get_lit w 12 8 (by omega); simpa using this
theorem g_25_6 (w : Int) : get w 25 6 = w / 33554432 % 64 := by have := get_lit w 25 6 (by omega); simpa using this
theorem g_8_4 (w : Int) : get w 8 4 = w / 256 % 16 := by have := get_lit w 8 4 (by omega); simpa using this
theorem g_7_1 (w : Int) : get w 7 1 = w / 128 % 2 := by have := get_lit w 7 1 (by omega); simpa using this
theorem g_25_7 (w : Int) : get w 25 7 = w / 33554432 % 128 := by have := get_lit w 25 7 (by omega); simpa using this
theorem g_26_1 (w : Int) : get w 26 1 = w / 67108864 % 2 := by have := get_lit w 26 1 (by omega); simpa using this
theorem g_25_1 (w : Int) : get w 25 1 = w / 33554432 % 2 := by have := get_lit w 25 1 (by omega); simpa using this

/-- A number of twice h, as a signed one. -/
def sgn (h v : Int) : Int := if v < h then v else v - 2 * h

theorem or64_nat (a b : Nat) (ha : a < 18446744073709551616) (hb : b < 18446744073709551616) : or64 (a : Int) (b : Int) = ((a ||| b : Nat) : Int) := u64_or_nat a b ha hb

theorem sext32 (v : Nat) (h : v < 4294967296) : wrap64 (sext (v : Int) 32) = sgn 2147483648 v := by
  have e : sext (v : Int) 32 = if (v : Int) % 4294967296 / 2147483648 % 2 = 1 then or64 ((v : Int) % 4294967296) 18446744069414584320 else (v : Int) % 4294967296 := by
    have g := get_lit ((v : Int) % 4294967296) 31 1 (by omega)
    unfold sext
    rw [if_neg (by decide), if_neg (by decide)]
    simp at g ⊢
    rw [g]
    rfl
  have e2 : ((18446744069414584320 : Int)) = ((4294967295 * 4294967296 : Nat) : Int) := by decide
  have em : (v : Int) % 4294967296 = (v : Int) := by omega
  rw [e, em, e2, or64_nat _ _ (by omega) (by omega), or_add v 4294967295 32 (by omega)]
  unfold sgn wrap64
  split <;> split <;> omega

theorem sext21 (v : Nat) (h : v < 2097152) : wrap64 (sext (v : Int) 21) = sgn 1048576 v := by
  have e : sext (v : Int) 21 = if (v : Int) % 2097152 / 1048576 % 2 = 1 then or64 ((v : Int) % 2097152) 18446744073707454464 else (v : Int) % 2097152 := by
    have g := get_lit ((v : Int) % 2097152) 20 1 (by omega)
    unfold sext
    rw [if_neg (by decide), if_neg (by decide)]
    simp at g ⊢
    rw [g]
    rfl
  have e2 : ((18446744073707454464 : Int)) = ((8796093022207 * 2097152 : Nat) : Int) := by decide
  have em : (v : Int) % 2097152 = (v : Int) := by omega
  rw [e, em, e2, or64_nat _ _ (by omega) (by omega), or_add v 8796093022207 21 (by omega)]
  unfold sgn wrap64
  split <;> split <;> omega

theorem sext13 (v : Nat) (h : v < 8192) : wrap64 (sext (v : Int) 13) = sgn 4096 v := by
  have e : sext (v : Int) 13 = if (v : Int) % 8192 / 4096 % 2 = 1 then or64 ((v : Int) % 8192) 18446744073709543424 else (v : Int) % 8192 := by
    have g := get_lit ((v : Int) % 8192) 12 1 (by omega)
    unfold sext
    rw [if_neg (by decide), if_neg (by decide)]
    simp at g ⊢
    rw [g]
    rfl
  have e2 : ((18446744073709543424 : Int)) = ((2251799813685247 * 8192 : Nat) : Int) := by decide
  have em : (v : Int) % 8192 = (v : Int) := by omega
  rw [e, em, e2, or64_nat _ _ (by omega) (by omega), or_add v 2251799813685247 13 (by omega)]
  unfold sgn wrap64
  split <;> split <;> omega

theorem sext12 (v : Nat) (h : v < 4096) : wrap64 (sext (v : Int) 12) = sgn 2048 v := by
  have e : sext (v : Int) 12 = if (v : Int) % 4096 / 2048 % 2 = 1 then or64 ((v : Int) % 4096) 18446744073709547520 else (v : Int) % 4096 := by
    have g := get_lit ((v : Int) % 4096) 11 1 (by omega)
    unfold sext
    rw [if_neg (by decide), if_neg (by decide)]
    simp at g ⊢
    rw [g]
    rfl
  have e2 : ((18446744073709547520 : Int)) = ((4503599627370495 * 4096 : Nat) : Int) := by decide
  have em : (v : Int) % 4096 = (v : Int) := by omega
  rw [e, em, e2, or64_nat _ _ (by omega) (by omega), or_add v 4503599627370495 12 (by omega)]
  unfold sgn wrap64
  split <;> split <;> omega

/-- A word's number, by its form, as a sum. -/
def numOf (f w : Int) : Int :=
  if f = 1 then sgn 2147483648 (w / 4096 % 1048576 * 4096)
  else if f = 2 then sgn 1048576 (w / 2147483648 % 2 * 1048576 + w / 2097152 % 1024 * 2 + w / 1048576 % 2 * 2048 + w / 4096 % 256 * 4096)
  else if f = 4 then sgn 4096 (w / 2147483648 % 2 * 4096 + w / 33554432 % 64 * 32 + w / 256 % 16 * 2 + w / 128 % 2 * 2048)
  else if f = 6 then sgn 2048 (w / 33554432 % 128 * 32 + w / 128 % 32)
  else if f = 7 then w / 1048576 % 64
  else if f = 8 then w / 1048576 % 32
  else if f = 10 then w / 1048576 % 4096
  else if f = 13 then w / 32768 % 32
  else sgn 2048 (w / 1048576 % 4096)

theorem or_jump (a b c d : Nat) (ha : a < 2) (hb : b < 1024) (hc : c < 2) (hd : d < 256) :
    or64 (or64 (or64 ((a * 1048576 : Nat) : Int) ((b * 2 : Nat) : Int)) ((c * 2048 : Nat) : Int)) ((d * 4096 : Nat) : Int) = ((a * 1048576 + b * 2 + c * 2048 + d * 4096 : Nat) : Int) := by
  have hl : ∀ x y : Nat, x < 4294967296 → y < 4294967296 → x ||| y < 4294967296 := lor_lt
  have l1 := hl (a * 1048576) (b * 2) (by omega) (by omega)
  have l2 := hl _ (c * 2048) l1 (by omega)
  rw [or64_nat _ _ (by omega) (by omega), or64_nat _ _ (by omega) (by omega), or64_nat _ _ (by omega) (by omega)]
  have e : a * 1048576 ||| b * 2 ||| c * 2048 ||| d * 4096 = ((b * 2 ||| c * 2048) ||| d * 4096) ||| a * 1048576 := by ac_rfl
  rw [e, or_add (b * 2) c 11 (by omega), or_add _ d 12 (by omega), or_add _ a 20 (by omega)]
  omega

theorem or_branch (a b c d : Nat) (ha : a < 2) (hb : b < 64) (hc : c < 16) (hd : d < 2) :
    or64 (or64 (or64 ((a * 4096 : Nat) : Int) ((b * 32 : Nat) : Int)) ((c * 2 : Nat) : Int)) ((d * 2048 : Nat) : Int) = ((a * 4096 + b * 32 + c * 2 + d * 2048 : Nat) : Int) := by
  have hl : ∀ x y : Nat, x < 4294967296 → y < 4294967296 → x ||| y < 4294967296 := lor_lt
  have l1 := hl (a * 4096) (b * 32) (by omega) (by omega)
  have l2 := hl _ (c * 2) l1 (by omega)
  rw [or64_nat _ _ (by omega) (by omega), or64_nat _ _ (by omega) (by omega), or64_nat _ _ (by omega) (by omega)]
  have e : a * 4096 ||| b * 32 ||| c * 2 ||| d * 2048 = ((c * 2 ||| b * 32) ||| d * 2048) ||| a * 4096 := by ac_rfl
  rw [e, or_add (c * 2) b 5 (by omega), or_add _ d 11 (by omega), or_add _ a 12 (by omega)]
  omega

theorem or_store (a b : Nat) (ha : a < 128) (hb : b < 32) : or64 ((a * 32 : Nat) : Int) (b : Int) = ((a * 32 + b : Nat) : Int) := by
  rw [or64_nat _ _ (by omega) (by omega)]
  have e : a * 32 ||| b = b ||| a * 32 := by ac_rfl
  rw [e, or_add b a 5 (by omega)]
  omega

set_option maxHeartbeats 1000000 in
theorem immOf_num (f : Int) (w : Nat) : immOf f w = numOf f w := by
  unfold immOf numOf
  simp only [g_7_5, g_15_5, g_20_5, g_20_6, g_20_12, g_12_20, g_31_1, g_21_10, g_20_1, g_12_8, g_25_6, g_8_4, g_7_1, g_25_7, beq_iff_eq]
  split
  · have h := sext32 (w / 4096 % 1048576 * 4096) (by omega)
    rw [show ((w : Int) / 4096 % 1048576 * 4096 % 18446744073709551616) = ((w / 4096 % 1048576 * 4096 : Nat) : Int) by omega, h]
    congr 1
  split
  · have h := sext21 (w / 2147483648 % 2 * 1048576 + w / 2097152 % 1024 * 2 + w / 1048576 % 2 * 2048 + w / 4096 % 256 * 4096) (by omega)
    rw [show ((w : Int) / 2147483648 % 2 * 1048576 % 18446744073709551616) = ((w / 2147483648 % 2 * 1048576 : Nat) : Int) by omega,
      show ((w : Int) / 2097152 % 1024 * 2 % 18446744073709551616) = ((w / 2097152 % 1024 * 2 : Nat) : Int) by omega,
      show ((w : Int) / 1048576 % 2 * 2048 % 18446744073709551616) = ((w / 1048576 % 2 * 2048 : Nat) : Int) by omega,
      show ((w : Int) / 4096 % 256 * 4096 % 18446744073709551616) = ((w / 4096 % 256 * 4096 : Nat) : Int) by omega,
      or_jump _ _ _ _ (by omega) (by omega) (by omega) (by omega), h]
    congr 1
  split
  · have h := sext13 (w / 2147483648 % 2 * 4096 + w / 33554432 % 64 * 32 + w / 256 % 16 * 2 + w / 128 % 2 * 2048) (by omega)
    rw [show ((w : Int) / 2147483648 % 2 * 4096 % 18446744073709551616) = ((w / 2147483648 % 2 * 4096 : Nat) : Int) by omega,
      show ((w : Int) / 33554432 % 64 * 32 % 18446744073709551616) = ((w / 33554432 % 64 * 32 : Nat) : Int) by omega,
      show ((w : Int) / 256 % 16 * 2 % 18446744073709551616) = ((w / 256 % 16 * 2 : Nat) : Int) by omega,
      show ((w : Int) / 128 % 2 * 2048 % 18446744073709551616) = ((w / 128 % 2 * 2048 : Nat) : Int) by omega,
      or_branch _ _ _ _ (by omega) (by omega) (by omega) (by omega), h]
    congr 1
  split
  · have h := sext12 (w / 33554432 % 128 * 32 + w / 128 % 32) (by omega)
    rw [show ((w : Int) / 33554432 % 128 * 32 % 18446744073709551616) = ((w / 33554432 % 128 * 32 : Nat) : Int) by omega,
      show ((w : Int) / 128 % 32) = ((w / 128 % 32 : Nat) : Int) by omega,
      or_store _ _ (by omega) (by omega), h]
    congr 1
  split
  · unfold wrap64; omega
  split
  · unfold wrap64; omega
  split
  · unfold wrap64; omega
  split
  · unfold wrap64; omega
  · have h := sext12 (w / 1048576 % 4096) (by omega)
    rw [show ((w : Int) / 1048576 % 4096) = ((w / 1048576 % 4096 : Nat) : Int) by omega, h]

end Go.Proofs.Ythifnlhbioaihaa
