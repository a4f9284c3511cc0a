/- The walks of package word: Mask, Get, Bit, Sext. -/
import Derived.Test.YthifnlhbioaihaaSpec
namespace Go.Proofs.Ythifnlhbioaihaa
open Go.RowKit
set_option linter.unusedVariables false
set_option linter.unusedSimpArgs false

set_option maxHeartbeats 400000 in
theorem mask_any (n : Int) (w : World) :
    Calls Try.prog 51 #[.int .i64 n] w fun e w' => e = .returned (.int .u64 (mask n)) ∧ w = w' := by
  by_cases h1 : n ≤ 0
  · go_enter Try.func51, Try.ntmps51
    go_wp2
    go_ret
    exact ⟨by simp [mask, h1], rfl⟩
  · by_cases h2 : n ≥ 64
    · go_enter Try.func51, Try.ntmps51
      go_wp2
      go_ret
      exact ⟨by simp [mask, h1, h2], rfl⟩
    · go_enter Try.func51, Try.ntmps51
      go_wp2
      go_ret
      exact ⟨ret_int (by unfold mask; rw [if_neg (by omega), if_neg (by omega), mask_wrap n (by omega) (by omega)]), rfl⟩

set_option maxHeartbeats 400000 in
theorem get_any (x a n : Int) (w : World) (h0 : 0 ≤ x) (h1 : x < 18446744073709551616) :
    Calls Try.prog 45 #[.int .u64 x, .int .i64 a, .int .i64 n] w fun e w' => e = .returned (.int .u64 (get x a n)) ∧ ∃ k, w' = w.drewN k := by
  by_cases c1 : a < 0
  · go_enter Try.func45, Try.ntmps45
    go_wp2
    go_ret
    exact ⟨by simp [get, c1], 0, rfl⟩
  · by_cases c2 : 63 < a
    · go_enter Try.func45, Try.ntmps45
      go_wp2
      go_ret
      exact ⟨by simp [get, c1, c2], 0, rfl⟩
    · have c3 : 0 ≤ a := by omega
      have H := hid h1; clear h1
      go_enter Try.func45, Try.ntmps45
      go_wp2
      go_quiet ((go_at_call 51; exact Calls.quiet_of_same ((mask_any _ _).mono fun _ _ h => ⟨h.1, h.2.symm⟩)))
      go_wp2
      go_ret
      have e : bits .and .u64 (x / 2 ^ a.toNat) (mask n) = x / 2 ^ a.toNat % 2 ^ n.toNat :=
        and_mask _ _ (div_pow_lt x a h0 H.out).1 (div_pow_lt x a h0 H.out).2
      exact ⟨ret_int (by unfold get; rw [if_neg (by omega), if_neg (by omega), e]), _, rfl⟩

set_option maxHeartbeats 400000 in
theorem bit_any (x a : Int) (w : World) (h0 : 0 ≤ x) (h1 : x < 18446744073709551616) :
    Calls Try.prog 46 #[.int .u64 x, .int .i64 a] w fun e w' => e = .returned (.bool (get x a 1 == 1)) ∧ ∃ k, w' = w.drewN k := by
  have H := hid h1; clear h1
  go_enter Try.func46, Try.ntmps46
  go_wp2_with (go_at_call 45; refine (get_any _ _ _ _ (by assumption) H.out).mono ?_; rintro e w' ⟨rfl, k, rfl⟩)
  go_ret
  exact ⟨ret_bool rfl, _, rfl⟩

set_option maxHeartbeats 400000 in
theorem sext_any (x n : Int) (w : World) (h0 : 0 ≤ x) (h1 : x < 18446744073709551616) (hn0 : 0 < n) (hn1 : n < 64) :
    Calls Try.prog 52 #[.int .u64 x, .int .i64 n] w fun e w' => e = .returned (.int .u64 (sext x n)) ∧ ∃ k, w' = w.drewN k := by
  have e := and_mask x n h0 h1
  have hb0 : 0 ≤ x % 2 ^ n.toNat := Int.emod_nonneg _ (Int.pow_ne_zero (by decide))
  have hb1 := mod_pow_lt x n h0 h1
  have H := hid h1; clear h1
  have E := hid e; clear e
  have HB := hid hb1; clear hb1
  go_enter Try.func52, Try.ntmps52
  go_wp2_with fail
  refine (mask_any _ _).mono ?_
  rintro e w' ⟨rfl, rfl⟩
  go_wp2_with fail
  rw [E.out]
  refine (bit_any _ _ _ hb0 HB.out).mono ?_
  rintro e w' ⟨rfl, k, rfl⟩
  go_wp2_with fail
  · refine (mask_any _ _).mono ?_
    rintro e w' ⟨rfl, rfl⟩
    go_wp2_with fail
    go_ret
    exact ⟨ret_int (by unfold sext; rw [if_neg (by omega), if_neg (by omega), if_pos (by simpa using ‹(get _ _ _ == 1) = true›)]; rfl), k, rfl⟩
  · go_ret
    exact ⟨ret_int (by unfold sext; rw [if_neg (by omega), if_neg (by omega), if_neg (by simpa using ‹(get _ _ _ == 1) = false›)]), k, rfl⟩

end Go.Proofs.Ythifnlhbioaihaa
