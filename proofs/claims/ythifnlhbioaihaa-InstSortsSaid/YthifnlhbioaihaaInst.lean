/- The walks of package inst: what touches a number or two. -/
import Derived.Test.YthifnlhbioaihaaWord
namespace Go.Proofs.Ythifnlhbioaihaa
open Go.RowKit
set_option linter.unusedVariables false
set_option linter.unusedSimpArgs false

set_option maxHeartbeats 400000 in
theorem known_any (op : Int) (w : World) :
    Calls Try.prog 35 #[.int .i64 op] w fun e w' => e = .returned (.bool (decide (1 ≤ op ∧ op ≤ 98))) ∧ w = w' := by
  by_cases h1 : 1 ≤ op
  · go_enter Try.func35, Try.ntmps35
    go_wp2
    go_ret
    exact ⟨ret_bool (by simp [h1]), rfl⟩
  · go_enter Try.func35, Try.ntmps35
    go_wp2
    go_ret
    exact ⟨ret_bool (by simp; omega), rfl⟩

set_option maxHeartbeats 400000 in
theorem reg_any (n : Int) (b : Bool) (w : World) :
    Calls Try.prog 37 #[.int .i64 n, .bool b] w fun e w' => e = .returned (.bool (regOk n b)) ∧ w = w' := by
  cases b with
  | true =>
    by_cases h : 0 ≤ n
    all_goals
      go_enter Try.func37, Try.ntmps37
      go_wp2
      go_ret
      exact ⟨ret_bool (by simp [regOk]; try omega), rfl⟩
  | false =>
    go_enter Try.func37, Try.ntmps37
    go_wp2
    go_ret
    exact ⟨ret_bool (by simp [regOk]; rfl), rfl⟩

set_option maxHeartbeats 400000 in
theorem at_any (v f n t : Int) (w : World) (hf : 0 ≤ t) (ht : t ≤ 31) :
    Calls Try.prog 43 #[.int .i64 v, .int .i64 f, .int .i64 n, .int .i64 t] w fun e w' => e = .returned (.int .u32 (place v f n t)) ∧ ∃ k, w' = w.drewN k := by
  go_enter Try.func43, Try.ntmps43
  go_wp2_with fail
  refine (get_any _ _ _ _ (by rw [IntKind.wrap_u64]; omega) (by rw [IntKind.wrap_u64]; omega)).mono ?_
  rintro e w' ⟨rfl, k, rfl⟩
  go_wp2_with fail
  go_ret
  exact ⟨ret_int (by unfold place; rw [IntKind.wrap_u64, IntKind.wrap_u64]; omega), k, rfl⟩

set_option maxHeartbeats 400000 in
theorem maskOf_any (f : Int) (w : World) :
    Calls Try.prog 39 #[.int .i64 f] w fun e w' => e = .returned (.int .u32 (maskOf f)) ∧ w = w' := by
  go_enter Try.func39, Try.ntmps39
  go_wp2
  all_goals
    go_ret
    exact ⟨ret_int (by simp only [maskOf, *, if_true, if_false, Bool.false_eq_true]), rfl⟩

set_option maxHeartbeats 1000000 in
theorem of_any (f : Int) (w : World) :
    Calls Try.prog 36 #[.int .i64 f] w fun e w' => e = .returned (partsOf f).v ∧ w.alloc (.cells (partsOf f).cells 58) = w' := by
  go_enter Try.func36, Try.ntmps36
  go_wp2
  all_goals
    have hp : partsOf f = partsOf f := rfl
    conv at hp => rhs; simp only [partsOf, *, if_true, if_false, Bool.false_eq_true]
    rw [hp]
    refine bodyPost_ret (v := Parts.v _) (by simp [results, Try.results36, go_sem, Parts.v, Parts.cells]) rfl ⟨rfl, rfl⟩

end Go.Proofs.Ythifnlhbioaihaa
