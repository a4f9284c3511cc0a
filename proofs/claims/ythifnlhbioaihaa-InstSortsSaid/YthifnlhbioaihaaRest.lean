/- The walk of inst.rest: what a form has besides its registers. -/
import Derived.Test.YthifnlhbioaihaaInst
namespace Go.Proofs.Ythifnlhbioaihaa
open Go.RowKit
set_option linter.unusedVariables false
set_option linter.unusedSimpArgs false

set_option maxHeartbeats 1000000 in
theorem rest_any (r : Row) (x : Ins) (w : World) (hf : r.form = 1 ∨ r.form = 2 ∨ r.form = 3 ∨ r.form = 4 ∨ r.form = 5 ∨ r.form = 6 ∨ r.form = 7 ∨ r.form = 8 ∨ r.form = 9 ∨ r.form = 10 ∨ r.form = 11 ∨ r.form = 12 ∨ r.form = 13 ∨ r.form = 14 ∨ r.form = 15 ∨ r.form = 16) :
    Calls Try.prog 28 #[.agg #[.string r.name, .int .i64 r.form, .int .u32 r.code, .int .u32 r.f3, .int .u32 r.f7], .agg #[.int .i64 x.op, .int .i64 x.rd, .int .i64 x.rs1, .int .i64 x.rs2, .int .i64 x.imm, .int .i64 x.csr, .bool x.aq, .bool x.rl]] w fun e w' => e = .returned (.int .u32 (restOf r.form r.f7 x.imm x.csr x.aq x.rl)) ∧ Below w.heap.size w w' := by
  obtain ⟨nm, form, code, f3, f7⟩ := r
  obtain ⟨op, rd, rs1, rs2, imm, csr, aq, rl⟩ := x
  dsimp only at hf ⊢
  rcases hf with rfl | rfl | rfl | rfl | rfl | rfl | rfl | rfl | rfl | rfl | rfl | rfl | rfl | rfl | rfl | rfl
  all_goals
    go_enter Try.func28, Try.ntmps28
    go_wp2_with (go_at_call 43; refine (at_any _ _ _ _ _ (by decide) (by decide)).mono ?_; rintro e w' ⟨rfl, k, rfl⟩)
    try (go_quiet ((go_at_call 43; exact Calls.quiet_of (at_any _ _ _ _ _ (by decide) (by decide)))); go_wp2)
  all_goals
    go_ret
    exact ⟨ret_int (by first | rfl | (simp [restOf, or32, *]; done)), by repeat (first | exact Below.refl _ _ | apply bel_drewN | refine Below.alloc ?_ (by simp) _)⟩

end Go.Proofs.Ythifnlhbioaihaa
