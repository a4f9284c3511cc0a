/- vireolaw04.AsmPrints returns true: the walk. -/
import Derived.Test.YteidojpklpfdeaaDoorQP1
namespace Go.Proofs.YteidojpklpfdeaaDoor
open Go.RowKit Go.Proofs.YteidojpklpfdeaaDoorX.QP
attribute [local go_sem] setCell_drewN alloc_drewN
set_option linter.unusedVariables false
set_option linter.unusedSimpArgs false

theorem wf_i64 {n : Int} (h : (Lit.int .i64 n).wf = true) : -9223372036854775808 ≤ n ∧ n < 9223372036854775808 := by
  have h' : IntKind.i64.min ≤ n ∧ n ≤ IntKind.i64.max := by simpa [Lit.wf] using h
  have e1 : IntKind.i64.min = -9223372036854775808 := rfl
  have e2 : IntKind.i64.max = 9223372036854775807 := rfl
  omega

theorem prints_pure (x : Ins) (n : Int) (hb : -9223372036854775808 ≤ n ∧ n < 9223372036854775808) : vireolaw04_AsmPrints.f x.op x.rd x.rs1 x.rs2 x.imm x.csr x.aq x.rl n = some true := by
  unfold vireolaw04_AsmPrints.f asm_Print.f vireoref04_Print.f asm_Reg.f vireoref04_Reg.f vireolaw04_awake.f
  rw [if_pos hb]
  simp only [Option.bind_some, if_true, beq_self_eq_true]

theorem prints_walk (x : Ins) (n : Int) (hn : (Lit.int .i64 n).wf = true) (w : World) :
    Calls Tryd.prog 5 #[.agg #[.int .i64 x.op, .int .i64 x.rd, .int .i64 x.rs1, .int .i64 x.rs2, .int .i64 x.imm, .int .i64 x.csr, .bool x.aq, .bool x.rl], .int .i64 n] w fun e w' => e = .returned (.bool true) ∧ Below w.heap.size w w' :=
  vireolaw04_AsmPrints.calls x.op x.rd x.rs1 x.rs2 x.imm x.csr x.aq x.rl n true w (prints_pure x n (wf_i64 hn))

end Go.Proofs.YteidojpklpfdeaaDoor
