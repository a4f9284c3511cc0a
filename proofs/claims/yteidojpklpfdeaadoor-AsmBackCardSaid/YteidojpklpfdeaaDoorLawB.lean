/- vireolaw04.AsmBack returns true: the plain law, and the walk. -/
import Derived.Test.YteidojpklpfdeaaDoorQA4
import Derived.Test.YteidojpklpfdeaaDoorTextA
namespace Go.Proofs.YteidojpklpfdeaaDoor
open Go.RowKit Go.Proofs.YteidojpklpfdeaaDoorX.QA
attribute [local go_sem] setCell_drewN alloc_drewN
set_option linter.unusedVariables false
set_option linter.unusedSimpArgs false

theorem parse_f (l : List UInt8) (x : Ins) (h : askOk l = true) (hp : parseF l = some x) : asm_Parse.f ⟨l.toArray⟩ = some (x.op, x.rd, x.rs1, x.rs2, x.imm, x.csr, x.aq, x.rl, 0) := by
  unfold asm_Parse.f
  rw [ba_data, if_pos h, hp]
  rfl
theorem parse_no (l : List UInt8) (h : askOk l = true) (hp : parseF l = none) : asm_Parse.f ⟨l.toArray⟩ = some (0, 0, 0, 0, 0, 0, false, false, 40) := by
  unfold asm_Parse.f
  rw [ba_data, if_pos h, hp]
  rfl

theorem awake_f (k : Nat) : vireolaw04_awake.f (k + 1 + 1 + 1 + 1) = some true := by
  have p1 := parse_f [32, 97, 109, 111, 97, 100, 100, 46, 119, 46, 97, 113, 32, 120, 49, 32, 44, 32, 120, 50, 32, 44, 32, 40, 120, 51, 41] ⟨76, 1, 3, 2, 0, 0, true, false⟩ (by decide +kernel) (by decide +kernel)
  have p2 := parse_no [97, 100, 100, 105, 32, 120, 49, 44, 120, 50] (by decide +kernel) (by decide +kernel)
  have p3 := print_right ⟨13, 1, 2, 0, 8, 0, false, false⟩ (by decide +kernel) k
  have p4 : textS ⟨13, 1, 2, 0, 8, 0, false, false⟩ = [108, 119, 32, 120, 49, 44, 56, 40, 120, 50, 41] := by decide +kernel
  rw [p4] at p3
  unfold vireolaw04_awake.f
  rw [p1, Option.bind_some, p2, Option.bind_some]
  simp [p3]

theorem print_wrong (x : Ins) (hr : right x = false) (k : Nat) : asm_Print.f k x.op x.rd x.rs1 x.rs2 x.imm x.csr x.aq x.rl = some ⟨#[]⟩ := by
  unfold asm_Print.f inst_Right.f
  rw [show right ⟨x.op, x.rd, x.rs1, x.rs2, x.imm, x.csr, x.aq, x.rl⟩ = false from hr]
  rfl

theorem back_pure (x : Ins) : vireolaw04_AsmBack.f (0 + 1 + 1 + 1 + 1) x.op x.rd x.rs1 x.rs2 x.imm x.csr x.aq x.rl = some true := by
  unfold vireolaw04_AsmBack.f
  rw [awake_f, Option.bind_some, if_pos rfl]
  cases hr : right x with
  | true =>
    obtain ⟨_, _, hne⟩ := text_small x hr
    rw [print_right x hr, Option.bind_some, if_neg (by rw [Lib.toList_data, ba_data]; exact hne), parse_f (textS x) x (ask_text x hr) (parse_text x hr), Option.bind_some]
    simp
  | false =>
    rw [print_wrong x hr, Option.bind_some, if_pos (show (⟨#[]⟩ : ByteArray).toList = [] by rw [Lib.toList_data])]
    unfold vireoref03_Right.f
    rw [show right ⟨x.op, x.rd, x.rs1, x.rs2, x.imm, x.csr, x.aq, x.rl⟩ = false from hr]
    rfl

theorem back_walk (x : Ins) (w : World) :
    Calls Tryd.prog 6 #[.agg #[.int .i64 x.op, .int .i64 x.rd, .int .i64 x.rs1, .int .i64 x.rs2, .int .i64 x.imm, .int .i64 x.csr, .bool x.aq, .bool x.rl]] w fun e w' => e = .returned (.bool true) ∧ Below w.heap.size w w' :=
  vireolaw04_AsmBack.calls _ x.op x.rd x.rs1 x.rs2 x.imm x.csr x.aq x.rl true w (back_pure x)

end Go.Proofs.YteidojpklpfdeaaDoor
