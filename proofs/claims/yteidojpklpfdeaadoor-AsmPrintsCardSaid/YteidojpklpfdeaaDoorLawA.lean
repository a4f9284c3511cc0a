/- vireolaw04.awake is true. -/
import Derived.Test.YteidojpklpfdeaaDoorQT
import Derived.Test.YteidojpklpfdeaaDoorTextA
namespace Go.Proofs.YteidojpklpfdeaaDoor
open Go.RowKit Go.Proofs.YteidojpklpfdeaaDoorX.QA
attribute [local go_sem] setCell_drewN alloc_drewN
set_option linter.unusedVariables false
set_option linter.unusedSimpArgs false

theorem parse_f (l : List UInt8) (x : Ins) (h : askOk l = true) (hp : parseF l = some x) : asm_Parse.f ⟨l.toArray⟩ = some (x.op, x.rd, x.rs1, x.rs2, x.imm, x.csr, x.aq, x.rl, 0) := by
  unfold asm_Parse.f
  rw [ba_data, if_pos h, hp]
  rfl
theorem parse_no (l : List UInt8) (h : askOk l = true) (hp : parseF l = none) : asm_Parse.f ⟨l.toArray⟩ = some (0, 0, 0, 0, 0, 0, false, false, 40) := by
  unfold asm_Parse.f
  rw [ba_data, if_pos h, hp]
  rfl

theorem awake_f (k : Nat) : vireolaw04_awake.f (k + 1 + 1 + 1 + 1) = some true := by
  have p1 := parse_f [32, 97, 109, 111, 97, 100, 100, 46, 119, 46, 97, 113, 32, 120, 49, 32, 44, 32, 120, 50, 32, 44, 32, 40, 120, 51, 41] ⟨76, 1, 3, 2, 0, 0, true, false⟩ (by decide +kernel) (by decide +kernel)
  have p2 := parse_no [97, 100, 100, 105, 32, 120, 49, 44, 120, 50] (by decide +kernel) (by decide +kernel)
  have p3 := print_right ⟨13, 1, 2, 0, 8, 0, false, false⟩ (by decide +kernel) k
  have p4 : textS ⟨13, 1, 2, 0, 8, 0, false, false⟩ = [108, 119, 32, 120, 49, 44, 56, 40, 120, 50, 41] := by decide +kernel
  rw [p4] at p3
  unfold vireolaw04_awake.f
  rw [p1, Option.bind_some, p2, Option.bind_some]
  simp [p3]

theorem print_wrong (x : Ins) (hr : right x = false) (k : Nat) : asm_Print.f k x.op x.rd x.rs1 x.rs2 x.imm x.csr x.aq x.rl = some ⟨#[]⟩ := by
  unfold asm_Print.f inst_Right.f
  rw [show right ⟨x.op, x.rd, x.rs1, x.rs2, x.imm, x.csr, x.aq, x.rl⟩ = false from hr]
  rfl

end Go.Proofs.YteidojpklpfdeaaDoor
