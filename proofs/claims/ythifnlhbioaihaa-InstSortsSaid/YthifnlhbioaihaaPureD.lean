/- Plain: the instructions that may be are the document's. -/
import Derived.Test.YthifnlhbioaihaaPureC
namespace Go.Proofs.Ythifnlhbioaihaa
open Go.RowKit
set_option linter.unusedVariables false
set_option linter.unusedSimpArgs false

set_option maxHeartbeats 4000000 in
theorem rightBy_eq (f : Int) (hf : IsForm f) (x : Ins) : rightBy (partsOf f) x = rrightBy f x := by
  obtain ⟨op, rd, rs1, rs2, imm, csr, aq, rl⟩ := x
  rcases hf with rfl | rfl | rfl | rfl | rfl | rfl | rfl | rfl | rfl | rfl | rfl | rfl | rfl | rfl | rfl | rfl
  all_goals
    rw [Bool.eq_iff_iff]
    cases aq <;> cases rl <;> simp [rightBy, rrightBy, partsOf, regOk, inRange, partA, partB, partC, immR, rd_, rs1_, rs2_, sysF, ordF] <;> omega

theorem right_eq (x : Ins) : right x = rright x := by
  unfold right rright
  cases hk : known x.op with
  | false => rfl
  | true =>
    have hb : 1 ≤ x.op ∧ x.op ≤ 98 := by simpa [known] using hk
    rw [rightBy_eq _ (form_ok x.op hb.1 hb.2)]

end Go.Proofs.Ythifnlhbioaihaa
