/- What vireoref03.Guess answers. -/
import Derived.Test.YthifnlhbioaihaaRefD
namespace Go.Proofs.Ythifnlhbioaihaa
open Go.RowKit
set_option linter.unusedVariables false
set_option linter.unusedSimpArgs false

/-- What instruction a word would be, of an operation's form. -/
def guessBy (op f x : Int) : Ins :=
  ⟨op, if rd_ f then get x 7 5 else 0, if rs1_ f then get x 15 5 else 0, if rs2_ f then get x 20 5 else 0, rback f x, if sysF f then get x 20 12 else 0, if ordF f then get x 26 1 == 1 else false, if ordF f then get x 25 1 == 1 else false⟩

theorem bfroz {W w1 : World} (hb : Below W.heap.size W w1) : ∀ b o, b < W.heap.size → w1.frozen? ⟨b, o, none⟩ = W.frozen? ⟨b, o, none⟩ := fun b o h => hb.frozen (p := ⟨b, o, none⟩) h

end Go.Proofs.Ythifnlhbioaihaa
