/- What the law SurviveOrder comes to, without program and memory. -/
import Derived.Test.YtegomjkgbeijlaaSvT6
import Derived.Test.YtegomjkgbeijlaaOp
namespace Go.Proofs.Ytegomjkgbeijlaa
set_option linter.unusedVariables false
set_option linter.unusedSimpArgs false
set_option linter.unusedSectionVars false
set_option linter.unnecessarySimpa false
open Go.RowKit Go.Proofs.Ytegomjkgbeijlaa.Sv Go.Proofs.Ytegomjkgbeijlaa.OpenK Go.Proofs.YtegomjkgbeijlaaW.PrintWords Go.Proofs.YtegomjkgbeijlaaW.PrintLast
def SurviveOrder_pure : Prop := ∀ (a0 : Int) (l1 : List S34) (l2 : List Int) (a3 : Int), (Lit.int .i64 a0).wf = true → l1.length ≤ maxLen → (∀ x ∈ l1, opens34_Q x) → l2.length ≤ maxLen → (∀ x ∈ l2, opens3_Q x) → (Lit.int .u8 a3).wf = true → ∃ k, cleanselaw23_SurviveOrder.f k a0 l1 l2 a3 = some true
end Go.Proofs.Ytegomjkgbeijlaa
