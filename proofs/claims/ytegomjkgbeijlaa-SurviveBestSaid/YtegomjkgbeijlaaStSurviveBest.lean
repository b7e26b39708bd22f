/- What the law SurviveBest comes to, without program and memory. -/
import Derived.Test.YtegomjkgbeijlaaSvT4
import Derived.Test.YtegomjkgbeijlaaOp
namespace Go.Proofs.Ytegomjkgbeijlaa
set_option linter.unusedVariables false
set_option linter.unusedSimpArgs false
set_option linter.unusedSectionVars false
set_option linter.unnecessarySimpa false
open Go.RowKit Go.Proofs.Ytegomjkgbeijlaa.Sv Go.Proofs.Ytegomjkgbeijlaa.OpenK Go.Proofs.YtegomjkgbeijlaaW.PrintWords Go.Proofs.YtegomjkgbeijlaaW.PrintLast
def SurviveBest_pure : Prop := ∀ (a0 : Int) (l1 : List S34) (l2 : List Int), (Lit.int .i64 a0).wf = true → l1.length ≤ maxLen → (∀ x ∈ l1, opens34_Q x) → l2.length ≤ maxLen → (∀ x ∈ l2, opens3_Q x) → ∃ k, cleanselaw23_SurviveBest.f k a0 l1 l2 = some true
end Go.Proofs.Ytegomjkgbeijlaa
