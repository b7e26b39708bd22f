/- What the law SurviveMore comes to, without program and memory. -/
import Derived.Test.YtegomjkgbeijlaaSvT8
import Derived.Test.YtegomjkgbeijlaaOp
namespace Go.Proofs.Ytegomjkgbeijlaa
set_option linter.unusedVariables false
set_option linter.unusedSimpArgs false
set_option linter.unusedSectionVars false
set_option linter.unnecessarySimpa false
open Go.RowKit Go.Proofs.Ytegomjkgbeijlaa.Sv Go.Proofs.Ytegomjkgbeijlaa.OpenK Go.Proofs.YtegomjkgbeijlaaW.PrintWords Go.Proofs.YtegomjkgbeijlaaW.PrintLast
def SurviveMore_pure : Prop := ∀ (a0 : Int) (l1 : List S34) (l2 : List Int) (x3 : S34) (a4 : Int), (Lit.int .i64 a0).wf = true → l1.length ≤ maxLen → (∀ x ∈ l1, opens34_Q x) → l2.length ≤ maxLen → (∀ x ∈ l2, opens3_Q x) → opens34_Q x3 → (Lit.int .i64 a4).wf = true → ∃ k, cleanselaw23_SurviveMore.f k a0 l1 l2 x3.f0.f0 x3.f0.f1 x3.f0.f2 x3.f1 x3.f2 a4 = some true
end Go.Proofs.Ytegomjkgbeijlaa
