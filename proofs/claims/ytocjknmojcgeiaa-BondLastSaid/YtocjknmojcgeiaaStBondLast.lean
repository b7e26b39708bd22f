/- What the law BondLast comes to, without program and memory. -/
import Derived.Test.YtocjknmojcgeiaaBd17
import Derived.Test.YtocjknmojcgeiaaOp
namespace Go.Proofs.Ytocjknmojcgeiaa
open Go.RowKit Go.Proofs.Ytocjknmojcgeiaa.Bd Go.Proofs.Ytocjknmojcgeiaa.OpenK Go.Proofs.YtocjknmojcgeiaaW.PrintWords Go.Proofs.YtocjknmojcgeiaaW.PrintLast
def BondLast_pure : Prop := ∀ (l0 : List S39), l0.length ≤ maxLen → (∀ x ∈ l0, opens39_Q x) → ∃ k, cleanselaw21_BondLast.f k l0 = some true
end Go.Proofs.Ytocjknmojcgeiaa
