/- What the law BondDiffers comes to, without program and memory. -/
import Derived.Test.YtocjknmojcgeiaaBd19
import Derived.Test.YtocjknmojcgeiaaOp
namespace Go.Proofs.Ytocjknmojcgeiaa
open Go.RowKit Go.Proofs.Ytocjknmojcgeiaa.Bd Go.Proofs.Ytocjknmojcgeiaa.OpenK Go.Proofs.YtocjknmojcgeiaaW.PrintWords Go.Proofs.YtocjknmojcgeiaaW.PrintLast
def BondDiffers_pure : Prop := ∀ (l0 : List S66) (l1 : List S39), l0.length ≤ maxLen → (∀ x ∈ l0, opens66_Q x) → l1.length ≤ maxLen → (∀ x ∈ l1, opens39_Q x) → ∃ k, cleanselaw21_BondDiffers.f k l0 l1 = some true
end Go.Proofs.Ytocjknmojcgeiaa
