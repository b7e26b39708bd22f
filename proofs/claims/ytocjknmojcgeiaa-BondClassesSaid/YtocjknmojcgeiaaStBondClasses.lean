/- What the law BondClasses comes to, without program and memory. -/
import Derived.Test.YtocjknmojcgeiaaBd18
import Derived.Test.YtocjknmojcgeiaaOp5
namespace Go.Proofs.Ytocjknmojcgeiaa
open Go.RowKit Go.Proofs.Ytocjknmojcgeiaa.Bd Go.Proofs.Ytocjknmojcgeiaa.OpenK Go.Proofs.YtocjknmojcgeiaaW.PrintWords Go.Proofs.YtocjknmojcgeiaaW.PrintLast
def BondClasses_pure : Prop := ∀ (l0 : List S66) (l1 : List S39) (l2 : List Int), l0.length ≤ maxLen → (∀ x ∈ l0, opens66_Q x) → l1.length ≤ maxLen → (∀ x ∈ l1, opens39_Q x) → l2.length ≤ maxLen → (∀ x ∈ l2, opens5_Q x) → ∃ k, cleanselaw21_BondClasses.f k l0 l1 l2 = some true
end Go.Proofs.Ytocjknmojcgeiaa
