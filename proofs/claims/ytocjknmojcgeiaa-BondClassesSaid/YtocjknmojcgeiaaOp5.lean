/- Bytes, opened. -/
import Derived.Test.YtocjknmojcgeiaaOp
namespace Go.Proofs.Ytocjknmojcgeiaa.OpenK
open Go.Proofs.YtocjknmojcgeiaaW.PrintWords Go.Proofs.Ytocjknmojcgeiaa.Bd
def opens5_Q (n : Int) : Prop := (Lit.int .u8 n).wf = true
theorem opens5 : Opens Try.prog (Kd.int .u8) opens5_Q 5 := opens_int Try.underlying5
end Go.Proofs.Ytocjknmojcgeiaa.OpenK
