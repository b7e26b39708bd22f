/- The order of the text is one of the orders of region 23 of SurviveOrder: checked once, since the check is dear. -/
import Derived.Test.YtegomjkgbeijlaaProg
import Derived.Test.YtegomjkgbeijlaaWTab
import Derived.Deep.Quiet
import Derived.KernelRfl
namespace Go.Proofs.Ytegomjkgbeijlaa.Sv
open Go.Proofs.YtegomjkgbeijlaaW.PrintWords Go.Proofs.YtegomjkgbeijlaaW.PrintLast
theorem lex6_23 : Region.lexB .any (opsOf Try.f6 23) = true := by kernel_rfl
theorem lex6_23_of {l : List Oper} (h : l.toArray = opsOf Try.f6 23) : Region.lexB .any l.toArray = true := by rw [h]; exact lex6_23
end Go.Proofs.Ytegomjkgbeijlaa.Sv
