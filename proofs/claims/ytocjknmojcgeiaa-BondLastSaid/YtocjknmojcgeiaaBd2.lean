/- Contracts of Go functions of this seat's translation, laid by givenprint.py (a program of this project) by way of the kit's print; not trusted: Lean checks them. -/
import Derived.Test.YtocjknmojcgeiaaBd0
import Derived.Test.YtocjknmojcgeiaaBd1
namespace Go.Proofs.Ytocjknmojcgeiaa.Bd
open Go.RowKit Go.Proofs.YtocjknmojcgeiaaW.PrintWords Go.Proofs.YtocjknmojcgeiaaW.PrintLast Go.Proofs.YtocjknmojcgeiaaW.PrintMore
attribute [local go_sem] max2_int min2_int max_two min_two max_three min_three max_four min_four   -- for this text's walks alone
attribute [local go_sem] Go.Proofs.Ytocjknmojcgeiaa.str_gtr Go.Proofs.Ytocjknmojcgeiaa.str_leq Go.Proofs.Ytocjknmojcgeiaa.str_geq
set_option linter.unusedVariables false
set_option linter.unusedSimpArgs false

theorem eqA39 (d : Nat) (w : World) (x0 y0 : Int) (x1 y1 : Int) (x2 y2 : ByteArray) (x3 y3 : ByteArray) (x4 y4 : Int) (x5 y5 : ByteArray) (x6 y6 : ByteArray) :
    (Op.equalIn (d + 3) 39 (.agg #[.int .i64 x0, .int .i64 x1, .string x2, .string x3, .int .i64 x4, .string x5, .string x6]) (.agg #[.int .i64 y0, .int .i64 y1, .string y2, .string y3, .int .i64 y4, .string y5, .string y6])).run Try.prog w = .ok (x0 == y0 && ((x1 == y1 && (x2.toList == y2.toList && (x3.toList == y3.toList))) && ((x4 == y4 && (x5.toList == y5.toList && (x6.toList == y6.toList)))))) w := by
  refine eqA_of Try.underlying39 (by kernel_rfl) ?_
  refine eqf_cons (by rfl) (by go_simp; rfl) (by go_simp; rfl) (by go_simp) ?_
  refine eqf_cons (by rfl) (by go_simp) (by go_simp) (eqA37 (d + 0) w _ _ _ _ _ _) ?_
  exact eqf_last (by rfl) (by go_simp) (by go_simp) (eqA37 (d + 0) w _ _ _ _ _ _)
end Go.Proofs.Ytocjknmojcgeiaa.Bd
