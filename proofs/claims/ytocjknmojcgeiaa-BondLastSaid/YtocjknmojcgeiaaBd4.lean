/- Contracts of Go functions of this seat's translation, laid by givenprint.py (a program of this project) by way of the kit's print; not trusted: Lean checks them. -/
import Derived.Test.YtocjknmojcgeiaaBd0
import Derived.Test.YtocjknmojcgeiaaBd3
namespace Go.Proofs.Ytocjknmojcgeiaa.Bd
open Go.RowKit Go.Proofs.YtocjknmojcgeiaaW.PrintWords Go.Proofs.YtocjknmojcgeiaaW.PrintLast Go.Proofs.YtocjknmojcgeiaaW.PrintMore
attribute [local go_sem] max2_int min2_int max_two min_two max_three min_three max_four min_four   -- for this text's walks alone
attribute [local go_sem] Go.Proofs.Ytocjknmojcgeiaa.str_gtr Go.Proofs.Ytocjknmojcgeiaa.str_leq Go.Proofs.Ytocjknmojcgeiaa.str_geq
set_option linter.unusedVariables false
set_option linter.unusedSimpArgs false

/-! ### bond_Effective_1: function 32 -/
def bond_Effective_1.f (k : Nat) (a0_0 : Int) (a0_1 : Int) (a0_2 : ByteArray) (a0_3 : ByteArray) (a0_4 : Int) (a0_5 : ByteArray) (a0_6 : ByteArray) (a1_0 : Int) (a1_1 : Int) (a1_2 : ByteArray) (a1_3 : ByteArray) (a1_4 : Int) (a1_5 : ByteArray) (a1_6 : ByteArray) : Option (Int) := (bond_order.f k a0_1 a0_2 a0_3 a1_1 a1_2 a1_3).bind fun t120 => ((bond_order.f k a0_4 a0_5 a0_6 a1_4 a1_5 a1_6).bind fun t121 => ((cmp_Or_int.f k (([t120, t121] : List Int))).bind fun t125 => (some t125)))
theorem bond_Effective_1.mono : ∀ a0 a1 a2 a3 a4 a5 a6 a7 a8 a9 a10 a11 a12 a13 k, LeO (bond_Effective_1.f k a0 a1 a2 a3 a4 a5 a6 a7 a8 a9 a10 a11 a12 a13) (bond_Effective_1.f (k + 1) a0 a1 a2 a3 a4 a5 a6 a7 a8 a9 a10 a11 a12 a13) := by
  intro a0 a1 a2 a3 a4 a5 a6 a7 a8 a9 a10 a11 a12 a13 k
  unfold bond_Effective_1.f
  repeat' first
      | (with_reducible exact bond_order.mono _ _ _ _ _ _ _)
      | (with_reducible exact cmp_Or_int.mono _ _)
      | (with_reducible exact LeO.refl _)
      | (with_reducible exact LeO.none _)
      | (with_reducible refine LeO.ite ?_ ?_)
      | (with_reducible refine LeO.bind ?_ (fun _ => ?_))
      | exact bond_order.mono _ _ _ _ _ _ _
      | exact cmp_Or_int.mono _ _
      | exact LeO.none _
      | refine LeO.ite ?_ ?_
      | refine LeO.bind ?_ (fun _ => ?_)
def bond_Effective_1.T1 : Bool × List (List Nat × List Nat) := (true, [([], []), ([0], [0]), ([], []), ([2], [2]), ([1, 3], [1, 3]), ([], []), ([5], [5]), ([], []), ([7], [7]), ([6, 8, 4], [6, 8]), ([4, 9], [4, 9]), ([10, 9], [10]), ([11, 11, 0, 1, 2, 3, 4, 5, 6, 7, 8, 9, 10, 11], [11])])
def bond_Effective_1.B1 : List Nat := [0, 1, 0, 4, 15, 0, 32, 0, 128, 511, 1023, 2047, 4095]
theorem bond_Effective_1.tab1 : rtab .any (opsOf Try.f32 1) = bond_Effective_1.T1 := by kernel_rfl
theorem bond_Effective_1.bits1 : waitsOk bond_Effective_1.T1.2 bond_Effective_1.B1 = true := by kernel_rfl
end Go.Proofs.Ytocjknmojcgeiaa.Bd
