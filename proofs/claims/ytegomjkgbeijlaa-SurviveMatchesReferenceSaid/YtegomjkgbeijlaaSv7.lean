/- Contracts of Go functions of this seat's translation, laid by givenprint.py (a program of this project) by way of the kit's print; not trusted: Lean checks them. -/
import Derived.Test.YtegomjkgbeijlaaSv0
import Derived.Test.YtegomjkgbeijlaaSv5
import Derived.Test.YtegomjkgbeijlaaSv6
namespace Go.Proofs.Ytegomjkgbeijlaa.Sv
open Go.RowKit Go.Proofs.YtegomjkgbeijlaaW.PrintWords Go.Proofs.YtegomjkgbeijlaaW.PrintLast Go.Proofs.YtegomjkgbeijlaaW.PrintMore
attribute [local go_sem] max2_int min2_int max_two min_two max_three min_three max_four min_four   -- for this text's walks alone
attribute [local go_sem] Go.Proofs.Ytegomjkgbeijlaa.str_gtr Go.Proofs.Ytegomjkgbeijlaa.str_leq Go.Proofs.Ytegomjkgbeijlaa.str_geq
set_option linter.unusedVariables false
set_option linter.unusedSimpArgs false

/-! ### cleanseref23_before: function 33 -/
def cleanseref23_before.j0 : Nat → List Int → Int → Int → Int → Int → Int → ByteArray → Int → Int → Int → Int → ByteArray → Int → Int → Option (Bool)
  | 0, _, _, _, _, _, _, _, _, _, _, _, _, _, _ => none
  | k + 1, x2, x3, x4, x13, x199000, x199001, x199002, x199003, x199004, x201000, x201001, x201002, x201003, x201004 => if 0 ≤ x3 then (if x3 < (x2.length : Int) then (if 0 ≤ x4 then (if x4 < (x2.length : Int) then (if (rd x2 x3) = (rd x2 x4) then (if x199004 = x201004 then (if x13 = 0 then (some (decide (x3 < x4))) else (some (decide (x13 < 0)))) else (some (decide (x199004 > x201004)))) else (some (decide ((rd x2 x3) > (rd x2 x4))))) else (none)) else (none)) else (none)) else (none)
def cleanseref23_before.f (k : Nat) (a0 : Int) (l1 : List (S34)) (l2 : List Int) (a3 : Int) (a4 : Int) : Option (Bool) := if 0 ≤ a3 then (if a3 < (l1.length : Int) then (if 0 ≤ a4 then (if a4 < (l1.length : Int) then ((cleanseref02_Compare.f ((rd_T34 l1 a3).f0.f0) ((rd_T34 l1 a3).f0.f1) ((rd_T34 l1 a3).f0.f2) ((rd_T34 l1 a4).f0.f0) ((rd_T34 l1 a4).f0.f1) ((rd_T34 l1 a4).f0.f2)).bind fun t201 => (if a0 = 1 then (if ((rd_T34 l1 a3).f2) = ((rd_T34 l1 a4).f2) then (cleanseref23_before.j0 k l2 a3 a4 t201 ((rd_T34 l1 a3).f0.f0) ((rd_T34 l1 a3).f0.f1) ((rd_T34 l1 a3).f0.f2) ((rd_T34 l1 a3).f1) ((rd_T34 l1 a3).f2) ((rd_T34 l1 a4).f0.f0) ((rd_T34 l1 a4).f0.f1) ((rd_T34 l1 a4).f0.f2) ((rd_T34 l1 a4).f1) ((rd_T34 l1 a4).f2)) else (some (decide (((rd_T34 l1 a3).f2) > ((rd_T34 l1 a4).f2))))) else (if a0 = 2 then ((cleanseref23_frequent.f k l1 a3).bind fun t202 => ((cleanseref23_frequent.f k l1 a4).bind fun t203 => (if t202 = t203 then (cleanseref23_before.j0 k l2 a3 a4 t201 ((rd_T34 l1 a3).f0.f0) ((rd_T34 l1 a3).f0.f1) ((rd_T34 l1 a3).f0.f2) ((rd_T34 l1 a3).f1) ((rd_T34 l1 a3).f2) ((rd_T34 l1 a4).f0.f0) ((rd_T34 l1 a4).f0.f1) ((rd_T34 l1 a4).f0.f2) ((rd_T34 l1 a4).f1) ((rd_T34 l1 a4).f2)) else (some (decide (t202 > t203)))))) else (if a0 = 4 then (if (((rd_T34 l1 a3).f0.f2).size : Int) = (((rd_T34 l1 a4).f0.f2).size : Int) then (cleanseref23_before.j0 k l2 a3 a4 t201 ((rd_T34 l1 a3).f0.f0) ((rd_T34 l1 a3).f0.f1) ((rd_T34 l1 a3).f0.f2) ((rd_T34 l1 a3).f1) ((rd_T34 l1 a3).f2) ((rd_T34 l1 a4).f0.f0) ((rd_T34 l1 a4).f0.f1) ((rd_T34 l1 a4).f0.f2) ((rd_T34 l1 a4).f1) ((rd_T34 l1 a4).f2)) else (some (decide ((((rd_T34 l1 a3).f0.f2).size : Int) > (((rd_T34 l1 a4).f0.f2).size : Int))))) else (if a0 = 5 then (if t201 = 0 then (cleanseref23_before.j0 k l2 a3 a4 t201 ((rd_T34 l1 a3).f0.f0) ((rd_T34 l1 a3).f0.f1) ((rd_T34 l1 a3).f0.f2) ((rd_T34 l1 a3).f1) ((rd_T34 l1 a3).f2) ((rd_T34 l1 a4).f0.f0) ((rd_T34 l1 a4).f0.f1) ((rd_T34 l1 a4).f0.f2) ((rd_T34 l1 a4).f1) ((rd_T34 l1 a4).f2)) else (some (decide (t201 < 0)))) else (if a0 = 6 then (if t201 = 0 then (cleanseref23_before.j0 k l2 a3 a4 t201 ((rd_T34 l1 a3).f0.f0) ((rd_T34 l1 a3).f0.f1) ((rd_T34 l1 a3).f0.f2) ((rd_T34 l1 a3).f1) ((rd_T34 l1 a3).f2) ((rd_T34 l1 a4).f0.f0) ((rd_T34 l1 a4).f0.f1) ((rd_T34 l1 a4).f0.f2) ((rd_T34 l1 a4).f1) ((rd_T34 l1 a4).f2)) else (some (decide (t201 > 0)))) else (cleanseref23_before.j0 k l2 a3 a4 t201 ((rd_T34 l1 a3).f0.f0) ((rd_T34 l1 a3).f0.f1) ((rd_T34 l1 a3).f0.f2) ((rd_T34 l1 a3).f1) ((rd_T34 l1 a3).f2) ((rd_T34 l1 a4).f0.f0) ((rd_T34 l1 a4).f0.f1) ((rd_T34 l1 a4).f0.f2) ((rd_T34 l1 a4).f1) ((rd_T34 l1 a4).f2)))))))) else (none)) else (none)) else (none)) else (none)
theorem cleanseref23_before.mono_l : ∀ k, (∀ y0 y1 y2 y3 y4 y5 y6 y7 y8 y9 y10 y11 y12 y13, LeO (cleanseref23_before.j0 k y0 y1 y2 y3 y4 y5 y6 y7 y8 y9 y10 y11 y12 y13) (cleanseref23_before.j0 (k + 1) y0 y1 y2 y3 y4 y5 y6 y7 y8 y9 y10 y11 y12 y13))
  | 0 => fun _ _ _ _ _ _ _ _ _ _ _ _ _ _ r h => by simp [cleanseref23_before.j0] at h
  | k + 1 => by
    have ih0 := cleanseref23_before.mono_l k
    · intro y0 y1 y2 y3 y4 y5 y6 y7 y8 y9 y10 y11 y12 y13
      unfold cleanseref23_before.j0
      repeat' first
      | (with_reducible exact ih0 _ _ _ _ _ _ _ _ _ _ _ _ _ _)
      | (with_reducible exact cleanseref23_frequent.mono _ _ _)
      | (with_reducible exact LeO.refl _)
      | (with_reducible exact LeO.none _)
      | (with_reducible refine LeO.ite ?_ ?_)
      | (with_reducible refine LeO.bind ?_ (fun _ => ?_))
      | exact ih0 _ _ _ _ _ _ _ _ _ _ _ _ _ _
      | exact cleanseref23_frequent.mono _ _ _
      | exact LeO.none _
      | refine LeO.ite ?_ ?_
      | refine LeO.bind ?_ (fun _ => ?_)
theorem cleanseref23_before.mono : ∀ a0 a1 a2 a3 a4 k, LeO (cleanseref23_before.f k a0 a1 a2 a3 a4) (cleanseref23_before.f (k + 1) a0 a1 a2 a3 a4) := by
  intro a0 a1 a2 a3 a4 k
  have ih0 := cleanseref23_before.mono_l k
  unfold cleanseref23_before.f
  repeat' first
      | (with_reducible exact ih0 _ _ _ _ _ _ _ _ _ _ _ _ _ _)
      | (with_reducible exact cleanseref23_frequent.mono _ _ _)
      | (with_reducible exact LeO.refl _)
      | (with_reducible exact LeO.none _)
      | (with_reducible refine LeO.ite ?_ ?_)
      | (with_reducible refine LeO.bind ?_ (fun _ => ?_))
      | exact ih0 _ _ _ _ _ _ _ _ _ _ _ _ _ _
      | exact cleanseref23_frequent.mono _ _ _
      | exact LeO.none _
      | refine LeO.ite ?_ ?_
      | refine LeO.bind ?_ (fun _ => ?_)
set_option maxHeartbeats 8000000 in
set_option maxRecDepth 100000 in
theorem cleanseref23_before.calls (k : Nat) (a0 : Int) (A1 : Option Addr) (c1 : Nat) (l1 : List (S34)) (A2 : Option Addr) (c2 : Nat) (l2 : List Int) (a3 : Int) (a4 : Int) (r : Bool) (w : World) (hr1 : Kd.C k34 w A1 l1.length l1) (hc1 : l1.length ≤ c1) (hr2 : Kd.C (Kd.int .i64) w A2 l2.length l2) (hc2 : l2.length ≤ c2) (h : cleanseref23_before.f k a0 l1 l2 a3 a4 = some r) :
    Calls Try.prog 33 #[.int .i64 a0, .slice A1 l1.length c1, .slice A2 l2.length c2, .int .i64 a3, .int .i64 a4] w fun e w' => e = .returned (.bool r) ∧ Below w.heap.size w w' := by
  have hu34 := Try.underlying34
  have hu32 := Try.underlying32
  have HR1 := Aside0.mk hr1
  have HC1 := Aside0.mk hc1
  clear hr1 hc1
  have HR2 := Aside0.mk hr2
  have HC2 := Aside0.mk hc2
  clear hr2 hc2
  have HB := Aside0.mk (Below.refl w.heap.size w)
  have H : (if 0 ≤ a3 then (if a3 < (l1.length : Int) then (if 0 ≤ a4 then (if a4 < (l1.length : Int) then ((cleanseref02_Compare.f ((rd_T34 l1 a3).f0.f0) ((rd_T34 l1 a3).f0.f1) ((rd_T34 l1 a3).f0.f2) ((rd_T34 l1 a4).f0.f0) ((rd_T34 l1 a4).f0.f1) ((rd_T34 l1 a4).f0.f2)).bind fun t201 => (if a0 = 1 then (if ((rd_T34 l1 a3).f2) = ((rd_T34 l1 a4).f2) then (cleanseref23_before.j0 k l2 a3 a4 t201 ((rd_T34 l1 a3).f0.f0) ((rd_T34 l1 a3).f0.f1) ((rd_T34 l1 a3).f0.f2) ((rd_T34 l1 a3).f1) ((rd_T34 l1 a3).f2) ((rd_T34 l1 a4).f0.f0) ((rd_T34 l1 a4).f0.f1) ((rd_T34 l1 a4).f0.f2) ((rd_T34 l1 a4).f1) ((rd_T34 l1 a4).f2)) else (some (decide (((rd_T34 l1 a3).f2) > ((rd_T34 l1 a4).f2))))) else (if a0 = 2 then ((cleanseref23_frequent.f k l1 a3).bind fun t202 => ((cleanseref23_frequent.f k l1 a4).bind fun t203 => (if t202 = t203 then (cleanseref23_before.j0 k l2 a3 a4 t201 ((rd_T34 l1 a3).f0.f0) ((rd_T34 l1 a3).f0.f1) ((rd_T34 l1 a3).f0.f2) ((rd_T34 l1 a3).f1) ((rd_T34 l1 a3).f2) ((rd_T34 l1 a4).f0.f0) ((rd_T34 l1 a4).f0.f1) ((rd_T34 l1 a4).f0.f2) ((rd_T34 l1 a4).f1) ((rd_T34 l1 a4).f2)) else (some (decide (t202 > t203)))))) else (if a0 = 4 then (if (((rd_T34 l1 a3).f0.f2).size : Int) = (((rd_T34 l1 a4).f0.f2).size : Int) then (cleanseref23_before.j0 k l2 a3 a4 t201 ((rd_T34 l1 a3).f0.f0) ((rd_T34 l1 a3).f0.f1) ((rd_T34 l1 a3).f0.f2) ((rd_T34 l1 a3).f1) ((rd_T34 l1 a3).f2) ((rd_T34 l1 a4).f0.f0) ((rd_T34 l1 a4).f0.f1) ((rd_T34 l1 a4).f0.f2) ((rd_T34 l1 a4).f1) ((rd_T34 l1 a4).f2)) else (some (decide ((((rd_T34 l1 a3).f0.f2).size : Int) > (((rd_T34 l1 a4).f0.f2).size : Int))))) else (if a0 = 5 then (if t201 = 0 then (cleanseref23_before.j0 k l2 a3 a4 t201 ((rd_T34 l1 a3).f0.f0) ((rd_T34 l1 a3).f0.f1) ((rd_T34 l1 a3).f0.f2) ((rd_T34 l1 a3).f1) ((rd_T34 l1 a3).f2) ((rd_T34 l1 a4).f0.f0) ((rd_T34 l1 a4).f0.f1) ((rd_T34 l1 a4).f0.f2) ((rd_T34 l1 a4).f1) ((rd_T34 l1 a4).f2)) else (some (decide (t201 < 0)))) else (if a0 = 6 then (if t201 = 0 then (cleanseref23_before.j0 k l2 a3 a4 t201 ((rd_T34 l1 a3).f0.f0) ((rd_T34 l1 a3).f0.f1) ((rd_T34 l1 a3).f0.f2) ((rd_T34 l1 a3).f1) ((rd_T34 l1 a3).f2) ((rd_T34 l1 a4).f0.f0) ((rd_T34 l1 a4).f0.f1) ((rd_T34 l1 a4).f0.f2) ((rd_T34 l1 a4).f1) ((rd_T34 l1 a4).f2)) else (some (decide (t201 > 0)))) else (cleanseref23_before.j0 k l2 a3 a4 t201 ((rd_T34 l1 a3).f0.f0) ((rd_T34 l1 a3).f0.f1) ((rd_T34 l1 a3).f0.f2) ((rd_T34 l1 a3).f1) ((rd_T34 l1 a3).f2) ((rd_T34 l1 a4).f0.f0) ((rd_T34 l1 a4).f0.f1) ((rd_T34 l1 a4).f0.f2) ((rd_T34 l1 a4).f1) ((rd_T34 l1 a4).f2)))))))) else (none)) else (none)) else (none)) else (none)) = some r := h
  clear h
  by_cases c6 : 0 ≤ a3
  · rw [if_pos c6] at H
    have c6b0 : decide (0 ≤ a3) = true := decide_eq_true c6
    clear c6
    by_cases c7 : a3 < (l1.length : Int)
    · rw [if_pos c7] at H
      have c7b0 : decide (a3 < (l1.length : Int)) = true := decide_eq_true c7
      clear c7
      by_cases c8 : 0 ≤ a4
      · rw [if_pos c8] at H
        have c8b0 : decide (0 ≤ a4) = true := decide_eq_true c8
        clear c8
        by_cases c9 : a4 < (l1.length : Int)
        · rw [if_pos c9] at H
          have c9b0 : decide (a4 < (l1.length : Int)) = true := decide_eq_true c9
          clear c9
          replace H := Option.bind_eq_some_iff.mp H
          obtain ⟨t201, A100, H⟩ := H
          replace H : (if a0 = 1 then (if ((rd_T34 l1 a3).f2) = ((rd_T34 l1 a4).f2) then (cleanseref23_before.j0 k l2 a3 a4 t201 ((rd_T34 l1 a3).f0.f0) ((rd_T34 l1 a3).f0.f1) ((rd_T34 l1 a3).f0.f2) ((rd_T34 l1 a3).f1) ((rd_T34 l1 a3).f2) ((rd_T34 l1 a4).f0.f0) ((rd_T34 l1 a4).f0.f1) ((rd_T34 l1 a4).f0.f2) ((rd_T34 l1 a4).f1) ((rd_T34 l1 a4).f2)) else (some (decide (((rd_T34 l1 a3).f2) > ((rd_T34 l1 a4).f2))))) else (if a0 = 2 then ((cleanseref23_frequent.f k l1 a3).bind fun t202 => ((cleanseref23_frequent.f k l1 a4).bind fun t203 => (if t202 = t203 then (cleanseref23_before.j0 k l2 a3 a4 t201 ((rd_T34 l1 a3).f0.f0) ((rd_T34 l1 a3).f0.f1) ((rd_T34 l1 a3).f0.f2) ((rd_T34 l1 a3).f1) ((rd_T34 l1 a3).f2) ((rd_T34 l1 a4).f0.f0) ((rd_T34 l1 a4).f0.f1) ((rd_T34 l1 a4).f0.f2) ((rd_T34 l1 a4).f1) ((rd_T34 l1 a4).f2)) else (some (decide (t202 > t203)))))) else (if a0 = 4 then (if (((rd_T34 l1 a3).f0.f2).size : Int) = (((rd_T34 l1 a4).f0.f2).size : Int) then (cleanseref23_before.j0 k l2 a3 a4 t201 ((rd_T34 l1 a3).f0.f0) ((rd_T34 l1 a3).f0.f1) ((rd_T34 l1 a3).f0.f2) ((rd_T34 l1 a3).f1) ((rd_T34 l1 a3).f2) ((rd_T34 l1 a4).f0.f0) ((rd_T34 l1 a4).f0.f1) ((rd_T34 l1 a4).f0.f2) ((rd_T34 l1 a4).f1) ((rd_T34 l1 a4).f2)) else (some (decide ((((rd_T34 l1 a3).f0.f2).size : Int) > (((rd_T34 l1 a4).f0.f2).size : Int))))) else (if a0 = 5 then (if t201 = 0 then (cleanseref23_before.j0 k l2 a3 a4 t201 ((rd_T34 l1 a3).f0.f0) ((rd_T34 l1 a3).f0.f1) ((rd_T34 l1 a3).f0.f2) ((rd_T34 l1 a3).f1) ((rd_T34 l1 a3).f2) ((rd_T34 l1 a4).f0.f0) ((rd_T34 l1 a4).f0.f1) ((rd_T34 l1 a4).f0.f2) ((rd_T34 l1 a4).f1) ((rd_T34 l1 a4).f2)) else (some (decide (t201 < 0)))) else (if a0 = 6 then (if t201 = 0 then (cleanseref23_before.j0 k l2 a3 a4 t201 ((rd_T34 l1 a3).f0.f0) ((rd_T34 l1 a3).f0.f1) ((rd_T34 l1 a3).f0.f2) ((rd_T34 l1 a3).f1) ((rd_T34 l1 a3).f2) ((rd_T34 l1 a4).f0.f0) ((rd_T34 l1 a4).f0.f1) ((rd_T34 l1 a4).f0.f2) ((rd_T34 l1 a4).f1) ((rd_T34 l1 a4).f2)) else (some (decide (t201 > 0)))) else (cleanseref23_before.j0 k l2 a3 a4 t201 ((rd_T34 l1 a3).f0.f0) ((rd_T34 l1 a3).f0.f1) ((rd_T34 l1 a3).f0.f2) ((rd_T34 l1 a3).f1) ((rd_T34 l1 a3).f2) ((rd_T34 l1 a4).f0.f0) ((rd_T34 l1 a4).f0.f1) ((rd_T34 l1 a4).f0.f2) ((rd_T34 l1 a4).f1) ((rd_T34 l1 a4).f2))))))) = some r := H
          have A10 := Aside0.mk A100
          clear A100
          have HC11 := Aside0.mk H
          clear H
          have p197 : 0 ≤ (a3 : Int) := of_decide_eq_true (by first | (with_reducible assumption) | assumption)
          have q197 : a3 < (l1.length : Int) := of_decide_eq_true (by first | (with_reducible assumption) | assumption)
          obtain ⟨ad197, e197, hx197_0, hx197_1, hx197_2, hx197_3, hx197_4⟩ := at_T34 HR1.out a3 p197 q197
          cases e197
          replace p197 := eq_true p197
          replace q197 := eq_true q197
          go_enter Try.func33, Try.ntmps33
          go_upto_block 0 with (first | ((with_reducible refine gate_dst (N := 11) rfl ?_); refine box_event ?hg (N := 11) ?hd (cs := #[.int .i64 0, .int .i64 0, .string (⟨#[]⟩ : ByteArray), .int .i64 0, .int .i64 0]) (t := 34) ?hr ?_; (case hd => rfl); (case hg => rfl); (case hr => first | (go_simp; done) | (go_simp; rfl)); intro gb198 hg w12 hbox hb; have n0_ := Aside0.mk (below_step (by repeat (first | (with_reducible first | exact HB.out | apply below_alloc | apply pw_below_drewN | apply below_drew1) | exact HB.out)) hb); have n1_ := Aside0.mk (hbox); have n2_ := Aside0.mk ((by rw [hg]; exact (below_size (by repeat (first | (with_reducible first | exact HB.out | apply below_alloc | apply pw_below_drewN | apply below_drew1) | exact HB.out))) : w.heap.size ≤ gb198)); have n3_ := Aside0.mk ((by rw [hg]; exact (below_size (by repeat (first | (with_reducible first | exact HB.out | apply below_alloc | apply pw_below_drewN | apply below_drew1) | exact HB.out))) : w.heap.size ≤ gb198)); clear HB; have HB := n0_; have BK198 := n1_; have GW198 := n2_; have GE198 := n3_; clear n0_ n1_ n2_ n3_; clear hb hbox hg; have hcz13_0 : w12.cell? ⟨gb198, 0, none⟩ = some (.int .i64 0) := (blk_cell BK198.out 0).trans rfl; have hcz13_1 : w12.cell? ⟨gb198, 1, none⟩ = some (.int .i64 0) := (blk_cell BK198.out 1).trans rfl; have hcz13_2 : w12.cell? ⟨gb198, 2, none⟩ = some (.string (⟨#[]⟩ : ByteArray)) := (blk_cell BK198.out 2).trans rfl; have hcz13_3 : w12.cell? ⟨gb198, 3, none⟩ = some (.int .i64 0) := (blk_cell BK198.out 3).trans rfl; have hcz13_4 : w12.cell? ⟨gb198, 4, none⟩ = some (.int .i64 0) := (blk_cell BK198.out 4).trans rfl; have hfz13_0 := blk_frozen BK198.out 0; have hfz13_1 := blk_frozen BK198.out 1; have hfz13_2 := blk_frozen BK198.out 2; have hfz13_3 := blk_frozen BK198.out 3; have hfz13_4 := blk_frozen BK198.out 4; have p199 : 0 ≤ (a4 : Int) := of_decide_eq_true (by first | (with_reducible assumption) | assumption); have q199 : a4 < (l1.length : Int) := of_decide_eq_true (by first | (with_reducible assumption) | assumption); obtain ⟨ad199, e199, hx199_0, hx199_1, hx199_2, hx199_3, hx199_4⟩ := at_T34 HR1.out a4 p199 q199; obtain rfl : ad197 = ad199 := (by injection e199); have hn199_0 : ad197.block ≠ gb198 := Nat.ne_of_lt (Nat.lt_of_lt_of_le (by have := World.block_lt_of_cell? _ _ hx199_0; first | rwa [add_block] at this | exact this) GW198.out); have hn199_1 : ad197.block ≠ gb198 := Nat.ne_of_lt (Nat.lt_of_lt_of_le (by have := World.block_lt_of_cell? _ _ hx199_0; first | rwa [add_block] at this | exact this) GW198.out); have hn199_2 : ad197.block ≠ gb198 := Nat.ne_of_lt (Nat.lt_of_lt_of_le (by have := World.block_lt_of_cell? _ _ hx199_0; first | rwa [add_block] at this | exact this) GW198.out); have hn199_3 : ad197.block ≠ gb198 := Nat.ne_of_lt (Nat.lt_of_lt_of_le (by have := World.block_lt_of_cell? _ _ hx199_0; first | rwa [add_block] at this | exact this) GW198.out); have hn199_4 : ad197.block ≠ gb198 := Nat.ne_of_lt (Nat.lt_of_lt_of_le (by have := World.block_lt_of_cell? _ _ hx199_0; first | rwa [add_block] at this | exact this) GW198.out); replace hx199_0 := (HB.out.cell (World.block_lt_of_cell? w _ hx199_0)).trans hx199_0; replace hx199_1 := (HB.out.cell (World.block_lt_of_cell? w _ hx199_1)).trans hx199_1; replace hx199_2 := (HB.out.cell (World.block_lt_of_cell? w _ hx199_2)).trans hx199_2; replace hx199_3 := (HB.out.cell (World.block_lt_of_cell? w _ hx199_3)).trans hx199_3; replace hx199_4 := (HB.out.cell (World.block_lt_of_cell? w _ hx199_4)).trans hx199_4; replace hx199_0 := (cell_far (p := ⟨gb198, 0, none⟩) (by first | (rw [add_block]; exact hn199_0) | (show (Addr.add _ _).block ≠ _; rw [add_block]; exact hn199_0) | exact hn199_0) (.int .i64 ((rd_T34 l1 a3).f0.f0))).trans hx199_0; replace hx199_1 := (cell_far (p := ⟨gb198, 0, none⟩) (by first | (rw [add_block]; exact hn199_0) | (show (Addr.add _ _).block ≠ _; rw [add_block]; exact hn199_0) | exact hn199_0) (.int .i64 ((rd_T34 l1 a3).f0.f0))).trans hx199_1; replace hx199_2 := (cell_far (p := ⟨gb198, 0, none⟩) (by first | (rw [add_block]; exact hn199_0) | (show (Addr.add _ _).block ≠ _; rw [add_block]; exact hn199_0) | exact hn199_0) (.int .i64 ((rd_T34 l1 a3).f0.f0))).trans hx199_2; replace hx199_3 := (cell_far (p := ⟨gb198, 0, none⟩) (by first | (rw [add_block]; exact hn199_0) | (show (Addr.add _ _).block ≠ _; rw [add_block]; exact hn199_0) | exact hn199_0) (.int .i64 ((rd_T34 l1 a3).f0.f0))).trans hx199_3; replace hx199_4 := (cell_far (p := ⟨gb198, 0, none⟩) (by first | (rw [add_block]; exact hn199_0) | (show (Addr.add _ _).block ≠ _; rw [add_block]; exact hn199_0) | exact hn199_0) (.int .i64 ((rd_T34 l1 a3).f0.f0))).trans hx199_4; replace hx199_0 := (cell_far (p := ⟨gb198, 1, none⟩) (by first | (rw [add_block]; exact hn199_1) | (show (Addr.add _ _).block ≠ _; rw [add_block]; exact hn199_1) | exact hn199_1) (.int .i64 ((rd_T34 l1 a3).f0.f1))).trans hx199_0; replace hx199_1 := (cell_far (p := ⟨gb198, 1, none⟩) (by first | (rw [add_block]; exact hn199_1) | (show (Addr.add _ _).block ≠ _; rw [add_block]; exact hn199_1) | exact hn199_1) (.int .i64 ((rd_T34 l1 a3).f0.f1))).trans hx199_1; replace hx199_2 := (cell_far (p := ⟨gb198, 1, none⟩) (by first | (rw [add_block]; exact hn199_1) | (show (Addr.add _ _).block ≠ _; rw [add_block]; exact hn199_1) | exact hn199_1) (.int .i64 ((rd_T34 l1 a3).f0.f1))).trans hx199_2; replace hx199_3 := (cell_far (p := ⟨gb198, 1, none⟩) (by first | (rw [add_block]; exact hn199_1) | (show (Addr.add _ _).block ≠ _; rw [add_block]; exact hn199_1) | exact hn199_1) (.int .i64 ((rd_T34 l1 a3).f0.f1))).trans hx199_3; replace hx199_4 := (cell_far (p := ⟨gb198, 1, none⟩) (by first | (rw [add_block]; exact hn199_1) | (show (Addr.add _ _).block ≠ _; rw [add_block]; exact hn199_1) | exact hn199_1) (.int .i64 ((rd_T34 l1 a3).f0.f1))).trans hx199_4; replace hx199_0 := (cell_far (p := ⟨gb198, 2, none⟩) (by first | (rw [add_block]; exact hn199_2) | (show (Addr.add _ _).block ≠ _; rw [add_block]; exact hn199_2) | exact hn199_2) (.string ((rd_T34 l1 a3).f0.f2))).trans hx199_0; replace hx199_1 := (cell_far (p := ⟨gb198, 2, none⟩) (by first | (rw [add_block]; exact hn199_2) | (show (Addr.add _ _).block ≠ _; rw [add_block]; exact hn199_2) | exact hn199_2) (.string ((rd_T34 l1 a3).f0.f2))).trans hx199_1; replace hx199_2 := (cell_far (p := ⟨gb198, 2, none⟩) (by first | (rw [add_block]; exact hn199_2) | (show (Addr.add _ _).block ≠ _; rw [add_block]; exact hn199_2) | exact hn199_2) (.string ((rd_T34 l1 a3).f0.f2))).trans hx199_2; replace hx199_3 := (cell_far (p := ⟨gb198, 2, none⟩) (by first | (rw [add_block]; exact hn199_2) | (show (Addr.add _ _).block ≠ _; rw [add_block]; exact hn199_2) | exact hn199_2) (.string ((rd_T34 l1 a3).f0.f2))).trans hx199_3; replace hx199_4 := (cell_far (p := ⟨gb198, 2, none⟩) (by first | (rw [add_block]; exact hn199_2) | (show (Addr.add _ _).block ≠ _; rw [add_block]; exact hn199_2) | exact hn199_2) (.string ((rd_T34 l1 a3).f0.f2))).trans hx199_4; replace hx199_0 := (cell_far (p := ⟨gb198, 3, none⟩) (by first | (rw [add_block]; exact hn199_3) | (show (Addr.add _ _).block ≠ _; rw [add_block]; exact hn199_3) | exact hn199_3) (.int .i64 ((rd_T34 l1 a3).f1))).trans hx199_0; replace hx199_1 := (cell_far (p := ⟨gb198, 3, none⟩) (by first | (rw [add_block]; exact hn199_3) | (show (Addr.add _ _).block ≠ _; rw [add_block]; exact hn199_3) | exact hn199_3) (.int .i64 ((rd_T34 l1 a3).f1))).trans hx199_1; replace hx199_2 := (cell_far (p := ⟨gb198, 3, none⟩) (by first | (rw [add_block]; exact hn199_3) | (show (Addr.add _ _).block ≠ _; rw [add_block]; exact hn199_3) | exact hn199_3) (.int .i64 ((rd_T34 l1 a3).f1))).trans hx199_2; replace hx199_3 := (cell_far (p := ⟨gb198, 3, none⟩) (by first | (rw [add_block]; exact hn199_3) | (show (Addr.add _ _).block ≠ _; rw [add_block]; exact hn199_3) | exact hn199_3) (.int .i64 ((rd_T34 l1 a3).f1))).trans hx199_3; replace hx199_4 := (cell_far (p := ⟨gb198, 3, none⟩) (by first | (rw [add_block]; exact hn199_3) | (show (Addr.add _ _).block ≠ _; rw [add_block]; exact hn199_3) | exact hn199_3) (.int .i64 ((rd_T34 l1 a3).f1))).trans hx199_4; replace hx199_0 := (cell_far (p := ⟨gb198, 4, none⟩) (by first | (rw [add_block]; exact hn199_4) | (show (Addr.add _ _).block ≠ _; rw [add_block]; exact hn199_4) | exact hn199_4) (.int .i64 ((rd_T34 l1 a3).f2))).trans hx199_0; replace hx199_1 := (cell_far (p := ⟨gb198, 4, none⟩) (by first | (rw [add_block]; exact hn199_4) | (show (Addr.add _ _).block ≠ _; rw [add_block]; exact hn199_4) | exact hn199_4) (.int .i64 ((rd_T34 l1 a3).f2))).trans hx199_1; replace hx199_2 := (cell_far (p := ⟨gb198, 4, none⟩) (by first | (rw [add_block]; exact hn199_4) | (show (Addr.add _ _).block ≠ _; rw [add_block]; exact hn199_4) | exact hn199_4) (.int .i64 ((rd_T34 l1 a3).f2))).trans hx199_2; replace hx199_3 := (cell_far (p := ⟨gb198, 4, none⟩) (by first | (rw [add_block]; exact hn199_4) | (show (Addr.add _ _).block ≠ _; rw [add_block]; exact hn199_4) | exact hn199_4) (.int .i64 ((rd_T34 l1 a3).f2))).trans hx199_3; replace hx199_4 := (cell_far (p := ⟨gb198, 4, none⟩) (by first | (rw [add_block]; exact hn199_4) | (show (Addr.add _ _).block ≠ _; rw [add_block]; exact hn199_4) | exact hn199_4) (.int .i64 ((rd_T34 l1 a3).f2))).trans hx199_4; (try have hy199_0 := fun (n_ : Nat) => (show (((((((w12.drewN n_).setCell ⟨gb198, 0, none⟩ (.int .i64 ((rd_T34 l1 a3).f0.f0))).setCell ⟨gb198, 1, none⟩ (.int .i64 ((rd_T34 l1 a3).f0.f1))).setCell ⟨gb198, 2, none⟩ (.string ((rd_T34 l1 a3).f0.f2))).setCell ⟨gb198, 3, none⟩ (.int .i64 ((rd_T34 l1 a3).f1))).setCell ⟨gb198, 4, none⟩ (.int .i64 ((rd_T34 l1 a3).f2)))).cell? _ = some _ from hx199_0)); (try have hy199_1 := fun (n_ : Nat) => (show (((((((w12.drewN n_).setCell ⟨gb198, 0, none⟩ (.int .i64 ((rd_T34 l1 a3).f0.f0))).setCell ⟨gb198, 1, none⟩ (.int .i64 ((rd_T34 l1 a3).f0.f1))).setCell ⟨gb198, 2, none⟩ (.string ((rd_T34 l1 a3).f0.f2))).setCell ⟨gb198, 3, none⟩ (.int .i64 ((rd_T34 l1 a3).f1))).setCell ⟨gb198, 4, none⟩ (.int .i64 ((rd_T34 l1 a3).f2)))).cell? _ = some _ from hx199_1)); (try have hy199_2 := fun (n_ : Nat) => (show (((((((w12.drewN n_).setCell ⟨gb198, 0, none⟩ (.int .i64 ((rd_T34 l1 a3).f0.f0))).setCell ⟨gb198, 1, none⟩ (.int .i64 ((rd_T34 l1 a3).f0.f1))).setCell ⟨gb198, 2, none⟩ (.string ((rd_T34 l1 a3).f0.f2))).setCell ⟨gb198, 3, none⟩ (.int .i64 ((rd_T34 l1 a3).f1))).setCell ⟨gb198, 4, none⟩ (.int .i64 ((rd_T34 l1 a3).f2)))).cell? _ = some _ from hx199_2)); (try have hy199_3 := fun (n_ : Nat) => (show (((((((w12.drewN n_).setCell ⟨gb198, 0, none⟩ (.int .i64 ((rd_T34 l1 a3).f0.f0))).setCell ⟨gb198, 1, none⟩ (.int .i64 ((rd_T34 l1 a3).f0.f1))).setCell ⟨gb198, 2, none⟩ (.string ((rd_T34 l1 a3).f0.f2))).setCell ⟨gb198, 3, none⟩ (.int .i64 ((rd_T34 l1 a3).f1))).setCell ⟨gb198, 4, none⟩ (.int .i64 ((rd_T34 l1 a3).f2)))).cell? _ = some _ from hx199_3)); (try have hy199_4 := fun (n_ : Nat) => (show (((((((w12.drewN n_).setCell ⟨gb198, 0, none⟩ (.int .i64 ((rd_T34 l1 a3).f0.f0))).setCell ⟨gb198, 1, none⟩ (.int .i64 ((rd_T34 l1 a3).f0.f1))).setCell ⟨gb198, 2, none⟩ (.string ((rd_T34 l1 a3).f0.f2))).setCell ⟨gb198, 3, none⟩ (.int .i64 ((rd_T34 l1 a3).f1))).setCell ⟨gb198, 4, none⟩ (.int .i64 ((rd_T34 l1 a3).f2)))).cell? _ = some _ from hx199_4)); clear hn199_0; clear hn199_1; clear hn199_2; clear hn199_3; clear hn199_4; replace p199 := eq_true p199; replace q199 := eq_true q199) | ((with_reducible refine gate_dst (N := 12) rfl ?_); refine box_event ?hg (N := 12) ?hd (cs := #[.int .i64 0, .int .i64 0, .string (⟨#[]⟩ : ByteArray), .int .i64 0, .int .i64 0]) (t := 34) ?hr ?_; (case hd => rfl); (case hg => rfl); (case hr => first | (go_simp; done) | (go_simp; rfl)); intro gb200 hg w14 hbox hb; have n0_ := Aside0.mk (blk_below (g := gb198) (o := .cells #[.int .i64 ((rd_T34 l1 a3).f0.f0), .int .i64 ((rd_T34 l1 a3).f0.f1), .string ((rd_T34 l1 a3).f0.f2), .int .i64 ((rd_T34 l1 a3).f1), .int .i64 ((rd_T34 l1 a3).f2)] 34 (0, 0)) (by (with_reducible repeat (first | refine blk_drewN ?_ _ | refine blk_drew ?_ | refine blk_alloc ?_ _)); refine blk_put (cs := #[.int .i64 ((rd_T34 l1 a3).f0.f0), .int .i64 ((rd_T34 l1 a3).f0.f1), .string ((rd_T34 l1 a3).f0.f2), .int .i64 ((rd_T34 l1 a3).f1), .int .i64 0]) ?_ 4 _ rfl; (with_reducible repeat (first | refine blk_drewN ?_ _ | refine blk_drew ?_ | refine blk_alloc ?_ _)); refine blk_put (cs := #[.int .i64 ((rd_T34 l1 a3).f0.f0), .int .i64 ((rd_T34 l1 a3).f0.f1), .string ((rd_T34 l1 a3).f0.f2), .int .i64 0, .int .i64 0]) ?_ 3 _ rfl; (with_reducible repeat (first | refine blk_drewN ?_ _ | refine blk_drew ?_ | refine blk_alloc ?_ _)); refine blk_put (cs := #[.int .i64 ((rd_T34 l1 a3).f0.f0), .int .i64 ((rd_T34 l1 a3).f0.f1), .string (⟨#[]⟩ : ByteArray), .int .i64 0, .int .i64 0]) ?_ 2 _ rfl; (with_reducible repeat (first | refine blk_drewN ?_ _ | refine blk_drew ?_ | refine blk_alloc ?_ _)); refine blk_put (cs := #[.int .i64 ((rd_T34 l1 a3).f0.f0), .int .i64 0, .string (⟨#[]⟩ : ByteArray), .int .i64 0, .int .i64 0]) ?_ 1 _ rfl; (with_reducible repeat (first | refine blk_drewN ?_ _ | refine blk_drew ?_ | refine blk_alloc ?_ _)); refine blk_put (cs := #[.int .i64 0, .int .i64 0, .string (⟨#[]⟩ : ByteArray), .int .i64 0, .int .i64 0]) ?_ 0 _ rfl; (with_reducible repeat (first | refine blk_drewN ?_ _ | refine blk_drew ?_ | refine blk_alloc ?_ _)); exact BK198.out) hb); have n1_ := Aside0.mk (below_step (by repeat (first | (with_reducible first | exact HB.out | apply below_alloc | apply pw_below_drewN | apply below_drew1 | refine below_set ?_ GE198.out) | exact HB.out)) hb); have n2_ := Aside0.mk (hbox); have n3_ := Aside0.mk ((by rw [hg]; exact (below_size (by repeat (first | (with_reducible first | exact HB.out | apply below_alloc | apply pw_below_drewN | apply below_drew1 | refine below_set ?_ GE198.out) | exact HB.out))) : w.heap.size ≤ gb200)); have n4_ := Aside0.mk ((by rw [hg]; exact (below_size (by repeat (first | (with_reducible first | exact HB.out | apply below_alloc | apply pw_below_drewN | apply below_drew1 | refine below_set ?_ GE198.out) | exact HB.out))) : w.heap.size ≤ gb200)); have n5_ := Aside0.mk ((by rw [hg]; exact Nat.ne_of_lt (blk_lt (g := gb198) (o := .cells #[.int .i64 ((rd_T34 l1 a3).f0.f0), .int .i64 ((rd_T34 l1 a3).f0.f1), .string ((rd_T34 l1 a3).f0.f2), .int .i64 ((rd_T34 l1 a3).f1), .int .i64 ((rd_T34 l1 a3).f2)] 34 (0, 0)) (by (with_reducible repeat (first | refine blk_drewN ?_ _ | refine blk_drew ?_ | refine blk_alloc ?_ _)); refine blk_put (cs := #[.int .i64 ((rd_T34 l1 a3).f0.f0), .int .i64 ((rd_T34 l1 a3).f0.f1), .string ((rd_T34 l1 a3).f0.f2), .int .i64 ((rd_T34 l1 a3).f1), .int .i64 0]) ?_ 4 _ rfl; (with_reducible repeat (first | refine blk_drewN ?_ _ | refine blk_drew ?_ | refine blk_alloc ?_ _)); refine blk_put (cs := #[.int .i64 ((rd_T34 l1 a3).f0.f0), .int .i64 ((rd_T34 l1 a3).f0.f1), .string ((rd_T34 l1 a3).f0.f2), .int .i64 0, .int .i64 0]) ?_ 3 _ rfl; (with_reducible repeat (first | refine blk_drewN ?_ _ | refine blk_drew ?_ | refine blk_alloc ?_ _)); refine blk_put (cs := #[.int .i64 ((rd_T34 l1 a3).f0.f0), .int .i64 ((rd_T34 l1 a3).f0.f1), .string (⟨#[]⟩ : ByteArray), .int .i64 0, .int .i64 0]) ?_ 2 _ rfl; (with_reducible repeat (first | refine blk_drewN ?_ _ | refine blk_drew ?_ | refine blk_alloc ?_ _)); refine blk_put (cs := #[.int .i64 ((rd_T34 l1 a3).f0.f0), .int .i64 0, .string (⟨#[]⟩ : ByteArray), .int .i64 0, .int .i64 0]) ?_ 1 _ rfl; (with_reducible repeat (first | refine blk_drewN ?_ _ | refine blk_drew ?_ | refine blk_alloc ?_ _)); refine blk_put (cs := #[.int .i64 0, .int .i64 0, .string (⟨#[]⟩ : ByteArray), .int .i64 0, .int .i64 0]) ?_ 0 _ rfl; (with_reducible repeat (first | refine blk_drewN ?_ _ | refine blk_drew ?_ | refine blk_alloc ?_ _)); exact BK198.out)) : gb198 ≠ gb200)); have n6_ := Aside0.mk ((by rw [hg]; exact Nat.ne_of_gt (blk_lt (g := gb198) (o := .cells #[.int .i64 ((rd_T34 l1 a3).f0.f0), .int .i64 ((rd_T34 l1 a3).f0.f1), .string ((rd_T34 l1 a3).f0.f2), .int .i64 ((rd_T34 l1 a3).f1), .int .i64 ((rd_T34 l1 a3).f2)] 34 (0, 0)) (by (with_reducible repeat (first | refine blk_drewN ?_ _ | refine blk_drew ?_ | refine blk_alloc ?_ _)); refine blk_put (cs := #[.int .i64 ((rd_T34 l1 a3).f0.f0), .int .i64 ((rd_T34 l1 a3).f0.f1), .string ((rd_T34 l1 a3).f0.f2), .int .i64 ((rd_T34 l1 a3).f1), .int .i64 0]) ?_ 4 _ rfl; (with_reducible repeat (first | refine blk_drewN ?_ _ | refine blk_drew ?_ | refine blk_alloc ?_ _)); refine blk_put (cs := #[.int .i64 ((rd_T34 l1 a3).f0.f0), .int .i64 ((rd_T34 l1 a3).f0.f1), .string ((rd_T34 l1 a3).f0.f2), .int .i64 0, .int .i64 0]) ?_ 3 _ rfl; (with_reducible repeat (first | refine blk_drewN ?_ _ | refine blk_drew ?_ | refine blk_alloc ?_ _)); refine blk_put (cs := #[.int .i64 ((rd_T34 l1 a3).f0.f0), .int .i64 ((rd_T34 l1 a3).f0.f1), .string (⟨#[]⟩ : ByteArray), .int .i64 0, .int .i64 0]) ?_ 2 _ rfl; (with_reducible repeat (first | refine blk_drewN ?_ _ | refine blk_drew ?_ | refine blk_alloc ?_ _)); refine blk_put (cs := #[.int .i64 ((rd_T34 l1 a3).f0.f0), .int .i64 0, .string (⟨#[]⟩ : ByteArray), .int .i64 0, .int .i64 0]) ?_ 1 _ rfl; (with_reducible repeat (first | refine blk_drewN ?_ _ | refine blk_drew ?_ | refine blk_alloc ?_ _)); refine blk_put (cs := #[.int .i64 0, .int .i64 0, .string (⟨#[]⟩ : ByteArray), .int .i64 0, .int .i64 0]) ?_ 0 _ rfl; (with_reducible repeat (first | refine blk_drewN ?_ _ | refine blk_drew ?_ | refine blk_alloc ?_ _)); exact BK198.out)) : gb200 ≠ gb198)); clear BK198; clear HB; have BK198 := n0_; have HB := n1_; have BK200 := n2_; have GW200 := n3_; have GE200 := n4_; have NB198_200 := n5_; have NB200_198 := n6_; clear n0_ n1_ n2_ n3_ n4_ n5_ n6_; clear hb hbox hg; have hnb15 := NB200_198.out; have hnc15 := NB198_200.out; have hcz16_0 : w14.cell? ⟨gb200, 0, none⟩ = some (.int .i64 0) := (blk_cell BK200.out 0).trans rfl; have hcz16_1 : w14.cell? ⟨gb200, 1, none⟩ = some (.int .i64 0) := (blk_cell BK200.out 1).trans rfl; have hcz16_2 : w14.cell? ⟨gb200, 2, none⟩ = some (.string (⟨#[]⟩ : ByteArray)) := (blk_cell BK200.out 2).trans rfl; have hcz16_3 : w14.cell? ⟨gb200, 3, none⟩ = some (.int .i64 0) := (blk_cell BK200.out 3).trans rfl; have hcz16_4 : w14.cell? ⟨gb200, 4, none⟩ = some (.int .i64 0) := (blk_cell BK200.out 4).trans rfl; have hfz16_0 := blk_frozen BK200.out 0; have hfz16_1 := blk_frozen BK200.out 1; have hfz16_2 := blk_frozen BK200.out 2; have hfz16_3 := blk_frozen BK200.out 3; have hfz16_4 := blk_frozen BK200.out 4; have hcz17_0 : w14.cell? ⟨gb198, 0, none⟩ = some (.int .i64 ((rd_T34 l1 a3).f0.f0)) := (blk_cell BK198.out 0).trans rfl; have hcz17_1 : w14.cell? ⟨gb198, 1, none⟩ = some (.int .i64 ((rd_T34 l1 a3).f0.f1)) := (blk_cell BK198.out 1).trans rfl; have hcz17_2 : w14.cell? ⟨gb198, 2, none⟩ = some (.string ((rd_T34 l1 a3).f0.f2)) := (blk_cell BK198.out 2).trans rfl; have hcz17_3 : w14.cell? ⟨gb198, 3, none⟩ = some (.int .i64 ((rd_T34 l1 a3).f1)) := (blk_cell BK198.out 3).trans rfl; have hcz17_4 : w14.cell? ⟨gb198, 4, none⟩ = some (.int .i64 ((rd_T34 l1 a3).f2)) := (blk_cell BK198.out 4).trans rfl; have hfz17_0 := blk_frozen BK198.out 0; have hfz17_1 := blk_frozen BK198.out 1; have hfz17_2 := blk_frozen BK198.out 2; have hfz17_3 := blk_frozen BK198.out 3; have hfz17_4 := blk_frozen BK198.out 4) | (go_at_call 43; (with_reducible refine (cleanseref02_Compare.calls ((rd_T34 l1 a3).f0.f0) ((rd_T34 l1 a3).f0.f1) ((rd_T34 l1 a3).f0.f2) ((rd_T34 l1 a4).f0.f0) ((rd_T34 l1 a4).f0.f1) ((rd_T34 l1 a4).f0.f2) t201 _ A10.out).mono ?_); rintro e w18 ⟨rfl, hb⟩; have n0_ := Aside0.mk (blk_below (g := gb198) (o := .cells #[.int .i64 ((rd_T34 l1 a3).f0.f0), .int .i64 ((rd_T34 l1 a3).f0.f1), .string ((rd_T34 l1 a3).f0.f2), .int .i64 ((rd_T34 l1 a3).f1), .int .i64 ((rd_T34 l1 a3).f2)] 34 (0, 0)) (by (with_reducible repeat (first | refine blk_drewN ?_ _ | refine blk_drew ?_ | refine blk_alloc ?_ _)); refine blk_far ?_ NB198_200.out _; (with_reducible repeat (first | refine blk_drewN ?_ _ | refine blk_drew ?_ | refine blk_alloc ?_ _)); refine blk_far ?_ NB198_200.out _; (with_reducible repeat (first | refine blk_drewN ?_ _ | refine blk_drew ?_ | refine blk_alloc ?_ _)); refine blk_far ?_ NB198_200.out _; (with_reducible repeat (first | refine blk_drewN ?_ _ | refine blk_drew ?_ | refine blk_alloc ?_ _)); refine blk_far ?_ NB198_200.out _; (with_reducible repeat (first | refine blk_drewN ?_ _ | refine blk_drew ?_ | refine blk_alloc ?_ _)); refine blk_far ?_ NB198_200.out _; (with_reducible repeat (first | refine blk_drewN ?_ _ | refine blk_drew ?_ | refine blk_alloc ?_ _)); exact BK198.out) hb); have n1_ := Aside0.mk (blk_below (g := gb200) (o := .cells #[.int .i64 ((rd_T34 l1 a4).f0.f0), .int .i64 ((rd_T34 l1 a4).f0.f1), .string ((rd_T34 l1 a4).f0.f2), .int .i64 ((rd_T34 l1 a4).f1), .int .i64 ((rd_T34 l1 a4).f2)] 34 (0, 0)) (by (with_reducible repeat (first | refine blk_drewN ?_ _ | refine blk_drew ?_ | refine blk_alloc ?_ _)); refine blk_put (cs := #[.int .i64 ((rd_T34 l1 a4).f0.f0), .int .i64 ((rd_T34 l1 a4).f0.f1), .string ((rd_T34 l1 a4).f0.f2), .int .i64 ((rd_T34 l1 a4).f1), .int .i64 0]) ?_ 4 _ rfl; (with_reducible repeat (first | refine blk_drewN ?_ _ | refine blk_drew ?_ | refine blk_alloc ?_ _)); refine blk_put (cs := #[.int .i64 ((rd_T34 l1 a4).f0.f0), .int .i64 ((rd_T34 l1 a4).f0.f1), .string ((rd_T34 l1 a4).f0.f2), .int .i64 0, .int .i64 0]) ?_ 3 _ rfl; (with_reducible repeat (first | refine blk_drewN ?_ _ | refine blk_drew ?_ | refine blk_alloc ?_ _)); refine blk_put (cs := #[.int .i64 ((rd_T34 l1 a4).f0.f0), .int .i64 ((rd_T34 l1 a4).f0.f1), .string (⟨#[]⟩ : ByteArray), .int .i64 0, .int .i64 0]) ?_ 2 _ rfl; (with_reducible repeat (first | refine blk_drewN ?_ _ | refine blk_drew ?_ | refine blk_alloc ?_ _)); refine blk_put (cs := #[.int .i64 ((rd_T34 l1 a4).f0.f0), .int .i64 0, .string (⟨#[]⟩ : ByteArray), .int .i64 0, .int .i64 0]) ?_ 1 _ rfl; (with_reducible repeat (first | refine blk_drewN ?_ _ | refine blk_drew ?_ | refine blk_alloc ?_ _)); refine blk_put (cs := #[.int .i64 0, .int .i64 0, .string (⟨#[]⟩ : ByteArray), .int .i64 0, .int .i64 0]) ?_ 0 _ rfl; (with_reducible repeat (first | refine blk_drewN ?_ _ | refine blk_drew ?_ | refine blk_alloc ?_ _)); exact BK200.out) hb); have n2_ := Aside0.mk (below_step (by repeat (first | (with_reducible first | exact HB.out | apply below_alloc | apply pw_below_drewN | apply below_drew1 | refine below_set ?_ GE198.out | refine below_set ?_ GE200.out) | exact HB.out)) hb); clear BK198; clear BK200; clear HB; have BK198 := n0_; have BK200 := n1_; have HB := n2_; clear n0_ n1_ n2_; (try clear hb); (try clear hb2); (try clear hk); (try clear hi)))
          repeat (go_quiet (first | ((with_reducible refine gate_dst (N := 11) rfl ?_); refine box_event ?hg (N := 11) ?hd (cs := #[.int .i64 0, .int .i64 0, .string (⟨#[]⟩ : ByteArray), .int .i64 0, .int .i64 0]) (t := 34) ?hr ?_; (case hd => rfl); (case hg => rfl); (case hr => first | (go_simp; done) | (go_simp; rfl)); intro gb198 hg w12 hbox hb; have n0_ := Aside0.mk (below_step (by repeat (first | (with_reducible first | exact HB.out | apply below_alloc | apply pw_below_drewN | apply below_drew1) | exact HB.out)) hb); have n1_ := Aside0.mk (hbox); have n2_ := Aside0.mk ((by rw [hg]; exact (below_size (by repeat (first | (with_reducible first | exact HB.out | apply below_alloc | apply pw_below_drewN | apply below_drew1) | exact HB.out))) : w.heap.size ≤ gb198)); have n3_ := Aside0.mk ((by rw [hg]; exact (below_size (by repeat (first | (with_reducible first | exact HB.out | apply below_alloc | apply pw_below_drewN | apply below_drew1) | exact HB.out))) : w.heap.size ≤ gb198)); clear HB; have HB := n0_; have BK198 := n1_; have GW198 := n2_; have GE198 := n3_; clear n0_ n1_ n2_ n3_; clear hb hbox hg; have hcz13_0 : w12.cell? ⟨gb198, 0, none⟩ = some (.int .i64 0) := (blk_cell BK198.out 0).trans rfl; have hcz13_1 : w12.cell? ⟨gb198, 1, none⟩ = some (.int .i64 0) := (blk_cell BK198.out 1).trans rfl; have hcz13_2 : w12.cell? ⟨gb198, 2, none⟩ = some (.string (⟨#[]⟩ : ByteArray)) := (blk_cell BK198.out 2).trans rfl; have hcz13_3 : w12.cell? ⟨gb198, 3, none⟩ = some (.int .i64 0) := (blk_cell BK198.out 3).trans rfl; have hcz13_4 : w12.cell? ⟨gb198, 4, none⟩ = some (.int .i64 0) := (blk_cell BK198.out 4).trans rfl; have hfz13_0 := blk_frozen BK198.out 0; have hfz13_1 := blk_frozen BK198.out 1; have hfz13_2 := blk_frozen BK198.out 2; have hfz13_3 := blk_frozen BK198.out 3; have hfz13_4 := blk_frozen BK198.out 4; have p199 : 0 ≤ (a4 : Int) := of_decide_eq_true (by first | (with_reducible assumption) | assumption); have q199 : a4 < (l1.length : Int) := of_decide_eq_true (by first | (with_reducible assumption) | assumption); obtain ⟨ad199, e199, hx199_0, hx199_1, hx199_2, hx199_3, hx199_4⟩ := at_T34 HR1.out a4 p199 q199; obtain rfl : ad197 = ad199 := (by injection e199); have hn199_0 : ad197.block ≠ gb198 := Nat.ne_of_lt (Nat.lt_of_lt_of_le (by have := World.block_lt_of_cell? _ _ hx199_0; first | rwa [add_block] at this | exact this) GW198.out); have hn199_1 : ad197.block ≠ gb198 := Nat.ne_of_lt (Nat.lt_of_lt_of_le (by have := World.block_lt_of_cell? _ _ hx199_0; first | rwa [add_block] at this | exact this) GW198.out); have hn199_2 : ad197.block ≠ gb198 := Nat.ne_of_lt (Nat.lt_of_lt_of_le (by have := World.block_lt_of_cell? _ _ hx199_0; first | rwa [add_block] at this | exact this) GW198.out); have hn199_3 : ad197.block ≠ gb198 := Nat.ne_of_lt (Nat.lt_of_lt_of_le (by have := World.block_lt_of_cell? _ _ hx199_0; first | rwa [add_block] at this | exact this) GW198.out); have hn199_4 : ad197.block ≠ gb198 := Nat.ne_of_lt (Nat.lt_of_lt_of_le (by have := World.block_lt_of_cell? _ _ hx199_0; first | rwa [add_block] at this | exact this) GW198.out); replace hx199_0 := (HB.out.cell (World.block_lt_of_cell? w _ hx199_0)).trans hx199_0; replace hx199_1 := (HB.out.cell (World.block_lt_of_cell? w _ hx199_1)).trans hx199_1; replace hx199_2 := (HB.out.cell (World.block_lt_of_cell? w _ hx199_2)).trans hx199_2; replace hx199_3 := (HB.out.cell (World.block_lt_of_cell? w _ hx199_3)).trans hx199_3; replace hx199_4 := (HB.out.cell (World.block_lt_of_cell? w _ hx199_4)).trans hx199_4; replace hx199_0 := (cell_far (p := ⟨gb198, 0, none⟩) (by first | (rw [add_block]; exact hn199_0) | (show (Addr.add _ _).block ≠ _; rw [add_block]; exact hn199_0) | exact hn199_0) (.int .i64 ((rd_T34 l1 a3).f0.f0))).trans hx199_0; replace hx199_1 := (cell_far (p := ⟨gb198, 0, none⟩) (by first | (rw [add_block]; exact hn199_0) | (show (Addr.add _ _).block ≠ _; rw [add_block]; exact hn199_0) | exact hn199_0) (.int .i64 ((rd_T34 l1 a3).f0.f0))).trans hx199_1; replace hx199_2 := (cell_far (p := ⟨gb198, 0, none⟩) (by first | (rw [add_block]; exact hn199_0) | (show (Addr.add _ _).block ≠ _; rw [add_block]; exact hn199_0) | exact hn199_0) (.int .i64 ((rd_T34 l1 a3).f0.f0))).trans hx199_2; replace hx199_3 := (cell_far (p := ⟨gb198, 0, none⟩) (by first | (rw [add_block]; exact hn199_0) | (show (Addr.add _ _).block ≠ _; rw [add_block]; exact hn199_0) | exact hn199_0) (.int .i64 ((rd_T34 l1 a3).f0.f0))).trans hx199_3; replace hx199_4 := (cell_far (p := ⟨gb198, 0, none⟩) (by first | (rw [add_block]; exact hn199_0) | (show (Addr.add _ _).block ≠ _; rw [add_block]; exact hn199_0) | exact hn199_0) (.int .i64 ((rd_T34 l1 a3).f0.f0))).trans hx199_4; replace hx199_0 := (cell_far (p := ⟨gb198, 1, none⟩) (by first | (rw [add_block]; exact hn199_1) | (show (Addr.add _ _).block ≠ _; rw [add_block]; exact hn199_1) | exact hn199_1) (.int .i64 ((rd_T34 l1 a3).f0.f1))).trans hx199_0; replace hx199_1 := (cell_far (p := ⟨gb198, 1, none⟩) (by first | (rw [add_block]; exact hn199_1) | (show (Addr.add _ _).block ≠ _; rw [add_block]; exact hn199_1) | exact hn199_1) (.int .i64 ((rd_T34 l1 a3).f0.f1))).trans hx199_1; replace hx199_2 := (cell_far (p := ⟨gb198, 1, none⟩) (by first | (rw [add_block]; exact hn199_1) | (show (Addr.add _ _).block ≠ _; rw [add_block]; exact hn199_1) | exact hn199_1) (.int .i64 ((rd_T34 l1 a3).f0.f1))).trans hx199_2; replace hx199_3 := (cell_far (p := ⟨gb198, 1, none⟩) (by first | (rw [add_block]; exact hn199_1) | (show (Addr.add _ _).block ≠ _; rw [add_block]; exact hn199_1) | exact hn199_1) (.int .i64 ((rd_T34 l1 a3).f0.f1))).trans hx199_3; replace hx199_4 := (cell_far (p := ⟨gb198, 1, none⟩) (by first | (rw [add_block]; exact hn199_1) | (show (Addr.add _ _).block ≠ _; rw [add_block]; exact hn199_1) | exact hn199_1) (.int .i64 ((rd_T34 l1 a3).f0.f1))).trans hx199_4; replace hx199_0 := (cell_far (p := ⟨gb198, 2, none⟩) (by first | (rw [add_block]; exact hn199_2) | (show (Addr.add _ _).block ≠ _; rw [add_block]; exact hn199_2) | exact hn199_2) (.string ((rd_T34 l1 a3).f0.f2))).trans hx199_0; replace hx199_1 := (cell_far (p := ⟨gb198, 2, none⟩) (by first | (rw [add_block]; exact hn199_2) | (show (Addr.add _ _).block ≠ _; rw [add_block]; exact hn199_2) | exact hn199_2) (.string ((rd_T34 l1 a3).f0.f2))).trans hx199_1; replace hx199_2 := (cell_far (p := ⟨gb198, 2, none⟩) (by first | (rw [add_block]; exact hn199_2) | (show (Addr.add _ _).block ≠ _; rw [add_block]; exact hn199_2) | exact hn199_2) (.string ((rd_T34 l1 a3).f0.f2))).trans hx199_2; replace hx199_3 := (cell_far (p := ⟨gb198, 2, none⟩) (by first | (rw [add_block]; exact hn199_2) | (show (Addr.add _ _).block ≠ _; rw [add_block]; exact hn199_2) | exact hn199_2) (.string ((rd_T34 l1 a3).f0.f2))).trans hx199_3; replace hx199_4 := (cell_far (p := ⟨gb198, 2, none⟩) (by first | (rw [add_block]; exact hn199_2) | (show (Addr.add _ _).block ≠ _; rw [add_block]; exact hn199_2) | exact hn199_2) (.string ((rd_T34 l1 a3).f0.f2))).trans hx199_4; replace hx199_0 := (cell_far (p := ⟨gb198, 3, none⟩) (by first | (rw [add_block]; exact hn199_3) | (show (Addr.add _ _).block ≠ _; rw [add_block]; exact hn199_3) | exact hn199_3) (.int .i64 ((rd_T34 l1 a3).f1))).trans hx199_0; replace hx199_1 := (cell_far (p := ⟨gb198, 3, none⟩) (by first | (rw [add_block]; exact hn199_3) | (show (Addr.add _ _).block ≠ _; rw [add_block]; exact hn199_3) | exact hn199_3) (.int .i64 ((rd_T34 l1 a3).f1))).trans hx199_1; replace hx199_2 := (cell_far (p := ⟨gb198, 3, none⟩) (by first | (rw [add_block]; exact hn199_3) | (show (Addr.add _ _).block ≠ _; rw [add_block]; exact hn199_3) | exact hn199_3) (.int .i64 ((rd_T34 l1 a3).f1))).trans hx199_2; replace hx199_3 := (cell_far (p := ⟨gb198, 3, none⟩) (by first | (rw [add_block]; exact hn199_3) | (show (Addr.add _ _).block ≠ _; rw [add_block]; exact hn199_3) | exact hn199_3) (.int .i64 ((rd_T34 l1 a3).f1))).trans hx199_3; replace hx199_4 := (cell_far (p := ⟨gb198, 3, none⟩) (by first | (rw [add_block]; exact hn199_3) | (show (Addr.add _ _).block ≠ _; rw [add_block]; exact hn199_3) | exact hn199_3) (.int .i64 ((rd_T34 l1 a3).f1))).trans hx199_4; replace hx199_0 := (cell_far (p := ⟨gb198, 4, none⟩) (by first | (rw [add_block]; exact hn199_4) | (show (Addr.add _ _).block ≠ _; rw [add_block]; exact hn199_4) | exact hn199_4) (.int .i64 ((rd_T34 l1 a3).f2))).trans hx199_0; replace hx199_1 := (cell_far (p := ⟨gb198, 4, none⟩) (by first | (rw [add_block]; exact hn199_4) | (show (Addr.add _ _).block ≠ _; rw [add_block]; exact hn199_4) | exact hn199_4) (.int .i64 ((rd_T34 l1 a3).f2))).trans hx199_1; replace hx199_2 := (cell_far (p := ⟨gb198, 4, none⟩) (by first | (rw [add_block]; exact hn199_4) | (show (Addr.add _ _).block ≠ _; rw [add_block]; exact hn199_4) | exact hn199_4) (.int .i64 ((rd_T34 l1 a3).f2))).trans hx199_2; replace hx199_3 := (cell_far (p := ⟨gb198, 4, none⟩) (by first | (rw [add_block]; exact hn199_4) | (show (Addr.add _ _).block ≠ _; rw [add_block]; exact hn199_4) | exact hn199_4) (.int .i64 ((rd_T34 l1 a3).f2))).trans hx199_3; replace hx199_4 := (cell_far (p := ⟨gb198, 4, none⟩) (by first | (rw [add_block]; exact hn199_4) | (show (Addr.add _ _).block ≠ _; rw [add_block]; exact hn199_4) | exact hn199_4) (.int .i64 ((rd_T34 l1 a3).f2))).trans hx199_4; (try have hy199_0 := fun (n_ : Nat) => (show (((((((w12.drewN n_).setCell ⟨gb198, 0, none⟩ (.int .i64 ((rd_T34 l1 a3).f0.f0))).setCell ⟨gb198, 1, none⟩ (.int .i64 ((rd_T34 l1 a3).f0.f1))).setCell ⟨gb198, 2, none⟩ (.string ((rd_T34 l1 a3).f0.f2))).setCell ⟨gb198, 3, none⟩ (.int .i64 ((rd_T34 l1 a3).f1))).setCell ⟨gb198, 4, none⟩ (.int .i64 ((rd_T34 l1 a3).f2)))).cell? _ = some _ from hx199_0)); (try have hy199_1 := fun (n_ : Nat) => (show (((((((w12.drewN n_).setCell ⟨gb198, 0, none⟩ (.int .i64 ((rd_T34 l1 a3).f0.f0))).setCell ⟨gb198, 1, none⟩ (.int .i64 ((rd_T34 l1 a3).f0.f1))).setCell ⟨gb198, 2, none⟩ (.string ((rd_T34 l1 a3).f0.f2))).setCell ⟨gb198, 3, none⟩ (.int .i64 ((rd_T34 l1 a3).f1))).setCell ⟨gb198, 4, none⟩ (.int .i64 ((rd_T34 l1 a3).f2)))).cell? _ = some _ from hx199_1)); (try have hy199_2 := fun (n_ : Nat) => (show (((((((w12.drewN n_).setCell ⟨gb198, 0, none⟩ (.int .i64 ((rd_T34 l1 a3).f0.f0))).setCell ⟨gb198, 1, none⟩ (.int .i64 ((rd_T34 l1 a3).f0.f1))).setCell ⟨gb198, 2, none⟩ (.string ((rd_T34 l1 a3).f0.f2))).setCell ⟨gb198, 3, none⟩ (.int .i64 ((rd_T34 l1 a3).f1))).setCell ⟨gb198, 4, none⟩ (.int .i64 ((rd_T34 l1 a3).f2)))).cell? _ = some _ from hx199_2)); (try have hy199_3 := fun (n_ : Nat) => (show (((((((w12.drewN n_).setCell ⟨gb198, 0, none⟩ (.int .i64 ((rd_T34 l1 a3).f0.f0))).setCell ⟨gb198, 1, none⟩ (.int .i64 ((rd_T34 l1 a3).f0.f1))).setCell ⟨gb198, 2, none⟩ (.string ((rd_T34 l1 a3).f0.f2))).setCell ⟨gb198, 3, none⟩ (.int .i64 ((rd_T34 l1 a3).f1))).setCell ⟨gb198, 4, none⟩ (.int .i64 ((rd_T34 l1 a3).f2)))).cell? _ = some _ from hx199_3)); (try have hy199_4 := fun (n_ : Nat) => (show (((((((w12.drewN n_).setCell ⟨gb198, 0, none⟩ (.int .i64 ((rd_T34 l1 a3).f0.f0))).setCell ⟨gb198, 1, none⟩ (.int .i64 ((rd_T34 l1 a3).f0.f1))).setCell ⟨gb198, 2, none⟩ (.string ((rd_T34 l1 a3).f0.f2))).setCell ⟨gb198, 3, none⟩ (.int .i64 ((rd_T34 l1 a3).f1))).setCell ⟨gb198, 4, none⟩ (.int .i64 ((rd_T34 l1 a3).f2)))).cell? _ = some _ from hx199_4)); clear hn199_0; clear hn199_1; clear hn199_2; clear hn199_3; clear hn199_4; replace p199 := eq_true p199; replace q199 := eq_true q199) | ((with_reducible refine gate_dst (N := 12) rfl ?_); refine box_event ?hg (N := 12) ?hd (cs := #[.int .i64 0, .int .i64 0, .string (⟨#[]⟩ : ByteArray), .int .i64 0, .int .i64 0]) (t := 34) ?hr ?_; (case hd => rfl); (case hg => rfl); (case hr => first | (go_simp; done) | (go_simp; rfl)); intro gb200 hg w14 hbox hb; have n0_ := Aside0.mk (blk_below (g := gb198) (o := .cells #[.int .i64 ((rd_T34 l1 a3).f0.f0), .int .i64 ((rd_T34 l1 a3).f0.f1), .string ((rd_T34 l1 a3).f0.f2), .int .i64 ((rd_T34 l1 a3).f1), .int .i64 ((rd_T34 l1 a3).f2)] 34 (0, 0)) (by (with_reducible repeat (first | refine blk_drewN ?_ _ | refine blk_drew ?_ | refine blk_alloc ?_ _)); refine blk_put (cs := #[.int .i64 ((rd_T34 l1 a3).f0.f0), .int .i64 ((rd_T34 l1 a3).f0.f1), .string ((rd_T34 l1 a3).f0.f2), .int .i64 ((rd_T34 l1 a3).f1), .int .i64 0]) ?_ 4 _ rfl; (with_reducible repeat (first | refine blk_drewN ?_ _ | refine blk_drew ?_ | refine blk_alloc ?_ _)); refine blk_put (cs := #[.int .i64 ((rd_T34 l1 a3).f0.f0), .int .i64 ((rd_T34 l1 a3).f0.f1), .string ((rd_T34 l1 a3).f0.f2), .int .i64 0, .int .i64 0]) ?_ 3 _ rfl; (with_reducible repeat (first | refine blk_drewN ?_ _ | refine blk_drew ?_ | refine blk_alloc ?_ _)); refine blk_put (cs := #[.int .i64 ((rd_T34 l1 a3).f0.f0), .int .i64 ((rd_T34 l1 a3).f0.f1), .string (⟨#[]⟩ : ByteArray), .int .i64 0, .int .i64 0]) ?_ 2 _ rfl; (with_reducible repeat (first | refine blk_drewN ?_ _ | refine blk_drew ?_ | refine blk_alloc ?_ _)); refine blk_put (cs := #[.int .i64 ((rd_T34 l1 a3).f0.f0), .int .i64 0, .string (⟨#[]⟩ : ByteArray), .int .i64 0, .int .i64 0]) ?_ 1 _ rfl; (with_reducible repeat (first | refine blk_drewN ?_ _ | refine blk_drew ?_ | refine blk_alloc ?_ _)); refine blk_put (cs := #[.int .i64 0, .int .i64 0, .string (⟨#[]⟩ : ByteArray), .int .i64 0, .int .i64 0]) ?_ 0 _ rfl; (with_reducible repeat (first | refine blk_drewN ?_ _ | refine blk_drew ?_ | refine blk_alloc ?_ _)); exact BK198.out) hb); have n1_ := Aside0.mk (below_step (by repeat (first | (with_reducible first | exact HB.out | apply below_alloc | apply pw_below_drewN | apply below_drew1 | refine below_set ?_ GE198.out) | exact HB.out)) hb); have n2_ := Aside0.mk (hbox); have n3_ := Aside0.mk ((by rw [hg]; exact (below_size (by repeat (first | (with_reducible first | exact HB.out | apply below_alloc | apply pw_below_drewN | apply below_drew1 | refine below_set ?_ GE198.out) | exact HB.out))) : w.heap.size ≤ gb200)); have n4_ := Aside0.mk ((by rw [hg]; exact (below_size (by repeat (first | (with_reducible first | exact HB.out | apply below_alloc | apply pw_below_drewN | apply below_drew1 | refine below_set ?_ GE198.out) | exact HB.out))) : w.heap.size ≤ gb200)); have n5_ := Aside0.mk ((by rw [hg]; exact Nat.ne_of_lt (blk_lt (g := gb198) (o := .cells #[.int .i64 ((rd_T34 l1 a3).f0.f0), .int .i64 ((rd_T34 l1 a3).f0.f1), .string ((rd_T34 l1 a3).f0.f2), .int .i64 ((rd_T34 l1 a3).f1), .int .i64 ((rd_T34 l1 a3).f2)] 34 (0, 0)) (by (with_reducible repeat (first | refine blk_drewN ?_ _ | refine blk_drew ?_ | refine blk_alloc ?_ _)); refine blk_put (cs := #[.int .i64 ((rd_T34 l1 a3).f0.f0), .int .i64 ((rd_T34 l1 a3).f0.f1), .string ((rd_T34 l1 a3).f0.f2), .int .i64 ((rd_T34 l1 a3).f1), .int .i64 0]) ?_ 4 _ rfl; (with_reducible repeat (first | refine blk_drewN ?_ _ | refine blk_drew ?_ | refine blk_alloc ?_ _)); refine blk_put (cs := #[.int .i64 ((rd_T34 l1 a3).f0.f0), .int .i64 ((rd_T34 l1 a3).f0.f1), .string ((rd_T34 l1 a3).f0.f2), .int .i64 0, .int .i64 0]) ?_ 3 _ rfl; (with_reducible repeat (first | refine blk_drewN ?_ _ | refine blk_drew ?_ | refine blk_alloc ?_ _)); refine blk_put (cs := #[.int .i64 ((rd_T34 l1 a3).f0.f0), .int .i64 ((rd_T34 l1 a3).f0.f1), .string (⟨#[]⟩ : ByteArray), .int .i64 0, .int .i64 0]) ?_ 2 _ rfl; (with_reducible repeat (first | refine blk_drewN ?_ _ | refine blk_drew ?_ | refine blk_alloc ?_ _)); refine blk_put (cs := #[.int .i64 ((rd_T34 l1 a3).f0.f0), .int .i64 0, .string (⟨#[]⟩ : ByteArray), .int .i64 0, .int .i64 0]) ?_ 1 _ rfl; (with_reducible repeat (first | refine blk_drewN ?_ _ | refine blk_drew ?_ | refine blk_alloc ?_ _)); refine blk_put (cs := #[.int .i64 0, .int .i64 0, .string (⟨#[]⟩ : ByteArray), .int .i64 0, .int .i64 0]) ?_ 0 _ rfl; (with_reducible repeat (first | refine blk_drewN ?_ _ | refine blk_drew ?_ | refine blk_alloc ?_ _)); exact BK198.out)) : gb198 ≠ gb200)); have n6_ := Aside0.mk ((by rw [hg]; exact Nat.ne_of_gt (blk_lt (g := gb198) (o := .cells #[.int .i64 ((rd_T34 l1 a3).f0.f0), .int .i64 ((rd_T34 l1 a3).f0.f1), .string ((rd_T34 l1 a3).f0.f2), .int .i64 ((rd_T34 l1 a3).f1), .int .i64 ((rd_T34 l1 a3).f2)] 34 (0, 0)) (by (with_reducible repeat (first | refine blk_drewN ?_ _ | refine blk_drew ?_ | refine blk_alloc ?_ _)); refine blk_put (cs := #[.int .i64 ((rd_T34 l1 a3).f0.f0), .int .i64 ((rd_T34 l1 a3).f0.f1), .string ((rd_T34 l1 a3).f0.f2), .int .i64 ((rd_T34 l1 a3).f1), .int .i64 0]) ?_ 4 _ rfl; (with_reducible repeat (first | refine blk_drewN ?_ _ | refine blk_drew ?_ | refine blk_alloc ?_ _)); refine blk_put (cs := #[.int .i64 ((rd_T34 l1 a3).f0.f0), .int .i64 ((rd_T34 l1 a3).f0.f1), .string ((rd_T34 l1 a3).f0.f2), .int .i64 0, .int .i64 0]) ?_ 3 _ rfl; (with_reducible repeat (first | refine blk_drewN ?_ _ | refine blk_drew ?_ | refine blk_alloc ?_ _)); refine blk_put (cs := #[.int .i64 ((rd_T34 l1 a3).f0.f0), .int .i64 ((rd_T34 l1 a3).f0.f1), .string (⟨#[]⟩ : ByteArray), .int .i64 0, .int .i64 0]) ?_ 2 _ rfl; (with_reducible repeat (first | refine blk_drewN ?_ _ | refine blk_drew ?_ | refine blk_alloc ?_ _)); refine blk_put (cs := #[.int .i64 ((rd_T34 l1 a3).f0.f0), .int .i64 0, .string (⟨#[]⟩ : ByteArray), .int .i64 0, .int .i64 0]) ?_ 1 _ rfl; (with_reducible repeat (first | refine blk_drewN ?_ _ | refine blk_drew ?_ | refine blk_alloc ?_ _)); refine blk_put (cs := #[.int .i64 0, .int .i64 0, .string (⟨#[]⟩ : ByteArray), .int .i64 0, .int .i64 0]) ?_ 0 _ rfl; (with_reducible repeat (first | refine blk_drewN ?_ _ | refine blk_drew ?_ | refine blk_alloc ?_ _)); exact BK198.out)) : gb200 ≠ gb198)); clear BK198; clear HB; have BK198 := n0_; have HB := n1_; have BK200 := n2_; have GW200 := n3_; have GE200 := n4_; have NB198_200 := n5_; have NB200_198 := n6_; clear n0_ n1_ n2_ n3_ n4_ n5_ n6_; clear hb hbox hg; have hnb15 := NB200_198.out; have hnc15 := NB198_200.out; have hcz16_0 : w14.cell? ⟨gb200, 0, none⟩ = some (.int .i64 0) := (blk_cell BK200.out 0).trans rfl; have hcz16_1 : w14.cell? ⟨gb200, 1, none⟩ = some (.int .i64 0) := (blk_cell BK200.out 1).trans rfl; have hcz16_2 : w14.cell? ⟨gb200, 2, none⟩ = some (.string (⟨#[]⟩ : ByteArray)) := (blk_cell BK200.out 2).trans rfl; have hcz16_3 : w14.cell? ⟨gb200, 3, none⟩ = some (.int .i64 0) := (blk_cell BK200.out 3).trans rfl; have hcz16_4 : w14.cell? ⟨gb200, 4, none⟩ = some (.int .i64 0) := (blk_cell BK200.out 4).trans rfl; have hfz16_0 := blk_frozen BK200.out 0; have hfz16_1 := blk_frozen BK200.out 1; have hfz16_2 := blk_frozen BK200.out 2; have hfz16_3 := blk_frozen BK200.out 3; have hfz16_4 := blk_frozen BK200.out 4; have hcz17_0 : w14.cell? ⟨gb198, 0, none⟩ = some (.int .i64 ((rd_T34 l1 a3).f0.f0)) := (blk_cell BK198.out 0).trans rfl; have hcz17_1 : w14.cell? ⟨gb198, 1, none⟩ = some (.int .i64 ((rd_T34 l1 a3).f0.f1)) := (blk_cell BK198.out 1).trans rfl; have hcz17_2 : w14.cell? ⟨gb198, 2, none⟩ = some (.string ((rd_T34 l1 a3).f0.f2)) := (blk_cell BK198.out 2).trans rfl; have hcz17_3 : w14.cell? ⟨gb198, 3, none⟩ = some (.int .i64 ((rd_T34 l1 a3).f1)) := (blk_cell BK198.out 3).trans rfl; have hcz17_4 : w14.cell? ⟨gb198, 4, none⟩ = some (.int .i64 ((rd_T34 l1 a3).f2)) := (blk_cell BK198.out 4).trans rfl; have hfz17_0 := blk_frozen BK198.out 0; have hfz17_1 := blk_frozen BK198.out 1; have hfz17_2 := blk_frozen BK198.out 2; have hfz17_3 := blk_frozen BK198.out 3; have hfz17_4 := blk_frozen BK198.out 4) | (go_at_call 43; (with_reducible refine (cleanseref02_Compare.calls ((rd_T34 l1 a3).f0.f0) ((rd_T34 l1 a3).f0.f1) ((rd_T34 l1 a3).f0.f2) ((rd_T34 l1 a4).f0.f0) ((rd_T34 l1 a4).f0.f1) ((rd_T34 l1 a4).f0.f2) t201 _ A10.out).mono ?_); rintro e w18 ⟨rfl, hb⟩; have n0_ := Aside0.mk (blk_below (g := gb198) (o := .cells #[.int .i64 ((rd_T34 l1 a3).f0.f0), .int .i64 ((rd_T34 l1 a3).f0.f1), .string ((rd_T34 l1 a3).f0.f2), .int .i64 ((rd_T34 l1 a3).f1), .int .i64 ((rd_T34 l1 a3).f2)] 34 (0, 0)) (by (with_reducible repeat (first | refine blk_drewN ?_ _ | refine blk_drew ?_ | refine blk_alloc ?_ _)); refine blk_far ?_ NB198_200.out _; (with_reducible repeat (first | refine blk_drewN ?_ _ | refine blk_drew ?_ | refine blk_alloc ?_ _)); refine blk_far ?_ NB198_200.out _; (with_reducible repeat (first | refine blk_drewN ?_ _ | refine blk_drew ?_ | refine blk_alloc ?_ _)); refine blk_far ?_ NB198_200.out _; (with_reducible repeat (first | refine blk_drewN ?_ _ | refine blk_drew ?_ | refine blk_alloc ?_ _)); refine blk_far ?_ NB198_200.out _; (with_reducible repeat (first | refine blk_drewN ?_ _ | refine blk_drew ?_ | refine blk_alloc ?_ _)); refine blk_far ?_ NB198_200.out _; (with_reducible repeat (first | refine blk_drewN ?_ _ | refine blk_drew ?_ | refine blk_alloc ?_ _)); exact BK198.out) hb); have n1_ := Aside0.mk (blk_below (g := gb200) (o := .cells #[.int .i64 ((rd_T34 l1 a4).f0.f0), .int .i64 ((rd_T34 l1 a4).f0.f1), .string ((rd_T34 l1 a4).f0.f2), .int .i64 ((rd_T34 l1 a4).f1), .int .i64 ((rd_T34 l1 a4).f2)] 34 (0, 0)) (by (with_reducible repeat (first | refine blk_drewN ?_ _ | refine blk_drew ?_ | refine blk_alloc ?_ _)); refine blk_put (cs := #[.int .i64 ((rd_T34 l1 a4).f0.f0), .int .i64 ((rd_T34 l1 a4).f0.f1), .string ((rd_T34 l1 a4).f0.f2), .int .i64 ((rd_T34 l1 a4).f1), .int .i64 0]) ?_ 4 _ rfl; (with_reducible repeat (first | refine blk_drewN ?_ _ | refine blk_drew ?_ | refine blk_alloc ?_ _)); refine blk_put (cs := #[.int .i64 ((rd_T34 l1 a4).f0.f0), .int .i64 ((rd_T34 l1 a4).f0.f1), .string ((rd_T34 l1 a4).f0.f2), .int .i64 0, .int .i64 0]) ?_ 3 _ rfl; (with_reducible repeat (first | refine blk_drewN ?_ _ | refine blk_drew ?_ | refine blk_alloc ?_ _)); refine blk_put (cs := #[.int .i64 ((rd_T34 l1 a4).f0.f0), .int .i64 ((rd_T34 l1 a4).f0.f1), .string (⟨#[]⟩ : ByteArray), .int .i64 0, .int .i64 0]) ?_ 2 _ rfl; (with_reducible repeat (first | refine blk_drewN ?_ _ | refine blk_drew ?_ | refine blk_alloc ?_ _)); refine blk_put (cs := #[.int .i64 ((rd_T34 l1 a4).f0.f0), .int .i64 0, .string (⟨#[]⟩ : ByteArray), .int .i64 0, .int .i64 0]) ?_ 1 _ rfl; (with_reducible repeat (first | refine blk_drewN ?_ _ | refine blk_drew ?_ | refine blk_alloc ?_ _)); refine blk_put (cs := #[.int .i64 0, .int .i64 0, .string (⟨#[]⟩ : ByteArray), .int .i64 0, .int .i64 0]) ?_ 0 _ rfl; (with_reducible repeat (first | refine blk_drewN ?_ _ | refine blk_drew ?_ | refine blk_alloc ?_ _)); exact BK200.out) hb); have n2_ := Aside0.mk (below_step (by repeat (first | (with_reducible first | exact HB.out | apply below_alloc | apply pw_below_drewN | apply below_drew1 | refine below_set ?_ GE198.out | refine below_set ?_ GE200.out) | exact HB.out)) hb); clear BK198; clear BK200; clear HB; have BK198 := n0_; have BK200 := n1_; have HB := n2_; clear n0_ n1_ n2_; (try clear hb); (try clear hb2); (try clear hk); (try clear hi))); go_upto_block 0 with (first | ((with_reducible refine gate_dst (N := 11) rfl ?_); refine box_event ?hg (N := 11) ?hd (cs := #[.int .i64 0, .int .i64 0, .string (⟨#[]⟩ : ByteArray), .int .i64 0, .int .i64 0]) (t := 34) ?hr ?_; (case hd => rfl); (case hg => rfl); (case hr => first | (go_simp; done) | (go_simp; rfl)); intro gb198 hg w12 hbox hb; have n0_ := Aside0.mk (below_step (by repeat (first | (with_reducible first | exact HB.out | apply below_alloc | apply pw_below_drewN | apply below_drew1) | exact HB.out)) hb); have n1_ := Aside0.mk (hbox); have n2_ := Aside0.mk ((by rw [hg]; exact (below_size (by repeat (first | (with_reducible first | exact HB.out | apply below_alloc | apply pw_below_drewN | apply below_drew1) | exact HB.out))) : w.heap.size ≤ gb198)); have n3_ := Aside0.mk ((by rw [hg]; exact (below_size (by repeat (first | (with_reducible first | exact HB.out | apply below_alloc | apply pw_below_drewN | apply below_drew1) | exact HB.out))) : w.heap.size ≤ gb198)); clear HB; have HB := n0_; have BK198 := n1_; have GW198 := n2_; have GE198 := n3_; clear n0_ n1_ n2_ n3_; clear hb hbox hg; have hcz13_0 : w12.cell? ⟨gb198, 0, none⟩ = some (.int .i64 0) := (blk_cell BK198.out 0).trans rfl; have hcz13_1 : w12.cell? ⟨gb198, 1, none⟩ = some (.int .i64 0) := (blk_cell BK198.out 1).trans rfl; have hcz13_2 : w12.cell? ⟨gb198, 2, none⟩ = some (.string (⟨#[]⟩ : ByteArray)) := (blk_cell BK198.out 2).trans rfl; have hcz13_3 : w12.cell? ⟨gb198, 3, none⟩ = some (.int .i64 0) := (blk_cell BK198.out 3).trans rfl; have hcz13_4 : w12.cell? ⟨gb198, 4, none⟩ = some (.int .i64 0) := (blk_cell BK198.out 4).trans rfl; have hfz13_0 := blk_frozen BK198.out 0; have hfz13_1 := blk_frozen BK198.out 1; have hfz13_2 := blk_frozen BK198.out 2; have hfz13_3 := blk_frozen BK198.out 3; have hfz13_4 := blk_frozen BK198.out 4; have p199 : 0 ≤ (a4 : Int) := of_decide_eq_true (by first | (with_reducible assumption) | assumption); have q199 : a4 < (l1.length : Int) := of_decide_eq_true (by first | (with_reducible assumption) | assumption); obtain ⟨ad199, e199, hx199_0, hx199_1, hx199_2, hx199_3, hx199_4⟩ := at_T34 HR1.out a4 p199 q199; obtain rfl : ad197 = ad199 := (by injection e199); have hn199_0 : ad197.block ≠ gb198 := Nat.ne_of_lt (Nat.lt_of_lt_of_le (by have := World.block_lt_of_cell? _ _ hx199_0; first | rwa [add_block] at this | exact this) GW198.out); have hn199_1 : ad197.block ≠ gb198 := Nat.ne_of_lt (Nat.lt_of_lt_of_le (by have := World.block_lt_of_cell? _ _ hx199_0; first | rwa [add_block] at this | exact this) GW198.out); have hn199_2 : ad197.block ≠ gb198 := Nat.ne_of_lt (Nat.lt_of_lt_of_le (by have := World.block_lt_of_cell? _ _ hx199_0; first | rwa [add_block] at this | exact this) GW198.out); have hn199_3 : ad197.block ≠ gb198 := Nat.ne_of_lt (Nat.lt_of_lt_of_le (by have := World.block_lt_of_cell? _ _ hx199_0; first | rwa [add_block] at this | exact this) GW198.out); have hn199_4 : ad197.block ≠ gb198 := Nat.ne_of_lt (Nat.lt_of_lt_of_le (by have := World.block_lt_of_cell? _ _ hx199_0; first | rwa [add_block] at this | exact this) GW198.out); replace hx199_0 := (HB.out.cell (World.block_lt_of_cell? w _ hx199_0)).trans hx199_0; replace hx199_1 := (HB.out.cell (World.block_lt_of_cell? w _ hx199_1)).trans hx199_1; replace hx199_2 := (HB.out.cell (World.block_lt_of_cell? w _ hx199_2)).trans hx199_2; replace hx199_3 := (HB.out.cell (World.block_lt_of_cell? w _ hx199_3)).trans hx199_3; replace hx199_4 := (HB.out.cell (World.block_lt_of_cell? w _ hx199_4)).trans hx199_4; replace hx199_0 := (cell_far (p := ⟨gb198, 0, none⟩) (by first | (rw [add_block]; exact hn199_0) | (show (Addr.add _ _).block ≠ _; rw [add_block]; exact hn199_0) | exact hn199_0) (.int .i64 ((rd_T34 l1 a3).f0.f0))).trans hx199_0; replace hx199_1 := (cell_far (p := ⟨gb198, 0, none⟩) (by first | (rw [add_block]; exact hn199_0) | (show (Addr.add _ _).block ≠ _; rw [add_block]; exact hn199_0) | exact hn199_0) (.int .i64 ((rd_T34 l1 a3).f0.f0))).trans hx199_1; replace hx199_2 := (cell_far (p := ⟨gb198, 0, none⟩) (by first | (rw [add_block]; exact hn199_0) | (show (Addr.add _ _).block ≠ _; rw [add_block]; exact hn199_0) | exact hn199_0) (.int .i64 ((rd_T34 l1 a3).f0.f0))).trans hx199_2; replace hx199_3 := (cell_far (p := ⟨gb198, 0, none⟩) (by first | (rw [add_block]; exact hn199_0) | (show (Addr.add _ _).block ≠ _; rw [add_block]; exact hn199_0) | exact hn199_0) (.int .i64 ((rd_T34 l1 a3).f0.f0))).trans hx199_3; replace hx199_4 := (cell_far (p := ⟨gb198, 0, none⟩) (by first | (rw [add_block]; exact hn199_0) | (show (Addr.add _ _).block ≠ _; rw [add_block]; exact hn199_0) | exact hn199_0) (.int .i64 ((rd_T34 l1 a3).f0.f0))).trans hx199_4; replace hx199_0 := (cell_far (p := ⟨gb198, 1, none⟩) (by first | (rw [add_block]; exact hn199_1) | (show (Addr.add _ _).block ≠ _; rw [add_block]; exact hn199_1) | exact hn199_1) (.int .i64 ((rd_T34 l1 a3).f0.f1))).trans hx199_0; replace hx199_1 := (cell_far (p := ⟨gb198, 1, none⟩) (by first | (rw [add_block]; exact hn199_1) | (show (Addr.add _ _).block ≠ _; rw [add_block]; exact hn199_1) | exact hn199_1) (.int .i64 ((rd_T34 l1 a3).f0.f1))).trans hx199_1; replace hx199_2 := (cell_far (p := ⟨gb198, 1, none⟩) (by first | (rw [add_block]; exact hn199_1) | (show (Addr.add _ _).block ≠ _; rw [add_block]; exact hn199_1) | exact hn199_1) (.int .i64 ((rd_T34 l1 a3).f0.f1))).trans hx199_2; replace hx199_3 := (cell_far (p := ⟨gb198, 1, none⟩) (by first | (rw [add_block]; exact hn199_1) | (show (Addr.add _ _).block ≠ _; rw [add_block]; exact hn199_1) | exact hn199_1) (.int .i64 ((rd_T34 l1 a3).f0.f1))).trans hx199_3; replace hx199_4 := (cell_far (p := ⟨gb198, 1, none⟩) (by first | (rw [add_block]; exact hn199_1) | (show (Addr.add _ _).block ≠ _; rw [add_block]; exact hn199_1) | exact hn199_1) (.int .i64 ((rd_T34 l1 a3).f0.f1))).trans hx199_4; replace hx199_0 := (cell_far (p := ⟨gb198, 2, none⟩) (by first | (rw [add_block]; exact hn199_2) | (show (Addr.add _ _).block ≠ _; rw [add_block]; exact hn199_2) | exact hn199_2) (.string ((rd_T34 l1 a3).f0.f2))).trans hx199_0; replace hx199_1 := (cell_far (p := ⟨gb198, 2, none⟩) (by first | (rw [add_block]; exact hn199_2) | (show (Addr.add _ _).block ≠ _; rw [add_block]; exact hn199_2) | exact hn199_2) (.string ((rd_T34 l1 a3).f0.f2))).trans hx199_1; replace hx199_2 := (cell_far (p := ⟨gb198, 2, none⟩) (by first | (rw [add_block]; exact hn199_2) | (show (Addr.add _ _).block ≠ _; rw [add_block]; exact hn199_2) | exact hn199_2) (.string ((rd_T34 l1 a3).f0.f2))).trans hx199_2; replace hx199_3 := (cell_far (p := ⟨gb198, 2, none⟩) (by first | (rw [add_block]; exact hn199_2) | (show (Addr.add _ _).block ≠ _; rw [add_block]; exact hn199_2) | exact hn199_2) (.string ((rd_T34 l1 a3).f0.f2))).trans hx199_3; replace hx199_4 := (cell_far (p := ⟨gb198, 2, none⟩) (by first | (rw [add_block]; exact hn199_2) | (show (Addr.add _ _).block ≠ _; rw [add_block]; exact hn199_2) | exact hn199_2) (.string ((rd_T34 l1 a3).f0.f2))).trans hx199_4; replace hx199_0 := (cell_far (p := ⟨gb198, 3, none⟩) (by first | (rw [add_block]; exact hn199_3) | (show (Addr.add _ _).block ≠ _; rw [add_block]; exact hn199_3) | exact hn199_3) (.int .i64 ((rd_T34 l1 a3).f1))).trans hx199_0; replace hx199_1 := (cell_far (p := ⟨gb198, 3, none⟩) (by first | (rw [add_block]; exact hn199_3) | (show (Addr.add _ _).block ≠ _; rw [add_block]; exact hn199_3) | exact hn199_3) (.int .i64 ((rd_T34 l1 a3).f1))).trans hx199_1; replace hx199_2 := (cell_far (p := ⟨gb198, 3, none⟩) (by first | (rw [add_block]; exact hn199_3) | (show (Addr.add _ _).block ≠ _; rw [add_block]; exact hn199_3) | exact hn199_3) (.int .i64 ((rd_T34 l1 a3).f1))).trans hx199_2; replace hx199_3 := (cell_far (p := ⟨gb198, 3, none⟩) (by first | (rw [add_block]; exact hn199_3) | (show (Addr.add _ _).block ≠ _; rw [add_block]; exact hn199_3) | exact hn199_3) (.int .i64 ((rd_T34 l1 a3).f1))).trans hx199_3; replace hx199_4 := (cell_far (p := ⟨gb198, 3, none⟩) (by first | (rw [add_block]; exact hn199_3) | (show (Addr.add _ _).block ≠ _; rw [add_block]; exact hn199_3) | exact hn199_3) (.int .i64 ((rd_T34 l1 a3).f1))).trans hx199_4; replace hx199_0 := (cell_far (p := ⟨gb198, 4, none⟩) (by first | (rw [add_block]; exact hn199_4) | (show (Addr.add _ _).block ≠ _; rw [add_block]; exact hn199_4) | exact hn199_4) (.int .i64 ((rd_T34 l1 a3).f2))).trans hx199_0; replace hx199_1 := (cell_far (p := ⟨gb198, 4, none⟩) (by first | (rw [add_block]; exact hn199_4) | (show (Addr.add _ _).block ≠ _; rw [add_block]; exact hn199_4) | exact hn199_4) (.int .i64 ((rd_T34 l1 a3).f2))).trans hx199_1; replace hx199_2 := (cell_far (p := ⟨gb198, 4, none⟩) (by first | (rw [add_block]; exact hn199_4) | (show (Addr.add _ _).block ≠ _; rw [add_block]; exact hn199_4) | exact hn199_4) (.int .i64 ((rd_T34 l1 a3).f2))).trans hx199_2; replace hx199_3 := (cell_far (p := ⟨gb198, 4, none⟩) (by first | (rw [add_block]; exact hn199_4) | (show (Addr.add _ _).block ≠ _; rw [add_block]; exact hn199_4) | exact hn199_4) (.int .i64 ((rd_T34 l1 a3).f2))).trans hx199_3; replace hx199_4 := (cell_far (p := ⟨gb198, 4, none⟩) (by first | (rw [add_block]; exact hn199_4) | (show (Addr.add _ _).block ≠ _; rw [add_block]; exact hn199_4) | exact hn199_4) (.int .i64 ((rd_T34 l1 a3).f2))).trans hx199_4; (try have hy199_0 := fun (n_ : Nat) => (show (((((((w12.drewN n_).setCell ⟨gb198, 0, none⟩ (.int .i64 ((rd_T34 l1 a3).f0.f0))).setCell ⟨gb198, 1, none⟩ (.int .i64 ((rd_T34 l1 a3).f0.f1))).setCell ⟨gb198, 2, none⟩ (.string ((rd_T34 l1 a3).f0.f2))).setCell ⟨gb198, 3, none⟩ (.int .i64 ((rd_T34 l1 a3).f1))).setCell ⟨gb198, 4, none⟩ (.int .i64 ((rd_T34 l1 a3).f2)))).cell? _ = some _ from hx199_0)); (try have hy199_1 := fun (n_ : Nat) => (show (((((((w12.drewN n_).setCell ⟨gb198, 0, none⟩ (.int .i64 ((rd_T34 l1 a3).f0.f0))).setCell ⟨gb198, 1, none⟩ (.int .i64 ((rd_T34 l1 a3).f0.f1))).setCell ⟨gb198, 2, none⟩ (.string ((rd_T34 l1 a3).f0.f2))).setCell ⟨gb198, 3, none⟩ (.int .i64 ((rd_T34 l1 a3).f1))).setCell ⟨gb198, 4, none⟩ (.int .i64 ((rd_T34 l1 a3).f2)))).cell? _ = some _ from hx199_1)); (try have hy199_2 := fun (n_ : Nat) => (show (((((((w12.drewN n_).setCell ⟨gb198, 0, none⟩ (.int .i64 ((rd_T34 l1 a3).f0.f0))).setCell ⟨gb198, 1, none⟩ (.int .i64 ((rd_T34 l1 a3).f0.f1))).setCell ⟨gb198, 2, none⟩ (.string ((rd_T34 l1 a3).f0.f2))).setCell ⟨gb198, 3, none⟩ (.int .i64 ((rd_T34 l1 a3).f1))).setCell ⟨gb198, 4, none⟩ (.int .i64 ((rd_T34 l1 a3).f2)))).cell? _ = some _ from hx199_2)); (try have hy199_3 := fun (n_ : Nat) => (show (((((((w12.drewN n_).setCell ⟨gb198, 0, none⟩ (.int .i64 ((rd_T34 l1 a3).f0.f0))).setCell ⟨gb198, 1, none⟩ (.int .i64 ((rd_T34 l1 a3).f0.f1))).setCell ⟨gb198, 2, none⟩ (.string ((rd_T34 l1 a3).f0.f2))).setCell ⟨gb198, 3, none⟩ (.int .i64 ((rd_T34 l1 a3).f1))).setCell ⟨gb198, 4, none⟩ (.int .i64 ((rd_T34 l1 a3).f2)))).cell? _ = some _ from hx199_3)); (try have hy199_4 := fun (n_ : Nat) => (show (((((((w12.drewN n_).setCell ⟨gb198, 0, none⟩ (.int .i64 ((rd_T34 l1 a3).f0.f0))).setCell ⟨gb198, 1, none⟩ (.int .i64 ((rd_T34 l1 a3).f0.f1))).setCell ⟨gb198, 2, none⟩ (.string ((rd_T34 l1 a3).f0.f2))).setCell ⟨gb198, 3, none⟩ (.int .i64 ((rd_T34 l1 a3).f1))).setCell ⟨gb198, 4, none⟩ (.int .i64 ((rd_T34 l1 a3).f2)))).cell? _ = some _ from hx199_4)); clear hn199_0; clear hn199_1; clear hn199_2; clear hn199_3; clear hn199_4; replace p199 := eq_true p199; replace q199 := eq_true q199) | ((with_reducible refine gate_dst (N := 12) rfl ?_); refine box_event ?hg (N := 12) ?hd (cs := #[.int .i64 0, .int .i64 0, .string (⟨#[]⟩ : ByteArray), .int .i64 0, .int .i64 0]) (t := 34) ?hr ?_; (case hd => rfl); (case hg => rfl); (case hr => first | (go_simp; done) | (go_simp; rfl)); intro gb200 hg w14 hbox hb; have n0_ := Aside0.mk (blk_below (g := gb198) (o := .cells #[.int .i64 ((rd_T34 l1 a3).f0.f0), .int .i64 ((rd_T34 l1 a3).f0.f1), .string ((rd_T34 l1 a3).f0.f2), .int .i64 ((rd_T34 l1 a3).f1), .int .i64 ((rd_T34 l1 a3).f2)] 34 (0, 0)) (by (with_reducible repeat (first | refine blk_drewN ?_ _ | refine blk_drew ?_ | refine blk_alloc ?_ _)); refine blk_put (cs := #[.int .i64 ((rd_T34 l1 a3).f0.f0), .int .i64 ((rd_T34 l1 a3).f0.f1), .string ((rd_T34 l1 a3).f0.f2), .int .i64 ((rd_T34 l1 a3).f1), .int .i64 0]) ?_ 4 _ rfl; (with_reducible repeat (first | refine blk_drewN ?_ _ | refine blk_drew ?_ | refine blk_alloc ?_ _)); refine blk_put (cs := #[.int .i64 ((rd_T34 l1 a3).f0.f0), .int .i64 ((rd_T34 l1 a3).f0.f1), .string ((rd_T34 l1 a3).f0.f2), .int .i64 0, .int .i64 0]) ?_ 3 _ rfl; (with_reducible repeat (first | refine blk_drewN ?_ _ | refine blk_drew ?_ | refine blk_alloc ?_ _)); refine blk_put (cs := #[.int .i64 ((rd_T34 l1 a3).f0.f0), .int .i64 ((rd_T34 l1 a3).f0.f1), .string (⟨#[]⟩ : ByteArray), .int .i64 0, .int .i64 0]) ?_ 2 _ rfl; (with_reducible repeat (first | refine blk_drewN ?_ _ | refine blk_drew ?_ | refine blk_alloc ?_ _)); refine blk_put (cs := #[.int .i64 ((rd_T34 l1 a3).f0.f0), .int .i64 0, .string (⟨#[]⟩ : ByteArray), .int .i64 0, .int .i64 0]) ?_ 1 _ rfl; (with_reducible repeat (first | refine blk_drewN ?_ _ | refine blk_drew ?_ | refine blk_alloc ?_ _)); refine blk_put (cs := #[.int .i64 0, .int .i64 0, .string (⟨#[]⟩ : ByteArray), .int .i64 0, .int .i64 0]) ?_ 0 _ rfl; (with_reducible repeat (first | refine blk_drewN ?_ _ | refine blk_drew ?_ | refine blk_alloc ?_ _)); exact BK198.out) hb); have n1_ := Aside0.mk (below_step (by repeat (first | (with_reducible first | exact HB.out | apply below_alloc | apply pw_below_drewN | apply below_drew1 | refine below_set ?_ GE198.out) | exact HB.out)) hb); have n2_ := Aside0.mk (hbox); have n3_ := Aside0.mk ((by rw [hg]; exact (below_size (by repeat (first | (with_reducible first | exact HB.out | apply below_alloc | apply pw_below_drewN | apply below_drew1 | refine below_set ?_ GE198.out) | exact HB.out))) : w.heap.size ≤ gb200)); have n4_ := Aside0.mk ((by rw [hg]; exact (below_size (by repeat (first | (with_reducible first | exact HB.out | apply below_alloc | apply pw_below_drewN | apply below_drew1 | refine below_set ?_ GE198.out) | exact HB.out))) : w.heap.size ≤ gb200)); have n5_ := Aside0.mk ((by rw [hg]; exact Nat.ne_of_lt (blk_lt (g := gb198) (o := .cells #[.int .i64 ((rd_T34 l1 a3).f0.f0), .int .i64 ((rd_T34 l1 a3).f0.f1), .string ((rd_T34 l1 a3).f0.f2), .int .i64 ((rd_T34 l1 a3).f1), .int .i64 ((rd_T34 l1 a3).f2)] 34 (0, 0)) (by (with_reducible repeat (first | refine blk_drewN ?_ _ | refine blk_drew ?_ | refine blk_alloc ?_ _)); refine blk_put (cs := #[.int .i64 ((rd_T34 l1 a3).f0.f0), .int .i64 ((rd_T34 l1 a3).f0.f1), .string ((rd_T34 l1 a3).f0.f2), .int .i64 ((rd_T34 l1 a3).f1), .int .i64 0]) ?_ 4 _ rfl; (with_reducible repeat (first | refine blk_drewN ?_ _ | refine blk_drew ?_ | refine blk_alloc ?_ _)); refine blk_put (cs := #[.int .i64 ((rd_T34 l1 a3).f0.f0), .int .i64 ((rd_T34 l1 a3).f0.f1), .string ((rd_T34 l1 a3).f0.f2), .int .i64 0, .int .i64 0]) ?_ 3 _ rfl; (with_reducible repeat (first | refine blk_drewN ?_ _ | refine blk_drew ?_ | refine blk_alloc ?_ _)); refine blk_put (cs := #[.int .i64 ((rd_T34 l1 a3).f0.f0), .int .i64 ((rd_T34 l1 a3).f0.f1), .string (⟨#[]⟩ : ByteArray), .int .i64 0, .int .i64 0]) ?_ 2 _ rfl; (with_reducible repeat (first | refine blk_drewN ?_ _ | refine blk_drew ?_ | refine blk_alloc ?_ _)); refine blk_put (cs := #[.int .i64 ((rd_T34 l1 a3).f0.f0), .int .i64 0, .string (⟨#[]⟩ : ByteArray), .int .i64 0, .int .i64 0]) ?_ 1 _ rfl; (with_reducible repeat (first | refine blk_drewN ?_ _ | refine blk_drew ?_ | refine blk_alloc ?_ _)); refine blk_put (cs := #[.int .i64 0, .int .i64 0, .string (⟨#[]⟩ : ByteArray), .int .i64 0, .int .i64 0]) ?_ 0 _ rfl; (with_reducible repeat (first | refine blk_drewN ?_ _ | refine blk_drew ?_ | refine blk_alloc ?_ _)); exact BK198.out)) : gb198 ≠ gb200)); have n6_ := Aside0.mk ((by rw [hg]; exact Nat.ne_of_gt (blk_lt (g := gb198) (o := .cells #[.int .i64 ((rd_T34 l1 a3).f0.f0), .int .i64 ((rd_T34 l1 a3).f0.f1), .string ((rd_T34 l1 a3).f0.f2), .int .i64 ((rd_T34 l1 a3).f1), .int .i64 ((rd_T34 l1 a3).f2)] 34 (0, 0)) (by (with_reducible repeat (first | refine blk_drewN ?_ _ | refine blk_drew ?_ | refine blk_alloc ?_ _)); refine blk_put (cs := #[.int .i64 ((rd_T34 l1 a3).f0.f0), .int .i64 ((rd_T34 l1 a3).f0.f1), .string ((rd_T34 l1 a3).f0.f2), .int .i64 ((rd_T34 l1 a3).f1), .int .i64 0]) ?_ 4 _ rfl; (with_reducible repeat (first | refine blk_drewN ?_ _ | refine blk_drew ?_ | refine blk_alloc ?_ _)); refine blk_put (cs := #[.int .i64 ((rd_T34 l1 a3).f0.f0), .int .i64 ((rd_T34 l1 a3).f0.f1), .string ((rd_T34 l1 a3).f0.f2), .int .i64 0, .int .i64 0]) ?_ 3 _ rfl; (with_reducible repeat (first | refine blk_drewN ?_ _ | refine blk_drew ?_ | refine blk_alloc ?_ _)); refine blk_put (cs := #[.int .i64 ((rd_T34 l1 a3).f0.f0), .int .i64 ((rd_T34 l1 a3).f0.f1), .string (⟨#[]⟩ : ByteArray), .int .i64 0, .int .i64 0]) ?_ 2 _ rfl; (with_reducible repeat (first | refine blk_drewN ?_ _ | refine blk_drew ?_ | refine blk_alloc ?_ _)); refine blk_put (cs := #[.int .i64 ((rd_T34 l1 a3).f0.f0), .int .i64 0, .string (⟨#[]⟩ : ByteArray), .int .i64 0, .int .i64 0]) ?_ 1 _ rfl; (with_reducible repeat (first | refine blk_drewN ?_ _ | refine blk_drew ?_ | refine blk_alloc ?_ _)); refine blk_put (cs := #[.int .i64 0, .int .i64 0, .string (⟨#[]⟩ : ByteArray), .int .i64 0, .int .i64 0]) ?_ 0 _ rfl; (with_reducible repeat (first | refine blk_drewN ?_ _ | refine blk_drew ?_ | refine blk_alloc ?_ _)); exact BK198.out)) : gb200 ≠ gb198)); clear BK198; clear HB; have BK198 := n0_; have HB := n1_; have BK200 := n2_; have GW200 := n3_; have GE200 := n4_; have NB198_200 := n5_; have NB200_198 := n6_; clear n0_ n1_ n2_ n3_ n4_ n5_ n6_; clear hb hbox hg; have hnb15 := NB200_198.out; have hnc15 := NB198_200.out; have hcz16_0 : w14.cell? ⟨gb200, 0, none⟩ = some (.int .i64 0) := (blk_cell BK200.out 0).trans rfl; have hcz16_1 : w14.cell? ⟨gb200, 1, none⟩ = some (.int .i64 0) := (blk_cell BK200.out 1).trans rfl; have hcz16_2 : w14.cell? ⟨gb200, 2, none⟩ = some (.string (⟨#[]⟩ : ByteArray)) := (blk_cell BK200.out 2).trans rfl; have hcz16_3 : w14.cell? ⟨gb200, 3, none⟩ = some (.int .i64 0) := (blk_cell BK200.out 3).trans rfl; have hcz16_4 : w14.cell? ⟨gb200, 4, none⟩ = some (.int .i64 0) := (blk_cell BK200.out 4).trans rfl; have hfz16_0 := blk_frozen BK200.out 0; have hfz16_1 := blk_frozen BK200.out 1; have hfz16_2 := blk_frozen BK200.out 2; have hfz16_3 := blk_frozen BK200.out 3; have hfz16_4 := blk_frozen BK200.out 4; have hcz17_0 : w14.cell? ⟨gb198, 0, none⟩ = some (.int .i64 ((rd_T34 l1 a3).f0.f0)) := (blk_cell BK198.out 0).trans rfl; have hcz17_1 : w14.cell? ⟨gb198, 1, none⟩ = some (.int .i64 ((rd_T34 l1 a3).f0.f1)) := (blk_cell BK198.out 1).trans rfl; have hcz17_2 : w14.cell? ⟨gb198, 2, none⟩ = some (.string ((rd_T34 l1 a3).f0.f2)) := (blk_cell BK198.out 2).trans rfl; have hcz17_3 : w14.cell? ⟨gb198, 3, none⟩ = some (.int .i64 ((rd_T34 l1 a3).f1)) := (blk_cell BK198.out 3).trans rfl; have hcz17_4 : w14.cell? ⟨gb198, 4, none⟩ = some (.int .i64 ((rd_T34 l1 a3).f2)) := (blk_cell BK198.out 4).trans rfl; have hfz17_0 := blk_frozen BK198.out 0; have hfz17_1 := blk_frozen BK198.out 1; have hfz17_2 := blk_frozen BK198.out 2; have hfz17_3 := blk_frozen BK198.out 3; have hfz17_4 := blk_frozen BK198.out 4) | (go_at_call 43; (with_reducible refine (cleanseref02_Compare.calls ((rd_T34 l1 a3).f0.f0) ((rd_T34 l1 a3).f0.f1) ((rd_T34 l1 a3).f0.f2) ((rd_T34 l1 a4).f0.f0) ((rd_T34 l1 a4).f0.f1) ((rd_T34 l1 a4).f0.f2) t201 _ A10.out).mono ?_); rintro e w18 ⟨rfl, hb⟩; have n0_ := Aside0.mk (blk_below (g := gb198) (o := .cells #[.int .i64 ((rd_T34 l1 a3).f0.f0), .int .i64 ((rd_T34 l1 a3).f0.f1), .string ((rd_T34 l1 a3).f0.f2), .int .i64 ((rd_T34 l1 a3).f1), .int .i64 ((rd_T34 l1 a3).f2)] 34 (0, 0)) (by (with_reducible repeat (first | refine blk_drewN ?_ _ | refine blk_drew ?_ | refine blk_alloc ?_ _)); refine blk_far ?_ NB198_200.out _; (with_reducible repeat (first | refine blk_drewN ?_ _ | refine blk_drew ?_ | refine blk_alloc ?_ _)); refine blk_far ?_ NB198_200.out _; (with_reducible repeat (first | refine blk_drewN ?_ _ | refine blk_drew ?_ | refine blk_alloc ?_ _)); refine blk_far ?_ NB198_200.out _; (with_reducible repeat (first | refine blk_drewN ?_ _ | refine blk_drew ?_ | refine blk_alloc ?_ _)); refine blk_far ?_ NB198_200.out _; (with_reducible repeat (first | refine blk_drewN ?_ _ | refine blk_drew ?_ | refine blk_alloc ?_ _)); refine blk_far ?_ NB198_200.out _; (with_reducible repeat (first | refine blk_drewN ?_ _ | refine blk_drew ?_ | refine blk_alloc ?_ _)); exact BK198.out) hb); have n1_ := Aside0.mk (blk_below (g := gb200) (o := .cells #[.int .i64 ((rd_T34 l1 a4).f0.f0), .int .i64 ((rd_T34 l1 a4).f0.f1), .string ((rd_T34 l1 a4).f0.f2), .int .i64 ((rd_T34 l1 a4).f1), .int .i64 ((rd_T34 l1 a4).f2)] 34 (0, 0)) (by (with_reducible repeat (first | refine blk_drewN ?_ _ | refine blk_drew ?_ | refine blk_alloc ?_ _)); refine blk_put (cs := #[.int .i64 ((rd_T34 l1 a4).f0.f0), .int .i64 ((rd_T34 l1 a4).f0.f1), .string ((rd_T34 l1 a4).f0.f2), .int .i64 ((rd_T34 l1 a4).f1), .int .i64 0]) ?_ 4 _ rfl; (with_reducible repeat (first | refine blk_drewN ?_ _ | refine blk_drew ?_ | refine blk_alloc ?_ _)); refine blk_put (cs := #[.int .i64 ((rd_T34 l1 a4).f0.f0), .int .i64 ((rd_T34 l1 a4).f0.f1), .string ((rd_T34 l1 a4).f0.f2), .int .i64 0, .int .i64 0]) ?_ 3 _ rfl; (with_reducible repeat (first | refine blk_drewN ?_ _ | refine blk_drew ?_ | refine blk_alloc ?_ _)); refine blk_put (cs := #[.int .i64 ((rd_T34 l1 a4).f0.f0), .int .i64 ((rd_T34 l1 a4).f0.f1), .string (⟨#[]⟩ : ByteArray), .int .i64 0, .int .i64 0]) ?_ 2 _ rfl; (with_reducible repeat (first | refine blk_drewN ?_ _ | refine blk_drew ?_ | refine blk_alloc ?_ _)); refine blk_put (cs := #[.int .i64 ((rd_T34 l1 a4).f0.f0), .int .i64 0, .string (⟨#[]⟩ : ByteArray), .int .i64 0, .int .i64 0]) ?_ 1 _ rfl; (with_reducible repeat (first | refine blk_drewN ?_ _ | refine blk_drew ?_ | refine blk_alloc ?_ _)); refine blk_put (cs := #[.int .i64 0, .int .i64 0, .string (⟨#[]⟩ : ByteArray), .int .i64 0, .int .i64 0]) ?_ 0 _ rfl; (with_reducible repeat (first | refine blk_drewN ?_ _ | refine blk_drew ?_ | refine blk_alloc ?_ _)); exact BK200.out) hb); have n2_ := Aside0.mk (below_step (by repeat (first | (with_reducible first | exact HB.out | apply below_alloc | apply pw_below_drewN | apply below_drew1 | refine below_set ?_ GE198.out | refine below_set ?_ GE200.out) | exact HB.out)) hb); clear BK198; clear BK200; clear HB; have BK198 := n0_; have BK200 := n1_; have HB := n2_; clear n0_ n1_ n2_; (try clear hb); (try clear hb2); (try clear hk); (try clear hi))))
          (try simp only [Act.put, List.setIfInBounds_toArray, List.set_cons_zero, List.set_cons_succ])
          go_cut [] (fun wc => ∃ (kq : Nat), Aside0 (cleanseref23_before.j0 kq l2 a3 a4 t201 ((rd_T34 l1 a3).f0.f0) ((rd_T34 l1 a3).f0.f1) ((rd_T34 l1 a3).f0.f2) ((rd_T34 l1 a3).f1) ((rd_T34 l1 a3).f2) ((rd_T34 l1 a4).f0.f0) ((rd_T34 l1 a4).f0.f1) ((rd_T34 l1 a4).f0.f2) ((rd_T34 l1 a4).f1) ((rd_T34 l1 a4).f2) = some r) ∧ Aside0 (kq ≤ k) ∧ Aside0 (wc.heap[gb198]? = some (.cells #[.int .i64 ((rd_T34 l1 a3).f0.f0), .int .i64 ((rd_T34 l1 a3).f0.f1), .string ((rd_T34 l1 a3).f0.f2), .int .i64 ((rd_T34 l1 a3).f1), .int .i64 ((rd_T34 l1 a3).f2)] 34 (0, 0))) ∧ Aside0 (wc.heap[gb200]? = some (.cells #[.int .i64 ((rd_T34 l1 a4).f0.f0), .int .i64 ((rd_T34 l1 a4).f0.f1), .string ((rd_T34 l1 a4).f0.f2), .int .i64 ((rd_T34 l1 a4).f1), .int .i64 ((rd_T34 l1 a4).f2)] 34 (0, 0))) ∧ Aside0 (Below w.heap.size w wc))
          case first =>
            have H := HC11.out
            clear HC11
            by_cases c19 : a0 = 1
            · rw [if_pos c19] at H
              have c19b0 : (a0 == 1) = true := beq_iff_eq.mpr c19
              have c19b1 : (a0 != 1) = false := bne_eq_false_iff_eq.mpr c19
              clear c19
              (first | rw [c19b0] | (simp only [i64_w, i32_w]; rw [c19b0]) | skip)
              by_cases c20 : ((rd_T34 l1 a3).f2) = ((rd_T34 l1 a4).f2)
              · rw [if_pos c20] at H
                have c20b0 : (((rd_T34 l1 a3).f2) == ((rd_T34 l1 a4).f2)) = true := beq_iff_eq.mpr c20
                have c20b1 : (((rd_T34 l1 a3).f2) != ((rd_T34 l1 a4).f2)) = false := bne_eq_false_iff_eq.mpr c20
                clear c20
                have H' := Aside0.mk H
                clear H
                have hnb21 := NB198_200.out
                have hnc21 := NB200_198.out
                have hcz22_0 : w18.cell? ⟨gb198, 0, none⟩ = some (.int .i64 ((rd_T34 l1 a3).f0.f0)) := (blk_cell BK198.out 0).trans rfl
                have hcz22_1 : w18.cell? ⟨gb198, 1, none⟩ = some (.int .i64 ((rd_T34 l1 a3).f0.f1)) := (blk_cell BK198.out 1).trans rfl
                have hcz22_2 : w18.cell? ⟨gb198, 2, none⟩ = some (.string ((rd_T34 l1 a3).f0.f2)) := (blk_cell BK198.out 2).trans rfl
                have hcz22_3 : w18.cell? ⟨gb198, 3, none⟩ = some (.int .i64 ((rd_T34 l1 a3).f1)) := (blk_cell BK198.out 3).trans rfl
                have hcz22_4 : w18.cell? ⟨gb198, 4, none⟩ = some (.int .i64 ((rd_T34 l1 a3).f2)) := (blk_cell BK198.out 4).trans rfl
                have hfz22_0 := blk_frozen BK198.out 0
                have hfz22_1 := blk_frozen BK198.out 1
                have hfz22_2 := blk_frozen BK198.out 2
                have hfz22_3 := blk_frozen BK198.out 3
                have hfz22_4 := blk_frozen BK198.out 4
                have hcz23_0 : w18.cell? ⟨gb200, 0, none⟩ = some (.int .i64 ((rd_T34 l1 a4).f0.f0)) := (blk_cell BK200.out 0).trans rfl
                have hcz23_1 : w18.cell? ⟨gb200, 1, none⟩ = some (.int .i64 ((rd_T34 l1 a4).f0.f1)) := (blk_cell BK200.out 1).trans rfl
                have hcz23_2 : w18.cell? ⟨gb200, 2, none⟩ = some (.string ((rd_T34 l1 a4).f0.f2)) := (blk_cell BK200.out 2).trans rfl
                have hcz23_3 : w18.cell? ⟨gb200, 3, none⟩ = some (.int .i64 ((rd_T34 l1 a4).f1)) := (blk_cell BK200.out 3).trans rfl
                have hcz23_4 : w18.cell? ⟨gb200, 4, none⟩ = some (.int .i64 ((rd_T34 l1 a4).f2)) := (blk_cell BK200.out 4).trans rfl
                have hfz23_0 := blk_frozen BK200.out 0
                have hfz23_1 := blk_frozen BK200.out 1
                have hfz23_2 := blk_frozen BK200.out 2
                have hfz23_3 := blk_frozen BK200.out 3
                have hfz23_4 := blk_frozen BK200.out 4
                go_wp2
                repeat (go_quiet (fail); try go_wp2)
                go_meet
                case rel => exact ⟨_, H', ⟨by first | omega | exact Nat.le_refl _⟩, ⟨by (with_reducible repeat (first | refine blk_drewN ?_ _ | refine blk_drew ?_ | refine blk_alloc ?_ _)); exact BK198.out⟩, ⟨by (with_reducible repeat (first | refine blk_drewN ?_ _ | refine blk_drew ?_ | refine blk_alloc ?_ _)); exact BK200.out⟩, ⟨by repeat (first | (with_reducible first | exact HB.out | apply below_alloc | apply pw_below_drewN | apply below_drew1 | refine below_set ?_ GE198.out | refine below_set ?_ GE200.out) | exact HB.out)⟩⟩
              · rw [if_neg c20] at H
                have c20b0 : (((rd_T34 l1 a3).f2) == ((rd_T34 l1 a4).f2)) = false := beq_eq_false_iff_ne.mpr c20
                have c20b1 : (((rd_T34 l1 a3).f2) != ((rd_T34 l1 a4).f2)) = true := bne_iff_ne.mpr c20
                obtain rfl := Option.some.inj H
                have hnb24 := NB198_200.out
                have hnc24 := NB200_198.out
                have hcz25_0 : w18.cell? ⟨gb198, 0, none⟩ = some (.int .i64 ((rd_T34 l1 a3).f0.f0)) := (blk_cell BK198.out 0).trans rfl
                have hcz25_1 : w18.cell? ⟨gb198, 1, none⟩ = some (.int .i64 ((rd_T34 l1 a3).f0.f1)) := (blk_cell BK198.out 1).trans rfl
                have hcz25_2 : w18.cell? ⟨gb198, 2, none⟩ = some (.string ((rd_T34 l1 a3).f0.f2)) := (blk_cell BK198.out 2).trans rfl
                have hcz25_3 : w18.cell? ⟨gb198, 3, none⟩ = some (.int .i64 ((rd_T34 l1 a3).f1)) := (blk_cell BK198.out 3).trans rfl
                have hcz25_4 : w18.cell? ⟨gb198, 4, none⟩ = some (.int .i64 ((rd_T34 l1 a3).f2)) := (blk_cell BK198.out 4).trans rfl
                have hfz25_0 := blk_frozen BK198.out 0
                have hfz25_1 := blk_frozen BK198.out 1
                have hfz25_2 := blk_frozen BK198.out 2
                have hfz25_3 := blk_frozen BK198.out 3
                have hfz25_4 := blk_frozen BK198.out 4
                have hcz26_0 : w18.cell? ⟨gb200, 0, none⟩ = some (.int .i64 ((rd_T34 l1 a4).f0.f0)) := (blk_cell BK200.out 0).trans rfl
                have hcz26_1 : w18.cell? ⟨gb200, 1, none⟩ = some (.int .i64 ((rd_T34 l1 a4).f0.f1)) := (blk_cell BK200.out 1).trans rfl
                have hcz26_2 : w18.cell? ⟨gb200, 2, none⟩ = some (.string ((rd_T34 l1 a4).f0.f2)) := (blk_cell BK200.out 2).trans rfl
                have hcz26_3 : w18.cell? ⟨gb200, 3, none⟩ = some (.int .i64 ((rd_T34 l1 a4).f1)) := (blk_cell BK200.out 3).trans rfl
                have hcz26_4 : w18.cell? ⟨gb200, 4, none⟩ = some (.int .i64 ((rd_T34 l1 a4).f2)) := (blk_cell BK200.out 4).trans rfl
                have hfz26_0 := blk_frozen BK200.out 0
                have hfz26_1 := blk_frozen BK200.out 1
                have hfz26_2 := blk_frozen BK200.out 2
                have hfz26_3 := blk_frozen BK200.out 3
                have hfz26_4 := blk_frozen BK200.out 4
                go_wp2
                repeat (go_quiet (fail); try go_wp2)
                go_ret
                exact ⟨by first | rfl | (simp [errW_none, errW_some] <;> rfl) | (simp [*, errW_none, errW_some] <;> rfl), by repeat (first | (with_reducible first | exact HB.out | apply below_alloc | apply pw_below_drewN | apply below_drew1 | refine below_set ?_ GE198.out | refine below_set ?_ GE200.out) | exact HB.out)⟩
            · rw [if_neg c19] at H
              have c19b0 : (a0 == 1) = false := beq_eq_false_iff_ne.mpr c19
              have c19b1 : (a0 != 1) = true := bne_iff_ne.mpr c19
              (first | rw [c19b0] | (simp only [i64_w, i32_w]; rw [c19b0]) | skip)
              by_cases c27 : a0 = 2
              · rw [if_pos c27] at H
                have c27b0 : (a0 == 2) = true := beq_iff_eq.mpr c27
                have c27b1 : (a0 != 2) = false := bne_eq_false_iff_eq.mpr c27
                clear c27
                replace H := Option.bind_eq_some_iff.mp H
                obtain ⟨t202, A280, H⟩ := H
                replace H : ((cleanseref23_frequent.f k l1 a4).bind fun t203 => (if t202 = t203 then (cleanseref23_before.j0 k l2 a3 a4 t201 ((rd_T34 l1 a3).f0.f0) ((rd_T34 l1 a3).f0.f1) ((rd_T34 l1 a3).f0.f2) ((rd_T34 l1 a3).f1) ((rd_T34 l1 a3).f2) ((rd_T34 l1 a4).f0.f0) ((rd_T34 l1 a4).f0.f1) ((rd_T34 l1 a4).f0.f2) ((rd_T34 l1 a4).f1) ((rd_T34 l1 a4).f2)) else (some (decide (t202 > t203))))) = some r := H
                have A28 := Aside0.mk A280
                clear A280
                replace H := Option.bind_eq_some_iff.mp H
                obtain ⟨t203, A290, H⟩ := H
                replace H : (if t202 = t203 then (cleanseref23_before.j0 k l2 a3 a4 t201 ((rd_T34 l1 a3).f0.f0) ((rd_T34 l1 a3).f0.f1) ((rd_T34 l1 a3).f0.f2) ((rd_T34 l1 a3).f1) ((rd_T34 l1 a3).f2) ((rd_T34 l1 a4).f0.f0) ((rd_T34 l1 a4).f0.f1) ((rd_T34 l1 a4).f0.f2) ((rd_T34 l1 a4).f1) ((rd_T34 l1 a4).f2)) else (some (decide (t202 > t203)))) = some r := H
                have A29 := Aside0.mk A290
                clear A290
                by_cases c30 : t202 = t203
                · rw [if_pos c30] at H
                  have c30b0 : (t202 == t203) = true := beq_iff_eq.mpr c30
                  have c30b1 : (t202 != t203) = false := bne_eq_false_iff_eq.mpr c30
                  clear c30
                  have H' := Aside0.mk H
                  clear H
                  go_wp2_with (first | (go_at_call 44; (with_reducible refine (cleanseref23_frequent.calls k _ _ l1 a3 t202 _ ?side1 ?side2 A28.out).mono ?_); (case side1 => repeat (first | exact (Kd.C_below HR1.out HB.out) | (with_reducible refine Kd.C_alloc ?_ _) | (with_reducible refine Kd.C_drewN ?_ _) | (with_reducible refine Kd.C_drew ?_))); (case side2 => exact HC1.out); rintro e w31 ⟨rfl, hb⟩; have n0_ := Aside0.mk (blk_below (g := gb198) (o := .cells #[.int .i64 ((rd_T34 l1 a3).f0.f0), .int .i64 ((rd_T34 l1 a3).f0.f1), .string ((rd_T34 l1 a3).f0.f2), .int .i64 ((rd_T34 l1 a3).f1), .int .i64 ((rd_T34 l1 a3).f2)] 34 (0, 0)) (by (with_reducible repeat (first | refine blk_drewN ?_ _ | refine blk_drew ?_ | refine blk_alloc ?_ _)); exact BK198.out) hb); have n1_ := Aside0.mk (blk_below (g := gb200) (o := .cells #[.int .i64 ((rd_T34 l1 a4).f0.f0), .int .i64 ((rd_T34 l1 a4).f0.f1), .string ((rd_T34 l1 a4).f0.f2), .int .i64 ((rd_T34 l1 a4).f1), .int .i64 ((rd_T34 l1 a4).f2)] 34 (0, 0)) (by (with_reducible repeat (first | refine blk_drewN ?_ _ | refine blk_drew ?_ | refine blk_alloc ?_ _)); exact BK200.out) hb); have n2_ := Aside0.mk (below_step (by repeat (first | (with_reducible first | exact HB.out | apply below_alloc | apply pw_below_drewN | apply below_drew1 | refine below_set ?_ GE198.out | refine below_set ?_ GE200.out) | exact HB.out)) hb); clear BK198; clear BK200; clear HB; have BK198 := n0_; have BK200 := n1_; have HB := n2_; clear n0_ n1_ n2_; (try clear hb); (try clear hb2); (try clear hk); (try clear hi)) | (go_at_call 44; (with_reducible refine (cleanseref23_frequent.calls k _ _ l1 a4 t203 _ ?side1 ?side2 A29.out).mono ?_); (case side1 => repeat (first | exact (Kd.C_below HR1.out HB.out) | (with_reducible refine Kd.C_alloc ?_ _) | (with_reducible refine Kd.C_drewN ?_ _) | (with_reducible refine Kd.C_drew ?_))); (case side2 => exact HC1.out); rintro e w32 ⟨rfl, hb⟩; have n0_ := Aside0.mk (blk_below (g := gb198) (o := .cells #[.int .i64 ((rd_T34 l1 a3).f0.f0), .int .i64 ((rd_T34 l1 a3).f0.f1), .string ((rd_T34 l1 a3).f0.f2), .int .i64 ((rd_T34 l1 a3).f1), .int .i64 ((rd_T34 l1 a3).f2)] 34 (0, 0)) (by (with_reducible repeat (first | refine blk_drewN ?_ _ | refine blk_drew ?_ | refine blk_alloc ?_ _)); exact BK198.out) hb); have n1_ := Aside0.mk (blk_below (g := gb200) (o := .cells #[.int .i64 ((rd_T34 l1 a4).f0.f0), .int .i64 ((rd_T34 l1 a4).f0.f1), .string ((rd_T34 l1 a4).f0.f2), .int .i64 ((rd_T34 l1 a4).f1), .int .i64 ((rd_T34 l1 a4).f2)] 34 (0, 0)) (by (with_reducible repeat (first | refine blk_drewN ?_ _ | refine blk_drew ?_ | refine blk_alloc ?_ _)); exact BK200.out) hb); have n2_ := Aside0.mk (below_step (by repeat (first | (with_reducible first | exact HB.out | apply below_alloc | apply pw_below_drewN | apply below_drew1 | refine below_set ?_ GE198.out | refine below_set ?_ GE200.out) | exact HB.out)) hb); clear BK198; clear BK200; clear HB; have BK198 := n0_; have BK200 := n1_; have HB := n2_; clear n0_ n1_ n2_; (try clear hb); (try clear hb2); (try clear hk); (try clear hi)))
                  repeat (go_quiet (first | (go_at_call 44; (with_reducible refine (cleanseref23_frequent.calls k _ _ l1 a3 t202 _ ?side1 ?side2 A28.out).mono ?_); (case side1 => repeat (first | exact (Kd.C_below HR1.out HB.out) | (with_reducible refine Kd.C_alloc ?_ _) | (with_reducible refine Kd.C_drewN ?_ _) | (with_reducible refine Kd.C_drew ?_))); (case side2 => exact HC1.out); rintro e w31 ⟨rfl, hb⟩; have n0_ := Aside0.mk (blk_below (g := gb198) (o := .cells #[.int .i64 ((rd_T34 l1 a3).f0.f0), .int .i64 ((rd_T34 l1 a3).f0.f1), .string ((rd_T34 l1 a3).f0.f2), .int .i64 ((rd_T34 l1 a3).f1), .int .i64 ((rd_T34 l1 a3).f2)] 34 (0, 0)) (by (with_reducible repeat (first | refine blk_drewN ?_ _ | refine blk_drew ?_ | refine blk_alloc ?_ _)); exact BK198.out) hb); have n1_ := Aside0.mk (blk_below (g := gb200) (o := .cells #[.int .i64 ((rd_T34 l1 a4).f0.f0), .int .i64 ((rd_T34 l1 a4).f0.f1), .string ((rd_T34 l1 a4).f0.f2), .int .i64 ((rd_T34 l1 a4).f1), .int .i64 ((rd_T34 l1 a4).f2)] 34 (0, 0)) (by (with_reducible repeat (first | refine blk_drewN ?_ _ | refine blk_drew ?_ | refine blk_alloc ?_ _)); exact BK200.out) hb); have n2_ := Aside0.mk (below_step (by repeat (first | (with_reducible first | exact HB.out | apply below_alloc | apply pw_below_drewN | apply below_drew1 | refine below_set ?_ GE198.out | refine below_set ?_ GE200.out) | exact HB.out)) hb); clear BK198; clear BK200; clear HB; have BK198 := n0_; have BK200 := n1_; have HB := n2_; clear n0_ n1_ n2_; (try clear hb); (try clear hb2); (try clear hk); (try clear hi)) | (go_at_call 44; (with_reducible refine (cleanseref23_frequent.calls k _ _ l1 a4 t203 _ ?side1 ?side2 A29.out).mono ?_); (case side1 => repeat (first | exact (Kd.C_below HR1.out HB.out) | (with_reducible refine Kd.C_alloc ?_ _) | (with_reducible refine Kd.C_drewN ?_ _) | (with_reducible refine Kd.C_drew ?_))); (case side2 => exact HC1.out); rintro e w32 ⟨rfl, hb⟩; have n0_ := Aside0.mk (blk_below (g := gb198) (o := .cells #[.int .i64 ((rd_T34 l1 a3).f0.f0), .int .i64 ((rd_T34 l1 a3).f0.f1), .string ((rd_T34 l1 a3).f0.f2), .int .i64 ((rd_T34 l1 a3).f1), .int .i64 ((rd_T34 l1 a3).f2)] 34 (0, 0)) (by (with_reducible repeat (first | refine blk_drewN ?_ _ | refine blk_drew ?_ | refine blk_alloc ?_ _)); exact BK198.out) hb); have n1_ := Aside0.mk (blk_below (g := gb200) (o := .cells #[.int .i64 ((rd_T34 l1 a4).f0.f0), .int .i64 ((rd_T34 l1 a4).f0.f1), .string ((rd_T34 l1 a4).f0.f2), .int .i64 ((rd_T34 l1 a4).f1), .int .i64 ((rd_T34 l1 a4).f2)] 34 (0, 0)) (by (with_reducible repeat (first | refine blk_drewN ?_ _ | refine blk_drew ?_ | refine blk_alloc ?_ _)); exact BK200.out) hb); have n2_ := Aside0.mk (below_step (by repeat (first | (with_reducible first | exact HB.out | apply below_alloc | apply pw_below_drewN | apply below_drew1 | refine below_set ?_ GE198.out | refine below_set ?_ GE200.out) | exact HB.out)) hb); clear BK198; clear BK200; clear HB; have BK198 := n0_; have BK200 := n1_; have HB := n2_; clear n0_ n1_ n2_; (try clear hb); (try clear hb2); (try clear hk); (try clear hi))); try go_wp2_with (first | (go_at_call 44; (with_reducible refine (cleanseref23_frequent.calls k _ _ l1 a3 t202 _ ?side1 ?side2 A28.out).mono ?_); (case side1 => repeat (first | exact (Kd.C_below HR1.out HB.out) | (with_reducible refine Kd.C_alloc ?_ _) | (with_reducible refine Kd.C_drewN ?_ _) | (with_reducible refine Kd.C_drew ?_))); (case side2 => exact HC1.out); rintro e w31 ⟨rfl, hb⟩; have n0_ := Aside0.mk (blk_below (g := gb198) (o := .cells #[.int .i64 ((rd_T34 l1 a3).f0.f0), .int .i64 ((rd_T34 l1 a3).f0.f1), .string ((rd_T34 l1 a3).f0.f2), .int .i64 ((rd_T34 l1 a3).f1), .int .i64 ((rd_T34 l1 a3).f2)] 34 (0, 0)) (by (with_reducible repeat (first | refine blk_drewN ?_ _ | refine blk_drew ?_ | refine blk_alloc ?_ _)); exact BK198.out) hb); have n1_ := Aside0.mk (blk_below (g := gb200) (o := .cells #[.int .i64 ((rd_T34 l1 a4).f0.f0), .int .i64 ((rd_T34 l1 a4).f0.f1), .string ((rd_T34 l1 a4).f0.f2), .int .i64 ((rd_T34 l1 a4).f1), .int .i64 ((rd_T34 l1 a4).f2)] 34 (0, 0)) (by (with_reducible repeat (first | refine blk_drewN ?_ _ | refine blk_drew ?_ | refine blk_alloc ?_ _)); exact BK200.out) hb); have n2_ := Aside0.mk (below_step (by repeat (first | (with_reducible first | exact HB.out | apply below_alloc | apply pw_below_drewN | apply below_drew1 | refine below_set ?_ GE198.out | refine below_set ?_ GE200.out) | exact HB.out)) hb); clear BK198; clear BK200; clear HB; have BK198 := n0_; have BK200 := n1_; have HB := n2_; clear n0_ n1_ n2_; (try clear hb); (try clear hb2); (try clear hk); (try clear hi)) | (go_at_call 44; (with_reducible refine (cleanseref23_frequent.calls k _ _ l1 a4 t203 _ ?side1 ?side2 A29.out).mono ?_); (case side1 => repeat (first | exact (Kd.C_below HR1.out HB.out) | (with_reducible refine Kd.C_alloc ?_ _) | (with_reducible refine Kd.C_drewN ?_ _) | (with_reducible refine Kd.C_drew ?_))); (case side2 => exact HC1.out); rintro e w32 ⟨rfl, hb⟩; have n0_ := Aside0.mk (blk_below (g := gb198) (o := .cells #[.int .i64 ((rd_T34 l1 a3).f0.f0), .int .i64 ((rd_T34 l1 a3).f0.f1), .string ((rd_T34 l1 a3).f0.f2), .int .i64 ((rd_T34 l1 a3).f1), .int .i64 ((rd_T34 l1 a3).f2)] 34 (0, 0)) (by (with_reducible repeat (first | refine blk_drewN ?_ _ | refine blk_drew ?_ | refine blk_alloc ?_ _)); exact BK198.out) hb); have n1_ := Aside0.mk (blk_below (g := gb200) (o := .cells #[.int .i64 ((rd_T34 l1 a4).f0.f0), .int .i64 ((rd_T34 l1 a4).f0.f1), .string ((rd_T34 l1 a4).f0.f2), .int .i64 ((rd_T34 l1 a4).f1), .int .i64 ((rd_T34 l1 a4).f2)] 34 (0, 0)) (by (with_reducible repeat (first | refine blk_drewN ?_ _ | refine blk_drew ?_ | refine blk_alloc ?_ _)); exact BK200.out) hb); have n2_ := Aside0.mk (below_step (by repeat (first | (with_reducible first | exact HB.out | apply below_alloc | apply pw_below_drewN | apply below_drew1 | refine below_set ?_ GE198.out | refine below_set ?_ GE200.out) | exact HB.out)) hb); clear BK198; clear BK200; clear HB; have BK198 := n0_; have BK200 := n1_; have HB := n2_; clear n0_ n1_ n2_; (try clear hb); (try clear hb2); (try clear hk); (try clear hi))))
                  go_meet
                  case rel => exact ⟨_, H', ⟨by first | omega | exact Nat.le_refl _⟩, ⟨by (with_reducible repeat (first | refine blk_drewN ?_ _ | refine blk_drew ?_ | refine blk_alloc ?_ _)); exact BK198.out⟩, ⟨by (with_reducible repeat (first | refine blk_drewN ?_ _ | refine blk_drew ?_ | refine blk_alloc ?_ _)); exact BK200.out⟩, ⟨by repeat (first | (with_reducible first | exact HB.out | apply below_alloc | apply pw_below_drewN | apply below_drew1 | refine below_set ?_ GE198.out | refine below_set ?_ GE200.out) | exact HB.out)⟩⟩
                · rw [if_neg c30] at H
                  have c30b0 : (t202 == t203) = false := beq_eq_false_iff_ne.mpr c30
                  have c30b1 : (t202 != t203) = true := bne_iff_ne.mpr c30
                  obtain rfl := Option.some.inj H
                  go_wp2_with (first | (go_at_call 44; (with_reducible refine (cleanseref23_frequent.calls k _ _ l1 a3 t202 _ ?side1 ?side2 A28.out).mono ?_); (case side1 => repeat (first | exact (Kd.C_below HR1.out HB.out) | (with_reducible refine Kd.C_alloc ?_ _) | (with_reducible refine Kd.C_drewN ?_ _) | (with_reducible refine Kd.C_drew ?_))); (case side2 => exact HC1.out); rintro e w33 ⟨rfl, hb⟩; have n0_ := Aside0.mk (blk_below (g := gb198) (o := .cells #[.int .i64 ((rd_T34 l1 a3).f0.f0), .int .i64 ((rd_T34 l1 a3).f0.f1), .string ((rd_T34 l1 a3).f0.f2), .int .i64 ((rd_T34 l1 a3).f1), .int .i64 ((rd_T34 l1 a3).f2)] 34 (0, 0)) (by (with_reducible repeat (first | refine blk_drewN ?_ _ | refine blk_drew ?_ | refine blk_alloc ?_ _)); exact BK198.out) hb); have n1_ := Aside0.mk (blk_below (g := gb200) (o := .cells #[.int .i64 ((rd_T34 l1 a4).f0.f0), .int .i64 ((rd_T34 l1 a4).f0.f1), .string ((rd_T34 l1 a4).f0.f2), .int .i64 ((rd_T34 l1 a4).f1), .int .i64 ((rd_T34 l1 a4).f2)] 34 (0, 0)) (by (with_reducible repeat (first | refine blk_drewN ?_ _ | refine blk_drew ?_ | refine blk_alloc ?_ _)); exact BK200.out) hb); have n2_ := Aside0.mk (below_step (by repeat (first | (with_reducible first | exact HB.out | apply below_alloc | apply pw_below_drewN | apply below_drew1 | refine below_set ?_ GE198.out | refine below_set ?_ GE200.out) | exact HB.out)) hb); clear BK198; clear BK200; clear HB; have BK198 := n0_; have BK200 := n1_; have HB := n2_; clear n0_ n1_ n2_; (try clear hb); (try clear hb2); (try clear hk); (try clear hi)) | (go_at_call 44; (with_reducible refine (cleanseref23_frequent.calls k _ _ l1 a4 t203 _ ?side1 ?side2 A29.out).mono ?_); (case side1 => repeat (first | exact (Kd.C_below HR1.out HB.out) | (with_reducible refine Kd.C_alloc ?_ _) | (with_reducible refine Kd.C_drewN ?_ _) | (with_reducible refine Kd.C_drew ?_))); (case side2 => exact HC1.out); rintro e w34 ⟨rfl, hb⟩; have n0_ := Aside0.mk (blk_below (g := gb198) (o := .cells #[.int .i64 ((rd_T34 l1 a3).f0.f0), .int .i64 ((rd_T34 l1 a3).f0.f1), .string ((rd_T34 l1 a3).f0.f2), .int .i64 ((rd_T34 l1 a3).f1), .int .i64 ((rd_T34 l1 a3).f2)] 34 (0, 0)) (by (with_reducible repeat (first | refine blk_drewN ?_ _ | refine blk_drew ?_ | refine blk_alloc ?_ _)); exact BK198.out) hb); have n1_ := Aside0.mk (blk_below (g := gb200) (o := .cells #[.int .i64 ((rd_T34 l1 a4).f0.f0), .int .i64 ((rd_T34 l1 a4).f0.f1), .string ((rd_T34 l1 a4).f0.f2), .int .i64 ((rd_T34 l1 a4).f1), .int .i64 ((rd_T34 l1 a4).f2)] 34 (0, 0)) (by (with_reducible repeat (first | refine blk_drewN ?_ _ | refine blk_drew ?_ | refine blk_alloc ?_ _)); exact BK200.out) hb); have n2_ := Aside0.mk (below_step (by repeat (first | (with_reducible first | exact HB.out | apply below_alloc | apply pw_below_drewN | apply below_drew1 | refine below_set ?_ GE198.out | refine below_set ?_ GE200.out) | exact HB.out)) hb); clear BK198; clear BK200; clear HB; have BK198 := n0_; have BK200 := n1_; have HB := n2_; clear n0_ n1_ n2_; (try clear hb); (try clear hb2); (try clear hk); (try clear hi)))
                  repeat (go_quiet (first | (go_at_call 44; (with_reducible refine (cleanseref23_frequent.calls k _ _ l1 a3 t202 _ ?side1 ?side2 A28.out).mono ?_); (case side1 => repeat (first | exact (Kd.C_below HR1.out HB.out) | (with_reducible refine Kd.C_alloc ?_ _) | (with_reducible refine Kd.C_drewN ?_ _) | (with_reducible refine Kd.C_drew ?_))); (case side2 => exact HC1.out); rintro e w33 ⟨rfl, hb⟩; have n0_ := Aside0.mk (blk_below (g := gb198) (o := .cells #[.int .i64 ((rd_T34 l1 a3).f0.f0), .int .i64 ((rd_T34 l1 a3).f0.f1), .string ((rd_T34 l1 a3).f0.f2), .int .i64 ((rd_T34 l1 a3).f1), .int .i64 ((rd_T34 l1 a3).f2)] 34 (0, 0)) (by (with_reducible repeat (first | refine blk_drewN ?_ _ | refine blk_drew ?_ | refine blk_alloc ?_ _)); exact BK198.out) hb); have n1_ := Aside0.mk (blk_below (g := gb200) (o := .cells #[.int .i64 ((rd_T34 l1 a4).f0.f0), .int .i64 ((rd_T34 l1 a4).f0.f1), .string ((rd_T34 l1 a4).f0.f2), .int .i64 ((rd_T34 l1 a4).f1), .int .i64 ((rd_T34 l1 a4).f2)] 34 (0, 0)) (by (with_reducible repeat (first | refine blk_drewN ?_ _ | refine blk_drew ?_ | refine blk_alloc ?_ _)); exact BK200.out) hb); have n2_ := Aside0.mk (below_step (by repeat (first | (with_reducible first | exact HB.out | apply below_alloc | apply pw_below_drewN | apply below_drew1 | refine below_set ?_ GE198.out | refine below_set ?_ GE200.out) | exact HB.out)) hb); clear BK198; clear BK200; clear HB; have BK198 := n0_; have BK200 := n1_; have HB := n2_; clear n0_ n1_ n2_; (try clear hb); (try clear hb2); (try clear hk); (try clear hi)) | (go_at_call 44; (with_reducible refine (cleanseref23_frequent.calls k _ _ l1 a4 t203 _ ?side1 ?side2 A29.out).mono ?_); (case side1 => repeat (first | exact (Kd.C_below HR1.out HB.out) | (with_reducible refine Kd.C_alloc ?_ _) | (with_reducible refine Kd.C_drewN ?_ _) | (with_reducible refine Kd.C_drew ?_))); (case side2 => exact HC1.out); rintro e w34 ⟨rfl, hb⟩; have n0_ := Aside0.mk (blk_below (g := gb198) (o := .cells #[.int .i64 ((rd_T34 l1 a3).f0.f0), .int .i64 ((rd_T34 l1 a3).f0.f1), .string ((rd_T34 l1 a3).f0.f2), .int .i64 ((rd_T34 l1 a3).f1), .int .i64 ((rd_T34 l1 a3).f2)] 34 (0, 0)) (by (with_reducible repeat (first | refine blk_drewN ?_ _ | refine blk_drew ?_ | refine blk_alloc ?_ _)); exact BK198.out) hb); have n1_ := Aside0.mk (blk_below (g := gb200) (o := .cells #[.int .i64 ((rd_T34 l1 a4).f0.f0), .int .i64 ((rd_T34 l1 a4).f0.f1), .string ((rd_T34 l1 a4).f0.f2), .int .i64 ((rd_T34 l1 a4).f1), .int .i64 ((rd_T34 l1 a4).f2)] 34 (0, 0)) (by (with_reducible repeat (first | refine blk_drewN ?_ _ | refine blk_drew ?_ | refine blk_alloc ?_ _)); exact BK200.out) hb); have n2_ := Aside0.mk (below_step (by repeat (first | (with_reducible first | exact HB.out | apply below_alloc | apply pw_below_drewN | apply below_drew1 | refine below_set ?_ GE198.out | refine below_set ?_ GE200.out) | exact HB.out)) hb); clear BK198; clear BK200; clear HB; have BK198 := n0_; have BK200 := n1_; have HB := n2_; clear n0_ n1_ n2_; (try clear hb); (try clear hb2); (try clear hk); (try clear hi))); try go_wp2_with (first | (go_at_call 44; (with_reducible refine (cleanseref23_frequent.calls k _ _ l1 a3 t202 _ ?side1 ?side2 A28.out).mono ?_); (case side1 => repeat (first | exact (Kd.C_below HR1.out HB.out) | (with_reducible refine Kd.C_alloc ?_ _) | (with_reducible refine Kd.C_drewN ?_ _) | (with_reducible refine Kd.C_drew ?_))); (case side2 => exact HC1.out); rintro e w33 ⟨rfl, hb⟩; have n0_ := Aside0.mk (blk_below (g := gb198) (o := .cells #[.int .i64 ((rd_T34 l1 a3).f0.f0), .int .i64 ((rd_T34 l1 a3).f0.f1), .string ((rd_T34 l1 a3).f0.f2), .int .i64 ((rd_T34 l1 a3).f1), .int .i64 ((rd_T34 l1 a3).f2)] 34 (0, 0)) (by (with_reducible repeat (first | refine blk_drewN ?_ _ | refine blk_drew ?_ | refine blk_alloc ?_ _)); exact BK198.out) hb); have n1_ := Aside0.mk (blk_below (g := gb200) (o := .cells #[.int .i64 ((rd_T34 l1 a4).f0.f0), .int .i64 ((rd_T34 l1 a4).f0.f1), .string ((rd_T34 l1 a4).f0.f2), .int .i64 ((rd_T34 l1 a4).f1), .int .i64 ((rd_T34 l1 a4).f2)] 34 (0, 0)) (by (with_reducible repeat (first | refine blk_drewN ?_ _ | refine blk_drew ?_ | refine blk_alloc ?_ _)); exact BK200.out) hb); have n2_ := Aside0.mk (below_step (by repeat (first | (with_reducible first | exact HB.out | apply below_alloc | apply pw_below_drewN | apply below_drew1 | refine below_set ?_ GE198.out | refine below_set ?_ GE200.out) | exact HB.out)) hb); clear BK198; clear BK200; clear HB; have BK198 := n0_; have BK200 := n1_; have HB := n2_; clear n0_ n1_ n2_; (try clear hb); (try clear hb2); (try clear hk); (try clear hi)) | (go_at_call 44; (with_reducible refine (cleanseref23_frequent.calls k _ _ l1 a4 t203 _ ?side1 ?side2 A29.out).mono ?_); (case side1 => repeat (first | exact (Kd.C_below HR1.out HB.out) | (with_reducible refine Kd.C_alloc ?_ _) | (with_reducible refine Kd.C_drewN ?_ _) | (with_reducible refine Kd.C_drew ?_))); (case side2 => exact HC1.out); rintro e w34 ⟨rfl, hb⟩; have n0_ := Aside0.mk (blk_below (g := gb198) (o := .cells #[.int .i64 ((rd_T34 l1 a3).f0.f0), .int .i64 ((rd_T34 l1 a3).f0.f1), .string ((rd_T34 l1 a3).f0.f2), .int .i64 ((rd_T34 l1 a3).f1), .int .i64 ((rd_T34 l1 a3).f2)] 34 (0, 0)) (by (with_reducible repeat (first | refine blk_drewN ?_ _ | refine blk_drew ?_ | refine blk_alloc ?_ _)); exact BK198.out) hb); have n1_ := Aside0.mk (blk_below (g := gb200) (o := .cells #[.int .i64 ((rd_T34 l1 a4).f0.f0), .int .i64 ((rd_T34 l1 a4).f0.f1), .string ((rd_T34 l1 a4).f0.f2), .int .i64 ((rd_T34 l1 a4).f1), .int .i64 ((rd_T34 l1 a4).f2)] 34 (0, 0)) (by (with_reducible repeat (first | refine blk_drewN ?_ _ | refine blk_drew ?_ | refine blk_alloc ?_ _)); exact BK200.out) hb); have n2_ := Aside0.mk (below_step (by repeat (first | (with_reducible first | exact HB.out | apply below_alloc | apply pw_below_drewN | apply below_drew1 | refine below_set ?_ GE198.out | refine below_set ?_ GE200.out) | exact HB.out)) hb); clear BK198; clear BK200; clear HB; have BK198 := n0_; have BK200 := n1_; have HB := n2_; clear n0_ n1_ n2_; (try clear hb); (try clear hb2); (try clear hk); (try clear hi))))
                  go_ret
                  exact ⟨by first | rfl | (simp [errW_none, errW_some] <;> rfl) | (simp [*, errW_none, errW_some] <;> rfl), by repeat (first | (with_reducible first | exact HB.out | apply below_alloc | apply pw_below_drewN | apply below_drew1 | refine below_set ?_ GE198.out | refine below_set ?_ GE200.out) | exact HB.out)⟩
              · rw [if_neg c27] at H
                have c27b0 : (a0 == 2) = false := beq_eq_false_iff_ne.mpr c27
                have c27b1 : (a0 != 2) = true := bne_iff_ne.mpr c27
                by_cases c35 : a0 = 4
                · rw [if_pos c35] at H
                  have c35b0 : (a0 == 4) = true := beq_iff_eq.mpr c35
                  have c35b1 : (a0 != 4) = false := bne_eq_false_iff_eq.mpr c35
                  clear c35
                  by_cases c36 : (((rd_T34 l1 a3).f0.f2).size : Int) = (((rd_T34 l1 a4).f0.f2).size : Int)
                  · rw [if_pos c36] at H
                    have c36b0 : ((((rd_T34 l1 a3).f0.f2).size : Int) == (((rd_T34 l1 a4).f0.f2).size : Int)) = true := beq_iff_eq.mpr c36
                    have c36b1 : ((((rd_T34 l1 a3).f0.f2).size : Int) != (((rd_T34 l1 a4).f0.f2).size : Int)) = false := bne_eq_false_iff_eq.mpr c36
                    have c36b2 : (((rd_T34 l1 a3).f0.f2).size == ((rd_T34 l1 a4).f0.f2).size) = true := by first | simpa using c36 | (simp at c36 ⊢; omega)
                    clear c36
                    have H' := Aside0.mk H
                    clear H
                    have hnb37 := NB198_200.out
                    have hnc37 := NB200_198.out
                    have hcz38_0 : w18.cell? ⟨gb198, 0, none⟩ = some (.int .i64 ((rd_T34 l1 a3).f0.f0)) := (blk_cell BK198.out 0).trans rfl
                    have hcz38_1 : w18.cell? ⟨gb198, 1, none⟩ = some (.int .i64 ((rd_T34 l1 a3).f0.f1)) := (blk_cell BK198.out 1).trans rfl
                    have hcz38_2 : w18.cell? ⟨gb198, 2, none⟩ = some (.string ((rd_T34 l1 a3).f0.f2)) := (blk_cell BK198.out 2).trans rfl
                    have hcz38_3 : w18.cell? ⟨gb198, 3, none⟩ = some (.int .i64 ((rd_T34 l1 a3).f1)) := (blk_cell BK198.out 3).trans rfl
                    have hcz38_4 : w18.cell? ⟨gb198, 4, none⟩ = some (.int .i64 ((rd_T34 l1 a3).f2)) := (blk_cell BK198.out 4).trans rfl
                    have hfz38_0 := blk_frozen BK198.out 0
                    have hfz38_1 := blk_frozen BK198.out 1
                    have hfz38_2 := blk_frozen BK198.out 2
                    have hfz38_3 := blk_frozen BK198.out 3
                    have hfz38_4 := blk_frozen BK198.out 4
                    have hcz39_0 : w18.cell? ⟨gb200, 0, none⟩ = some (.int .i64 ((rd_T34 l1 a4).f0.f0)) := (blk_cell BK200.out 0).trans rfl
                    have hcz39_1 : w18.cell? ⟨gb200, 1, none⟩ = some (.int .i64 ((rd_T34 l1 a4).f0.f1)) := (blk_cell BK200.out 1).trans rfl
                    have hcz39_2 : w18.cell? ⟨gb200, 2, none⟩ = some (.string ((rd_T34 l1 a4).f0.f2)) := (blk_cell BK200.out 2).trans rfl
                    have hcz39_3 : w18.cell? ⟨gb200, 3, none⟩ = some (.int .i64 ((rd_T34 l1 a4).f1)) := (blk_cell BK200.out 3).trans rfl
                    have hcz39_4 : w18.cell? ⟨gb200, 4, none⟩ = some (.int .i64 ((rd_T34 l1 a4).f2)) := (blk_cell BK200.out 4).trans rfl
                    have hfz39_0 := blk_frozen BK200.out 0
                    have hfz39_1 := blk_frozen BK200.out 1
                    have hfz39_2 := blk_frozen BK200.out 2
                    have hfz39_3 := blk_frozen BK200.out 3
                    have hfz39_4 := blk_frozen BK200.out 4
                    go_wp2
                    repeat (go_quiet (fail); try go_wp2)
                    go_meet
                    case rel => exact ⟨_, H', ⟨by first | omega | exact Nat.le_refl _⟩, ⟨by (with_reducible repeat (first | refine blk_drewN ?_ _ | refine blk_drew ?_ | refine blk_alloc ?_ _)); exact BK198.out⟩, ⟨by (with_reducible repeat (first | refine blk_drewN ?_ _ | refine blk_drew ?_ | refine blk_alloc ?_ _)); exact BK200.out⟩, ⟨by repeat (first | (with_reducible first | exact HB.out | apply below_alloc | apply pw_below_drewN | apply below_drew1 | refine below_set ?_ GE198.out | refine below_set ?_ GE200.out) | exact HB.out)⟩⟩
                  · rw [if_neg c36] at H
                    have c36b0 : ((((rd_T34 l1 a3).f0.f2).size : Int) == (((rd_T34 l1 a4).f0.f2).size : Int)) = false := beq_eq_false_iff_ne.mpr c36
                    have c36b1 : ((((rd_T34 l1 a3).f0.f2).size : Int) != (((rd_T34 l1 a4).f0.f2).size : Int)) = true := bne_iff_ne.mpr c36
                    have c36b2 : (((rd_T34 l1 a3).f0.f2).size == ((rd_T34 l1 a4).f0.f2).size) = false := by first | simpa using c36 | (simp at c36 ⊢; omega)
                    obtain rfl := Option.some.inj H
                    have hnb40 := NB198_200.out
                    have hnc40 := NB200_198.out
                    have hcz41_0 : w18.cell? ⟨gb198, 0, none⟩ = some (.int .i64 ((rd_T34 l1 a3).f0.f0)) := (blk_cell BK198.out 0).trans rfl
                    have hcz41_1 : w18.cell? ⟨gb198, 1, none⟩ = some (.int .i64 ((rd_T34 l1 a3).f0.f1)) := (blk_cell BK198.out 1).trans rfl
                    have hcz41_2 : w18.cell? ⟨gb198, 2, none⟩ = some (.string ((rd_T34 l1 a3).f0.f2)) := (blk_cell BK198.out 2).trans rfl
                    have hcz41_3 : w18.cell? ⟨gb198, 3, none⟩ = some (.int .i64 ((rd_T34 l1 a3).f1)) := (blk_cell BK198.out 3).trans rfl
                    have hcz41_4 : w18.cell? ⟨gb198, 4, none⟩ = some (.int .i64 ((rd_T34 l1 a3).f2)) := (blk_cell BK198.out 4).trans rfl
                    have hfz41_0 := blk_frozen BK198.out 0
                    have hfz41_1 := blk_frozen BK198.out 1
                    have hfz41_2 := blk_frozen BK198.out 2
                    have hfz41_3 := blk_frozen BK198.out 3
                    have hfz41_4 := blk_frozen BK198.out 4
                    have hcz42_0 : w18.cell? ⟨gb200, 0, none⟩ = some (.int .i64 ((rd_T34 l1 a4).f0.f0)) := (blk_cell BK200.out 0).trans rfl
                    have hcz42_1 : w18.cell? ⟨gb200, 1, none⟩ = some (.int .i64 ((rd_T34 l1 a4).f0.f1)) := (blk_cell BK200.out 1).trans rfl
                    have hcz42_2 : w18.cell? ⟨gb200, 2, none⟩ = some (.string ((rd_T34 l1 a4).f0.f2)) := (blk_cell BK200.out 2).trans rfl
                    have hcz42_3 : w18.cell? ⟨gb200, 3, none⟩ = some (.int .i64 ((rd_T34 l1 a4).f1)) := (blk_cell BK200.out 3).trans rfl
                    have hcz42_4 : w18.cell? ⟨gb200, 4, none⟩ = some (.int .i64 ((rd_T34 l1 a4).f2)) := (blk_cell BK200.out 4).trans rfl
                    have hfz42_0 := blk_frozen BK200.out 0
                    have hfz42_1 := blk_frozen BK200.out 1
                    have hfz42_2 := blk_frozen BK200.out 2
                    have hfz42_3 := blk_frozen BK200.out 3
                    have hfz42_4 := blk_frozen BK200.out 4
                    go_wp2
                    repeat (go_quiet (fail); try go_wp2)
                    go_ret
                    exact ⟨by first | rfl | (simp [errW_none, errW_some] <;> rfl) | (simp [*, errW_none, errW_some] <;> rfl), by repeat (first | (with_reducible first | exact HB.out | apply below_alloc | apply pw_below_drewN | apply below_drew1 | refine below_set ?_ GE198.out | refine below_set ?_ GE200.out) | exact HB.out)⟩
                · rw [if_neg c35] at H
                  have c35b0 : (a0 == 4) = false := beq_eq_false_iff_ne.mpr c35
                  have c35b1 : (a0 != 4) = true := bne_iff_ne.mpr c35
                  by_cases c43 : a0 = 5
                  · rw [if_pos c43] at H
                    have c43b0 : (a0 == 5) = true := beq_iff_eq.mpr c43
                    have c43b1 : (a0 != 5) = false := bne_eq_false_iff_eq.mpr c43
                    clear c43
                    by_cases c44 : t201 = 0
                    · rw [if_pos c44] at H
                      have c44b0 : (t201 == 0) = true := beq_iff_eq.mpr c44
                      have c44b1 : (t201 != 0) = false := bne_eq_false_iff_eq.mpr c44
                      clear c44
                      have H' := Aside0.mk H
                      clear H
                      go_wp2
                      repeat (go_quiet (fail); try go_wp2)
                      go_meet
                      case rel => exact ⟨_, H', ⟨by first | omega | exact Nat.le_refl _⟩, ⟨by (with_reducible repeat (first | refine blk_drewN ?_ _ | refine blk_drew ?_ | refine blk_alloc ?_ _)); exact BK198.out⟩, ⟨by (with_reducible repeat (first | refine blk_drewN ?_ _ | refine blk_drew ?_ | refine blk_alloc ?_ _)); exact BK200.out⟩, ⟨by repeat (first | (with_reducible first | exact HB.out | apply below_alloc | apply pw_below_drewN | apply below_drew1 | refine below_set ?_ GE198.out | refine below_set ?_ GE200.out) | exact HB.out)⟩⟩
                    · rw [if_neg c44] at H
                      have c44b0 : (t201 == 0) = false := beq_eq_false_iff_ne.mpr c44
                      have c44b1 : (t201 != 0) = true := bne_iff_ne.mpr c44
                      obtain rfl := Option.some.inj H
                      go_wp2
                      repeat (go_quiet (fail); try go_wp2)
                      go_ret
                      exact ⟨by first | rfl | (simp [errW_none, errW_some] <;> rfl) | (simp [*, errW_none, errW_some] <;> rfl), by repeat (first | (with_reducible first | exact HB.out | apply below_alloc | apply pw_below_drewN | apply below_drew1 | refine below_set ?_ GE198.out | refine below_set ?_ GE200.out) | exact HB.out)⟩
                  · rw [if_neg c43] at H
                    have c43b0 : (a0 == 5) = false := beq_eq_false_iff_ne.mpr c43
                    have c43b1 : (a0 != 5) = true := bne_iff_ne.mpr c43
                    by_cases c45 : a0 = 6
                    · rw [if_pos c45] at H
                      have c45b0 : (a0 == 6) = true := beq_iff_eq.mpr c45
                      have c45b1 : (a0 != 6) = false := bne_eq_false_iff_eq.mpr c45
                      clear c45
                      by_cases c46 : t201 = 0
                      · rw [if_pos c46] at H
                        have c46b0 : (t201 == 0) = true := beq_iff_eq.mpr c46
                        have c46b1 : (t201 != 0) = false := bne_eq_false_iff_eq.mpr c46
                        clear c46
                        have H' := Aside0.mk H
                        clear H
                        go_wp2
                        repeat (go_quiet (fail); try go_wp2)
                        go_meet
                        case rel => exact ⟨_, H', ⟨by first | omega | exact Nat.le_refl _⟩, ⟨by (with_reducible repeat (first | refine blk_drewN ?_ _ | refine blk_drew ?_ | refine blk_alloc ?_ _)); exact BK198.out⟩, ⟨by (with_reducible repeat (first | refine blk_drewN ?_ _ | refine blk_drew ?_ | refine blk_alloc ?_ _)); exact BK200.out⟩, ⟨by repeat (first | (with_reducible first | exact HB.out | apply below_alloc | apply pw_below_drewN | apply below_drew1 | refine below_set ?_ GE198.out | refine below_set ?_ GE200.out) | exact HB.out)⟩⟩
                      · rw [if_neg c46] at H
                        have c46b0 : (t201 == 0) = false := beq_eq_false_iff_ne.mpr c46
                        have c46b1 : (t201 != 0) = true := bne_iff_ne.mpr c46
                        obtain rfl := Option.some.inj H
                        go_wp2
                        repeat (go_quiet (fail); try go_wp2)
                        go_ret
                        exact ⟨by first | rfl | (simp [errW_none, errW_some] <;> rfl) | (simp [*, errW_none, errW_some] <;> rfl), by repeat (first | (with_reducible first | exact HB.out | apply below_alloc | apply pw_below_drewN | apply below_drew1 | refine below_set ?_ GE198.out | refine below_set ?_ GE200.out) | exact HB.out)⟩
                    · rw [if_neg c45] at H
                      have c45b0 : (a0 == 6) = false := beq_eq_false_iff_ne.mpr c45
                      have c45b1 : (a0 != 6) = true := bne_iff_ne.mpr c45
                      have H' := Aside0.mk H
                      clear H
                      go_wp2
                      repeat (go_quiet (fail); try go_wp2)
                      go_meet
                      case rel => exact ⟨_, H', ⟨by first | omega | exact Nat.le_refl _⟩, ⟨by (with_reducible repeat (first | refine blk_drewN ?_ _ | refine blk_drew ?_ | refine blk_alloc ?_ _)); exact BK198.out⟩, ⟨by (with_reducible repeat (first | refine blk_drewN ?_ _ | refine blk_drew ?_ | refine blk_alloc ?_ _)); exact BK200.out⟩, ⟨by repeat (first | (with_reducible first | exact HB.out | apply below_alloc | apply pw_below_drewN | apply below_drew1 | refine below_set ?_ GE198.out | refine below_set ?_ GE200.out) | exact HB.out)⟩⟩
          case rest =>
            clear HC11
            try clear c1
            try clear p1
            try clear q1
            try clear hx1
            try clear c2
            try clear p2
            try clear c3
            try clear c4
            try clear c6
            try clear c6b0
            try clear c7
            try clear c7b0
            try clear c8
            try clear c8b0
            try clear c9
            try clear c9b0
            try clear c15
            try clear c19
            try clear c19b0
            try clear c19b1
            try clear p19
            try clear q19
            try clear hx19
            try clear c20
            try clear c20b0
            try clear c20b1
            try clear c21
            try clear c24
            try clear c27
            try clear c27b0
            try clear c27b1
            try clear c30
            try clear c30b0
            try clear c30b1
            try clear c33
            try clear c35
            try clear c35b0
            try clear c35b1
            try clear c36
            try clear c36b0
            try clear c36b1
            try clear c36b2
            try clear c37
            try clear c40
            try clear c43
            try clear c43b0
            try clear c43b1
            try clear c44
            try clear c44b0
            try clear c44b1
            try clear c45
            try clear c45b0
            try clear c45b1
            try clear c46
            try clear c46b0
            try clear c46b1
            try clear hcz13_0
            try clear hcz13_1
            try clear hcz13_2
            try clear hcz13_3
            try clear hcz13_4
            try clear hcz16_0
            try clear hcz16_1
            try clear hcz16_2
            try clear hcz16_3
            try clear hcz16_4
            try clear hcz17_0
            try clear hcz17_1
            try clear hcz17_2
            try clear hcz17_3
            try clear hcz17_4
            try clear hcz22_0
            try clear hcz22_1
            try clear hcz22_2
            try clear hcz22_3
            try clear hcz22_4
            try clear hcz23_0
            try clear hcz23_1
            try clear hcz23_2
            try clear hcz23_3
            try clear hcz23_4
            try clear hcz25_0
            try clear hcz25_1
            try clear hcz25_2
            try clear hcz25_3
            try clear hcz25_4
            try clear hcz26_0
            try clear hcz26_1
            try clear hcz26_2
            try clear hcz26_3
            try clear hcz26_4
            try clear hcz38_0
            try clear hcz38_1
            try clear hcz38_2
            try clear hcz38_3
            try clear hcz38_4
            try clear hcz39_0
            try clear hcz39_1
            try clear hcz39_2
            try clear hcz39_3
            try clear hcz39_4
            try clear hcz41_0
            try clear hcz41_1
            try clear hcz41_2
            try clear hcz41_3
            try clear hcz41_4
            try clear hcz42_0
            try clear hcz42_1
            try clear hcz42_2
            try clear hcz42_3
            try clear hcz42_4
            try clear hfz13_0
            try clear hfz13_1
            try clear hfz13_2
            try clear hfz13_3
            try clear hfz13_4
            try clear hfz16_0
            try clear hfz16_1
            try clear hfz16_2
            try clear hfz16_3
            try clear hfz16_4
            try clear hfz17_0
            try clear hfz17_1
            try clear hfz17_2
            try clear hfz17_3
            try clear hfz17_4
            try clear hfz22_0
            try clear hfz22_1
            try clear hfz22_2
            try clear hfz22_3
            try clear hfz22_4
            try clear hfz23_0
            try clear hfz23_1
            try clear hfz23_2
            try clear hfz23_3
            try clear hfz23_4
            try clear hfz25_0
            try clear hfz25_1
            try clear hfz25_2
            try clear hfz25_3
            try clear hfz25_4
            try clear hfz26_0
            try clear hfz26_1
            try clear hfz26_2
            try clear hfz26_3
            try clear hfz26_4
            try clear hfz38_0
            try clear hfz38_1
            try clear hfz38_2
            try clear hfz38_3
            try clear hfz38_4
            try clear hfz39_0
            try clear hfz39_1
            try clear hfz39_2
            try clear hfz39_3
            try clear hfz39_4
            try clear hfz41_0
            try clear hfz41_1
            try clear hfz41_2
            try clear hfz41_3
            try clear hfz41_4
            try clear hfz42_0
            try clear hfz42_1
            try clear hfz42_2
            try clear hfz42_3
            try clear hfz42_4
            try clear hx197_0
            try clear hx197_1
            try clear hx197_2
            try clear hx197_3
            try clear hx197_4
            try clear hx199_0
            try clear hx199_1
            try clear hx199_2
            try clear hx199_3
            try clear hx199_4
            try clear p197
            try clear p199
            try clear q197
            try clear q199
            obtain ⟨kq, HA, HJ10, BK198, BK200, HB⟩ := hcut
            cases kq with
            | zero => exact absurd HA.out (by simp [cleanseref23_before.j0])
            | succ kj10 =>
              have H := HA.out
              clear HA
              simp only [cleanseref23_before.j0] at H
              by_cases c47 : 0 ≤ a3
              · rw [if_pos c47] at H
                have c47b0 : decide (0 ≤ a3) = true := decide_eq_true c47
                clear c47
                by_cases c48 : a3 < (l2.length : Int)
                · rw [if_pos c48] at H
                  have c48b0 : decide (a3 < (l2.length : Int)) = true := decide_eq_true c48
                  clear c48
                  by_cases c49 : 0 ≤ a4
                  · rw [if_pos c49] at H
                    have c49b0 : decide (0 ≤ a4) = true := decide_eq_true c49
                    clear c49
                    by_cases c50 : a4 < (l2.length : Int)
                    · rw [if_pos c50] at H
                      have c50b0 : decide (a4 < (l2.length : Int)) = true := decide_eq_true c50
                      clear c50
                      by_cases c51 : (rd l2 a3) = (rd l2 a4)
                      · rw [if_pos c51] at H
                        have c51b0 : ((rd l2 a3) == (rd l2 a4)) = true := beq_iff_eq.mpr c51
                        have c51b1 : ((rd l2 a3) != (rd l2 a4)) = false := bne_eq_false_iff_eq.mpr c51
                        clear c51
                        by_cases c52 : ((rd_T34 l1 a3).f2) = ((rd_T34 l1 a4).f2)
                        · rw [if_pos c52] at H
                          have c52b0 : (((rd_T34 l1 a3).f2) == ((rd_T34 l1 a4).f2)) = true := beq_iff_eq.mpr c52
                          have c52b1 : (((rd_T34 l1 a3).f2) != ((rd_T34 l1 a4).f2)) = false := bne_eq_false_iff_eq.mpr c52
                          clear c52
                          by_cases c53 : t201 = 0
                          · rw [if_pos c53] at H
                            have c53b0 : (t201 == 0) = true := beq_iff_eq.mpr c53
                            have c53b1 : (t201 != 0) = false := bne_eq_false_iff_eq.mpr c53
                            clear c53
                            obtain rfl := Option.some.inj H
                            have p204 : 0 ≤ (a3 : Int) := of_decide_eq_true (by first | (with_reducible assumption) | assumption)
                            have q204 : a3 < (l2.length : Int) := of_decide_eq_true (by first | (with_reducible assumption) | assumption)
                            obtain ⟨ad204, e204, hx204_0⟩ := Kd.at_int HR2.out a3 p204 q204
                            cases e204
                            replace hx204_0 := (HB.out.cell (World.block_lt_of_cell? w _ hx204_0)).trans hx204_0
                            replace p204 := eq_true p204
                            replace q204 := eq_true q204
                            have p205 : 0 ≤ (a4 : Int) := of_decide_eq_true (by first | (with_reducible assumption) | assumption)
                            have q205 : a4 < (l2.length : Int) := of_decide_eq_true (by first | (with_reducible assumption) | assumption)
                            obtain ⟨ad205, e205, hx205_0⟩ := Kd.at_int HR2.out a4 p205 q205
                            obtain rfl : ad204 = ad205 := (by injection e205)
                            replace hx205_0 := (HB.out.cell (World.block_lt_of_cell? w _ hx205_0)).trans hx205_0
                            replace p205 := eq_true p205
                            replace q205 := eq_true q205
                            have hnb54 := NB198_200.out
                            have hnc54 := NB200_198.out
                            have hcz55_0 : wc.cell? ⟨gb198, 0, none⟩ = some (.int .i64 ((rd_T34 l1 a3).f0.f0)) := (blk_cell BK198.out 0).trans rfl
                            have hcz55_1 : wc.cell? ⟨gb198, 1, none⟩ = some (.int .i64 ((rd_T34 l1 a3).f0.f1)) := (blk_cell BK198.out 1).trans rfl
                            have hcz55_2 : wc.cell? ⟨gb198, 2, none⟩ = some (.string ((rd_T34 l1 a3).f0.f2)) := (blk_cell BK198.out 2).trans rfl
                            have hcz55_3 : wc.cell? ⟨gb198, 3, none⟩ = some (.int .i64 ((rd_T34 l1 a3).f1)) := (blk_cell BK198.out 3).trans rfl
                            have hcz55_4 : wc.cell? ⟨gb198, 4, none⟩ = some (.int .i64 ((rd_T34 l1 a3).f2)) := (blk_cell BK198.out 4).trans rfl
                            have hfz55_0 := blk_frozen BK198.out 0
                            have hfz55_1 := blk_frozen BK198.out 1
                            have hfz55_2 := blk_frozen BK198.out 2
                            have hfz55_3 := blk_frozen BK198.out 3
                            have hfz55_4 := blk_frozen BK198.out 4
                            have hcz56_0 : wc.cell? ⟨gb200, 0, none⟩ = some (.int .i64 ((rd_T34 l1 a4).f0.f0)) := (blk_cell BK200.out 0).trans rfl
                            have hcz56_1 : wc.cell? ⟨gb200, 1, none⟩ = some (.int .i64 ((rd_T34 l1 a4).f0.f1)) := (blk_cell BK200.out 1).trans rfl
                            have hcz56_2 : wc.cell? ⟨gb200, 2, none⟩ = some (.string ((rd_T34 l1 a4).f0.f2)) := (blk_cell BK200.out 2).trans rfl
                            have hcz56_3 : wc.cell? ⟨gb200, 3, none⟩ = some (.int .i64 ((rd_T34 l1 a4).f1)) := (blk_cell BK200.out 3).trans rfl
                            have hcz56_4 : wc.cell? ⟨gb200, 4, none⟩ = some (.int .i64 ((rd_T34 l1 a4).f2)) := (blk_cell BK200.out 4).trans rfl
                            have hfz56_0 := blk_frozen BK200.out 0
                            have hfz56_1 := blk_frozen BK200.out 1
                            have hfz56_2 := blk_frozen BK200.out 2
                            have hfz56_3 := blk_frozen BK200.out 3
                            have hfz56_4 := blk_frozen BK200.out 4
                            go_wp2
                            repeat (go_quiet (fail); try go_wp2)
                            go_ret
                            exact ⟨by first | rfl | (simp [errW_none, errW_some] <;> rfl) | (simp [*, errW_none, errW_some] <;> rfl), by repeat (first | (with_reducible first | exact HB.out | apply below_alloc | apply pw_below_drewN | apply below_drew1 | refine below_set ?_ GE198.out | refine below_set ?_ GE200.out) | exact HB.out)⟩
                          · rw [if_neg c53] at H
                            have c53b0 : (t201 == 0) = false := beq_eq_false_iff_ne.mpr c53
                            have c53b1 : (t201 != 0) = true := bne_iff_ne.mpr c53
                            obtain rfl := Option.some.inj H
                            have p204 : 0 ≤ (a3 : Int) := of_decide_eq_true (by first | (with_reducible assumption) | assumption)
                            have q204 : a3 < (l2.length : Int) := of_decide_eq_true (by first | (with_reducible assumption) | assumption)
                            obtain ⟨ad204, e204, hx204_0⟩ := Kd.at_int HR2.out a3 p204 q204
                            cases e204
                            replace hx204_0 := (HB.out.cell (World.block_lt_of_cell? w _ hx204_0)).trans hx204_0
                            replace p204 := eq_true p204
                            replace q204 := eq_true q204
                            have p205 : 0 ≤ (a4 : Int) := of_decide_eq_true (by first | (with_reducible assumption) | assumption)
                            have q205 : a4 < (l2.length : Int) := of_decide_eq_true (by first | (with_reducible assumption) | assumption)
                            obtain ⟨ad205, e205, hx205_0⟩ := Kd.at_int HR2.out a4 p205 q205
                            obtain rfl : ad204 = ad205 := (by injection e205)
                            replace hx205_0 := (HB.out.cell (World.block_lt_of_cell? w _ hx205_0)).trans hx205_0
                            replace p205 := eq_true p205
                            replace q205 := eq_true q205
                            have hnb57 := NB198_200.out
                            have hnc57 := NB200_198.out
                            have hcz58_0 : wc.cell? ⟨gb198, 0, none⟩ = some (.int .i64 ((rd_T34 l1 a3).f0.f0)) := (blk_cell BK198.out 0).trans rfl
                            have hcz58_1 : wc.cell? ⟨gb198, 1, none⟩ = some (.int .i64 ((rd_T34 l1 a3).f0.f1)) := (blk_cell BK198.out 1).trans rfl
                            have hcz58_2 : wc.cell? ⟨gb198, 2, none⟩ = some (.string ((rd_T34 l1 a3).f0.f2)) := (blk_cell BK198.out 2).trans rfl
                            have hcz58_3 : wc.cell? ⟨gb198, 3, none⟩ = some (.int .i64 ((rd_T34 l1 a3).f1)) := (blk_cell BK198.out 3).trans rfl
                            have hcz58_4 : wc.cell? ⟨gb198, 4, none⟩ = some (.int .i64 ((rd_T34 l1 a3).f2)) := (blk_cell BK198.out 4).trans rfl
                            have hfz58_0 := blk_frozen BK198.out 0
                            have hfz58_1 := blk_frozen BK198.out 1
                            have hfz58_2 := blk_frozen BK198.out 2
                            have hfz58_3 := blk_frozen BK198.out 3
                            have hfz58_4 := blk_frozen BK198.out 4
                            have hcz59_0 : wc.cell? ⟨gb200, 0, none⟩ = some (.int .i64 ((rd_T34 l1 a4).f0.f0)) := (blk_cell BK200.out 0).trans rfl
                            have hcz59_1 : wc.cell? ⟨gb200, 1, none⟩ = some (.int .i64 ((rd_T34 l1 a4).f0.f1)) := (blk_cell BK200.out 1).trans rfl
                            have hcz59_2 : wc.cell? ⟨gb200, 2, none⟩ = some (.string ((rd_T34 l1 a4).f0.f2)) := (blk_cell BK200.out 2).trans rfl
                            have hcz59_3 : wc.cell? ⟨gb200, 3, none⟩ = some (.int .i64 ((rd_T34 l1 a4).f1)) := (blk_cell BK200.out 3).trans rfl
                            have hcz59_4 : wc.cell? ⟨gb200, 4, none⟩ = some (.int .i64 ((rd_T34 l1 a4).f2)) := (blk_cell BK200.out 4).trans rfl
                            have hfz59_0 := blk_frozen BK200.out 0
                            have hfz59_1 := blk_frozen BK200.out 1
                            have hfz59_2 := blk_frozen BK200.out 2
                            have hfz59_3 := blk_frozen BK200.out 3
                            have hfz59_4 := blk_frozen BK200.out 4
                            go_wp2
                            repeat (go_quiet (fail); try go_wp2)
                            go_ret
                            exact ⟨by first | rfl | (simp [errW_none, errW_some] <;> rfl) | (simp [*, errW_none, errW_some] <;> rfl), by repeat (first | (with_reducible first | exact HB.out | apply below_alloc | apply pw_below_drewN | apply below_drew1 | refine below_set ?_ GE198.out | refine below_set ?_ GE200.out) | exact HB.out)⟩
                        · rw [if_neg c52] at H
                          have c52b0 : (((rd_T34 l1 a3).f2) == ((rd_T34 l1 a4).f2)) = false := beq_eq_false_iff_ne.mpr c52
                          have c52b1 : (((rd_T34 l1 a3).f2) != ((rd_T34 l1 a4).f2)) = true := bne_iff_ne.mpr c52
                          obtain rfl := Option.some.inj H
                          have p204 : 0 ≤ (a3 : Int) := of_decide_eq_true (by first | (with_reducible assumption) | assumption)
                          have q204 : a3 < (l2.length : Int) := of_decide_eq_true (by first | (with_reducible assumption) | assumption)
                          obtain ⟨ad204, e204, hx204_0⟩ := Kd.at_int HR2.out a3 p204 q204
                          cases e204
                          replace hx204_0 := (HB.out.cell (World.block_lt_of_cell? w _ hx204_0)).trans hx204_0
                          replace p204 := eq_true p204
                          replace q204 := eq_true q204
                          have p205 : 0 ≤ (a4 : Int) := of_decide_eq_true (by first | (with_reducible assumption) | assumption)
                          have q205 : a4 < (l2.length : Int) := of_decide_eq_true (by first | (with_reducible assumption) | assumption)
                          obtain ⟨ad205, e205, hx205_0⟩ := Kd.at_int HR2.out a4 p205 q205
                          obtain rfl : ad204 = ad205 := (by injection e205)
                          replace hx205_0 := (HB.out.cell (World.block_lt_of_cell? w _ hx205_0)).trans hx205_0
                          replace p205 := eq_true p205
                          replace q205 := eq_true q205
                          have hnb60 := NB198_200.out
                          have hnc60 := NB200_198.out
                          have hcz61_0 : wc.cell? ⟨gb198, 0, none⟩ = some (.int .i64 ((rd_T34 l1 a3).f0.f0)) := (blk_cell BK198.out 0).trans rfl
                          have hcz61_1 : wc.cell? ⟨gb198, 1, none⟩ = some (.int .i64 ((rd_T34 l1 a3).f0.f1)) := (blk_cell BK198.out 1).trans rfl
                          have hcz61_2 : wc.cell? ⟨gb198, 2, none⟩ = some (.string ((rd_T34 l1 a3).f0.f2)) := (blk_cell BK198.out 2).trans rfl
                          have hcz61_3 : wc.cell? ⟨gb198, 3, none⟩ = some (.int .i64 ((rd_T34 l1 a3).f1)) := (blk_cell BK198.out 3).trans rfl
                          have hcz61_4 : wc.cell? ⟨gb198, 4, none⟩ = some (.int .i64 ((rd_T34 l1 a3).f2)) := (blk_cell BK198.out 4).trans rfl
                          have hfz61_0 := blk_frozen BK198.out 0
                          have hfz61_1 := blk_frozen BK198.out 1
                          have hfz61_2 := blk_frozen BK198.out 2
                          have hfz61_3 := blk_frozen BK198.out 3
                          have hfz61_4 := blk_frozen BK198.out 4
                          have hcz62_0 : wc.cell? ⟨gb200, 0, none⟩ = some (.int .i64 ((rd_T34 l1 a4).f0.f0)) := (blk_cell BK200.out 0).trans rfl
                          have hcz62_1 : wc.cell? ⟨gb200, 1, none⟩ = some (.int .i64 ((rd_T34 l1 a4).f0.f1)) := (blk_cell BK200.out 1).trans rfl
                          have hcz62_2 : wc.cell? ⟨gb200, 2, none⟩ = some (.string ((rd_T34 l1 a4).f0.f2)) := (blk_cell BK200.out 2).trans rfl
                          have hcz62_3 : wc.cell? ⟨gb200, 3, none⟩ = some (.int .i64 ((rd_T34 l1 a4).f1)) := (blk_cell BK200.out 3).trans rfl
                          have hcz62_4 : wc.cell? ⟨gb200, 4, none⟩ = some (.int .i64 ((rd_T34 l1 a4).f2)) := (blk_cell BK200.out 4).trans rfl
                          have hfz62_0 := blk_frozen BK200.out 0
                          have hfz62_1 := blk_frozen BK200.out 1
                          have hfz62_2 := blk_frozen BK200.out 2
                          have hfz62_3 := blk_frozen BK200.out 3
                          have hfz62_4 := blk_frozen BK200.out 4
                          go_wp2
                          repeat (go_quiet (fail); try go_wp2)
                          go_ret
                          exact ⟨by first | rfl | (simp [errW_none, errW_some] <;> rfl) | (simp [*, errW_none, errW_some] <;> rfl), by repeat (first | (with_reducible first | exact HB.out | apply below_alloc | apply pw_below_drewN | apply below_drew1 | refine below_set ?_ GE198.out | refine below_set ?_ GE200.out) | exact HB.out)⟩
                      · rw [if_neg c51] at H
                        have c51b0 : ((rd l2 a3) == (rd l2 a4)) = false := beq_eq_false_iff_ne.mpr c51
                        have c51b1 : ((rd l2 a3) != (rd l2 a4)) = true := bne_iff_ne.mpr c51
                        obtain rfl := Option.some.inj H
                        have p204 : 0 ≤ (a3 : Int) := of_decide_eq_true (by first | (with_reducible assumption) | assumption)
                        have q204 : a3 < (l2.length : Int) := of_decide_eq_true (by first | (with_reducible assumption) | assumption)
                        obtain ⟨ad204, e204, hx204_0⟩ := Kd.at_int HR2.out a3 p204 q204
                        cases e204
                        replace hx204_0 := (HB.out.cell (World.block_lt_of_cell? w _ hx204_0)).trans hx204_0
                        replace p204 := eq_true p204
                        replace q204 := eq_true q204
                        have p205 : 0 ≤ (a4 : Int) := of_decide_eq_true (by first | (with_reducible assumption) | assumption)
                        have q205 : a4 < (l2.length : Int) := of_decide_eq_true (by first | (with_reducible assumption) | assumption)
                        obtain ⟨ad205, e205, hx205_0⟩ := Kd.at_int HR2.out a4 p205 q205
                        obtain rfl : ad204 = ad205 := (by injection e205)
                        replace hx205_0 := (HB.out.cell (World.block_lt_of_cell? w _ hx205_0)).trans hx205_0
                        replace p205 := eq_true p205
                        replace q205 := eq_true q205
                        have p206 : 0 ≤ (a3 : Int) := of_decide_eq_true (by first | (with_reducible assumption) | assumption)
                        have q206 : a3 < (l2.length : Int) := of_decide_eq_true (by first | (with_reducible assumption) | assumption)
                        obtain ⟨ad206, e206, hx206_0⟩ := Kd.at_int HR2.out a3 p206 q206
                        obtain rfl : ad204 = ad206 := (by injection e206)
                        replace hx206_0 := (HB.out.cell (World.block_lt_of_cell? w _ hx206_0)).trans hx206_0
                        replace p206 := eq_true p206
                        replace q206 := eq_true q206
                        have p207 : 0 ≤ (a4 : Int) := of_decide_eq_true (by first | (with_reducible assumption) | assumption)
                        have q207 : a4 < (l2.length : Int) := of_decide_eq_true (by first | (with_reducible assumption) | assumption)
                        obtain ⟨ad207, e207, hx207_0⟩ := Kd.at_int HR2.out a4 p207 q207
                        obtain rfl : ad204 = ad207 := (by injection e207)
                        replace hx207_0 := (HB.out.cell (World.block_lt_of_cell? w _ hx207_0)).trans hx207_0
                        replace p207 := eq_true p207
                        replace q207 := eq_true q207
                        go_wp2
                        repeat (go_quiet (fail); try go_wp2)
                        go_ret
                        exact ⟨by first | rfl | (simp [errW_none, errW_some] <;> rfl) | (simp [*, errW_none, errW_some] <;> rfl), by repeat (first | (with_reducible first | exact HB.out | apply below_alloc | apply pw_below_drewN | apply below_drew1 | refine below_set ?_ GE198.out | refine below_set ?_ GE200.out) | exact HB.out)⟩
                    · rw [if_neg c50] at H
                      exact absurd H (by simp)
                  · rw [if_neg c49] at H
                    exact absurd H (by simp)
                · rw [if_neg c48] at H
                  exact absurd H (by simp)
              · rw [if_neg c47] at H
                exact absurd H (by simp)
        · rw [if_neg c9] at H
          exact absurd H (by simp)
      · rw [if_neg c8] at H
        exact absurd H (by simp)
    · rw [if_neg c7] at H
      exact absurd H (by simp)
  · rw [if_neg c6] at H
    exact absurd H (by simp)

end Go.Proofs.Ytegomjkgbeijlaa.Sv
