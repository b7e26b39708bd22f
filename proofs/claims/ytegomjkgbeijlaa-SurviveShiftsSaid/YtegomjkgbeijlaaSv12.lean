/- Contracts of Go functions of this seat's translation, laid by givenprint.py (a program of this project) by way of the kit's print; not trusted: Lean checks them. -/
import Derived.Test.YtegomjkgbeijlaaSv0
import Derived.Test.YtegomjkgbeijlaaSv3
import Derived.Test.YtegomjkgbeijlaaSv4
import Derived.Test.YtegomjkgbeijlaaSv5
namespace Go.Proofs.Ytegomjkgbeijlaa.Sv
open Go.RowKit Go.Proofs.YtegomjkgbeijlaaW.PrintWords Go.Proofs.YtegomjkgbeijlaaW.PrintLast Go.Proofs.YtegomjkgbeijlaaW.PrintMore
attribute [local go_sem] max2_int min2_int max_two min_two max_three min_three max_four min_four   -- for this text's walks alone
attribute [local go_sem] Go.Proofs.Ytegomjkgbeijlaa.str_gtr Go.Proofs.Ytegomjkgbeijlaa.str_leq Go.Proofs.Ytegomjkgbeijlaa.str_geq
set_option linter.unusedVariables false
set_option linter.unusedSimpArgs false

/-! ### cleanselaw23_SurviveShifts: function 9 -/
mutual
def cleanselaw23_SurviveShifts.j0 : Nat → Int → List (S34) → List Int → Int → Int → Bool → Bool → Option (Bool)
  | 0, _, _, _, _, _, _, _ => none
  | k + 1, x0, x1, x2, x3, x4, x11, x41 => if x41 = true then (some x11) else ((some (([] : List (S34)) : List (S34))).bind fun y420 => (if y420.length + x1.length < 2932031007402 then ((some (([] : List Int) : List Int)).bind fun y426 => (if y426.length + x2.length < 17592186044416 then (cleanselaw23_SurviveShifts.l0 k x0 x1 x2 x3 x4 x11 (y420 ++ x1) (y426 ++ x2) 0) else (none))) else (none)))
def cleanselaw23_SurviveShifts.l0 : Nat → Int → List (S34) → List Int → Int → Int → Bool → List (S34) → List Int → Int → Option (Bool)
  | 0, _, _, _, _, _, _, _, _, _ => none
  | k + 1, x0, x1, x2, x3, x4, x11, x12, x13, x14 => if x14 < (x12.length : Int) then (if 0 ≤ x14 then (if ((rd_T34 x12 x14).f2) > 1000000000 then (some x11) else (if ((rd_T34 x12 x14).f2) < (-1000000000) then (some x11) else (if x14 < (x13.length : Int) then (if (rd x13 x14) > 1000000000 then (some x11) else (if (rd x13 x14) < (-1000000000) then (some x11) else (cleanselaw23_SurviveShifts.l0 k x0 x1 x2 x3 x4 x11 (x12.set (x14 : Int).toNat (⟨(⟨(rd_T34 x12 x14).f0.f0, (rd_T34 x12 x14).f0.f1, (rd_T34 x12 x14).f0.f2⟩ : S32), (rd_T34 x12 x14).f1, wrap64 (((rd_T34 x12 x14).f2) + x4)⟩ : S34)) (x13.set (x14 : Int).toNat (wrap64 ((rd x13 x14) + x3))) (wrap64 (x14 + 1))))) else (none)))) else (none)) else (if x11 = true then ((survive_Choose.f x0 x1 x2).bind fun t440 => ((survive_Choose.f x0 x12 x13).bind fun t441 => (if t440 = t441 then ((survive_Others.f x0 x1 x2).bind fun t442 => ((survive_Others.f x0 x12 x13).bind fun t445 => ((cleanseref05_Ints.f k t442 t445).bind fun t448 => (some t448)))) else (some false)))) else (some false))
end
def cleanselaw23_SurviveShifts.f (k : Nat) (a0 : Int) (l1 : List (S34)) (l2 : List Int) (a3 : Int) (a4 : Int) : Option (Bool) := (cleanselaw23_head.f k).bind fun t418 => ((cleanseref23_Few.f k l1 30).bind fun t419 => (if t419 = true then (if (l2.length : Int) = (l1.length : Int) then (if a3 > 1000000000 then (cleanselaw23_SurviveShifts.j0 k a0 l1 l2 a3 a4 t418 true) else (if a3 < (-1000000000) then (cleanselaw23_SurviveShifts.j0 k a0 l1 l2 a3 a4 t418 true) else (if a4 > 1000000000 then (cleanselaw23_SurviveShifts.j0 k a0 l1 l2 a3 a4 t418 true) else (cleanselaw23_SurviveShifts.j0 k a0 l1 l2 a3 a4 t418 (decide (a4 < (-1000000000))))))) else (cleanselaw23_SurviveShifts.j0 k a0 l1 l2 a3 a4 t418 true)) else (cleanselaw23_SurviveShifts.j0 k a0 l1 l2 a3 a4 t418 true)))
theorem cleanselaw23_SurviveShifts.mono_l : ∀ k, (∀ y0 y1 y2 y3 y4 y5 y6, LeO (cleanselaw23_SurviveShifts.j0 k y0 y1 y2 y3 y4 y5 y6) (cleanselaw23_SurviveShifts.j0 (k + 1) y0 y1 y2 y3 y4 y5 y6)) ∧ (∀ y0 y1 y2 y3 y4 y5 y6 y7 y8, LeO (cleanselaw23_SurviveShifts.l0 k y0 y1 y2 y3 y4 y5 y6 y7 y8) (cleanselaw23_SurviveShifts.l0 (k + 1) y0 y1 y2 y3 y4 y5 y6 y7 y8))
  | 0 => ⟨fun _ _ _ _ _ _ _ r h => by simp [cleanselaw23_SurviveShifts.j0] at h, fun _ _ _ _ _ _ _ _ _ r h => by simp [cleanselaw23_SurviveShifts.l0] at h⟩
  | k + 1 => by
    obtain ⟨ih0, ih1⟩ := cleanselaw23_SurviveShifts.mono_l k
    refine ⟨?_, ?_⟩
    · intro y0 y1 y2 y3 y4 y5 y6
      unfold cleanselaw23_SurviveShifts.j0
      repeat' first
      | (with_reducible exact ih0 _ _ _ _ _ _ _)
      | (with_reducible exact ih1 _ _ _ _ _ _ _ _ _)
      | (with_reducible exact cleanselaw23_head.mono _)
      | (with_reducible exact cleanseref05_Ints.mono _ _ _)
      | (with_reducible exact cleanseref23_Few.mono _ _ _)
      | (with_reducible exact LeO.refl _)
      | (with_reducible exact LeO.none _)
      | (with_reducible refine LeO.ite ?_ ?_)
      | (with_reducible refine LeO.bind ?_ (fun _ => ?_))
      | exact ih0 _ _ _ _ _ _ _
      | exact ih1 _ _ _ _ _ _ _ _ _
      | exact cleanselaw23_head.mono _
      | exact cleanseref05_Ints.mono _ _ _
      | exact cleanseref23_Few.mono _ _ _
      | exact LeO.none _
      | refine LeO.ite ?_ ?_
      | refine LeO.bind ?_ (fun _ => ?_)
    · intro y0 y1 y2 y3 y4 y5 y6 y7 y8
      unfold cleanselaw23_SurviveShifts.l0
      repeat' first
      | (with_reducible exact ih0 _ _ _ _ _ _ _)
      | (with_reducible exact ih1 _ _ _ _ _ _ _ _ _)
      | (with_reducible exact cleanselaw23_head.mono _)
      | (with_reducible exact cleanseref05_Ints.mono _ _ _)
      | (with_reducible exact cleanseref23_Few.mono _ _ _)
      | (with_reducible exact LeO.refl _)
      | (with_reducible exact LeO.none _)
      | (with_reducible refine LeO.ite ?_ ?_)
      | (with_reducible refine LeO.bind ?_ (fun _ => ?_))
      | exact ih0 _ _ _ _ _ _ _
      | exact ih1 _ _ _ _ _ _ _ _ _
      | exact cleanselaw23_head.mono _
      | exact cleanseref05_Ints.mono _ _ _
      | exact cleanseref23_Few.mono _ _ _
      | exact LeO.none _
      | refine LeO.ite ?_ ?_
      | refine LeO.bind ?_ (fun _ => ?_)
theorem cleanselaw23_SurviveShifts.mono : ∀ a0 a1 a2 a3 a4 k, LeO (cleanselaw23_SurviveShifts.f k a0 a1 a2 a3 a4) (cleanselaw23_SurviveShifts.f (k + 1) a0 a1 a2 a3 a4) := by
  intro a0 a1 a2 a3 a4 k
  obtain ⟨ih0, ih1⟩ := cleanselaw23_SurviveShifts.mono_l k
  unfold cleanselaw23_SurviveShifts.f
  repeat' first
      | (with_reducible exact ih0 _ _ _ _ _ _ _)
      | (with_reducible exact ih1 _ _ _ _ _ _ _ _ _)
      | (with_reducible exact cleanselaw23_head.mono _)
      | (with_reducible exact cleanseref05_Ints.mono _ _ _)
      | (with_reducible exact cleanseref23_Few.mono _ _ _)
      | (with_reducible exact LeO.refl _)
      | (with_reducible exact LeO.none _)
      | (with_reducible refine LeO.ite ?_ ?_)
      | (with_reducible refine LeO.bind ?_ (fun _ => ?_))
      | exact ih0 _ _ _ _ _ _ _
      | exact ih1 _ _ _ _ _ _ _ _ _
      | exact cleanselaw23_head.mono _
      | exact cleanseref05_Ints.mono _ _ _
      | exact cleanseref23_Few.mono _ _ _
      | exact LeO.none _
      | refine LeO.ite ?_ ?_
      | refine LeO.bind ?_ (fun _ => ?_)
set_option maxHeartbeats 8000000 in
set_option maxRecDepth 100000 in
theorem cleanselaw23_SurviveShifts.calls (k : Nat) (a0 : Int) (A1 : Option Addr) (c1 : Nat) (l1 : List (S34)) (A2 : Option Addr) (c2 : Nat) (l2 : List Int) (a3 : Int) (a4 : Int) (r : Bool) (w : World) (hr1 : Kd.C k34 w A1 l1.length l1) (hc1 : l1.length ≤ c1) (hr2 : Kd.C (Kd.int .i64) w A2 l2.length l2) (hc2 : l2.length ≤ c2) (h : cleanselaw23_SurviveShifts.f k a0 l1 l2 a3 a4 = some r) :
    Calls Try.prog 9 #[.int .i64 a0, .slice A1 l1.length c1, .slice A2 l2.length c2, .int .i64 a3, .int .i64 a4] w fun e w' => e = .returned (.bool r) ∧ Below w.heap.size w w' := by
  have HR1 := Aside0.mk hr1
  have HC1 := Aside0.mk hc1
  clear hr1 hc1
  have HR2 := Aside0.mk hr2
  have HC2 := Aside0.mk hc2
  clear hr2 hc2
  have HB := Aside0.mk (Below.refl w.heap.size w)
  have H : ((cleanselaw23_head.f k).bind fun t418 => ((cleanseref23_Few.f k l1 30).bind fun t419 => (if t419 = true then (if (l2.length : Int) = (l1.length : Int) then (if a3 > 1000000000 then (cleanselaw23_SurviveShifts.j0 k a0 l1 l2 a3 a4 t418 true) else (if a3 < (-1000000000) then (cleanselaw23_SurviveShifts.j0 k a0 l1 l2 a3 a4 t418 true) else (if a4 > 1000000000 then (cleanselaw23_SurviveShifts.j0 k a0 l1 l2 a3 a4 t418 true) else (cleanselaw23_SurviveShifts.j0 k a0 l1 l2 a3 a4 t418 (decide (a4 < (-1000000000))))))) else (cleanselaw23_SurviveShifts.j0 k a0 l1 l2 a3 a4 t418 true)) else (cleanselaw23_SurviveShifts.j0 k a0 l1 l2 a3 a4 t418 true)))) = some r := h
  clear h
  replace H := Option.bind_eq_some_iff.mp H
  obtain ⟨t418, A60, H⟩ := H
  replace H : ((cleanseref23_Few.f k l1 30).bind fun t419 => (if t419 = true then (if (l2.length : Int) = (l1.length : Int) then (if a3 > 1000000000 then (cleanselaw23_SurviveShifts.j0 k a0 l1 l2 a3 a4 t418 true) else (if a3 < (-1000000000) then (cleanselaw23_SurviveShifts.j0 k a0 l1 l2 a3 a4 t418 true) else (if a4 > 1000000000 then (cleanselaw23_SurviveShifts.j0 k a0 l1 l2 a3 a4 t418 true) else (cleanselaw23_SurviveShifts.j0 k a0 l1 l2 a3 a4 t418 (decide (a4 < (-1000000000))))))) else (cleanselaw23_SurviveShifts.j0 k a0 l1 l2 a3 a4 t418 true)) else (cleanselaw23_SurviveShifts.j0 k a0 l1 l2 a3 a4 t418 true))) = some r := H
  have A6 := Aside0.mk A60
  clear A60
  have HC7 := Aside0.mk H
  clear H
  go_enter Try.func9, Try.ntmps9
  go_upto_region 2 with (first | ((with_reducible refine gate_callee (f := 10) rfl ?_); refine goesL_ (some 15) rfl rfl Try.func10 (by kernel_rfl) rfl #[] rfl (by (try simp only [List.map_toArray, List.map_cons, List.map_nil]); first | done | rfl | (simp only [List.length_drop, List.length_take]; rfl)) ?_; (with_reducible refine (cleanselaw23_head.calls k  t418 _ A6.out).mono ?_); rintro e w8 ⟨rfl, hb⟩; refine ⟨_, rfl, ?_⟩; have n0_ := Aside0.mk (below_step (by repeat (first | (with_reducible first | exact HB.out | apply below_alloc | apply pw_below_drewN | apply below_drew1) | exact HB.out)) hb); clear HB; have HB := n0_; clear n0_; (try clear hb); (try clear hb2); (try clear hk); (try clear hi)))
  (try simp only [Act.put, List.setIfInBounds_toArray, List.set_cons_zero, List.set_cons_succ])
  go_cut [41] (fun v41 wc => ∃ (kq : Nat) (x41_6 : Bool), v41 = .bool x41_6 ∧ Aside0 (cleanselaw23_SurviveShifts.j0 kq a0 l1 l2 a3 a4 t418 x41_6 = some r) ∧ Aside0 (kq ≤ k) ∧ Aside0 (Below w.heap.size w wc))
  case first =>
    have H := HC7.out
    clear HC7
    replace H := Option.bind_eq_some_iff.mp H
    obtain ⟨t419, A90, H⟩ := H
    replace H : (if t419 = true then (if (l2.length : Int) = (l1.length : Int) then (if a3 > 1000000000 then (cleanselaw23_SurviveShifts.j0 k a0 l1 l2 a3 a4 t418 true) else (if a3 < (-1000000000) then (cleanselaw23_SurviveShifts.j0 k a0 l1 l2 a3 a4 t418 true) else (if a4 > 1000000000 then (cleanselaw23_SurviveShifts.j0 k a0 l1 l2 a3 a4 t418 true) else (cleanselaw23_SurviveShifts.j0 k a0 l1 l2 a3 a4 t418 (decide (a4 < (-1000000000))))))) else (cleanselaw23_SurviveShifts.j0 k a0 l1 l2 a3 a4 t418 true)) else (cleanselaw23_SurviveShifts.j0 k a0 l1 l2 a3 a4 t418 true)) = some r := H
    have A9 := Aside0.mk A90
    clear A90
    by_cases c10 : t419 = true
    · subst c10
      have H1 : (if (l2.length : Int) = (l1.length : Int) then (if a3 > 1000000000 then (cleanselaw23_SurviveShifts.j0 k a0 l1 l2 a3 a4 t418 true) else (if a3 < (-1000000000) then (cleanselaw23_SurviveShifts.j0 k a0 l1 l2 a3 a4 t418 true) else (if a4 > 1000000000 then (cleanselaw23_SurviveShifts.j0 k a0 l1 l2 a3 a4 t418 true) else (cleanselaw23_SurviveShifts.j0 k a0 l1 l2 a3 a4 t418 (decide (a4 < (-1000000000))))))) else (cleanselaw23_SurviveShifts.j0 k a0 l1 l2 a3 a4 t418 true)) = some r := by rw [if_pos rfl] at H; exact H
      clear H
      have H := H1
      clear H1
      by_cases c11 : (l2.length : Int) = (l1.length : Int)
      · rw [if_pos c11] at H
        have c11b0 : ((l2.length : Int) == (l1.length : Int)) = true := beq_iff_eq.mpr c11
        have c11b1 : ((l2.length : Int) != (l1.length : Int)) = false := bne_eq_false_iff_eq.mpr c11
        have c11b2 : (l2.length == l1.length) = true := by first | simpa using c11 | (simp at c11 ⊢; omega)
        clear c11
        (first | rw [c11b0] | (simp only [i64_w, i32_w]; rw [c11b0]) | skip)
        by_cases c12 : a3 > 1000000000
        · rw [if_pos c12] at H
          have c12b0 : decide (1000000000 < a3) = true := decide_eq_true c12
          clear c12
          have H' := Aside0.mk H
          clear H
          go_wp2_with (first | ((with_reducible refine gate_callee (f := 11) rfl ?_); refine goesL_ (some 17) rfl rfl Try.func11 (by kernel_rfl) rfl #[.slice A1 l1.length c1, .int .i64 30] rfl (by (try simp only [List.map_toArray, List.map_cons, List.map_nil]); first | done | rfl | (simp only [List.length_drop, List.length_take]; rfl)) ?_; (with_reducible refine (cleanseref23_Few.calls k _ _ l1 30 true _ ?side1 ?side2 A9.out).mono ?_); (case side1 => repeat (first | exact (Kd.C_below HR1.out HB.out) | (with_reducible refine Kd.C_alloc ?_ _) | (with_reducible refine Kd.C_drewN ?_ _) | (with_reducible refine Kd.C_drew ?_))); (case side2 => exact HC1.out); rintro e w' ⟨rfl, ⟨nd, rfl⟩⟩; refine ⟨_, rfl, ?_⟩))
          go_meet
          case rel => exact ⟨_, (true), (by first | rfl | (simp; done) | (simp [*]; done)), H', ⟨by first | omega | exact Nat.le_refl _⟩, ⟨by repeat (first | (with_reducible first | exact HB.out | apply below_alloc | apply pw_below_drewN | apply below_drew1) | exact HB.out)⟩⟩
        · rw [if_neg c12] at H
          have c12b0 : decide (1000000000 < a3) = false := decide_eq_false c12
          clear c12
          by_cases c13 : a3 < (-1000000000)
          · rw [if_pos c13] at H
            have c13b0 : decide (a3 < (-1000000000)) = true := decide_eq_true c13
            clear c13
            have H' := Aside0.mk H
            clear H
            go_wp2_with (first | ((with_reducible refine gate_callee (f := 11) rfl ?_); refine goesL_ (some 17) rfl rfl Try.func11 (by kernel_rfl) rfl #[.slice A1 l1.length c1, .int .i64 30] rfl (by (try simp only [List.map_toArray, List.map_cons, List.map_nil]); first | done | rfl | (simp only [List.length_drop, List.length_take]; rfl)) ?_; (with_reducible refine (cleanseref23_Few.calls k _ _ l1 30 true _ ?side1 ?side2 A9.out).mono ?_); (case side1 => repeat (first | exact (Kd.C_below HR1.out HB.out) | (with_reducible refine Kd.C_alloc ?_ _) | (with_reducible refine Kd.C_drewN ?_ _) | (with_reducible refine Kd.C_drew ?_))); (case side2 => exact HC1.out); rintro e w' ⟨rfl, ⟨nd, rfl⟩⟩; refine ⟨_, rfl, ?_⟩))
            go_meet
            case rel => exact ⟨_, (true), (by first | rfl | (simp; done) | (simp [*]; done)), H', ⟨by first | omega | exact Nat.le_refl _⟩, ⟨by repeat (first | (with_reducible first | exact HB.out | apply below_alloc | apply pw_below_drewN | apply below_drew1) | exact HB.out)⟩⟩
          · rw [if_neg c13] at H
            have c13b0 : decide (a3 < (-1000000000)) = false := decide_eq_false c13
            clear c13
            by_cases c14 : a4 > 1000000000
            · rw [if_pos c14] at H
              have c14b0 : decide (1000000000 < a4) = true := decide_eq_true c14
              clear c14
              have H' := Aside0.mk H
              clear H
              go_wp2_with (first | ((with_reducible refine gate_callee (f := 11) rfl ?_); refine goesL_ (some 17) rfl rfl Try.func11 (by kernel_rfl) rfl #[.slice A1 l1.length c1, .int .i64 30] rfl (by (try simp only [List.map_toArray, List.map_cons, List.map_nil]); first | done | rfl | (simp only [List.length_drop, List.length_take]; rfl)) ?_; (with_reducible refine (cleanseref23_Few.calls k _ _ l1 30 true _ ?side1 ?side2 A9.out).mono ?_); (case side1 => repeat (first | exact (Kd.C_below HR1.out HB.out) | (with_reducible refine Kd.C_alloc ?_ _) | (with_reducible refine Kd.C_drewN ?_ _) | (with_reducible refine Kd.C_drew ?_))); (case side2 => exact HC1.out); rintro e w' ⟨rfl, ⟨nd, rfl⟩⟩; refine ⟨_, rfl, ?_⟩))
              go_meet
              case rel => exact ⟨_, (true), (by first | rfl | (simp; done) | (simp [*]; done)), H', ⟨by first | omega | exact Nat.le_refl _⟩, ⟨by repeat (first | (with_reducible first | exact HB.out | apply below_alloc | apply pw_below_drewN | apply below_drew1) | exact HB.out)⟩⟩
            · rw [if_neg c14] at H
              have c14b0 : decide (1000000000 < a4) = false := decide_eq_false c14
              clear c14
              have H' := Aside0.mk H
              clear H
              go_wp2_with (first | ((with_reducible refine gate_callee (f := 11) rfl ?_); refine goesL_ (some 17) rfl rfl Try.func11 (by kernel_rfl) rfl #[.slice A1 l1.length c1, .int .i64 30] rfl (by (try simp only [List.map_toArray, List.map_cons, List.map_nil]); first | done | rfl | (simp only [List.length_drop, List.length_take]; rfl)) ?_; (with_reducible refine (cleanseref23_Few.calls k _ _ l1 30 true _ ?side1 ?side2 A9.out).mono ?_); (case side1 => repeat (first | exact (Kd.C_below HR1.out HB.out) | (with_reducible refine Kd.C_alloc ?_ _) | (with_reducible refine Kd.C_drewN ?_ _) | (with_reducible refine Kd.C_drew ?_))); (case side2 => exact HC1.out); rintro e w' ⟨rfl, ⟨nd, rfl⟩⟩; refine ⟨_, rfl, ?_⟩))
              go_meet
              case rel => exact ⟨_, (decide (a4 < (-1000000000))), (by first | rfl | (simp; done) | (simp [*]; done)), H', ⟨by first | omega | exact Nat.le_refl _⟩, ⟨by repeat (first | (with_reducible first | exact HB.out | apply below_alloc | apply pw_below_drewN | apply below_drew1) | exact HB.out)⟩⟩
      · rw [if_neg c11] at H
        have c11b0 : ((l2.length : Int) == (l1.length : Int)) = false := beq_eq_false_iff_ne.mpr c11
        have c11b1 : ((l2.length : Int) != (l1.length : Int)) = true := bne_iff_ne.mpr c11
        have c11b2 : (l2.length == l1.length) = false := by first | simpa using c11 | (simp at c11 ⊢; omega)
        (first | rw [c11b0] | (simp only [i64_w, i32_w]; rw [c11b0]) | skip)
        have H' := Aside0.mk H
        clear H
        go_wp2_with (first | ((with_reducible refine gate_callee (f := 11) rfl ?_); refine goesL_ (some 17) rfl rfl Try.func11 (by kernel_rfl) rfl #[.slice A1 l1.length c1, .int .i64 30] rfl (by (try simp only [List.map_toArray, List.map_cons, List.map_nil]); first | done | rfl | (simp only [List.length_drop, List.length_take]; rfl)) ?_; (with_reducible refine (cleanseref23_Few.calls k _ _ l1 30 true _ ?side1 ?side2 A9.out).mono ?_); (case side1 => repeat (first | exact (Kd.C_below HR1.out HB.out) | (with_reducible refine Kd.C_alloc ?_ _) | (with_reducible refine Kd.C_drewN ?_ _) | (with_reducible refine Kd.C_drew ?_))); (case side2 => exact HC1.out); rintro e w' ⟨rfl, ⟨nd, rfl⟩⟩; refine ⟨_, rfl, ?_⟩))
        go_meet
        case rel => exact ⟨_, (true), (by first | rfl | (simp; done) | (simp [*]; done)), H', ⟨by first | omega | exact Nat.le_refl _⟩, ⟨by repeat (first | (with_reducible first | exact HB.out | apply below_alloc | apply pw_below_drewN | apply below_drew1) | exact HB.out)⟩⟩
    · replace c10 := Bool.eq_false_iff.mpr c10
      subst c10
      have H1 : (cleanselaw23_SurviveShifts.j0 k a0 l1 l2 a3 a4 t418 true) = some r := by rw [if_neg (show ¬ (false = true) by decide)] at H; exact H
      clear H
      have H := H1
      clear H1
      have H' := Aside0.mk H
      clear H
      go_wp2_with (first | ((with_reducible refine gate_callee (f := 11) rfl ?_); refine goesL_ (some 17) rfl rfl Try.func11 (by kernel_rfl) rfl #[.slice A1 l1.length c1, .int .i64 30] rfl (by (try simp only [List.map_toArray, List.map_cons, List.map_nil]); first | done | rfl | (simp only [List.length_drop, List.length_take]; rfl)) ?_; (with_reducible refine (cleanseref23_Few.calls k _ _ l1 30 false _ ?side1 ?side2 A9.out).mono ?_); (case side1 => repeat (first | exact (Kd.C_below HR1.out HB.out) | (with_reducible refine Kd.C_alloc ?_ _) | (with_reducible refine Kd.C_drewN ?_ _) | (with_reducible refine Kd.C_drew ?_))); (case side2 => exact HC1.out); rintro e w' ⟨rfl, ⟨nd, rfl⟩⟩; refine ⟨_, rfl, ?_⟩))
      go_meet
      case rel => exact ⟨_, (true), (by first | rfl | (simp; done) | (simp [*]; done)), H', ⟨by first | omega | exact Nat.le_refl _⟩, ⟨by repeat (first | (with_reducible first | exact HB.out | apply below_alloc | apply pw_below_drewN | apply below_drew1) | exact HB.out)⟩⟩
  case rest =>
    clear HC7
    try clear c1
    try clear c2
    try clear p2
    try clear c9
    try clear c10
    try clear c11
    try clear c11b0
    try clear c11b1
    try clear c11b2
    try clear c12
    try clear c12b0
    try clear c13
    try clear c13b0
    try clear c14
    try clear c14b0
    obtain ⟨kq, x41_6, rfl, HA, HJ6, HB⟩ := hcut
    cases kq with
    | zero => exact absurd HA.out (by simp [cleanselaw23_SurviveShifts.j0])
    | succ kj6 =>
      have H := HA.out
      clear HA
      simp only [cleanselaw23_SurviveShifts.j0] at H
      by_cases c15 : x41_6 = true
      · subst c15
        have H1 : (some t418) = some r := by rw [if_pos rfl] at H; exact H
        clear H
        have H := H1
        clear H1
        obtain rfl := Option.some.inj H
        go_wp2
        go_ret
        exact ⟨by first | rfl | (simp [errW_none, errW_some] <;> rfl) | (simp [*, errW_none, errW_some] <;> rfl), by repeat (first | (with_reducible first | exact HB.out | apply below_alloc | apply pw_below_drewN | apply below_drew1) | exact HB.out)⟩
      · replace c15 := Bool.eq_false_iff.mpr c15
        subst c15
        have H1 : ((some (([] : List (S34)) : List (S34))).bind fun y420 => (if y420.length + l1.length < 2932031007402 then ((some (([] : List Int) : List Int)).bind fun y426 => (if y426.length + l2.length < 17592186044416 then (cleanselaw23_SurviveShifts.l0 kj6 a0 l1 l2 a3 a4 t418 (y420 ++ l1) (y426 ++ l2) 0) else (none))) else (none))) = some r := by rw [if_neg (show ¬ (false = true) by decide)] at H; exact H
        clear H
        have H := H1
        clear H1
        obtain ⟨y420, hy420⟩ : ∃ y_ : List (S34), y_ = (([] : List (S34))) := ⟨_, rfl⟩
        replace H : (if y420.length + l1.length < 2932031007402 then ((some (([] : List Int) : List Int)).bind fun y426 => (if y426.length + l2.length < 17592186044416 then (cleanselaw23_SurviveShifts.l0 kj6 a0 l1 l2 a3 a4 t418 (y420 ++ l1) (y426 ++ l2) 0) else (none))) else (none)) = some r := by first | (rw [hy420]; with_reducible exact H) | (have H2_ := (Option.bind_some _ _).symm.trans H; rw [hy420]; with_reducible exact H2_) | (have H2_ := (Option.bind_some _ _).symm.trans H; with_reducible exact H2_) | with_reducible exact H | (rw [hy420]; exact H) | exact H
        have Ny420 := Aside0.mk hy420
        clear hy420
        by_cases c16 : y420.length + l1.length < 2932031007402
        · rw [if_pos c16] at H
          have LMc16 := Aside0.mk c16
          clear c16
          obtain ⟨y423, hy423⟩ : ∃ y_ : List (S34), y_ = (y420 ++ l1) := ⟨_, rfl⟩
          replace H : ((some (([] : List Int) : List Int)).bind fun y426 => (if y426.length + l2.length < 17592186044416 then (cleanselaw23_SurviveShifts.l0 kj6 a0 l1 l2 a3 a4 t418 y423 (y426 ++ l2) 0) else (none))) = some r := by first | (rw [hy423]; with_reducible exact H) | (have H2_ := (Option.bind_some _ _).symm.trans H; rw [hy423]; with_reducible exact H2_) | (have H2_ := (Option.bind_some _ _).symm.trans H; with_reducible exact H2_) | with_reducible exact H | (rw [hy423]; exact H) | exact H
          have Ny423 := Aside0.mk hy423
          clear hy423
          obtain ⟨y426, hy426⟩ : ∃ y_ : List Int, y_ = (([] : List Int)) := ⟨_, rfl⟩
          replace H : (if y426.length + l2.length < 17592186044416 then (cleanselaw23_SurviveShifts.l0 kj6 a0 l1 l2 a3 a4 t418 y423 (y426 ++ l2) 0) else (none)) = some r := by first | (rw [hy426]; with_reducible exact H) | (have H2_ := (Option.bind_some _ _).symm.trans H; rw [hy426]; with_reducible exact H2_) | (have H2_ := (Option.bind_some _ _).symm.trans H; with_reducible exact H2_) | with_reducible exact H | (rw [hy426]; exact H) | exact H
          have Ny426 := Aside0.mk hy426
          clear hy426
          by_cases c17 : y426.length + l2.length < 17592186044416
          · rw [if_pos c17] at H
            have LMc17 := Aside0.mk c17
            clear c17
            obtain ⟨y429, hy429⟩ : ∃ y_ : List Int, y_ = (y426 ++ l2) := ⟨_, rfl⟩
            replace H : (cleanselaw23_SurviveShifts.l0 kj6 a0 l1 l2 a3 a4 t418 y423 y429 0) = some r := by first | (rw [hy429]; with_reducible exact H) | (have H2_ := (Option.bind_some _ _).symm.trans H; rw [hy429]; with_reducible exact H2_) | (have H2_ := (Option.bind_some _ _).symm.trans H; with_reducible exact H2_) | with_reducible exact H | (rw [hy429]; exact H) | exact H
            have Ny429 := Aside0.mk hy429
            clear hy429
            have H' := Aside0.mk H
            clear H
            go_wp2_with (first | ((with_reducible refine gate_dst (N := 43) rfl ?_); (try (refine gate_guard (by rfl) ?_; dsimp only)); refine Kd.R_lit k34 _ 34 ?hg (N := 43) ?hd (xs := ([] : List (S34))) (inner := []) (ok := fun _ => True) (okp := fun _ => True) ?hr ?hp (fun _ hk => hk) trivial (Below.refl _ _) (Nat.le_refl _) (by simp) ?_; (case hd => rfl); (case hg => rfl); (case hr => first | (go_simp; done) | (go_simp; rfl)); (case hp => exact (Reps.none _ _)); intro v421 w18 ho19 hb hg_ hnew_; clear hg_ hnew_; (first | rw [← Ny420.out] at ho19 | (simp only [Int.reduceToNat] at ho19; rw [← Ny420.out] at ho19)); have n0_ := Aside0.mk (Kd.R_lower ho19 (below_size (by repeat (first | (with_reducible first | exact HB.out | apply below_alloc | apply pw_below_drewN | apply below_drew1) | exact HB.out)))); have n1_ := Aside0.mk (below_step (by repeat (first | (with_reducible first | exact HB.out | apply below_alloc | apply pw_below_drewN | apply below_drew1) | exact HB.out)) hb); clear HB; have HO422 := n0_; have HB := n1_; clear n0_ n1_; clear hb ho19) | ((with_reducible refine gate_builtin (b := .append) (xs := #[.tmp 43, .tmp 44]) rfl ?_); (try (refine gate_guard (by rfl) ?_; dsimp only)); at_builtin; refine Kd.R_append_rows k34 (w0 := w) w.heap.size rfl (.tmp 43) (.tmp 44) 22 34 (.agg #[(.int .i64 0), (.int .i64 0), (.string ⟨#[]⟩), (.int .i64 0), (.int .i64 0)]) 48 rfl Try.underlying22 info34 rfl (by decide) (by omega) v421 y420 l1 _ _ _ (fun _ => True) (fun _ => False) rfl rfl ?aO ?aR (fun _ _ h => h) (fun _ h => h.elim) ?aF ?aB ?aS ?aL ?_; (case aR => repeat (first | exact (Kd.C_below HR1.out HB.out) | (with_reducible refine Kd.C_alloc ?_ _) | (with_reducible refine Kd.C_drewN ?_ _) | (with_reducible refine Kd.C_drew ?_))); (case aB => exact (by repeat (first | (with_reducible first | exact HB.out | apply below_alloc | apply pw_below_drewN | apply below_drew1) | exact HB.out))); (case aF => exact (fun _ _ => trivial)); (case aO => exact (by (with_reducible repeat (first | apply Kd.R_alloc | apply Kd.R_drewN | apply Kd.R_drew)); exact HO422.out)); (case aS => exact (below_size (by repeat (first | (with_reducible first | exact HB.out | apply below_alloc | apply pw_below_drewN | apply below_drew1) | exact HB.out)))); (case aL => have := LMc16.out; omega); intro v424 w20 ho hb hg hat; rw [← Ny423.out] at ho; have n0_ := Aside0.mk (hb); have n1_ := Aside0.mk (ho); clear HB; clear HO422; have HB := n0_; have HO425 := n1_; clear n0_ n1_; clear ho hb hg hat) | ((with_reducible refine gate_dst (N := 46) rfl ?_); (try (refine gate_guard (by rfl) ?_; dsimp only)); refine Kd.R_lit (Kd.int .i64) _ 3 ?hg (N := 46) ?hd (xs := ([] : List Int)) (inner := []) (ok := fun _ => True) (okp := fun _ => True) ?hr ?hp (fun _ hk => hk) trivial (Below.refl _ _) (Nat.le_refl _) (by simp) ?_; (case hd => rfl); (case hg => rfl); (case hr => first | (go_simp; done) | (go_simp; rfl)); (case hp => exact (Reps.none _ _)); intro v427 w21 ho22 hb hg_ hnew_; clear hg_ hnew_; (first | rw [← Ny426.out] at ho22 | (simp only [Int.reduceToNat] at ho22; rw [← Ny426.out] at ho22)); have n0_ := Aside0.mk (Kd.R_below (by (with_reducible repeat (first | apply Kd.R_alloc | apply Kd.R_drewN | apply Kd.R_drew)); exact HO425.out) hb); have n1_ := Aside0.mk (Kd.R_lower ho22 (below_size (by repeat (first | (with_reducible first | exact HB.out | apply below_alloc | apply pw_below_drewN | apply below_drew1) | exact HB.out)))); have n2_ := Aside0.mk (below_step (by repeat (first | (with_reducible first | exact HB.out | apply below_alloc | apply pw_below_drewN | apply below_drew1) | exact HB.out)) hb); clear HO425; clear HB; have HO425 := n0_; have HO428 := n1_; have HB := n2_; clear n0_ n1_ n2_; clear hb ho22) | ((with_reducible refine gate_builtin (b := .append) (xs := #[.tmp 46, .tmp 47]) rfl ?_); (try (refine gate_guard (by rfl) ?_; dsimp only)); at_builtin; refine Kd.R_append_rows (Kd.int .i64) (w0 := w) w.heap.size rfl (.tmp 46) (.tmp 47) 23 3 (.int .i64 0) 8 rfl Try.underlying23 info3 rfl (by decide) (by omega) v427 y426 l2 _ _ _ (fun _ => True) (fun _ => False) rfl rfl ?aO ?aR (fun _ _ h => h) (fun _ h => h.elim) ?aF ?aB ?aS ?aL ?_; (case aR => repeat (first | exact (Kd.C_below HR2.out HB.out) | (with_reducible refine Kd.C_alloc ?_ _) | (with_reducible refine Kd.C_drewN ?_ _) | (with_reducible refine Kd.C_drew ?_))); (case aB => exact (by repeat (first | (with_reducible first | exact HB.out | apply below_alloc | apply pw_below_drewN | apply below_drew1) | exact HB.out))); (case aF => exact (fun _ _ => trivial)); (case aO => exact (by (with_reducible repeat (first | apply Kd.R_alloc | apply Kd.R_drewN | apply Kd.R_drew)); exact HO428.out)); (case aS => exact (below_size (by repeat (first | (with_reducible first | exact HB.out | apply below_alloc | apply pw_below_drewN | apply below_drew1) | exact HB.out)))); (case aL => have := LMc17.out; omega); intro v430 w23 ho hb hg hat; rw [← Ny429.out] at ho; have n0_ := Aside0.mk (Kd.R_over' (by (with_reducible repeat (first | apply Kd.R_alloc | apply Kd.R_drewN | apply Kd.R_drew)); exact HO425.out) (Kd.R_typed (by (with_reducible repeat (first | apply Kd.R_alloc | apply Kd.R_drewN | apply Kd.R_drew)); exact HO428.out)) (by decide) hg); have n1_ := Aside0.mk (hb); have n2_ := Aside0.mk (ho); clear HO425; clear HB; clear HO428; have HO425 := n0_; have HB := n1_; have HO431 := n2_; clear n0_ n1_ n2_; clear ho hb hg hat))
            go_loopg [14] kj6 (fun kq v14 w' => ∃ (x12_2 : List (S34)) (x13_2 : List Int) (x14_2 : Int), v14 = .int .i64 x14_2 ∧ Aside0 (cleanselaw23_SurviveShifts.l0 kq a0 l1 l2 a3 a4 t418 x12_2 x13_2 x14_2 = some r) ∧ Aside0 (kq ≤ kj6) ∧ Aside0 (Kd.R k34 34 w' w.heap.size (fun _ => True) v424 x12_2) ∧ Aside0 (Kd.R (Kd.int .i64) 3 w' w.heap.size (fun _ => True) v430 x13_2) ∧ Aside0 (Below w.heap.size w w'))
            case atStart => exact ⟨(y423), (y429), (0), (by first | rfl | (simp; done) | (simp [*]; done)), H', ⟨Nat.le_refl _⟩, ⟨by (with_reducible repeat (first | apply Kd.R_alloc | apply Kd.R_drewN | apply Kd.R_drew)); exact HO425.out⟩, ⟨by (with_reducible repeat (first | apply Kd.R_alloc | apply Kd.R_drewN | apply Kd.R_drew)); exact HO431.out⟩, ⟨by repeat (first | (with_reducible first | exact HB.out | apply below_alloc | apply pw_below_drewN | apply below_drew1) | exact HB.out)⟩⟩
            case round =>
              clear H'
              try clear c1
              try clear c2
              try clear p2
              try clear c9
              try clear c10
              try clear c11
              try clear c11b0
              try clear c11b1
              try clear c11b2
              try clear c12
              try clear c12b0
              try clear c13
              try clear c13b0
              try clear c14
              try clear c14b0
              try clear c15
              try clear c16
              try clear c17
              try clear p2
              obtain ⟨x12_2, x13_2, x14_2, rfl, HA, HK2, HO_12, HO_13, HB⟩ := hrel
              cases gk with
              | zero => exact absurd HA.out (by simp [cleanselaw23_SurviveShifts.l0])
              | succ k2 =>
                have H := HA.out
                clear HA
                simp only [cleanselaw23_SurviveShifts.l0] at H
                by_cases c24 : x14_2 < (x12_2.length : Int)
                · rw [if_pos c24] at H
                  have c24b0 : decide (x14_2 < (x12_2.length : Int)) = true := decide_eq_true c24
                  clear c24
                  by_cases c25 : 0 ≤ x14_2
                  · rw [if_pos c25] at H
                    have c25b0 : decide (0 ≤ x14_2) = true := decide_eq_true c25
                    clear c25
                    by_cases c26 : ((rd_T34 x12_2 x14_2).f2) > 1000000000
                    · rw [if_pos c26] at H
                      have c26b0 : decide (1000000000 < ((rd_T34 x12_2 x14_2).f2)) = true := decide_eq_true c26
                      clear c26
                      obtain rfl := Option.some.inj H
                      obtain ⟨Ao27, co27, eo27⟩ := Kd.R_slice HO_12.out
                      subst eo27
                      have p432 : 0 ≤ (x14_2 : Int) := of_decide_eq_true (by first | (with_reducible assumption) | assumption)
                      have q432 : x14_2 < (x12_2.length : Int) := of_decide_eq_true (by first | (with_reducible assumption) | assumption)
                      obtain ⟨ad432, e432, hx432_0, hx432_1, hx432_2, hx432_3, hx432_4⟩ := at_T34 (Kd.R_reads' HO_12.out).2.2 x14_2 p432 q432
                      cases e432
                      replace p432 := eq_true p432
                      replace q432 := eq_true q432
                      go_wp2
                      go_ret
                      exact ⟨by first | rfl | (simp [errW_none, errW_some] <;> rfl) | (simp [*, errW_none, errW_some] <;> rfl), by repeat (first | (with_reducible first | exact HB.out | apply below_alloc | apply pw_below_drewN | apply below_drew1) | exact HB.out)⟩
                    · rw [if_neg c26] at H
                      have c26b0 : decide (1000000000 < ((rd_T34 x12_2 x14_2).f2)) = false := decide_eq_false c26
                      clear c26
                      by_cases c28 : ((rd_T34 x12_2 x14_2).f2) < (-1000000000)
                      · rw [if_pos c28] at H
                        have c28b0 : decide (((rd_T34 x12_2 x14_2).f2) < (-1000000000)) = true := decide_eq_true c28
                        clear c28
                        obtain rfl := Option.some.inj H
                        obtain ⟨Ao29, co29, eo29⟩ := Kd.R_slice HO_12.out
                        subst eo29
                        have p432 : 0 ≤ (x14_2 : Int) := of_decide_eq_true (by first | (with_reducible assumption) | assumption)
                        have q432 : x14_2 < (x12_2.length : Int) := of_decide_eq_true (by first | (with_reducible assumption) | assumption)
                        obtain ⟨ad432, e432, hx432_0, hx432_1, hx432_2, hx432_3, hx432_4⟩ := at_T34 (Kd.R_reads' HO_12.out).2.2 x14_2 p432 q432
                        cases e432
                        replace p432 := eq_true p432
                        replace q432 := eq_true q432
                        have p433 : 0 ≤ (x14_2 : Int) := of_decide_eq_true (by first | (with_reducible assumption) | assumption)
                        have q433 : x14_2 < (x12_2.length : Int) := of_decide_eq_true (by first | (with_reducible assumption) | assumption)
                        obtain ⟨ad433, e433, hx433_0, hx433_1, hx433_2, hx433_3, hx433_4⟩ := at_T34 (Kd.R_reads' HO_12.out).2.2 x14_2 p433 q433
                        obtain rfl : ad432 = ad433 := (by injection e433)
                        replace p433 := eq_true p433
                        replace q433 := eq_true q433
                        go_wp2
                        go_ret
                        exact ⟨by first | rfl | (simp [errW_none, errW_some] <;> rfl) | (simp [*, errW_none, errW_some] <;> rfl), by repeat (first | (with_reducible first | exact HB.out | apply below_alloc | apply pw_below_drewN | apply below_drew1) | exact HB.out)⟩
                      · rw [if_neg c28] at H
                        have c28b0 : decide (((rd_T34 x12_2 x14_2).f2) < (-1000000000)) = false := decide_eq_false c28
                        clear c28
                        by_cases c30 : x14_2 < (x13_2.length : Int)
                        · rw [if_pos c30] at H
                          have c30b0 : decide (x14_2 < (x13_2.length : Int)) = true := decide_eq_true c30
                          clear c30
                          by_cases c31 : (rd x13_2 x14_2) > 1000000000
                          · rw [if_pos c31] at H
                            have c31b0 : decide (1000000000 < (rd x13_2 x14_2)) = true := decide_eq_true c31
                            clear c31
                            obtain rfl := Option.some.inj H
                            obtain ⟨Ao32, co32, eo32⟩ := Kd.R_slice HO_12.out
                            subst eo32
                            have p432 : 0 ≤ (x14_2 : Int) := of_decide_eq_true (by first | (with_reducible assumption) | assumption)
                            have q432 : x14_2 < (x12_2.length : Int) := of_decide_eq_true (by first | (with_reducible assumption) | assumption)
                            obtain ⟨ad432, e432, hx432_0, hx432_1, hx432_2, hx432_3, hx432_4⟩ := at_T34 (Kd.R_reads' HO_12.out).2.2 x14_2 p432 q432
                            cases e432
                            replace p432 := eq_true p432
                            replace q432 := eq_true q432
                            have p433 : 0 ≤ (x14_2 : Int) := of_decide_eq_true (by first | (with_reducible assumption) | assumption)
                            have q433 : x14_2 < (x12_2.length : Int) := of_decide_eq_true (by first | (with_reducible assumption) | assumption)
                            obtain ⟨ad433, e433, hx433_0, hx433_1, hx433_2, hx433_3, hx433_4⟩ := at_T34 (Kd.R_reads' HO_12.out).2.2 x14_2 p433 q433
                            obtain rfl : ad432 = ad433 := (by injection e433)
                            replace p433 := eq_true p433
                            replace q433 := eq_true q433
                            obtain ⟨Ao33, co33, eo33⟩ := Kd.R_slice HO_13.out
                            subst eo33
                            have p434 : 0 ≤ (x14_2 : Int) := of_decide_eq_true (by first | (with_reducible assumption) | assumption)
                            have q434 : x14_2 < (x13_2.length : Int) := of_decide_eq_true (by first | (with_reducible assumption) | assumption)
                            obtain ⟨ad434, e434, hx434_0⟩ := Kd.at_int (Kd.R_reads' HO_13.out).2.2 x14_2 p434 q434
                            cases e434
                            replace p434 := eq_true p434
                            replace q434 := eq_true q434
                            go_wp2
                            go_ret
                            exact ⟨by first | rfl | (simp [errW_none, errW_some] <;> rfl) | (simp [*, errW_none, errW_some] <;> rfl), by repeat (first | (with_reducible first | exact HB.out | apply below_alloc | apply pw_below_drewN | apply below_drew1) | exact HB.out)⟩
                          · rw [if_neg c31] at H
                            have c31b0 : decide (1000000000 < (rd x13_2 x14_2)) = false := decide_eq_false c31
                            clear c31
                            by_cases c34 : (rd x13_2 x14_2) < (-1000000000)
                            · rw [if_pos c34] at H
                              have c34b0 : decide ((rd x13_2 x14_2) < (-1000000000)) = true := decide_eq_true c34
                              clear c34
                              obtain rfl := Option.some.inj H
                              obtain ⟨Ao35, co35, eo35⟩ := Kd.R_slice HO_12.out
                              subst eo35
                              have p432 : 0 ≤ (x14_2 : Int) := of_decide_eq_true (by first | (with_reducible assumption) | assumption)
                              have q432 : x14_2 < (x12_2.length : Int) := of_decide_eq_true (by first | (with_reducible assumption) | assumption)
                              obtain ⟨ad432, e432, hx432_0, hx432_1, hx432_2, hx432_3, hx432_4⟩ := at_T34 (Kd.R_reads' HO_12.out).2.2 x14_2 p432 q432
                              cases e432
                              replace p432 := eq_true p432
                              replace q432 := eq_true q432
                              have p433 : 0 ≤ (x14_2 : Int) := of_decide_eq_true (by first | (with_reducible assumption) | assumption)
                              have q433 : x14_2 < (x12_2.length : Int) := of_decide_eq_true (by first | (with_reducible assumption) | assumption)
                              obtain ⟨ad433, e433, hx433_0, hx433_1, hx433_2, hx433_3, hx433_4⟩ := at_T34 (Kd.R_reads' HO_12.out).2.2 x14_2 p433 q433
                              obtain rfl : ad432 = ad433 := (by injection e433)
                              replace p433 := eq_true p433
                              replace q433 := eq_true q433
                              obtain ⟨Ao36, co36, eo36⟩ := Kd.R_slice HO_13.out
                              subst eo36
                              have p434 : 0 ≤ (x14_2 : Int) := of_decide_eq_true (by first | (with_reducible assumption) | assumption)
                              have q434 : x14_2 < (x13_2.length : Int) := of_decide_eq_true (by first | (with_reducible assumption) | assumption)
                              obtain ⟨ad434, e434, hx434_0⟩ := Kd.at_int (Kd.R_reads' HO_13.out).2.2 x14_2 p434 q434
                              cases e434
                              replace p434 := eq_true p434
                              replace q434 := eq_true q434
                              have p435 : 0 ≤ (x14_2 : Int) := of_decide_eq_true (by first | (with_reducible assumption) | assumption)
                              have q435 : x14_2 < (x13_2.length : Int) := of_decide_eq_true (by first | (with_reducible assumption) | assumption)
                              obtain ⟨ad435, e435, hx435_0⟩ := Kd.at_int (Kd.R_reads' HO_13.out).2.2 x14_2 p435 q435
                              obtain rfl : ad434 = ad435 := (by injection e435)
                              replace p435 := eq_true p435
                              replace q435 := eq_true q435
                              go_wp2
                              go_ret
                              exact ⟨by first | rfl | (simp [errW_none, errW_some] <;> rfl) | (simp [*, errW_none, errW_some] <;> rfl), by repeat (first | (with_reducible first | exact HB.out | apply below_alloc | apply pw_below_drewN | apply below_drew1) | exact HB.out)⟩
                            · rw [if_neg c34] at H
                              have c34b0 : decide ((rd x13_2 x14_2) < (-1000000000)) = false := decide_eq_false c34
                              clear c34
                              obtain ⟨y437, hy437⟩ : ∃ y_ : List (S34), y_ = (x12_2.set (x14_2 : Int).toNat (⟨(⟨(rd_T34 x12_2 x14_2).f0.f0, (rd_T34 x12_2 x14_2).f0.f1, (rd_T34 x12_2 x14_2).f0.f2⟩ : S32), (rd_T34 x12_2 x14_2).f1, wrap64 (((rd_T34 x12_2 x14_2).f2) + a4)⟩ : S34)) := ⟨_, rfl⟩
                              replace H : (cleanselaw23_SurviveShifts.l0 k2 a0 l1 l2 a3 a4 t418 y437 (x13_2.set (x14_2 : Int).toNat (wrap64 ((rd x13_2 x14_2) + a3))) (wrap64 (x14_2 + 1))) = some r := by first | (rw [hy437]; with_reducible exact H) | (have H2_ := (Option.bind_some _ _).symm.trans H; rw [hy437]; with_reducible exact H2_) | (have H2_ := (Option.bind_some _ _).symm.trans H; with_reducible exact H2_) | with_reducible exact H | (rw [hy437]; exact H) | exact H
                              have Ny437 := Aside0.mk hy437
                              clear hy437
                              obtain ⟨y439, hy439⟩ : ∃ y_ : List Int, y_ = (x13_2.set (x14_2 : Int).toNat (wrap64 ((rd x13_2 x14_2) + a3))) := ⟨_, rfl⟩
                              replace H : (cleanselaw23_SurviveShifts.l0 k2 a0 l1 l2 a3 a4 t418 y437 y439 (wrap64 (x14_2 + 1))) = some r := by first | (rw [hy439]; with_reducible exact H) | (have H2_ := (Option.bind_some _ _).symm.trans H; rw [hy439]; with_reducible exact H2_) | (have H2_ := (Option.bind_some _ _).symm.trans H; with_reducible exact H2_) | with_reducible exact H | (rw [hy439]; exact H) | exact H
                              have Ny439 := Aside0.mk hy439
                              clear hy439
                              have H' := Aside0.mk H
                              clear H
                              obtain ⟨Ao39, co39, eo39⟩ := Kd.R_slice HO_12.out
                              subst eo39
                              have p432 : 0 ≤ (x14_2 : Int) := of_decide_eq_true (by first | (with_reducible assumption) | assumption)
                              have q432 : x14_2 < (x12_2.length : Int) := of_decide_eq_true (by first | (with_reducible assumption) | assumption)
                              obtain ⟨ad432, e432, hx432_0, hx432_1, hx432_2, hx432_3, hx432_4⟩ := at_T34 (Kd.R_reads' HO_12.out).2.2 x14_2 p432 q432
                              cases e432
                              replace p432 := eq_true p432
                              replace q432 := eq_true q432
                              have p433 : 0 ≤ (x14_2 : Int) := of_decide_eq_true (by first | (with_reducible assumption) | assumption)
                              have q433 : x14_2 < (x12_2.length : Int) := of_decide_eq_true (by first | (with_reducible assumption) | assumption)
                              obtain ⟨ad433, e433, hx433_0, hx433_1, hx433_2, hx433_3, hx433_4⟩ := at_T34 (Kd.R_reads' HO_12.out).2.2 x14_2 p433 q433
                              obtain rfl : ad432 = ad433 := (by injection e433)
                              replace p433 := eq_true p433
                              replace q433 := eq_true q433
                              obtain ⟨Ao40, co40, eo40⟩ := Kd.R_slice HO_13.out
                              subst eo40
                              have p434 : 0 ≤ (x14_2 : Int) := of_decide_eq_true (by first | (with_reducible assumption) | assumption)
                              have q434 : x14_2 < (x13_2.length : Int) := of_decide_eq_true (by first | (with_reducible assumption) | assumption)
                              obtain ⟨ad434, e434, hx434_0⟩ := Kd.at_int (Kd.R_reads' HO_13.out).2.2 x14_2 p434 q434
                              cases e434
                              replace p434 := eq_true p434
                              replace q434 := eq_true q434
                              have p435 : 0 ≤ (x14_2 : Int) := of_decide_eq_true (by first | (with_reducible assumption) | assumption)
                              have q435 : x14_2 < (x13_2.length : Int) := of_decide_eq_true (by first | (with_reducible assumption) | assumption)
                              obtain ⟨ad435, e435, hx435_0⟩ := Kd.at_int (Kd.R_reads' HO_13.out).2.2 x14_2 p435 q435
                              obtain rfl : ad434 = ad435 := (by injection e435)
                              replace p435 := eq_true p435
                              replace q435 := eq_true q435
                              have p436 : 0 ≤ (x14_2 : Int) := of_decide_eq_true (by first | (with_reducible assumption) | assumption)
                              have q436 : x14_2 < (x12_2.length : Int) := of_decide_eq_true (by first | (with_reducible assumption) | assumption)
                              obtain ⟨ad436, e436, hx436_0, hx436_1, hx436_2, hx436_3, hx436_4⟩ := at_T34 (Kd.R_reads' HO_12.out).2.2 x14_2 p436 q436
                              obtain rfl : ad432 = ad436 := (by injection e436)
                              replace p436 := eq_true p436
                              replace q436 := eq_true q436
                              have p37 : 0 ≤ (x14_2 : Int) := of_decide_eq_true (by first | (with_reducible assumption) | assumption)
                              have q37 : (x14_2 : Int) < ((x12_2.length : Int) : Int) := of_decide_eq_true (by first | (with_reducible assumption) | assumption)
                              obtain ⟨go37, co37, eo37, gb37, gl37, cl37, HG37⟩ := Kd.R_form HO_12.out (by omega)
                              (first | cases eo37 | (injection eo37 with ea_ en_ ec_; (first | subst ea_ | (injection ea_ with ea_; subst ea_)); subst ec_; clear en_))
                              have GB37 := Aside0.mk gb37
                              have GG37 := Aside0.mk HG37
                              clear gb37 gl37 HG37
                              (first | simp only [add_plain] at hx432_0 | skip)
                              (first | simp only [add_plain] at hx432_1 | skip)
                              (first | simp only [add_plain] at hx432_2 | skip)
                              (first | simp only [add_plain] at hx432_3 | skip)
                              (first | simp only [add_plain] at hx432_4 | skip)
                              (first | simp only [add_plain] at hx433_0 | skip)
                              (first | simp only [add_plain] at hx433_1 | skip)
                              (first | simp only [add_plain] at hx433_2 | skip)
                              (first | simp only [add_plain] at hx433_3 | skip)
                              (first | simp only [add_plain] at hx433_4 | skip)
                              (first | simp only [add_plain] at hx436_0 | skip)
                              (first | simp only [add_plain] at hx436_1 | skip)
                              (first | simp only [add_plain] at hx436_2 | skip)
                              (first | simp only [add_plain] at hx436_3 | skip)
                              (first | simp only [add_plain] at hx436_4 | skip)
                              obtain ⟨ce37, hcl37, hM37, hcc37, hfr37⟩ := Kd.R_elem HO_12.out z34 (x14_2 : Int) p37 q37
                              obtain rfl := k34_openM hM37
                              have hx37_0 : wr.cell? ⟨go37, (x14_2 : Int).toNat * 5, none⟩ = some (.int .i64 ((rd_T34 x12_2 x14_2).f0.f0)) := hcc37 0 _ rfl
                              have hx37_1 : wr.cell? ⟨go37, (x14_2 : Int).toNat * 5 + 1, none⟩ = some (.int .i64 ((rd_T34 x12_2 x14_2).f0.f1)) := hcc37 1 _ rfl
                              have hx37_2 : wr.cell? ⟨go37, (x14_2 : Int).toNat * 5 + 2, none⟩ = some (.string ((rd_T34 x12_2 x14_2).f0.f2)) := hcc37 2 _ rfl
                              have hx37_3 : wr.cell? ⟨go37, (x14_2 : Int).toNat * 5 + 3, none⟩ = some (.int .i64 ((rd_T34 x12_2 x14_2).f1)) := hcc37 3 _ rfl
                              have hx37_4 : wr.cell? ⟨go37, (x14_2 : Int).toNat * 5 + 4, none⟩ = some (.int .i64 ((rd_T34 x12_2 x14_2).f2)) := hcc37 4 _ rfl
                              have hf37_0 : wr.frozen? ⟨go37, (x14_2 : Int).toNat * 5, none⟩ = false := hfr37 0
                              have hf37_1 : wr.frozen? ⟨go37, (x14_2 : Int).toNat * 5 + 1, none⟩ = false := hfr37 1
                              have hf37_2 : wr.frozen? ⟨go37, (x14_2 : Int).toNat * 5 + 2, none⟩ = false := hfr37 2
                              have hf37_3 : wr.frozen? ⟨go37, (x14_2 : Int).toNat * 5 + 3, none⟩ = false := hfr37 3
                              have hf37_4 : wr.frozen? ⟨go37, (x14_2 : Int).toNat * 5 + 4, none⟩ = false := hfr37 4
                              clear hcl37 hcc37 hfr37 hM37
                              replace p37 := eq_true p37
                              replace q37 := eq_true q37
                              have HX41 := Aside0.mk (show Kd.R k34 34 wr w.heap.size (fun _ => True) (.slice (some ⟨go37, 0, none⟩) x12_2.length co39) x12_2 from (by (with_reducible repeat (first | apply Kd.R_alloc | apply Kd.R_drewN | apply Kd.R_drew)); exact HO_12.out))
                              obtain ⟨ce41, hcl41, hM41, hcc41, hfr41⟩ := Kd.R_elem HX41.out z34 (x14_2 : Int) (of_decide_eq_true (by first | (with_reducible assumption) | assumption)) (by have h_ : (x14_2 : Int) < ((x12_2.length : Int) : Int) := of_decide_eq_true (by first | (with_reducible assumption) | assumption); first | exact h_ | (have e_ := (Kd.R_reads' HO_12.out).1; omega) | simpa using h_)
                              obtain rfl := k34_openM hM41
                              have HP41 := Kd.R_seg HX41.out (x14_2 : Int) (of_decide_eq_true (by first | (with_reducible assumption) | assumption)) (by have h_ : (x14_2 : Int) < ((x12_2.length : Int) : Int) := of_decide_eq_true (by first | (with_reducible assumption) | assumption); first | exact h_ | (have e_ := (Kd.R_reads' HO_12.out).1; omega) | simpa using h_) (seg := [.int .i64 (wrap64 (((rd_T34 x12_2 x14_2).f2) + a4))]) (j := 4) hcl41 hcc41 (show 5 ≤ 5 from by decide) (x' := (⟨(⟨(rd_T34 x12_2 x14_2).f0.f0, (rd_T34 x12_2 x14_2).f0.f1, (rd_T34 x12_2 x14_2).f0.f2⟩ : S32), (rd_T34 x12_2 x14_2).f1, wrap64 (((rd_T34 x12_2 x14_2).f2) + a4)⟩ : S34)) (k34_mkM _ _ _ (⟨(⟨(rd_T34 x12_2 x14_2).f0.f0, (rd_T34 x12_2 x14_2).f0.f1, (rd_T34 x12_2 x14_2).f0.f2⟩ : S32), (rd_T34 x12_2 x14_2).f1, wrap64 (((rd_T34 x12_2 x14_2).f2) + a4)⟩ : S34) ) (fun _ hk => hk)
                              have hx41_4 := hcc41 4 _ rfl
                              (try simp only [show (k34).sz = 5 from rfl, Nat.mul_one, Nat.add_zero] at hx41_4)
                              have hf41_4 := hfr41 4
                              (try simp only [show (k34).sz = 5 from rfl, Nat.mul_one, Nat.add_zero] at hf41_4)
                              clear hcl41 hcc41 hfr41 hM41
                              go_wp2_with (first | ((with_reducible refine gate_store (t := 3) (p := 92) rfl ?_); refine store_event (t := 3) (p := 92) (v := ?vo_w42) (w1 := (wr.setCell ⟨go37, (x14_2 : Int).toNat * 5 + 4, none⟩ (.int .i64 (wrap64 (((rd_T34 x12_2 x14_2).f2) + a4))))) ?hg ?ho ?hn ?hr ?_; (case ho => rfl); (case hg => rfl); (case hn => rfl); (case hr => first | (go_simp; done) | (go_simp; rfl)); intro w42 hw; have hg : wr.grownBy w42 (some go37) := (by rw [hw]; exact HP41.2); have hp_ : Kd.R k34 34 w42 w.heap.size (fun _ => True) (.slice (some ⟨go37, 0, none⟩) x12_2.length co39) y437 := (by rw [hw, Ny437.out]; exact HP41.1); clear HP41; have n0_ := Aside0.mk (hp_); have n1_ := Aside0.mk (Kd.R_over' (v := (.slice (some ⟨go37, 0, none⟩) x12_2.length co39)) (by (with_reducible repeat (first | apply Kd.R_alloc | apply Kd.R_drewN | apply Kd.R_drew)); exact HO_13.out) (Kd.R_typed HO_12.out) (by decide) hg); have n2_ := Aside0.mk ((by rw [hw]; exact below_set (HB.out) GB37.out : Below w.heap.size w w42)); clear HO_12; clear HO_13; clear HB; have HO_12 := n0_; have HO_13 := n1_; have HB := n2_; clear n0_ n1_ n2_; clear hg hw hp_; have p438 : 0 ≤ (x14_2 : Int) := of_decide_eq_true (by first | (with_reducible assumption) | assumption); have q438 : x14_2 < (x13_2.length : Int) := of_decide_eq_true (by first | (with_reducible assumption) | assumption); obtain ⟨ad438, e438, hx438_0⟩ := Kd.at_int (Kd.R_reads' HO_13.out).2.2 x14_2 p438 q438; obtain rfl : ad434 = ad438 := (by injection e438); replace p438 := eq_true p438; replace q438 := eq_true q438; have p38 : 0 ≤ (x14_2 : Int) := of_decide_eq_true (by first | (with_reducible assumption) | assumption); have q38 : (x14_2 : Int) < ((x13_2.length : Int) : Int) := of_decide_eq_true (by first | (with_reducible assumption) | assumption); obtain ⟨go38, co38, eo38, gb38, gl38, cl38, HG38⟩ := Kd.R_form HO_13.out (by omega); (first | cases eo38 | (injection eo38 with ea_ en_ ec_; (first | subst ea_ | (injection ea_ with ea_; subst ea_)); subst ec_; clear en_)); have GB38 := Aside0.mk gb38; have GG38 := Aside0.mk HG38; clear gb38 gl38 HG38; (first | simp only [add_plain] at hx434_0 | skip); (first | simp only [add_plain] at hx435_0 | skip); (first | simp only [add_plain] at hx438_0 | skip); obtain ⟨hx38_0, hf38_0⟩ := Kd.R_celln 0 HO_13.out (x14_2 : Int) p38 q38; replace p38 := eq_true p38; replace q38 := eq_true q38; obtain ⟨hy43_, hz43_⟩ := Kd.R_celln 0 HO_13.out (x14_2 : Int) (of_decide_eq_true (by first | (with_reducible assumption) | assumption)) (of_decide_eq_true (by first | (with_reducible assumption) | assumption)); have HP43 := Kd.R_putg HO_13.out (x14_2 : Int) (wrap64 ((rd x13_2 x14_2) + a3))) | ((with_reducible refine gate_store (t := 3) (p := 99) rfl ?_); refine store_event (t := 3) (p := 99) (v := ?vo_w44) (w1 := (w42.setCell ⟨go38, (x14_2 : Int).toNat, none⟩ (.int .i64 (wrap64 ((rd x13_2 x14_2) + a3))))) ?hg ?ho ?hn ?hr ?_; (case ho => rfl); (case hg => rfl); (case hn => rfl); (case hr => first | (go_simp; done) | (go_simp; rfl)); intro w44 hw; have hg : w42.grownBy w44 (some go38) := (by rw [hw]; exact HP43.2); have hp_ : Kd.R (Kd.int .i64) 3 w44 w.heap.size (fun _ => True) (.slice (some ⟨go38, 0, none⟩) x13_2.length co40) y439 := (by rw [hw, Ny439.out]; exact HP43.1); clear HP43; have n0_ := Aside0.mk (Kd.R_over' (v := (.slice (some ⟨go38, 0, none⟩) x13_2.length co40)) (by (with_reducible repeat (first | apply Kd.R_alloc | apply Kd.R_drewN | apply Kd.R_drew)); exact HO_12.out) (Kd.R_typed HO_13.out) (by decide) hg); have n1_ := Aside0.mk (hp_); have n2_ := Aside0.mk ((by rw [hw]; exact below_set (HB.out) GB38.out : Below w.heap.size w w44)); clear HO_12; clear HO_13; clear HB; have HO_12 := n0_; have HO_13 := n1_; have HB := n2_; clear n0_ n1_ n2_; clear hg hw hp_))
                              go_roundg k2
                              case measure => have := HJ6.out; have := HK2.out; omega
                              case rel => exact ⟨(y437), (y439), (wrap64 (x14_2 + 1)), (by first | rfl | (simp; done) | (simp [*]; done)), H', ⟨by have := HJ6.out; have := HK2.out; omega⟩, ⟨by (with_reducible repeat (first | apply Kd.R_alloc | apply Kd.R_drewN | apply Kd.R_drew)); exact HO_12.out⟩, ⟨by (with_reducible repeat (first | apply Kd.R_alloc | apply Kd.R_drewN | apply Kd.R_drew)); exact HO_13.out⟩, ⟨by repeat (first | (with_reducible first | exact HB.out | apply below_alloc | apply pw_below_drewN | apply below_drew1) | exact HB.out)⟩⟩
                        · rw [if_neg c30] at H
                          exact absurd H (by simp)
                  · rw [if_neg c25] at H
                    exact absurd H (by simp)
                · rw [if_neg c24] at H
                  have c24b0 : decide (x14_2 < (x12_2.length : Int)) = false := decide_eq_false c24
                  clear c24
                  by_cases c45 : t418 = true
                  · subst c45
                    have H1 : ((survive_Choose.f a0 l1 l2).bind fun t440 => ((survive_Choose.f a0 x12_2 x13_2).bind fun t441 => (if t440 = t441 then ((survive_Others.f a0 l1 l2).bind fun t442 => ((survive_Others.f a0 x12_2 x13_2).bind fun t445 => ((cleanseref05_Ints.f k2 t442 t445).bind fun t448 => (some t448)))) else (some false)))) = some r := by rw [if_pos rfl] at H; exact H
                    clear H
                    have H := H1
                    clear H1
                    replace H := Option.bind_eq_some_iff.mp H
                    obtain ⟨t440, A460, H⟩ := H
                    replace H : ((survive_Choose.f a0 x12_2 x13_2).bind fun t441 => (if t440 = t441 then ((survive_Others.f a0 l1 l2).bind fun t442 => ((survive_Others.f a0 x12_2 x13_2).bind fun t445 => ((cleanseref05_Ints.f k2 t442 t445).bind fun t448 => (some t448)))) else (some false))) = some r := H
                    have A46 := Aside0.mk A460
                    clear A460
                    replace H := Option.bind_eq_some_iff.mp H
                    obtain ⟨t441, A470, H⟩ := H
                    replace H : (if t440 = t441 then ((survive_Others.f a0 l1 l2).bind fun t442 => ((survive_Others.f a0 x12_2 x13_2).bind fun t445 => ((cleanseref05_Ints.f k2 t442 t445).bind fun t448 => (some t448)))) else (some false)) = some r := H
                    have A47 := Aside0.mk A470
                    clear A470
                    by_cases c48 : t440 = t441
                    · rw [if_pos c48] at H
                      have c48b0 : (t440 == t441) = true := beq_iff_eq.mpr c48
                      have c48b1 : (t440 != t441) = false := bne_eq_false_iff_eq.mpr c48
                      clear c48
                      replace H := Option.bind_eq_some_iff.mp H
                      obtain ⟨t442, A490, H⟩ := H
                      replace H : ((survive_Others.f a0 x12_2 x13_2).bind fun t445 => ((cleanseref05_Ints.f k2 t442 t445).bind fun t448 => (some t448))) = some r := H
                      have A49 := Aside0.mk A490
                      clear A490
                      replace H := Option.bind_eq_some_iff.mp H
                      obtain ⟨t445, A500, H⟩ := H
                      replace H : ((cleanseref05_Ints.f k2 t442 t445).bind fun t448 => (some t448)) = some r := H
                      have A50 := Aside0.mk A500
                      clear A500
                      replace H := Option.bind_eq_some_iff.mp H
                      obtain ⟨t448, A510, H⟩ := H
                      replace H : (some t448) = some r := H
                      have A51 := Aside0.mk A510
                      clear A510
                      obtain rfl := Option.some.inj H
                      obtain ⟨Ao52, co52, eo52⟩ := Kd.R_slice HO_12.out
                      subst eo52
                      go_wp2_with (first | (go_at_call 12; (with_reducible refine (survive_Choose.calls a0 _ _ l1 _ _ l2 t440 _ ?side1 ?side2 ?side3 ?side4 A46.out).mono ?_); (case side1 => repeat (first | exact (Kd.C_below HR1.out HB.out) | (with_reducible refine Kd.C_alloc ?_ _) | (with_reducible refine Kd.C_drewN ?_ _) | (with_reducible refine Kd.C_drew ?_))); (case side2 => exact HC1.out); (case side3 => repeat (first | exact (Kd.C_below HR2.out HB.out) | (with_reducible refine Kd.C_alloc ?_ _) | (with_reducible refine Kd.C_drewN ?_ _) | (with_reducible refine Kd.C_drew ?_))); (case side4 => exact HC2.out); rintro e w53 ⟨rfl, hb⟩; have n0_ := Aside0.mk (Kd.R_below (by (with_reducible repeat (first | apply Kd.R_alloc | apply Kd.R_drewN | apply Kd.R_drew)); exact HO_12.out) hb); have n1_ := Aside0.mk (Kd.R_below (by (with_reducible repeat (first | apply Kd.R_alloc | apply Kd.R_drewN | apply Kd.R_drew)); exact HO_13.out) hb); have n2_ := Aside0.mk (below_step (by repeat (first | (with_reducible first | exact HB.out | apply below_alloc | apply pw_below_drewN | apply below_drew1) | exact HB.out)) hb); clear HO_12; clear HO_13; clear HB; have HO_12 := n0_; have HO_13 := n1_; have HB := n2_; clear n0_ n1_ n2_; (try clear hb); (try clear hb2); (try clear hk); (try clear hi); obtain ⟨Ao54, co54, eo54⟩ := Kd.R_slice HO_13.out; subst eo54) | (go_at_call 12; (with_reducible refine (survive_Choose.calls a0 _ _ x12_2 _ _ x13_2 t441 _ ?side1 ?side2 ?side3 ?side4 A47.out).mono ?_); (case side1 => repeat (first | exact (Kd.R_reads' HO_12.out).2.2 | (with_reducible refine Kd.C_alloc ?_ _) | (with_reducible refine Kd.C_drewN ?_ _) | (with_reducible refine Kd.C_drew ?_))); (case side2 => exact (Kd.R_reads' HO_12.out).2.1); (case side3 => repeat (first | exact (Kd.R_reads' HO_13.out).2.2 | (with_reducible refine Kd.C_alloc ?_ _) | (with_reducible refine Kd.C_drewN ?_ _) | (with_reducible refine Kd.C_drew ?_))); (case side4 => exact (Kd.R_reads' HO_13.out).2.1); rintro e w55 ⟨rfl, hb⟩; have n0_ := Aside0.mk (Kd.R_below (by (with_reducible repeat (first | apply Kd.R_alloc | apply Kd.R_drewN | apply Kd.R_drew)); exact HO_12.out) hb); have n1_ := Aside0.mk (Kd.R_below (by (with_reducible repeat (first | apply Kd.R_alloc | apply Kd.R_drewN | apply Kd.R_drew)); exact HO_13.out) hb); have n2_ := Aside0.mk (below_step (by repeat (first | (with_reducible first | exact HB.out | apply below_alloc | apply pw_below_drewN | apply below_drew1) | exact HB.out)) hb); clear HO_12; clear HO_13; clear HB; have HO_12 := n0_; have HO_13 := n1_; have HB := n2_; clear n0_ n1_ n2_; (try clear hb); (try clear hb2); (try clear hk); (try clear hi)) | (go_at_call 15; (with_reducible refine (survive_Others.calls a0 _ _ l1 _ _ l2 t442 _ ?side1 ?side2 ?side3 ?side4 A49.out).mono ?_); (case side1 => repeat (first | exact (Kd.C_below HR1.out HB.out) | (with_reducible refine Kd.C_alloc ?_ _) | (with_reducible refine Kd.C_drewN ?_ _) | (with_reducible refine Kd.C_drew ?_))); (case side2 => exact HC1.out); (case side3 => repeat (first | exact (Kd.C_below HR2.out HB.out) | (with_reducible refine Kd.C_alloc ?_ _) | (with_reducible refine Kd.C_drewN ?_ _) | (with_reducible refine Kd.C_drew ?_))); (case side4 => exact HC2.out); rintro e w56 ⟨v443, rfl, ho0, hb⟩; have n0_ := Aside0.mk (Kd.R_below (by (with_reducible repeat (first | apply Kd.R_alloc | apply Kd.R_drewN | apply Kd.R_drew)); exact HO_12.out) hb); have n1_ := Aside0.mk (Kd.R_elder' (by (with_reducible repeat (first | apply Kd.R_alloc | apply Kd.R_drewN | apply Kd.R_drew)); exact HO_13.out) (Kd.R_base ho0) hb); have n2_ := Aside0.mk (Kd.R_lower (Kd.R_new' ho0 (Kd.R_lt (by (with_reducible repeat (first | apply Kd.R_alloc | apply Kd.R_drewN | apply Kd.R_drew)); exact HO_13.out))) (below_size (by repeat (first | (with_reducible first | exact HB.out | apply below_alloc | apply pw_below_drewN | apply below_drew1) | exact HB.out)))); have n3_ := Aside0.mk (below_step (by repeat (first | (with_reducible first | exact HB.out | apply below_alloc | apply pw_below_drewN | apply below_drew1) | exact HB.out)) hb); clear HO_12; clear HO_13; clear HB; have HO_12 := n0_; have HO_13 := n1_; have HO444 := n2_; have HB := n3_; clear n0_ n1_ n2_ n3_; (try clear hb); (try clear hb2); (try clear hk); (try clear hi); (try clear ho0)) | (go_at_call 15; (with_reducible refine (survive_Others.calls a0 _ _ x12_2 _ _ x13_2 t445 _ ?side1 ?side2 ?side3 ?side4 A50.out).mono ?_); (case side1 => repeat (first | exact (Kd.R_reads' HO_12.out).2.2 | (with_reducible refine Kd.C_alloc ?_ _) | (with_reducible refine Kd.C_drewN ?_ _) | (with_reducible refine Kd.C_drew ?_))); (case side2 => exact (Kd.R_reads' HO_12.out).2.1); (case side3 => repeat (first | exact (Kd.R_reads' HO_13.out).2.2 | (with_reducible refine Kd.C_alloc ?_ _) | (with_reducible refine Kd.C_drewN ?_ _) | (with_reducible refine Kd.C_drew ?_))); (case side4 => exact (Kd.R_reads' HO_13.out).2.1); rintro e w57 ⟨v446, rfl, ho0, hb⟩; have n0_ := Aside0.mk (Kd.R_below (by (with_reducible repeat (first | apply Kd.R_alloc | apply Kd.R_drewN | apply Kd.R_drew)); exact HO_12.out) hb); have n1_ := Aside0.mk (Kd.R_elder' (by (with_reducible repeat (first | apply Kd.R_alloc | apply Kd.R_drewN | apply Kd.R_drew)); exact HO_13.out) (Kd.R_base ho0) hb); have n2_ := Aside0.mk (Kd.R_elder' (by (with_reducible repeat (first | apply Kd.R_alloc | apply Kd.R_drewN | apply Kd.R_drew)); exact HO444.out) (Kd.R_base ho0) hb); have n3_ := Aside0.mk (Kd.R_lower (Kd.R_new' (Kd.R_new' ho0 (Kd.R_lt (by (with_reducible repeat (first | apply Kd.R_alloc | apply Kd.R_drewN | apply Kd.R_drew)); exact HO_13.out))) (Kd.R_lt (by (with_reducible repeat (first | apply Kd.R_alloc | apply Kd.R_drewN | apply Kd.R_drew)); exact HO444.out))) (below_size (by repeat (first | (with_reducible first | exact HB.out | apply below_alloc | apply pw_below_drewN | apply below_drew1) | exact HB.out)))); have n4_ := Aside0.mk (below_step (by repeat (first | (with_reducible first | exact HB.out | apply below_alloc | apply pw_below_drewN | apply below_drew1) | exact HB.out)) hb); clear HO_12; clear HO_13; clear HO444; clear HB; have HO_12 := n0_; have HO_13 := n1_; have HO444 := n2_; have HO447 := n3_; have HB := n4_; clear n0_ n1_ n2_ n3_ n4_; (try clear hb); (try clear hb2); (try clear hk); (try clear hi); (try clear ho0); obtain ⟨Ao58, co58, eo58⟩ := Kd.R_slice HO444.out; subst eo58; obtain ⟨Ao59, co59, eo59⟩ := Kd.R_slice HO447.out; subst eo59) | (go_at_call 14; (with_reducible refine (cleanseref05_Ints.calls k2 _ _ t442 _ _ t445 t448 _ ?side1 ?side2 ?side3 ?side4 A51.out).mono ?_); (case side1 => repeat (first | exact (Kd.R_reads' HO444.out).2.2 | (with_reducible refine Kd.C_alloc ?_ _) | (with_reducible refine Kd.C_drewN ?_ _) | (with_reducible refine Kd.C_drew ?_))); (case side2 => exact (Kd.R_reads' HO444.out).2.1); (case side3 => repeat (first | exact (Kd.R_reads' HO447.out).2.2 | (with_reducible refine Kd.C_alloc ?_ _) | (with_reducible refine Kd.C_drewN ?_ _) | (with_reducible refine Kd.C_drew ?_))); (case side4 => exact (Kd.R_reads' HO447.out).2.1); rintro e w' ⟨rfl, ⟨nd, rfl⟩⟩))
                      go_ret
                      exact ⟨by first | rfl | (simp [errW_none, errW_some] <;> rfl) | (simp [*, errW_none, errW_some] <;> rfl), by repeat (first | (with_reducible first | exact HB.out | apply below_alloc | apply pw_below_drewN | apply below_drew1) | exact HB.out)⟩
                    · rw [if_neg c48] at H
                      have c48b0 : (t440 == t441) = false := beq_eq_false_iff_ne.mpr c48
                      have c48b1 : (t440 != t441) = true := bne_iff_ne.mpr c48
                      obtain rfl := Option.some.inj H
                      obtain ⟨Ao60, co60, eo60⟩ := Kd.R_slice HO_12.out
                      subst eo60
                      go_wp2_with (first | (go_at_call 12; (with_reducible refine (survive_Choose.calls a0 _ _ l1 _ _ l2 t440 _ ?side1 ?side2 ?side3 ?side4 A46.out).mono ?_); (case side1 => repeat (first | exact (Kd.C_below HR1.out HB.out) | (with_reducible refine Kd.C_alloc ?_ _) | (with_reducible refine Kd.C_drewN ?_ _) | (with_reducible refine Kd.C_drew ?_))); (case side2 => exact HC1.out); (case side3 => repeat (first | exact (Kd.C_below HR2.out HB.out) | (with_reducible refine Kd.C_alloc ?_ _) | (with_reducible refine Kd.C_drewN ?_ _) | (with_reducible refine Kd.C_drew ?_))); (case side4 => exact HC2.out); rintro e w61 ⟨rfl, hb⟩; have n0_ := Aside0.mk (Kd.R_below (by (with_reducible repeat (first | apply Kd.R_alloc | apply Kd.R_drewN | apply Kd.R_drew)); exact HO_12.out) hb); have n1_ := Aside0.mk (Kd.R_below (by (with_reducible repeat (first | apply Kd.R_alloc | apply Kd.R_drewN | apply Kd.R_drew)); exact HO_13.out) hb); have n2_ := Aside0.mk (below_step (by repeat (first | (with_reducible first | exact HB.out | apply below_alloc | apply pw_below_drewN | apply below_drew1) | exact HB.out)) hb); clear HO_12; clear HO_13; clear HB; have HO_12 := n0_; have HO_13 := n1_; have HB := n2_; clear n0_ n1_ n2_; (try clear hb); (try clear hb2); (try clear hk); (try clear hi); obtain ⟨Ao62, co62, eo62⟩ := Kd.R_slice HO_13.out; subst eo62) | (go_at_call 12; (with_reducible refine (survive_Choose.calls a0 _ _ x12_2 _ _ x13_2 t441 _ ?side1 ?side2 ?side3 ?side4 A47.out).mono ?_); (case side1 => repeat (first | exact (Kd.R_reads' HO_12.out).2.2 | (with_reducible refine Kd.C_alloc ?_ _) | (with_reducible refine Kd.C_drewN ?_ _) | (with_reducible refine Kd.C_drew ?_))); (case side2 => exact (Kd.R_reads' HO_12.out).2.1); (case side3 => repeat (first | exact (Kd.R_reads' HO_13.out).2.2 | (with_reducible refine Kd.C_alloc ?_ _) | (with_reducible refine Kd.C_drewN ?_ _) | (with_reducible refine Kd.C_drew ?_))); (case side4 => exact (Kd.R_reads' HO_13.out).2.1); rintro e w63 ⟨rfl, hb⟩; have n0_ := Aside0.mk (Kd.R_below (by (with_reducible repeat (first | apply Kd.R_alloc | apply Kd.R_drewN | apply Kd.R_drew)); exact HO_12.out) hb); have n1_ := Aside0.mk (Kd.R_below (by (with_reducible repeat (first | apply Kd.R_alloc | apply Kd.R_drewN | apply Kd.R_drew)); exact HO_13.out) hb); have n2_ := Aside0.mk (below_step (by repeat (first | (with_reducible first | exact HB.out | apply below_alloc | apply pw_below_drewN | apply below_drew1) | exact HB.out)) hb); clear HO_12; clear HO_13; clear HB; have HO_12 := n0_; have HO_13 := n1_; have HB := n2_; clear n0_ n1_ n2_; (try clear hb); (try clear hb2); (try clear hk); (try clear hi)))
                      go_ret
                      exact ⟨by first | rfl | (simp [errW_none, errW_some] <;> rfl) | (simp [*, errW_none, errW_some] <;> rfl), by repeat (first | (with_reducible first | exact HB.out | apply below_alloc | apply pw_below_drewN | apply below_drew1) | exact HB.out)⟩
                  · replace c45 := Bool.eq_false_iff.mpr c45
                    subst c45
                    have H1 : (some false) = some r := by rw [if_neg (show ¬ (false = true) by decide)] at H; exact H
                    clear H
                    have H := H1
                    clear H1
                    obtain rfl := Option.some.inj H
                    obtain ⟨Ao64, co64, eo64⟩ := Kd.R_slice HO_12.out
                    subst eo64
                    go_wp2
                    go_ret
                    exact ⟨by first | rfl | (simp [errW_none, errW_some] <;> rfl) | (simp [*, errW_none, errW_some] <;> rfl), by repeat (first | (with_reducible first | exact HB.out | apply below_alloc | apply pw_below_drewN | apply below_drew1) | exact HB.out)⟩
          · rw [if_neg c17] at H
            exact absurd H (by simp)
        · rw [if_neg c16] at H
          exact absurd H (by simp)

end Go.Proofs.Ytegomjkgbeijlaa.Sv
