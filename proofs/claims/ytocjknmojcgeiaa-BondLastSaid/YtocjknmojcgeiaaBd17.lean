/- BondLast: printed by givenprint.py, pruned. -/
import Derived.Test.YtocjknmojcgeiaaBd0
import Derived.Test.YtocjknmojcgeiaaBd1
import Derived.Test.YtocjknmojcgeiaaBd2
import Derived.Test.YtocjknmojcgeiaaBd6
import Derived.Test.YtocjknmojcgeiaaBd7
import Derived.Test.YtocjknmojcgeiaaBd8
import Derived.Test.YtocjknmojcgeiaaBd9
namespace Go.Proofs.Ytocjknmojcgeiaa.Bd
open Go.RowKit Go.Proofs.YtocjknmojcgeiaaW.PrintWords Go.Proofs.YtocjknmojcgeiaaW.PrintLast Go.Proofs.YtocjknmojcgeiaaW.PrintMore
attribute [local go_sem] max2_int min2_int max_two min_two max_three min_three max_four min_four
attribute [local go_sem] Go.Proofs.Ytocjknmojcgeiaa.str_gtr Go.Proofs.Ytocjknmojcgeiaa.str_leq Go.Proofs.Ytocjknmojcgeiaa.str_geq
set_option linter.unusedVariables false
set_option linter.unusedSimpArgs false

attribute [local go_sem high] eqA37 eqA39
mutual
def cleanselaw21_BondLast.l0 : Nat → List (S39) → Bool → List (S39) → Int → Option (Bool)
  | 0, _, _, _, _ => none
  | k + 1, x0, x3, x4, x5 => if x5 < (x4.length : Int) then (if 0 ≤ x5 then ((cleanseref21_Formed.f ((rd_T39 x4 x5).f0) ((rd_T39 x4 x5).f1.f0) ((rd_T39 x4 x5).f1.f1) ((rd_T39 x4 x5).f1.f2) ((rd_T39 x4 x5).f2.f0) ((rd_T39 x4 x5).f2.f1) ((rd_T39 x4 x5).f2.f2)).bind fun t545 => (if t545 = true then (if ((rd_T39 x4 x5).f0) = 3 then (cleanselaw21_BondLast.j1 k x0 x3 x4 x5 true) else (if x5 > 0 then (if 0 ≤ (wrap64 (x5 - 1)) then (if (wrap64 (x5 - 1)) < (x4.length : Int) then ((cleanseref21_Before.f ((rd_T39 x4 (wrap64 (x5 - 1))).f0) ((rd_T39 x4 (wrap64 (x5 - 1))).f1.f0) ((rd_T39 x4 (wrap64 (x5 - 1))).f1.f1) ((rd_T39 x4 (wrap64 (x5 - 1))).f1.f2) ((rd_T39 x4 (wrap64 (x5 - 1))).f2.f0) ((rd_T39 x4 (wrap64 (x5 - 1))).f2.f1) ((rd_T39 x4 (wrap64 (x5 - 1))).f2.f2) ((rd_T39 x4 x5).f0) ((rd_T39 x4 x5).f1.f0) ((rd_T39 x4 x5).f1.f1) ((rd_T39 x4 x5).f1.f2) ((rd_T39 x4 x5).f2.f0) ((rd_T39 x4 x5).f2.f1) ((rd_T39 x4 x5).f2.f2)).bind fun t549 => (cleanselaw21_BondLast.j1 k x0 x3 x4 x5 (!t549))) else (none)) else (none)) else (cleanselaw21_BondLast.j1 k x0 x3 x4 x5 false))) else (cleanselaw21_BondLast.j1 k x0 x3 x4 x5 true))) else (none)) else ((some (([] : List (S39)) : List (S39))).bind fun y559 => (if y559.length + x0.length < 1599289640401 then ((some (y559 ++ x0 : List (S39))).bind fun y562 => (if y562.length + x0.length < 1599289640401 then (if x3 = true then ((bond_Effective.f x4).bind fun t568 => ((cleanseref21_Same.f k t568 x4).bind fun t571 => (if t571 = true then ((bond_Effective.f (y562 ++ x0)).bind fun t572 => ((cleanseref21_Same.f k t572 x4).bind fun t575 => (some t575))) else (some false)))) else (some false)) else (none))) else (none)))
def cleanselaw21_BondLast.j1 : Nat → List (S39) → Bool → List (S39) → Int → Bool → Option (Bool)
  | 0, _, _, _, _, _ => none
  | k + 1, x0, x3, x4, x5, x52 => if x52 = true then (some false) else (cleanselaw21_BondLast.l1 k x0 x3 x4 x5 0 0 0 (⟨#[]⟩ : ByteArray) (⟨#[]⟩ : ByteArray) 0 (⟨#[]⟩ : ByteArray) (⟨#[]⟩ : ByteArray))
def cleanselaw21_BondLast.l1 : Nat → List (S39) → Bool → List (S39) → Int → Int → Int → Int → ByteArray → ByteArray → Int → ByteArray → ByteArray → Option (Bool)
  | 0, _, _, _, _, _, _, _, _, _, _, _, _ => none
  | k + 1, x0, x3, x4, x5, x7, x551000, x551001, x551002, x551003, x551004, x551005, x551006 => if x7 < (x0.length : Int) then (if 0 ≤ x7 then ((cleanseref21_Formed.f ((rd_T39 x0 x7).f0) ((rd_T39 x0 x7).f1.f0) ((rd_T39 x0 x7).f1.f1) ((rd_T39 x0 x7).f1.f2) ((rd_T39 x0 x7).f2.f0) ((rd_T39 x0 x7).f2.f1) ((rd_T39 x0 x7).f2.f2)).bind fun t552 => (if t552 = true then (if 0 ≤ x5 then (if x5 < (x4.length : Int) then (if (((rd_T39 x0 x7).f1.f0) == ((rd_T39 x4 x5).f1.f0) && ((((rd_T39 x0 x7).f1.f1).toList) == (((rd_T39 x4 x5).f1.f1).toList) && ((((rd_T39 x0 x7).f1.f2).toList) == (((rd_T39 x4 x5).f1.f2).toList)))) = true then (if (((rd_T39 x0 x7).f2.f0) == ((rd_T39 x4 x5).f2.f0) && ((((rd_T39 x0 x7).f2.f1).toList) == (((rd_T39 x4 x5).f2.f1).toList) && ((((rd_T39 x0 x7).f2.f2).toList) == (((rd_T39 x4 x5).f2.f2).toList)))) = true then (cleanselaw21_BondLast.l1 k x0 x3 x4 x5 (wrap64 (x7 + 1)) ((rd_T39 x0 x7).f0) ((rd_T39 x0 x7).f1.f0) ((rd_T39 x0 x7).f1.f1) ((rd_T39 x0 x7).f1.f2) ((rd_T39 x0 x7).f2.f0) ((rd_T39 x0 x7).f2.f1) ((rd_T39 x0 x7).f2.f2)) else (cleanselaw21_BondLast.l1 k x0 x3 x4 x5 (wrap64 (x7 + 1)) x551000 x551001 x551002 x551003 x551004 x551005 x551006)) else (cleanselaw21_BondLast.l1 k x0 x3 x4 x5 (wrap64 (x7 + 1)) x551000 x551001 x551002 x551003 x551004 x551005 x551006)) else (none)) else (none)) else (cleanselaw21_BondLast.l1 k x0 x3 x4 x5 (wrap64 (x7 + 1)) x551000 x551001 x551002 x551003 x551004 x551005 x551006))) else (none)) else (if 0 ≤ x5 then (if x5 < (x4.length : Int) then (if (!(x551000 == ((rd_T39 x4 x5).f0)) || ((!(x551001 == ((rd_T39 x4 x5).f1.f0)) || (!(x551002.toList == (((rd_T39 x4 x5).f1.f1).toList)) || (!(x551003.toList == (((rd_T39 x4 x5).f1.f2).toList))))) || ((!(x551004 == ((rd_T39 x4 x5).f2.f0)) || (!(x551005.toList == (((rd_T39 x4 x5).f2.f1).toList)) || (!(x551006.toList == (((rd_T39 x4 x5).f2.f2).toList)))))))) = true then (some false) else (cleanselaw21_BondLast.l0 k x0 x3 x4 (wrap64 (x5 + 1)))) else (none)) else (none))
end
def cleanselaw21_BondLast.f (k : Nat) (l0 : List (S39)) : Option (Bool) := (cleanselaw21_head.f k).bind fun t539 => ((cleanselaw21_few.f ([] : List (S66)) l0).bind fun t540 => (if t540 = true then ((bond_Effective.f l0).bind fun t541 => (cleanselaw21_BondLast.l0 k l0 t539 t541 0)) else (some t539)))
theorem cleanselaw21_BondLast.mono_l : ∀ k, (∀ y0 y1 y2 y3, LeO (cleanselaw21_BondLast.l0 k y0 y1 y2 y3) (cleanselaw21_BondLast.l0 (k + 1) y0 y1 y2 y3)) ∧ (∀ y0 y1 y2 y3 y4, LeO (cleanselaw21_BondLast.j1 k y0 y1 y2 y3 y4) (cleanselaw21_BondLast.j1 (k + 1) y0 y1 y2 y3 y4)) ∧ (∀ y0 y1 y2 y3 y4 y5 y6 y7 y8 y9 y10 y11, LeO (cleanselaw21_BondLast.l1 k y0 y1 y2 y3 y4 y5 y6 y7 y8 y9 y10 y11) (cleanselaw21_BondLast.l1 (k + 1) y0 y1 y2 y3 y4 y5 y6 y7 y8 y9 y10 y11))
  | 0 => ⟨fun _ _ _ _ r h => by simp [cleanselaw21_BondLast.l0] at h, fun _ _ _ _ _ r h => by simp [cleanselaw21_BondLast.j1] at h, fun _ _ _ _ _ _ _ _ _ _ _ _ r h => by simp [cleanselaw21_BondLast.l1] at h⟩
  | k + 1 => by
    obtain ⟨ih0, ih1, ih2⟩ := cleanselaw21_BondLast.mono_l k
    refine ⟨?_, ?_, ?_⟩
    · intro y0 y1 y2 y3
      unfold cleanselaw21_BondLast.l0
      repeat' first
      | (with_reducible exact ih0 _ _ _ _)
      | (with_reducible exact ih1 _ _ _ _ _)
      | (with_reducible exact ih2 _ _ _ _ _ _ _ _ _ _ _ _)
      | (with_reducible exact cleanselaw21_head.mono _)
      | (with_reducible exact cleanseref21_Same.mono _ _ _)
      | (with_reducible exact LeO.refl _)
      | (with_reducible exact LeO.none _)
      | (with_reducible refine LeO.ite ?_ ?_)
      | (with_reducible refine LeO.bind ?_ (fun _ => ?_))
      | exact ih0 _ _ _ _
      | exact ih1 _ _ _ _ _
      | exact ih2 _ _ _ _ _ _ _ _ _ _ _ _
      | exact cleanselaw21_head.mono _
      | exact cleanseref21_Same.mono _ _ _
      | exact LeO.none _
      | refine LeO.ite ?_ ?_
      | refine LeO.bind ?_ (fun _ => ?_)
    · intro y0 y1 y2 y3 y4
      unfold cleanselaw21_BondLast.j1
      repeat' first
      | (with_reducible exact ih0 _ _ _ _)
      | (with_reducible exact ih1 _ _ _ _ _)
      | (with_reducible exact ih2 _ _ _ _ _ _ _ _ _ _ _ _)
      | (with_reducible exact cleanselaw21_head.mono _)
      | (with_reducible exact cleanseref21_Same.mono _ _ _)
      | (with_reducible exact LeO.refl _)
      | (with_reducible exact LeO.none _)
      | (with_reducible refine LeO.ite ?_ ?_)
      | (with_reducible refine LeO.bind ?_ (fun _ => ?_))
      | exact ih0 _ _ _ _
      | exact ih1 _ _ _ _ _
      | exact ih2 _ _ _ _ _ _ _ _ _ _ _ _
      | exact cleanselaw21_head.mono _
      | exact cleanseref21_Same.mono _ _ _
      | exact LeO.none _
      | refine LeO.ite ?_ ?_
      | refine LeO.bind ?_ (fun _ => ?_)
    · intro y0 y1 y2 y3 y4 y5 y6 y7 y8 y9 y10 y11
      unfold cleanselaw21_BondLast.l1
      repeat' first
      | (with_reducible exact ih0 _ _ _ _)
      | (with_reducible exact ih1 _ _ _ _ _)
      | (with_reducible exact ih2 _ _ _ _ _ _ _ _ _ _ _ _)
      | (with_reducible exact cleanselaw21_head.mono _)
      | (with_reducible exact cleanseref21_Same.mono _ _ _)
      | (with_reducible exact LeO.refl _)
      | (with_reducible exact LeO.none _)
      | (with_reducible refine LeO.ite ?_ ?_)
      | (with_reducible refine LeO.bind ?_ (fun _ => ?_))
      | exact ih0 _ _ _ _
      | exact ih1 _ _ _ _ _
      | exact ih2 _ _ _ _ _ _ _ _ _ _ _ _
      | exact cleanselaw21_head.mono _
      | exact cleanseref21_Same.mono _ _ _
      | exact LeO.none _
      | refine LeO.ite ?_ ?_
      | refine LeO.bind ?_ (fun _ => ?_)
theorem cleanselaw21_BondLast.mono : ∀ a0 k, LeO (cleanselaw21_BondLast.f k a0) (cleanselaw21_BondLast.f (k + 1) a0) := by
  intro a0 k
  obtain ⟨ih0, ih1, ih2⟩ := cleanselaw21_BondLast.mono_l k
  unfold cleanselaw21_BondLast.f
  repeat' first
      | (with_reducible exact ih0 _ _ _ _)
      | (with_reducible exact ih1 _ _ _ _ _)
      | (with_reducible exact ih2 _ _ _ _ _ _ _ _ _ _ _ _)
      | (with_reducible exact cleanselaw21_head.mono _)
      | (with_reducible exact cleanseref21_Same.mono _ _ _)
      | (with_reducible exact LeO.refl _)
      | (with_reducible exact LeO.none _)
      | (with_reducible refine LeO.ite ?_ ?_)
      | (with_reducible refine LeO.bind ?_ (fun _ => ?_))
      | exact ih0 _ _ _ _
      | exact ih1 _ _ _ _ _
      | exact ih2 _ _ _ _ _ _ _ _ _ _ _ _
      | exact cleanselaw21_head.mono _
      | exact cleanseref21_Same.mono _ _ _
      | exact LeO.none _
      | refine LeO.ite ?_ ?_
      | refine LeO.bind ?_ (fun _ => ?_)
def cleanselaw21_BondLast.T8 : Bool × List (List Nat × List Nat) := (true, [([], []), ([], []), ([0, 1], [0, 1]), ([2], [2]), ([3], [3]), ([4], [4]), ([5, 4], [5]), ([6], [6]), ([6], [6]), ([7, 8, 6], [6, 7, 8]), ([9, 6], [6, 9]), ([10, 6], [6, 10]), ([11, 6], [6, 11]), ([6, 12], [6, 12]), ([13, 6], [13]), ([14], [14]), ([15, 14], [14, 15]), ([16, 14, 14], [14, 16]), ([17], [17]), ([17], [17]), ([19, 17], [17, 19]), ([18, 20, 17], [17, 18, 20]), ([21, 17], [17, 21]), ([17], [17]), ([17], [17]), ([23, 24, 17], [17, 23, 24]), ([25, 17], [17, 25]), ([22, 26, 17, 17], [17, 22, 26]), ([27, 17], [17, 27]), ([17, 28, 14], [14, 17, 28]), ([14, 29], [14, 29])])
def cleanselaw21_BondLast.B8 : List Nat := [0, 0, 3, 7, 15, 31, 63, 127, 127, 511, 1023, 2047, 4095, 8191, 16383, 32767, 65535, 131071, 262143, 262143, 786431, 2097151, 4194303, 262143, 262143, 25427967, 58982399, 134217727, 268435455, 536870911, 1073741823]
theorem cleanselaw21_BondLast.tab8 : rtab .any (opsOf Try.f4 8) = cleanselaw21_BondLast.T8 := by kernel_rfl
theorem cleanselaw21_BondLast.bits8 : waitsOk cleanselaw21_BondLast.T8.2 cleanselaw21_BondLast.B8 = true := by kernel_rfl
def cleanselaw21_BondLast.T14 : Bool × List (List Nat × List Nat) := (true, [([], []), ([], []), ([0, 1], [0, 1]), ([2], [2]), ([3], [3]), ([4, 4], [4]), ([5], [5]), ([5], [5]), ([6, 7, 5], [5, 6, 7]), ([8, 5], [5, 8]), ([9, 5], [5, 9]), ([5], [5]), ([5], [5]), ([11, 12, 5], [5, 11, 12]), ([13, 5], [5, 13]), ([14, 5], [5, 14]), ([10, 15, 5], [5, 10, 15]), ([5, 16], [5, 16]), ([17, 5], [17]), ([18], [18]), ([18], [18]), ([19, 20, 18], [18, 19, 20]), ([21, 18], [18, 21]), ([22, 18], [18, 22]), ([18], [18]), ([18], [18]), ([24, 25, 18], [18, 24, 25]), ([26, 18], [18, 26]), ([27, 18], [18, 27]), ([23, 28, 18], [18, 23, 28]), ([18, 29], [18, 29])])
def cleanselaw21_BondLast.B14 : List Nat := [0, 0, 3, 7, 15, 31, 63, 63, 255, 511, 1023, 63, 63, 6207, 14399, 30783, 65535, 131071, 262143, 524287, 524287, 2097151, 4194303, 8388607, 524287, 524287, 50855935, 117964799, 252182527, 536870911, 1073741823]
theorem cleanselaw21_BondLast.tab14 : rtab .any (opsOf Try.f4 14) = cleanselaw21_BondLast.T14 := by kernel_rfl
theorem cleanselaw21_BondLast.bits14 : waitsOk cleanselaw21_BondLast.T14.2 cleanselaw21_BondLast.B14 = true := by kernel_rfl
set_option maxHeartbeats 8000000 in
set_option maxRecDepth 100000 in
theorem cleanselaw21_BondLast.calls (k : Nat) (A0 : Option Addr) (c0 : Nat) (l0 : List (S39)) (w : World) (hr0 : Kd.C k39 w A0 l0.length l0) (hc0 : l0.length ≤ c0) (h : cleanselaw21_BondLast.f k l0 = some true) :
    Calls Try.prog 4 #[.slice A0 l0.length c0] w fun e w' => e = .returned (.bool true) ∧ Below w.heap.size w w' := by
 have hu39 := Try.underlying39
 have hu37 := Try.underlying37
 have HR0 := Aside0.mk hr0
 have HC0 := Aside0.mk hc0
 clear hr0 hc0
 have HB := Aside0.mk (Below.refl w.heap.size w)
 have H : ((cleanselaw21_head.f k).bind fun t539 => ((cleanselaw21_few.f ([] : List (S66)) l0).bind fun t540 => (if t540 = true then ((bond_Effective.f l0).bind fun t541 => (cleanselaw21_BondLast.l0 k l0 t539 t541 0)) else (some t539)))) = some true := h
 clear h
 replace H := Option.bind_eq_some_iff.mp H
 obtain ⟨t539, A20, H⟩ := H
 replace H : ((cleanselaw21_few.f ([] : List (S66)) l0).bind fun t540 => (if t540 = true then ((bond_Effective.f l0).bind fun t541 => (cleanselaw21_BondLast.l0 k l0 t539 t541 0)) else (some t539))) = some true := H
 have A2 := Aside0.mk A20
 clear A20
 replace H := Option.bind_eq_some_iff.mp H
 obtain ⟨t540, A30, H⟩ := H
 replace H : (if t540 = true then ((bond_Effective.f l0).bind fun t541 => (cleanselaw21_BondLast.l0 k l0 t539 t541 0)) else (some t539)) = some true := H
 have A3 := Aside0.mk A30
 clear A30
 by_cases c4 : t540 = true
 · subst c4
   have H1 : ((bond_Effective.f l0).bind fun t541 => (cleanselaw21_BondLast.l0 k l0 t539 t541 0)) = some true := by rw [if_pos rfl] at H; exact H
   clear H
   have H := H1
   clear H1
   replace H := Option.bind_eq_some_iff.mp H
   obtain ⟨t541, A50, H⟩ := H
   replace H : (cleanselaw21_BondLast.l0 k l0 t539 t541 0) = some true := H
   have A5 := Aside0.mk A50
   clear A50
   have H' := Aside0.mk H
   clear H
   go_enter Try.func4, Try.ntmps4
   go_wp2_with (first | ((with_reducible refine gate_callee (f := 9) rfl ?_); refine goesL_ (some 9) rfl rfl Try.func9 (by kernel_rfl) rfl #[] rfl (by (try simp only [List.map_toArray, List.map_cons, List.map_nil]); first | done | rfl | (simp only [List.length_drop, List.length_take]; rfl)) ?_; (with_reducible refine (cleanselaw21_head.calls k  t539 _ A2.out).mono ?_); rintro e w6 ⟨rfl, hb⟩; refine ⟨_, rfl, ?_⟩; have n0_ := Aside0.mk (below_step (by repeat (first | (with_reducible first | exact HB.out | apply below_alloc | apply pw_below_drewN | apply below_drew1) | exact HB.out)) hb); clear HB; have HB := n0_; clear n0_; (try clear hb); (try clear hb2); (try clear hk); (try clear hi)) | ((with_reducible refine gate_callee (f := 10) rfl ?_); refine goesL_ (some 11) rfl rfl Try.func10 (by kernel_rfl) rfl #[.slice none 0 0, .slice A0 l0.length c0] rfl (by (try simp only [List.map_toArray, List.map_cons, List.map_nil]); first | done | rfl | (simp only [List.length_drop, List.length_take]; rfl)) ?_; (refine (cleanselaw21_few.calls _ _ ([] : List (S66)) _ _ l0 true _ ?side1 ?side2 ?side3 ?side4 A3.out).mono ?_); (case side1 => exact Kd.C_nil _ _); (case side2 => exact Nat.le_refl _); (case side3 => repeat (first | exact (Kd.C_below HR0.out HB.out) | (with_reducible refine Kd.C_alloc ?_ _) | (with_reducible refine Kd.C_drewN ?_ _) | (with_reducible refine Kd.C_drew ?_))); (case side4 => exact HC0.out); rintro e w' ⟨rfl, ⟨nd, rfl⟩⟩; refine ⟨_, rfl, ?_⟩) | ((with_reducible refine gate_callee (f := 16) rfl ?_); refine goesL_ (some 15) rfl rfl Try.func16 (by kernel_rfl) rfl #[.slice A0 l0.length c0] rfl (by (try simp only [List.map_toArray, List.map_cons, List.map_nil]); first | done | rfl | (simp only [List.length_drop, List.length_take]; rfl)) ?_; (with_reducible refine (bond_Effective.calls _ _ l0 t541 _ ?side1 ?side2 A5.out).mono ?_); (case side1 => repeat (first | exact (Kd.C_below HR0.out (by repeat (first | (with_reducible first | exact HB.out | apply below_alloc | apply pw_below_drewN | apply below_drew1) | exact HB.out))) | (with_reducible refine Kd.C_alloc ?_ _) | (with_reducible refine Kd.C_drewN ?_ _) | (with_reducible refine Kd.C_drew ?_))); (case side2 => exact HC0.out); rintro e w7 ⟨v542, rfl, ho0, hb⟩; refine ⟨_, rfl, ?_⟩; have n0_ := Aside0.mk (Kd.R_lower ho0 (below_size (by repeat (first | (with_reducible first | exact HB.out | apply below_alloc | apply pw_below_drewN | apply below_drew1) | exact HB.out)))); have n1_ := Aside0.mk (below_step (by repeat (first | (with_reducible first | exact HB.out | apply below_alloc | apply pw_below_drewN | apply below_drew1) | exact HB.out)) hb); clear HB; have HO543 := n0_; have HB := n1_; clear n0_ n1_; (try clear hb); (try clear hb2); (try clear hk); (try clear hi); (try clear ho0)))
   go_loopg [5] k (fun kq v5 w' => ∃ (x5_1 : Int), v5 = .int .i64 x5_1 ∧ Aside0 (cleanselaw21_BondLast.l0 kq l0 t539 t541 x5_1 = some true) ∧ Aside0 (kq ≤ k) ∧ Aside0 (Kd.R k39 39 w' w.heap.size (fun _ => True) v542 t541) ∧ Aside0 (Below w.heap.size w w'))
   case atStart => exact ⟨(0), (by first | rfl | (simp; done) | (simp [*]; done)), H', ⟨Nat.le_refl _⟩, ⟨by (with_reducible repeat (first | apply Kd.R_alloc | apply Kd.R_drewN | apply Kd.R_drew)); exact HO543.out⟩, ⟨by repeat (first | (with_reducible first | exact HB.out | apply below_alloc | apply pw_below_drewN | apply below_drew1) | exact HB.out)⟩⟩
   case round =>
    clear H'
    try clear c1
    try clear p2
    try clear c4
    obtain ⟨x5_1, rfl, HA, HK1, HO_4, HB⟩ := hrel
    cases gk with
    | zero => exact absurd HA.out (by simp [cleanselaw21_BondLast.l0])
    | succ k1 =>
     have H := HA.out
     clear HA
     simp only [cleanselaw21_BondLast.l0] at H
     by_cases c8 : x5_1 < (t541.length : Int)
     · rw [if_pos c8] at H
       have c8b0 : decide (x5_1 < (t541.length : Int)) = true := decide_eq_true c8
       clear c8
       have HC9 := Aside0.mk H
       clear H
       obtain ⟨Ao10, co10, eo10⟩ := Kd.R_slice HO_4.out
       subst eo10
       go_upto_region 8 with (fail)
       go_cut [52] (fun v52 wc => ∃ (kq : Nat) (x52_8 : Bool), v52 = .bool x52_8 ∧ Aside0 (cleanselaw21_BondLast.j1 kq l0 t539 t541 x5_1 x52_8 = some true) ∧ Aside0 (kq ≤ k1) ∧ Aside0 (Kd.R k39 39 wc w.heap.size (fun _ => True) (.slice Ao10 t541.length co10) t541) ∧ Aside0 (Below w.heap.size w wc))
       case first =>
        have H := HC9.out
        clear HC9
        by_cases c11 : 0 ≤ x5_1
        · rw [if_pos c11] at H
          have c11b0 : decide (0 ≤ x5_1) = true := decide_eq_true c11
          clear c11
          (first | rw [c11b0] | (simp only [i64_w, i32_w]; rw [c11b0]) | skip)
          replace H := Option.bind_eq_some_iff.mp H
          obtain ⟨t545, A120, H⟩ := H
          replace H : (if t545 = true then (if ((rd_T39 t541 x5_1).f0) = 3 then (cleanselaw21_BondLast.j1 k1 l0 t539 t541 x5_1 true) else (if x5_1 > 0 then (if 0 ≤ (wrap64 (x5_1 - 1)) then (if (wrap64 (x5_1 - 1)) < (t541.length : Int) then ((cleanseref21_Before.f ((rd_T39 t541 (wrap64 (x5_1 - 1))).f0) ((rd_T39 t541 (wrap64 (x5_1 - 1))).f1.f0) ((rd_T39 t541 (wrap64 (x5_1 - 1))).f1.f1) ((rd_T39 t541 (wrap64 (x5_1 - 1))).f1.f2) ((rd_T39 t541 (wrap64 (x5_1 - 1))).f2.f0) ((rd_T39 t541 (wrap64 (x5_1 - 1))).f2.f1) ((rd_T39 t541 (wrap64 (x5_1 - 1))).f2.f2) ((rd_T39 t541 x5_1).f0) ((rd_T39 t541 x5_1).f1.f0) ((rd_T39 t541 x5_1).f1.f1) ((rd_T39 t541 x5_1).f1.f2) ((rd_T39 t541 x5_1).f2.f0) ((rd_T39 t541 x5_1).f2.f1) ((rd_T39 t541 x5_1).f2.f2)).bind fun t549 => (cleanselaw21_BondLast.j1 k1 l0 t539 t541 x5_1 (!t549))) else (none)) else (none)) else (cleanselaw21_BondLast.j1 k1 l0 t539 t541 x5_1 false))) else (cleanselaw21_BondLast.j1 k1 l0 t539 t541 x5_1 true)) = some true := H
          have A12 := Aside0.mk A120
          clear A120
          by_cases c13 : t545 = true
          · subst c13
            have H1 : (if ((rd_T39 t541 x5_1).f0) = 3 then (cleanselaw21_BondLast.j1 k1 l0 t539 t541 x5_1 true) else (if x5_1 > 0 then (if 0 ≤ (wrap64 (x5_1 - 1)) then (if (wrap64 (x5_1 - 1)) < (t541.length : Int) then ((cleanseref21_Before.f ((rd_T39 t541 (wrap64 (x5_1 - 1))).f0) ((rd_T39 t541 (wrap64 (x5_1 - 1))).f1.f0) ((rd_T39 t541 (wrap64 (x5_1 - 1))).f1.f1) ((rd_T39 t541 (wrap64 (x5_1 - 1))).f1.f2) ((rd_T39 t541 (wrap64 (x5_1 - 1))).f2.f0) ((rd_T39 t541 (wrap64 (x5_1 - 1))).f2.f1) ((rd_T39 t541 (wrap64 (x5_1 - 1))).f2.f2) ((rd_T39 t541 x5_1).f0) ((rd_T39 t541 x5_1).f1.f0) ((rd_T39 t541 x5_1).f1.f1) ((rd_T39 t541 x5_1).f1.f2) ((rd_T39 t541 x5_1).f2.f0) ((rd_T39 t541 x5_1).f2.f1) ((rd_T39 t541 x5_1).f2.f2)).bind fun t549 => (cleanselaw21_BondLast.j1 k1 l0 t539 t541 x5_1 (!t549))) else (none)) else (none)) else (cleanselaw21_BondLast.j1 k1 l0 t539 t541 x5_1 false))) = some true := by rw [if_pos rfl] at H; exact H
            clear H
            have H := H1
            clear H1
            by_cases c14 : ((rd_T39 t541 x5_1).f0) = 3
            · rw [if_pos c14] at H
              exact absurd H (by cases k1 <;> simp [cleanselaw21_BondLast.j1])
            · rw [if_neg c14] at H
              have c14b0 : (((rd_T39 t541 x5_1).f0) == 3) = false := beq_eq_false_iff_ne.mpr c14
              have c14b1 : (((rd_T39 t541 x5_1).f0) != 3) = true := bne_iff_ne.mpr c14
              by_cases c17 : x5_1 > 0
              · rw [if_pos c17] at H
                have c17b0 : decide (0 < x5_1) = true := decide_eq_true c17
                clear c17
                obtain ⟨ji18, hji18⟩ : ∃ j_ : Int, (wrap64 (x5_1 - 1)) = j_ := ⟨_, rfl⟩
                replace H : (if 0 ≤ (ji18) then (if (ji18) < (t541.length : Int) then ((cleanseref21_Before.f ((rd_T39 t541 (ji18)).f0) ((rd_T39 t541 (ji18)).f1.f0) ((rd_T39 t541 (ji18)).f1.f1) ((rd_T39 t541 (ji18)).f1.f2) ((rd_T39 t541 (ji18)).f2.f0) ((rd_T39 t541 (ji18)).f2.f1) ((rd_T39 t541 (ji18)).f2.f2) ((rd_T39 t541 x5_1).f0) ((rd_T39 t541 x5_1).f1.f0) ((rd_T39 t541 x5_1).f1.f1) ((rd_T39 t541 x5_1).f1.f2) ((rd_T39 t541 x5_1).f2.f0) ((rd_T39 t541 x5_1).f2.f1) ((rd_T39 t541 x5_1).f2.f2)).bind fun t549 => (cleanselaw21_BondLast.j1 k1 l0 t539 t541 x5_1 (!t549))) else (none)) else (none)) = some true := by first | (rw [hji18] at H; exact H) | (simp only [hji18] at H ⊢; exact H)
                (try rw [hji18] at A12)
                have hji18w : (IntKind.i64.wrap (x5_1 - 1)) = ji18 := (i64_w _).trans hji18
                by_cases c19 : 0 ≤ (ji18)
                · rw [if_pos c19] at H
                  have c19b0 : decide (0 ≤ (ji18)) = true := decide_eq_true c19
                  clear c19
                  by_cases c20 : (ji18) < (t541.length : Int)
                  · rw [if_pos c20] at H
                    have c20b0 : decide ((ji18) < (t541.length : Int)) = true := decide_eq_true c20
                    clear c20
                    replace H := Option.bind_eq_some_iff.mp H
                    obtain ⟨t549, A210, H⟩ := H
                    replace H : (cleanselaw21_BondLast.j1 k1 l0 t539 t541 x5_1 (!t549)) = some true := H
                    have A21 := Aside0.mk A210
                    clear A210
                    have H' := Aside0.mk H
                    clear H
                    try go_wp2
                    have n0_ := Aside0.mk (Kd.R_drew HO_4.out)
                    have n1_ := Aside0.mk (below_drew1 HB.out)
                    clear HO_4
                    clear HB
                    have HO_4 := n0_
                    have HB := n1_
                    clear n0_ n1_
                    have p544 : 0 ≤ (x5_1 : Int) := of_decide_eq_true (by first | (with_reducible assumption) | assumption)
                    have q544 : x5_1 < (t541.length : Int) := of_decide_eq_true (by first | (with_reducible assumption) | assumption)
                    obtain ⟨ad544, e544, hx544_0, hx544_1, hx544_2, hx544_3, hx544_4, hx544_5, hx544_6⟩ := at_T39 (Kd.R_reads' HO_4.out).2.2 x5_1 p544 q544
                    cases e544
                    replace p544 := eq_true p544
                    replace q544 := eq_true q544
                    have p546 : 0 ≤ (x5_1 : Int) := of_decide_eq_true (by first | (with_reducible assumption) | assumption)
                    have q546 : x5_1 < (t541.length : Int) := of_decide_eq_true (by first | (with_reducible assumption) | assumption)
                    obtain ⟨ad546, e546, hx546_0, hx546_1, hx546_2, hx546_3, hx546_4, hx546_5, hx546_6⟩ := at_T39 (Kd.R_reads' HO_4.out).2.2 x5_1 p546 q546
                    obtain rfl : ad544 = ad546 := (by injection e546)
                    replace p546 := eq_true p546
                    replace q546 := eq_true q546
                    have p547 : 0 ≤ ((ji18) : Int) := of_decide_eq_true (by first | (with_reducible assumption) | assumption)
                    have q547 : (ji18) < (t541.length : Int) := of_decide_eq_true (by first | (with_reducible assumption) | assumption)
                    obtain ⟨ad547, e547, hx547_0, hx547_1, hx547_2, hx547_3, hx547_4, hx547_5, hx547_6⟩ := at_T39 (Kd.R_reads' HO_4.out).2.2 (ji18) p547 q547
                    obtain rfl : ad544 = ad547 := (by injection e547)
                    replace p547 := eq_true p547
                    replace q547 := eq_true q547
                    have p548 : 0 ≤ (x5_1 : Int) := of_decide_eq_true (by first | (with_reducible assumption) | assumption)
                    have q548 : x5_1 < (t541.length : Int) := of_decide_eq_true (by first | (with_reducible assumption) | assumption)
                    obtain ⟨ad548, e548, hx548_0, hx548_1, hx548_2, hx548_3, hx548_4, hx548_5, hx548_6⟩ := at_T39 (Kd.R_reads' HO_4.out).2.2 x5_1 p548 q548
                    obtain rfl : ad544 = ad548 := (by injection e548)
                    replace p548 := eq_true p548
                    replace q548 := eq_true q548
                    refine start_ (n := 31) (S := fun w' => w'.cell? (ad544.add ((x5_1).toNat * 7)) = some (.int .i64 ((rd_T39 t541 x5_1).f0)) ∧ w'.cell? ⟨(ad544.add ((x5_1).toNat * 7)).block, (ad544.add ((x5_1).toNat * 7)).off + 1, none⟩ = some (.int .i64 ((rd_T39 t541 x5_1).f1.f0)) ∧ w'.cell? ⟨(ad544.add ((x5_1).toNat * 7)).block, (ad544.add ((x5_1).toNat * 7)).off + 2, none⟩ = some (.string ((rd_T39 t541 x5_1).f1.f1)) ∧ w'.cell? ⟨(ad544.add ((x5_1).toNat * 7)).block, (ad544.add ((x5_1).toNat * 7)).off + 3, none⟩ = some (.string ((rd_T39 t541 x5_1).f1.f2)) ∧ w'.cell? ⟨(ad544.add ((x5_1).toNat * 7)).block, (ad544.add ((x5_1).toNat * 7)).off + 4, none⟩ = some (.int .i64 ((rd_T39 t541 x5_1).f2.f0)) ∧ w'.cell? ⟨(ad544.add ((x5_1).toNat * 7)).block, (ad544.add ((x5_1).toNat * 7)).off + 5, none⟩ = some (.string ((rd_T39 t541 x5_1).f2.f1)) ∧ w'.cell? ⟨(ad544.add ((x5_1).toNat * 7)).block, (ad544.add ((x5_1).toNat * 7)).off + 6, none⟩ = some (.string ((rd_T39 t541 x5_1).f2.f2)) ∧ w'.cell? (ad544.add ((x5_1).toNat * 7)) = some (.int .i64 ((rd_T39 t541 x5_1).f0)) ∧ w'.cell? ⟨(ad544.add ((x5_1).toNat * 7)).block, (ad544.add ((x5_1).toNat * 7)).off + 1, none⟩ = some (.int .i64 ((rd_T39 t541 x5_1).f1.f0)) ∧ w'.cell? ⟨(ad544.add ((x5_1).toNat * 7)).block, (ad544.add ((x5_1).toNat * 7)).off + 2, none⟩ = some (.string ((rd_T39 t541 x5_1).f1.f1)) ∧ w'.cell? ⟨(ad544.add ((x5_1).toNat * 7)).block, (ad544.add ((x5_1).toNat * 7)).off + 3, none⟩ = some (.string ((rd_T39 t541 x5_1).f1.f2)) ∧ w'.cell? ⟨(ad544.add ((x5_1).toNat * 7)).block, (ad544.add ((x5_1).toNat * 7)).off + 4, none⟩ = some (.int .i64 ((rd_T39 t541 x5_1).f2.f0)) ∧ w'.cell? ⟨(ad544.add ((x5_1).toNat * 7)).block, (ad544.add ((x5_1).toNat * 7)).off + 5, none⟩ = some (.string ((rd_T39 t541 x5_1).f2.f1)) ∧ w'.cell? ⟨(ad544.add ((x5_1).toNat * 7)).block, (ad544.add ((x5_1).toNat * 7)).off + 6, none⟩ = some (.string ((rd_T39 t541 x5_1).f2.f2)) ∧ w'.cell? (ad544.add (((ji18)).toNat * 7)) = some (.int .i64 ((rd_T39 t541 (ji18)).f0)) ∧ w'.cell? ⟨(ad544.add (((ji18)).toNat * 7)).block, (ad544.add (((ji18)).toNat * 7)).off + 1, none⟩ = some (.int .i64 ((rd_T39 t541 (ji18)).f1.f0)) ∧ w'.cell? ⟨(ad544.add (((ji18)).toNat * 7)).block, (ad544.add (((ji18)).toNat * 7)).off + 2, none⟩ = some (.string ((rd_T39 t541 (ji18)).f1.f1)) ∧ w'.cell? ⟨(ad544.add (((ji18)).toNat * 7)).block, (ad544.add (((ji18)).toNat * 7)).off + 3, none⟩ = some (.string ((rd_T39 t541 (ji18)).f1.f2)) ∧ w'.cell? ⟨(ad544.add (((ji18)).toNat * 7)).block, (ad544.add (((ji18)).toNat * 7)).off + 4, none⟩ = some (.int .i64 ((rd_T39 t541 (ji18)).f2.f0)) ∧ w'.cell? ⟨(ad544.add (((ji18)).toNat * 7)).block, (ad544.add (((ji18)).toNat * 7)).off + 5, none⟩ = some (.string ((rd_T39 t541 (ji18)).f2.f1)) ∧ w'.cell? ⟨(ad544.add (((ji18)).toNat * 7)).block, (ad544.add (((ji18)).toNat * 7)).off + 6, none⟩ = some (.string ((rd_T39 t541 (ji18)).f2.f2)) ∧ w'.cell? (ad544.add ((x5_1).toNat * 7)) = some (.int .i64 ((rd_T39 t541 x5_1).f0)) ∧ w'.cell? ⟨(ad544.add ((x5_1).toNat * 7)).block, (ad544.add ((x5_1).toNat * 7)).off + 1, none⟩ = some (.int .i64 ((rd_T39 t541 x5_1).f1.f0)) ∧ w'.cell? ⟨(ad544.add ((x5_1).toNat * 7)).block, (ad544.add ((x5_1).toNat * 7)).off + 2, none⟩ = some (.string ((rd_T39 t541 x5_1).f1.f1)) ∧ w'.cell? ⟨(ad544.add ((x5_1).toNat * 7)).block, (ad544.add ((x5_1).toNat * 7)).off + 3, none⟩ = some (.string ((rd_T39 t541 x5_1).f1.f2)) ∧ w'.cell? ⟨(ad544.add ((x5_1).toNat * 7)).block, (ad544.add ((x5_1).toNat * 7)).off + 4, none⟩ = some (.int .i64 ((rd_T39 t541 x5_1).f2.f0)) ∧ w'.cell? ⟨(ad544.add ((x5_1).toNat * 7)).block, (ad544.add ((x5_1).toNat * 7)).off + 5, none⟩ = some (.string ((rd_T39 t541 x5_1).f2.f1)) ∧ w'.cell? ⟨(ad544.add ((x5_1).toNat * 7)).block, (ad544.add ((x5_1).toNat * 7)).off + 6, none⟩ = some (.string ((rd_T39 t541 x5_1).f2.f2))) (ds := []) #[false, false, false, false, false, false, false, false, false, false, false, false, false, false, false, false, false, false, false, false, false, false, false, false, false, false, false, false, false, false, false] (by kernel_rfl) rfl rfl ⟨hx544_0, hx544_1, hx544_2, hx544_3, hx544_4, hx544_5, hx544_6, hx546_0, hx546_1, hx546_2, hx546_3, hx546_4, hx546_5, hx546_6, hx547_0, hx547_1, hx547_2, hx547_3, hx547_4, hx547_5, hx547_6, hx548_0, hx548_1, hx548_2, hx548_3, hx548_4, hx548_5, hx548_6⟩ (fun hHeld => ?_); refine with_tabW cleanselaw21_BondLast.tab8 cleanselaw21_BondLast.bits8 (fun HT_ HW_ => ?_)
                    generalize wr.drew = w22 at HO_4 HB hx544_0 hx544_1 hx544_2 hx544_3 hx544_4 hx544_5 hx544_6 hx546_0 hx546_1 hx546_2 hx546_3 hx546_4 hx546_5 hx546_6 hx547_0 hx547_1 hx547_2 hx547_3 hx547_4 hx547_5 hx547_6 hx548_0 hx548_1 hx548_2 hx548_3 hx548_4 hx548_5 hx548_6 hHeld ⊢
                    refine pure_ (i := 0) (N := some 22) (v := ?_) (a' := ?_) #[true, false, false, false, false, false, false, false, false, false, false, false, false, false, false, false, false, false, false, false, false, false, false, false, false, false, false, false, false, false, false] rfl rfl (any_of HT_.out (by kernel_rfl)) (fun _ _ _ h => h) (Or.inl ⟨by rfl, ?_⟩) ?_ ?_
                    rotate_left
                    · intro w'
                      go_simp
                      with_reducible rfl
                    rotate_left
                    · simp only [Act.put, List.setIfInBounds_toArray, List.set_cons_zero, List.set_cons_succ, i64_w, i32_w]
                      rfl
                    refine pure_ (i := 1) (N := some 23) (v := ?_) (a' := ?_) #[true, true, false, false, false, false, false, false, false, false, false, false, false, false, false, false, false, false, false, false, false, false, false, false, false, false, false, false, false, false, false] rfl rfl (any_of HT_.out (by kernel_rfl)) (fun _ _ _ h => h) (Or.inl ⟨by rfl, ?_⟩) ?_ ?_
                    rotate_left
                    · intro w'
                      go_simp
                      with_reducible rfl
                    rotate_left
                    · simp only [Act.put, List.setIfInBounds_toArray, List.set_cons_zero, List.set_cons_succ, i64_w, i32_w]
                      rfl
                    refine pure_ (i := 2) (N := some 24) (v := ?_) (a' := ?_) #[true, true, true, false, false, false, false, false, false, false, false, false, false, false, false, false, false, false, false, false, false, false, false, false, false, false, false, false, false, false, false] rfl rfl (any_of HT_.out (by kernel_rfl)) (fun _ _ _ h => h) (Or.inl ⟨by rfl, ?_⟩) ?_ ?_
                    rotate_left
                    · intro w'
                      go_simp
                      with_reducible rfl
                    rotate_left
                    · simp only [Act.put, List.setIfInBounds_toArray, List.set_cons_zero, List.set_cons_succ, i64_w, i32_w]
                      rfl
                    refine take_ (i := 3) (N := some 25) (v := ?_) (a' := ?_) #[true, true, true, true, false, false, false, false, false, false, false, false, false, false, false, false, false, false, false, false, false, false, false, false, false, false, false, false, false, false, false] rfl rfl (take_ofW HT_.out HW_.out (by kernel_rfl)) (fun _ _ _ h => h) (Or.inl ⟨by rfl, ?_⟩) hHeld ?_ ?_
                    rotate_left
                    · rintro w' ⟨s0, s1, s2, s3, s4, s5, s6, s7, s8, s9, s10, s11, s12, s13, s14, s15, s16, s17, s18, s19, s20, s21, s22, s23, s24, s25, s26, s27⟩
                      go_simp
                      with_reducible rfl
                    rotate_left
                    · simp only [Act.put, List.setIfInBounds_toArray, List.set_cons_zero, List.set_cons_succ, i64_w, i32_w]
                      rfl
                    refine one_ (i := 4) (N := some 26) #[true, true, true, true, true, false, false, false, false, false, false, false, false, false, false, false, false, false, false, false, false, false, false, false, false, false, false, false, false, false, false] rfl rfl (one_of HT_.out (by kernel_rfl)) (by decide) (fun K hK => ?_)
                    refine goes_ Try.func20 (by kernel_rfl) rfl #[.agg #[.int .i64 ((rd_T39 t541 x5_1).f0), .int .i64 ((rd_T39 t541 x5_1).f1.f0), .string ((rd_T39 t541 x5_1).f1.f1), .string ((rd_T39 t541 x5_1).f1.f2), .int .i64 ((rd_T39 t541 x5_1).f2.f0), .string ((rd_T39 t541 x5_1).f2.f1), .string ((rd_T39 t541 x5_1).f2.f2)]] (by rfl) rfl rfl (by (try simp only [List.map_toArray, List.map_cons, List.map_nil]); first | done | rfl | (simp only [List.length_drop, List.length_take]; rfl)) ?_
                    with_reducible refine (cleanseref21_Formed.calls ((rd_T39 t541 x5_1).f0) ((rd_T39 t541 x5_1).f1.f0) ((rd_T39 t541 x5_1).f1.f1) ((rd_T39 t541 x5_1).f1.f2) ((rd_T39 t541 x5_1).f2.f0) ((rd_T39 t541 x5_1).f2.f1) ((rd_T39 t541 x5_1).f2.f2) true _ A12.out).mono ?_
                    rintro e w23 ⟨rfl, hb⟩
                    have HS0_ := (hb.cell (World.block_lt_of_cell? _ _ (hHeld.1))).trans (hHeld.1)
                    have HS1_ := (hb.cell (World.block_lt_of_cell? _ _ (hHeld.2.1))).trans (hHeld.2.1)
                    have HS2_ := (hb.cell (World.block_lt_of_cell? _ _ (hHeld.2.2.1))).trans (hHeld.2.2.1)
                    have HS3_ := (hb.cell (World.block_lt_of_cell? _ _ (hHeld.2.2.2.1))).trans (hHeld.2.2.2.1)
                    have HS4_ := (hb.cell (World.block_lt_of_cell? _ _ (hHeld.2.2.2.2.1))).trans (hHeld.2.2.2.2.1)
                    have HS5_ := (hb.cell (World.block_lt_of_cell? _ _ (hHeld.2.2.2.2.2.1))).trans (hHeld.2.2.2.2.2.1)
                    have HS6_ := (hb.cell (World.block_lt_of_cell? _ _ (hHeld.2.2.2.2.2.2.1))).trans (hHeld.2.2.2.2.2.2.1)
                    have HS7_ := (hb.cell (World.block_lt_of_cell? _ _ (hHeld.2.2.2.2.2.2.2.1))).trans (hHeld.2.2.2.2.2.2.2.1)
                    have HS8_ := (hb.cell (World.block_lt_of_cell? _ _ (hHeld.2.2.2.2.2.2.2.2.1))).trans (hHeld.2.2.2.2.2.2.2.2.1)
                    have HS9_ := (hb.cell (World.block_lt_of_cell? _ _ (hHeld.2.2.2.2.2.2.2.2.2.1))).trans (hHeld.2.2.2.2.2.2.2.2.2.1)
                    have HS10_ := (hb.cell (World.block_lt_of_cell? _ _ (hHeld.2.2.2.2.2.2.2.2.2.2.1))).trans (hHeld.2.2.2.2.2.2.2.2.2.2.1)
                    have HS11_ := (hb.cell (World.block_lt_of_cell? _ _ (hHeld.2.2.2.2.2.2.2.2.2.2.2.1))).trans (hHeld.2.2.2.2.2.2.2.2.2.2.2.1)
                    have HS12_ := (hb.cell (World.block_lt_of_cell? _ _ (hHeld.2.2.2.2.2.2.2.2.2.2.2.2.1))).trans (hHeld.2.2.2.2.2.2.2.2.2.2.2.2.1)
                    have HS13_ := (hb.cell (World.block_lt_of_cell? _ _ (hHeld.2.2.2.2.2.2.2.2.2.2.2.2.2.1))).trans (hHeld.2.2.2.2.2.2.2.2.2.2.2.2.2.1)
                    have HS14_ := (hb.cell (World.block_lt_of_cell? _ _ (hHeld.2.2.2.2.2.2.2.2.2.2.2.2.2.2.1))).trans (hHeld.2.2.2.2.2.2.2.2.2.2.2.2.2.2.1)
                    have HS15_ := (hb.cell (World.block_lt_of_cell? _ _ (hHeld.2.2.2.2.2.2.2.2.2.2.2.2.2.2.2.1))).trans (hHeld.2.2.2.2.2.2.2.2.2.2.2.2.2.2.2.1)
                    have HS16_ := (hb.cell (World.block_lt_of_cell? _ _ (hHeld.2.2.2.2.2.2.2.2.2.2.2.2.2.2.2.2.1))).trans (hHeld.2.2.2.2.2.2.2.2.2.2.2.2.2.2.2.2.1)
                    have HS17_ := (hb.cell (World.block_lt_of_cell? _ _ (hHeld.2.2.2.2.2.2.2.2.2.2.2.2.2.2.2.2.2.1))).trans (hHeld.2.2.2.2.2.2.2.2.2.2.2.2.2.2.2.2.2.1)
                    have HS18_ := (hb.cell (World.block_lt_of_cell? _ _ (hHeld.2.2.2.2.2.2.2.2.2.2.2.2.2.2.2.2.2.2.1))).trans (hHeld.2.2.2.2.2.2.2.2.2.2.2.2.2.2.2.2.2.2.1)
                    have HS19_ := (hb.cell (World.block_lt_of_cell? _ _ (hHeld.2.2.2.2.2.2.2.2.2.2.2.2.2.2.2.2.2.2.2.1))).trans (hHeld.2.2.2.2.2.2.2.2.2.2.2.2.2.2.2.2.2.2.2.1)
                    have HS20_ := (hb.cell (World.block_lt_of_cell? _ _ (hHeld.2.2.2.2.2.2.2.2.2.2.2.2.2.2.2.2.2.2.2.2.1))).trans (hHeld.2.2.2.2.2.2.2.2.2.2.2.2.2.2.2.2.2.2.2.2.1)
                    have HS21_ := (hb.cell (World.block_lt_of_cell? _ _ (hHeld.2.2.2.2.2.2.2.2.2.2.2.2.2.2.2.2.2.2.2.2.2.1))).trans (hHeld.2.2.2.2.2.2.2.2.2.2.2.2.2.2.2.2.2.2.2.2.2.1)
                    have HS22_ := (hb.cell (World.block_lt_of_cell? _ _ (hHeld.2.2.2.2.2.2.2.2.2.2.2.2.2.2.2.2.2.2.2.2.2.2.1))).trans (hHeld.2.2.2.2.2.2.2.2.2.2.2.2.2.2.2.2.2.2.2.2.2.2.1)
                    have HS23_ := (hb.cell (World.block_lt_of_cell? _ _ (hHeld.2.2.2.2.2.2.2.2.2.2.2.2.2.2.2.2.2.2.2.2.2.2.2.1))).trans (hHeld.2.2.2.2.2.2.2.2.2.2.2.2.2.2.2.2.2.2.2.2.2.2.2.1)
                    have HS24_ := (hb.cell (World.block_lt_of_cell? _ _ (hHeld.2.2.2.2.2.2.2.2.2.2.2.2.2.2.2.2.2.2.2.2.2.2.2.2.1))).trans (hHeld.2.2.2.2.2.2.2.2.2.2.2.2.2.2.2.2.2.2.2.2.2.2.2.2.1)
                    have HS25_ := (hb.cell (World.block_lt_of_cell? _ _ (hHeld.2.2.2.2.2.2.2.2.2.2.2.2.2.2.2.2.2.2.2.2.2.2.2.2.2.1))).trans (hHeld.2.2.2.2.2.2.2.2.2.2.2.2.2.2.2.2.2.2.2.2.2.2.2.2.2.1)
                    have HS26_ := (hb.cell (World.block_lt_of_cell? _ _ (hHeld.2.2.2.2.2.2.2.2.2.2.2.2.2.2.2.2.2.2.2.2.2.2.2.2.2.2.1))).trans (hHeld.2.2.2.2.2.2.2.2.2.2.2.2.2.2.2.2.2.2.2.2.2.2.2.2.2.2.1)
                    have HS27_ := (hb.cell (World.block_lt_of_cell? _ _ (hHeld.2.2.2.2.2.2.2.2.2.2.2.2.2.2.2.2.2.2.2.2.2.2.2.2.2.2.2))).trans (hHeld.2.2.2.2.2.2.2.2.2.2.2.2.2.2.2.2.2.2.2.2.2.2.2.2.2.2.2)
                    refine ⟨_, rfl, ?_⟩
                    have n0_ := Aside0.mk (Kd.R_below (by (with_reducible repeat (first | apply Kd.R_alloc | apply Kd.R_drewN | apply Kd.R_drew)); exact HO_4.out) hb)
                    have n1_ := Aside0.mk (below_step (by repeat (first | (with_reducible first | exact HB.out | apply below_alloc | apply pw_below_drewN | apply below_drew1) | exact HB.out)) hb)
                    clear HO_4
                    clear HB
                    have HO_4 := n0_
                    have HB := n1_
                    clear n0_ n1_
                    (try clear hb)
                    (try clear hb2)
                    (try clear hk)
                    (try clear hi)
                    refine hK.out _ _ ⟨HS0_, HS1_, HS2_, HS3_, HS4_, HS5_, HS6_, HS7_, HS8_, HS9_, HS10_, HS11_, HS12_, HS13_, HS14_, HS15_, HS16_, HS17_, HS18_, HS19_, HS20_, HS21_, HS22_, HS23_, HS24_, HS25_, HS26_, HS27_⟩ (fun hHeld => ?_)
                    clear hK K
                    refine norm_ (a' := ?_) ?_ ?_
                    rotate_left
                    · show Act.put _ (some 26) _ = _
                      simp only [Act.put, List.setIfInBounds_toArray, List.set_cons_zero, List.set_cons_succ, i64_w, i32_w]
                      rfl
                    refine pure_ (i := 5) (N := some 27) (v := ?_) (a' := ?_) #[true, true, true, true, true, true, false, false, false, false, false, false, false, false, false, false, false, false, false, false, false, false, false, false, false, false, false, false, false, false, false] rfl rfl (any_of HT_.out (by kernel_rfl)) (fun _ _ _ h => h) (Or.inl ⟨by rfl, ?_⟩) ?_ ?_
                    rotate_left
                    · intro w'
                      go_simp
                      with_reducible rfl
                    rotate_left
                    · simp only [Act.put, List.setIfInBounds_toArray, List.set_cons_zero, List.set_cons_succ, i64_w, i32_w]
                      rfl
                    refine pure_ (i := 6) (N := some 28) (v := ?_) (a' := ?_) #[true, true, true, true, true, true, true, false, false, false, false, false, false, false, false, false, false, false, false, false, false, false, false, false, false, false, false, false, false, false, false] rfl rfl (any_of HT_.out (by kernel_rfl)) (fun _ _ _ h => h) (Or.inl ⟨by rfl, ?_⟩) ?_ ?_
                    rotate_left
                    · intro w'
                      go_simp
                      with_reducible rfl
                    rotate_left
                    · simp only [Act.put, List.setIfInBounds_toArray, List.set_cons_zero, List.set_cons_succ, i64_w, i32_w]
                      rfl
                    refine pure_ (i := 7) (N := some 29) (v := ?_) (a' := ?_) #[true, true, true, true, true, true, true, true, false, false, false, false, false, false, false, false, false, false, false, false, false, false, false, false, false, false, false, false, false, false, false] rfl rfl (any_of HT_.out (by kernel_rfl)) (fun _ _ _ h => h) (Or.inl ⟨by rfl, ?_⟩) ?_ ?_
                    rotate_left
                    · intro w'
                      go_simp
                      with_reducible rfl
                    rotate_left
                    · simp only [Act.put, List.setIfInBounds_toArray, List.set_cons_zero, List.set_cons_succ, i64_w, i32_w]
                      rfl
                    refine pure_ (i := 8) (N := some 30) (v := ?_) (a' := ?_) #[true, true, true, true, true, true, true, true, true, false, false, false, false, false, false, false, false, false, false, false, false, false, false, false, false, false, false, false, false, false, false] rfl rfl (any_of HT_.out (by kernel_rfl)) (fun _ _ _ h => h) (Or.inl ⟨by rfl, ?_⟩) ?_ ?_
                    rotate_left
                    · intro w'
                      go_simp
                      with_reducible rfl
                    rotate_left
                    · simp only [Act.put, List.setIfInBounds_toArray, List.set_cons_zero, List.set_cons_succ, i64_w, i32_w]
                      rfl
                    refine pure_ (i := 9) (N := some 31) (v := ?_) (a' := ?_) #[true, true, true, true, true, true, true, true, true, true, false, false, false, false, false, false, false, false, false, false, false, false, false, false, false, false, false, false, false, false, false] rfl rfl (any_of HT_.out (by kernel_rfl)) (fun _ _ _ h => h) (Or.inl ⟨by rfl, ?_⟩) ?_ ?_
                    rotate_left
                    · intro w'
                      go_simp
                      with_reducible rfl
                    rotate_left
                    · simp only [Act.put, List.setIfInBounds_toArray, List.set_cons_zero, List.set_cons_succ, i64_w, i32_w]
                      rfl
                    refine pure_ (i := 10) (N := some 32) (v := ?_) (a' := ?_) #[true, true, true, true, true, true, true, true, true, true, true, false, false, false, false, false, false, false, false, false, false, false, false, false, false, false, false, false, false, false, false] rfl rfl (any_of HT_.out (by kernel_rfl)) (fun _ _ _ h => h) (Or.inl ⟨by rfl, ?_⟩) ?_ ?_
                    rotate_left
                    · intro w'
                      go_simp
                      with_reducible rfl
                    rotate_left
                    · simp only [Act.put, List.setIfInBounds_toArray, List.set_cons_zero, List.set_cons_succ, i64_w, i32_w]
                      rfl
                    refine take_ (i := 11) (N := some 33) (v := ?_) (a' := ?_) #[true, true, true, true, true, true, true, true, true, true, true, true, false, false, false, false, false, false, false, false, false, false, false, false, false, false, false, false, false, false, false] rfl rfl (take_ofW HT_.out HW_.out (by kernel_rfl)) (fun _ _ _ h => h) (Or.inl ⟨by rfl, ?_⟩) hHeld ?_ ?_
                    rotate_left
                    · rintro w' ⟨s0, s1, s2, s3, s4, s5, s6, s7, s8, s9, s10, s11, s12, s13, s14, s15, s16, s17, s18, s19, s20, s21, s22, s23, s24, s25, s26, s27⟩
                      go_simp
                      with_reducible rfl
                    rotate_left
                    · simp only [Act.put, List.setIfInBounds_toArray, List.set_cons_zero, List.set_cons_succ, i64_w, i32_w]
                      rfl
                    refine pure_ (i := 12) (N := some 34) (v := ?_) (a' := ?_) #[true, true, true, true, true, true, true, true, true, true, true, true, true, false, false, false, false, false, false, false, false, false, false, false, false, false, false, false, false, false, false] rfl rfl (any_of HT_.out (by kernel_rfl)) (fun _ _ _ h => h) (Or.inl ⟨by rfl, ?_⟩) ?_ ?_
                    rotate_left
                    · intro w'
                      go_simp
                      with_reducible rfl
                    rotate_left
                    · simp only [Act.put, List.setIfInBounds_toArray, List.set_cons_zero, List.set_cons_succ, i64_w, i32_w]
                      rfl
                    refine pure_ (i := 13) (N := some 35) (v := ?_) (a' := ?_) #[true, true, true, true, true, true, true, true, true, true, true, true, true, true, false, false, false, false, false, false, false, false, false, false, false, false, false, false, false, false, false] rfl rfl (any_of HT_.out (by kernel_rfl)) (fun _ _ _ h => h) (Or.inl ⟨by rfl, ?_⟩) ?_ ?_
                    rotate_left
                    · intro w'
                      go_simp
                      with_reducible rfl
                    rotate_left
                    · simp only [Act.put, List.setIfInBounds_toArray, List.set_cons_zero, List.set_cons_succ, i64_w, i32_w]
                      rfl
                    refine pure_ (i := 14) (N := some 36) (v := ?_) (a' := ?_) #[true, true, true, true, true, true, true, true, true, true, true, true, true, true, true, false, false, false, false, false, false, false, false, false, false, false, false, false, false, false, false] rfl rfl (any_of HT_.out (by kernel_rfl)) (fun _ _ _ h => h) (Or.inl ⟨by rfl, ?_⟩) ?_ ?_
                    rotate_left
                    · intro w'
                      go_simp
                      with_reducible rfl
                    rotate_left
                    · simp only [Act.put, List.setIfInBounds_toArray, List.set_cons_zero, List.set_cons_succ, i64_w, i32_w]
                      rfl
                    refine pure_ (i := 15) (N := some 37) (v := ?_) (a' := ?_) #[true, true, true, true, true, true, true, true, true, true, true, true, true, true, true, true, false, false, false, false, false, false, false, false, false, false, false, false, false, false, false] rfl rfl (any_of HT_.out (by kernel_rfl)) (fun _ _ _ h => h) (Or.inl ⟨by rfl, ?_⟩) ?_ ?_
                    rotate_left
                    · intro w'
                      go_simp
                      with_reducible rfl
                    rotate_left
                    · simp only [Act.put, List.setIfInBounds_toArray, List.set_cons_zero, List.set_cons_succ, i64_w, i32_w]
                      rfl
                    refine pure_ (i := 16) (N := some 38) (v := ?_) (a' := ?_) #[true, true, true, true, true, true, true, true, true, true, true, true, true, true, true, true, true, false, false, false, false, false, false, false, false, false, false, false, false, false, false] rfl rfl (any_of HT_.out (by kernel_rfl)) (fun _ _ _ h => h) (Or.inl ⟨by rfl, ?_⟩) ?_ ?_
                    rotate_left
                    · intro w'
                      go_simp
                      with_reducible rfl
                    rotate_left
                    · simp only [Act.put, List.setIfInBounds_toArray, List.set_cons_zero, List.set_cons_succ, i64_w, i32_w]
                      rfl
                    refine pure_ (i := 17) (N := some 39) (v := ?_) (a' := ?_) #[true, true, true, true, true, true, true, true, true, true, true, true, true, true, true, true, true, true, false, false, false, false, false, false, false, false, false, false, false, false, false] rfl rfl (any_of HT_.out (by kernel_rfl)) (fun _ _ _ h => h) (Or.inl ⟨by rfl, ?_⟩) ?_ ?_
                    rotate_left
                    · intro w'
                      go_simp
                      with_reducible rfl
                    rotate_left
                    · simp only [Act.put, List.setIfInBounds_toArray, List.set_cons_zero, List.set_cons_succ, i64_w, i32_w]
                      rfl
                    refine pure_ (i := 18) (N := some 40) (v := ?_) (a' := ?_) #[true, true, true, true, true, true, true, true, true, true, true, true, true, true, true, true, true, true, true, false, false, false, false, false, false, false, false, false, false, false, false] rfl rfl (any_of HT_.out (by kernel_rfl)) (fun _ _ _ h => h) (Or.inl ⟨by rfl, ?_⟩) ?_ ?_
                    rotate_left
                    · intro w'
                      go_simp
                      with_reducible rfl
                    rotate_left
                    · simp only [Act.put, List.setIfInBounds_toArray, List.set_cons_zero, List.set_cons_succ, i64_w, i32_w]
                      rfl
                    refine pure_ (i := 19) (N := some 41) (v := ?_) (a' := ?_) #[true, true, true, true, true, true, true, true, true, true, true, true, true, true, true, true, true, true, true, true, false, false, false, false, false, false, false, false, false, false, false] rfl rfl (any_of HT_.out (by kernel_rfl)) (fun _ _ _ h => h) (Or.inl ⟨by rfl, ?_⟩) ?_ ?_
                    rotate_left
                    · intro w'
                      go_simp
                      with_reducible rfl
                    rotate_left
                    · simp only [Act.put, List.setIfInBounds_toArray, List.set_cons_zero, List.set_cons_succ, i64_w, i32_w]
                      rfl
                    refine pure_ (i := 20) (N := some 42) (v := ?_) (a' := ?_) #[true, true, true, true, true, true, true, true, true, true, true, true, true, true, true, true, true, true, true, true, true, false, false, false, false, false, false, false, false, false, false] rfl rfl (any_of HT_.out (by kernel_rfl)) (fun _ _ _ h => h) (Or.inl ⟨by rfl, ?_⟩) ?_ ?_
                    rotate_left
                    · intro w'
                      go_simp
                      with_reducible rfl
                    rotate_left
                    · simp only [Act.put, List.setIfInBounds_toArray, List.set_cons_zero, List.set_cons_succ, i64_w, i32_w]
                      rfl
                    refine pure_ (i := 21) (N := some 43) (v := ?_) (a' := ?_) #[true, true, true, true, true, true, true, true, true, true, true, true, true, true, true, true, true, true, true, true, true, true, false, false, false, false, false, false, false, false, false] rfl rfl (any_of HT_.out (by kernel_rfl)) (fun _ _ _ h => h) (Or.inl ⟨by rfl, ?_⟩) ?_ ?_
                    rotate_left
                    · intro w'
                      go_simp
                      with_reducible rfl
                    rotate_left
                    · simp only [Act.put, List.setIfInBounds_toArray, List.set_cons_zero, List.set_cons_succ, i64_w, i32_w]
                      rfl
                    refine pure_ (i := 23) (N := some 45) (v := ?_) (a' := ?_) #[true, true, true, true, true, true, true, true, true, true, true, true, true, true, true, true, true, true, true, true, true, true, false, true, false, false, false, false, false, false, false] rfl rfl (any_of HT_.out (by kernel_rfl)) (fun _ _ _ h => h) (Or.inl ⟨by rfl, ?_⟩) ?_ ?_
                    rotate_left
                    · intro w'
                      go_simp
                      with_reducible rfl
                    rotate_left
                    · simp only [Act.put, List.setIfInBounds_toArray, List.set_cons_zero, List.set_cons_succ, i64_w, i32_w]
                      rfl
                    refine pure_ (i := 24) (N := some 46) (v := ?_) (a' := ?_) #[true, true, true, true, true, true, true, true, true, true, true, true, true, true, true, true, true, true, true, true, true, true, false, true, true, false, false, false, false, false, false] rfl rfl (any_of HT_.out (by kernel_rfl)) (fun _ _ _ h => h) (Or.inl ⟨by rfl, ?_⟩) ?_ ?_
                    rotate_left
                    · intro w'
                      go_simp
                      with_reducible rfl
                    rotate_left
                    · simp only [Act.put, List.setIfInBounds_toArray, List.set_cons_zero, List.set_cons_succ, i64_w, i32_w]
                      rfl
                    refine pure_ (i := 25) (N := some 47) (v := ?_) (a' := ?_) #[true, true, true, true, true, true, true, true, true, true, true, true, true, true, true, true, true, true, true, true, true, true, false, true, true, true, false, false, false, false, false] rfl rfl (any_of HT_.out (by kernel_rfl)) (fun _ _ _ h => h) (Or.inl ⟨by rfl, ?_⟩) ?_ ?_
                    rotate_left
                    · intro w'
                      go_simp
                      with_reducible rfl
                    rotate_left
                    · simp only [Act.put, List.setIfInBounds_toArray, List.set_cons_zero, List.set_cons_succ, i64_w, i32_w]
                      rfl
                    refine take_ (i := 22) (N := some 44) (v := ?_) (a' := ?_) #[true, true, true, true, true, true, true, true, true, true, true, true, true, true, true, true, true, true, true, true, true, true, true, true, true, true, false, false, false, false, false] rfl rfl (take_ofW HT_.out HW_.out (by kernel_rfl)) (fun _ _ _ h => h) (Or.inl ⟨by rfl, ?_⟩) hHeld ?_ ?_
                    rotate_left
                    · rintro w' ⟨s0, s1, s2, s3, s4, s5, s6, s7, s8, s9, s10, s11, s12, s13, s14, s15, s16, s17, s18, s19, s20, s21, s22, s23, s24, s25, s26, s27⟩
                      go_simp
                      with_reducible rfl
                    rotate_left
                    · simp only [Act.put, List.setIfInBounds_toArray, List.set_cons_zero, List.set_cons_succ, i64_w, i32_w]
                      rfl
                    refine take_ (i := 26) (N := some 48) (v := ?_) (a' := ?_) #[true, true, true, true, true, true, true, true, true, true, true, true, true, true, true, true, true, true, true, true, true, true, true, true, true, true, true, false, false, false, false] rfl rfl (take_ofW HT_.out HW_.out (by kernel_rfl)) (fun _ _ _ h => h) (Or.inl ⟨by rfl, ?_⟩) hHeld ?_ ?_
                    rotate_left
                    · rintro w' ⟨s0, s1, s2, s3, s4, s5, s6, s7, s8, s9, s10, s11, s12, s13, s14, s15, s16, s17, s18, s19, s20, s21, s22, s23, s24, s25, s26, s27⟩
                      go_simp
                      with_reducible rfl
                    rotate_left
                    · simp only [Act.put, List.setIfInBounds_toArray, List.set_cons_zero, List.set_cons_succ, i64_w, i32_w]
                      rfl
                    refine one_ (i := 27) (N := some 49) #[true, true, true, true, true, true, true, true, true, true, true, true, true, true, true, true, true, true, true, true, true, true, true, true, true, true, true, true, false, false, false] rfl rfl (one_of HT_.out (by kernel_rfl)) (by decide) (fun K hK => ?_)
                    refine goes_ Try.func21 (by kernel_rfl) rfl #[.agg #[.int .i64 ((rd_T39 t541 (ji18)).f0), .int .i64 ((rd_T39 t541 (ji18)).f1.f0), .string ((rd_T39 t541 (ji18)).f1.f1), .string ((rd_T39 t541 (ji18)).f1.f2), .int .i64 ((rd_T39 t541 (ji18)).f2.f0), .string ((rd_T39 t541 (ji18)).f2.f1), .string ((rd_T39 t541 (ji18)).f2.f2)], .agg #[.int .i64 ((rd_T39 t541 x5_1).f0), .int .i64 ((rd_T39 t541 x5_1).f1.f0), .string ((rd_T39 t541 x5_1).f1.f1), .string ((rd_T39 t541 x5_1).f1.f2), .int .i64 ((rd_T39 t541 x5_1).f2.f0), .string ((rd_T39 t541 x5_1).f2.f1), .string ((rd_T39 t541 x5_1).f2.f2)]] (by rfl) rfl rfl (by (try simp only [List.map_toArray, List.map_cons, List.map_nil]); first | done | (simp only [hji18]; rfl) | rfl | (simp only [List.length_drop, List.length_take]; rfl)) ?_
                    with_reducible refine (cleanseref21_Before.calls ((rd_T39 t541 (ji18)).f0) ((rd_T39 t541 (ji18)).f1.f0) ((rd_T39 t541 (ji18)).f1.f1) ((rd_T39 t541 (ji18)).f1.f2) ((rd_T39 t541 (ji18)).f2.f0) ((rd_T39 t541 (ji18)).f2.f1) ((rd_T39 t541 (ji18)).f2.f2) ((rd_T39 t541 x5_1).f0) ((rd_T39 t541 x5_1).f1.f0) ((rd_T39 t541 x5_1).f1.f1) ((rd_T39 t541 x5_1).f1.f2) ((rd_T39 t541 x5_1).f2.f0) ((rd_T39 t541 x5_1).f2.f1) ((rd_T39 t541 x5_1).f2.f2) t549 _ A21.out).mono ?_
                    rintro e w24 ⟨rfl, hb⟩
                    have HS0_ := (hb.cell (World.block_lt_of_cell? _ _ (hHeld.1))).trans (hHeld.1)
                    have HS1_ := (hb.cell (World.block_lt_of_cell? _ _ (hHeld.2.1))).trans (hHeld.2.1)
                    have HS2_ := (hb.cell (World.block_lt_of_cell? _ _ (hHeld.2.2.1))).trans (hHeld.2.2.1)
                    have HS3_ := (hb.cell (World.block_lt_of_cell? _ _ (hHeld.2.2.2.1))).trans (hHeld.2.2.2.1)
                    have HS4_ := (hb.cell (World.block_lt_of_cell? _ _ (hHeld.2.2.2.2.1))).trans (hHeld.2.2.2.2.1)
                    have HS5_ := (hb.cell (World.block_lt_of_cell? _ _ (hHeld.2.2.2.2.2.1))).trans (hHeld.2.2.2.2.2.1)
                    have HS6_ := (hb.cell (World.block_lt_of_cell? _ _ (hHeld.2.2.2.2.2.2.1))).trans (hHeld.2.2.2.2.2.2.1)
                    have HS7_ := (hb.cell (World.block_lt_of_cell? _ _ (hHeld.2.2.2.2.2.2.2.1))).trans (hHeld.2.2.2.2.2.2.2.1)
                    have HS8_ := (hb.cell (World.block_lt_of_cell? _ _ (hHeld.2.2.2.2.2.2.2.2.1))).trans (hHeld.2.2.2.2.2.2.2.2.1)
                    have HS9_ := (hb.cell (World.block_lt_of_cell? _ _ (hHeld.2.2.2.2.2.2.2.2.2.1))).trans (hHeld.2.2.2.2.2.2.2.2.2.1)
                    have HS10_ := (hb.cell (World.block_lt_of_cell? _ _ (hHeld.2.2.2.2.2.2.2.2.2.2.1))).trans (hHeld.2.2.2.2.2.2.2.2.2.2.1)
                    have HS11_ := (hb.cell (World.block_lt_of_cell? _ _ (hHeld.2.2.2.2.2.2.2.2.2.2.2.1))).trans (hHeld.2.2.2.2.2.2.2.2.2.2.2.1)
                    have HS12_ := (hb.cell (World.block_lt_of_cell? _ _ (hHeld.2.2.2.2.2.2.2.2.2.2.2.2.1))).trans (hHeld.2.2.2.2.2.2.2.2.2.2.2.2.1)
                    have HS13_ := (hb.cell (World.block_lt_of_cell? _ _ (hHeld.2.2.2.2.2.2.2.2.2.2.2.2.2.1))).trans (hHeld.2.2.2.2.2.2.2.2.2.2.2.2.2.1)
                    have HS14_ := (hb.cell (World.block_lt_of_cell? _ _ (hHeld.2.2.2.2.2.2.2.2.2.2.2.2.2.2.1))).trans (hHeld.2.2.2.2.2.2.2.2.2.2.2.2.2.2.1)
                    have HS15_ := (hb.cell (World.block_lt_of_cell? _ _ (hHeld.2.2.2.2.2.2.2.2.2.2.2.2.2.2.2.1))).trans (hHeld.2.2.2.2.2.2.2.2.2.2.2.2.2.2.2.1)
                    have HS16_ := (hb.cell (World.block_lt_of_cell? _ _ (hHeld.2.2.2.2.2.2.2.2.2.2.2.2.2.2.2.2.1))).trans (hHeld.2.2.2.2.2.2.2.2.2.2.2.2.2.2.2.2.1)
                    have HS17_ := (hb.cell (World.block_lt_of_cell? _ _ (hHeld.2.2.2.2.2.2.2.2.2.2.2.2.2.2.2.2.2.1))).trans (hHeld.2.2.2.2.2.2.2.2.2.2.2.2.2.2.2.2.2.1)
                    have HS18_ := (hb.cell (World.block_lt_of_cell? _ _ (hHeld.2.2.2.2.2.2.2.2.2.2.2.2.2.2.2.2.2.2.1))).trans (hHeld.2.2.2.2.2.2.2.2.2.2.2.2.2.2.2.2.2.2.1)
                    have HS19_ := (hb.cell (World.block_lt_of_cell? _ _ (hHeld.2.2.2.2.2.2.2.2.2.2.2.2.2.2.2.2.2.2.2.1))).trans (hHeld.2.2.2.2.2.2.2.2.2.2.2.2.2.2.2.2.2.2.2.1)
                    have HS20_ := (hb.cell (World.block_lt_of_cell? _ _ (hHeld.2.2.2.2.2.2.2.2.2.2.2.2.2.2.2.2.2.2.2.2.1))).trans (hHeld.2.2.2.2.2.2.2.2.2.2.2.2.2.2.2.2.2.2.2.2.1)
                    have HS21_ := (hb.cell (World.block_lt_of_cell? _ _ (hHeld.2.2.2.2.2.2.2.2.2.2.2.2.2.2.2.2.2.2.2.2.2.1))).trans (hHeld.2.2.2.2.2.2.2.2.2.2.2.2.2.2.2.2.2.2.2.2.2.1)
                    have HS22_ := (hb.cell (World.block_lt_of_cell? _ _ (hHeld.2.2.2.2.2.2.2.2.2.2.2.2.2.2.2.2.2.2.2.2.2.2.1))).trans (hHeld.2.2.2.2.2.2.2.2.2.2.2.2.2.2.2.2.2.2.2.2.2.2.1)
                    have HS23_ := (hb.cell (World.block_lt_of_cell? _ _ (hHeld.2.2.2.2.2.2.2.2.2.2.2.2.2.2.2.2.2.2.2.2.2.2.2.1))).trans (hHeld.2.2.2.2.2.2.2.2.2.2.2.2.2.2.2.2.2.2.2.2.2.2.2.1)
                    have HS24_ := (hb.cell (World.block_lt_of_cell? _ _ (hHeld.2.2.2.2.2.2.2.2.2.2.2.2.2.2.2.2.2.2.2.2.2.2.2.2.1))).trans (hHeld.2.2.2.2.2.2.2.2.2.2.2.2.2.2.2.2.2.2.2.2.2.2.2.2.1)
                    have HS25_ := (hb.cell (World.block_lt_of_cell? _ _ (hHeld.2.2.2.2.2.2.2.2.2.2.2.2.2.2.2.2.2.2.2.2.2.2.2.2.2.1))).trans (hHeld.2.2.2.2.2.2.2.2.2.2.2.2.2.2.2.2.2.2.2.2.2.2.2.2.2.1)
                    have HS26_ := (hb.cell (World.block_lt_of_cell? _ _ (hHeld.2.2.2.2.2.2.2.2.2.2.2.2.2.2.2.2.2.2.2.2.2.2.2.2.2.2.1))).trans (hHeld.2.2.2.2.2.2.2.2.2.2.2.2.2.2.2.2.2.2.2.2.2.2.2.2.2.2.1)
                    have HS27_ := (hb.cell (World.block_lt_of_cell? _ _ (hHeld.2.2.2.2.2.2.2.2.2.2.2.2.2.2.2.2.2.2.2.2.2.2.2.2.2.2.2))).trans (hHeld.2.2.2.2.2.2.2.2.2.2.2.2.2.2.2.2.2.2.2.2.2.2.2.2.2.2.2)
                    refine ⟨_, rfl, ?_⟩
                    have n0_ := Aside0.mk (Kd.R_below (by (with_reducible repeat (first | apply Kd.R_alloc | apply Kd.R_drewN | apply Kd.R_drew)); exact HO_4.out) hb)
                    have n1_ := Aside0.mk (below_step (by repeat (first | (with_reducible first | exact HB.out | apply below_alloc | apply pw_below_drewN | apply below_drew1) | exact HB.out)) hb)
                    clear HO_4
                    clear HB
                    have HO_4 := n0_
                    have HB := n1_
                    clear n0_ n1_
                    (try clear hb)
                    (try clear hb2)
                    (try clear hk)
                    (try clear hi)
                    refine hK.out _ _ ⟨HS0_, HS1_, HS2_, HS3_, HS4_, HS5_, HS6_, HS7_, HS8_, HS9_, HS10_, HS11_, HS12_, HS13_, HS14_, HS15_, HS16_, HS17_, HS18_, HS19_, HS20_, HS21_, HS22_, HS23_, HS24_, HS25_, HS26_, HS27_⟩ (fun hHeld => ?_)
                    clear hK K
                    refine norm_ (a' := ?_) ?_ ?_
                    rotate_left
                    · show Act.put _ (some 49) _ = _
                      simp only [Act.put, List.setIfInBounds_toArray, List.set_cons_zero, List.set_cons_succ, i64_w, i32_w]
                      rfl
                    refine pure_ (i := 28) (N := some 50) (v := ?_) (a' := ?_) #[true, true, true, true, true, true, true, true, true, true, true, true, true, true, true, true, true, true, true, true, true, true, true, true, true, true, true, true, true, false, false] rfl rfl (any_of HT_.out (by kernel_rfl)) (fun _ _ _ h => h) (Or.inl ⟨by rfl, ?_⟩) ?_ ?_
                    rotate_left
                    · intro w'
                      go_simp
                      with_reducible rfl
                    rotate_left
                    · simp only [Act.put, List.setIfInBounds_toArray, List.set_cons_zero, List.set_cons_succ, i64_w, i32_w]
                      rfl
                    refine pure_ (i := 29) (N := some 51) (v := ?_) (a' := ?_) #[true, true, true, true, true, true, true, true, true, true, true, true, true, true, true, true, true, true, true, true, true, true, true, true, true, true, true, true, true, true, false] rfl rfl (any_of HT_.out (by kernel_rfl)) (fun _ _ _ h => h) (Or.inl ⟨by rfl, ?_⟩) ?_ ?_
                    rotate_left
                    · intro w'
                      go_simp
                      with_reducible rfl
                    rotate_left
                    · simp only [Act.put, List.setIfInBounds_toArray, List.set_cons_zero, List.set_cons_succ, i64_w, i32_w]
                      rfl
                    refine pure_ (i := 30) (N := some 52) (v := ?_) (a' := ?_) #[true, true, true, true, true, true, true, true, true, true, true, true, true, true, true, true, true, true, true, true, true, true, true, true, true, true, true, true, true, true, true] rfl rfl (any_of HT_.out (by kernel_rfl)) (fun _ _ _ h => h) (Or.inl ⟨by rfl, ?_⟩) ?_ ?_
                    rotate_left
                    · intro w'
                      go_simp
                      with_reducible rfl
                    rotate_left
                    · simp only [Act.put, List.setIfInBounds_toArray, List.set_cons_zero, List.set_cons_succ, i64_w, i32_w]
                      rfl
                    refine done_ (done_of HT_.out (by kernel_rfl)) ?_
                    try go_wp2
                    go_meet
                    case rel => exact ⟨_, (!t549), (by first | rfl | (simp; done) | (simp [*]; done)), H', ⟨by have := HK1.out; first | omega | exact Nat.le_refl _⟩, ⟨by (with_reducible repeat (first | apply Kd.R_alloc | apply Kd.R_drewN | apply Kd.R_drew)); exact HO_4.out⟩, ⟨by repeat (first | (with_reducible first | exact HB.out | apply below_alloc | apply pw_below_drewN | apply below_drew1) | exact HB.out)⟩⟩
                  · rw [if_neg c20] at H
                    exact absurd H (by simp)
                · rw [if_neg c19] at H
                  exact absurd H (by simp)
              · rw [if_neg c17] at H
                have c17b0 : decide (0 < x5_1) = false := decide_eq_false c17
                clear c17
                have H' := Aside0.mk H
                clear H
                try go_wp2
                have n0_ := Aside0.mk (Kd.R_drew HO_4.out)
                have n1_ := Aside0.mk (below_drew1 HB.out)
                clear HO_4
                clear HB
                have HO_4 := n0_
                have HB := n1_
                clear n0_ n1_
                have p544 : 0 ≤ (x5_1 : Int) := of_decide_eq_true (by first | (with_reducible assumption) | assumption)
                have q544 : x5_1 < (t541.length : Int) := of_decide_eq_true (by first | (with_reducible assumption) | assumption)
                obtain ⟨ad544, e544, hx544_0, hx544_1, hx544_2, hx544_3, hx544_4, hx544_5, hx544_6⟩ := at_T39 (Kd.R_reads' HO_4.out).2.2 x5_1 p544 q544
                cases e544
                replace p544 := eq_true p544
                replace q544 := eq_true q544
                have p546 : 0 ≤ (x5_1 : Int) := of_decide_eq_true (by first | (with_reducible assumption) | assumption)
                have q546 : x5_1 < (t541.length : Int) := of_decide_eq_true (by first | (with_reducible assumption) | assumption)
                obtain ⟨ad546, e546, hx546_0, hx546_1, hx546_2, hx546_3, hx546_4, hx546_5, hx546_6⟩ := at_T39 (Kd.R_reads' HO_4.out).2.2 x5_1 p546 q546
                obtain rfl : ad544 = ad546 := (by injection e546)
                replace p546 := eq_true p546
                replace q546 := eq_true q546
                refine start_ (n := 31) (S := fun w' => w'.cell? (ad544.add ((x5_1).toNat * 7)) = some (.int .i64 ((rd_T39 t541 x5_1).f0)) ∧ w'.cell? ⟨(ad544.add ((x5_1).toNat * 7)).block, (ad544.add ((x5_1).toNat * 7)).off + 1, none⟩ = some (.int .i64 ((rd_T39 t541 x5_1).f1.f0)) ∧ w'.cell? ⟨(ad544.add ((x5_1).toNat * 7)).block, (ad544.add ((x5_1).toNat * 7)).off + 2, none⟩ = some (.string ((rd_T39 t541 x5_1).f1.f1)) ∧ w'.cell? ⟨(ad544.add ((x5_1).toNat * 7)).block, (ad544.add ((x5_1).toNat * 7)).off + 3, none⟩ = some (.string ((rd_T39 t541 x5_1).f1.f2)) ∧ w'.cell? ⟨(ad544.add ((x5_1).toNat * 7)).block, (ad544.add ((x5_1).toNat * 7)).off + 4, none⟩ = some (.int .i64 ((rd_T39 t541 x5_1).f2.f0)) ∧ w'.cell? ⟨(ad544.add ((x5_1).toNat * 7)).block, (ad544.add ((x5_1).toNat * 7)).off + 5, none⟩ = some (.string ((rd_T39 t541 x5_1).f2.f1)) ∧ w'.cell? ⟨(ad544.add ((x5_1).toNat * 7)).block, (ad544.add ((x5_1).toNat * 7)).off + 6, none⟩ = some (.string ((rd_T39 t541 x5_1).f2.f2)) ∧ w'.cell? (ad544.add ((x5_1).toNat * 7)) = some (.int .i64 ((rd_T39 t541 x5_1).f0)) ∧ w'.cell? ⟨(ad544.add ((x5_1).toNat * 7)).block, (ad544.add ((x5_1).toNat * 7)).off + 1, none⟩ = some (.int .i64 ((rd_T39 t541 x5_1).f1.f0)) ∧ w'.cell? ⟨(ad544.add ((x5_1).toNat * 7)).block, (ad544.add ((x5_1).toNat * 7)).off + 2, none⟩ = some (.string ((rd_T39 t541 x5_1).f1.f1)) ∧ w'.cell? ⟨(ad544.add ((x5_1).toNat * 7)).block, (ad544.add ((x5_1).toNat * 7)).off + 3, none⟩ = some (.string ((rd_T39 t541 x5_1).f1.f2)) ∧ w'.cell? ⟨(ad544.add ((x5_1).toNat * 7)).block, (ad544.add ((x5_1).toNat * 7)).off + 4, none⟩ = some (.int .i64 ((rd_T39 t541 x5_1).f2.f0)) ∧ w'.cell? ⟨(ad544.add ((x5_1).toNat * 7)).block, (ad544.add ((x5_1).toNat * 7)).off + 5, none⟩ = some (.string ((rd_T39 t541 x5_1).f2.f1)) ∧ w'.cell? ⟨(ad544.add ((x5_1).toNat * 7)).block, (ad544.add ((x5_1).toNat * 7)).off + 6, none⟩ = some (.string ((rd_T39 t541 x5_1).f2.f2))) (ds := []) #[false, false, false, false, false, false, false, false, false, false, false, false, false, false, false, false, false, false, false, false, false, false, false, false, false, false, false, false, false, false, false] (by kernel_rfl) rfl rfl ⟨hx544_0, hx544_1, hx544_2, hx544_3, hx544_4, hx544_5, hx544_6, hx546_0, hx546_1, hx546_2, hx546_3, hx546_4, hx546_5, hx546_6⟩ (fun hHeld => ?_); refine with_tabW cleanselaw21_BondLast.tab8 cleanselaw21_BondLast.bits8 (fun HT_ HW_ => ?_)
                generalize wr.drew = w25 at HO_4 HB hx544_0 hx544_1 hx544_2 hx544_3 hx544_4 hx544_5 hx544_6 hx546_0 hx546_1 hx546_2 hx546_3 hx546_4 hx546_5 hx546_6 hHeld ⊢
                refine pure_ (i := 0) (N := some 22) (v := ?_) (a' := ?_) #[true, false, false, false, false, false, false, false, false, false, false, false, false, false, false, false, false, false, false, false, false, false, false, false, false, false, false, false, false, false, false] rfl rfl (any_of HT_.out (by kernel_rfl)) (fun _ _ _ h => h) (Or.inl ⟨by rfl, ?_⟩) ?_ ?_
                rotate_left
                · intro w'
                  go_simp
                  with_reducible rfl
                rotate_left
                · simp only [Act.put, List.setIfInBounds_toArray, List.set_cons_zero, List.set_cons_succ, i64_w, i32_w]
                  rfl
                refine pure_ (i := 1) (N := some 23) (v := ?_) (a' := ?_) #[true, true, false, false, false, false, false, false, false, false, false, false, false, false, false, false, false, false, false, false, false, false, false, false, false, false, false, false, false, false, false] rfl rfl (any_of HT_.out (by kernel_rfl)) (fun _ _ _ h => h) (Or.inl ⟨by rfl, ?_⟩) ?_ ?_
                rotate_left
                · intro w'
                  go_simp
                  with_reducible rfl
                rotate_left
                · simp only [Act.put, List.setIfInBounds_toArray, List.set_cons_zero, List.set_cons_succ, i64_w, i32_w]
                  rfl
                refine pure_ (i := 2) (N := some 24) (v := ?_) (a' := ?_) #[true, true, true, false, false, false, false, false, false, false, false, false, false, false, false, false, false, false, false, false, false, false, false, false, false, false, false, false, false, false, false] rfl rfl (any_of HT_.out (by kernel_rfl)) (fun _ _ _ h => h) (Or.inl ⟨by rfl, ?_⟩) ?_ ?_
                rotate_left
                · intro w'
                  go_simp
                  with_reducible rfl
                rotate_left
                · simp only [Act.put, List.setIfInBounds_toArray, List.set_cons_zero, List.set_cons_succ, i64_w, i32_w]
                  rfl
                refine take_ (i := 3) (N := some 25) (v := ?_) (a' := ?_) #[true, true, true, true, false, false, false, false, false, false, false, false, false, false, false, false, false, false, false, false, false, false, false, false, false, false, false, false, false, false, false] rfl rfl (take_ofW HT_.out HW_.out (by kernel_rfl)) (fun _ _ _ h => h) (Or.inl ⟨by rfl, ?_⟩) hHeld ?_ ?_
                rotate_left
                · rintro w' ⟨s0, s1, s2, s3, s4, s5, s6, s7, s8, s9, s10, s11, s12, s13⟩
                  go_simp
                  with_reducible rfl
                rotate_left
                · simp only [Act.put, List.setIfInBounds_toArray, List.set_cons_zero, List.set_cons_succ, i64_w, i32_w]
                  rfl
                refine one_ (i := 4) (N := some 26) #[true, true, true, true, true, false, false, false, false, false, false, false, false, false, false, false, false, false, false, false, false, false, false, false, false, false, false, false, false, false, false] rfl rfl (one_of HT_.out (by kernel_rfl)) (by decide) (fun K hK => ?_)
                refine goes_ Try.func20 (by kernel_rfl) rfl #[.agg #[.int .i64 ((rd_T39 t541 x5_1).f0), .int .i64 ((rd_T39 t541 x5_1).f1.f0), .string ((rd_T39 t541 x5_1).f1.f1), .string ((rd_T39 t541 x5_1).f1.f2), .int .i64 ((rd_T39 t541 x5_1).f2.f0), .string ((rd_T39 t541 x5_1).f2.f1), .string ((rd_T39 t541 x5_1).f2.f2)]] (by rfl) rfl rfl (by (try simp only [List.map_toArray, List.map_cons, List.map_nil]); first | done | rfl | (simp only [List.length_drop, List.length_take]; rfl)) ?_
                with_reducible refine (cleanseref21_Formed.calls ((rd_T39 t541 x5_1).f0) ((rd_T39 t541 x5_1).f1.f0) ((rd_T39 t541 x5_1).f1.f1) ((rd_T39 t541 x5_1).f1.f2) ((rd_T39 t541 x5_1).f2.f0) ((rd_T39 t541 x5_1).f2.f1) ((rd_T39 t541 x5_1).f2.f2) true _ A12.out).mono ?_
                rintro e w26 ⟨rfl, hb⟩
                have HS0_ := (hb.cell (World.block_lt_of_cell? _ _ (hHeld.1))).trans (hHeld.1)
                have HS1_ := (hb.cell (World.block_lt_of_cell? _ _ (hHeld.2.1))).trans (hHeld.2.1)
                have HS2_ := (hb.cell (World.block_lt_of_cell? _ _ (hHeld.2.2.1))).trans (hHeld.2.2.1)
                have HS3_ := (hb.cell (World.block_lt_of_cell? _ _ (hHeld.2.2.2.1))).trans (hHeld.2.2.2.1)
                have HS4_ := (hb.cell (World.block_lt_of_cell? _ _ (hHeld.2.2.2.2.1))).trans (hHeld.2.2.2.2.1)
                have HS5_ := (hb.cell (World.block_lt_of_cell? _ _ (hHeld.2.2.2.2.2.1))).trans (hHeld.2.2.2.2.2.1)
                have HS6_ := (hb.cell (World.block_lt_of_cell? _ _ (hHeld.2.2.2.2.2.2.1))).trans (hHeld.2.2.2.2.2.2.1)
                have HS7_ := (hb.cell (World.block_lt_of_cell? _ _ (hHeld.2.2.2.2.2.2.2.1))).trans (hHeld.2.2.2.2.2.2.2.1)
                have HS8_ := (hb.cell (World.block_lt_of_cell? _ _ (hHeld.2.2.2.2.2.2.2.2.1))).trans (hHeld.2.2.2.2.2.2.2.2.1)
                have HS9_ := (hb.cell (World.block_lt_of_cell? _ _ (hHeld.2.2.2.2.2.2.2.2.2.1))).trans (hHeld.2.2.2.2.2.2.2.2.2.1)
                have HS10_ := (hb.cell (World.block_lt_of_cell? _ _ (hHeld.2.2.2.2.2.2.2.2.2.2.1))).trans (hHeld.2.2.2.2.2.2.2.2.2.2.1)
                have HS11_ := (hb.cell (World.block_lt_of_cell? _ _ (hHeld.2.2.2.2.2.2.2.2.2.2.2.1))).trans (hHeld.2.2.2.2.2.2.2.2.2.2.2.1)
                have HS12_ := (hb.cell (World.block_lt_of_cell? _ _ (hHeld.2.2.2.2.2.2.2.2.2.2.2.2.1))).trans (hHeld.2.2.2.2.2.2.2.2.2.2.2.2.1)
                have HS13_ := (hb.cell (World.block_lt_of_cell? _ _ (hHeld.2.2.2.2.2.2.2.2.2.2.2.2.2))).trans (hHeld.2.2.2.2.2.2.2.2.2.2.2.2.2)
                refine ⟨_, rfl, ?_⟩
                have n0_ := Aside0.mk (Kd.R_below (by (with_reducible repeat (first | apply Kd.R_alloc | apply Kd.R_drewN | apply Kd.R_drew)); exact HO_4.out) hb)
                have n1_ := Aside0.mk (below_step (by repeat (first | (with_reducible first | exact HB.out | apply below_alloc | apply pw_below_drewN | apply below_drew1) | exact HB.out)) hb)
                clear HO_4
                clear HB
                have HO_4 := n0_
                have HB := n1_
                clear n0_ n1_
                (try clear hb)
                (try clear hb2)
                (try clear hk)
                (try clear hi)
                refine hK.out _ _ ⟨HS0_, HS1_, HS2_, HS3_, HS4_, HS5_, HS6_, HS7_, HS8_, HS9_, HS10_, HS11_, HS12_, HS13_⟩ (fun hHeld => ?_)
                clear hK K
                refine norm_ (a' := ?_) ?_ ?_
                rotate_left
                · show Act.put _ (some 26) _ = _
                  simp only [Act.put, List.setIfInBounds_toArray, List.set_cons_zero, List.set_cons_succ, i64_w, i32_w]
                  rfl
                refine pure_ (i := 5) (N := some 27) (v := ?_) (a' := ?_) #[true, true, true, true, true, true, false, false, false, false, false, false, false, false, false, false, false, false, false, false, false, false, false, false, false, false, false, false, false, false, false] rfl rfl (any_of HT_.out (by kernel_rfl)) (fun _ _ _ h => h) (Or.inl ⟨by rfl, ?_⟩) ?_ ?_
                rotate_left
                · intro w'
                  go_simp
                  with_reducible rfl
                rotate_left
                · simp only [Act.put, List.setIfInBounds_toArray, List.set_cons_zero, List.set_cons_succ, i64_w, i32_w]
                  rfl
                refine pure_ (i := 6) (N := some 28) (v := ?_) (a' := ?_) #[true, true, true, true, true, true, true, false, false, false, false, false, false, false, false, false, false, false, false, false, false, false, false, false, false, false, false, false, false, false, false] rfl rfl (any_of HT_.out (by kernel_rfl)) (fun _ _ _ h => h) (Or.inl ⟨by rfl, ?_⟩) ?_ ?_
                rotate_left
                · intro w'
                  go_simp
                  with_reducible rfl
                rotate_left
                · simp only [Act.put, List.setIfInBounds_toArray, List.set_cons_zero, List.set_cons_succ, i64_w, i32_w]
                  rfl
                refine pure_ (i := 7) (N := some 29) (v := ?_) (a' := ?_) #[true, true, true, true, true, true, true, true, false, false, false, false, false, false, false, false, false, false, false, false, false, false, false, false, false, false, false, false, false, false, false] rfl rfl (any_of HT_.out (by kernel_rfl)) (fun _ _ _ h => h) (Or.inl ⟨by rfl, ?_⟩) ?_ ?_
                rotate_left
                · intro w'
                  go_simp
                  with_reducible rfl
                rotate_left
                · simp only [Act.put, List.setIfInBounds_toArray, List.set_cons_zero, List.set_cons_succ, i64_w, i32_w]
                  rfl
                refine pure_ (i := 8) (N := some 30) (v := ?_) (a' := ?_) #[true, true, true, true, true, true, true, true, true, false, false, false, false, false, false, false, false, false, false, false, false, false, false, false, false, false, false, false, false, false, false] rfl rfl (any_of HT_.out (by kernel_rfl)) (fun _ _ _ h => h) (Or.inl ⟨by rfl, ?_⟩) ?_ ?_
                rotate_left
                · intro w'
                  go_simp
                  with_reducible rfl
                rotate_left
                · simp only [Act.put, List.setIfInBounds_toArray, List.set_cons_zero, List.set_cons_succ, i64_w, i32_w]
                  rfl
                refine pure_ (i := 9) (N := some 31) (v := ?_) (a' := ?_) #[true, true, true, true, true, true, true, true, true, true, false, false, false, false, false, false, false, false, false, false, false, false, false, false, false, false, false, false, false, false, false] rfl rfl (any_of HT_.out (by kernel_rfl)) (fun _ _ _ h => h) (Or.inl ⟨by rfl, ?_⟩) ?_ ?_
                rotate_left
                · intro w'
                  go_simp
                  with_reducible rfl
                rotate_left
                · simp only [Act.put, List.setIfInBounds_toArray, List.set_cons_zero, List.set_cons_succ, i64_w, i32_w]
                  rfl
                refine pure_ (i := 10) (N := some 32) (v := ?_) (a' := ?_) #[true, true, true, true, true, true, true, true, true, true, true, false, false, false, false, false, false, false, false, false, false, false, false, false, false, false, false, false, false, false, false] rfl rfl (any_of HT_.out (by kernel_rfl)) (fun _ _ _ h => h) (Or.inl ⟨by rfl, ?_⟩) ?_ ?_
                rotate_left
                · intro w'
                  go_simp
                  with_reducible rfl
                rotate_left
                · simp only [Act.put, List.setIfInBounds_toArray, List.set_cons_zero, List.set_cons_succ, i64_w, i32_w]
                  rfl
                refine take_ (i := 11) (N := some 33) (v := ?_) (a' := ?_) #[true, true, true, true, true, true, true, true, true, true, true, true, false, false, false, false, false, false, false, false, false, false, false, false, false, false, false, false, false, false, false] rfl rfl (take_ofW HT_.out HW_.out (by kernel_rfl)) (fun _ _ _ h => h) (Or.inl ⟨by rfl, ?_⟩) hHeld ?_ ?_
                rotate_left
                · rintro w' ⟨s0, s1, s2, s3, s4, s5, s6, s7, s8, s9, s10, s11, s12, s13⟩
                  go_simp
                  with_reducible rfl
                rotate_left
                · simp only [Act.put, List.setIfInBounds_toArray, List.set_cons_zero, List.set_cons_succ, i64_w, i32_w]
                  rfl
                refine pure_ (i := 12) (N := some 34) (v := ?_) (a' := ?_) #[true, true, true, true, true, true, true, true, true, true, true, true, true, false, false, false, false, false, false, false, false, false, false, false, false, false, false, false, false, false, false] rfl rfl (any_of HT_.out (by kernel_rfl)) (fun _ _ _ h => h) (Or.inl ⟨by rfl, ?_⟩) ?_ ?_
                rotate_left
                · intro w'
                  go_simp
                  with_reducible rfl
                rotate_left
                · simp only [Act.put, List.setIfInBounds_toArray, List.set_cons_zero, List.set_cons_succ, i64_w, i32_w]
                  rfl
                refine pure_ (i := 13) (N := some 35) (v := ?_) (a' := ?_) #[true, true, true, true, true, true, true, true, true, true, true, true, true, true, false, false, false, false, false, false, false, false, false, false, false, false, false, false, false, false, false] rfl rfl (any_of HT_.out (by kernel_rfl)) (fun _ _ _ h => h) (Or.inl ⟨by rfl, ?_⟩) ?_ ?_
                rotate_left
                · intro w'
                  go_simp
                  with_reducible rfl
                rotate_left
                · simp only [Act.put, List.setIfInBounds_toArray, List.set_cons_zero, List.set_cons_succ, i64_w, i32_w]
                  rfl
                refine pure_ (i := 14) (N := some 36) (v := ?_) (a' := ?_) #[true, true, true, true, true, true, true, true, true, true, true, true, true, true, true, false, false, false, false, false, false, false, false, false, false, false, false, false, false, false, false] rfl rfl (any_of HT_.out (by kernel_rfl)) (fun _ _ _ h => h) (Or.inl ⟨by rfl, ?_⟩) ?_ ?_
                rotate_left
                · intro w'
                  go_simp
                  with_reducible rfl
                rotate_left
                · simp only [Act.put, List.setIfInBounds_toArray, List.set_cons_zero, List.set_cons_succ, i64_w, i32_w]
                  rfl
                refine pure_ (i := 15) (N := some 37) (v := ?_) (a' := ?_) #[true, true, true, true, true, true, true, true, true, true, true, true, true, true, true, true, false, false, false, false, false, false, false, false, false, false, false, false, false, false, false] rfl rfl (any_of HT_.out (by kernel_rfl)) (fun _ _ _ h => h) (Or.inl ⟨by rfl, ?_⟩) ?_ ?_
                rotate_left
                · intro w'
                  go_simp
                  with_reducible rfl
                rotate_left
                · simp only [Act.put, List.setIfInBounds_toArray, List.set_cons_zero, List.set_cons_succ, i64_w, i32_w]
                  rfl
                refine pure_ (i := 16) (N := some 38) (v := ?_) (a' := ?_) #[true, true, true, true, true, true, true, true, true, true, true, true, true, true, true, true, true, false, false, false, false, false, false, false, false, false, false, false, false, false, false] rfl rfl (any_of HT_.out (by kernel_rfl)) (fun _ _ _ h => h) (Or.inl ⟨by rfl, ?_⟩) ?_ ?_
                rotate_left
                · intro w'
                  go_simp
                  with_reducible rfl
                rotate_left
                · simp only [Act.put, List.setIfInBounds_toArray, List.set_cons_zero, List.set_cons_succ, i64_w, i32_w]
                  rfl
                refine pure_ (i := 17) (N := some 39) (v := ?_) (a' := ?_) #[true, true, true, true, true, true, true, true, true, true, true, true, true, true, true, true, true, true, false, false, false, false, false, false, false, false, false, false, false, false, false] rfl rfl (any_of HT_.out (by kernel_rfl)) (fun _ _ _ h => h) (Or.inl ⟨by rfl, ?_⟩) ?_ ?_
                rotate_left
                · intro w'
                  go_simp
                  with_reducible rfl
                rotate_left
                · simp only [Act.put, List.setIfInBounds_toArray, List.set_cons_zero, List.set_cons_succ, i64_w, i32_w]
                  rfl
                refine pure_ (i := 18) (N := some 40) (v := undef) (a' := ?_) #[true, true, true, true, true, true, true, true, true, true, true, true, true, true, true, true, true, true, true, false, false, false, false, false, false, false, false, false, false, false, false] rfl rfl (any_of HT_.out (by kernel_rfl)) (fun _ _ _ h => h) (Or.inr ⟨by rfl, rfl⟩) ?_ ?_
                rotate_left
                · simp only [Act.put, List.setIfInBounds_toArray, List.set_cons_zero, List.set_cons_succ, i64_w, i32_w]
                  rfl
                refine pure_ (i := 19) (N := some 41) (v := undef) (a' := ?_) #[true, true, true, true, true, true, true, true, true, true, true, true, true, true, true, true, true, true, true, true, false, false, false, false, false, false, false, false, false, false, false] rfl rfl (any_of HT_.out (by kernel_rfl)) (fun _ _ _ h => h) (Or.inr ⟨by rfl, rfl⟩) ?_ ?_
                rotate_left
                · simp only [Act.put, List.setIfInBounds_toArray, List.set_cons_zero, List.set_cons_succ, i64_w, i32_w]
                  rfl
                refine pure_ (i := 20) (N := some 42) (v := undef) (a' := ?_) #[true, true, true, true, true, true, true, true, true, true, true, true, true, true, true, true, true, true, true, true, true, false, false, false, false, false, false, false, false, false, false] rfl rfl (any_of HT_.out (by kernel_rfl)) (fun _ _ _ h => h) (Or.inr ⟨by rfl, rfl⟩) ?_ ?_
                rotate_left
                · simp only [Act.put, List.setIfInBounds_toArray, List.set_cons_zero, List.set_cons_succ, i64_w, i32_w]
                  rfl
                refine pure_ (i := 21) (N := some 43) (v := undef) (a' := ?_) #[true, true, true, true, true, true, true, true, true, true, true, true, true, true, true, true, true, true, true, true, true, true, false, false, false, false, false, false, false, false, false] rfl rfl (any_of HT_.out (by kernel_rfl)) (fun _ _ _ h => h) (Or.inr ⟨by rfl, rfl⟩) ?_ ?_
                rotate_left
                · simp only [Act.put, List.setIfInBounds_toArray, List.set_cons_zero, List.set_cons_succ, i64_w, i32_w]
                  rfl
                refine pure_ (i := 22) (N := some 44) (v := undef) (a' := ?_) #[true, true, true, true, true, true, true, true, true, true, true, true, true, true, true, true, true, true, true, true, true, true, true, false, false, false, false, false, false, false, false] rfl rfl (any_of HT_.out (by kernel_rfl)) (fun _ _ _ h => h) (Or.inr ⟨by rfl, rfl⟩) ?_ ?_
                rotate_left
                · simp only [Act.put, List.setIfInBounds_toArray, List.set_cons_zero, List.set_cons_succ, i64_w, i32_w]
                  rfl
                refine pure_ (i := 23) (N := some 45) (v := undef) (a' := ?_) #[true, true, true, true, true, true, true, true, true, true, true, true, true, true, true, true, true, true, true, true, true, true, true, true, false, false, false, false, false, false, false] rfl rfl (any_of HT_.out (by kernel_rfl)) (fun _ _ _ h => h) (Or.inr ⟨by rfl, rfl⟩) ?_ ?_
                rotate_left
                · simp only [Act.put, List.setIfInBounds_toArray, List.set_cons_zero, List.set_cons_succ, i64_w, i32_w]
                  rfl
                refine pure_ (i := 24) (N := some 46) (v := undef) (a' := ?_) #[true, true, true, true, true, true, true, true, true, true, true, true, true, true, true, true, true, true, true, true, true, true, true, true, true, false, false, false, false, false, false] rfl rfl (any_of HT_.out (by kernel_rfl)) (fun _ _ _ h => h) (Or.inr ⟨by rfl, rfl⟩) ?_ ?_
                rotate_left
                · simp only [Act.put, List.setIfInBounds_toArray, List.set_cons_zero, List.set_cons_succ, i64_w, i32_w]
                  rfl
                refine pure_ (i := 25) (N := some 47) (v := undef) (a' := ?_) #[true, true, true, true, true, true, true, true, true, true, true, true, true, true, true, true, true, true, true, true, true, true, true, true, true, true, false, false, false, false, false] rfl rfl (any_of HT_.out (by kernel_rfl)) (fun _ _ _ h => h) (Or.inr ⟨by rfl, rfl⟩) ?_ ?_
                rotate_left
                · simp only [Act.put, List.setIfInBounds_toArray, List.set_cons_zero, List.set_cons_succ, i64_w, i32_w]
                  rfl
                refine pure_ (i := 26) (N := some 48) (v := undef) (a' := ?_) #[true, true, true, true, true, true, true, true, true, true, true, true, true, true, true, true, true, true, true, true, true, true, true, true, true, true, true, false, false, false, false] rfl rfl (any_of HT_.out (by kernel_rfl)) (fun _ _ _ h => h) (Or.inr ⟨by rfl, rfl⟩) ?_ ?_
                rotate_left
                · simp only [Act.put, List.setIfInBounds_toArray, List.set_cons_zero, List.set_cons_succ, i64_w, i32_w]
                  rfl
                refine pure_ (i := 27) (N := some 49) (v := undef) (a' := ?_) #[true, true, true, true, true, true, true, true, true, true, true, true, true, true, true, true, true, true, true, true, true, true, true, true, true, true, true, true, false, false, false] rfl rfl (any_of HT_.out (by kernel_rfl)) (fun _ _ _ h => h) (Or.inr ⟨by rfl, rfl⟩) ?_ ?_
                rotate_left
                · simp only [Act.put, List.setIfInBounds_toArray, List.set_cons_zero, List.set_cons_succ, i64_w, i32_w]
                  rfl
                refine pure_ (i := 28) (N := some 50) (v := undef) (a' := ?_) #[true, true, true, true, true, true, true, true, true, true, true, true, true, true, true, true, true, true, true, true, true, true, true, true, true, true, true, true, true, false, false] rfl rfl (any_of HT_.out (by kernel_rfl)) (fun _ _ _ h => h) (Or.inr ⟨by rfl, rfl⟩) ?_ ?_
                rotate_left
                · simp only [Act.put, List.setIfInBounds_toArray, List.set_cons_zero, List.set_cons_succ, i64_w, i32_w]
                  rfl
                refine pure_ (i := 29) (N := some 51) (v := ?_) (a' := ?_) #[true, true, true, true, true, true, true, true, true, true, true, true, true, true, true, true, true, true, true, true, true, true, true, true, true, true, true, true, true, true, false] rfl rfl (any_of HT_.out (by kernel_rfl)) (fun _ _ _ h => h) (Or.inl ⟨by rfl, ?_⟩) ?_ ?_
                rotate_left
                · intro w'
                  go_simp
                  with_reducible rfl
                rotate_left
                · simp only [Act.put, List.setIfInBounds_toArray, List.set_cons_zero, List.set_cons_succ, i64_w, i32_w]
                  rfl
                refine pure_ (i := 30) (N := some 52) (v := ?_) (a' := ?_) #[true, true, true, true, true, true, true, true, true, true, true, true, true, true, true, true, true, true, true, true, true, true, true, true, true, true, true, true, true, true, true] rfl rfl (any_of HT_.out (by kernel_rfl)) (fun _ _ _ h => h) (Or.inl ⟨by rfl, ?_⟩) ?_ ?_
                rotate_left
                · intro w'
                  go_simp
                  with_reducible rfl
                rotate_left
                · simp only [Act.put, List.setIfInBounds_toArray, List.set_cons_zero, List.set_cons_succ, i64_w, i32_w]
                  rfl
                refine done_ (done_of HT_.out (by kernel_rfl)) ?_
                try go_wp2
                go_meet
                case rel => exact ⟨_, (false), (by first | rfl | (simp; done) | (simp [*]; done)), H', ⟨by have := HK1.out; first | omega | exact Nat.le_refl _⟩, ⟨by (with_reducible repeat (first | apply Kd.R_alloc | apply Kd.R_drewN | apply Kd.R_drew)); exact HO_4.out⟩, ⟨by repeat (first | (with_reducible first | exact HB.out | apply below_alloc | apply pw_below_drewN | apply below_drew1) | exact HB.out)⟩⟩
          · replace c13 := Bool.eq_false_iff.mpr c13
            subst c13
            have H1 : (cleanselaw21_BondLast.j1 k1 l0 t539 t541 x5_1 true) = some true := by rw [if_neg (show ¬ (false = true) by decide)] at H; exact H
            exact absurd H1 (by cases k1 <;> simp [cleanselaw21_BondLast.j1])
        · rw [if_neg c11] at H
          exact absurd H (by simp)
       case rest =>
        clear HC9
        try clear c1
        try clear c2
        try clear p2
        try clear p5
        try clear q5
        try clear hx5
        try clear c11
        try clear c13
        try clear c17
        try clear c17b0
        try clear c19
        try clear c20
        try clear c21
        try clear hx544_0
        try clear hx544_1
        try clear hx544_2
        try clear hx544_3
        try clear hx544_4
        try clear hx544_5
        try clear hx544_6
        try clear hx546_0
        try clear hx546_1
        try clear hx546_2
        try clear hx546_3
        try clear hx546_4
        try clear hx546_5
        try clear hx546_6
        try clear p544
        try clear p546
        try clear q544
        try clear q546
        obtain ⟨kq, x52_8, rfl, HA, HJ8, HO_4, HB⟩ := hcut
        cases kq with
        | zero => exact absurd HA.out (by simp [cleanselaw21_BondLast.j1])
        | succ kj8 =>
         have H := HA.out
         clear HA
         simp only [cleanselaw21_BondLast.j1] at H
         by_cases c29 : x52_8 = true
         · subst c29
           have H1 : (some false) = some true := by rw [if_pos rfl] at H; exact H
           clear H
           have H := H1
           clear H1
           exact absurd H (by simp)
         · replace c29 := Bool.eq_false_iff.mpr c29
           subst c29
           have H1 : (cleanselaw21_BondLast.l1 kj8 l0 t539 t541 x5_1 0 0 0 (⟨#[]⟩ : ByteArray) (⟨#[]⟩ : ByteArray) 0 (⟨#[]⟩ : ByteArray) (⟨#[]⟩ : ByteArray)) = some true := by rw [if_neg (show ¬ (false = true) by decide)] at H; exact H
           clear H
           have H := H1
           clear H1
           have H' := Aside0.mk H
           clear H
           go_wp2_with (first | ((with_reducible refine gate_dst (N := 6) rfl ?_); refine box_event ?hg (N := 6) ?hd (cs := #[.int .i64 0, .int .i64 0, .string (⟨#[]⟩ : ByteArray), .string (⟨#[]⟩ : ByteArray), .int .i64 0, .string (⟨#[]⟩ : ByteArray), .string (⟨#[]⟩ : ByteArray)]) (t := 39) ?hr ?_; (case hd => rfl); (case hg => rfl); (case hr => first | (go_simp; done) | (go_simp; rfl)); intro gb550 hg w30 hbox hb; have n0_ := Aside0.mk (Kd.R_below (Kd.R_elderB (by (with_reducible repeat (first | apply Kd.R_alloc | apply Kd.R_drewN | apply Kd.R_drew)); exact HO_4.out) gb550 (Nat.le_of_eq hg.symm)) hb); have n1_ := Aside0.mk (below_step (by repeat (first | (with_reducible first | exact HB.out | apply below_alloc | apply pw_below_drewN | apply below_drew1) | exact HB.out)) hb); have n2_ := Aside0.mk (hbox); have n3_ := Aside0.mk ((by rw [hg]; exact (below_size (by repeat (first | (with_reducible first | exact HB.out | apply below_alloc | apply pw_below_drewN | apply below_drew1) | exact HB.out))) : w.heap.size ≤ gb550)); have n4_ := Aside0.mk ((by rw [hg]; exact (below_size (by repeat (first | (with_reducible first | exact HB.out | apply below_alloc | apply pw_below_drewN | apply below_drew1) | exact HB.out))) : w.heap.size ≤ gb550)); clear HO_4; clear HB; have HO_4 := n0_; have HB := n1_; have BK550 := n2_; have GW550 := n3_; have GE550 := n4_; clear n0_ n1_ n2_ n3_ n4_; clear hb hbox hg; have hcz31_0 : w30.cell? ⟨gb550, 0, none⟩ = some (.int .i64 0) := (blk_cell BK550.out 0).trans rfl; have hcz31_1 : w30.cell? ⟨gb550, 1, none⟩ = some (.int .i64 0) := (blk_cell BK550.out 1).trans rfl; have hcz31_2 : w30.cell? ⟨gb550, 2, none⟩ = some (.string (⟨#[]⟩ : ByteArray)) := (blk_cell BK550.out 2).trans rfl; have hcz31_3 : w30.cell? ⟨gb550, 3, none⟩ = some (.string (⟨#[]⟩ : ByteArray)) := (blk_cell BK550.out 3).trans rfl; have hcz31_4 : w30.cell? ⟨gb550, 4, none⟩ = some (.int .i64 0) := (blk_cell BK550.out 4).trans rfl; have hcz31_5 : w30.cell? ⟨gb550, 5, none⟩ = some (.string (⟨#[]⟩ : ByteArray)) := (blk_cell BK550.out 5).trans rfl; have hcz31_6 : w30.cell? ⟨gb550, 6, none⟩ = some (.string (⟨#[]⟩ : ByteArray)) := (blk_cell BK550.out 6).trans rfl; have hfz31_0 := blk_frozen BK550.out 0; have hfz31_1 := blk_frozen BK550.out 1; have hfz31_2 := blk_frozen BK550.out 2; have hfz31_3 := blk_frozen BK550.out 3; have hfz31_4 := blk_frozen BK550.out 4; have hfz31_5 := blk_frozen BK550.out 5; have hfz31_6 := blk_frozen BK550.out 6))
           go_loopg [7] kj8 (fun kq v7 w' => ∃ (x7_3 : Int) (x551000_3 : Int) (x551001_3 : Int) (x551002_3 : ByteArray) (x551003_3 : ByteArray) (x551004_3 : Int) (x551005_3 : ByteArray) (x551006_3 : ByteArray), v7 = .int .i64 x7_3 ∧ Aside0 (cleanselaw21_BondLast.l1 kq l0 t539 t541 x5_1 x7_3 x551000_3 x551001_3 x551002_3 x551003_3 x551004_3 x551005_3 x551006_3 = some true) ∧ Aside0 (kq ≤ kj8) ∧ Aside0 (Kd.R k39 39 w' w.heap.size (fun k_ => k_ ≠ gb550) (.slice Ao10 t541.length co10) t541) ∧ Aside0 (w'.heap[gb550]? = some (.cells #[.int .i64 x551000_3, .int .i64 x551001_3, .string x551002_3, .string x551003_3, .int .i64 x551004_3, .string x551005_3, .string x551006_3] 39 (0, 0))) ∧ Aside0 (Below w.heap.size w w'))
           case atStart => exact ⟨(0), (0), (0), ((⟨#[]⟩ : ByteArray)), ((⟨#[]⟩ : ByteArray)), (0), ((⟨#[]⟩ : ByteArray)), ((⟨#[]⟩ : ByteArray)), (by first | rfl | (simp; done) | (simp [*]; done)), H', ⟨Nat.le_refl _⟩, ⟨by (with_reducible repeat (first | apply Kd.R_alloc | apply Kd.R_drewN | apply Kd.R_drew)); exact Kd.R_mono (Kd.R_far (p := ⟨gb550, 6, none⟩) (Kd.R_far (p := ⟨gb550, 5, none⟩) (Kd.R_far (p := ⟨gb550, 4, none⟩) (Kd.R_far (p := ⟨gb550, 3, none⟩) (Kd.R_far (p := ⟨gb550, 2, none⟩) (Kd.R_far (p := ⟨gb550, 1, none⟩) (Kd.R_far (p := ⟨gb550, 0, none⟩) (Kd.R_mono HO_4.out (fun k_ hk => (⟨hk, hk.2⟩ : _ ∧ k_ ≠ gb550))) (fun _ hk => hk.2) (.int .i64 0)) (fun _ hk => hk.2) (.int .i64 0)) (fun _ hk => hk.2) (.string (⟨#[]⟩ : ByteArray))) (fun _ hk => hk.2) (.string (⟨#[]⟩ : ByteArray))) (fun _ hk => hk.2) (.int .i64 0)) (fun _ hk => hk.2) (.string (⟨#[]⟩ : ByteArray))) (fun _ hk => hk.2) (.string (⟨#[]⟩ : ByteArray))) (fun _ hk => hk.1.2)⟩, ⟨by (with_reducible repeat (first | refine blk_drewN ?_ _ | refine blk_drew ?_ | refine blk_alloc ?_ _)); refine blk_put (cs := #[.int .i64 0, .int .i64 0, .string (⟨#[]⟩ : ByteArray), .string (⟨#[]⟩ : ByteArray), .int .i64 0, .string (⟨#[]⟩ : ByteArray), .string (⟨#[]⟩ : ByteArray)]) ?_ 6 _ rfl; (with_reducible repeat (first | refine blk_drewN ?_ _ | refine blk_drew ?_ | refine blk_alloc ?_ _)); refine blk_put (cs := #[.int .i64 0, .int .i64 0, .string (⟨#[]⟩ : ByteArray), .string (⟨#[]⟩ : ByteArray), .int .i64 0, .string (⟨#[]⟩ : ByteArray), .string (⟨#[]⟩ : ByteArray)]) ?_ 5 _ rfl; (with_reducible repeat (first | refine blk_drewN ?_ _ | refine blk_drew ?_ | refine blk_alloc ?_ _)); refine blk_put (cs := #[.int .i64 0, .int .i64 0, .string (⟨#[]⟩ : ByteArray), .string (⟨#[]⟩ : ByteArray), .int .i64 0, .string (⟨#[]⟩ : ByteArray), .string (⟨#[]⟩ : ByteArray)]) ?_ 4 _ rfl; (with_reducible repeat (first | refine blk_drewN ?_ _ | refine blk_drew ?_ | refine blk_alloc ?_ _)); refine blk_put (cs := #[.int .i64 0, .int .i64 0, .string (⟨#[]⟩ : ByteArray), .string (⟨#[]⟩ : ByteArray), .int .i64 0, .string (⟨#[]⟩ : ByteArray), .string (⟨#[]⟩ : ByteArray)]) ?_ 3 _ rfl; (with_reducible repeat (first | refine blk_drewN ?_ _ | refine blk_drew ?_ | refine blk_alloc ?_ _)); refine blk_put (cs := #[.int .i64 0, .int .i64 0, .string (⟨#[]⟩ : ByteArray), .string (⟨#[]⟩ : ByteArray), .int .i64 0, .string (⟨#[]⟩ : ByteArray), .string (⟨#[]⟩ : ByteArray)]) ?_ 2 _ rfl; (with_reducible repeat (first | refine blk_drewN ?_ _ | refine blk_drew ?_ | refine blk_alloc ?_ _)); refine blk_put (cs := #[.int .i64 0, .int .i64 0, .string (⟨#[]⟩ : ByteArray), .string (⟨#[]⟩ : ByteArray), .int .i64 0, .string (⟨#[]⟩ : ByteArray), .string (⟨#[]⟩ : ByteArray)]) ?_ 1 _ rfl; (with_reducible repeat (first | refine blk_drewN ?_ _ | refine blk_drew ?_ | refine blk_alloc ?_ _)); refine blk_put (cs := #[.int .i64 0, .int .i64 0, .string (⟨#[]⟩ : ByteArray), .string (⟨#[]⟩ : ByteArray), .int .i64 0, .string (⟨#[]⟩ : ByteArray), .string (⟨#[]⟩ : ByteArray)]) ?_ 0 _ rfl; (with_reducible repeat (first | refine blk_drewN ?_ _ | refine blk_drew ?_ | refine blk_alloc ?_ _)); exact BK550.out⟩, ⟨by repeat (first | (with_reducible first | exact HB.out | apply below_alloc | apply pw_below_drewN | apply below_drew1 | refine below_set ?_ GE550.out) | exact HB.out)⟩⟩
           case round =>
            clear H'
            try clear c1
            try clear c2
            try clear p2
            try clear p5
            try clear q5
            try clear hx5
            try clear c11
            try clear c13
            try clear c17
            try clear c17b0
            try clear c19
            try clear c20
            try clear c21
            try clear c29
            try clear hcz31_0
            try clear hcz31_1
            try clear hcz31_2
            try clear hcz31_3
            try clear hcz31_4
            try clear hcz31_5
            try clear hcz31_6
            try clear hfz31_0
            try clear hfz31_1
            try clear hfz31_2
            try clear hfz31_3
            try clear hfz31_4
            try clear hfz31_5
            try clear hfz31_6
            try clear hx544_0
            try clear hx544_1
            try clear hx544_2
            try clear hx544_3
            try clear hx544_4
            try clear hx544_5
            try clear hx544_6
            try clear hx546_0
            try clear hx546_1
            try clear hx546_2
            try clear hx546_3
            try clear hx546_4
            try clear hx546_5
            try clear hx546_6
            try clear p2
            try clear p5
            try clear p544
            try clear p546
            try clear q5
            try clear q544
            try clear q546
            obtain ⟨x7_3, x551000_3, x551001_3, x551002_3, x551003_3, x551004_3, x551005_3, x551006_3, rfl, HA, HK3, HO_4, BK550, HB⟩ := hrel
            cases gk with
            | zero => exact absurd HA.out (by simp [cleanselaw21_BondLast.l1])
            | succ k3 =>
             have H := HA.out
             clear HA
             simp only [cleanselaw21_BondLast.l1] at H
             by_cases c32 : x7_3 < (l0.length : Int)
             · rw [if_pos c32] at H
               have c32b0 : decide (x7_3 < (l0.length : Int)) = true := decide_eq_true c32
               clear c32
               by_cases c33 : 0 ≤ x7_3
               · rw [if_pos c33] at H
                 have c33b0 : decide (0 ≤ x7_3) = true := decide_eq_true c33
                 clear c33
                 replace H := Option.bind_eq_some_iff.mp H
                 obtain ⟨t552, A340, H⟩ := H
                 replace H : (if t552 = true then (if 0 ≤ x5_1 then (if x5_1 < (t541.length : Int) then (if (((rd_T39 l0 x7_3).f1.f0) == ((rd_T39 t541 x5_1).f1.f0) && ((((rd_T39 l0 x7_3).f1.f1).toList) == (((rd_T39 t541 x5_1).f1.f1).toList) && ((((rd_T39 l0 x7_3).f1.f2).toList) == (((rd_T39 t541 x5_1).f1.f2).toList)))) = true then (if (((rd_T39 l0 x7_3).f2.f0) == ((rd_T39 t541 x5_1).f2.f0) && ((((rd_T39 l0 x7_3).f2.f1).toList) == (((rd_T39 t541 x5_1).f2.f1).toList) && ((((rd_T39 l0 x7_3).f2.f2).toList) == (((rd_T39 t541 x5_1).f2.f2).toList)))) = true then (cleanselaw21_BondLast.l1 k3 l0 t539 t541 x5_1 (wrap64 (x7_3 + 1)) ((rd_T39 l0 x7_3).f0) ((rd_T39 l0 x7_3).f1.f0) ((rd_T39 l0 x7_3).f1.f1) ((rd_T39 l0 x7_3).f1.f2) ((rd_T39 l0 x7_3).f2.f0) ((rd_T39 l0 x7_3).f2.f1) ((rd_T39 l0 x7_3).f2.f2)) else (cleanselaw21_BondLast.l1 k3 l0 t539 t541 x5_1 (wrap64 (x7_3 + 1)) x551000_3 x551001_3 x551002_3 x551003_3 x551004_3 x551005_3 x551006_3)) else (cleanselaw21_BondLast.l1 k3 l0 t539 t541 x5_1 (wrap64 (x7_3 + 1)) x551000_3 x551001_3 x551002_3 x551003_3 x551004_3 x551005_3 x551006_3)) else (none)) else (none)) else (cleanselaw21_BondLast.l1 k3 l0 t539 t541 x5_1 (wrap64 (x7_3 + 1)) x551000_3 x551001_3 x551002_3 x551003_3 x551004_3 x551005_3 x551006_3)) = some true := H
                 have A34 := Aside0.mk A340
                 clear A340
                 by_cases c35 : t552 = true
                 · subst c35
                   have H1 : (if 0 ≤ x5_1 then (if x5_1 < (t541.length : Int) then (if (((rd_T39 l0 x7_3).f1.f0) == ((rd_T39 t541 x5_1).f1.f0) && ((((rd_T39 l0 x7_3).f1.f1).toList) == (((rd_T39 t541 x5_1).f1.f1).toList) && ((((rd_T39 l0 x7_3).f1.f2).toList) == (((rd_T39 t541 x5_1).f1.f2).toList)))) = true then (if (((rd_T39 l0 x7_3).f2.f0) == ((rd_T39 t541 x5_1).f2.f0) && ((((rd_T39 l0 x7_3).f2.f1).toList) == (((rd_T39 t541 x5_1).f2.f1).toList) && ((((rd_T39 l0 x7_3).f2.f2).toList) == (((rd_T39 t541 x5_1).f2.f2).toList)))) = true then (cleanselaw21_BondLast.l1 k3 l0 t539 t541 x5_1 (wrap64 (x7_3 + 1)) ((rd_T39 l0 x7_3).f0) ((rd_T39 l0 x7_3).f1.f0) ((rd_T39 l0 x7_3).f1.f1) ((rd_T39 l0 x7_3).f1.f2) ((rd_T39 l0 x7_3).f2.f0) ((rd_T39 l0 x7_3).f2.f1) ((rd_T39 l0 x7_3).f2.f2)) else (cleanselaw21_BondLast.l1 k3 l0 t539 t541 x5_1 (wrap64 (x7_3 + 1)) x551000_3 x551001_3 x551002_3 x551003_3 x551004_3 x551005_3 x551006_3)) else (cleanselaw21_BondLast.l1 k3 l0 t539 t541 x5_1 (wrap64 (x7_3 + 1)) x551000_3 x551001_3 x551002_3 x551003_3 x551004_3 x551005_3 x551006_3)) else (none)) else (none)) = some true := by rw [if_pos rfl] at H; exact H
                   clear H
                   have H := H1
                   clear H1
                   by_cases c36 : 0 ≤ x5_1
                   · rw [if_pos c36] at H
                     have c36b0 : decide (0 ≤ x5_1) = true := decide_eq_true c36
                     clear c36
                     by_cases c37 : x5_1 < (t541.length : Int)
                     · rw [if_pos c37] at H
                       have c37b0 : decide (x5_1 < (t541.length : Int)) = true := decide_eq_true c37
                       clear c37
                       by_cases c38 : (((rd_T39 l0 x7_3).f1.f0) == ((rd_T39 t541 x5_1).f1.f0) && ((((rd_T39 l0 x7_3).f1.f1).toList) == (((rd_T39 t541 x5_1).f1.f1).toList) && ((((rd_T39 l0 x7_3).f1.f2).toList) == (((rd_T39 t541 x5_1).f1.f2).toList)))) = true
                       · rw [if_pos c38] at H
                         have c38b0 : (((rd_T39 l0 x7_3).f1.f0) == ((rd_T39 t541 x5_1).f1.f0) && ((((rd_T39 l0 x7_3).f1.f1).toList) == (((rd_T39 t541 x5_1).f1.f1).toList) && ((((rd_T39 l0 x7_3).f1.f2).toList) == (((rd_T39 t541 x5_1).f1.f2).toList)))) = true := c38
                         (try (have c38b1 : decide (((rd_T39 l0 x7_3).f1.f0) = ((rd_T39 t541 x5_1).f1.f0) && ((((rd_T39 l0 x7_3).f1.f1).toList) == (((rd_T39 t541 x5_1).f1.f1).toList) && ((((rd_T39 l0 x7_3).f1.f2).toList) == (((rd_T39 t541 x5_1).f1.f2).toList)))) = true := by simpa using c38))
                         (try (have c38b2 : (((rd_T39 l0 x7_3).f1.f0) == ((rd_T39 t541 x5_1).f1.f0) && ((((rd_T39 l0 x7_3).f1.f1).toList) == (((rd_T39 t541 x5_1).f1.f1).toList) && ((((rd_T39 l0 x7_3).f1.f2).toList) == (((rd_T39 t541 x5_1).f1.f2).toList)))) = true := by simpa using c38))
                         clear c38
                         by_cases c39 : (((rd_T39 l0 x7_3).f2.f0) == ((rd_T39 t541 x5_1).f2.f0) && ((((rd_T39 l0 x7_3).f2.f1).toList) == (((rd_T39 t541 x5_1).f2.f1).toList) && ((((rd_T39 l0 x7_3).f2.f2).toList) == (((rd_T39 t541 x5_1).f2.f2).toList)))) = true
                         · rw [if_pos c39] at H
                           have c39b0 : (((rd_T39 l0 x7_3).f2.f0) == ((rd_T39 t541 x5_1).f2.f0) && ((((rd_T39 l0 x7_3).f2.f1).toList) == (((rd_T39 t541 x5_1).f2.f1).toList) && ((((rd_T39 l0 x7_3).f2.f2).toList) == (((rd_T39 t541 x5_1).f2.f2).toList)))) = true := c39
                           (try (have c39b1 : decide (((rd_T39 l0 x7_3).f2.f0) = ((rd_T39 t541 x5_1).f2.f0) && ((((rd_T39 l0 x7_3).f2.f1).toList) == (((rd_T39 t541 x5_1).f2.f1).toList) && ((((rd_T39 l0 x7_3).f2.f2).toList) == (((rd_T39 t541 x5_1).f2.f2).toList)))) = true := by simpa using c39))
                           (try (have c39b2 : (((rd_T39 l0 x7_3).f2.f0) == ((rd_T39 t541 x5_1).f2.f0) && ((((rd_T39 l0 x7_3).f2.f1).toList) == (((rd_T39 t541 x5_1).f2.f1).toList) && ((((rd_T39 l0 x7_3).f2.f2).toList) == (((rd_T39 t541 x5_1).f2.f2).toList)))) = true := by simpa using c39))
                           clear c39
                           have H' := Aside0.mk H
                           clear H
                           try go_wp2
                           have n0_ := Aside0.mk (Kd.R_drew HO_4.out)
                           have n1_ := Aside0.mk (blk_drew BK550.out)
                           have n2_ := Aside0.mk (below_drew1 HB.out)
                           clear HO_4
                           clear BK550
                           clear HB
                           have HO_4 := n0_
                           have BK550 := n1_
                           have HB := n2_
                           clear n0_ n1_ n2_
                           have p551 : 0 ≤ (x7_3 : Int) := of_decide_eq_true (by first | (with_reducible assumption) | assumption)
                           have q551 : x7_3 < (l0.length : Int) := of_decide_eq_true (by first | (with_reducible assumption) | assumption)
                           obtain ⟨ad551, e551, hx551_0, hx551_1, hx551_2, hx551_3, hx551_4, hx551_5, hx551_6⟩ := at_T39 HR0.out x7_3 p551 q551
                           have hw551_6 := hx551_6
                           have hw551_5 := hx551_5
                           have hw551_4 := hx551_4
                           have hw551_3 := hx551_3
                           have hw551_2 := hx551_2
                           have hw551_1 := hx551_1
                           have hw551_0 := hx551_0
                           cases e551
                           replace hx551_0 := (HB.out.cell (World.block_lt_of_cell? w _ hx551_0)).trans hx551_0
                           replace hx551_1 := (HB.out.cell (World.block_lt_of_cell? w _ hx551_1)).trans hx551_1
                           replace hx551_2 := (HB.out.cell (World.block_lt_of_cell? w _ hx551_2)).trans hx551_2
                           replace hx551_3 := (HB.out.cell (World.block_lt_of_cell? w _ hx551_3)).trans hx551_3
                           replace hx551_4 := (HB.out.cell (World.block_lt_of_cell? w _ hx551_4)).trans hx551_4
                           replace hx551_5 := (HB.out.cell (World.block_lt_of_cell? w _ hx551_5)).trans hx551_5
                           replace hx551_6 := (HB.out.cell (World.block_lt_of_cell? w _ hx551_6)).trans hx551_6
                           replace p551 := eq_true p551
                           replace q551 := eq_true q551
                           have p553 : 0 ≤ (x7_3 : Int) := of_decide_eq_true (by first | (with_reducible assumption) | assumption)
                           have q553 : x7_3 < (l0.length : Int) := of_decide_eq_true (by first | (with_reducible assumption) | assumption)
                           obtain ⟨ad553, e553, hx553_0, hx553_1, hx553_2, hx553_3, hx553_4, hx553_5, hx553_6⟩ := at_T39 HR0.out x7_3 p553 q553
                           have hw553_6 := hx553_6
                           have hw553_5 := hx553_5
                           have hw553_4 := hx553_4
                           have hw553_3 := hx553_3
                           have hw553_2 := hx553_2
                           have hw553_1 := hx553_1
                           have hw553_0 := hx553_0
                           obtain rfl : ad551 = ad553 := (by injection e553)
                           replace hx553_0 := (HB.out.cell (World.block_lt_of_cell? w _ hx553_0)).trans hx553_0
                           replace hx553_1 := (HB.out.cell (World.block_lt_of_cell? w _ hx553_1)).trans hx553_1
                           replace hx553_2 := (HB.out.cell (World.block_lt_of_cell? w _ hx553_2)).trans hx553_2
                           replace hx553_3 := (HB.out.cell (World.block_lt_of_cell? w _ hx553_3)).trans hx553_3
                           replace hx553_4 := (HB.out.cell (World.block_lt_of_cell? w _ hx553_4)).trans hx553_4
                           replace hx553_5 := (HB.out.cell (World.block_lt_of_cell? w _ hx553_5)).trans hx553_5
                           replace hx553_6 := (HB.out.cell (World.block_lt_of_cell? w _ hx553_6)).trans hx553_6
                           replace p553 := eq_true p553
                           replace q553 := eq_true q553
                           have p554 : 0 ≤ (x5_1 : Int) := of_decide_eq_true (by first | (with_reducible assumption) | assumption)
                           have q554 : x5_1 < (t541.length : Int) := of_decide_eq_true (by first | (with_reducible assumption) | assumption)
                           obtain ⟨ad554, e554, hx554_0, hx554_1, hx554_2, hx554_3, hx554_4, hx554_5, hx554_6⟩ := at_T39 (Kd.R_reads' HO_4.out).2.2 x5_1 p554 q554
                           cases e554
                           replace p554 := eq_true p554
                           replace q554 := eq_true q554
                           have p555 : 0 ≤ (x7_3 : Int) := of_decide_eq_true (by first | (with_reducible assumption) | assumption)
                           have q555 : x7_3 < (l0.length : Int) := of_decide_eq_true (by first | (with_reducible assumption) | assumption)
                           obtain ⟨ad555, e555, hx555_0, hx555_1, hx555_2, hx555_3, hx555_4, hx555_5, hx555_6⟩ := at_T39 HR0.out x7_3 p555 q555
                           have hw555_6 := hx555_6
                           have hw555_5 := hx555_5
                           have hw555_4 := hx555_4
                           have hw555_3 := hx555_3
                           have hw555_2 := hx555_2
                           have hw555_1 := hx555_1
                           have hw555_0 := hx555_0
                           obtain rfl : ad551 = ad555 := (by injection e555)
                           replace hx555_0 := (HB.out.cell (World.block_lt_of_cell? w _ hx555_0)).trans hx555_0
                           replace hx555_1 := (HB.out.cell (World.block_lt_of_cell? w _ hx555_1)).trans hx555_1
                           replace hx555_2 := (HB.out.cell (World.block_lt_of_cell? w _ hx555_2)).trans hx555_2
                           replace hx555_3 := (HB.out.cell (World.block_lt_of_cell? w _ hx555_3)).trans hx555_3
                           replace hx555_4 := (HB.out.cell (World.block_lt_of_cell? w _ hx555_4)).trans hx555_4
                           replace hx555_5 := (HB.out.cell (World.block_lt_of_cell? w _ hx555_5)).trans hx555_5
                           replace hx555_6 := (HB.out.cell (World.block_lt_of_cell? w _ hx555_6)).trans hx555_6
                           replace p555 := eq_true p555
                           replace q555 := eq_true q555
                           have p556 : 0 ≤ (x5_1 : Int) := of_decide_eq_true (by first | (with_reducible assumption) | assumption)
                           have q556 : x5_1 < (t541.length : Int) := of_decide_eq_true (by first | (with_reducible assumption) | assumption)
                           obtain ⟨ad556, e556, hx556_0, hx556_1, hx556_2, hx556_3, hx556_4, hx556_5, hx556_6⟩ := at_T39 (Kd.R_reads' HO_4.out).2.2 x5_1 p556 q556
                           obtain rfl : ad554 = ad556 := (by injection e556)
                           replace p556 := eq_true p556
                           replace q556 := eq_true q556
                           refine start_ (n := 31) (S := fun w' => w'.cell? (ad551.add ((x7_3).toNat * 7)) = some (.int .i64 ((rd_T39 l0 x7_3).f0)) ∧ w'.cell? ⟨(ad551.add ((x7_3).toNat * 7)).block, (ad551.add ((x7_3).toNat * 7)).off + 1, none⟩ = some (.int .i64 ((rd_T39 l0 x7_3).f1.f0)) ∧ w'.cell? ⟨(ad551.add ((x7_3).toNat * 7)).block, (ad551.add ((x7_3).toNat * 7)).off + 2, none⟩ = some (.string ((rd_T39 l0 x7_3).f1.f1)) ∧ w'.cell? ⟨(ad551.add ((x7_3).toNat * 7)).block, (ad551.add ((x7_3).toNat * 7)).off + 3, none⟩ = some (.string ((rd_T39 l0 x7_3).f1.f2)) ∧ w'.cell? ⟨(ad551.add ((x7_3).toNat * 7)).block, (ad551.add ((x7_3).toNat * 7)).off + 4, none⟩ = some (.int .i64 ((rd_T39 l0 x7_3).f2.f0)) ∧ w'.cell? ⟨(ad551.add ((x7_3).toNat * 7)).block, (ad551.add ((x7_3).toNat * 7)).off + 5, none⟩ = some (.string ((rd_T39 l0 x7_3).f2.f1)) ∧ w'.cell? ⟨(ad551.add ((x7_3).toNat * 7)).block, (ad551.add ((x7_3).toNat * 7)).off + 6, none⟩ = some (.string ((rd_T39 l0 x7_3).f2.f2)) ∧ w'.cell? (ad551.add ((x7_3).toNat * 7)) = some (.int .i64 ((rd_T39 l0 x7_3).f0)) ∧ w'.cell? ⟨(ad551.add ((x7_3).toNat * 7)).block, (ad551.add ((x7_3).toNat * 7)).off + 1, none⟩ = some (.int .i64 ((rd_T39 l0 x7_3).f1.f0)) ∧ w'.cell? ⟨(ad551.add ((x7_3).toNat * 7)).block, (ad551.add ((x7_3).toNat * 7)).off + 2, none⟩ = some (.string ((rd_T39 l0 x7_3).f1.f1)) ∧ w'.cell? ⟨(ad551.add ((x7_3).toNat * 7)).block, (ad551.add ((x7_3).toNat * 7)).off + 3, none⟩ = some (.string ((rd_T39 l0 x7_3).f1.f2)) ∧ w'.cell? ⟨(ad551.add ((x7_3).toNat * 7)).block, (ad551.add ((x7_3).toNat * 7)).off + 4, none⟩ = some (.int .i64 ((rd_T39 l0 x7_3).f2.f0)) ∧ w'.cell? ⟨(ad551.add ((x7_3).toNat * 7)).block, (ad551.add ((x7_3).toNat * 7)).off + 5, none⟩ = some (.string ((rd_T39 l0 x7_3).f2.f1)) ∧ w'.cell? ⟨(ad551.add ((x7_3).toNat * 7)).block, (ad551.add ((x7_3).toNat * 7)).off + 6, none⟩ = some (.string ((rd_T39 l0 x7_3).f2.f2)) ∧ w'.cell? (ad554.add ((x5_1).toNat * 7)) = some (.int .i64 ((rd_T39 t541 x5_1).f0)) ∧ w'.cell? ⟨(ad554.add ((x5_1).toNat * 7)).block, (ad554.add ((x5_1).toNat * 7)).off + 1, none⟩ = some (.int .i64 ((rd_T39 t541 x5_1).f1.f0)) ∧ w'.cell? ⟨(ad554.add ((x5_1).toNat * 7)).block, (ad554.add ((x5_1).toNat * 7)).off + 2, none⟩ = some (.string ((rd_T39 t541 x5_1).f1.f1)) ∧ w'.cell? ⟨(ad554.add ((x5_1).toNat * 7)).block, (ad554.add ((x5_1).toNat * 7)).off + 3, none⟩ = some (.string ((rd_T39 t541 x5_1).f1.f2)) ∧ w'.cell? ⟨(ad554.add ((x5_1).toNat * 7)).block, (ad554.add ((x5_1).toNat * 7)).off + 4, none⟩ = some (.int .i64 ((rd_T39 t541 x5_1).f2.f0)) ∧ w'.cell? ⟨(ad554.add ((x5_1).toNat * 7)).block, (ad554.add ((x5_1).toNat * 7)).off + 5, none⟩ = some (.string ((rd_T39 t541 x5_1).f2.f1)) ∧ w'.cell? ⟨(ad554.add ((x5_1).toNat * 7)).block, (ad554.add ((x5_1).toNat * 7)).off + 6, none⟩ = some (.string ((rd_T39 t541 x5_1).f2.f2)) ∧ w'.cell? (ad551.add ((x7_3).toNat * 7)) = some (.int .i64 ((rd_T39 l0 x7_3).f0)) ∧ w'.cell? ⟨(ad551.add ((x7_3).toNat * 7)).block, (ad551.add ((x7_3).toNat * 7)).off + 1, none⟩ = some (.int .i64 ((rd_T39 l0 x7_3).f1.f0)) ∧ w'.cell? ⟨(ad551.add ((x7_3).toNat * 7)).block, (ad551.add ((x7_3).toNat * 7)).off + 2, none⟩ = some (.string ((rd_T39 l0 x7_3).f1.f1)) ∧ w'.cell? ⟨(ad551.add ((x7_3).toNat * 7)).block, (ad551.add ((x7_3).toNat * 7)).off + 3, none⟩ = some (.string ((rd_T39 l0 x7_3).f1.f2)) ∧ w'.cell? ⟨(ad551.add ((x7_3).toNat * 7)).block, (ad551.add ((x7_3).toNat * 7)).off + 4, none⟩ = some (.int .i64 ((rd_T39 l0 x7_3).f2.f0)) ∧ w'.cell? ⟨(ad551.add ((x7_3).toNat * 7)).block, (ad551.add ((x7_3).toNat * 7)).off + 5, none⟩ = some (.string ((rd_T39 l0 x7_3).f2.f1)) ∧ w'.cell? ⟨(ad551.add ((x7_3).toNat * 7)).block, (ad551.add ((x7_3).toNat * 7)).off + 6, none⟩ = some (.string ((rd_T39 l0 x7_3).f2.f2)) ∧ w'.cell? (ad554.add ((x5_1).toNat * 7)) = some (.int .i64 ((rd_T39 t541 x5_1).f0)) ∧ w'.cell? ⟨(ad554.add ((x5_1).toNat * 7)).block, (ad554.add ((x5_1).toNat * 7)).off + 1, none⟩ = some (.int .i64 ((rd_T39 t541 x5_1).f1.f0)) ∧ w'.cell? ⟨(ad554.add ((x5_1).toNat * 7)).block, (ad554.add ((x5_1).toNat * 7)).off + 2, none⟩ = some (.string ((rd_T39 t541 x5_1).f1.f1)) ∧ w'.cell? ⟨(ad554.add ((x5_1).toNat * 7)).block, (ad554.add ((x5_1).toNat * 7)).off + 3, none⟩ = some (.string ((rd_T39 t541 x5_1).f1.f2)) ∧ w'.cell? ⟨(ad554.add ((x5_1).toNat * 7)).block, (ad554.add ((x5_1).toNat * 7)).off + 4, none⟩ = some (.int .i64 ((rd_T39 t541 x5_1).f2.f0)) ∧ w'.cell? ⟨(ad554.add ((x5_1).toNat * 7)).block, (ad554.add ((x5_1).toNat * 7)).off + 5, none⟩ = some (.string ((rd_T39 t541 x5_1).f2.f1)) ∧ w'.cell? ⟨(ad554.add ((x5_1).toNat * 7)).block, (ad554.add ((x5_1).toNat * 7)).off + 6, none⟩ = some (.string ((rd_T39 t541 x5_1).f2.f2))) (ds := []) #[false, false, false, false, false, false, false, false, false, false, false, false, false, false, false, false, false, false, false, false, false, false, false, false, false, false, false, false, false, false, false] (by kernel_rfl) rfl rfl ⟨((HB.out.cell (World.block_lt_of_cell? w _ hw551_0)).trans hw551_0), ((HB.out.cell (World.block_lt_of_cell? w _ hw551_1)).trans hw551_1), ((HB.out.cell (World.block_lt_of_cell? w _ hw551_2)).trans hw551_2), ((HB.out.cell (World.block_lt_of_cell? w _ hw551_3)).trans hw551_3), ((HB.out.cell (World.block_lt_of_cell? w _ hw551_4)).trans hw551_4), ((HB.out.cell (World.block_lt_of_cell? w _ hw551_5)).trans hw551_5), ((HB.out.cell (World.block_lt_of_cell? w _ hw551_6)).trans hw551_6), ((HB.out.cell (World.block_lt_of_cell? w _ hw553_0)).trans hw553_0), ((HB.out.cell (World.block_lt_of_cell? w _ hw553_1)).trans hw553_1), ((HB.out.cell (World.block_lt_of_cell? w _ hw553_2)).trans hw553_2), ((HB.out.cell (World.block_lt_of_cell? w _ hw553_3)).trans hw553_3), ((HB.out.cell (World.block_lt_of_cell? w _ hw553_4)).trans hw553_4), ((HB.out.cell (World.block_lt_of_cell? w _ hw553_5)).trans hw553_5), ((HB.out.cell (World.block_lt_of_cell? w _ hw553_6)).trans hw553_6), hx554_0, hx554_1, hx554_2, hx554_3, hx554_4, hx554_5, hx554_6, ((HB.out.cell (World.block_lt_of_cell? w _ hw555_0)).trans hw555_0), ((HB.out.cell (World.block_lt_of_cell? w _ hw555_1)).trans hw555_1), ((HB.out.cell (World.block_lt_of_cell? w _ hw555_2)).trans hw555_2), ((HB.out.cell (World.block_lt_of_cell? w _ hw555_3)).trans hw555_3), ((HB.out.cell (World.block_lt_of_cell? w _ hw555_4)).trans hw555_4), ((HB.out.cell (World.block_lt_of_cell? w _ hw555_5)).trans hw555_5), ((HB.out.cell (World.block_lt_of_cell? w _ hw555_6)).trans hw555_6), hx556_0, hx556_1, hx556_2, hx556_3, hx556_4, hx556_5, hx556_6⟩ (fun hHeld => ?_); refine with_tabW cleanselaw21_BondLast.tab14 cleanselaw21_BondLast.bits14 (fun HT_ HW_ => ?_)
                           generalize wr.drew = w40 at HO_4 BK550 HB hx551_0 hx551_1 hx551_2 hx551_3 hx551_4 hx551_5 hx551_6 hx553_0 hx553_1 hx553_2 hx553_3 hx553_4 hx553_5 hx553_6 hx554_0 hx554_1 hx554_2 hx554_3 hx554_4 hx554_5 hx554_6 hx555_0 hx555_1 hx555_2 hx555_3 hx555_4 hx555_5 hx555_6 hx556_0 hx556_1 hx556_2 hx556_3 hx556_4 hx556_5 hx556_6 hHeld ⊢
                           refine pure_ (i := 0) (N := some 60) (v := ?_) (a' := ?_) #[true, false, false, false, false, false, false, false, false, false, false, false, false, false, false, false, false, false, false, false, false, false, false, false, false, false, false, false, false, false, false] rfl rfl (any_of HT_.out (by kernel_rfl)) (fun _ _ _ h => h) (Or.inl ⟨by rfl, ?_⟩) ?_ ?_
                           rotate_left
                           · intro w'
                             go_simp
                             with_reducible rfl
                           rotate_left
                           · simp only [Act.put, List.setIfInBounds_toArray, List.set_cons_zero, List.set_cons_succ, i64_w, i32_w]
                             rfl
                           refine pure_ (i := 1) (N := some 61) (v := ?_) (a' := ?_) #[true, true, false, false, false, false, false, false, false, false, false, false, false, false, false, false, false, false, false, false, false, false, false, false, false, false, false, false, false, false, false] rfl rfl (any_of HT_.out (by kernel_rfl)) (fun _ _ _ h => h) (Or.inl ⟨by rfl, ?_⟩) ?_ ?_
                           rotate_left
                           · intro w'
                             go_simp
                             with_reducible rfl
                           rotate_left
                           · simp only [Act.put, List.setIfInBounds_toArray, List.set_cons_zero, List.set_cons_succ, i64_w, i32_w]
                             rfl
                           refine pure_ (i := 2) (N := some 62) (v := ?_) (a' := ?_) #[true, true, true, false, false, false, false, false, false, false, false, false, false, false, false, false, false, false, false, false, false, false, false, false, false, false, false, false, false, false, false] rfl rfl (any_of HT_.out (by kernel_rfl)) (fun _ _ _ h => h) (Or.inl ⟨by rfl, ?_⟩) ?_ ?_
                           rotate_left
                           · intro w'
                             go_simp
                             with_reducible rfl
                           rotate_left
                           · simp only [Act.put, List.setIfInBounds_toArray, List.set_cons_zero, List.set_cons_succ, i64_w, i32_w]
                             rfl
                           refine take_ (i := 3) (N := some 63) (v := ?_) (a' := ?_) #[true, true, true, true, false, false, false, false, false, false, false, false, false, false, false, false, false, false, false, false, false, false, false, false, false, false, false, false, false, false, false] rfl rfl (take_ofW HT_.out HW_.out (by kernel_rfl)) (fun _ _ _ h => h) (Or.inl ⟨by rfl, ?_⟩) hHeld ?_ ?_
                           rotate_left
                           · rintro w' ⟨s0, s1, s2, s3, s4, s5, s6, s7, s8, s9, s10, s11, s12, s13, s14, s15, s16, s17, s18, s19, s20, s21, s22, s23, s24, s25, s26, s27, s28, s29, s30, s31, s32, s33, s34⟩
                             go_simp
                             with_reducible rfl
                           rotate_left
                           · simp only [Act.put, List.setIfInBounds_toArray, List.set_cons_zero, List.set_cons_succ, i64_w, i32_w]
                             rfl
                           refine one_ (i := 4) (N := some 64) #[true, true, true, true, true, false, false, false, false, false, false, false, false, false, false, false, false, false, false, false, false, false, false, false, false, false, false, false, false, false, false] rfl rfl (one_of HT_.out (by kernel_rfl)) (by decide) (fun K hK => ?_)
                           refine goes_ Try.func20 (by kernel_rfl) rfl #[.agg #[.int .i64 ((rd_T39 l0 x7_3).f0), .int .i64 ((rd_T39 l0 x7_3).f1.f0), .string ((rd_T39 l0 x7_3).f1.f1), .string ((rd_T39 l0 x7_3).f1.f2), .int .i64 ((rd_T39 l0 x7_3).f2.f0), .string ((rd_T39 l0 x7_3).f2.f1), .string ((rd_T39 l0 x7_3).f2.f2)]] (by rfl) rfl rfl (by (try simp only [List.map_toArray, List.map_cons, List.map_nil]); first | done | rfl | (simp only [List.length_drop, List.length_take]; rfl)) ?_
                           with_reducible refine (cleanseref21_Formed.calls ((rd_T39 l0 x7_3).f0) ((rd_T39 l0 x7_3).f1.f0) ((rd_T39 l0 x7_3).f1.f1) ((rd_T39 l0 x7_3).f1.f2) ((rd_T39 l0 x7_3).f2.f0) ((rd_T39 l0 x7_3).f2.f1) ((rd_T39 l0 x7_3).f2.f2) true _ A34.out).mono ?_
                           rintro e w41 ⟨rfl, hb⟩
                           have HS14_ := (hb.cell (World.block_lt_of_cell? _ _ (hHeld.2.2.2.2.2.2.2.2.2.2.2.2.2.2.1))).trans (hHeld.2.2.2.2.2.2.2.2.2.2.2.2.2.2.1)
                           have HS15_ := (hb.cell (World.block_lt_of_cell? _ _ (hHeld.2.2.2.2.2.2.2.2.2.2.2.2.2.2.2.1))).trans (hHeld.2.2.2.2.2.2.2.2.2.2.2.2.2.2.2.1)
                           have HS16_ := (hb.cell (World.block_lt_of_cell? _ _ (hHeld.2.2.2.2.2.2.2.2.2.2.2.2.2.2.2.2.1))).trans (hHeld.2.2.2.2.2.2.2.2.2.2.2.2.2.2.2.2.1)
                           have HS17_ := (hb.cell (World.block_lt_of_cell? _ _ (hHeld.2.2.2.2.2.2.2.2.2.2.2.2.2.2.2.2.2.1))).trans (hHeld.2.2.2.2.2.2.2.2.2.2.2.2.2.2.2.2.2.1)
                           have HS18_ := (hb.cell (World.block_lt_of_cell? _ _ (hHeld.2.2.2.2.2.2.2.2.2.2.2.2.2.2.2.2.2.2.1))).trans (hHeld.2.2.2.2.2.2.2.2.2.2.2.2.2.2.2.2.2.2.1)
                           have HS19_ := (hb.cell (World.block_lt_of_cell? _ _ (hHeld.2.2.2.2.2.2.2.2.2.2.2.2.2.2.2.2.2.2.2.1))).trans (hHeld.2.2.2.2.2.2.2.2.2.2.2.2.2.2.2.2.2.2.2.1)
                           have HS20_ := (hb.cell (World.block_lt_of_cell? _ _ (hHeld.2.2.2.2.2.2.2.2.2.2.2.2.2.2.2.2.2.2.2.2.1))).trans (hHeld.2.2.2.2.2.2.2.2.2.2.2.2.2.2.2.2.2.2.2.2.1)
                           have HS28_ := (hb.cell (World.block_lt_of_cell? _ _ (hHeld.2.2.2.2.2.2.2.2.2.2.2.2.2.2.2.2.2.2.2.2.2.2.2.2.2.2.2.2.1))).trans (hHeld.2.2.2.2.2.2.2.2.2.2.2.2.2.2.2.2.2.2.2.2.2.2.2.2.2.2.2.2.1)
                           have HS29_ := (hb.cell (World.block_lt_of_cell? _ _ (hHeld.2.2.2.2.2.2.2.2.2.2.2.2.2.2.2.2.2.2.2.2.2.2.2.2.2.2.2.2.2.1))).trans (hHeld.2.2.2.2.2.2.2.2.2.2.2.2.2.2.2.2.2.2.2.2.2.2.2.2.2.2.2.2.2.1)
                           have HS30_ := (hb.cell (World.block_lt_of_cell? _ _ (hHeld.2.2.2.2.2.2.2.2.2.2.2.2.2.2.2.2.2.2.2.2.2.2.2.2.2.2.2.2.2.2.1))).trans (hHeld.2.2.2.2.2.2.2.2.2.2.2.2.2.2.2.2.2.2.2.2.2.2.2.2.2.2.2.2.2.2.1)
                           have HS31_ := (hb.cell (World.block_lt_of_cell? _ _ (hHeld.2.2.2.2.2.2.2.2.2.2.2.2.2.2.2.2.2.2.2.2.2.2.2.2.2.2.2.2.2.2.2.1))).trans (hHeld.2.2.2.2.2.2.2.2.2.2.2.2.2.2.2.2.2.2.2.2.2.2.2.2.2.2.2.2.2.2.2.1)
                           have HS32_ := (hb.cell (World.block_lt_of_cell? _ _ (hHeld.2.2.2.2.2.2.2.2.2.2.2.2.2.2.2.2.2.2.2.2.2.2.2.2.2.2.2.2.2.2.2.2.1))).trans (hHeld.2.2.2.2.2.2.2.2.2.2.2.2.2.2.2.2.2.2.2.2.2.2.2.2.2.2.2.2.2.2.2.2.1)
                           have HS33_ := (hb.cell (World.block_lt_of_cell? _ _ (hHeld.2.2.2.2.2.2.2.2.2.2.2.2.2.2.2.2.2.2.2.2.2.2.2.2.2.2.2.2.2.2.2.2.2.1))).trans (hHeld.2.2.2.2.2.2.2.2.2.2.2.2.2.2.2.2.2.2.2.2.2.2.2.2.2.2.2.2.2.2.2.2.2.1)
                           have HS34_ := (hb.cell (World.block_lt_of_cell? _ _ (hHeld.2.2.2.2.2.2.2.2.2.2.2.2.2.2.2.2.2.2.2.2.2.2.2.2.2.2.2.2.2.2.2.2.2.2))).trans (hHeld.2.2.2.2.2.2.2.2.2.2.2.2.2.2.2.2.2.2.2.2.2.2.2.2.2.2.2.2.2.2.2.2.2.2)
                           refine ⟨_, rfl, ?_⟩
                           have n0_ := Aside0.mk (Kd.R_below (by (with_reducible repeat (first | apply Kd.R_alloc | apply Kd.R_drewN | apply Kd.R_drew)); exact HO_4.out) hb)
                           have n1_ := Aside0.mk (blk_below (g := gb550) (o := .cells #[.int .i64 x551000_3, .int .i64 x551001_3, .string x551002_3, .string x551003_3, .int .i64 x551004_3, .string x551005_3, .string x551006_3] 39 (0, 0)) (by (with_reducible repeat (first | refine blk_drewN ?_ _ | refine blk_drew ?_ | refine blk_alloc ?_ _)); exact BK550.out) hb)
                           have n2_ := Aside0.mk (below_step (by repeat (first | (with_reducible first | exact HB.out | apply below_alloc | apply pw_below_drewN | apply below_drew1 | refine below_set ?_ GE550.out) | exact HB.out)) hb)
                           clear HO_4
                           clear BK550
                           clear HB
                           have HO_4 := n0_
                           have BK550 := n1_
                           have HB := n2_
                           clear n0_ n1_ n2_
                           (try clear hb)
                           (try clear hb2)
                           (try clear hk)
                           (try clear hi)
                           refine hK.out _ _ ⟨((HB.out.cell (World.block_lt_of_cell? w _ hw551_0)).trans hw551_0), ((HB.out.cell (World.block_lt_of_cell? w _ hw551_1)).trans hw551_1), ((HB.out.cell (World.block_lt_of_cell? w _ hw551_2)).trans hw551_2), ((HB.out.cell (World.block_lt_of_cell? w _ hw551_3)).trans hw551_3), ((HB.out.cell (World.block_lt_of_cell? w _ hw551_4)).trans hw551_4), ((HB.out.cell (World.block_lt_of_cell? w _ hw551_5)).trans hw551_5), ((HB.out.cell (World.block_lt_of_cell? w _ hw551_6)).trans hw551_6), ((HB.out.cell (World.block_lt_of_cell? w _ hw553_0)).trans hw553_0), ((HB.out.cell (World.block_lt_of_cell? w _ hw553_1)).trans hw553_1), ((HB.out.cell (World.block_lt_of_cell? w _ hw553_2)).trans hw553_2), ((HB.out.cell (World.block_lt_of_cell? w _ hw553_3)).trans hw553_3), ((HB.out.cell (World.block_lt_of_cell? w _ hw553_4)).trans hw553_4), ((HB.out.cell (World.block_lt_of_cell? w _ hw553_5)).trans hw553_5), ((HB.out.cell (World.block_lt_of_cell? w _ hw553_6)).trans hw553_6), HS14_, HS15_, HS16_, HS17_, HS18_, HS19_, HS20_, ((HB.out.cell (World.block_lt_of_cell? w _ hw555_0)).trans hw555_0), ((HB.out.cell (World.block_lt_of_cell? w _ hw555_1)).trans hw555_1), ((HB.out.cell (World.block_lt_of_cell? w _ hw555_2)).trans hw555_2), ((HB.out.cell (World.block_lt_of_cell? w _ hw555_3)).trans hw555_3), ((HB.out.cell (World.block_lt_of_cell? w _ hw555_4)).trans hw555_4), ((HB.out.cell (World.block_lt_of_cell? w _ hw555_5)).trans hw555_5), ((HB.out.cell (World.block_lt_of_cell? w _ hw555_6)).trans hw555_6), HS28_, HS29_, HS30_, HS31_, HS32_, HS33_, HS34_⟩ (fun hHeld => ?_)
                           clear hK K
                           refine norm_ (a' := ?_) ?_ ?_
                           rotate_left
                           · show Act.put _ (some 64) _ = _
                             simp only [Act.put, List.setIfInBounds_toArray, List.set_cons_zero, List.set_cons_succ, i64_w, i32_w]
                             rfl
                           refine pure_ (i := 5) (N := some 65) (v := ?_) (a' := ?_) #[true, true, true, true, true, true, false, false, false, false, false, false, false, false, false, false, false, false, false, false, false, false, false, false, false, false, false, false, false, false, false] rfl rfl (any_of HT_.out (by kernel_rfl)) (fun _ _ _ h => h) (Or.inl ⟨by rfl, ?_⟩) ?_ ?_
                           rotate_left
                           · intro w'
                             go_simp
                             with_reducible rfl
                           rotate_left
                           · simp only [Act.put, List.setIfInBounds_toArray, List.set_cons_zero, List.set_cons_succ, i64_w, i32_w]
                             rfl
                           refine pure_ (i := 6) (N := some 66) (v := ?_) (a' := ?_) #[true, true, true, true, true, true, true, false, false, false, false, false, false, false, false, false, false, false, false, false, false, false, false, false, false, false, false, false, false, false, false] rfl rfl (any_of HT_.out (by kernel_rfl)) (fun _ _ _ h => h) (Or.inl ⟨by rfl, ?_⟩) ?_ ?_
                           rotate_left
                           · intro w'
                             go_simp
                             with_reducible rfl
                           rotate_left
                           · simp only [Act.put, List.setIfInBounds_toArray, List.set_cons_zero, List.set_cons_succ, i64_w, i32_w]
                             rfl
                           refine pure_ (i := 7) (N := some 67) (v := ?_) (a' := ?_) #[true, true, true, true, true, true, true, true, false, false, false, false, false, false, false, false, false, false, false, false, false, false, false, false, false, false, false, false, false, false, false] rfl rfl (any_of HT_.out (by kernel_rfl)) (fun _ _ _ h => h) (Or.inl ⟨by rfl, ?_⟩) ?_ ?_
                           rotate_left
                           · intro w'
                             go_simp
                             with_reducible rfl
                           rotate_left
                           · simp only [Act.put, List.setIfInBounds_toArray, List.set_cons_zero, List.set_cons_succ, i64_w, i32_w]
                             rfl
                           refine pure_ (i := 8) (N := some 68) (v := ?_) (a' := ?_) #[true, true, true, true, true, true, true, true, true, false, false, false, false, false, false, false, false, false, false, false, false, false, false, false, false, false, false, false, false, false, false] rfl rfl (any_of HT_.out (by kernel_rfl)) (fun _ _ _ h => h) (Or.inl ⟨by rfl, ?_⟩) ?_ ?_
                           rotate_left
                           · intro w'
                             go_simp
                             with_reducible rfl
                           rotate_left
                           · simp only [Act.put, List.setIfInBounds_toArray, List.set_cons_zero, List.set_cons_succ, i64_w, i32_w]
                             rfl
                           refine pure_ (i := 9) (N := some 69) (v := ?_) (a' := ?_) #[true, true, true, true, true, true, true, true, true, true, false, false, false, false, false, false, false, false, false, false, false, false, false, false, false, false, false, false, false, false, false] rfl rfl (any_of HT_.out (by kernel_rfl)) (fun _ _ _ h => h) (Or.inl ⟨by rfl, ?_⟩) ?_ ?_
                           rotate_left
                           · intro w'
                             go_simp
                             with_reducible rfl
                           rotate_left
                           · simp only [Act.put, List.setIfInBounds_toArray, List.set_cons_zero, List.set_cons_succ, i64_w, i32_w]
                             rfl
                           refine pure_ (i := 11) (N := some 71) (v := ?_) (a' := ?_) #[true, true, true, true, true, true, true, true, true, true, false, true, false, false, false, false, false, false, false, false, false, false, false, false, false, false, false, false, false, false, false] rfl rfl (any_of HT_.out (by kernel_rfl)) (fun _ _ _ h => h) (Or.inl ⟨by rfl, ?_⟩) ?_ ?_
                           rotate_left
                           · intro w'
                             go_simp
                             with_reducible rfl
                           rotate_left
                           · simp only [Act.put, List.setIfInBounds_toArray, List.set_cons_zero, List.set_cons_succ, i64_w, i32_w]
                             rfl
                           refine pure_ (i := 12) (N := some 72) (v := ?_) (a' := ?_) #[true, true, true, true, true, true, true, true, true, true, false, true, true, false, false, false, false, false, false, false, false, false, false, false, false, false, false, false, false, false, false] rfl rfl (any_of HT_.out (by kernel_rfl)) (fun _ _ _ h => h) (Or.inl ⟨by rfl, ?_⟩) ?_ ?_
                           rotate_left
                           · intro w'
                             go_simp
                             with_reducible rfl
                           rotate_left
                           · simp only [Act.put, List.setIfInBounds_toArray, List.set_cons_zero, List.set_cons_succ, i64_w, i32_w]
                             rfl
                           refine pure_ (i := 13) (N := some 73) (v := ?_) (a' := ?_) #[true, true, true, true, true, true, true, true, true, true, false, true, true, true, false, false, false, false, false, false, false, false, false, false, false, false, false, false, false, false, false] rfl rfl (any_of HT_.out (by kernel_rfl)) (fun _ _ _ h => h) (Or.inl ⟨by rfl, ?_⟩) ?_ ?_
                           rotate_left
                           · intro w'
                             go_simp
                             with_reducible rfl
                           rotate_left
                           · simp only [Act.put, List.setIfInBounds_toArray, List.set_cons_zero, List.set_cons_succ, i64_w, i32_w]
                             rfl
                           refine pure_ (i := 14) (N := some 74) (v := ?_) (a' := ?_) #[true, true, true, true, true, true, true, true, true, true, false, true, true, true, true, false, false, false, false, false, false, false, false, false, false, false, false, false, false, false, false] rfl rfl (any_of HT_.out (by kernel_rfl)) (fun _ _ _ h => h) (Or.inl ⟨by rfl, ?_⟩) ?_ ?_
                           rotate_left
                           · intro w'
                             go_simp
                             with_reducible rfl
                           rotate_left
                           · simp only [Act.put, List.setIfInBounds_toArray, List.set_cons_zero, List.set_cons_succ, i64_w, i32_w]
                             rfl
                           refine take_ (i := 10) (N := some 70) (v := ?_) (a' := ?_) #[true, true, true, true, true, true, true, true, true, true, true, true, true, true, true, false, false, false, false, false, false, false, false, false, false, false, false, false, false, false, false] rfl rfl (take_ofW HT_.out HW_.out (by kernel_rfl)) (fun _ _ _ h => h) (Or.inl ⟨by rfl, ?_⟩) hHeld ?_ ?_
                           rotate_left
                           · rintro w' ⟨s0, s1, s2, s3, s4, s5, s6, s7, s8, s9, s10, s11, s12, s13, s14, s15, s16, s17, s18, s19, s20, s21, s22, s23, s24, s25, s26, s27, s28, s29, s30, s31, s32, s33, s34⟩
                             go_simp
                             with_reducible rfl
                           rotate_left
                           · simp only [Act.put, List.setIfInBounds_toArray, List.set_cons_zero, List.set_cons_succ, i64_w, i32_w]
                             rfl
                           refine take_ (i := 15) (N := some 75) (v := ?_) (a' := ?_) #[true, true, true, true, true, true, true, true, true, true, true, true, true, true, true, true, false, false, false, false, false, false, false, false, false, false, false, false, false, false, false] rfl rfl (take_ofW HT_.out HW_.out (by kernel_rfl)) (fun _ _ _ h => h) (Or.inl ⟨by rfl, ?_⟩) hHeld ?_ ?_
                           rotate_left
                           · rintro w' ⟨s0, s1, s2, s3, s4, s5, s6, s7, s8, s9, s10, s11, s12, s13, s14, s15, s16, s17, s18, s19, s20, s21, s22, s23, s24, s25, s26, s27, s28, s29, s30, s31, s32, s33, s34⟩
                             go_simp
                             with_reducible rfl
                           rotate_left
                           · simp only [Act.put, List.setIfInBounds_toArray, List.set_cons_zero, List.set_cons_succ, i64_w, i32_w]
                             rfl
                           refine pure_ (i := 16) (N := some 76) (v := ?_) (a' := ?_) #[true, true, true, true, true, true, true, true, true, true, true, true, true, true, true, true, true, false, false, false, false, false, false, false, false, false, false, false, false, false, false] rfl rfl (any_of HT_.out (by kernel_rfl)) (fun _ _ _ h => h) (Or.inl ⟨by rfl, ?_⟩) ?_ ?_
                           rotate_left
                           · intro w'
                             go_simp
                             with_reducible rfl
                           rotate_left
                           · simp only [Act.put, List.setIfInBounds_toArray, List.set_cons_zero, List.set_cons_succ, i64_w, i32_w]
                             rfl
                           refine pure_ (i := 17) (N := some 77) (v := ?_) (a' := ?_) #[true, true, true, true, true, true, true, true, true, true, true, true, true, true, true, true, true, true, false, false, false, false, false, false, false, false, false, false, false, false, false] rfl rfl (any_of HT_.out (by kernel_rfl)) (fun _ _ _ h => h) (Or.inl ⟨by rfl, ?_⟩) ?_ ?_
                           rotate_left
                           · intro w'
                             go_simp
                             with_reducible rfl
                           rotate_left
                           · simp only [Act.put, List.setIfInBounds_toArray, List.set_cons_zero, List.set_cons_succ, i64_w, i32_w]
                             rfl
                           refine pure_ (i := 18) (N := some 78) (v := ?_) (a' := ?_) #[true, true, true, true, true, true, true, true, true, true, true, true, true, true, true, true, true, true, true, false, false, false, false, false, false, false, false, false, false, false, false] rfl rfl (any_of HT_.out (by kernel_rfl)) (fun _ _ _ h => h) (Or.inl ⟨by rfl, ?_⟩) ?_ ?_
                           rotate_left
                           · intro w'
                             go_simp
                             with_reducible rfl
                           rotate_left
                           · simp only [Act.put, List.setIfInBounds_toArray, List.set_cons_zero, List.set_cons_succ, i64_w, i32_w]
                             rfl
                           refine pure_ (i := 19) (N := some 79) (v := ?_) (a' := ?_) #[true, true, true, true, true, true, true, true, true, true, true, true, true, true, true, true, true, true, true, true, false, false, false, false, false, false, false, false, false, false, false] rfl rfl (any_of HT_.out (by kernel_rfl)) (fun _ _ _ h => h) (Or.inl ⟨by rfl, ?_⟩) ?_ ?_
                           rotate_left
                           · intro w'
                             go_simp
                             with_reducible rfl
                           rotate_left
                           · simp only [Act.put, List.setIfInBounds_toArray, List.set_cons_zero, List.set_cons_succ, i64_w, i32_w]
                             rfl
                           refine pure_ (i := 20) (N := some 80) (v := ?_) (a' := ?_) #[true, true, true, true, true, true, true, true, true, true, true, true, true, true, true, true, true, true, true, true, true, false, false, false, false, false, false, false, false, false, false] rfl rfl (any_of HT_.out (by kernel_rfl)) (fun _ _ _ h => h) (Or.inl ⟨by rfl, ?_⟩) ?_ ?_
                           rotate_left
                           · intro w'
                             go_simp
                             with_reducible rfl
                           rotate_left
                           · simp only [Act.put, List.setIfInBounds_toArray, List.set_cons_zero, List.set_cons_succ, i64_w, i32_w]
                             rfl
                           refine pure_ (i := 21) (N := some 81) (v := ?_) (a' := ?_) #[true, true, true, true, true, true, true, true, true, true, true, true, true, true, true, true, true, true, true, true, true, true, false, false, false, false, false, false, false, false, false] rfl rfl (any_of HT_.out (by kernel_rfl)) (fun _ _ _ h => h) (Or.inl ⟨by rfl, ?_⟩) ?_ ?_
                           rotate_left
                           · intro w'
                             go_simp
                             with_reducible rfl
                           rotate_left
                           · simp only [Act.put, List.setIfInBounds_toArray, List.set_cons_zero, List.set_cons_succ, i64_w, i32_w]
                             rfl
                           refine pure_ (i := 22) (N := some 82) (v := ?_) (a' := ?_) #[true, true, true, true, true, true, true, true, true, true, true, true, true, true, true, true, true, true, true, true, true, true, true, false, false, false, false, false, false, false, false] rfl rfl (any_of HT_.out (by kernel_rfl)) (fun _ _ _ h => h) (Or.inl ⟨by rfl, ?_⟩) ?_ ?_
                           rotate_left
                           · intro w'
                             go_simp
                             with_reducible rfl
                           rotate_left
                           · simp only [Act.put, List.setIfInBounds_toArray, List.set_cons_zero, List.set_cons_succ, i64_w, i32_w]
                             rfl
                           refine pure_ (i := 24) (N := some 84) (v := ?_) (a' := ?_) #[true, true, true, true, true, true, true, true, true, true, true, true, true, true, true, true, true, true, true, true, true, true, true, false, true, false, false, false, false, false, false] rfl rfl (any_of HT_.out (by kernel_rfl)) (fun _ _ _ h => h) (Or.inl ⟨by rfl, ?_⟩) ?_ ?_
                           rotate_left
                           · intro w'
                             go_simp
                             with_reducible rfl
                           rotate_left
                           · simp only [Act.put, List.setIfInBounds_toArray, List.set_cons_zero, List.set_cons_succ, i64_w, i32_w]
                             rfl
                           refine pure_ (i := 25) (N := some 85) (v := ?_) (a' := ?_) #[true, true, true, true, true, true, true, true, true, true, true, true, true, true, true, true, true, true, true, true, true, true, true, false, true, true, false, false, false, false, false] rfl rfl (any_of HT_.out (by kernel_rfl)) (fun _ _ _ h => h) (Or.inl ⟨by rfl, ?_⟩) ?_ ?_
                           rotate_left
                           · intro w'
                             go_simp
                             with_reducible rfl
                           rotate_left
                           · simp only [Act.put, List.setIfInBounds_toArray, List.set_cons_zero, List.set_cons_succ, i64_w, i32_w]
                             rfl
                           refine pure_ (i := 26) (N := some 86) (v := ?_) (a' := ?_) #[true, true, true, true, true, true, true, true, true, true, true, true, true, true, true, true, true, true, true, true, true, true, true, false, true, true, true, false, false, false, false] rfl rfl (any_of HT_.out (by kernel_rfl)) (fun _ _ _ h => h) (Or.inl ⟨by rfl, ?_⟩) ?_ ?_
                           rotate_left
                           · intro w'
                             go_simp
                             with_reducible rfl
                           rotate_left
                           · simp only [Act.put, List.setIfInBounds_toArray, List.set_cons_zero, List.set_cons_succ, i64_w, i32_w]
                             rfl
                           refine pure_ (i := 27) (N := some 87) (v := ?_) (a' := ?_) #[true, true, true, true, true, true, true, true, true, true, true, true, true, true, true, true, true, true, true, true, true, true, true, false, true, true, true, true, false, false, false] rfl rfl (any_of HT_.out (by kernel_rfl)) (fun _ _ _ h => h) (Or.inl ⟨by rfl, ?_⟩) ?_ ?_
                           rotate_left
                           · intro w'
                             go_simp
                             with_reducible rfl
                           rotate_left
                           · simp only [Act.put, List.setIfInBounds_toArray, List.set_cons_zero, List.set_cons_succ, i64_w, i32_w]
                             rfl
                           refine take_ (i := 23) (N := some 83) (v := ?_) (a' := ?_) #[true, true, true, true, true, true, true, true, true, true, true, true, true, true, true, true, true, true, true, true, true, true, true, true, true, true, true, true, false, false, false] rfl rfl (take_ofW HT_.out HW_.out (by kernel_rfl)) (fun _ _ _ h => h) (Or.inl ⟨by rfl, ?_⟩) hHeld ?_ ?_
                           rotate_left
                           · rintro w' ⟨s0, s1, s2, s3, s4, s5, s6, s7, s8, s9, s10, s11, s12, s13, s14, s15, s16, s17, s18, s19, s20, s21, s22, s23, s24, s25, s26, s27, s28, s29, s30, s31, s32, s33, s34⟩
                             go_simp
                             with_reducible rfl
                           rotate_left
                           · simp only [Act.put, List.setIfInBounds_toArray, List.set_cons_zero, List.set_cons_succ, i64_w, i32_w]
                             rfl
                           refine take_ (i := 28) (N := some 88) (v := ?_) (a' := ?_) #[true, true, true, true, true, true, true, true, true, true, true, true, true, true, true, true, true, true, true, true, true, true, true, true, true, true, true, true, true, false, false] rfl rfl (take_ofW HT_.out HW_.out (by kernel_rfl)) (fun _ _ _ h => h) (Or.inl ⟨by rfl, ?_⟩) hHeld ?_ ?_
                           rotate_left
                           · rintro w' ⟨s0, s1, s2, s3, s4, s5, s6, s7, s8, s9, s10, s11, s12, s13, s14, s15, s16, s17, s18, s19, s20, s21, s22, s23, s24, s25, s26, s27, s28, s29, s30, s31, s32, s33, s34⟩
                             go_simp
                             with_reducible rfl
                           rotate_left
                           · simp only [Act.put, List.setIfInBounds_toArray, List.set_cons_zero, List.set_cons_succ, i64_w, i32_w]
                             rfl
                           refine pure_ (i := 29) (N := some 89) (v := ?_) (a' := ?_) #[true, true, true, true, true, true, true, true, true, true, true, true, true, true, true, true, true, true, true, true, true, true, true, true, true, true, true, true, true, true, false] rfl rfl (any_of HT_.out (by kernel_rfl)) (fun _ _ _ h => h) (Or.inl ⟨by rfl, ?_⟩) ?_ ?_
                           rotate_left
                           · intro w'
                             go_simp
                             with_reducible rfl
                           rotate_left
                           · simp only [Act.put, List.setIfInBounds_toArray, List.set_cons_zero, List.set_cons_succ, i64_w, i32_w]
                             rfl
                           refine pure_ (i := 30) (N := some 90) (v := ?_) (a' := ?_) #[true, true, true, true, true, true, true, true, true, true, true, true, true, true, true, true, true, true, true, true, true, true, true, true, true, true, true, true, true, true, true] rfl rfl (any_of HT_.out (by kernel_rfl)) (fun _ _ _ h => h) (Or.inl ⟨by rfl, ?_⟩) ?_ ?_
                           rotate_left
                           · intro w'
                             go_simp
                             with_reducible rfl
                           rotate_left
                           · simp only [Act.put, List.setIfInBounds_toArray, List.set_cons_zero, List.set_cons_succ, i64_w, i32_w]
                             rfl
                           refine done_ (done_of HT_.out (by kernel_rfl)) ?_
                           have p557 : 0 ≤ (x7_3 : Int) := of_decide_eq_true (by first | (with_reducible assumption) | assumption)
                           have q557 : x7_3 < (l0.length : Int) := of_decide_eq_true (by first | (with_reducible assumption) | assumption)
                           obtain ⟨ad557, e557, hx557_0, hx557_1, hx557_2, hx557_3, hx557_4, hx557_5, hx557_6⟩ := at_T39 HR0.out x7_3 p557 q557
                           obtain rfl : ad551 = ad557 := (by injection e557)
                           replace hx557_0 := (HB.out.cell (World.block_lt_of_cell? w _ hx557_0)).trans hx557_0
                           replace hx557_1 := (HB.out.cell (World.block_lt_of_cell? w _ hx557_1)).trans hx557_1
                           replace hx557_2 := (HB.out.cell (World.block_lt_of_cell? w _ hx557_2)).trans hx557_2
                           replace hx557_3 := (HB.out.cell (World.block_lt_of_cell? w _ hx557_3)).trans hx557_3
                           replace hx557_4 := (HB.out.cell (World.block_lt_of_cell? w _ hx557_4)).trans hx557_4
                           replace hx557_5 := (HB.out.cell (World.block_lt_of_cell? w _ hx557_5)).trans hx557_5
                           replace hx557_6 := (HB.out.cell (World.block_lt_of_cell? w _ hx557_6)).trans hx557_6
                           replace p557 := eq_true p557
                           replace q557 := eq_true q557
                           have hcz42_0 : w41.cell? ⟨gb550, 0, none⟩ = some (.int .i64 x551000_3) := (blk_cell BK550.out 0).trans rfl
                           have hcz42_1 : w41.cell? ⟨gb550, 1, none⟩ = some (.int .i64 x551001_3) := (blk_cell BK550.out 1).trans rfl
                           have hcz42_2 : w41.cell? ⟨gb550, 2, none⟩ = some (.string x551002_3) := (blk_cell BK550.out 2).trans rfl
                           have hcz42_3 : w41.cell? ⟨gb550, 3, none⟩ = some (.string x551003_3) := (blk_cell BK550.out 3).trans rfl
                           have hcz42_4 : w41.cell? ⟨gb550, 4, none⟩ = some (.int .i64 x551004_3) := (blk_cell BK550.out 4).trans rfl
                           have hcz42_5 : w41.cell? ⟨gb550, 5, none⟩ = some (.string x551005_3) := (blk_cell BK550.out 5).trans rfl
                           have hcz42_6 : w41.cell? ⟨gb550, 6, none⟩ = some (.string x551006_3) := (blk_cell BK550.out 6).trans rfl
                           have hfz42_0 := blk_frozen BK550.out 0
                           have hfz42_1 := blk_frozen BK550.out 1
                           have hfz42_2 := blk_frozen BK550.out 2
                           have hfz42_3 := blk_frozen BK550.out 3
                           have hfz42_4 := blk_frozen BK550.out 4
                           have hfz42_5 := blk_frozen BK550.out 5
                           have hfz42_6 := blk_frozen BK550.out 6
                           try go_wp2
                           go_roundg k3
                           case measure => have := HK1.out; have := HJ8.out; have := HK3.out; omega
                           case rel => exact ⟨(wrap64 (x7_3 + 1)), ((rd_T39 l0 x7_3).f0), ((rd_T39 l0 x7_3).f1.f0), ((rd_T39 l0 x7_3).f1.f1), ((rd_T39 l0 x7_3).f1.f2), ((rd_T39 l0 x7_3).f2.f0), ((rd_T39 l0 x7_3).f2.f1), ((rd_T39 l0 x7_3).f2.f2), (by first | rfl | (simp; done) | (simp [*]; done)), H', ⟨by have := HK1.out; have := HJ8.out; have := HK3.out; omega⟩, ⟨by (with_reducible repeat (first | apply Kd.R_alloc | apply Kd.R_drewN | apply Kd.R_drew)); exact Kd.R_mono (Kd.R_far (p := ⟨gb550, 6, none⟩) (Kd.R_far (p := ⟨gb550, 5, none⟩) (Kd.R_far (p := ⟨gb550, 4, none⟩) (Kd.R_far (p := ⟨gb550, 3, none⟩) (Kd.R_far (p := ⟨gb550, 2, none⟩) (Kd.R_far (p := ⟨gb550, 1, none⟩) (Kd.R_far (p := ⟨gb550, 0, none⟩) (Kd.R_mono HO_4.out (fun k_ hk => (⟨hk, hk⟩ : _ ∧ k_ ≠ gb550))) (fun _ hk => hk.2) (.int .i64 ((rd_T39 l0 x7_3).f0))) (fun _ hk => hk.2) (.int .i64 ((rd_T39 l0 x7_3).f1.f0))) (fun _ hk => hk.2) (.string ((rd_T39 l0 x7_3).f1.f1))) (fun _ hk => hk.2) (.string ((rd_T39 l0 x7_3).f1.f2))) (fun _ hk => hk.2) (.int .i64 ((rd_T39 l0 x7_3).f2.f0))) (fun _ hk => hk.2) (.string ((rd_T39 l0 x7_3).f2.f1))) (fun _ hk => hk.2) (.string ((rd_T39 l0 x7_3).f2.f2))) (fun _ hk => hk.1)⟩, ⟨by (with_reducible repeat (first | refine blk_drewN ?_ _ | refine blk_drew ?_ | refine blk_alloc ?_ _)); refine blk_put (cs := #[.int .i64 ((rd_T39 l0 x7_3).f0), .int .i64 ((rd_T39 l0 x7_3).f1.f0), .string ((rd_T39 l0 x7_3).f1.f1), .string ((rd_T39 l0 x7_3).f1.f2), .int .i64 ((rd_T39 l0 x7_3).f2.f0), .string ((rd_T39 l0 x7_3).f2.f1), .string x551006_3]) ?_ 6 _ rfl; (with_reducible repeat (first | refine blk_drewN ?_ _ | refine blk_drew ?_ | refine blk_alloc ?_ _)); refine blk_put (cs := #[.int .i64 ((rd_T39 l0 x7_3).f0), .int .i64 ((rd_T39 l0 x7_3).f1.f0), .string ((rd_T39 l0 x7_3).f1.f1), .string ((rd_T39 l0 x7_3).f1.f2), .int .i64 ((rd_T39 l0 x7_3).f2.f0), .string x551005_3, .string x551006_3]) ?_ 5 _ rfl; (with_reducible repeat (first | refine blk_drewN ?_ _ | refine blk_drew ?_ | refine blk_alloc ?_ _)); refine blk_put (cs := #[.int .i64 ((rd_T39 l0 x7_3).f0), .int .i64 ((rd_T39 l0 x7_3).f1.f0), .string ((rd_T39 l0 x7_3).f1.f1), .string ((rd_T39 l0 x7_3).f1.f2), .int .i64 x551004_3, .string x551005_3, .string x551006_3]) ?_ 4 _ rfl; (with_reducible repeat (first | refine blk_drewN ?_ _ | refine blk_drew ?_ | refine blk_alloc ?_ _)); refine blk_put (cs := #[.int .i64 ((rd_T39 l0 x7_3).f0), .int .i64 ((rd_T39 l0 x7_3).f1.f0), .string ((rd_T39 l0 x7_3).f1.f1), .string x551003_3, .int .i64 x551004_3, .string x551005_3, .string x551006_3]) ?_ 3 _ rfl; (with_reducible repeat (first | refine blk_drewN ?_ _ | refine blk_drew ?_ | refine blk_alloc ?_ _)); refine blk_put (cs := #[.int .i64 ((rd_T39 l0 x7_3).f0), .int .i64 ((rd_T39 l0 x7_3).f1.f0), .string x551002_3, .string x551003_3, .int .i64 x551004_3, .string x551005_3, .string x551006_3]) ?_ 2 _ rfl; (with_reducible repeat (first | refine blk_drewN ?_ _ | refine blk_drew ?_ | refine blk_alloc ?_ _)); refine blk_put (cs := #[.int .i64 ((rd_T39 l0 x7_3).f0), .int .i64 x551001_3, .string x551002_3, .string x551003_3, .int .i64 x551004_3, .string x551005_3, .string x551006_3]) ?_ 1 _ rfl; (with_reducible repeat (first | refine blk_drewN ?_ _ | refine blk_drew ?_ | refine blk_alloc ?_ _)); refine blk_put (cs := #[.int .i64 x551000_3, .int .i64 x551001_3, .string x551002_3, .string x551003_3, .int .i64 x551004_3, .string x551005_3, .string x551006_3]) ?_ 0 _ rfl; (with_reducible repeat (first | refine blk_drewN ?_ _ | refine blk_drew ?_ | refine blk_alloc ?_ _)); exact BK550.out⟩, ⟨by repeat (first | (with_reducible first | exact HB.out | apply below_alloc | apply pw_below_drewN | apply below_drew1 | refine below_set ?_ GE550.out) | exact HB.out)⟩⟩
                         · rw [if_neg c39] at H
                           have c39b0 : (((rd_T39 l0 x7_3).f2.f0) == ((rd_T39 t541 x5_1).f2.f0) && ((((rd_T39 l0 x7_3).f2.f1).toList) == (((rd_T39 t541 x5_1).f2.f1).toList) && ((((rd_T39 l0 x7_3).f2.f2).toList) == (((rd_T39 t541 x5_1).f2.f2).toList)))) = false := by simpa using c39
                           (try (have c39b1 : decide (((rd_T39 l0 x7_3).f2.f0) = ((rd_T39 t541 x5_1).f2.f0) && ((((rd_T39 l0 x7_3).f2.f1).toList) == (((rd_T39 t541 x5_1).f2.f1).toList) && ((((rd_T39 l0 x7_3).f2.f2).toList) == (((rd_T39 t541 x5_1).f2.f2).toList)))) = false := by simpa using c39))
                           (try (have c39b2 : (((rd_T39 l0 x7_3).f2.f0) == ((rd_T39 t541 x5_1).f2.f0) && ((((rd_T39 l0 x7_3).f2.f1).toList) == (((rd_T39 t541 x5_1).f2.f1).toList) && ((((rd_T39 l0 x7_3).f2.f2).toList) == (((rd_T39 t541 x5_1).f2.f2).toList)))) = false := by simpa using c39))
                           (try (have c39b3 : ¬ (((rd_T39 l0 x7_3).f2.f0) = ((rd_T39 t541 x5_1).f2.f0) && ((((rd_T39 l0 x7_3).f2.f1).toList) == (((rd_T39 t541 x5_1).f2.f1).toList) && ((((rd_T39 l0 x7_3).f2.f2).toList) == (((rd_T39 t541 x5_1).f2.f2).toList)))) := by simpa using c39))
                           clear c39
                           have H' := Aside0.mk H
                           clear H
                           try go_wp2
                           have n0_ := Aside0.mk (Kd.R_drew HO_4.out)
                           have n1_ := Aside0.mk (blk_drew BK550.out)
                           have n2_ := Aside0.mk (below_drew1 HB.out)
                           clear HO_4
                           clear BK550
                           clear HB
                           have HO_4 := n0_
                           have BK550 := n1_
                           have HB := n2_
                           clear n0_ n1_ n2_
                           have p551 : 0 ≤ (x7_3 : Int) := of_decide_eq_true (by first | (with_reducible assumption) | assumption)
                           have q551 : x7_3 < (l0.length : Int) := of_decide_eq_true (by first | (with_reducible assumption) | assumption)
                           obtain ⟨ad551, e551, hx551_0, hx551_1, hx551_2, hx551_3, hx551_4, hx551_5, hx551_6⟩ := at_T39 HR0.out x7_3 p551 q551
                           have hw551_6 := hx551_6
                           have hw551_5 := hx551_5
                           have hw551_4 := hx551_4
                           have hw551_3 := hx551_3
                           have hw551_2 := hx551_2
                           have hw551_1 := hx551_1
                           have hw551_0 := hx551_0
                           cases e551
                           replace hx551_0 := (HB.out.cell (World.block_lt_of_cell? w _ hx551_0)).trans hx551_0
                           replace hx551_1 := (HB.out.cell (World.block_lt_of_cell? w _ hx551_1)).trans hx551_1
                           replace hx551_2 := (HB.out.cell (World.block_lt_of_cell? w _ hx551_2)).trans hx551_2
                           replace hx551_3 := (HB.out.cell (World.block_lt_of_cell? w _ hx551_3)).trans hx551_3
                           replace hx551_4 := (HB.out.cell (World.block_lt_of_cell? w _ hx551_4)).trans hx551_4
                           replace hx551_5 := (HB.out.cell (World.block_lt_of_cell? w _ hx551_5)).trans hx551_5
                           replace hx551_6 := (HB.out.cell (World.block_lt_of_cell? w _ hx551_6)).trans hx551_6
                           replace p551 := eq_true p551
                           replace q551 := eq_true q551
                           have p553 : 0 ≤ (x7_3 : Int) := of_decide_eq_true (by first | (with_reducible assumption) | assumption)
                           have q553 : x7_3 < (l0.length : Int) := of_decide_eq_true (by first | (with_reducible assumption) | assumption)
                           obtain ⟨ad553, e553, hx553_0, hx553_1, hx553_2, hx553_3, hx553_4, hx553_5, hx553_6⟩ := at_T39 HR0.out x7_3 p553 q553
                           have hw553_6 := hx553_6
                           have hw553_5 := hx553_5
                           have hw553_4 := hx553_4
                           have hw553_3 := hx553_3
                           have hw553_2 := hx553_2
                           have hw553_1 := hx553_1
                           have hw553_0 := hx553_0
                           obtain rfl : ad551 = ad553 := (by injection e553)
                           replace hx553_0 := (HB.out.cell (World.block_lt_of_cell? w _ hx553_0)).trans hx553_0
                           replace hx553_1 := (HB.out.cell (World.block_lt_of_cell? w _ hx553_1)).trans hx553_1
                           replace hx553_2 := (HB.out.cell (World.block_lt_of_cell? w _ hx553_2)).trans hx553_2
                           replace hx553_3 := (HB.out.cell (World.block_lt_of_cell? w _ hx553_3)).trans hx553_3
                           replace hx553_4 := (HB.out.cell (World.block_lt_of_cell? w _ hx553_4)).trans hx553_4
                           replace hx553_5 := (HB.out.cell (World.block_lt_of_cell? w _ hx553_5)).trans hx553_5
                           replace hx553_6 := (HB.out.cell (World.block_lt_of_cell? w _ hx553_6)).trans hx553_6
                           replace p553 := eq_true p553
                           replace q553 := eq_true q553
                           have p554 : 0 ≤ (x5_1 : Int) := of_decide_eq_true (by first | (with_reducible assumption) | assumption)
                           have q554 : x5_1 < (t541.length : Int) := of_decide_eq_true (by first | (with_reducible assumption) | assumption)
                           obtain ⟨ad554, e554, hx554_0, hx554_1, hx554_2, hx554_3, hx554_4, hx554_5, hx554_6⟩ := at_T39 (Kd.R_reads' HO_4.out).2.2 x5_1 p554 q554
                           cases e554
                           replace p554 := eq_true p554
                           replace q554 := eq_true q554
                           have p555 : 0 ≤ (x7_3 : Int) := of_decide_eq_true (by first | (with_reducible assumption) | assumption)
                           have q555 : x7_3 < (l0.length : Int) := of_decide_eq_true (by first | (with_reducible assumption) | assumption)
                           obtain ⟨ad555, e555, hx555_0, hx555_1, hx555_2, hx555_3, hx555_4, hx555_5, hx555_6⟩ := at_T39 HR0.out x7_3 p555 q555
                           have hw555_6 := hx555_6
                           have hw555_5 := hx555_5
                           have hw555_4 := hx555_4
                           have hw555_3 := hx555_3
                           have hw555_2 := hx555_2
                           have hw555_1 := hx555_1
                           have hw555_0 := hx555_0
                           obtain rfl : ad551 = ad555 := (by injection e555)
                           replace hx555_0 := (HB.out.cell (World.block_lt_of_cell? w _ hx555_0)).trans hx555_0
                           replace hx555_1 := (HB.out.cell (World.block_lt_of_cell? w _ hx555_1)).trans hx555_1
                           replace hx555_2 := (HB.out.cell (World.block_lt_of_cell? w _ hx555_2)).trans hx555_2
                           replace hx555_3 := (HB.out.cell (World.block_lt_of_cell? w _ hx555_3)).trans hx555_3
                           replace hx555_4 := (HB.out.cell (World.block_lt_of_cell? w _ hx555_4)).trans hx555_4
                           replace hx555_5 := (HB.out.cell (World.block_lt_of_cell? w _ hx555_5)).trans hx555_5
                           replace hx555_6 := (HB.out.cell (World.block_lt_of_cell? w _ hx555_6)).trans hx555_6
                           replace p555 := eq_true p555
                           replace q555 := eq_true q555
                           have p556 : 0 ≤ (x5_1 : Int) := of_decide_eq_true (by first | (with_reducible assumption) | assumption)
                           have q556 : x5_1 < (t541.length : Int) := of_decide_eq_true (by first | (with_reducible assumption) | assumption)
                           obtain ⟨ad556, e556, hx556_0, hx556_1, hx556_2, hx556_3, hx556_4, hx556_5, hx556_6⟩ := at_T39 (Kd.R_reads' HO_4.out).2.2 x5_1 p556 q556
                           obtain rfl : ad554 = ad556 := (by injection e556)
                           replace p556 := eq_true p556
                           replace q556 := eq_true q556
                           refine start_ (n := 31) (S := fun w' => w'.cell? (ad551.add ((x7_3).toNat * 7)) = some (.int .i64 ((rd_T39 l0 x7_3).f0)) ∧ w'.cell? ⟨(ad551.add ((x7_3).toNat * 7)).block, (ad551.add ((x7_3).toNat * 7)).off + 1, none⟩ = some (.int .i64 ((rd_T39 l0 x7_3).f1.f0)) ∧ w'.cell? ⟨(ad551.add ((x7_3).toNat * 7)).block, (ad551.add ((x7_3).toNat * 7)).off + 2, none⟩ = some (.string ((rd_T39 l0 x7_3).f1.f1)) ∧ w'.cell? ⟨(ad551.add ((x7_3).toNat * 7)).block, (ad551.add ((x7_3).toNat * 7)).off + 3, none⟩ = some (.string ((rd_T39 l0 x7_3).f1.f2)) ∧ w'.cell? ⟨(ad551.add ((x7_3).toNat * 7)).block, (ad551.add ((x7_3).toNat * 7)).off + 4, none⟩ = some (.int .i64 ((rd_T39 l0 x7_3).f2.f0)) ∧ w'.cell? ⟨(ad551.add ((x7_3).toNat * 7)).block, (ad551.add ((x7_3).toNat * 7)).off + 5, none⟩ = some (.string ((rd_T39 l0 x7_3).f2.f1)) ∧ w'.cell? ⟨(ad551.add ((x7_3).toNat * 7)).block, (ad551.add ((x7_3).toNat * 7)).off + 6, none⟩ = some (.string ((rd_T39 l0 x7_3).f2.f2)) ∧ w'.cell? (ad551.add ((x7_3).toNat * 7)) = some (.int .i64 ((rd_T39 l0 x7_3).f0)) ∧ w'.cell? ⟨(ad551.add ((x7_3).toNat * 7)).block, (ad551.add ((x7_3).toNat * 7)).off + 1, none⟩ = some (.int .i64 ((rd_T39 l0 x7_3).f1.f0)) ∧ w'.cell? ⟨(ad551.add ((x7_3).toNat * 7)).block, (ad551.add ((x7_3).toNat * 7)).off + 2, none⟩ = some (.string ((rd_T39 l0 x7_3).f1.f1)) ∧ w'.cell? ⟨(ad551.add ((x7_3).toNat * 7)).block, (ad551.add ((x7_3).toNat * 7)).off + 3, none⟩ = some (.string ((rd_T39 l0 x7_3).f1.f2)) ∧ w'.cell? ⟨(ad551.add ((x7_3).toNat * 7)).block, (ad551.add ((x7_3).toNat * 7)).off + 4, none⟩ = some (.int .i64 ((rd_T39 l0 x7_3).f2.f0)) ∧ w'.cell? ⟨(ad551.add ((x7_3).toNat * 7)).block, (ad551.add ((x7_3).toNat * 7)).off + 5, none⟩ = some (.string ((rd_T39 l0 x7_3).f2.f1)) ∧ w'.cell? ⟨(ad551.add ((x7_3).toNat * 7)).block, (ad551.add ((x7_3).toNat * 7)).off + 6, none⟩ = some (.string ((rd_T39 l0 x7_3).f2.f2)) ∧ w'.cell? (ad554.add ((x5_1).toNat * 7)) = some (.int .i64 ((rd_T39 t541 x5_1).f0)) ∧ w'.cell? ⟨(ad554.add ((x5_1).toNat * 7)).block, (ad554.add ((x5_1).toNat * 7)).off + 1, none⟩ = some (.int .i64 ((rd_T39 t541 x5_1).f1.f0)) ∧ w'.cell? ⟨(ad554.add ((x5_1).toNat * 7)).block, (ad554.add ((x5_1).toNat * 7)).off + 2, none⟩ = some (.string ((rd_T39 t541 x5_1).f1.f1)) ∧ w'.cell? ⟨(ad554.add ((x5_1).toNat * 7)).block, (ad554.add ((x5_1).toNat * 7)).off + 3, none⟩ = some (.string ((rd_T39 t541 x5_1).f1.f2)) ∧ w'.cell? ⟨(ad554.add ((x5_1).toNat * 7)).block, (ad554.add ((x5_1).toNat * 7)).off + 4, none⟩ = some (.int .i64 ((rd_T39 t541 x5_1).f2.f0)) ∧ w'.cell? ⟨(ad554.add ((x5_1).toNat * 7)).block, (ad554.add ((x5_1).toNat * 7)).off + 5, none⟩ = some (.string ((rd_T39 t541 x5_1).f2.f1)) ∧ w'.cell? ⟨(ad554.add ((x5_1).toNat * 7)).block, (ad554.add ((x5_1).toNat * 7)).off + 6, none⟩ = some (.string ((rd_T39 t541 x5_1).f2.f2)) ∧ w'.cell? (ad551.add ((x7_3).toNat * 7)) = some (.int .i64 ((rd_T39 l0 x7_3).f0)) ∧ w'.cell? ⟨(ad551.add ((x7_3).toNat * 7)).block, (ad551.add ((x7_3).toNat * 7)).off + 1, none⟩ = some (.int .i64 ((rd_T39 l0 x7_3).f1.f0)) ∧ w'.cell? ⟨(ad551.add ((x7_3).toNat * 7)).block, (ad551.add ((x7_3).toNat * 7)).off + 2, none⟩ = some (.string ((rd_T39 l0 x7_3).f1.f1)) ∧ w'.cell? ⟨(ad551.add ((x7_3).toNat * 7)).block, (ad551.add ((x7_3).toNat * 7)).off + 3, none⟩ = some (.string ((rd_T39 l0 x7_3).f1.f2)) ∧ w'.cell? ⟨(ad551.add ((x7_3).toNat * 7)).block, (ad551.add ((x7_3).toNat * 7)).off + 4, none⟩ = some (.int .i64 ((rd_T39 l0 x7_3).f2.f0)) ∧ w'.cell? ⟨(ad551.add ((x7_3).toNat * 7)).block, (ad551.add ((x7_3).toNat * 7)).off + 5, none⟩ = some (.string ((rd_T39 l0 x7_3).f2.f1)) ∧ w'.cell? ⟨(ad551.add ((x7_3).toNat * 7)).block, (ad551.add ((x7_3).toNat * 7)).off + 6, none⟩ = some (.string ((rd_T39 l0 x7_3).f2.f2)) ∧ w'.cell? (ad554.add ((x5_1).toNat * 7)) = some (.int .i64 ((rd_T39 t541 x5_1).f0)) ∧ w'.cell? ⟨(ad554.add ((x5_1).toNat * 7)).block, (ad554.add ((x5_1).toNat * 7)).off + 1, none⟩ = some (.int .i64 ((rd_T39 t541 x5_1).f1.f0)) ∧ w'.cell? ⟨(ad554.add ((x5_1).toNat * 7)).block, (ad554.add ((x5_1).toNat * 7)).off + 2, none⟩ = some (.string ((rd_T39 t541 x5_1).f1.f1)) ∧ w'.cell? ⟨(ad554.add ((x5_1).toNat * 7)).block, (ad554.add ((x5_1).toNat * 7)).off + 3, none⟩ = some (.string ((rd_T39 t541 x5_1).f1.f2)) ∧ w'.cell? ⟨(ad554.add ((x5_1).toNat * 7)).block, (ad554.add ((x5_1).toNat * 7)).off + 4, none⟩ = some (.int .i64 ((rd_T39 t541 x5_1).f2.f0)) ∧ w'.cell? ⟨(ad554.add ((x5_1).toNat * 7)).block, (ad554.add ((x5_1).toNat * 7)).off + 5, none⟩ = some (.string ((rd_T39 t541 x5_1).f2.f1)) ∧ w'.cell? ⟨(ad554.add ((x5_1).toNat * 7)).block, (ad554.add ((x5_1).toNat * 7)).off + 6, none⟩ = some (.string ((rd_T39 t541 x5_1).f2.f2))) (ds := []) #[false, false, false, false, false, false, false, false, false, false, false, false, false, false, false, false, false, false, false, false, false, false, false, false, false, false, false, false, false, false, false] (by kernel_rfl) rfl rfl ⟨((HB.out.cell (World.block_lt_of_cell? w _ hw551_0)).trans hw551_0), ((HB.out.cell (World.block_lt_of_cell? w _ hw551_1)).trans hw551_1), ((HB.out.cell (World.block_lt_of_cell? w _ hw551_2)).trans hw551_2), ((HB.out.cell (World.block_lt_of_cell? w _ hw551_3)).trans hw551_3), ((HB.out.cell (World.block_lt_of_cell? w _ hw551_4)).trans hw551_4), ((HB.out.cell (World.block_lt_of_cell? w _ hw551_5)).trans hw551_5), ((HB.out.cell (World.block_lt_of_cell? w _ hw551_6)).trans hw551_6), ((HB.out.cell (World.block_lt_of_cell? w _ hw553_0)).trans hw553_0), ((HB.out.cell (World.block_lt_of_cell? w _ hw553_1)).trans hw553_1), ((HB.out.cell (World.block_lt_of_cell? w _ hw553_2)).trans hw553_2), ((HB.out.cell (World.block_lt_of_cell? w _ hw553_3)).trans hw553_3), ((HB.out.cell (World.block_lt_of_cell? w _ hw553_4)).trans hw553_4), ((HB.out.cell (World.block_lt_of_cell? w _ hw553_5)).trans hw553_5), ((HB.out.cell (World.block_lt_of_cell? w _ hw553_6)).trans hw553_6), hx554_0, hx554_1, hx554_2, hx554_3, hx554_4, hx554_5, hx554_6, ((HB.out.cell (World.block_lt_of_cell? w _ hw555_0)).trans hw555_0), ((HB.out.cell (World.block_lt_of_cell? w _ hw555_1)).trans hw555_1), ((HB.out.cell (World.block_lt_of_cell? w _ hw555_2)).trans hw555_2), ((HB.out.cell (World.block_lt_of_cell? w _ hw555_3)).trans hw555_3), ((HB.out.cell (World.block_lt_of_cell? w _ hw555_4)).trans hw555_4), ((HB.out.cell (World.block_lt_of_cell? w _ hw555_5)).trans hw555_5), ((HB.out.cell (World.block_lt_of_cell? w _ hw555_6)).trans hw555_6), hx556_0, hx556_1, hx556_2, hx556_3, hx556_4, hx556_5, hx556_6⟩ (fun hHeld => ?_); refine with_tabW cleanselaw21_BondLast.tab14 cleanselaw21_BondLast.bits14 (fun HT_ HW_ => ?_)
                           generalize wr.drew = w43 at HO_4 BK550 HB hx551_0 hx551_1 hx551_2 hx551_3 hx551_4 hx551_5 hx551_6 hx553_0 hx553_1 hx553_2 hx553_3 hx553_4 hx553_5 hx553_6 hx554_0 hx554_1 hx554_2 hx554_3 hx554_4 hx554_5 hx554_6 hx555_0 hx555_1 hx555_2 hx555_3 hx555_4 hx555_5 hx555_6 hx556_0 hx556_1 hx556_2 hx556_3 hx556_4 hx556_5 hx556_6 hHeld ⊢
                           refine pure_ (i := 0) (N := some 60) (v := ?_) (a' := ?_) #[true, false, false, false, false, false, false, false, false, false, false, false, false, false, false, false, false, false, false, false, false, false, false, false, false, false, false, false, false, false, false] rfl rfl (any_of HT_.out (by kernel_rfl)) (fun _ _ _ h => h) (Or.inl ⟨by rfl, ?_⟩) ?_ ?_
                           rotate_left
                           · intro w'
                             go_simp
                             with_reducible rfl
                           rotate_left
                           · simp only [Act.put, List.setIfInBounds_toArray, List.set_cons_zero, List.set_cons_succ, i64_w, i32_w]
                             rfl
                           refine pure_ (i := 1) (N := some 61) (v := ?_) (a' := ?_) #[true, true, false, false, false, false, false, false, false, false, false, false, false, false, false, false, false, false, false, false, false, false, false, false, false, false, false, false, false, false, false] rfl rfl (any_of HT_.out (by kernel_rfl)) (fun _ _ _ h => h) (Or.inl ⟨by rfl, ?_⟩) ?_ ?_
                           rotate_left
                           · intro w'
                             go_simp
                             with_reducible rfl
                           rotate_left
                           · simp only [Act.put, List.setIfInBounds_toArray, List.set_cons_zero, List.set_cons_succ, i64_w, i32_w]
                             rfl
                           refine pure_ (i := 2) (N := some 62) (v := ?_) (a' := ?_) #[true, true, true, false, false, false, false, false, false, false, false, false, false, false, false, false, false, false, false, false, false, false, false, false, false, false, false, false, false, false, false] rfl rfl (any_of HT_.out (by kernel_rfl)) (fun _ _ _ h => h) (Or.inl ⟨by rfl, ?_⟩) ?_ ?_
                           rotate_left
                           · intro w'
                             go_simp
                             with_reducible rfl
                           rotate_left
                           · simp only [Act.put, List.setIfInBounds_toArray, List.set_cons_zero, List.set_cons_succ, i64_w, i32_w]
                             rfl
                           refine take_ (i := 3) (N := some 63) (v := ?_) (a' := ?_) #[true, true, true, true, false, false, false, false, false, false, false, false, false, false, false, false, false, false, false, false, false, false, false, false, false, false, false, false, false, false, false] rfl rfl (take_ofW HT_.out HW_.out (by kernel_rfl)) (fun _ _ _ h => h) (Or.inl ⟨by rfl, ?_⟩) hHeld ?_ ?_
                           rotate_left
                           · rintro w' ⟨s0, s1, s2, s3, s4, s5, s6, s7, s8, s9, s10, s11, s12, s13, s14, s15, s16, s17, s18, s19, s20, s21, s22, s23, s24, s25, s26, s27, s28, s29, s30, s31, s32, s33, s34⟩
                             go_simp
                             with_reducible rfl
                           rotate_left
                           · simp only [Act.put, List.setIfInBounds_toArray, List.set_cons_zero, List.set_cons_succ, i64_w, i32_w]
                             rfl
                           refine one_ (i := 4) (N := some 64) #[true, true, true, true, true, false, false, false, false, false, false, false, false, false, false, false, false, false, false, false, false, false, false, false, false, false, false, false, false, false, false] rfl rfl (one_of HT_.out (by kernel_rfl)) (by decide) (fun K hK => ?_)
                           refine goes_ Try.func20 (by kernel_rfl) rfl #[.agg #[.int .i64 ((rd_T39 l0 x7_3).f0), .int .i64 ((rd_T39 l0 x7_3).f1.f0), .string ((rd_T39 l0 x7_3).f1.f1), .string ((rd_T39 l0 x7_3).f1.f2), .int .i64 ((rd_T39 l0 x7_3).f2.f0), .string ((rd_T39 l0 x7_3).f2.f1), .string ((rd_T39 l0 x7_3).f2.f2)]] (by rfl) rfl rfl (by (try simp only [List.map_toArray, List.map_cons, List.map_nil]); first | done | rfl | (simp only [List.length_drop, List.length_take]; rfl)) ?_
                           with_reducible refine (cleanseref21_Formed.calls ((rd_T39 l0 x7_3).f0) ((rd_T39 l0 x7_3).f1.f0) ((rd_T39 l0 x7_3).f1.f1) ((rd_T39 l0 x7_3).f1.f2) ((rd_T39 l0 x7_3).f2.f0) ((rd_T39 l0 x7_3).f2.f1) ((rd_T39 l0 x7_3).f2.f2) true _ A34.out).mono ?_
                           rintro e w44 ⟨rfl, hb⟩
                           have HS14_ := (hb.cell (World.block_lt_of_cell? _ _ (hHeld.2.2.2.2.2.2.2.2.2.2.2.2.2.2.1))).trans (hHeld.2.2.2.2.2.2.2.2.2.2.2.2.2.2.1)
                           have HS15_ := (hb.cell (World.block_lt_of_cell? _ _ (hHeld.2.2.2.2.2.2.2.2.2.2.2.2.2.2.2.1))).trans (hHeld.2.2.2.2.2.2.2.2.2.2.2.2.2.2.2.1)
                           have HS16_ := (hb.cell (World.block_lt_of_cell? _ _ (hHeld.2.2.2.2.2.2.2.2.2.2.2.2.2.2.2.2.1))).trans (hHeld.2.2.2.2.2.2.2.2.2.2.2.2.2.2.2.2.1)
                           have HS17_ := (hb.cell (World.block_lt_of_cell? _ _ (hHeld.2.2.2.2.2.2.2.2.2.2.2.2.2.2.2.2.2.1))).trans (hHeld.2.2.2.2.2.2.2.2.2.2.2.2.2.2.2.2.2.1)
                           have HS18_ := (hb.cell (World.block_lt_of_cell? _ _ (hHeld.2.2.2.2.2.2.2.2.2.2.2.2.2.2.2.2.2.2.1))).trans (hHeld.2.2.2.2.2.2.2.2.2.2.2.2.2.2.2.2.2.2.1)
                           have HS19_ := (hb.cell (World.block_lt_of_cell? _ _ (hHeld.2.2.2.2.2.2.2.2.2.2.2.2.2.2.2.2.2.2.2.1))).trans (hHeld.2.2.2.2.2.2.2.2.2.2.2.2.2.2.2.2.2.2.2.1)
                           have HS20_ := (hb.cell (World.block_lt_of_cell? _ _ (hHeld.2.2.2.2.2.2.2.2.2.2.2.2.2.2.2.2.2.2.2.2.1))).trans (hHeld.2.2.2.2.2.2.2.2.2.2.2.2.2.2.2.2.2.2.2.2.1)
                           have HS28_ := (hb.cell (World.block_lt_of_cell? _ _ (hHeld.2.2.2.2.2.2.2.2.2.2.2.2.2.2.2.2.2.2.2.2.2.2.2.2.2.2.2.2.1))).trans (hHeld.2.2.2.2.2.2.2.2.2.2.2.2.2.2.2.2.2.2.2.2.2.2.2.2.2.2.2.2.1)
                           have HS29_ := (hb.cell (World.block_lt_of_cell? _ _ (hHeld.2.2.2.2.2.2.2.2.2.2.2.2.2.2.2.2.2.2.2.2.2.2.2.2.2.2.2.2.2.1))).trans (hHeld.2.2.2.2.2.2.2.2.2.2.2.2.2.2.2.2.2.2.2.2.2.2.2.2.2.2.2.2.2.1)
                           have HS30_ := (hb.cell (World.block_lt_of_cell? _ _ (hHeld.2.2.2.2.2.2.2.2.2.2.2.2.2.2.2.2.2.2.2.2.2.2.2.2.2.2.2.2.2.2.1))).trans (hHeld.2.2.2.2.2.2.2.2.2.2.2.2.2.2.2.2.2.2.2.2.2.2.2.2.2.2.2.2.2.2.1)
                           have HS31_ := (hb.cell (World.block_lt_of_cell? _ _ (hHeld.2.2.2.2.2.2.2.2.2.2.2.2.2.2.2.2.2.2.2.2.2.2.2.2.2.2.2.2.2.2.2.1))).trans (hHeld.2.2.2.2.2.2.2.2.2.2.2.2.2.2.2.2.2.2.2.2.2.2.2.2.2.2.2.2.2.2.2.1)
                           have HS32_ := (hb.cell (World.block_lt_of_cell? _ _ (hHeld.2.2.2.2.2.2.2.2.2.2.2.2.2.2.2.2.2.2.2.2.2.2.2.2.2.2.2.2.2.2.2.2.1))).trans (hHeld.2.2.2.2.2.2.2.2.2.2.2.2.2.2.2.2.2.2.2.2.2.2.2.2.2.2.2.2.2.2.2.2.1)
                           have HS33_ := (hb.cell (World.block_lt_of_cell? _ _ (hHeld.2.2.2.2.2.2.2.2.2.2.2.2.2.2.2.2.2.2.2.2.2.2.2.2.2.2.2.2.2.2.2.2.2.1))).trans (hHeld.2.2.2.2.2.2.2.2.2.2.2.2.2.2.2.2.2.2.2.2.2.2.2.2.2.2.2.2.2.2.2.2.2.1)
                           have HS34_ := (hb.cell (World.block_lt_of_cell? _ _ (hHeld.2.2.2.2.2.2.2.2.2.2.2.2.2.2.2.2.2.2.2.2.2.2.2.2.2.2.2.2.2.2.2.2.2.2))).trans (hHeld.2.2.2.2.2.2.2.2.2.2.2.2.2.2.2.2.2.2.2.2.2.2.2.2.2.2.2.2.2.2.2.2.2.2)
                           refine ⟨_, rfl, ?_⟩
                           have n0_ := Aside0.mk (Kd.R_below (by (with_reducible repeat (first | apply Kd.R_alloc | apply Kd.R_drewN | apply Kd.R_drew)); exact HO_4.out) hb)
                           have n1_ := Aside0.mk (blk_below (g := gb550) (o := .cells #[.int .i64 x551000_3, .int .i64 x551001_3, .string x551002_3, .string x551003_3, .int .i64 x551004_3, .string x551005_3, .string x551006_3] 39 (0, 0)) (by (with_reducible repeat (first | refine blk_drewN ?_ _ | refine blk_drew ?_ | refine blk_alloc ?_ _)); exact BK550.out) hb)
                           have n2_ := Aside0.mk (below_step (by repeat (first | (with_reducible first | exact HB.out | apply below_alloc | apply pw_below_drewN | apply below_drew1 | refine below_set ?_ GE550.out) | exact HB.out)) hb)
                           clear HO_4
                           clear BK550
                           clear HB
                           have HO_4 := n0_
                           have BK550 := n1_
                           have HB := n2_
                           clear n0_ n1_ n2_
                           (try clear hb)
                           (try clear hb2)
                           (try clear hk)
                           (try clear hi)
                           refine hK.out _ _ ⟨((HB.out.cell (World.block_lt_of_cell? w _ hw551_0)).trans hw551_0), ((HB.out.cell (World.block_lt_of_cell? w _ hw551_1)).trans hw551_1), ((HB.out.cell (World.block_lt_of_cell? w _ hw551_2)).trans hw551_2), ((HB.out.cell (World.block_lt_of_cell? w _ hw551_3)).trans hw551_3), ((HB.out.cell (World.block_lt_of_cell? w _ hw551_4)).trans hw551_4), ((HB.out.cell (World.block_lt_of_cell? w _ hw551_5)).trans hw551_5), ((HB.out.cell (World.block_lt_of_cell? w _ hw551_6)).trans hw551_6), ((HB.out.cell (World.block_lt_of_cell? w _ hw553_0)).trans hw553_0), ((HB.out.cell (World.block_lt_of_cell? w _ hw553_1)).trans hw553_1), ((HB.out.cell (World.block_lt_of_cell? w _ hw553_2)).trans hw553_2), ((HB.out.cell (World.block_lt_of_cell? w _ hw553_3)).trans hw553_3), ((HB.out.cell (World.block_lt_of_cell? w _ hw553_4)).trans hw553_4), ((HB.out.cell (World.block_lt_of_cell? w _ hw553_5)).trans hw553_5), ((HB.out.cell (World.block_lt_of_cell? w _ hw553_6)).trans hw553_6), HS14_, HS15_, HS16_, HS17_, HS18_, HS19_, HS20_, ((HB.out.cell (World.block_lt_of_cell? w _ hw555_0)).trans hw555_0), ((HB.out.cell (World.block_lt_of_cell? w _ hw555_1)).trans hw555_1), ((HB.out.cell (World.block_lt_of_cell? w _ hw555_2)).trans hw555_2), ((HB.out.cell (World.block_lt_of_cell? w _ hw555_3)).trans hw555_3), ((HB.out.cell (World.block_lt_of_cell? w _ hw555_4)).trans hw555_4), ((HB.out.cell (World.block_lt_of_cell? w _ hw555_5)).trans hw555_5), ((HB.out.cell (World.block_lt_of_cell? w _ hw555_6)).trans hw555_6), HS28_, HS29_, HS30_, HS31_, HS32_, HS33_, HS34_⟩ (fun hHeld => ?_)
                           clear hK K
                           refine norm_ (a' := ?_) ?_ ?_
                           rotate_left
                           · show Act.put _ (some 64) _ = _
                             simp only [Act.put, List.setIfInBounds_toArray, List.set_cons_zero, List.set_cons_succ, i64_w, i32_w]
                             rfl
                           refine pure_ (i := 5) (N := some 65) (v := ?_) (a' := ?_) #[true, true, true, true, true, true, false, false, false, false, false, false, false, false, false, false, false, false, false, false, false, false, false, false, false, false, false, false, false, false, false] rfl rfl (any_of HT_.out (by kernel_rfl)) (fun _ _ _ h => h) (Or.inl ⟨by rfl, ?_⟩) ?_ ?_
                           rotate_left
                           · intro w'
                             go_simp
                             with_reducible rfl
                           rotate_left
                           · simp only [Act.put, List.setIfInBounds_toArray, List.set_cons_zero, List.set_cons_succ, i64_w, i32_w]
                             rfl
                           refine pure_ (i := 6) (N := some 66) (v := ?_) (a' := ?_) #[true, true, true, true, true, true, true, false, false, false, false, false, false, false, false, false, false, false, false, false, false, false, false, false, false, false, false, false, false, false, false] rfl rfl (any_of HT_.out (by kernel_rfl)) (fun _ _ _ h => h) (Or.inl ⟨by rfl, ?_⟩) ?_ ?_
                           rotate_left
                           · intro w'
                             go_simp
                             with_reducible rfl
                           rotate_left
                           · simp only [Act.put, List.setIfInBounds_toArray, List.set_cons_zero, List.set_cons_succ, i64_w, i32_w]
                             rfl
                           refine pure_ (i := 7) (N := some 67) (v := ?_) (a' := ?_) #[true, true, true, true, true, true, true, true, false, false, false, false, false, false, false, false, false, false, false, false, false, false, false, false, false, false, false, false, false, false, false] rfl rfl (any_of HT_.out (by kernel_rfl)) (fun _ _ _ h => h) (Or.inl ⟨by rfl, ?_⟩) ?_ ?_
                           rotate_left
                           · intro w'
                             go_simp
                             with_reducible rfl
                           rotate_left
                           · simp only [Act.put, List.setIfInBounds_toArray, List.set_cons_zero, List.set_cons_succ, i64_w, i32_w]
                             rfl
                           refine pure_ (i := 8) (N := some 68) (v := ?_) (a' := ?_) #[true, true, true, true, true, true, true, true, true, false, false, false, false, false, false, false, false, false, false, false, false, false, false, false, false, false, false, false, false, false, false] rfl rfl (any_of HT_.out (by kernel_rfl)) (fun _ _ _ h => h) (Or.inl ⟨by rfl, ?_⟩) ?_ ?_
                           rotate_left
                           · intro w'
                             go_simp
                             with_reducible rfl
                           rotate_left
                           · simp only [Act.put, List.setIfInBounds_toArray, List.set_cons_zero, List.set_cons_succ, i64_w, i32_w]
                             rfl
                           refine pure_ (i := 9) (N := some 69) (v := ?_) (a' := ?_) #[true, true, true, true, true, true, true, true, true, true, false, false, false, false, false, false, false, false, false, false, false, false, false, false, false, false, false, false, false, false, false] rfl rfl (any_of HT_.out (by kernel_rfl)) (fun _ _ _ h => h) (Or.inl ⟨by rfl, ?_⟩) ?_ ?_
                           rotate_left
                           · intro w'
                             go_simp
                             with_reducible rfl
                           rotate_left
                           · simp only [Act.put, List.setIfInBounds_toArray, List.set_cons_zero, List.set_cons_succ, i64_w, i32_w]
                             rfl
                           refine pure_ (i := 11) (N := some 71) (v := ?_) (a' := ?_) #[true, true, true, true, true, true, true, true, true, true, false, true, false, false, false, false, false, false, false, false, false, false, false, false, false, false, false, false, false, false, false] rfl rfl (any_of HT_.out (by kernel_rfl)) (fun _ _ _ h => h) (Or.inl ⟨by rfl, ?_⟩) ?_ ?_
                           rotate_left
                           · intro w'
                             go_simp
                             with_reducible rfl
                           rotate_left
                           · simp only [Act.put, List.setIfInBounds_toArray, List.set_cons_zero, List.set_cons_succ, i64_w, i32_w]
                             rfl
                           refine pure_ (i := 12) (N := some 72) (v := ?_) (a' := ?_) #[true, true, true, true, true, true, true, true, true, true, false, true, true, false, false, false, false, false, false, false, false, false, false, false, false, false, false, false, false, false, false] rfl rfl (any_of HT_.out (by kernel_rfl)) (fun _ _ _ h => h) (Or.inl ⟨by rfl, ?_⟩) ?_ ?_
                           rotate_left
                           · intro w'
                             go_simp
                             with_reducible rfl
                           rotate_left
                           · simp only [Act.put, List.setIfInBounds_toArray, List.set_cons_zero, List.set_cons_succ, i64_w, i32_w]
                             rfl
                           refine pure_ (i := 13) (N := some 73) (v := ?_) (a' := ?_) #[true, true, true, true, true, true, true, true, true, true, false, true, true, true, false, false, false, false, false, false, false, false, false, false, false, false, false, false, false, false, false] rfl rfl (any_of HT_.out (by kernel_rfl)) (fun _ _ _ h => h) (Or.inl ⟨by rfl, ?_⟩) ?_ ?_
                           rotate_left
                           · intro w'
                             go_simp
                             with_reducible rfl
                           rotate_left
                           · simp only [Act.put, List.setIfInBounds_toArray, List.set_cons_zero, List.set_cons_succ, i64_w, i32_w]
                             rfl
                           refine pure_ (i := 14) (N := some 74) (v := ?_) (a' := ?_) #[true, true, true, true, true, true, true, true, true, true, false, true, true, true, true, false, false, false, false, false, false, false, false, false, false, false, false, false, false, false, false] rfl rfl (any_of HT_.out (by kernel_rfl)) (fun _ _ _ h => h) (Or.inl ⟨by rfl, ?_⟩) ?_ ?_
                           rotate_left
                           · intro w'
                             go_simp
                             with_reducible rfl
                           rotate_left
                           · simp only [Act.put, List.setIfInBounds_toArray, List.set_cons_zero, List.set_cons_succ, i64_w, i32_w]
                             rfl
                           refine take_ (i := 10) (N := some 70) (v := ?_) (a' := ?_) #[true, true, true, true, true, true, true, true, true, true, true, true, true, true, true, false, false, false, false, false, false, false, false, false, false, false, false, false, false, false, false] rfl rfl (take_ofW HT_.out HW_.out (by kernel_rfl)) (fun _ _ _ h => h) (Or.inl ⟨by rfl, ?_⟩) hHeld ?_ ?_
                           rotate_left
                           · rintro w' ⟨s0, s1, s2, s3, s4, s5, s6, s7, s8, s9, s10, s11, s12, s13, s14, s15, s16, s17, s18, s19, s20, s21, s22, s23, s24, s25, s26, s27, s28, s29, s30, s31, s32, s33, s34⟩
                             go_simp
                             with_reducible rfl
                           rotate_left
                           · simp only [Act.put, List.setIfInBounds_toArray, List.set_cons_zero, List.set_cons_succ, i64_w, i32_w]
                             rfl
                           refine take_ (i := 15) (N := some 75) (v := ?_) (a' := ?_) #[true, true, true, true, true, true, true, true, true, true, true, true, true, true, true, true, false, false, false, false, false, false, false, false, false, false, false, false, false, false, false] rfl rfl (take_ofW HT_.out HW_.out (by kernel_rfl)) (fun _ _ _ h => h) (Or.inl ⟨by rfl, ?_⟩) hHeld ?_ ?_
                           rotate_left
                           · rintro w' ⟨s0, s1, s2, s3, s4, s5, s6, s7, s8, s9, s10, s11, s12, s13, s14, s15, s16, s17, s18, s19, s20, s21, s22, s23, s24, s25, s26, s27, s28, s29, s30, s31, s32, s33, s34⟩
                             go_simp
                             with_reducible rfl
                           rotate_left
                           · simp only [Act.put, List.setIfInBounds_toArray, List.set_cons_zero, List.set_cons_succ, i64_w, i32_w]
                             rfl
                           refine pure_ (i := 16) (N := some 76) (v := ?_) (a' := ?_) #[true, true, true, true, true, true, true, true, true, true, true, true, true, true, true, true, true, false, false, false, false, false, false, false, false, false, false, false, false, false, false] rfl rfl (any_of HT_.out (by kernel_rfl)) (fun _ _ _ h => h) (Or.inl ⟨by rfl, ?_⟩) ?_ ?_
                           rotate_left
                           · intro w'
                             go_simp
                             with_reducible rfl
                           rotate_left
                           · simp only [Act.put, List.setIfInBounds_toArray, List.set_cons_zero, List.set_cons_succ, i64_w, i32_w]
                             rfl
                           refine pure_ (i := 17) (N := some 77) (v := ?_) (a' := ?_) #[true, true, true, true, true, true, true, true, true, true, true, true, true, true, true, true, true, true, false, false, false, false, false, false, false, false, false, false, false, false, false] rfl rfl (any_of HT_.out (by kernel_rfl)) (fun _ _ _ h => h) (Or.inl ⟨by rfl, ?_⟩) ?_ ?_
                           rotate_left
                           · intro w'
                             go_simp
                             with_reducible rfl
                           rotate_left
                           · simp only [Act.put, List.setIfInBounds_toArray, List.set_cons_zero, List.set_cons_succ, i64_w, i32_w]
                             rfl
                           refine pure_ (i := 18) (N := some 78) (v := ?_) (a' := ?_) #[true, true, true, true, true, true, true, true, true, true, true, true, true, true, true, true, true, true, true, false, false, false, false, false, false, false, false, false, false, false, false] rfl rfl (any_of HT_.out (by kernel_rfl)) (fun _ _ _ h => h) (Or.inl ⟨by rfl, ?_⟩) ?_ ?_
                           rotate_left
                           · intro w'
                             go_simp
                             with_reducible rfl
                           rotate_left
                           · simp only [Act.put, List.setIfInBounds_toArray, List.set_cons_zero, List.set_cons_succ, i64_w, i32_w]
                             rfl
                           refine pure_ (i := 19) (N := some 79) (v := ?_) (a' := ?_) #[true, true, true, true, true, true, true, true, true, true, true, true, true, true, true, true, true, true, true, true, false, false, false, false, false, false, false, false, false, false, false] rfl rfl (any_of HT_.out (by kernel_rfl)) (fun _ _ _ h => h) (Or.inl ⟨by rfl, ?_⟩) ?_ ?_
                           rotate_left
                           · intro w'
                             go_simp
                             with_reducible rfl
                           rotate_left
                           · simp only [Act.put, List.setIfInBounds_toArray, List.set_cons_zero, List.set_cons_succ, i64_w, i32_w]
                             rfl
                           refine pure_ (i := 20) (N := some 80) (v := ?_) (a' := ?_) #[true, true, true, true, true, true, true, true, true, true, true, true, true, true, true, true, true, true, true, true, true, false, false, false, false, false, false, false, false, false, false] rfl rfl (any_of HT_.out (by kernel_rfl)) (fun _ _ _ h => h) (Or.inl ⟨by rfl, ?_⟩) ?_ ?_
                           rotate_left
                           · intro w'
                             go_simp
                             with_reducible rfl
                           rotate_left
                           · simp only [Act.put, List.setIfInBounds_toArray, List.set_cons_zero, List.set_cons_succ, i64_w, i32_w]
                             rfl
                           refine pure_ (i := 21) (N := some 81) (v := ?_) (a' := ?_) #[true, true, true, true, true, true, true, true, true, true, true, true, true, true, true, true, true, true, true, true, true, true, false, false, false, false, false, false, false, false, false] rfl rfl (any_of HT_.out (by kernel_rfl)) (fun _ _ _ h => h) (Or.inl ⟨by rfl, ?_⟩) ?_ ?_
                           rotate_left
                           · intro w'
                             go_simp
                             with_reducible rfl
                           rotate_left
                           · simp only [Act.put, List.setIfInBounds_toArray, List.set_cons_zero, List.set_cons_succ, i64_w, i32_w]
                             rfl
                           refine pure_ (i := 22) (N := some 82) (v := ?_) (a' := ?_) #[true, true, true, true, true, true, true, true, true, true, true, true, true, true, true, true, true, true, true, true, true, true, true, false, false, false, false, false, false, false, false] rfl rfl (any_of HT_.out (by kernel_rfl)) (fun _ _ _ h => h) (Or.inl ⟨by rfl, ?_⟩) ?_ ?_
                           rotate_left
                           · intro w'
                             go_simp
                             with_reducible rfl
                           rotate_left
                           · simp only [Act.put, List.setIfInBounds_toArray, List.set_cons_zero, List.set_cons_succ, i64_w, i32_w]
                             rfl
                           refine pure_ (i := 24) (N := some 84) (v := ?_) (a' := ?_) #[true, true, true, true, true, true, true, true, true, true, true, true, true, true, true, true, true, true, true, true, true, true, true, false, true, false, false, false, false, false, false] rfl rfl (any_of HT_.out (by kernel_rfl)) (fun _ _ _ h => h) (Or.inl ⟨by rfl, ?_⟩) ?_ ?_
                           rotate_left
                           · intro w'
                             go_simp
                             with_reducible rfl
                           rotate_left
                           · simp only [Act.put, List.setIfInBounds_toArray, List.set_cons_zero, List.set_cons_succ, i64_w, i32_w]
                             rfl
                           refine pure_ (i := 25) (N := some 85) (v := ?_) (a' := ?_) #[true, true, true, true, true, true, true, true, true, true, true, true, true, true, true, true, true, true, true, true, true, true, true, false, true, true, false, false, false, false, false] rfl rfl (any_of HT_.out (by kernel_rfl)) (fun _ _ _ h => h) (Or.inl ⟨by rfl, ?_⟩) ?_ ?_
                           rotate_left
                           · intro w'
                             go_simp
                             with_reducible rfl
                           rotate_left
                           · simp only [Act.put, List.setIfInBounds_toArray, List.set_cons_zero, List.set_cons_succ, i64_w, i32_w]
                             rfl
                           refine pure_ (i := 26) (N := some 86) (v := ?_) (a' := ?_) #[true, true, true, true, true, true, true, true, true, true, true, true, true, true, true, true, true, true, true, true, true, true, true, false, true, true, true, false, false, false, false] rfl rfl (any_of HT_.out (by kernel_rfl)) (fun _ _ _ h => h) (Or.inl ⟨by rfl, ?_⟩) ?_ ?_
                           rotate_left
                           · intro w'
                             go_simp
                             with_reducible rfl
                           rotate_left
                           · simp only [Act.put, List.setIfInBounds_toArray, List.set_cons_zero, List.set_cons_succ, i64_w, i32_w]
                             rfl
                           refine pure_ (i := 27) (N := some 87) (v := ?_) (a' := ?_) #[true, true, true, true, true, true, true, true, true, true, true, true, true, true, true, true, true, true, true, true, true, true, true, false, true, true, true, true, false, false, false] rfl rfl (any_of HT_.out (by kernel_rfl)) (fun _ _ _ h => h) (Or.inl ⟨by rfl, ?_⟩) ?_ ?_
                           rotate_left
                           · intro w'
                             go_simp
                             with_reducible rfl
                           rotate_left
                           · simp only [Act.put, List.setIfInBounds_toArray, List.set_cons_zero, List.set_cons_succ, i64_w, i32_w]
                             rfl
                           refine take_ (i := 23) (N := some 83) (v := ?_) (a' := ?_) #[true, true, true, true, true, true, true, true, true, true, true, true, true, true, true, true, true, true, true, true, true, true, true, true, true, true, true, true, false, false, false] rfl rfl (take_ofW HT_.out HW_.out (by kernel_rfl)) (fun _ _ _ h => h) (Or.inl ⟨by rfl, ?_⟩) hHeld ?_ ?_
                           rotate_left
                           · rintro w' ⟨s0, s1, s2, s3, s4, s5, s6, s7, s8, s9, s10, s11, s12, s13, s14, s15, s16, s17, s18, s19, s20, s21, s22, s23, s24, s25, s26, s27, s28, s29, s30, s31, s32, s33, s34⟩
                             go_simp
                             with_reducible rfl
                           rotate_left
                           · simp only [Act.put, List.setIfInBounds_toArray, List.set_cons_zero, List.set_cons_succ, i64_w, i32_w]
                             rfl
                           refine take_ (i := 28) (N := some 88) (v := ?_) (a' := ?_) #[true, true, true, true, true, true, true, true, true, true, true, true, true, true, true, true, true, true, true, true, true, true, true, true, true, true, true, true, true, false, false] rfl rfl (take_ofW HT_.out HW_.out (by kernel_rfl)) (fun _ _ _ h => h) (Or.inl ⟨by rfl, ?_⟩) hHeld ?_ ?_
                           rotate_left
                           · rintro w' ⟨s0, s1, s2, s3, s4, s5, s6, s7, s8, s9, s10, s11, s12, s13, s14, s15, s16, s17, s18, s19, s20, s21, s22, s23, s24, s25, s26, s27, s28, s29, s30, s31, s32, s33, s34⟩
                             go_simp
                             with_reducible rfl
                           rotate_left
                           · simp only [Act.put, List.setIfInBounds_toArray, List.set_cons_zero, List.set_cons_succ, i64_w, i32_w]
                             rfl
                           refine pure_ (i := 29) (N := some 89) (v := ?_) (a' := ?_) #[true, true, true, true, true, true, true, true, true, true, true, true, true, true, true, true, true, true, true, true, true, true, true, true, true, true, true, true, true, true, false] rfl rfl (any_of HT_.out (by kernel_rfl)) (fun _ _ _ h => h) (Or.inl ⟨by rfl, ?_⟩) ?_ ?_
                           rotate_left
                           · intro w'
                             go_simp
                             with_reducible rfl
                           rotate_left
                           · simp only [Act.put, List.setIfInBounds_toArray, List.set_cons_zero, List.set_cons_succ, i64_w, i32_w]
                             rfl
                           refine pure_ (i := 30) (N := some 90) (v := ?_) (a' := ?_) #[true, true, true, true, true, true, true, true, true, true, true, true, true, true, true, true, true, true, true, true, true, true, true, true, true, true, true, true, true, true, true] rfl rfl (any_of HT_.out (by kernel_rfl)) (fun _ _ _ h => h) (Or.inl ⟨by rfl, ?_⟩) ?_ ?_
                           rotate_left
                           · intro w'
                             go_simp
                             with_reducible rfl
                           rotate_left
                           · simp only [Act.put, List.setIfInBounds_toArray, List.set_cons_zero, List.set_cons_succ, i64_w, i32_w]
                             rfl
                           refine done_ (done_of HT_.out (by kernel_rfl)) ?_
                           try go_wp2
                           go_roundg k3
                           case measure => have := HK1.out; have := HJ8.out; have := HK3.out; omega
                           case rel => exact ⟨(wrap64 (x7_3 + 1)), (x551000_3), (x551001_3), (x551002_3), (x551003_3), (x551004_3), (x551005_3), (x551006_3), (by first | rfl | (simp; done) | (simp [*]; done)), H', ⟨by have := HK1.out; have := HJ8.out; have := HK3.out; omega⟩, ⟨by (with_reducible repeat (first | apply Kd.R_alloc | apply Kd.R_drewN | apply Kd.R_drew)); exact HO_4.out⟩, ⟨by (with_reducible repeat (first | refine blk_drewN ?_ _ | refine blk_drew ?_ | refine blk_alloc ?_ _)); exact BK550.out⟩, ⟨by repeat (first | (with_reducible first | exact HB.out | apply below_alloc | apply pw_below_drewN | apply below_drew1 | refine below_set ?_ GE550.out) | exact HB.out)⟩⟩
                       · rw [if_neg c38] at H
                         have c38b0 : (((rd_T39 l0 x7_3).f1.f0) == ((rd_T39 t541 x5_1).f1.f0) && ((((rd_T39 l0 x7_3).f1.f1).toList) == (((rd_T39 t541 x5_1).f1.f1).toList) && ((((rd_T39 l0 x7_3).f1.f2).toList) == (((rd_T39 t541 x5_1).f1.f2).toList)))) = false := by simpa using c38
                         (try (have c38b1 : decide (((rd_T39 l0 x7_3).f1.f0) = ((rd_T39 t541 x5_1).f1.f0) && ((((rd_T39 l0 x7_3).f1.f1).toList) == (((rd_T39 t541 x5_1).f1.f1).toList) && ((((rd_T39 l0 x7_3).f1.f2).toList) == (((rd_T39 t541 x5_1).f1.f2).toList)))) = false := by simpa using c38))
                         (try (have c38b2 : (((rd_T39 l0 x7_3).f1.f0) == ((rd_T39 t541 x5_1).f1.f0) && ((((rd_T39 l0 x7_3).f1.f1).toList) == (((rd_T39 t541 x5_1).f1.f1).toList) && ((((rd_T39 l0 x7_3).f1.f2).toList) == (((rd_T39 t541 x5_1).f1.f2).toList)))) = false := by simpa using c38))
                         (try (have c38b3 : ¬ (((rd_T39 l0 x7_3).f1.f0) = ((rd_T39 t541 x5_1).f1.f0) && ((((rd_T39 l0 x7_3).f1.f1).toList) == (((rd_T39 t541 x5_1).f1.f1).toList) && ((((rd_T39 l0 x7_3).f1.f2).toList) == (((rd_T39 t541 x5_1).f1.f2).toList)))) := by simpa using c38))
                         clear c38
                         have H' := Aside0.mk H
                         clear H
                         try go_wp2
                         have n0_ := Aside0.mk (Kd.R_drew HO_4.out)
                         have n1_ := Aside0.mk (blk_drew BK550.out)
                         have n2_ := Aside0.mk (below_drew1 HB.out)
                         clear HO_4
                         clear BK550
                         clear HB
                         have HO_4 := n0_
                         have BK550 := n1_
                         have HB := n2_
                         clear n0_ n1_ n2_
                         have p551 : 0 ≤ (x7_3 : Int) := of_decide_eq_true (by first | (with_reducible assumption) | assumption)
                         have q551 : x7_3 < (l0.length : Int) := of_decide_eq_true (by first | (with_reducible assumption) | assumption)
                         obtain ⟨ad551, e551, hx551_0, hx551_1, hx551_2, hx551_3, hx551_4, hx551_5, hx551_6⟩ := at_T39 HR0.out x7_3 p551 q551
                         have hw551_6 := hx551_6
                         have hw551_5 := hx551_5
                         have hw551_4 := hx551_4
                         have hw551_3 := hx551_3
                         have hw551_2 := hx551_2
                         have hw551_1 := hx551_1
                         have hw551_0 := hx551_0
                         cases e551
                         replace hx551_0 := (HB.out.cell (World.block_lt_of_cell? w _ hx551_0)).trans hx551_0
                         replace hx551_1 := (HB.out.cell (World.block_lt_of_cell? w _ hx551_1)).trans hx551_1
                         replace hx551_2 := (HB.out.cell (World.block_lt_of_cell? w _ hx551_2)).trans hx551_2
                         replace hx551_3 := (HB.out.cell (World.block_lt_of_cell? w _ hx551_3)).trans hx551_3
                         replace hx551_4 := (HB.out.cell (World.block_lt_of_cell? w _ hx551_4)).trans hx551_4
                         replace hx551_5 := (HB.out.cell (World.block_lt_of_cell? w _ hx551_5)).trans hx551_5
                         replace hx551_6 := (HB.out.cell (World.block_lt_of_cell? w _ hx551_6)).trans hx551_6
                         replace p551 := eq_true p551
                         replace q551 := eq_true q551
                         have p553 : 0 ≤ (x7_3 : Int) := of_decide_eq_true (by first | (with_reducible assumption) | assumption)
                         have q553 : x7_3 < (l0.length : Int) := of_decide_eq_true (by first | (with_reducible assumption) | assumption)
                         obtain ⟨ad553, e553, hx553_0, hx553_1, hx553_2, hx553_3, hx553_4, hx553_5, hx553_6⟩ := at_T39 HR0.out x7_3 p553 q553
                         have hw553_6 := hx553_6
                         have hw553_5 := hx553_5
                         have hw553_4 := hx553_4
                         have hw553_3 := hx553_3
                         have hw553_2 := hx553_2
                         have hw553_1 := hx553_1
                         have hw553_0 := hx553_0
                         obtain rfl : ad551 = ad553 := (by injection e553)
                         replace hx553_0 := (HB.out.cell (World.block_lt_of_cell? w _ hx553_0)).trans hx553_0
                         replace hx553_1 := (HB.out.cell (World.block_lt_of_cell? w _ hx553_1)).trans hx553_1
                         replace hx553_2 := (HB.out.cell (World.block_lt_of_cell? w _ hx553_2)).trans hx553_2
                         replace hx553_3 := (HB.out.cell (World.block_lt_of_cell? w _ hx553_3)).trans hx553_3
                         replace hx553_4 := (HB.out.cell (World.block_lt_of_cell? w _ hx553_4)).trans hx553_4
                         replace hx553_5 := (HB.out.cell (World.block_lt_of_cell? w _ hx553_5)).trans hx553_5
                         replace hx553_6 := (HB.out.cell (World.block_lt_of_cell? w _ hx553_6)).trans hx553_6
                         replace p553 := eq_true p553
                         replace q553 := eq_true q553
                         have p554 : 0 ≤ (x5_1 : Int) := of_decide_eq_true (by first | (with_reducible assumption) | assumption)
                         have q554 : x5_1 < (t541.length : Int) := of_decide_eq_true (by first | (with_reducible assumption) | assumption)
                         obtain ⟨ad554, e554, hx554_0, hx554_1, hx554_2, hx554_3, hx554_4, hx554_5, hx554_6⟩ := at_T39 (Kd.R_reads' HO_4.out).2.2 x5_1 p554 q554
                         cases e554
                         replace p554 := eq_true p554
                         replace q554 := eq_true q554
                         refine start_ (n := 31) (S := fun w' => w'.cell? (ad551.add ((x7_3).toNat * 7)) = some (.int .i64 ((rd_T39 l0 x7_3).f0)) ∧ w'.cell? ⟨(ad551.add ((x7_3).toNat * 7)).block, (ad551.add ((x7_3).toNat * 7)).off + 1, none⟩ = some (.int .i64 ((rd_T39 l0 x7_3).f1.f0)) ∧ w'.cell? ⟨(ad551.add ((x7_3).toNat * 7)).block, (ad551.add ((x7_3).toNat * 7)).off + 2, none⟩ = some (.string ((rd_T39 l0 x7_3).f1.f1)) ∧ w'.cell? ⟨(ad551.add ((x7_3).toNat * 7)).block, (ad551.add ((x7_3).toNat * 7)).off + 3, none⟩ = some (.string ((rd_T39 l0 x7_3).f1.f2)) ∧ w'.cell? ⟨(ad551.add ((x7_3).toNat * 7)).block, (ad551.add ((x7_3).toNat * 7)).off + 4, none⟩ = some (.int .i64 ((rd_T39 l0 x7_3).f2.f0)) ∧ w'.cell? ⟨(ad551.add ((x7_3).toNat * 7)).block, (ad551.add ((x7_3).toNat * 7)).off + 5, none⟩ = some (.string ((rd_T39 l0 x7_3).f2.f1)) ∧ w'.cell? ⟨(ad551.add ((x7_3).toNat * 7)).block, (ad551.add ((x7_3).toNat * 7)).off + 6, none⟩ = some (.string ((rd_T39 l0 x7_3).f2.f2)) ∧ w'.cell? (ad551.add ((x7_3).toNat * 7)) = some (.int .i64 ((rd_T39 l0 x7_3).f0)) ∧ w'.cell? ⟨(ad551.add ((x7_3).toNat * 7)).block, (ad551.add ((x7_3).toNat * 7)).off + 1, none⟩ = some (.int .i64 ((rd_T39 l0 x7_3).f1.f0)) ∧ w'.cell? ⟨(ad551.add ((x7_3).toNat * 7)).block, (ad551.add ((x7_3).toNat * 7)).off + 2, none⟩ = some (.string ((rd_T39 l0 x7_3).f1.f1)) ∧ w'.cell? ⟨(ad551.add ((x7_3).toNat * 7)).block, (ad551.add ((x7_3).toNat * 7)).off + 3, none⟩ = some (.string ((rd_T39 l0 x7_3).f1.f2)) ∧ w'.cell? ⟨(ad551.add ((x7_3).toNat * 7)).block, (ad551.add ((x7_3).toNat * 7)).off + 4, none⟩ = some (.int .i64 ((rd_T39 l0 x7_3).f2.f0)) ∧ w'.cell? ⟨(ad551.add ((x7_3).toNat * 7)).block, (ad551.add ((x7_3).toNat * 7)).off + 5, none⟩ = some (.string ((rd_T39 l0 x7_3).f2.f1)) ∧ w'.cell? ⟨(ad551.add ((x7_3).toNat * 7)).block, (ad551.add ((x7_3).toNat * 7)).off + 6, none⟩ = some (.string ((rd_T39 l0 x7_3).f2.f2)) ∧ w'.cell? (ad554.add ((x5_1).toNat * 7)) = some (.int .i64 ((rd_T39 t541 x5_1).f0)) ∧ w'.cell? ⟨(ad554.add ((x5_1).toNat * 7)).block, (ad554.add ((x5_1).toNat * 7)).off + 1, none⟩ = some (.int .i64 ((rd_T39 t541 x5_1).f1.f0)) ∧ w'.cell? ⟨(ad554.add ((x5_1).toNat * 7)).block, (ad554.add ((x5_1).toNat * 7)).off + 2, none⟩ = some (.string ((rd_T39 t541 x5_1).f1.f1)) ∧ w'.cell? ⟨(ad554.add ((x5_1).toNat * 7)).block, (ad554.add ((x5_1).toNat * 7)).off + 3, none⟩ = some (.string ((rd_T39 t541 x5_1).f1.f2)) ∧ w'.cell? ⟨(ad554.add ((x5_1).toNat * 7)).block, (ad554.add ((x5_1).toNat * 7)).off + 4, none⟩ = some (.int .i64 ((rd_T39 t541 x5_1).f2.f0)) ∧ w'.cell? ⟨(ad554.add ((x5_1).toNat * 7)).block, (ad554.add ((x5_1).toNat * 7)).off + 5, none⟩ = some (.string ((rd_T39 t541 x5_1).f2.f1)) ∧ w'.cell? ⟨(ad554.add ((x5_1).toNat * 7)).block, (ad554.add ((x5_1).toNat * 7)).off + 6, none⟩ = some (.string ((rd_T39 t541 x5_1).f2.f2))) (ds := []) #[false, false, false, false, false, false, false, false, false, false, false, false, false, false, false, false, false, false, false, false, false, false, false, false, false, false, false, false, false, false, false] (by kernel_rfl) rfl rfl ⟨((HB.out.cell (World.block_lt_of_cell? w _ hw551_0)).trans hw551_0), ((HB.out.cell (World.block_lt_of_cell? w _ hw551_1)).trans hw551_1), ((HB.out.cell (World.block_lt_of_cell? w _ hw551_2)).trans hw551_2), ((HB.out.cell (World.block_lt_of_cell? w _ hw551_3)).trans hw551_3), ((HB.out.cell (World.block_lt_of_cell? w _ hw551_4)).trans hw551_4), ((HB.out.cell (World.block_lt_of_cell? w _ hw551_5)).trans hw551_5), ((HB.out.cell (World.block_lt_of_cell? w _ hw551_6)).trans hw551_6), ((HB.out.cell (World.block_lt_of_cell? w _ hw553_0)).trans hw553_0), ((HB.out.cell (World.block_lt_of_cell? w _ hw553_1)).trans hw553_1), ((HB.out.cell (World.block_lt_of_cell? w _ hw553_2)).trans hw553_2), ((HB.out.cell (World.block_lt_of_cell? w _ hw553_3)).trans hw553_3), ((HB.out.cell (World.block_lt_of_cell? w _ hw553_4)).trans hw553_4), ((HB.out.cell (World.block_lt_of_cell? w _ hw553_5)).trans hw553_5), ((HB.out.cell (World.block_lt_of_cell? w _ hw553_6)).trans hw553_6), hx554_0, hx554_1, hx554_2, hx554_3, hx554_4, hx554_5, hx554_6⟩ (fun hHeld => ?_); refine with_tabW cleanselaw21_BondLast.tab14 cleanselaw21_BondLast.bits14 (fun HT_ HW_ => ?_)
                         generalize wr.drew = w45 at HO_4 BK550 HB hx551_0 hx551_1 hx551_2 hx551_3 hx551_4 hx551_5 hx551_6 hx553_0 hx553_1 hx553_2 hx553_3 hx553_4 hx553_5 hx553_6 hx554_0 hx554_1 hx554_2 hx554_3 hx554_4 hx554_5 hx554_6 hHeld ⊢
                         refine pure_ (i := 0) (N := some 60) (v := ?_) (a' := ?_) #[true, false, false, false, false, false, false, false, false, false, false, false, false, false, false, false, false, false, false, false, false, false, false, false, false, false, false, false, false, false, false] rfl rfl (any_of HT_.out (by kernel_rfl)) (fun _ _ _ h => h) (Or.inl ⟨by rfl, ?_⟩) ?_ ?_
                         rotate_left
                         · intro w'
                           go_simp
                           with_reducible rfl
                         rotate_left
                         · simp only [Act.put, List.setIfInBounds_toArray, List.set_cons_zero, List.set_cons_succ, i64_w, i32_w]
                           rfl
                         refine pure_ (i := 1) (N := some 61) (v := ?_) (a' := ?_) #[true, true, false, false, false, false, false, false, false, false, false, false, false, false, false, false, false, false, false, false, false, false, false, false, false, false, false, false, false, false, false] rfl rfl (any_of HT_.out (by kernel_rfl)) (fun _ _ _ h => h) (Or.inl ⟨by rfl, ?_⟩) ?_ ?_
                         rotate_left
                         · intro w'
                           go_simp
                           with_reducible rfl
                         rotate_left
                         · simp only [Act.put, List.setIfInBounds_toArray, List.set_cons_zero, List.set_cons_succ, i64_w, i32_w]
                           rfl
                         refine pure_ (i := 2) (N := some 62) (v := ?_) (a' := ?_) #[true, true, true, false, false, false, false, false, false, false, false, false, false, false, false, false, false, false, false, false, false, false, false, false, false, false, false, false, false, false, false] rfl rfl (any_of HT_.out (by kernel_rfl)) (fun _ _ _ h => h) (Or.inl ⟨by rfl, ?_⟩) ?_ ?_
                         rotate_left
                         · intro w'
                           go_simp
                           with_reducible rfl
                         rotate_left
                         · simp only [Act.put, List.setIfInBounds_toArray, List.set_cons_zero, List.set_cons_succ, i64_w, i32_w]
                           rfl
                         refine take_ (i := 3) (N := some 63) (v := ?_) (a' := ?_) #[true, true, true, true, false, false, false, false, false, false, false, false, false, false, false, false, false, false, false, false, false, false, false, false, false, false, false, false, false, false, false] rfl rfl (take_ofW HT_.out HW_.out (by kernel_rfl)) (fun _ _ _ h => h) (Or.inl ⟨by rfl, ?_⟩) hHeld ?_ ?_
                         rotate_left
                         · rintro w' ⟨s0, s1, s2, s3, s4, s5, s6, s7, s8, s9, s10, s11, s12, s13, s14, s15, s16, s17, s18, s19, s20⟩
                           go_simp
                           with_reducible rfl
                         rotate_left
                         · simp only [Act.put, List.setIfInBounds_toArray, List.set_cons_zero, List.set_cons_succ, i64_w, i32_w]
                           rfl
                         refine one_ (i := 4) (N := some 64) #[true, true, true, true, true, false, false, false, false, false, false, false, false, false, false, false, false, false, false, false, false, false, false, false, false, false, false, false, false, false, false] rfl rfl (one_of HT_.out (by kernel_rfl)) (by decide) (fun K hK => ?_)
                         refine goes_ Try.func20 (by kernel_rfl) rfl #[.agg #[.int .i64 ((rd_T39 l0 x7_3).f0), .int .i64 ((rd_T39 l0 x7_3).f1.f0), .string ((rd_T39 l0 x7_3).f1.f1), .string ((rd_T39 l0 x7_3).f1.f2), .int .i64 ((rd_T39 l0 x7_3).f2.f0), .string ((rd_T39 l0 x7_3).f2.f1), .string ((rd_T39 l0 x7_3).f2.f2)]] (by rfl) rfl rfl (by (try simp only [List.map_toArray, List.map_cons, List.map_nil]); first | done | rfl | (simp only [List.length_drop, List.length_take]; rfl)) ?_
                         with_reducible refine (cleanseref21_Formed.calls ((rd_T39 l0 x7_3).f0) ((rd_T39 l0 x7_3).f1.f0) ((rd_T39 l0 x7_3).f1.f1) ((rd_T39 l0 x7_3).f1.f2) ((rd_T39 l0 x7_3).f2.f0) ((rd_T39 l0 x7_3).f2.f1) ((rd_T39 l0 x7_3).f2.f2) true _ A34.out).mono ?_
                         rintro e w46 ⟨rfl, hb⟩
                         have HS14_ := (hb.cell (World.block_lt_of_cell? _ _ (hHeld.2.2.2.2.2.2.2.2.2.2.2.2.2.2.1))).trans (hHeld.2.2.2.2.2.2.2.2.2.2.2.2.2.2.1)
                         have HS15_ := (hb.cell (World.block_lt_of_cell? _ _ (hHeld.2.2.2.2.2.2.2.2.2.2.2.2.2.2.2.1))).trans (hHeld.2.2.2.2.2.2.2.2.2.2.2.2.2.2.2.1)
                         have HS16_ := (hb.cell (World.block_lt_of_cell? _ _ (hHeld.2.2.2.2.2.2.2.2.2.2.2.2.2.2.2.2.1))).trans (hHeld.2.2.2.2.2.2.2.2.2.2.2.2.2.2.2.2.1)
                         have HS17_ := (hb.cell (World.block_lt_of_cell? _ _ (hHeld.2.2.2.2.2.2.2.2.2.2.2.2.2.2.2.2.2.1))).trans (hHeld.2.2.2.2.2.2.2.2.2.2.2.2.2.2.2.2.2.1)
                         have HS18_ := (hb.cell (World.block_lt_of_cell? _ _ (hHeld.2.2.2.2.2.2.2.2.2.2.2.2.2.2.2.2.2.2.1))).trans (hHeld.2.2.2.2.2.2.2.2.2.2.2.2.2.2.2.2.2.2.1)
                         have HS19_ := (hb.cell (World.block_lt_of_cell? _ _ (hHeld.2.2.2.2.2.2.2.2.2.2.2.2.2.2.2.2.2.2.2.1))).trans (hHeld.2.2.2.2.2.2.2.2.2.2.2.2.2.2.2.2.2.2.2.1)
                         have HS20_ := (hb.cell (World.block_lt_of_cell? _ _ (hHeld.2.2.2.2.2.2.2.2.2.2.2.2.2.2.2.2.2.2.2.2))).trans (hHeld.2.2.2.2.2.2.2.2.2.2.2.2.2.2.2.2.2.2.2.2)
                         refine ⟨_, rfl, ?_⟩
                         have n0_ := Aside0.mk (Kd.R_below (by (with_reducible repeat (first | apply Kd.R_alloc | apply Kd.R_drewN | apply Kd.R_drew)); exact HO_4.out) hb)
                         have n1_ := Aside0.mk (blk_below (g := gb550) (o := .cells #[.int .i64 x551000_3, .int .i64 x551001_3, .string x551002_3, .string x551003_3, .int .i64 x551004_3, .string x551005_3, .string x551006_3] 39 (0, 0)) (by (with_reducible repeat (first | refine blk_drewN ?_ _ | refine blk_drew ?_ | refine blk_alloc ?_ _)); exact BK550.out) hb)
                         have n2_ := Aside0.mk (below_step (by repeat (first | (with_reducible first | exact HB.out | apply below_alloc | apply pw_below_drewN | apply below_drew1 | refine below_set ?_ GE550.out) | exact HB.out)) hb)
                         clear HO_4
                         clear BK550
                         clear HB
                         have HO_4 := n0_
                         have BK550 := n1_
                         have HB := n2_
                         clear n0_ n1_ n2_
                         (try clear hb)
                         (try clear hb2)
                         (try clear hk)
                         (try clear hi)
                         refine hK.out _ _ ⟨((HB.out.cell (World.block_lt_of_cell? w _ hw551_0)).trans hw551_0), ((HB.out.cell (World.block_lt_of_cell? w _ hw551_1)).trans hw551_1), ((HB.out.cell (World.block_lt_of_cell? w _ hw551_2)).trans hw551_2), ((HB.out.cell (World.block_lt_of_cell? w _ hw551_3)).trans hw551_3), ((HB.out.cell (World.block_lt_of_cell? w _ hw551_4)).trans hw551_4), ((HB.out.cell (World.block_lt_of_cell? w _ hw551_5)).trans hw551_5), ((HB.out.cell (World.block_lt_of_cell? w _ hw551_6)).trans hw551_6), ((HB.out.cell (World.block_lt_of_cell? w _ hw553_0)).trans hw553_0), ((HB.out.cell (World.block_lt_of_cell? w _ hw553_1)).trans hw553_1), ((HB.out.cell (World.block_lt_of_cell? w _ hw553_2)).trans hw553_2), ((HB.out.cell (World.block_lt_of_cell? w _ hw553_3)).trans hw553_3), ((HB.out.cell (World.block_lt_of_cell? w _ hw553_4)).trans hw553_4), ((HB.out.cell (World.block_lt_of_cell? w _ hw553_5)).trans hw553_5), ((HB.out.cell (World.block_lt_of_cell? w _ hw553_6)).trans hw553_6), HS14_, HS15_, HS16_, HS17_, HS18_, HS19_, HS20_⟩ (fun hHeld => ?_)
                         clear hK K
                         refine norm_ (a' := ?_) ?_ ?_
                         rotate_left
                         · show Act.put _ (some 64) _ = _
                           simp only [Act.put, List.setIfInBounds_toArray, List.set_cons_zero, List.set_cons_succ, i64_w, i32_w]
                           rfl
                         refine pure_ (i := 5) (N := some 65) (v := ?_) (a' := ?_) #[true, true, true, true, true, true, false, false, false, false, false, false, false, false, false, false, false, false, false, false, false, false, false, false, false, false, false, false, false, false, false] rfl rfl (any_of HT_.out (by kernel_rfl)) (fun _ _ _ h => h) (Or.inl ⟨by rfl, ?_⟩) ?_ ?_
                         rotate_left
                         · intro w'
                           go_simp
                           with_reducible rfl
                         rotate_left
                         · simp only [Act.put, List.setIfInBounds_toArray, List.set_cons_zero, List.set_cons_succ, i64_w, i32_w]
                           rfl
                         refine pure_ (i := 6) (N := some 66) (v := ?_) (a' := ?_) #[true, true, true, true, true, true, true, false, false, false, false, false, false, false, false, false, false, false, false, false, false, false, false, false, false, false, false, false, false, false, false] rfl rfl (any_of HT_.out (by kernel_rfl)) (fun _ _ _ h => h) (Or.inl ⟨by rfl, ?_⟩) ?_ ?_
                         rotate_left
                         · intro w'
                           go_simp
                           with_reducible rfl
                         rotate_left
                         · simp only [Act.put, List.setIfInBounds_toArray, List.set_cons_zero, List.set_cons_succ, i64_w, i32_w]
                           rfl
                         refine pure_ (i := 7) (N := some 67) (v := ?_) (a' := ?_) #[true, true, true, true, true, true, true, true, false, false, false, false, false, false, false, false, false, false, false, false, false, false, false, false, false, false, false, false, false, false, false] rfl rfl (any_of HT_.out (by kernel_rfl)) (fun _ _ _ h => h) (Or.inl ⟨by rfl, ?_⟩) ?_ ?_
                         rotate_left
                         · intro w'
                           go_simp
                           with_reducible rfl
                         rotate_left
                         · simp only [Act.put, List.setIfInBounds_toArray, List.set_cons_zero, List.set_cons_succ, i64_w, i32_w]
                           rfl
                         refine pure_ (i := 8) (N := some 68) (v := ?_) (a' := ?_) #[true, true, true, true, true, true, true, true, true, false, false, false, false, false, false, false, false, false, false, false, false, false, false, false, false, false, false, false, false, false, false] rfl rfl (any_of HT_.out (by kernel_rfl)) (fun _ _ _ h => h) (Or.inl ⟨by rfl, ?_⟩) ?_ ?_
                         rotate_left
                         · intro w'
                           go_simp
                           with_reducible rfl
                         rotate_left
                         · simp only [Act.put, List.setIfInBounds_toArray, List.set_cons_zero, List.set_cons_succ, i64_w, i32_w]
                           rfl
                         refine pure_ (i := 9) (N := some 69) (v := ?_) (a' := ?_) #[true, true, true, true, true, true, true, true, true, true, false, false, false, false, false, false, false, false, false, false, false, false, false, false, false, false, false, false, false, false, false] rfl rfl (any_of HT_.out (by kernel_rfl)) (fun _ _ _ h => h) (Or.inl ⟨by rfl, ?_⟩) ?_ ?_
                         rotate_left
                         · intro w'
                           go_simp
                           with_reducible rfl
                         rotate_left
                         · simp only [Act.put, List.setIfInBounds_toArray, List.set_cons_zero, List.set_cons_succ, i64_w, i32_w]
                           rfl
                         refine pure_ (i := 11) (N := some 71) (v := ?_) (a' := ?_) #[true, true, true, true, true, true, true, true, true, true, false, true, false, false, false, false, false, false, false, false, false, false, false, false, false, false, false, false, false, false, false] rfl rfl (any_of HT_.out (by kernel_rfl)) (fun _ _ _ h => h) (Or.inl ⟨by rfl, ?_⟩) ?_ ?_
                         rotate_left
                         · intro w'
                           go_simp
                           with_reducible rfl
                         rotate_left
                         · simp only [Act.put, List.setIfInBounds_toArray, List.set_cons_zero, List.set_cons_succ, i64_w, i32_w]
                           rfl
                         refine pure_ (i := 12) (N := some 72) (v := ?_) (a' := ?_) #[true, true, true, true, true, true, true, true, true, true, false, true, true, false, false, false, false, false, false, false, false, false, false, false, false, false, false, false, false, false, false] rfl rfl (any_of HT_.out (by kernel_rfl)) (fun _ _ _ h => h) (Or.inl ⟨by rfl, ?_⟩) ?_ ?_
                         rotate_left
                         · intro w'
                           go_simp
                           with_reducible rfl
                         rotate_left
                         · simp only [Act.put, List.setIfInBounds_toArray, List.set_cons_zero, List.set_cons_succ, i64_w, i32_w]
                           rfl
                         refine pure_ (i := 13) (N := some 73) (v := ?_) (a' := ?_) #[true, true, true, true, true, true, true, true, true, true, false, true, true, true, false, false, false, false, false, false, false, false, false, false, false, false, false, false, false, false, false] rfl rfl (any_of HT_.out (by kernel_rfl)) (fun _ _ _ h => h) (Or.inl ⟨by rfl, ?_⟩) ?_ ?_
                         rotate_left
                         · intro w'
                           go_simp
                           with_reducible rfl
                         rotate_left
                         · simp only [Act.put, List.setIfInBounds_toArray, List.set_cons_zero, List.set_cons_succ, i64_w, i32_w]
                           rfl
                         refine pure_ (i := 14) (N := some 74) (v := ?_) (a' := ?_) #[true, true, true, true, true, true, true, true, true, true, false, true, true, true, true, false, false, false, false, false, false, false, false, false, false, false, false, false, false, false, false] rfl rfl (any_of HT_.out (by kernel_rfl)) (fun _ _ _ h => h) (Or.inl ⟨by rfl, ?_⟩) ?_ ?_
                         rotate_left
                         · intro w'
                           go_simp
                           with_reducible rfl
                         rotate_left
                         · simp only [Act.put, List.setIfInBounds_toArray, List.set_cons_zero, List.set_cons_succ, i64_w, i32_w]
                           rfl
                         refine take_ (i := 10) (N := some 70) (v := ?_) (a' := ?_) #[true, true, true, true, true, true, true, true, true, true, true, true, true, true, true, false, false, false, false, false, false, false, false, false, false, false, false, false, false, false, false] rfl rfl (take_ofW HT_.out HW_.out (by kernel_rfl)) (fun _ _ _ h => h) (Or.inl ⟨by rfl, ?_⟩) hHeld ?_ ?_
                         rotate_left
                         · rintro w' ⟨s0, s1, s2, s3, s4, s5, s6, s7, s8, s9, s10, s11, s12, s13, s14, s15, s16, s17, s18, s19, s20⟩
                           go_simp
                           with_reducible rfl
                         rotate_left
                         · simp only [Act.put, List.setIfInBounds_toArray, List.set_cons_zero, List.set_cons_succ, i64_w, i32_w]
                           rfl
                         refine take_ (i := 15) (N := some 75) (v := ?_) (a' := ?_) #[true, true, true, true, true, true, true, true, true, true, true, true, true, true, true, true, false, false, false, false, false, false, false, false, false, false, false, false, false, false, false] rfl rfl (take_ofW HT_.out HW_.out (by kernel_rfl)) (fun _ _ _ h => h) (Or.inl ⟨by rfl, ?_⟩) hHeld ?_ ?_
                         rotate_left
                         · rintro w' ⟨s0, s1, s2, s3, s4, s5, s6, s7, s8, s9, s10, s11, s12, s13, s14, s15, s16, s17, s18, s19, s20⟩
                           go_simp
                           with_reducible rfl
                         rotate_left
                         · simp only [Act.put, List.setIfInBounds_toArray, List.set_cons_zero, List.set_cons_succ, i64_w, i32_w]
                           rfl
                         refine pure_ (i := 16) (N := some 76) (v := ?_) (a' := ?_) #[true, true, true, true, true, true, true, true, true, true, true, true, true, true, true, true, true, false, false, false, false, false, false, false, false, false, false, false, false, false, false] rfl rfl (any_of HT_.out (by kernel_rfl)) (fun _ _ _ h => h) (Or.inl ⟨by rfl, ?_⟩) ?_ ?_
                         rotate_left
                         · intro w'
                           go_simp
                           with_reducible rfl
                         rotate_left
                         · simp only [Act.put, List.setIfInBounds_toArray, List.set_cons_zero, List.set_cons_succ, i64_w, i32_w]
                           rfl
                         refine pure_ (i := 17) (N := some 77) (v := ?_) (a' := ?_) #[true, true, true, true, true, true, true, true, true, true, true, true, true, true, true, true, true, true, false, false, false, false, false, false, false, false, false, false, false, false, false] rfl rfl (any_of HT_.out (by kernel_rfl)) (fun _ _ _ h => h) (Or.inl ⟨by rfl, ?_⟩) ?_ ?_
                         rotate_left
                         · intro w'
                           go_simp
                           with_reducible rfl
                         rotate_left
                         · simp only [Act.put, List.setIfInBounds_toArray, List.set_cons_zero, List.set_cons_succ, i64_w, i32_w]
                           rfl
                         refine pure_ (i := 18) (N := some 78) (v := ?_) (a' := ?_) #[true, true, true, true, true, true, true, true, true, true, true, true, true, true, true, true, true, true, true, false, false, false, false, false, false, false, false, false, false, false, false] rfl rfl (any_of HT_.out (by kernel_rfl)) (fun _ _ _ h => h) (Or.inl ⟨by rfl, ?_⟩) ?_ ?_
                         rotate_left
                         · intro w'
                           go_simp
                           with_reducible rfl
                         rotate_left
                         · simp only [Act.put, List.setIfInBounds_toArray, List.set_cons_zero, List.set_cons_succ, i64_w, i32_w]
                           rfl
                         refine pure_ (i := 19) (N := some 79) (v := undef) (a' := ?_) #[true, true, true, true, true, true, true, true, true, true, true, true, true, true, true, true, true, true, true, true, false, false, false, false, false, false, false, false, false, false, false] rfl rfl (any_of HT_.out (by kernel_rfl)) (fun _ _ _ h => h) (Or.inr ⟨by rfl, rfl⟩) ?_ ?_
                         rotate_left
                         · simp only [Act.put, List.setIfInBounds_toArray, List.set_cons_zero, List.set_cons_succ, i64_w, i32_w]
                           rfl
                         refine pure_ (i := 20) (N := some 80) (v := undef) (a' := ?_) #[true, true, true, true, true, true, true, true, true, true, true, true, true, true, true, true, true, true, true, true, true, false, false, false, false, false, false, false, false, false, false] rfl rfl (any_of HT_.out (by kernel_rfl)) (fun _ _ _ h => h) (Or.inr ⟨by rfl, rfl⟩) ?_ ?_
                         rotate_left
                         · simp only [Act.put, List.setIfInBounds_toArray, List.set_cons_zero, List.set_cons_succ, i64_w, i32_w]
                           rfl
                         refine pure_ (i := 21) (N := some 81) (v := undef) (a' := ?_) #[true, true, true, true, true, true, true, true, true, true, true, true, true, true, true, true, true, true, true, true, true, true, false, false, false, false, false, false, false, false, false] rfl rfl (any_of HT_.out (by kernel_rfl)) (fun _ _ _ h => h) (Or.inr ⟨by rfl, rfl⟩) ?_ ?_
                         rotate_left
                         · simp only [Act.put, List.setIfInBounds_toArray, List.set_cons_zero, List.set_cons_succ, i64_w, i32_w]
                           rfl
                         refine pure_ (i := 22) (N := some 82) (v := undef) (a' := ?_) #[true, true, true, true, true, true, true, true, true, true, true, true, true, true, true, true, true, true, true, true, true, true, true, false, false, false, false, false, false, false, false] rfl rfl (any_of HT_.out (by kernel_rfl)) (fun _ _ _ h => h) (Or.inr ⟨by rfl, rfl⟩) ?_ ?_
                         rotate_left
                         · simp only [Act.put, List.setIfInBounds_toArray, List.set_cons_zero, List.set_cons_succ, i64_w, i32_w]
                           rfl
                         refine pure_ (i := 23) (N := some 83) (v := undef) (a' := ?_) #[true, true, true, true, true, true, true, true, true, true, true, true, true, true, true, true, true, true, true, true, true, true, true, true, false, false, false, false, false, false, false] rfl rfl (any_of HT_.out (by kernel_rfl)) (fun _ _ _ h => h) (Or.inr ⟨by rfl, rfl⟩) ?_ ?_
                         rotate_left
                         · simp only [Act.put, List.setIfInBounds_toArray, List.set_cons_zero, List.set_cons_succ, i64_w, i32_w]
                           rfl
                         refine pure_ (i := 24) (N := some 84) (v := undef) (a' := ?_) #[true, true, true, true, true, true, true, true, true, true, true, true, true, true, true, true, true, true, true, true, true, true, true, true, true, false, false, false, false, false, false] rfl rfl (any_of HT_.out (by kernel_rfl)) (fun _ _ _ h => h) (Or.inr ⟨by rfl, rfl⟩) ?_ ?_
                         rotate_left
                         · simp only [Act.put, List.setIfInBounds_toArray, List.set_cons_zero, List.set_cons_succ, i64_w, i32_w]
                           rfl
                         refine pure_ (i := 25) (N := some 85) (v := undef) (a' := ?_) #[true, true, true, true, true, true, true, true, true, true, true, true, true, true, true, true, true, true, true, true, true, true, true, true, true, true, false, false, false, false, false] rfl rfl (any_of HT_.out (by kernel_rfl)) (fun _ _ _ h => h) (Or.inr ⟨by rfl, rfl⟩) ?_ ?_
                         rotate_left
                         · simp only [Act.put, List.setIfInBounds_toArray, List.set_cons_zero, List.set_cons_succ, i64_w, i32_w]
                           rfl
                         refine pure_ (i := 26) (N := some 86) (v := undef) (a' := ?_) #[true, true, true, true, true, true, true, true, true, true, true, true, true, true, true, true, true, true, true, true, true, true, true, true, true, true, true, false, false, false, false] rfl rfl (any_of HT_.out (by kernel_rfl)) (fun _ _ _ h => h) (Or.inr ⟨by rfl, rfl⟩) ?_ ?_
                         rotate_left
                         · simp only [Act.put, List.setIfInBounds_toArray, List.set_cons_zero, List.set_cons_succ, i64_w, i32_w]
                           rfl
                         refine pure_ (i := 27) (N := some 87) (v := undef) (a' := ?_) #[true, true, true, true, true, true, true, true, true, true, true, true, true, true, true, true, true, true, true, true, true, true, true, true, true, true, true, true, false, false, false] rfl rfl (any_of HT_.out (by kernel_rfl)) (fun _ _ _ h => h) (Or.inr ⟨by rfl, rfl⟩) ?_ ?_
                         rotate_left
                         · simp only [Act.put, List.setIfInBounds_toArray, List.set_cons_zero, List.set_cons_succ, i64_w, i32_w]
                           rfl
                         refine pure_ (i := 28) (N := some 88) (v := undef) (a' := ?_) #[true, true, true, true, true, true, true, true, true, true, true, true, true, true, true, true, true, true, true, true, true, true, true, true, true, true, true, true, true, false, false] rfl rfl (any_of HT_.out (by kernel_rfl)) (fun _ _ _ h => h) (Or.inr ⟨by rfl, rfl⟩) ?_ ?_
                         rotate_left
                         · simp only [Act.put, List.setIfInBounds_toArray, List.set_cons_zero, List.set_cons_succ, i64_w, i32_w]
                           rfl
                         refine pure_ (i := 29) (N := some 89) (v := undef) (a' := ?_) #[true, true, true, true, true, true, true, true, true, true, true, true, true, true, true, true, true, true, true, true, true, true, true, true, true, true, true, true, true, true, false] rfl rfl (any_of HT_.out (by kernel_rfl)) (fun _ _ _ h => h) (Or.inr ⟨by rfl, rfl⟩) ?_ ?_
                         rotate_left
                         · simp only [Act.put, List.setIfInBounds_toArray, List.set_cons_zero, List.set_cons_succ, i64_w, i32_w]
                           rfl
                         refine pure_ (i := 30) (N := some 90) (v := ?_) (a' := ?_) #[true, true, true, true, true, true, true, true, true, true, true, true, true, true, true, true, true, true, true, true, true, true, true, true, true, true, true, true, true, true, true] rfl rfl (any_of HT_.out (by kernel_rfl)) (fun _ _ _ h => h) (Or.inl ⟨by rfl, ?_⟩) ?_ ?_
                         rotate_left
                         · intro w'
                           go_simp
                           with_reducible rfl
                         rotate_left
                         · simp only [Act.put, List.setIfInBounds_toArray, List.set_cons_zero, List.set_cons_succ, i64_w, i32_w]
                           rfl
                         refine done_ (done_of HT_.out (by kernel_rfl)) ?_
                         try go_wp2
                         go_roundg k3
                         case measure => have := HK1.out; have := HJ8.out; have := HK3.out; omega
                         case rel => exact ⟨(wrap64 (x7_3 + 1)), (x551000_3), (x551001_3), (x551002_3), (x551003_3), (x551004_3), (x551005_3), (x551006_3), (by first | rfl | (simp; done) | (simp [*]; done)), H', ⟨by have := HK1.out; have := HJ8.out; have := HK3.out; omega⟩, ⟨by (with_reducible repeat (first | apply Kd.R_alloc | apply Kd.R_drewN | apply Kd.R_drew)); exact HO_4.out⟩, ⟨by (with_reducible repeat (first | refine blk_drewN ?_ _ | refine blk_drew ?_ | refine blk_alloc ?_ _)); exact BK550.out⟩, ⟨by repeat (first | (with_reducible first | exact HB.out | apply below_alloc | apply pw_below_drewN | apply below_drew1 | refine below_set ?_ GE550.out) | exact HB.out)⟩⟩
                     · rw [if_neg c37] at H
                       exact absurd H (by simp)
                   · rw [if_neg c36] at H
                     exact absurd H (by simp)
                 · replace c35 := Bool.eq_false_iff.mpr c35
                   subst c35
                   have H1 : (cleanselaw21_BondLast.l1 k3 l0 t539 t541 x5_1 (wrap64 (x7_3 + 1)) x551000_3 x551001_3 x551002_3 x551003_3 x551004_3 x551005_3 x551006_3) = some true := by rw [if_neg (show ¬ (false = true) by decide)] at H; exact H
                   clear H
                   have H := H1
                   clear H1
                   have H' := Aside0.mk H
                   clear H
                   try go_wp2
                   have n0_ := Aside0.mk (Kd.R_drew HO_4.out)
                   have n1_ := Aside0.mk (blk_drew BK550.out)
                   have n2_ := Aside0.mk (below_drew1 HB.out)
                   clear HO_4
                   clear BK550
                   clear HB
                   have HO_4 := n0_
                   have BK550 := n1_
                   have HB := n2_
                   clear n0_ n1_ n2_
                   have p551 : 0 ≤ (x7_3 : Int) := of_decide_eq_true (by first | (with_reducible assumption) | assumption)
                   have q551 : x7_3 < (l0.length : Int) := of_decide_eq_true (by first | (with_reducible assumption) | assumption)
                   obtain ⟨ad551, e551, hx551_0, hx551_1, hx551_2, hx551_3, hx551_4, hx551_5, hx551_6⟩ := at_T39 HR0.out x7_3 p551 q551
                   have hw551_6 := hx551_6
                   have hw551_5 := hx551_5
                   have hw551_4 := hx551_4
                   have hw551_3 := hx551_3
                   have hw551_2 := hx551_2
                   have hw551_1 := hx551_1
                   have hw551_0 := hx551_0
                   cases e551
                   replace hx551_0 := (HB.out.cell (World.block_lt_of_cell? w _ hx551_0)).trans hx551_0
                   replace hx551_1 := (HB.out.cell (World.block_lt_of_cell? w _ hx551_1)).trans hx551_1
                   replace hx551_2 := (HB.out.cell (World.block_lt_of_cell? w _ hx551_2)).trans hx551_2
                   replace hx551_3 := (HB.out.cell (World.block_lt_of_cell? w _ hx551_3)).trans hx551_3
                   replace hx551_4 := (HB.out.cell (World.block_lt_of_cell? w _ hx551_4)).trans hx551_4
                   replace hx551_5 := (HB.out.cell (World.block_lt_of_cell? w _ hx551_5)).trans hx551_5
                   replace hx551_6 := (HB.out.cell (World.block_lt_of_cell? w _ hx551_6)).trans hx551_6
                   replace p551 := eq_true p551
                   replace q551 := eq_true q551
                   refine start_ (n := 31) (S := fun w' => w'.cell? (ad551.add ((x7_3).toNat * 7)) = some (.int .i64 ((rd_T39 l0 x7_3).f0)) ∧ w'.cell? ⟨(ad551.add ((x7_3).toNat * 7)).block, (ad551.add ((x7_3).toNat * 7)).off + 1, none⟩ = some (.int .i64 ((rd_T39 l0 x7_3).f1.f0)) ∧ w'.cell? ⟨(ad551.add ((x7_3).toNat * 7)).block, (ad551.add ((x7_3).toNat * 7)).off + 2, none⟩ = some (.string ((rd_T39 l0 x7_3).f1.f1)) ∧ w'.cell? ⟨(ad551.add ((x7_3).toNat * 7)).block, (ad551.add ((x7_3).toNat * 7)).off + 3, none⟩ = some (.string ((rd_T39 l0 x7_3).f1.f2)) ∧ w'.cell? ⟨(ad551.add ((x7_3).toNat * 7)).block, (ad551.add ((x7_3).toNat * 7)).off + 4, none⟩ = some (.int .i64 ((rd_T39 l0 x7_3).f2.f0)) ∧ w'.cell? ⟨(ad551.add ((x7_3).toNat * 7)).block, (ad551.add ((x7_3).toNat * 7)).off + 5, none⟩ = some (.string ((rd_T39 l0 x7_3).f2.f1)) ∧ w'.cell? ⟨(ad551.add ((x7_3).toNat * 7)).block, (ad551.add ((x7_3).toNat * 7)).off + 6, none⟩ = some (.string ((rd_T39 l0 x7_3).f2.f2))) (ds := []) #[false, false, false, false, false, false, false, false, false, false, false, false, false, false, false, false, false, false, false, false, false, false, false, false, false, false, false, false, false, false, false] (by kernel_rfl) rfl rfl ⟨((HB.out.cell (World.block_lt_of_cell? w _ hw551_0)).trans hw551_0), ((HB.out.cell (World.block_lt_of_cell? w _ hw551_1)).trans hw551_1), ((HB.out.cell (World.block_lt_of_cell? w _ hw551_2)).trans hw551_2), ((HB.out.cell (World.block_lt_of_cell? w _ hw551_3)).trans hw551_3), ((HB.out.cell (World.block_lt_of_cell? w _ hw551_4)).trans hw551_4), ((HB.out.cell (World.block_lt_of_cell? w _ hw551_5)).trans hw551_5), ((HB.out.cell (World.block_lt_of_cell? w _ hw551_6)).trans hw551_6)⟩ (fun hHeld => ?_); refine with_tabW cleanselaw21_BondLast.tab14 cleanselaw21_BondLast.bits14 (fun HT_ HW_ => ?_)
                   generalize wr.drew = w47 at HO_4 BK550 HB hx551_0 hx551_1 hx551_2 hx551_3 hx551_4 hx551_5 hx551_6 hHeld ⊢
                   refine pure_ (i := 0) (N := some 60) (v := ?_) (a' := ?_) #[true, false, false, false, false, false, false, false, false, false, false, false, false, false, false, false, false, false, false, false, false, false, false, false, false, false, false, false, false, false, false] rfl rfl (any_of HT_.out (by kernel_rfl)) (fun _ _ _ h => h) (Or.inl ⟨by rfl, ?_⟩) ?_ ?_
                   rotate_left
                   · intro w'
                     go_simp
                     with_reducible rfl
                   rotate_left
                   · simp only [Act.put, List.setIfInBounds_toArray, List.set_cons_zero, List.set_cons_succ, i64_w, i32_w]
                     rfl
                   refine pure_ (i := 1) (N := some 61) (v := ?_) (a' := ?_) #[true, true, false, false, false, false, false, false, false, false, false, false, false, false, false, false, false, false, false, false, false, false, false, false, false, false, false, false, false, false, false] rfl rfl (any_of HT_.out (by kernel_rfl)) (fun _ _ _ h => h) (Or.inl ⟨by rfl, ?_⟩) ?_ ?_
                   rotate_left
                   · intro w'
                     go_simp
                     with_reducible rfl
                   rotate_left
                   · simp only [Act.put, List.setIfInBounds_toArray, List.set_cons_zero, List.set_cons_succ, i64_w, i32_w]
                     rfl
                   refine pure_ (i := 2) (N := some 62) (v := ?_) (a' := ?_) #[true, true, true, false, false, false, false, false, false, false, false, false, false, false, false, false, false, false, false, false, false, false, false, false, false, false, false, false, false, false, false] rfl rfl (any_of HT_.out (by kernel_rfl)) (fun _ _ _ h => h) (Or.inl ⟨by rfl, ?_⟩) ?_ ?_
                   rotate_left
                   · intro w'
                     go_simp
                     with_reducible rfl
                   rotate_left
                   · simp only [Act.put, List.setIfInBounds_toArray, List.set_cons_zero, List.set_cons_succ, i64_w, i32_w]
                     rfl
                   refine take_ (i := 3) (N := some 63) (v := ?_) (a' := ?_) #[true, true, true, true, false, false, false, false, false, false, false, false, false, false, false, false, false, false, false, false, false, false, false, false, false, false, false, false, false, false, false] rfl rfl (take_ofW HT_.out HW_.out (by kernel_rfl)) (fun _ _ _ h => h) (Or.inl ⟨by rfl, ?_⟩) hHeld ?_ ?_
                   rotate_left
                   · rintro w' ⟨s0, s1, s2, s3, s4, s5, s6⟩
                     go_simp
                     with_reducible rfl
                   rotate_left
                   · simp only [Act.put, List.setIfInBounds_toArray, List.set_cons_zero, List.set_cons_succ, i64_w, i32_w]
                     rfl
                   refine one_ (i := 4) (N := some 64) #[true, true, true, true, true, false, false, false, false, false, false, false, false, false, false, false, false, false, false, false, false, false, false, false, false, false, false, false, false, false, false] rfl rfl (one_of HT_.out (by kernel_rfl)) (by decide) (fun K hK => ?_)
                   refine goes_ Try.func20 (by kernel_rfl) rfl #[.agg #[.int .i64 ((rd_T39 l0 x7_3).f0), .int .i64 ((rd_T39 l0 x7_3).f1.f0), .string ((rd_T39 l0 x7_3).f1.f1), .string ((rd_T39 l0 x7_3).f1.f2), .int .i64 ((rd_T39 l0 x7_3).f2.f0), .string ((rd_T39 l0 x7_3).f2.f1), .string ((rd_T39 l0 x7_3).f2.f2)]] (by rfl) rfl rfl (by (try simp only [List.map_toArray, List.map_cons, List.map_nil]); first | done | rfl | (simp only [List.length_drop, List.length_take]; rfl)) ?_
                   with_reducible refine (cleanseref21_Formed.calls ((rd_T39 l0 x7_3).f0) ((rd_T39 l0 x7_3).f1.f0) ((rd_T39 l0 x7_3).f1.f1) ((rd_T39 l0 x7_3).f1.f2) ((rd_T39 l0 x7_3).f2.f0) ((rd_T39 l0 x7_3).f2.f1) ((rd_T39 l0 x7_3).f2.f2) false _ A34.out).mono ?_
                   rintro e w48 ⟨rfl, hb⟩
                   refine ⟨_, rfl, ?_⟩
                   have n0_ := Aside0.mk (Kd.R_below (by (with_reducible repeat (first | apply Kd.R_alloc | apply Kd.R_drewN | apply Kd.R_drew)); exact HO_4.out) hb)
                   have n1_ := Aside0.mk (blk_below (g := gb550) (o := .cells #[.int .i64 x551000_3, .int .i64 x551001_3, .string x551002_3, .string x551003_3, .int .i64 x551004_3, .string x551005_3, .string x551006_3] 39 (0, 0)) (by (with_reducible repeat (first | refine blk_drewN ?_ _ | refine blk_drew ?_ | refine blk_alloc ?_ _)); exact BK550.out) hb)
                   have n2_ := Aside0.mk (below_step (by repeat (first | (with_reducible first | exact HB.out | apply below_alloc | apply pw_below_drewN | apply below_drew1 | refine below_set ?_ GE550.out) | exact HB.out)) hb)
                   clear HO_4
                   clear BK550
                   clear HB
                   have HO_4 := n0_
                   have BK550 := n1_
                   have HB := n2_
                   clear n0_ n1_ n2_
                   (try clear hb)
                   (try clear hb2)
                   (try clear hk)
                   (try clear hi)
                   refine hK.out _ _ ⟨((HB.out.cell (World.block_lt_of_cell? w _ hw551_0)).trans hw551_0), ((HB.out.cell (World.block_lt_of_cell? w _ hw551_1)).trans hw551_1), ((HB.out.cell (World.block_lt_of_cell? w _ hw551_2)).trans hw551_2), ((HB.out.cell (World.block_lt_of_cell? w _ hw551_3)).trans hw551_3), ((HB.out.cell (World.block_lt_of_cell? w _ hw551_4)).trans hw551_4), ((HB.out.cell (World.block_lt_of_cell? w _ hw551_5)).trans hw551_5), ((HB.out.cell (World.block_lt_of_cell? w _ hw551_6)).trans hw551_6)⟩ (fun hHeld => ?_)
                   clear hK K
                   refine norm_ (a' := ?_) ?_ ?_
                   rotate_left
                   · show Act.put _ (some 64) _ = _
                     simp only [Act.put, List.setIfInBounds_toArray, List.set_cons_zero, List.set_cons_succ, i64_w, i32_w]
                     rfl
                   refine pure_ (i := 5) (N := some 65) (v := ?_) (a' := ?_) #[true, true, true, true, true, true, false, false, false, false, false, false, false, false, false, false, false, false, false, false, false, false, false, false, false, false, false, false, false, false, false] rfl rfl (any_of HT_.out (by kernel_rfl)) (fun _ _ _ h => h) (Or.inl ⟨by rfl, ?_⟩) ?_ ?_
                   rotate_left
                   · intro w'
                     go_simp
                     with_reducible rfl
                   rotate_left
                   · simp only [Act.put, List.setIfInBounds_toArray, List.set_cons_zero, List.set_cons_succ, i64_w, i32_w]
                     rfl
                   refine pure_ (i := 6) (N := some 66) (v := undef) (a' := ?_) #[true, true, true, true, true, true, true, false, false, false, false, false, false, false, false, false, false, false, false, false, false, false, false, false, false, false, false, false, false, false, false] rfl rfl (any_of HT_.out (by kernel_rfl)) (fun _ _ _ h => h) (Or.inr ⟨by rfl, rfl⟩) ?_ ?_
                   rotate_left
                   · simp only [Act.put, List.setIfInBounds_toArray, List.set_cons_zero, List.set_cons_succ, i64_w, i32_w]
                     rfl
                   refine pure_ (i := 7) (N := some 67) (v := undef) (a' := ?_) #[true, true, true, true, true, true, true, true, false, false, false, false, false, false, false, false, false, false, false, false, false, false, false, false, false, false, false, false, false, false, false] rfl rfl (any_of HT_.out (by kernel_rfl)) (fun _ _ _ h => h) (Or.inr ⟨by rfl, rfl⟩) ?_ ?_
                   rotate_left
                   · simp only [Act.put, List.setIfInBounds_toArray, List.set_cons_zero, List.set_cons_succ, i64_w, i32_w]
                     rfl
                   refine pure_ (i := 8) (N := some 68) (v := undef) (a' := ?_) #[true, true, true, true, true, true, true, true, true, false, false, false, false, false, false, false, false, false, false, false, false, false, false, false, false, false, false, false, false, false, false] rfl rfl (any_of HT_.out (by kernel_rfl)) (fun _ _ _ h => h) (Or.inr ⟨by rfl, rfl⟩) ?_ ?_
                   rotate_left
                   · simp only [Act.put, List.setIfInBounds_toArray, List.set_cons_zero, List.set_cons_succ, i64_w, i32_w]
                     rfl
                   refine pure_ (i := 9) (N := some 69) (v := undef) (a' := ?_) #[true, true, true, true, true, true, true, true, true, true, false, false, false, false, false, false, false, false, false, false, false, false, false, false, false, false, false, false, false, false, false] rfl rfl (any_of HT_.out (by kernel_rfl)) (fun _ _ _ h => h) (Or.inr ⟨by rfl, rfl⟩) ?_ ?_
                   rotate_left
                   · simp only [Act.put, List.setIfInBounds_toArray, List.set_cons_zero, List.set_cons_succ, i64_w, i32_w]
                     rfl
                   refine pure_ (i := 10) (N := some 70) (v := undef) (a' := ?_) #[true, true, true, true, true, true, true, true, true, true, true, false, false, false, false, false, false, false, false, false, false, false, false, false, false, false, false, false, false, false, false] rfl rfl (any_of HT_.out (by kernel_rfl)) (fun _ _ _ h => h) (Or.inr ⟨by rfl, rfl⟩) ?_ ?_
                   rotate_left
                   · simp only [Act.put, List.setIfInBounds_toArray, List.set_cons_zero, List.set_cons_succ, i64_w, i32_w]
                     rfl
                   refine pure_ (i := 11) (N := some 71) (v := undef) (a' := ?_) #[true, true, true, true, true, true, true, true, true, true, true, true, false, false, false, false, false, false, false, false, false, false, false, false, false, false, false, false, false, false, false] rfl rfl (any_of HT_.out (by kernel_rfl)) (fun _ _ _ h => h) (Or.inr ⟨by rfl, rfl⟩) ?_ ?_
                   rotate_left
                   · simp only [Act.put, List.setIfInBounds_toArray, List.set_cons_zero, List.set_cons_succ, i64_w, i32_w]
                     rfl
                   refine pure_ (i := 12) (N := some 72) (v := undef) (a' := ?_) #[true, true, true, true, true, true, true, true, true, true, true, true, true, false, false, false, false, false, false, false, false, false, false, false, false, false, false, false, false, false, false] rfl rfl (any_of HT_.out (by kernel_rfl)) (fun _ _ _ h => h) (Or.inr ⟨by rfl, rfl⟩) ?_ ?_
                   rotate_left
                   · simp only [Act.put, List.setIfInBounds_toArray, List.set_cons_zero, List.set_cons_succ, i64_w, i32_w]
                     rfl
                   refine pure_ (i := 13) (N := some 73) (v := undef) (a' := ?_) #[true, true, true, true, true, true, true, true, true, true, true, true, true, true, false, false, false, false, false, false, false, false, false, false, false, false, false, false, false, false, false] rfl rfl (any_of HT_.out (by kernel_rfl)) (fun _ _ _ h => h) (Or.inr ⟨by rfl, rfl⟩) ?_ ?_
                   rotate_left
                   · simp only [Act.put, List.setIfInBounds_toArray, List.set_cons_zero, List.set_cons_succ, i64_w, i32_w]
                     rfl
                   refine pure_ (i := 14) (N := some 74) (v := undef) (a' := ?_) #[true, true, true, true, true, true, true, true, true, true, true, true, true, true, true, false, false, false, false, false, false, false, false, false, false, false, false, false, false, false, false] rfl rfl (any_of HT_.out (by kernel_rfl)) (fun _ _ _ h => h) (Or.inr ⟨by rfl, rfl⟩) ?_ ?_
                   rotate_left
                   · simp only [Act.put, List.setIfInBounds_toArray, List.set_cons_zero, List.set_cons_succ, i64_w, i32_w]
                     rfl
                   refine pure_ (i := 15) (N := some 75) (v := undef) (a' := ?_) #[true, true, true, true, true, true, true, true, true, true, true, true, true, true, true, true, false, false, false, false, false, false, false, false, false, false, false, false, false, false, false] rfl rfl (any_of HT_.out (by kernel_rfl)) (fun _ _ _ h => h) (Or.inr ⟨by rfl, rfl⟩) ?_ ?_
                   rotate_left
                   · simp only [Act.put, List.setIfInBounds_toArray, List.set_cons_zero, List.set_cons_succ, i64_w, i32_w]
                     rfl
                   refine pure_ (i := 16) (N := some 76) (v := undef) (a' := ?_) #[true, true, true, true, true, true, true, true, true, true, true, true, true, true, true, true, true, false, false, false, false, false, false, false, false, false, false, false, false, false, false] rfl rfl (any_of HT_.out (by kernel_rfl)) (fun _ _ _ h => h) (Or.inr ⟨by rfl, rfl⟩) ?_ ?_
                   rotate_left
                   · simp only [Act.put, List.setIfInBounds_toArray, List.set_cons_zero, List.set_cons_succ, i64_w, i32_w]
                     rfl
                   refine pure_ (i := 17) (N := some 77) (v := ?_) (a' := ?_) #[true, true, true, true, true, true, true, true, true, true, true, true, true, true, true, true, true, true, false, false, false, false, false, false, false, false, false, false, false, false, false] rfl rfl (any_of HT_.out (by kernel_rfl)) (fun _ _ _ h => h) (Or.inl ⟨by rfl, ?_⟩) ?_ ?_
                   rotate_left
                   · intro w'
                     go_simp
                     with_reducible rfl
                   rotate_left
                   · simp only [Act.put, List.setIfInBounds_toArray, List.set_cons_zero, List.set_cons_succ, i64_w, i32_w]
                     rfl
                   refine pure_ (i := 18) (N := some 78) (v := ?_) (a' := ?_) #[true, true, true, true, true, true, true, true, true, true, true, true, true, true, true, true, true, true, true, false, false, false, false, false, false, false, false, false, false, false, false] rfl rfl (any_of HT_.out (by kernel_rfl)) (fun _ _ _ h => h) (Or.inl ⟨by rfl, ?_⟩) ?_ ?_
                   rotate_left
                   · intro w'
                     go_simp
                     with_reducible rfl
                   rotate_left
                   · simp only [Act.put, List.setIfInBounds_toArray, List.set_cons_zero, List.set_cons_succ, i64_w, i32_w]
                     rfl
                   refine pure_ (i := 19) (N := some 79) (v := undef) (a' := ?_) #[true, true, true, true, true, true, true, true, true, true, true, true, true, true, true, true, true, true, true, true, false, false, false, false, false, false, false, false, false, false, false] rfl rfl (any_of HT_.out (by kernel_rfl)) (fun _ _ _ h => h) (Or.inr ⟨by rfl, rfl⟩) ?_ ?_
                   rotate_left
                   · simp only [Act.put, List.setIfInBounds_toArray, List.set_cons_zero, List.set_cons_succ, i64_w, i32_w]
                     rfl
                   refine pure_ (i := 20) (N := some 80) (v := undef) (a' := ?_) #[true, true, true, true, true, true, true, true, true, true, true, true, true, true, true, true, true, true, true, true, true, false, false, false, false, false, false, false, false, false, false] rfl rfl (any_of HT_.out (by kernel_rfl)) (fun _ _ _ h => h) (Or.inr ⟨by rfl, rfl⟩) ?_ ?_
                   rotate_left
                   · simp only [Act.put, List.setIfInBounds_toArray, List.set_cons_zero, List.set_cons_succ, i64_w, i32_w]
                     rfl
                   refine pure_ (i := 21) (N := some 81) (v := undef) (a' := ?_) #[true, true, true, true, true, true, true, true, true, true, true, true, true, true, true, true, true, true, true, true, true, true, false, false, false, false, false, false, false, false, false] rfl rfl (any_of HT_.out (by kernel_rfl)) (fun _ _ _ h => h) (Or.inr ⟨by rfl, rfl⟩) ?_ ?_
                   rotate_left
                   · simp only [Act.put, List.setIfInBounds_toArray, List.set_cons_zero, List.set_cons_succ, i64_w, i32_w]
                     rfl
                   refine pure_ (i := 22) (N := some 82) (v := undef) (a' := ?_) #[true, true, true, true, true, true, true, true, true, true, true, true, true, true, true, true, true, true, true, true, true, true, true, false, false, false, false, false, false, false, false] rfl rfl (any_of HT_.out (by kernel_rfl)) (fun _ _ _ h => h) (Or.inr ⟨by rfl, rfl⟩) ?_ ?_
                   rotate_left
                   · simp only [Act.put, List.setIfInBounds_toArray, List.set_cons_zero, List.set_cons_succ, i64_w, i32_w]
                     rfl
                   refine pure_ (i := 23) (N := some 83) (v := undef) (a' := ?_) #[true, true, true, true, true, true, true, true, true, true, true, true, true, true, true, true, true, true, true, true, true, true, true, true, false, false, false, false, false, false, false] rfl rfl (any_of HT_.out (by kernel_rfl)) (fun _ _ _ h => h) (Or.inr ⟨by rfl, rfl⟩) ?_ ?_
                   rotate_left
                   · simp only [Act.put, List.setIfInBounds_toArray, List.set_cons_zero, List.set_cons_succ, i64_w, i32_w]
                     rfl
                   refine pure_ (i := 24) (N := some 84) (v := undef) (a' := ?_) #[true, true, true, true, true, true, true, true, true, true, true, true, true, true, true, true, true, true, true, true, true, true, true, true, true, false, false, false, false, false, false] rfl rfl (any_of HT_.out (by kernel_rfl)) (fun _ _ _ h => h) (Or.inr ⟨by rfl, rfl⟩) ?_ ?_
                   rotate_left
                   · simp only [Act.put, List.setIfInBounds_toArray, List.set_cons_zero, List.set_cons_succ, i64_w, i32_w]
                     rfl
                   refine pure_ (i := 25) (N := some 85) (v := undef) (a' := ?_) #[true, true, true, true, true, true, true, true, true, true, true, true, true, true, true, true, true, true, true, true, true, true, true, true, true, true, false, false, false, false, false] rfl rfl (any_of HT_.out (by kernel_rfl)) (fun _ _ _ h => h) (Or.inr ⟨by rfl, rfl⟩) ?_ ?_
                   rotate_left
                   · simp only [Act.put, List.setIfInBounds_toArray, List.set_cons_zero, List.set_cons_succ, i64_w, i32_w]
                     rfl
                   refine pure_ (i := 26) (N := some 86) (v := undef) (a' := ?_) #[true, true, true, true, true, true, true, true, true, true, true, true, true, true, true, true, true, true, true, true, true, true, true, true, true, true, true, false, false, false, false] rfl rfl (any_of HT_.out (by kernel_rfl)) (fun _ _ _ h => h) (Or.inr ⟨by rfl, rfl⟩) ?_ ?_
                   rotate_left
                   · simp only [Act.put, List.setIfInBounds_toArray, List.set_cons_zero, List.set_cons_succ, i64_w, i32_w]
                     rfl
                   refine pure_ (i := 27) (N := some 87) (v := undef) (a' := ?_) #[true, true, true, true, true, true, true, true, true, true, true, true, true, true, true, true, true, true, true, true, true, true, true, true, true, true, true, true, false, false, false] rfl rfl (any_of HT_.out (by kernel_rfl)) (fun _ _ _ h => h) (Or.inr ⟨by rfl, rfl⟩) ?_ ?_
                   rotate_left
                   · simp only [Act.put, List.setIfInBounds_toArray, List.set_cons_zero, List.set_cons_succ, i64_w, i32_w]
                     rfl
                   refine pure_ (i := 28) (N := some 88) (v := undef) (a' := ?_) #[true, true, true, true, true, true, true, true, true, true, true, true, true, true, true, true, true, true, true, true, true, true, true, true, true, true, true, true, true, false, false] rfl rfl (any_of HT_.out (by kernel_rfl)) (fun _ _ _ h => h) (Or.inr ⟨by rfl, rfl⟩) ?_ ?_
                   rotate_left
                   · simp only [Act.put, List.setIfInBounds_toArray, List.set_cons_zero, List.set_cons_succ, i64_w, i32_w]
                     rfl
                   refine pure_ (i := 29) (N := some 89) (v := undef) (a' := ?_) #[true, true, true, true, true, true, true, true, true, true, true, true, true, true, true, true, true, true, true, true, true, true, true, true, true, true, true, true, true, true, false] rfl rfl (any_of HT_.out (by kernel_rfl)) (fun _ _ _ h => h) (Or.inr ⟨by rfl, rfl⟩) ?_ ?_
                   rotate_left
                   · simp only [Act.put, List.setIfInBounds_toArray, List.set_cons_zero, List.set_cons_succ, i64_w, i32_w]
                     rfl
                   refine pure_ (i := 30) (N := some 90) (v := ?_) (a' := ?_) #[true, true, true, true, true, true, true, true, true, true, true, true, true, true, true, true, true, true, true, true, true, true, true, true, true, true, true, true, true, true, true] rfl rfl (any_of HT_.out (by kernel_rfl)) (fun _ _ _ h => h) (Or.inl ⟨by rfl, ?_⟩) ?_ ?_
                   rotate_left
                   · intro w'
                     go_simp
                     with_reducible rfl
                   rotate_left
                   · simp only [Act.put, List.setIfInBounds_toArray, List.set_cons_zero, List.set_cons_succ, i64_w, i32_w]
                     rfl
                   refine done_ (done_of HT_.out (by kernel_rfl)) ?_
                   try go_wp2
                   go_roundg k3
                   case measure => have := HK1.out; have := HJ8.out; have := HK3.out; omega
                   case rel => exact ⟨(wrap64 (x7_3 + 1)), (x551000_3), (x551001_3), (x551002_3), (x551003_3), (x551004_3), (x551005_3), (x551006_3), (by first | rfl | (simp; done) | (simp [*]; done)), H', ⟨by have := HK1.out; have := HJ8.out; have := HK3.out; omega⟩, ⟨by (with_reducible repeat (first | apply Kd.R_alloc | apply Kd.R_drewN | apply Kd.R_drew)); exact HO_4.out⟩, ⟨by (with_reducible repeat (first | refine blk_drewN ?_ _ | refine blk_drew ?_ | refine blk_alloc ?_ _)); exact BK550.out⟩, ⟨by repeat (first | (with_reducible first | exact HB.out | apply below_alloc | apply pw_below_drewN | apply below_drew1 | refine below_set ?_ GE550.out) | exact HB.out)⟩⟩
               · rw [if_neg c33] at H
                 exact absurd H (by simp)
             · rw [if_neg c32] at H
               have c32b0 : decide (x7_3 < (l0.length : Int)) = false := decide_eq_false c32
               clear c32
               by_cases c49 : 0 ≤ x5_1
               · rw [if_pos c49] at H
                 have c49b0 : decide (0 ≤ x5_1) = true := decide_eq_true c49
                 clear c49
                 by_cases c50 : x5_1 < (t541.length : Int)
                 · rw [if_pos c50] at H
                   have c50b0 : decide (x5_1 < (t541.length : Int)) = true := decide_eq_true c50
                   clear c50
                   by_cases c51 : (!(x551000_3 == ((rd_T39 t541 x5_1).f0)) || ((!(x551001_3 == ((rd_T39 t541 x5_1).f1.f0)) || (!(x551002_3.toList == (((rd_T39 t541 x5_1).f1.f1).toList)) || (!(x551003_3.toList == (((rd_T39 t541 x5_1).f1.f2).toList))))) || ((!(x551004_3 == ((rd_T39 t541 x5_1).f2.f0)) || (!(x551005_3.toList == (((rd_T39 t541 x5_1).f2.f1).toList)) || (!(x551006_3.toList == (((rd_T39 t541 x5_1).f2.f2).toList)))))))) = true
                   · rw [if_pos c51] at H
                     have c51b0 : (!(x551000_3 == ((rd_T39 t541 x5_1).f0)) || ((!(x551001_3 == ((rd_T39 t541 x5_1).f1.f0)) || (!(x551002_3.toList == (((rd_T39 t541 x5_1).f1.f1).toList)) || (!(x551003_3.toList == (((rd_T39 t541 x5_1).f1.f2).toList))))) || ((!(x551004_3 == ((rd_T39 t541 x5_1).f2.f0)) || (!(x551005_3.toList == (((rd_T39 t541 x5_1).f2.f1).toList)) || (!(x551006_3.toList == (((rd_T39 t541 x5_1).f2.f2).toList)))))))) = true := c51
                     clear c51
                     exact absurd H (by simp)
                   · rw [if_neg c51] at H
                     have c51b0 : (!(x551000_3 == ((rd_T39 t541 x5_1).f0)) || ((!(x551001_3 == ((rd_T39 t541 x5_1).f1.f0)) || (!(x551002_3.toList == (((rd_T39 t541 x5_1).f1.f1).toList)) || (!(x551003_3.toList == (((rd_T39 t541 x5_1).f1.f2).toList))))) || ((!(x551004_3 == ((rd_T39 t541 x5_1).f2.f0)) || (!(x551005_3.toList == (((rd_T39 t541 x5_1).f2.f1).toList)) || (!(x551006_3.toList == (((rd_T39 t541 x5_1).f2.f2).toList)))))))) = false := by simpa using c51
                     clear c51
                     have H' := Aside0.mk H
                     clear H
                     try go_wp2
                     have n0_ := Aside0.mk (Kd.R_drew HO_4.out)
                     have n1_ := Aside0.mk (blk_drew BK550.out)
                     have n2_ := Aside0.mk (below_drew1 HB.out)
                     clear HO_4
                     clear BK550
                     clear HB
                     have HO_4 := n0_
                     have BK550 := n1_
                     have HB := n2_
                     clear n0_ n1_ n2_
                     have p558 : 0 ≤ (x5_1 : Int) := of_decide_eq_true (by first | (with_reducible assumption) | assumption)
                     have q558 : x5_1 < (t541.length : Int) := of_decide_eq_true (by first | (with_reducible assumption) | assumption)
                     obtain ⟨ad558, e558, hx558_0, hx558_1, hx558_2, hx558_3, hx558_4, hx558_5, hx558_6⟩ := at_T39 (Kd.R_reads' HO_4.out).2.2 x5_1 p558 q558
                     cases e558
                     replace p558 := eq_true p558
                     replace q558 := eq_true q558
                     refine start_ (n := 6) (S := fun w' => w'.cell? ⟨gb550, 0, none⟩ = some (.int .i64 x551000_3) ∧ w'.cell? ⟨gb550, 1, none⟩ = some (.int .i64 x551001_3) ∧ w'.cell? ⟨gb550, 2, none⟩ = some (.string x551002_3) ∧ w'.cell? ⟨gb550, 3, none⟩ = some (.string x551003_3) ∧ w'.cell? ⟨gb550, 4, none⟩ = some (.int .i64 x551004_3) ∧ w'.cell? ⟨gb550, 5, none⟩ = some (.string x551005_3) ∧ w'.cell? ⟨gb550, 6, none⟩ = some (.string x551006_3) ∧ w'.cell? (ad558.add ((x5_1).toNat * 7)) = some (.int .i64 ((rd_T39 t541 x5_1).f0)) ∧ w'.cell? ⟨(ad558.add ((x5_1).toNat * 7)).block, (ad558.add ((x5_1).toNat * 7)).off + 1, none⟩ = some (.int .i64 ((rd_T39 t541 x5_1).f1.f0)) ∧ w'.cell? ⟨(ad558.add ((x5_1).toNat * 7)).block, (ad558.add ((x5_1).toNat * 7)).off + 2, none⟩ = some (.string ((rd_T39 t541 x5_1).f1.f1)) ∧ w'.cell? ⟨(ad558.add ((x5_1).toNat * 7)).block, (ad558.add ((x5_1).toNat * 7)).off + 3, none⟩ = some (.string ((rd_T39 t541 x5_1).f1.f2)) ∧ w'.cell? ⟨(ad558.add ((x5_1).toNat * 7)).block, (ad558.add ((x5_1).toNat * 7)).off + 4, none⟩ = some (.int .i64 ((rd_T39 t541 x5_1).f2.f0)) ∧ w'.cell? ⟨(ad558.add ((x5_1).toNat * 7)).block, (ad558.add ((x5_1).toNat * 7)).off + 5, none⟩ = some (.string ((rd_T39 t541 x5_1).f2.f1)) ∧ w'.cell? ⟨(ad558.add ((x5_1).toNat * 7)).block, (ad558.add ((x5_1).toNat * 7)).off + 6, none⟩ = some (.string ((rd_T39 t541 x5_1).f2.f2))) (ds := []) #[false, false, false, false, false, false] (by kernel_rfl) rfl rfl ⟨(blk_cell BK550.out 0).trans rfl, (blk_cell BK550.out 1).trans rfl, (blk_cell BK550.out 2).trans rfl, (blk_cell BK550.out 3).trans rfl, (blk_cell BK550.out 4).trans rfl, (blk_cell BK550.out 5).trans rfl, (blk_cell BK550.out 6).trans rfl, hx558_0, hx558_1, hx558_2, hx558_3, hx558_4, hx558_5, hx558_6⟩ (fun hHeld => ?_)
                     generalize wr.drew = w53 at HO_4 BK550 HB hx558_0 hx558_1 hx558_2 hx558_3 hx558_4 hx558_5 hx558_6 hHeld ⊢
                     refine pure_ (i := 1) (N := some 96) (v := ?_) (a' := ?_) #[false, true, false, false, false, false] rfl rfl (by kernel_rfl) (fun _ _ _ h => h) (Or.inl ⟨by rfl, ?_⟩) ?_ ?_
                     rotate_left
                     · intro w'
                       go_simp
                       with_reducible rfl
                     rotate_left
                     · simp only [Act.put, List.setIfInBounds_toArray, List.set_cons_zero, List.set_cons_succ, i64_w, i32_w]
                       rfl
                     refine pure_ (i := 2) (N := some 97) (v := ?_) (a' := ?_) #[false, true, true, false, false, false] rfl rfl (by kernel_rfl) (fun _ _ _ h => h) (Or.inl ⟨by rfl, ?_⟩) ?_ ?_
                     rotate_left
                     · intro w'
                       go_simp
                       with_reducible rfl
                     rotate_left
                     · simp only [Act.put, List.setIfInBounds_toArray, List.set_cons_zero, List.set_cons_succ, i64_w, i32_w]
                       rfl
                     refine pure_ (i := 3) (N := some 98) (v := ?_) (a' := ?_) #[false, true, true, true, false, false] rfl rfl (by kernel_rfl) (fun _ _ _ h => h) (Or.inl ⟨by rfl, ?_⟩) ?_ ?_
                     rotate_left
                     · intro w'
                       go_simp
                       with_reducible rfl
                     rotate_left
                     · simp only [Act.put, List.setIfInBounds_toArray, List.set_cons_zero, List.set_cons_succ, i64_w, i32_w]
                       rfl
                     refine take_ (i := 0) (N := some 95) (v := ?_) (a' := ?_) #[true, true, true, true, false, false] rfl rfl (by kernel_rfl) (fun _ _ _ h => h) (Or.inl ⟨by rfl, ?_⟩) hHeld ?_ ?_
                     rotate_left
                     · rintro w' ⟨s0, s1, s2, s3, s4, s5, s6, s7, s8, s9, s10, s11, s12, s13⟩
                       go_simp
                       with_reducible rfl
                     rotate_left
                     · simp only [Act.put, List.setIfInBounds_toArray, List.set_cons_zero, List.set_cons_succ, i64_w, i32_w]
                       rfl
                     refine take_ (i := 4) (N := some 99) (v := ?_) (a' := ?_) #[true, true, true, true, true, false] rfl rfl (by kernel_rfl) (fun _ _ _ h => h) (Or.inl ⟨by rfl, ?_⟩) hHeld ?_ ?_
                     rotate_left
                     · rintro w' ⟨s0, s1, s2, s3, s4, s5, s6, s7, s8, s9, s10, s11, s12, s13⟩
                       go_simp
                       with_reducible rfl
                     rotate_left
                     · simp only [Act.put, List.setIfInBounds_toArray, List.set_cons_zero, List.set_cons_succ, i64_w, i32_w]
                       rfl
                     refine pure_ (i := 5) (N := some 100) (v := ?_) (a' := ?_) #[true, true, true, true, true, true] rfl rfl (by kernel_rfl) (fun _ _ _ h => h) (Or.inl ⟨by rfl, ?_⟩) ?_ ?_
                     rotate_left
                     · intro w'
                       go_simp
                       with_reducible rfl
                     rotate_left
                     · simp only [Act.put, List.setIfInBounds_toArray, List.set_cons_zero, List.set_cons_succ, i64_w, i32_w]
                       rfl
                     refine done_ (by kernel_rfl) ?_
                     try go_wp2
                     go_roundg k3
                     case measure => have := HK1.out; have := HJ8.out; have := HK3.out; omega
                     case rel => exact ⟨(wrap64 (x5_1 + 1)), (by first | rfl | (simp; done) | (simp [*]; done)), H', ⟨by have := HK1.out; have := HJ8.out; have := HK3.out; omega⟩, ⟨by (with_reducible repeat (first | apply Kd.R_alloc | apply Kd.R_drewN | apply Kd.R_drew)); exact Kd.R_mono HO_4.out (fun _ hk => trivial)⟩, ⟨by repeat (first | (with_reducible first | exact HB.out | apply below_alloc | apply pw_below_drewN | apply below_drew1 | refine below_set ?_ GE550.out) | exact HB.out)⟩⟩
                 · rw [if_neg c50] at H
                   exact absurd H (by simp)
               · rw [if_neg c49] at H
                 exact absurd H (by simp)
     · rw [if_neg c8] at H
       have c8b0 : decide (x5_1 < (t541.length : Int)) = false := decide_eq_false c8
       clear c8
       obtain ⟨y559, hy559⟩ : ∃ y_ : List (S39), y_ = (([] : List (S39))) := ⟨_, rfl⟩
       replace H : (if y559.length + l0.length < 1599289640401 then ((some (y559 ++ l0 : List (S39))).bind fun y562 => (if y562.length + l0.length < 1599289640401 then (if t539 = true then ((bond_Effective.f t541).bind fun t568 => ((cleanseref21_Same.f k1 t568 t541).bind fun t571 => (if t571 = true then ((bond_Effective.f (y562 ++ l0)).bind fun t572 => ((cleanseref21_Same.f k1 t572 t541).bind fun t575 => (some t575))) else (some false)))) else (some false)) else (none))) else (none)) = some true := by first | (rw [hy559]; with_reducible exact H) | (have H2_ := (Option.bind_some _ _).symm.trans H; rw [hy559]; with_reducible exact H2_) | (have H2_ := (Option.bind_some _ _).symm.trans H; with_reducible exact H2_) | with_reducible exact H | (rw [hy559]; exact H) | exact H
       have Ny559 := Aside0.mk hy559
       clear hy559
       by_cases c54 : y559.length + l0.length < 1599289640401
       · rw [if_pos c54] at H
         have LMc54 := Aside0.mk c54
         clear c54
         obtain ⟨y562, hy562⟩ : ∃ y_ : List (S39), y_ = (y559 ++ l0) := ⟨_, rfl⟩
         replace H : (if y562.length + l0.length < 1599289640401 then (if t539 = true then ((bond_Effective.f t541).bind fun t568 => ((cleanseref21_Same.f k1 t568 t541).bind fun t571 => (if t571 = true then ((bond_Effective.f (y562 ++ l0)).bind fun t572 => ((cleanseref21_Same.f k1 t572 t541).bind fun t575 => (some t575))) else (some false)))) else (some false)) else (none)) = some true := by first | (rw [hy562]; with_reducible exact H) | (have H2_ := (Option.bind_some _ _).symm.trans H; rw [hy562]; with_reducible exact H2_) | (have H2_ := (Option.bind_some _ _).symm.trans H; with_reducible exact H2_) | with_reducible exact H | (rw [hy562]; exact H) | exact H
         have Ny562 := Aside0.mk hy562
         clear hy562
         by_cases c55 : y562.length + l0.length < 1599289640401
         · rw [if_pos c55] at H
           have LMc55 := Aside0.mk c55
           clear c55
           obtain ⟨y565, hy565⟩ : ∃ y_ : List (S39), y_ = (y562 ++ l0) := ⟨_, rfl⟩
           replace H : (if t539 = true then ((bond_Effective.f t541).bind fun t568 => ((cleanseref21_Same.f k1 t568 t541).bind fun t571 => (if t571 = true then ((bond_Effective.f y565).bind fun t572 => ((cleanseref21_Same.f k1 t572 t541).bind fun t575 => (some t575))) else (some false)))) else (some false)) = some true := by first | (rw [hy565]; with_reducible exact H) | (have H2_ := (Option.bind_some _ _).symm.trans H; rw [hy565]; with_reducible exact H2_) | (have H2_ := (Option.bind_some _ _).symm.trans H; with_reducible exact H2_) | with_reducible exact H | (rw [hy565]; exact H) | exact H
           have Ny565 := Aside0.mk hy565
           clear hy565
           by_cases c56 : t539 = true
           · subst c56
             have H1 : ((bond_Effective.f t541).bind fun t568 => ((cleanseref21_Same.f k1 t568 t541).bind fun t571 => (if t571 = true then ((bond_Effective.f y565).bind fun t572 => ((cleanseref21_Same.f k1 t572 t541).bind fun t575 => (some t575))) else (some false)))) = some true := by rw [if_pos rfl] at H; exact H
             clear H
             have H := H1
             clear H1
             replace H := Option.bind_eq_some_iff.mp H
             obtain ⟨t568, A570, H⟩ := H
             replace H : ((cleanseref21_Same.f k1 t568 t541).bind fun t571 => (if t571 = true then ((bond_Effective.f y565).bind fun t572 => ((cleanseref21_Same.f k1 t572 t541).bind fun t575 => (some t575))) else (some false))) = some true := H
             have A57 := Aside0.mk A570
             clear A570
             replace H := Option.bind_eq_some_iff.mp H
             obtain ⟨t571, A580, H⟩ := H
             replace H : (if t571 = true then ((bond_Effective.f y565).bind fun t572 => ((cleanseref21_Same.f k1 t572 t541).bind fun t575 => (some t575))) else (some false)) = some true := H
             have A58 := Aside0.mk A580
             clear A580
             by_cases c59 : t571 = true
             · subst c59
               have H1 : ((bond_Effective.f y565).bind fun t572 => ((cleanseref21_Same.f k1 t572 t541).bind fun t575 => (some t575))) = some true := by rw [if_pos rfl] at H; exact H
               clear H
               have H := H1
               clear H1
               replace H := Option.bind_eq_some_iff.mp H
               obtain ⟨t572, A600, H⟩ := H
               replace H : ((cleanseref21_Same.f k1 t572 t541).bind fun t575 => (some t575)) = some true := H
               have A60 := Aside0.mk A600
               clear A600
               replace H := Option.bind_eq_some_iff.mp H
               obtain ⟨t575, A610, H⟩ := H
               replace H : (some t575) = some true := H
               have A61 := Aside0.mk A610
               clear A610
               have Hr := Aside0.mk (Option.some.inj H)
               obtain ⟨Ao62, co62, eo62⟩ := Kd.R_slice HO_4.out
               subst eo62
               go_wp2_with (first | ((with_reducible refine gate_dst (N := 101) rfl ?_); refine Kd.R_lit k39 _ 39 ?hg (N := 101) ?hd (xs := ([] : List (S39))) (inner := []) (ok := fun _ => True) (okp := fun _ => True) ?hr ?hp (fun _ hk => hk) trivial (Below.refl _ _) (Nat.le_refl _) (by simp) ?_; (case hd => rfl); (case hg => rfl); (case hr => first | (go_simp; done) | (go_simp; rfl)); (case hp => exact (Reps.none _ _)); intro v560 w63 ho64 hb hg_ hnew_; clear hg_ hnew_; (first | rw [← Ny559.out] at ho64 | (simp only [Int.reduceToNat] at ho64; rw [← Ny559.out] at ho64)); have n0_ := Aside0.mk (Kd.R_elder' (by (with_reducible repeat (first | apply Kd.R_alloc | apply Kd.R_drewN | apply Kd.R_drew)); exact HO_4.out) (Kd.R_base ho64) hb); have n1_ := Aside0.mk (Kd.R_lower (Kd.R_new' ho64 (Kd.R_lt (by (with_reducible repeat (first | apply Kd.R_alloc | apply Kd.R_drewN | apply Kd.R_drew)); exact HO_4.out))) (below_size (by repeat (first | (with_reducible first | exact HB.out | apply below_alloc | apply pw_below_drewN | apply below_drew1) | exact HB.out)))); have n2_ := Aside0.mk (below_step (by repeat (first | (with_reducible first | exact HB.out | apply below_alloc | apply pw_below_drewN | apply below_drew1) | exact HB.out)) hb); clear HO_4; clear HB; have HO_4 := n0_; have HO561 := n1_; have HB := n2_; clear n0_ n1_ n2_; clear hb ho64) | ((with_reducible refine gate_builtin (b := .append) (xs := #[.tmp 101, .tmp 102]) rfl ?_); at_builtin; refine Kd.R_append_rows k39 (w0 := w) w.heap.size rfl (.tmp 101) (.tmp 102) 23 39 (.agg #[(.int .i64 0), (.int .i64 0), (.string ⟨#[]⟩), (.string ⟨#[]⟩), (.int .i64 0), (.string ⟨#[]⟩), (.string ⟨#[]⟩)]) 88 rfl Try.underlying23 info39 rfl (by decide) (by omega) v560 y559 l0 _ _ _ (fun k_ => some k_ ≠ (.slice Ao62 t541.length co62 : Value).ownBlock) (fun _ => False) rfl rfl ?aO ?aR (fun _ _ h => h) (fun _ h => h.elim) ?aF ?aB ?aS ?aL ?_; (case aR => repeat (first | exact (Kd.C_below HR0.out HB.out) | (with_reducible refine Kd.C_alloc ?_ _) | (with_reducible refine Kd.C_drewN ?_ _) | (with_reducible refine Kd.C_drew ?_))); (case aB => exact (by repeat (first | (with_reducible first | exact HB.out | apply below_alloc | apply pw_below_drewN | apply below_drew1) | exact HB.out))); (case aF => exact (fun k_ hk => Kd.fresh' (Kd.R_lt (by (with_reducible repeat (first | apply Kd.R_alloc | apply Kd.R_drewN | apply Kd.R_drew)); exact HO_4.out)) k_ hk)); (case aO => exact (by (with_reducible repeat (first | apply Kd.R_alloc | apply Kd.R_drewN | apply Kd.R_drew)); exact Kd.R_mono HO561.out (fun _ hk => hk.2))); (case aS => exact (below_size (by repeat (first | (with_reducible first | exact HB.out | apply below_alloc | apply pw_below_drewN | apply below_drew1) | exact HB.out)))); (case aL => have := LMc54.out; omega); intro v563 w65 ho hb hg hat; rw [← Ny562.out] at ho; have n0_ := Aside0.mk (Kd.R_after (ok := (fun _ => True)) (by (with_reducible repeat (first | apply Kd.R_alloc | apply Kd.R_drewN | apply Kd.R_drew)); exact HO_4.out) hg hat); have n1_ := Aside0.mk (hb); have n2_ := Aside0.mk (ho); clear HO_4; clear HB; clear HO561; have HO_4 := n0_; have HB := n1_; have HO564 := n2_; clear n0_ n1_ n2_; clear ho hb hg hat) | ((with_reducible refine gate_builtin (b := .append) (xs := #[.tmp 103, .tmp 104]) rfl ?_); at_builtin; refine Kd.R_append_rows k39 (w0 := w) w.heap.size rfl (.tmp 103) (.tmp 104) 23 39 (.agg #[(.int .i64 0), (.int .i64 0), (.string ⟨#[]⟩), (.string ⟨#[]⟩), (.int .i64 0), (.string ⟨#[]⟩), (.string ⟨#[]⟩)]) 88 rfl Try.underlying23 info39 rfl (by decide) (by omega) v563 y562 l0 _ _ _ (fun k_ => some k_ ≠ (.slice Ao62 t541.length co62 : Value).ownBlock) (fun _ => False) rfl rfl ?aO ?aR (fun _ _ h => h) (fun _ h => h.elim) ?aF ?aB ?aS ?aL ?_; (case aR => repeat (first | exact (Kd.C_below HR0.out HB.out) | (with_reducible refine Kd.C_alloc ?_ _) | (with_reducible refine Kd.C_drewN ?_ _) | (with_reducible refine Kd.C_drew ?_))); (case aB => exact (by repeat (first | (with_reducible first | exact HB.out | apply below_alloc | apply pw_below_drewN | apply below_drew1) | exact HB.out))); (case aF => exact (fun k_ hk => Kd.fresh' (Kd.R_lt (by (with_reducible repeat (first | apply Kd.R_alloc | apply Kd.R_drewN | apply Kd.R_drew)); exact HO_4.out)) k_ hk)); (case aO => exact (by (with_reducible repeat (first | apply Kd.R_alloc | apply Kd.R_drewN | apply Kd.R_drew)); exact HO564.out)); (case aS => exact (below_size (by repeat (first | (with_reducible first | exact HB.out | apply below_alloc | apply pw_below_drewN | apply below_drew1) | exact HB.out)))); (case aL => have := LMc55.out; omega); intro v566 w66 ho hb hg hat; rw [← Ny565.out] at ho; have n0_ := Aside0.mk (Kd.R_after (ok := (fun _ => True)) (by (with_reducible repeat (first | apply Kd.R_alloc | apply Kd.R_drewN | apply Kd.R_drew)); exact HO_4.out) hg hat); have n1_ := Aside0.mk (hb); have n2_ := Aside0.mk (ho); clear HO_4; clear HB; clear HO564; have HO_4 := n0_; have HB := n1_; have HO567 := n2_; clear n0_ n1_ n2_; clear ho hb hg hat) | (go_at_call 16; (with_reducible refine (bond_Effective.calls _ _ t541 t568 _ ?side1 ?side2 A57.out).mono ?_); (case side1 => repeat (first | exact (Kd.R_reads' HO_4.out).2.2 | (with_reducible refine Kd.C_alloc ?_ _) | (with_reducible refine Kd.C_drewN ?_ _) | (with_reducible refine Kd.C_drew ?_))); (case side2 => exact (Kd.R_reads' HO_4.out).2.1); rintro e w67 ⟨v569, rfl, ho0, hb⟩; have n0_ := Aside0.mk (Kd.R_elder' (by (with_reducible repeat (first | apply Kd.R_alloc | apply Kd.R_drewN | apply Kd.R_drew)); exact HO_4.out) (Kd.R_base ho0) hb); have n1_ := Aside0.mk (Kd.R_elder' (by (with_reducible repeat (first | apply Kd.R_alloc | apply Kd.R_drewN | apply Kd.R_drew)); exact HO567.out) (Kd.R_base ho0) hb); have n2_ := Aside0.mk (Kd.R_lower (Kd.R_new' (Kd.R_new' ho0 (Kd.R_lt (by (with_reducible repeat (first | apply Kd.R_alloc | apply Kd.R_drewN | apply Kd.R_drew)); exact HO_4.out))) (Kd.R_lt (by (with_reducible repeat (first | apply Kd.R_alloc | apply Kd.R_drewN | apply Kd.R_drew)); exact HO567.out))) (below_size (by repeat (first | (with_reducible first | exact HB.out | apply below_alloc | apply pw_below_drewN | apply below_drew1) | exact HB.out)))); have n3_ := Aside0.mk (below_step (by repeat (first | (with_reducible first | exact HB.out | apply below_alloc | apply pw_below_drewN | apply below_drew1) | exact HB.out)) hb); clear HO_4; clear HO567; clear HB; have HO_4 := n0_; have HO567 := n1_; have HO570 := n2_; have HB := n3_; clear n0_ n1_ n2_ n3_; (try clear hb); (try clear hb2); (try clear hk); (try clear hi); (try clear ho0); obtain ⟨Ao68, co68, eo68⟩ := Kd.R_slice HO570.out; subst eo68) | (go_at_call 15; (with_reducible refine (cleanseref21_Same.calls k1 _ _ t568 _ _ t541 true _ ?side1 ?side2 ?side3 ?side4 A58.out).mono ?_); (case side1 => repeat (first | exact (Kd.R_reads' HO570.out).2.2 | (with_reducible refine Kd.C_alloc ?_ _) | (with_reducible refine Kd.C_drewN ?_ _) | (with_reducible refine Kd.C_drew ?_))); (case side2 => exact (Kd.R_reads' HO570.out).2.1); (case side3 => repeat (first | exact (Kd.R_reads' HO_4.out).2.2 | (with_reducible refine Kd.C_alloc ?_ _) | (with_reducible refine Kd.C_drewN ?_ _) | (with_reducible refine Kd.C_drew ?_))); (case side4 => exact (Kd.R_reads' HO_4.out).2.1); rintro e w' ⟨rfl, ⟨nd, rfl⟩⟩; obtain ⟨Ao69, co69, eo69⟩ := Kd.R_slice HO567.out; subst eo69) | (go_at_call 16; (with_reducible refine (bond_Effective.calls _ _ y565 t572 _ ?side1 ?side2 A60.out).mono ?_); (case side1 => repeat (first | exact (Kd.R_reads' HO567.out).2.2 | (with_reducible refine Kd.C_alloc ?_ _) | (with_reducible refine Kd.C_drewN ?_ _) | (with_reducible refine Kd.C_drew ?_))); (case side2 => exact (Kd.R_reads' HO567.out).2.1); rintro e w70 ⟨v573, rfl, ho0, hb⟩; have n0_ := Aside0.mk (Kd.R_elder' (by (with_reducible repeat (first | apply Kd.R_alloc | apply Kd.R_drewN | apply Kd.R_drew)); exact HO_4.out) (Kd.R_base ho0) hb); have n1_ := Aside0.mk (Kd.R_elder' (by (with_reducible repeat (first | apply Kd.R_alloc | apply Kd.R_drewN | apply Kd.R_drew)); exact HO567.out) (Kd.R_base ho0) hb); have n2_ := Aside0.mk (Kd.R_elder' (by (with_reducible repeat (first | apply Kd.R_alloc | apply Kd.R_drewN | apply Kd.R_drew)); exact HO570.out) (Kd.R_base ho0) hb); have n3_ := Aside0.mk (Kd.R_lower (Kd.R_new' (Kd.R_new' (Kd.R_new' ho0 (Kd.R_lt (by (with_reducible repeat (first | apply Kd.R_alloc | apply Kd.R_drewN | apply Kd.R_drew)); exact HO_4.out))) (Kd.R_lt (by (with_reducible repeat (first | apply Kd.R_alloc | apply Kd.R_drewN | apply Kd.R_drew)); exact HO567.out))) (Kd.R_lt (by (with_reducible repeat (first | apply Kd.R_alloc | apply Kd.R_drewN | apply Kd.R_drew)); exact HO570.out))) (below_size (by repeat (first | (with_reducible first | exact HB.out | apply below_alloc | apply pw_below_drewN | apply below_drew1) | exact HB.out)))); have n4_ := Aside0.mk (below_step (by repeat (first | (with_reducible first | exact HB.out | apply below_alloc | apply pw_below_drewN | apply below_drew1) | exact HB.out)) hb); clear HO_4; clear HO567; clear HO570; clear HB; have HO_4 := n0_; have HO567 := n1_; have HO570 := n2_; have HO574 := n3_; have HB := n4_; clear n0_ n1_ n2_ n3_ n4_; (try clear hb); (try clear hb2); (try clear hk); (try clear hi); (try clear ho0); obtain ⟨Ao71, co71, eo71⟩ := Kd.R_slice HO574.out; subst eo71) | (go_at_call 15; (with_reducible refine (cleanseref21_Same.calls k1 _ _ t572 _ _ t541 t575 _ ?side1 ?side2 ?side3 ?side4 A61.out).mono ?_); (case side1 => repeat (first | exact (Kd.R_reads' HO574.out).2.2 | (with_reducible refine Kd.C_alloc ?_ _) | (with_reducible refine Kd.C_drewN ?_ _) | (with_reducible refine Kd.C_drew ?_))); (case side2 => exact (Kd.R_reads' HO574.out).2.1); (case side3 => repeat (first | exact (Kd.R_reads' HO_4.out).2.2 | (with_reducible refine Kd.C_alloc ?_ _) | (with_reducible refine Kd.C_drewN ?_ _) | (with_reducible refine Kd.C_drew ?_))); (case side4 => exact (Kd.R_reads' HO_4.out).2.1); rintro e w' ⟨rfl, ⟨nd, rfl⟩⟩))
               go_ret
               exact ⟨by first | rfl | (rw [Hr.out]; rfl), by repeat (first | (with_reducible first | exact HB.out | apply below_alloc | apply pw_below_drewN | apply below_drew1) | exact HB.out)⟩
             · replace c59 := Bool.eq_false_iff.mpr c59
               subst c59
               have H1 : (some false) = some true := by rw [if_neg (show ¬ (false = true) by decide)] at H; exact H
               clear H
               have H := H1
               clear H1
               exact absurd H (by simp)
           · replace c56 := Bool.eq_false_iff.mpr c56
             subst c56
             have H1 : (some false) = some true := by rw [if_neg (show ¬ (false = true) by decide)] at H; exact H
             clear H
             have H := H1
             clear H1
             exact absurd H (by simp)
         · rw [if_neg c55] at H
           exact absurd H (by simp)
       · rw [if_neg c54] at H
         exact absurd H (by simp)
 · replace c4 := Bool.eq_false_iff.mpr c4
   subst c4
   have H1 : (some t539) = some true := by rw [if_neg (show ¬ (false = true) by decide)] at H; exact H
   clear H
   have H := H1
   clear H1
   have Hr := Aside0.mk (Option.some.inj H)
   go_enter Try.func4, Try.ntmps4
   go_wp2_with (first | ((with_reducible refine gate_callee (f := 9) rfl ?_); refine goesL_ (some 9) rfl rfl Try.func9 (by kernel_rfl) rfl #[] rfl (by (try simp only [List.map_toArray, List.map_cons, List.map_nil]); first | done | rfl | (simp only [List.length_drop, List.length_take]; rfl)) ?_; (with_reducible refine (cleanselaw21_head.calls k  t539 _ A2.out).mono ?_); rintro e w84 ⟨rfl, hb⟩; refine ⟨_, rfl, ?_⟩; have n0_ := Aside0.mk (below_step (by repeat (first | (with_reducible first | exact HB.out | apply below_alloc | apply pw_below_drewN | apply below_drew1) | exact HB.out)) hb); clear HB; have HB := n0_; clear n0_; (try clear hb); (try clear hb2); (try clear hk); (try clear hi)) | ((with_reducible refine gate_callee (f := 10) rfl ?_); refine goesL_ (some 11) rfl rfl Try.func10 (by kernel_rfl) rfl #[.slice none 0 0, .slice A0 l0.length c0] rfl (by (try simp only [List.map_toArray, List.map_cons, List.map_nil]); first | done | rfl | (simp only [List.length_drop, List.length_take]; rfl)) ?_; (refine (cleanselaw21_few.calls _ _ ([] : List (S66)) _ _ l0 false _ ?side1 ?side2 ?side3 ?side4 A3.out).mono ?_); (case side1 => exact Kd.C_nil _ _); (case side2 => exact Nat.le_refl _); (case side3 => repeat (first | exact (Kd.C_below HR0.out HB.out) | (with_reducible refine Kd.C_alloc ?_ _) | (with_reducible refine Kd.C_drewN ?_ _) | (with_reducible refine Kd.C_drew ?_))); (case side4 => exact HC0.out); rintro e w' ⟨rfl, ⟨nd, rfl⟩⟩; refine ⟨_, rfl, ?_⟩))
   go_ret
   exact ⟨by first | rfl | (rw [Hr.out]; rfl), by repeat (first | (with_reducible first | exact HB.out | apply below_alloc | apply pw_below_drewN | apply below_drew1) | exact HB.out)⟩

end Go.Proofs.Ytocjknmojcgeiaa.Bd
