/- Contracts of Go functions of this seat's translation, laid by givenprint.py (a program of this project) by way of the kit's print; not trusted: Lean checks them. -/
import Derived.Test.YtocjknmojcgeiaaBd0
import Derived.Test.YtocjknmojcgeiaaBd5
import Derived.Test.YtocjknmojcgeiaaBd7
import Derived.Test.YtocjknmojcgeiaaBd8
namespace Go.Proofs.Ytocjknmojcgeiaa.Bd
open Go.RowKit Go.Proofs.YtocjknmojcgeiaaW.PrintWords Go.Proofs.YtocjknmojcgeiaaW.PrintLast Go.Proofs.YtocjknmojcgeiaaW.PrintMore
attribute [local go_sem] max2_int min2_int max_two min_two max_three min_three max_four min_four   -- for this text's walks alone
attribute [local go_sem] Go.Proofs.Ytocjknmojcgeiaa.str_gtr Go.Proofs.Ytocjknmojcgeiaa.str_leq Go.Proofs.Ytocjknmojcgeiaa.str_geq
set_option linter.unusedVariables false
set_option linter.unusedSimpArgs false

/-! ### cleanselaw21_BondOpens: function 7 -/
mutual
def cleanselaw21_BondOpens.j0 : Nat → List (S66) → List (S39) → Bool → Bool → Option (Bool)
  | 0, _, _, _, _ => none
  | k + 1, x0, x1, x5, x19 => if x19 = true then (some x5) else ((some (([] : List (S39)) : List (S39))).bind fun y636 => (if y636.length + x1.length < 1599289640401 then (cleanselaw21_BondOpens.l0 k x0 x1 x5 (y636 ++ x1) 0) else (none)))
def cleanselaw21_BondOpens.l0 : Nat → List (S66) → List (S39) → Bool → List (S39) → Int → Option (Bool)
  | 0, _, _, _, _, _ => none
  | k + 1, x0, x1, x5, x6, x7 => if x7 < (x1.length : Int) then (if 0 ≤ x7 then (if x6.length < 1599289640401 then (cleanselaw21_BondOpens.l0 k x0 x1 x5 (x6 ++ [(⟨3, (⟨(rd_T39 x1 x7).f1.f0, (rd_T39 x1 x7).f1.f1, (rd_T39 x1 x7).f1.f2⟩ : S37), (⟨(rd_T39 x1 x7).f2.f0, (rd_T39 x1 x7).f2.f1, (rd_T39 x1 x7).f2.f2⟩ : S37)⟩ : S39)]) (wrap64 (x7 + 1))) else (none)) else (none)) else ((bond_Bind.f x0 x6).bind fun bt647 => (cleanselaw21_BondOpens.l1 k x0 x5 x6 bt647.1 bt647.2 0))
def cleanselaw21_BondOpens.l1 : Nat → List (S66) → Bool → List (S39) → List Int → List (S48) → Int → Option (Bool)
  | 0, _, _, _, _, _, _ => none
  | k + 1, x0, x5, x6, x8, x9, x10 => if x10 < (x8.length : Int) then (if 0 ≤ x10 then (if (rd x8 x10) = x10 then (cleanselaw21_BondOpens.l1 k x0 x5 x6 x8 x9 (wrap64 (x10 + 1))) else (some false)) else (none)) else (if x5 = true then (if (x8.length : Int) = (x0.length : Int) then (if (x9.length : Int) = 0 then ((bond_Effective.f x6).bind fun t654 => (if (t654.length : Int) = 0 then ((bond_Contradictions.f x0 x6).bind fun t657 => (some ((t657.length : Int) == 0))) else (some false))) else (some false)) else (some false)) else (some false))
end
def cleanselaw21_BondOpens.f (k : Nat) (l0 : List (S66)) (l1 : List (S39)) : Option (Bool) := (cleanselaw21_head.f k).bind fun t635 => (if (l0.length : Int) > 30 then (cleanselaw21_BondOpens.j0 k l0 l1 t635 true) else (cleanselaw21_BondOpens.j0 k l0 l1 t635 (decide ((l1.length : Int) > 30))))
theorem cleanselaw21_BondOpens.mono_l : ∀ k, (∀ y0 y1 y2 y3, LeO (cleanselaw21_BondOpens.j0 k y0 y1 y2 y3) (cleanselaw21_BondOpens.j0 (k + 1) y0 y1 y2 y3)) ∧ (∀ y0 y1 y2 y3 y4, LeO (cleanselaw21_BondOpens.l0 k y0 y1 y2 y3 y4) (cleanselaw21_BondOpens.l0 (k + 1) y0 y1 y2 y3 y4)) ∧ (∀ y0 y1 y2 y3 y4 y5, LeO (cleanselaw21_BondOpens.l1 k y0 y1 y2 y3 y4 y5) (cleanselaw21_BondOpens.l1 (k + 1) y0 y1 y2 y3 y4 y5))
  | 0 => ⟨fun _ _ _ _ r h => by simp [cleanselaw21_BondOpens.j0] at h, fun _ _ _ _ _ r h => by simp [cleanselaw21_BondOpens.l0] at h, fun _ _ _ _ _ _ r h => by simp [cleanselaw21_BondOpens.l1] at h⟩
  | k + 1 => by
    obtain ⟨ih0, ih1, ih2⟩ := cleanselaw21_BondOpens.mono_l k
    refine ⟨?_, ?_, ?_⟩
    · intro y0 y1 y2 y3
      unfold cleanselaw21_BondOpens.j0
      repeat' first
      | (with_reducible exact ih0 _ _ _ _)
      | (with_reducible exact ih1 _ _ _ _ _)
      | (with_reducible exact ih2 _ _ _ _ _ _)
      | (with_reducible exact cleanselaw21_head.mono _)
      | (with_reducible exact LeO.refl _)
      | (with_reducible exact LeO.none _)
      | (with_reducible refine LeO.ite ?_ ?_)
      | (with_reducible refine LeO.bind ?_ (fun _ => ?_))
      | exact ih0 _ _ _ _
      | exact ih1 _ _ _ _ _
      | exact ih2 _ _ _ _ _ _
      | exact cleanselaw21_head.mono _
      | exact LeO.none _
      | refine LeO.ite ?_ ?_
      | refine LeO.bind ?_ (fun _ => ?_)
    · intro y0 y1 y2 y3 y4
      unfold cleanselaw21_BondOpens.l0
      repeat' first
      | (with_reducible exact ih0 _ _ _ _)
      | (with_reducible exact ih1 _ _ _ _ _)
      | (with_reducible exact ih2 _ _ _ _ _ _)
      | (with_reducible exact cleanselaw21_head.mono _)
      | (with_reducible exact LeO.refl _)
      | (with_reducible exact LeO.none _)
      | (with_reducible refine LeO.ite ?_ ?_)
      | (with_reducible refine LeO.bind ?_ (fun _ => ?_))
      | exact ih0 _ _ _ _
      | exact ih1 _ _ _ _ _
      | exact ih2 _ _ _ _ _ _
      | exact cleanselaw21_head.mono _
      | exact LeO.none _
      | refine LeO.ite ?_ ?_
      | refine LeO.bind ?_ (fun _ => ?_)
    · intro y0 y1 y2 y3 y4 y5
      unfold cleanselaw21_BondOpens.l1
      repeat' first
      | (with_reducible exact ih0 _ _ _ _)
      | (with_reducible exact ih1 _ _ _ _ _)
      | (with_reducible exact ih2 _ _ _ _ _ _)
      | (with_reducible exact cleanselaw21_head.mono _)
      | (with_reducible exact LeO.refl _)
      | (with_reducible exact LeO.none _)
      | (with_reducible refine LeO.ite ?_ ?_)
      | (with_reducible refine LeO.bind ?_ (fun _ => ?_))
      | exact ih0 _ _ _ _
      | exact ih1 _ _ _ _ _
      | exact ih2 _ _ _ _ _ _
      | exact cleanselaw21_head.mono _
      | exact LeO.none _
      | refine LeO.ite ?_ ?_
      | refine LeO.bind ?_ (fun _ => ?_)
theorem cleanselaw21_BondOpens.mono : ∀ a0 a1 k, LeO (cleanselaw21_BondOpens.f k a0 a1) (cleanselaw21_BondOpens.f (k + 1) a0 a1) := by
  intro a0 a1 k
  obtain ⟨ih0, ih1, ih2⟩ := cleanselaw21_BondOpens.mono_l k
  unfold cleanselaw21_BondOpens.f
  repeat' first
      | (with_reducible exact ih0 _ _ _ _)
      | (with_reducible exact ih1 _ _ _ _ _)
      | (with_reducible exact ih2 _ _ _ _ _ _)
      | (with_reducible exact cleanselaw21_head.mono _)
      | (with_reducible exact LeO.refl _)
      | (with_reducible exact LeO.none _)
      | (with_reducible refine LeO.ite ?_ ?_)
      | (with_reducible refine LeO.bind ?_ (fun _ => ?_))
      | exact ih0 _ _ _ _
      | exact ih1 _ _ _ _ _
      | exact ih2 _ _ _ _ _ _
      | exact cleanselaw21_head.mono _
      | exact LeO.none _
      | refine LeO.ite ?_ ?_
      | refine LeO.bind ?_ (fun _ => ?_)
def cleanselaw21_BondOpens.T8 : Bool × List (List Nat × List Nat) := (true, [([], []), ([], []), ([], []), ([1, 2], [1, 2]), ([3], [3]), ([4], [4]), ([], []), ([], []), ([6, 7], [6, 7]), ([8], [8]), ([9], [9]), ([5, 10], [5, 10]), ([11], [11]), ([0, 12], [0, 12]), ([13, 13, 0, 1, 2, 3, 4, 5, 6, 7, 8, 9, 10, 11, 12, 13], [0, 13])])
def cleanselaw21_BondOpens.B8 : List Nat := [0, 0, 0, 6, 14, 30, 0, 0, 192, 448, 960, 2046, 4094, 8191, 16383]
theorem cleanselaw21_BondOpens.tab8 : rtab .any (opsOf Try.f7 8) = cleanselaw21_BondOpens.T8 := by kernel_rfl
theorem cleanselaw21_BondOpens.bits8 : waitsOk cleanselaw21_BondOpens.T8.2 cleanselaw21_BondOpens.B8 = true := by kernel_rfl
set_option maxHeartbeats 8000000 in
set_option maxRecDepth 100000 in
theorem cleanselaw21_BondOpens.calls (k : Nat) (A0 : Option Addr) (c0 : Nat) (l0 : List (S66)) (A1 : Option Addr) (c1 : Nat) (l1 : List (S39)) (r : Bool) (w : World) (hr0 : Kd.C k66 w A0 l0.length l0) (hc0 : l0.length ≤ c0) (hr1 : Kd.C k39 w A1 l1.length l1) (hc1 : l1.length ≤ c1) (h : cleanselaw21_BondOpens.f k l0 l1 = some r) :
    Calls Try.prog 7 #[.slice A0 l0.length c0, .slice A1 l1.length c1] w fun e w' => e = .returned (.bool r) ∧ Below w.heap.size w w' := by
  have hu37 := Try.underlying37
  have hu39 := Try.underlying39
  have HR0 := Aside0.mk hr0
  have HC0 := Aside0.mk hc0
  clear hr0 hc0
  have HR1 := Aside0.mk hr1
  have HC1 := Aside0.mk hc1
  clear hr1 hc1
  have HB := Aside0.mk (Below.refl w.heap.size w)
  have H : ((cleanselaw21_head.f k).bind fun t635 => (if (l0.length : Int) > 30 then (cleanselaw21_BondOpens.j0 k l0 l1 t635 true) else (cleanselaw21_BondOpens.j0 k l0 l1 t635 (decide ((l1.length : Int) > 30))))) = some r := h
  clear h
  replace H := Option.bind_eq_some_iff.mp H
  obtain ⟨t635, A30, H⟩ := H
  replace H : (if (l0.length : Int) > 30 then (cleanselaw21_BondOpens.j0 k l0 l1 t635 true) else (cleanselaw21_BondOpens.j0 k l0 l1 t635 (decide ((l1.length : Int) > 30)))) = some r := H
  have A3 := Aside0.mk A30
  clear A30
  have HC4 := Aside0.mk H
  clear H
  go_enter Try.func7, Try.ntmps7
  go_upto_region 2 with (first | ((with_reducible refine gate_callee (f := 9) rfl ?_); refine goesL_ (some 11) rfl rfl Try.func9 (by kernel_rfl) rfl #[] rfl (by (try simp only [List.map_toArray, List.map_cons, List.map_nil]); first | done | rfl | (simp only [List.length_drop, List.length_take]; rfl)) ?_; (with_reducible refine (cleanselaw21_head.calls k  t635 _ A3.out).mono ?_); rintro e w5 ⟨rfl, hb⟩; refine ⟨_, rfl, ?_⟩; have n0_ := Aside0.mk (below_step (by repeat (first | (with_reducible first | exact HB.out | apply below_alloc | apply pw_below_drewN | apply below_drew1) | exact HB.out)) hb); clear HB; have HB := n0_; clear n0_; (try clear hb); (try clear hb2); (try clear hk); (try clear hi)))
  (try simp only [Act.put, List.setIfInBounds_toArray, List.set_cons_zero, List.set_cons_succ])
  go_cut [19] (fun v19 wc => ∃ (kq : Nat) (x19_3 : Bool), v19 = .bool x19_3 ∧ Aside0 (cleanselaw21_BondOpens.j0 kq l0 l1 t635 x19_3 = some r) ∧ Aside0 (kq ≤ k) ∧ Aside0 (Below w.heap.size w wc))
  case first =>
    have H := HC4.out
    clear HC4
    by_cases c6 : (l0.length : Int) > 30
    · rw [if_pos c6] at H
      have c6b0 : decide (30 < (l0.length : Int)) = true := decide_eq_true c6
      have c6b1 : decide (30 < l0.length) = true := decide_eq_true (by omega)
      clear c6
      (first | rw [c6b0] | (simp only [i64_w, i32_w]; rw [c6b0]) | skip)
      have H' := Aside0.mk H
      clear H
      go_wp2
      go_meet
      case rel => exact ⟨_, (true), (by first | rfl | (simp; done) | (simp [*]; done)), H', ⟨by first | omega | exact Nat.le_refl _⟩, ⟨by repeat (first | (with_reducible first | exact HB.out | apply below_alloc | apply pw_below_drewN | apply below_drew1) | exact HB.out)⟩⟩
    · rw [if_neg c6] at H
      have c6b0 : decide (30 < (l0.length : Int)) = false := decide_eq_false c6
      have c6b1 : decide (30 < l0.length) = false := decide_eq_false (by omega)
      clear c6
      (first | rw [c6b0] | (simp only [i64_w, i32_w]; rw [c6b0]) | skip)
      have H' := Aside0.mk H
      clear H
      go_wp2
      go_meet
      case rel => exact ⟨_, (decide ((l1.length : Int) > 30)), (by first | rfl | (simp; done) | (simp [*]; done)), H', ⟨by first | omega | exact Nat.le_refl _⟩, ⟨by repeat (first | (with_reducible first | exact HB.out | apply below_alloc | apply pw_below_drewN | apply below_drew1) | exact HB.out)⟩⟩
  case rest =>
    clear HC4
    try clear c1
    try clear p2
    try clear c6
    try clear c6b0
    try clear c6b1
    obtain ⟨kq, x19_3, rfl, HA, HJ3, HB⟩ := hcut
    cases kq with
    | zero => exact absurd HA.out (by simp [cleanselaw21_BondOpens.j0])
    | succ kj3 =>
      have H := HA.out
      clear HA
      simp only [cleanselaw21_BondOpens.j0] at H
      by_cases c7 : x19_3 = true
      · subst c7
        have H1 : (some t635) = some r := by rw [if_pos rfl] at H; exact H
        clear H
        have H := H1
        clear H1
        obtain rfl := Option.some.inj H
        go_wp2
        go_ret
        exact ⟨by first | rfl | (simp [errW_none, errW_some] <;> rfl) | (simp [*, errW_none, errW_some] <;> rfl), by repeat (first | (with_reducible first | exact HB.out | apply below_alloc | apply pw_below_drewN | apply below_drew1) | exact HB.out)⟩
      · replace c7 := Bool.eq_false_iff.mpr c7
        subst c7
        have H1 : ((some (([] : List (S39)) : List (S39))).bind fun y636 => (if y636.length + l1.length < 1599289640401 then (cleanselaw21_BondOpens.l0 kj3 l0 l1 t635 (y636 ++ l1) 0) else (none))) = some r := by rw [if_neg (show ¬ (false = true) by decide)] at H; exact H
        clear H
        have H := H1
        clear H1
        obtain ⟨y636, hy636⟩ : ∃ y_ : List (S39), y_ = (([] : List (S39))) := ⟨_, rfl⟩
        replace H : (if y636.length + l1.length < 1599289640401 then (cleanselaw21_BondOpens.l0 kj3 l0 l1 t635 (y636 ++ l1) 0) else (none)) = some r := by first | (rw [hy636]; with_reducible exact H) | (have H2_ := (Option.bind_some _ _).symm.trans H; rw [hy636]; with_reducible exact H2_) | (have H2_ := (Option.bind_some _ _).symm.trans H; with_reducible exact H2_) | with_reducible exact H | (rw [hy636]; exact H) | exact H
        have Ny636 := Aside0.mk hy636
        clear hy636
        by_cases c8 : y636.length + l1.length < 1599289640401
        · rw [if_pos c8] at H
          have LMc8 := Aside0.mk c8
          clear c8
          obtain ⟨y639, hy639⟩ : ∃ y_ : List (S39), y_ = (y636 ++ l1) := ⟨_, rfl⟩
          replace H : (cleanselaw21_BondOpens.l0 kj3 l0 l1 t635 y639 0) = some r := by first | (rw [hy639]; with_reducible exact H) | (have H2_ := (Option.bind_some _ _).symm.trans H; rw [hy639]; with_reducible exact H2_) | (have H2_ := (Option.bind_some _ _).symm.trans H; with_reducible exact H2_) | with_reducible exact H | (rw [hy639]; exact H) | exact H
          have Ny639 := Aside0.mk hy639
          clear hy639
          have H' := Aside0.mk H
          clear H
          go_wp2_with (first | ((with_reducible refine gate_dst (N := 21) rfl ?_); (try (refine gate_guard (by rfl) ?_; dsimp only)); refine Kd.R_lit k39 _ 39 ?hg (N := 21) ?hd (xs := ([] : List (S39))) (inner := []) (ok := fun _ => True) (okp := fun _ => True) ?hr ?hp (fun _ hk => hk) trivial (Below.refl _ _) (Nat.le_refl _) (by simp) ?_; (case hd => rfl); (case hg => rfl); (case hr => first | (go_simp; done) | (go_simp; rfl)); (case hp => exact (Reps.none _ _)); intro v637 w9 ho10 hb hg_ hnew_; clear hg_ hnew_; (first | rw [← Ny636.out] at ho10 | (simp only [Int.reduceToNat] at ho10; rw [← Ny636.out] at ho10)); have n0_ := Aside0.mk (Kd.R_lower ho10 (below_size (by repeat (first | (with_reducible first | exact HB.out | apply below_alloc | apply pw_below_drewN | apply below_drew1) | exact HB.out)))); have n1_ := Aside0.mk (below_step (by repeat (first | (with_reducible first | exact HB.out | apply below_alloc | apply pw_below_drewN | apply below_drew1) | exact HB.out)) hb); clear HB; have HO638 := n0_; have HB := n1_; clear n0_ n1_; clear hb ho10) | ((with_reducible refine gate_builtin (b := .append) (xs := #[.tmp 21, .tmp 22]) rfl ?_); (try (refine gate_guard (by rfl) ?_; dsimp only)); at_builtin; refine Kd.R_append_rows k39 (w0 := w) w.heap.size rfl (.tmp 21) (.tmp 22) 23 39 (.agg #[(.int .i64 0), (.int .i64 0), (.string ⟨#[]⟩), (.string ⟨#[]⟩), (.int .i64 0), (.string ⟨#[]⟩), (.string ⟨#[]⟩)]) 88 rfl Try.underlying23 info39 rfl (by decide) (by omega) v637 y636 l1 _ _ _ (fun _ => True) (fun _ => False) rfl rfl ?aO ?aR (fun _ _ h => h) (fun _ h => h.elim) ?aF ?aB ?aS ?aL ?_; (case aR => repeat (first | exact (Kd.C_below HR1.out HB.out) | (with_reducible refine Kd.C_alloc ?_ _) | (with_reducible refine Kd.C_drewN ?_ _) | (with_reducible refine Kd.C_drew ?_))); (case aB => exact (by repeat (first | (with_reducible first | exact HB.out | apply below_alloc | apply pw_below_drewN | apply below_drew1) | exact HB.out))); (case aF => exact (fun _ _ => trivial)); (case aO => exact (by (with_reducible repeat (first | apply Kd.R_alloc | apply Kd.R_drewN | apply Kd.R_drew)); exact HO638.out)); (case aS => exact (below_size (by repeat (first | (with_reducible first | exact HB.out | apply below_alloc | apply pw_below_drewN | apply below_drew1) | exact HB.out)))); (case aL => have := LMc8.out; omega); intro v640 w11 ho hb hg hat; rw [← Ny639.out] at ho; have n0_ := Aside0.mk (hb); have n1_ := Aside0.mk (ho); clear HB; clear HO638; have HB := n0_; have HO641 := n1_; clear n0_ n1_; clear ho hb hg hat))
          go_loopg [6, 7] kj3 (fun kq v6 v7 w' => ∃ (x6_2 : List (S39)) (x7_2 : Int), v7 = .int .i64 x7_2 ∧ Aside0 (cleanselaw21_BondOpens.l0 kq l0 l1 t635 x6_2 x7_2 = some r) ∧ Aside0 (kq ≤ kj3) ∧ Aside0 (Kd.R k39 39 w' w.heap.size (fun _ => True) v6 x6_2) ∧ Aside0 (Below w.heap.size w w'))
          case atStart => exact ⟨(y639), (0), (by first | rfl | (simp; done) | (simp [*]; done)), H', ⟨Nat.le_refl _⟩, ⟨by (with_reducible repeat (first | apply Kd.R_alloc | apply Kd.R_drewN | apply Kd.R_drew)); exact HO641.out⟩, ⟨by repeat (first | (with_reducible first | exact HB.out | apply below_alloc | apply pw_below_drewN | apply below_drew1) | exact HB.out)⟩⟩
          case round =>
            clear H'
            try clear c1
            try clear p2
            try clear c6
            try clear c6b0
            try clear c6b1
            try clear c7
            try clear c8
            try clear c9
            try clear p2
            obtain ⟨x6_2, x7_2, rfl, HA, HK2, HO_6, HB⟩ := hrel
            cases gk with
            | zero => exact absurd HA.out (by simp [cleanselaw21_BondOpens.l0])
            | succ k2 =>
              have H := HA.out
              clear HA
              simp only [cleanselaw21_BondOpens.l0] at H
              by_cases c12 : x7_2 < (l1.length : Int)
              · rw [if_pos c12] at H
                have c12b0 : decide (x7_2 < (l1.length : Int)) = true := decide_eq_true c12
                clear c12
                by_cases c13 : 0 ≤ x7_2
                · rw [if_pos c13] at H
                  have c13b0 : decide (0 ≤ x7_2) = true := decide_eq_true c13
                  clear c13
                  by_cases c14 : x6_2.length < 1599289640401
                  · rw [if_pos c14] at H
                    have LMc14 := Aside0.mk c14
                    clear c14
                    obtain ⟨y644, hy644⟩ : ∃ y_ : List (S39), y_ = (x6_2 ++ [(⟨3, (⟨(rd_T39 l1 x7_2).f1.f0, (rd_T39 l1 x7_2).f1.f1, (rd_T39 l1 x7_2).f1.f2⟩ : S37), (⟨(rd_T39 l1 x7_2).f2.f0, (rd_T39 l1 x7_2).f2.f1, (rd_T39 l1 x7_2).f2.f2⟩ : S37)⟩ : S39)]) := ⟨_, rfl⟩
                    replace H : (cleanselaw21_BondOpens.l0 k2 l0 l1 t635 y644 (wrap64 (x7_2 + 1))) = some r := by first | (rw [hy644]; with_reducible exact H) | (have H2_ := (Option.bind_some _ _).symm.trans H; rw [hy644]; with_reducible exact H2_) | (have H2_ := (Option.bind_some _ _).symm.trans H; with_reducible exact H2_) | with_reducible exact H | (rw [hy644]; exact H) | exact H
                    have Ny644 := Aside0.mk hy644
                    clear hy644
                    have H' := Aside0.mk H
                    clear H
                    try go_wp2
                    have n0_ := Aside0.mk (Kd.R_drew HO_6.out)
                    have n1_ := Aside0.mk (below_drew1 HB.out)
                    clear HO_6
                    clear HB
                    have HO_6 := n0_
                    have HB := n1_
                    clear n0_ n1_
                    have p642 : 0 ≤ (x7_2 : Int) := of_decide_eq_true (by first | (with_reducible assumption) | assumption)
                    have q642 : x7_2 < (l1.length : Int) := of_decide_eq_true (by first | (with_reducible assumption) | assumption)
                    obtain ⟨ad642, e642, hx642_0, hx642_1, hx642_2, hx642_3, hx642_4, hx642_5, hx642_6⟩ := at_T39 HR1.out x7_2 p642 q642
                    have hw642_6 := hx642_6
                    have hw642_5 := hx642_5
                    have hw642_4 := hx642_4
                    have hw642_3 := hx642_3
                    have hw642_2 := hx642_2
                    have hw642_1 := hx642_1
                    have hw642_0 := hx642_0
                    cases e642
                    replace hx642_0 := (HB.out.cell (World.block_lt_of_cell? w _ hx642_0)).trans hx642_0
                    replace hx642_1 := (HB.out.cell (World.block_lt_of_cell? w _ hx642_1)).trans hx642_1
                    replace hx642_2 := (HB.out.cell (World.block_lt_of_cell? w _ hx642_2)).trans hx642_2
                    replace hx642_3 := (HB.out.cell (World.block_lt_of_cell? w _ hx642_3)).trans hx642_3
                    replace hx642_4 := (HB.out.cell (World.block_lt_of_cell? w _ hx642_4)).trans hx642_4
                    replace hx642_5 := (HB.out.cell (World.block_lt_of_cell? w _ hx642_5)).trans hx642_5
                    replace hx642_6 := (HB.out.cell (World.block_lt_of_cell? w _ hx642_6)).trans hx642_6
                    replace p642 := eq_true p642
                    replace q642 := eq_true q642
                    have p643 : 0 ≤ (x7_2 : Int) := of_decide_eq_true (by first | (with_reducible assumption) | assumption)
                    have q643 : x7_2 < (l1.length : Int) := of_decide_eq_true (by first | (with_reducible assumption) | assumption)
                    obtain ⟨ad643, e643, hx643_0, hx643_1, hx643_2, hx643_3, hx643_4, hx643_5, hx643_6⟩ := at_T39 HR1.out x7_2 p643 q643
                    have hw643_6 := hx643_6
                    have hw643_5 := hx643_5
                    have hw643_4 := hx643_4
                    have hw643_3 := hx643_3
                    have hw643_2 := hx643_2
                    have hw643_1 := hx643_1
                    have hw643_0 := hx643_0
                    obtain rfl : ad642 = ad643 := (by injection e643)
                    replace hx643_0 := (HB.out.cell (World.block_lt_of_cell? w _ hx643_0)).trans hx643_0
                    replace hx643_1 := (HB.out.cell (World.block_lt_of_cell? w _ hx643_1)).trans hx643_1
                    replace hx643_2 := (HB.out.cell (World.block_lt_of_cell? w _ hx643_2)).trans hx643_2
                    replace hx643_3 := (HB.out.cell (World.block_lt_of_cell? w _ hx643_3)).trans hx643_3
                    replace hx643_4 := (HB.out.cell (World.block_lt_of_cell? w _ hx643_4)).trans hx643_4
                    replace hx643_5 := (HB.out.cell (World.block_lt_of_cell? w _ hx643_5)).trans hx643_5
                    replace hx643_6 := (HB.out.cell (World.block_lt_of_cell? w _ hx643_6)).trans hx643_6
                    replace p643 := eq_true p643
                    replace q643 := eq_true q643
                    refine start_ (n := 15) (S := fun w' => w'.cell? (ad642.add ((x7_2).toNat * 7)) = some (.int .i64 ((rd_T39 l1 x7_2).f0)) ∧ w'.cell? ⟨(ad642.add ((x7_2).toNat * 7)).block, (ad642.add ((x7_2).toNat * 7)).off + 1, none⟩ = some (.int .i64 ((rd_T39 l1 x7_2).f1.f0)) ∧ w'.cell? ⟨(ad642.add ((x7_2).toNat * 7)).block, (ad642.add ((x7_2).toNat * 7)).off + 2, none⟩ = some (.string ((rd_T39 l1 x7_2).f1.f1)) ∧ w'.cell? ⟨(ad642.add ((x7_2).toNat * 7)).block, (ad642.add ((x7_2).toNat * 7)).off + 3, none⟩ = some (.string ((rd_T39 l1 x7_2).f1.f2)) ∧ w'.cell? ⟨(ad642.add ((x7_2).toNat * 7)).block, (ad642.add ((x7_2).toNat * 7)).off + 4, none⟩ = some (.int .i64 ((rd_T39 l1 x7_2).f2.f0)) ∧ w'.cell? ⟨(ad642.add ((x7_2).toNat * 7)).block, (ad642.add ((x7_2).toNat * 7)).off + 5, none⟩ = some (.string ((rd_T39 l1 x7_2).f2.f1)) ∧ w'.cell? ⟨(ad642.add ((x7_2).toNat * 7)).block, (ad642.add ((x7_2).toNat * 7)).off + 6, none⟩ = some (.string ((rd_T39 l1 x7_2).f2.f2)) ∧ w'.cell? (ad642.add ((x7_2).toNat * 7)) = some (.int .i64 ((rd_T39 l1 x7_2).f0)) ∧ w'.cell? ⟨(ad642.add ((x7_2).toNat * 7)).block, (ad642.add ((x7_2).toNat * 7)).off + 1, none⟩ = some (.int .i64 ((rd_T39 l1 x7_2).f1.f0)) ∧ w'.cell? ⟨(ad642.add ((x7_2).toNat * 7)).block, (ad642.add ((x7_2).toNat * 7)).off + 2, none⟩ = some (.string ((rd_T39 l1 x7_2).f1.f1)) ∧ w'.cell? ⟨(ad642.add ((x7_2).toNat * 7)).block, (ad642.add ((x7_2).toNat * 7)).off + 3, none⟩ = some (.string ((rd_T39 l1 x7_2).f1.f2)) ∧ w'.cell? ⟨(ad642.add ((x7_2).toNat * 7)).block, (ad642.add ((x7_2).toNat * 7)).off + 4, none⟩ = some (.int .i64 ((rd_T39 l1 x7_2).f2.f0)) ∧ w'.cell? ⟨(ad642.add ((x7_2).toNat * 7)).block, (ad642.add ((x7_2).toNat * 7)).off + 5, none⟩ = some (.string ((rd_T39 l1 x7_2).f2.f1)) ∧ w'.cell? ⟨(ad642.add ((x7_2).toNat * 7)).block, (ad642.add ((x7_2).toNat * 7)).off + 6, none⟩ = some (.string ((rd_T39 l1 x7_2).f2.f2))) (ds := []) #[false, false, false, false, false, false, false, false, false, false, false, false, false, false, false] (by kernel_rfl) rfl rfl ⟨((HB.out.cell (World.block_lt_of_cell? w _ hw642_0)).trans hw642_0), ((HB.out.cell (World.block_lt_of_cell? w _ hw642_1)).trans hw642_1), ((HB.out.cell (World.block_lt_of_cell? w _ hw642_2)).trans hw642_2), ((HB.out.cell (World.block_lt_of_cell? w _ hw642_3)).trans hw642_3), ((HB.out.cell (World.block_lt_of_cell? w _ hw642_4)).trans hw642_4), ((HB.out.cell (World.block_lt_of_cell? w _ hw642_5)).trans hw642_5), ((HB.out.cell (World.block_lt_of_cell? w _ hw642_6)).trans hw642_6), ((HB.out.cell (World.block_lt_of_cell? w _ hw643_0)).trans hw643_0), ((HB.out.cell (World.block_lt_of_cell? w _ hw643_1)).trans hw643_1), ((HB.out.cell (World.block_lt_of_cell? w _ hw643_2)).trans hw643_2), ((HB.out.cell (World.block_lt_of_cell? w _ hw643_3)).trans hw643_3), ((HB.out.cell (World.block_lt_of_cell? w _ hw643_4)).trans hw643_4), ((HB.out.cell (World.block_lt_of_cell? w _ hw643_5)).trans hw643_5), ((HB.out.cell (World.block_lt_of_cell? w _ hw643_6)).trans hw643_6)⟩ (fun hHeld => ?_); refine with_tabW cleanselaw21_BondOpens.tab8 cleanselaw21_BondOpens.bits8 (fun HT_ HW_ => ?_)
                    generalize wr.drew = w15 at HO_6 HB hx642_0 hx642_1 hx642_2 hx642_3 hx642_4 hx642_5 hx642_6 hx643_0 hx643_1 hx643_2 hx643_3 hx643_4 hx643_5 hx643_6 hHeld ⊢
                    refine pure_ (i := 0) (N := some 30) (v := ?_) (a' := ?_) #[true, false, false, false, false, false, false, false, false, false, false, false, false, false, false] rfl rfl (any_of HT_.out (by kernel_rfl)) (fun _ _ _ h => h) (Or.inl ⟨by rfl, ?_⟩) ?_ ?_
                    rotate_left
                    · intro w'
                      go_simp
                      with_reducible rfl
                    rotate_left
                    · simp only [Act.put, List.setIfInBounds_toArray, List.set_cons_zero, List.set_cons_succ, i64_w, i32_w]
                      rfl
                    refine pure_ (i := 1) (N := some 31) (v := ?_) (a' := ?_) #[true, true, false, false, false, false, false, false, false, false, false, false, false, false, false] rfl rfl (any_of HT_.out (by kernel_rfl)) (fun _ _ _ h => h) (Or.inl ⟨by rfl, ?_⟩) ?_ ?_
                    rotate_left
                    · intro w'
                      go_simp
                      with_reducible rfl
                    rotate_left
                    · simp only [Act.put, List.setIfInBounds_toArray, List.set_cons_zero, List.set_cons_succ, i64_w, i32_w]
                      rfl
                    refine pure_ (i := 2) (N := some 32) (v := ?_) (a' := ?_) #[true, true, true, false, false, false, false, false, false, false, false, false, false, false, false] rfl rfl (any_of HT_.out (by kernel_rfl)) (fun _ _ _ h => h) (Or.inl ⟨by rfl, ?_⟩) ?_ ?_
                    rotate_left
                    · intro w'
                      go_simp
                      with_reducible rfl
                    rotate_left
                    · simp only [Act.put, List.setIfInBounds_toArray, List.set_cons_zero, List.set_cons_succ, i64_w, i32_w]
                      rfl
                    refine pure_ (i := 3) (N := some 33) (v := ?_) (a' := ?_) #[true, true, true, true, false, false, false, false, false, false, false, false, false, false, false] rfl rfl (any_of HT_.out (by kernel_rfl)) (fun _ _ _ h => h) (Or.inl ⟨by rfl, ?_⟩) ?_ ?_
                    rotate_left
                    · intro w'
                      go_simp
                      with_reducible rfl
                    rotate_left
                    · simp only [Act.put, List.setIfInBounds_toArray, List.set_cons_zero, List.set_cons_succ, i64_w, i32_w]
                      rfl
                    refine pure_ (i := 4) (N := some 34) (v := ?_) (a' := ?_) #[true, true, true, true, true, false, false, false, false, false, false, false, false, false, false] rfl rfl (any_of HT_.out (by kernel_rfl)) (fun _ _ _ h => h) (Or.inl ⟨by rfl, ?_⟩) ?_ ?_
                    rotate_left
                    · intro w'
                      go_simp
                      with_reducible rfl
                    rotate_left
                    · simp only [Act.put, List.setIfInBounds_toArray, List.set_cons_zero, List.set_cons_succ, i64_w, i32_w]
                      rfl
                    refine pure_ (i := 6) (N := some 36) (v := ?_) (a' := ?_) #[true, true, true, true, true, false, true, false, false, false, false, false, false, false, false] rfl rfl (any_of HT_.out (by kernel_rfl)) (fun _ _ _ h => h) (Or.inl ⟨by rfl, ?_⟩) ?_ ?_
                    rotate_left
                    · intro w'
                      go_simp
                      with_reducible rfl
                    rotate_left
                    · simp only [Act.put, List.setIfInBounds_toArray, List.set_cons_zero, List.set_cons_succ, i64_w, i32_w]
                      rfl
                    refine pure_ (i := 7) (N := some 37) (v := ?_) (a' := ?_) #[true, true, true, true, true, false, true, true, false, false, false, false, false, false, false] rfl rfl (any_of HT_.out (by kernel_rfl)) (fun _ _ _ h => h) (Or.inl ⟨by rfl, ?_⟩) ?_ ?_
                    rotate_left
                    · intro w'
                      go_simp
                      with_reducible rfl
                    rotate_left
                    · simp only [Act.put, List.setIfInBounds_toArray, List.set_cons_zero, List.set_cons_succ, i64_w, i32_w]
                      rfl
                    refine pure_ (i := 8) (N := some 38) (v := ?_) (a' := ?_) #[true, true, true, true, true, false, true, true, true, false, false, false, false, false, false] rfl rfl (any_of HT_.out (by kernel_rfl)) (fun _ _ _ h => h) (Or.inl ⟨by rfl, ?_⟩) ?_ ?_
                    rotate_left
                    · intro w'
                      go_simp
                      with_reducible rfl
                    rotate_left
                    · simp only [Act.put, List.setIfInBounds_toArray, List.set_cons_zero, List.set_cons_succ, i64_w, i32_w]
                      rfl
                    refine pure_ (i := 9) (N := some 39) (v := ?_) (a' := ?_) #[true, true, true, true, true, false, true, true, true, true, false, false, false, false, false] rfl rfl (any_of HT_.out (by kernel_rfl)) (fun _ _ _ h => h) (Or.inl ⟨by rfl, ?_⟩) ?_ ?_
                    rotate_left
                    · intro w'
                      go_simp
                      with_reducible rfl
                    rotate_left
                    · simp only [Act.put, List.setIfInBounds_toArray, List.set_cons_zero, List.set_cons_succ, i64_w, i32_w]
                      rfl
                    refine take_ (i := 5) (N := some 35) (v := ?_) (a' := ?_) #[true, true, true, true, true, true, true, true, true, true, false, false, false, false, false] rfl rfl (take_ofW HT_.out HW_.out (by kernel_rfl)) (fun _ _ _ h => h) (Or.inl ⟨by rfl, ?_⟩) hHeld ?_ ?_
                    rotate_left
                    · rintro w' ⟨s0, s1, s2, s3, s4, s5, s6, s7, s8, s9, s10, s11, s12, s13⟩
                      go_simp
                      with_reducible rfl
                    rotate_left
                    · simp only [Act.put, List.setIfInBounds_toArray, List.set_cons_zero, List.set_cons_succ, i64_w, i32_w]
                      rfl
                    refine take_ (i := 10) (N := some 40) (v := ?_) (a' := ?_) #[true, true, true, true, true, true, true, true, true, true, true, false, false, false, false] rfl rfl (take_ofW HT_.out HW_.out (by kernel_rfl)) (fun _ _ _ h => h) (Or.inl ⟨by rfl, ?_⟩) hHeld ?_ ?_
                    rotate_left
                    · rintro w' ⟨s0, s1, s2, s3, s4, s5, s6, s7, s8, s9, s10, s11, s12, s13⟩
                      go_simp
                      with_reducible rfl
                    rotate_left
                    · simp only [Act.put, List.setIfInBounds_toArray, List.set_cons_zero, List.set_cons_succ, i64_w, i32_w]
                      rfl
                    refine pure_ (i := 11) (N := some 41) (v := ?_) (a' := ?_) #[true, true, true, true, true, true, true, true, true, true, true, true, false, false, false] rfl rfl (any_of HT_.out (by kernel_rfl)) (fun _ _ _ h => h) (Or.inl ⟨by rfl, ?_⟩) ?_ ?_
                    rotate_left
                    · intro w'
                      go_simp
                      with_reducible rfl
                    rotate_left
                    · simp only [Act.put, List.setIfInBounds_toArray, List.set_cons_zero, List.set_cons_succ, i64_w, i32_w]
                      rfl
                    refine one_ (i := 12) (N := some 42) #[true, true, true, true, true, true, true, true, true, true, true, true, true, false, false] rfl rfl (one_of HT_.out (by kernel_rfl)) (by decide) (fun K hK => ?_)
                    refine value_ (w1 := ?_) (v := ?_) (by rfl) rfl ?_ ?_
                    rotate_left 2
                    · go_simp
                      constructor
                      · rfl
                      · rfl
                    refine hK.out _ _ ⟨(World.cell?_alloc_lt _ _ _ (World.block_lt_of_cell? _ _ (((HB.out.cell (World.block_lt_of_cell? w _ hw642_0)).trans hw642_0)))).trans (((HB.out.cell (World.block_lt_of_cell? w _ hw642_0)).trans hw642_0)), (World.cell?_alloc_lt _ _ _ (World.block_lt_of_cell? _ _ (((HB.out.cell (World.block_lt_of_cell? w _ hw642_1)).trans hw642_1)))).trans (((HB.out.cell (World.block_lt_of_cell? w _ hw642_1)).trans hw642_1)), (World.cell?_alloc_lt _ _ _ (World.block_lt_of_cell? _ _ (((HB.out.cell (World.block_lt_of_cell? w _ hw642_2)).trans hw642_2)))).trans (((HB.out.cell (World.block_lt_of_cell? w _ hw642_2)).trans hw642_2)), (World.cell?_alloc_lt _ _ _ (World.block_lt_of_cell? _ _ (((HB.out.cell (World.block_lt_of_cell? w _ hw642_3)).trans hw642_3)))).trans (((HB.out.cell (World.block_lt_of_cell? w _ hw642_3)).trans hw642_3)), (World.cell?_alloc_lt _ _ _ (World.block_lt_of_cell? _ _ (((HB.out.cell (World.block_lt_of_cell? w _ hw642_4)).trans hw642_4)))).trans (((HB.out.cell (World.block_lt_of_cell? w _ hw642_4)).trans hw642_4)), (World.cell?_alloc_lt _ _ _ (World.block_lt_of_cell? _ _ (((HB.out.cell (World.block_lt_of_cell? w _ hw642_5)).trans hw642_5)))).trans (((HB.out.cell (World.block_lt_of_cell? w _ hw642_5)).trans hw642_5)), (World.cell?_alloc_lt _ _ _ (World.block_lt_of_cell? _ _ (((HB.out.cell (World.block_lt_of_cell? w _ hw642_6)).trans hw642_6)))).trans (((HB.out.cell (World.block_lt_of_cell? w _ hw642_6)).trans hw642_6)), (World.cell?_alloc_lt _ _ _ (World.block_lt_of_cell? _ _ (((HB.out.cell (World.block_lt_of_cell? w _ hw643_0)).trans hw643_0)))).trans (((HB.out.cell (World.block_lt_of_cell? w _ hw643_0)).trans hw643_0)), (World.cell?_alloc_lt _ _ _ (World.block_lt_of_cell? _ _ (((HB.out.cell (World.block_lt_of_cell? w _ hw643_1)).trans hw643_1)))).trans (((HB.out.cell (World.block_lt_of_cell? w _ hw643_1)).trans hw643_1)), (World.cell?_alloc_lt _ _ _ (World.block_lt_of_cell? _ _ (((HB.out.cell (World.block_lt_of_cell? w _ hw643_2)).trans hw643_2)))).trans (((HB.out.cell (World.block_lt_of_cell? w _ hw643_2)).trans hw643_2)), (World.cell?_alloc_lt _ _ _ (World.block_lt_of_cell? _ _ (((HB.out.cell (World.block_lt_of_cell? w _ hw643_3)).trans hw643_3)))).trans (((HB.out.cell (World.block_lt_of_cell? w _ hw643_3)).trans hw643_3)), (World.cell?_alloc_lt _ _ _ (World.block_lt_of_cell? _ _ (((HB.out.cell (World.block_lt_of_cell? w _ hw643_4)).trans hw643_4)))).trans (((HB.out.cell (World.block_lt_of_cell? w _ hw643_4)).trans hw643_4)), (World.cell?_alloc_lt _ _ _ (World.block_lt_of_cell? _ _ (((HB.out.cell (World.block_lt_of_cell? w _ hw643_5)).trans hw643_5)))).trans (((HB.out.cell (World.block_lt_of_cell? w _ hw643_5)).trans hw643_5)), (World.cell?_alloc_lt _ _ _ (World.block_lt_of_cell? _ _ (((HB.out.cell (World.block_lt_of_cell? w _ hw643_6)).trans hw643_6)))).trans (((HB.out.cell (World.block_lt_of_cell? w _ hw643_6)).trans hw643_6))⟩ (fun hHeld => ?_)
                    clear hK K
                    refine norm_ (a' := ?_) ?_ ?_
                    rotate_left
                    · show Act.put _ (some 42) _ = _
                      simp only [Act.put, List.setIfInBounds_toArray, List.set_cons_zero, List.set_cons_succ, i64_w, i32_w]
                      rfl
                    refine one_ (i := 13) (N := some 43) #[true, true, true, true, true, true, true, true, true, true, true, true, true, true, false] rfl rfl (one_of HT_.out (by kernel_rfl)) (by decide) (fun K hK => ?_)
                    refine Kd.R_append_step k39 (w0 := w) w.heap.size (by rfl) (.tmp 30) (.tmp 42) 23 39 (.agg #[(.int .i64 0), (.int .i64 0), (.string ⟨#[]⟩), (.string ⟨#[]⟩), (.int .i64 0), (.string ⟨#[]⟩), (.string ⟨#[]⟩)]) 88 rfl Try.underlying23 info39 rfl (by decide) (by omega) u6 x6_2 (⟨3, (⟨(rd_T39 l1 x7_2).f1.f0, (rd_T39 l1 x7_2).f1.f1, (rd_T39 l1 x7_2).f1.f2⟩ : S37), (⟨(rd_T39 l1 x7_2).f2.f0, (rd_T39 l1 x7_2).f2.f1, (rd_T39 l1 x7_2).f2.f2⟩ : S37)⟩ : S39) [.int .i64 3, .int .i64 ((rd_T39 l1 x7_2).f1.f0), .string ((rd_T39 l1 x7_2).f1.f1), .string ((rd_T39 l1 x7_2).f1.f2), .int .i64 ((rd_T39 l1 x7_2).f2.f0), .string ((rd_T39 l1 x7_2).f2.f1), .string ((rd_T39 l1 x7_2).f2.f2)] (fun _ => True) (fun _ => False) rfl rfl ?aP (fun _ hk => hk.elim) ?aF ?aO ?aB ?aS ?aL ?_
                    (case aP => exact k39_mkM _ _ _ (⟨3, (⟨(rd_T39 l1 x7_2).f1.f0, (rd_T39 l1 x7_2).f1.f1, (rd_T39 l1 x7_2).f1.f2⟩ : S37), (⟨(rd_T39 l1 x7_2).f2.f0, (rd_T39 l1 x7_2).f2.f1, (rd_T39 l1 x7_2).f2.f2⟩ : S37)⟩ : S39))
                    (case aB => exact (by repeat (first | (with_reducible first | exact HB.out | apply below_alloc | apply pw_below_drewN | apply below_drew1) | exact HB.out)))
                    (case aF => exact (fun _ _ => trivial))
                    (case aO => exact (by (with_reducible repeat (first | apply Kd.R_alloc | apply Kd.R_drewN | apply Kd.R_drew)); exact HO_6.out))
                    (case aS => exact (below_size (by repeat (first | (with_reducible first | exact HB.out | apply below_alloc | apply pw_below_drewN | apply below_drew1) | exact HB.out))))
                    (case aL => have := LMc14.out; omega)
                    intro v645 w16 ho hb hg hat
                    rw [← Ny644.out] at ho
                    have n0_ := Aside0.mk (hb)
                    have n1_ := Aside0.mk (ho)
                    clear HB
                    clear HO_6
                    have HB := n0_
                    have HO646 := n1_
                    clear n0_ n1_
                    clear ho hb hg hat
                    refine hK.out _ _ ⟨((HB.out.cell (World.block_lt_of_cell? w _ hw642_0)).trans hw642_0), ((HB.out.cell (World.block_lt_of_cell? w _ hw642_1)).trans hw642_1), ((HB.out.cell (World.block_lt_of_cell? w _ hw642_2)).trans hw642_2), ((HB.out.cell (World.block_lt_of_cell? w _ hw642_3)).trans hw642_3), ((HB.out.cell (World.block_lt_of_cell? w _ hw642_4)).trans hw642_4), ((HB.out.cell (World.block_lt_of_cell? w _ hw642_5)).trans hw642_5), ((HB.out.cell (World.block_lt_of_cell? w _ hw642_6)).trans hw642_6), ((HB.out.cell (World.block_lt_of_cell? w _ hw643_0)).trans hw643_0), ((HB.out.cell (World.block_lt_of_cell? w _ hw643_1)).trans hw643_1), ((HB.out.cell (World.block_lt_of_cell? w _ hw643_2)).trans hw643_2), ((HB.out.cell (World.block_lt_of_cell? w _ hw643_3)).trans hw643_3), ((HB.out.cell (World.block_lt_of_cell? w _ hw643_4)).trans hw643_4), ((HB.out.cell (World.block_lt_of_cell? w _ hw643_5)).trans hw643_5), ((HB.out.cell (World.block_lt_of_cell? w _ hw643_6)).trans hw643_6)⟩ (fun hHeld => ?_)
                    clear hK K
                    refine norm_ (a' := ?_) ?_ ?_
                    rotate_left
                    · show Act.put _ (some 43) _ = _
                      simp only [Act.put, List.setIfInBounds_toArray, List.set_cons_zero, List.set_cons_succ, i64_w, i32_w]
                      rfl
                    refine pure_ (i := 14) (N := some 6) (v := ?_) (a' := ?_) #[true, true, true, true, true, true, true, true, true, true, true, true, true, true, true] rfl rfl (any_of HT_.out (by kernel_rfl)) (fun _ _ _ h => h) (Or.inl ⟨by rfl, ?_⟩) ?_ ?_
                    rotate_left
                    · intro w'
                      go_simp
                      with_reducible rfl
                    rotate_left
                    · simp only [Act.put, List.setIfInBounds_toArray, List.set_cons_zero, List.set_cons_succ, i64_w, i32_w]
                      rfl
                    refine done_ (done_of HT_.out (by kernel_rfl)) ?_
                    try go_wp2
                    go_roundg k2
                    case measure => have := HJ3.out; have := HK2.out; omega
                    case rel => exact ⟨(y644), (wrap64 (x7_2 + 1)), (by first | rfl | (simp; done) | (simp [*]; done)), H', ⟨by have := HJ3.out; have := HK2.out; omega⟩, ⟨by (with_reducible repeat (first | apply Kd.R_alloc | apply Kd.R_drewN | apply Kd.R_drew)); exact HO646.out⟩, ⟨by repeat (first | (with_reducible first | exact HB.out | apply below_alloc | apply pw_below_drewN | apply below_drew1) | exact HB.out)⟩⟩
                  · rw [if_neg c14] at H
                    exact absurd H (by simp)
                · rw [if_neg c13] at H
                  exact absurd H (by simp)
              · rw [if_neg c12] at H
                have c12b0 : decide (x7_2 < (l1.length : Int)) = false := decide_eq_false c12
                clear c12
                replace H := Option.bind_eq_some_iff.mp H
                obtain ⟨⟨t647, t648⟩, A170, H⟩ := H
                replace H : (cleanselaw21_BondOpens.l1 k2 l0 t635 x6_2 t647 t648 0) = some r := H
                have A17 := Aside0.mk A170
                clear A170
                have H' := Aside0.mk H
                clear H
                obtain ⟨Ao18, co18, eo18⟩ := Kd.R_slice HO_6.out
                subst eo18
                go_wp2_with (first | ((with_reducible refine gate_callee (f := 11) rfl ?_); refine goesL_ (some 47) rfl rfl Try.func11 (by kernel_rfl) rfl #[.slice A0 l0.length c0, .slice Ao18 x6_2.length co18] rfl (by (try simp only [List.map_toArray, List.map_cons, List.map_nil]); first | done | rfl | (simp only [List.length_drop, List.length_take]; rfl)) ?_; (with_reducible refine (bond_Bind.calls _ _ l0 _ _ x6_2 t647 t648 _ ?side1 ?side2 ?side3 ?side4 A17.out).mono ?_); (case side1 => repeat (first | exact (Kd.C_below HR0.out HB.out) | (with_reducible refine Kd.C_alloc ?_ _) | (with_reducible refine Kd.C_drewN ?_ _) | (with_reducible refine Kd.C_drew ?_))); (case side2 => exact HC0.out); (case side3 => repeat (first | exact (Kd.R_reads' HO_6.out).2.2 | (with_reducible refine Kd.C_alloc ?_ _) | (with_reducible refine Kd.C_drewN ?_ _) | (with_reducible refine Kd.C_drew ?_))); (case side4 => exact (Kd.R_reads' HO_6.out).2.1); rintro e w19 ⟨v649, v651, rfl, ho0, ho1, hb⟩; refine ⟨_, rfl, ?_⟩; have n0_ := Aside0.mk (Kd.R_below (by (with_reducible repeat (first | apply Kd.R_alloc | apply Kd.R_drewN | apply Kd.R_drew)); exact HO_6.out) hb); have n1_ := Aside0.mk (Kd.R_lower ho0 (below_size (by repeat (first | (with_reducible first | exact HB.out | apply below_alloc | apply pw_below_drewN | apply below_drew1) | exact HB.out)))); have n2_ := Aside0.mk (Kd.R_lower ho1 (below_size (by repeat (first | (with_reducible first | exact HB.out | apply below_alloc | apply pw_below_drewN | apply below_drew1) | exact HB.out)))); have n3_ := Aside0.mk (below_step (by repeat (first | (with_reducible first | exact HB.out | apply below_alloc | apply pw_below_drewN | apply below_drew1) | exact HB.out)) hb); clear HO_6; clear HB; have HO_6 := n0_; have HO650 := n1_; have HO652 := n2_; have HB := n3_; clear n0_ n1_ n2_ n3_; (try clear hb); (try clear hb2); (try clear hk); (try clear hi); (try clear ho0); (try clear ho1)))
                go_loopg [10] k2 (fun kq v10 w' => ∃ (x10_3 : Int), v10 = .int .i64 x10_3 ∧ Aside0 (cleanselaw21_BondOpens.l1 kq l0 t635 x6_2 t647 t648 x10_3 = some r) ∧ Aside0 (kq ≤ k2) ∧ Aside0 (Kd.R k39 39 w' w.heap.size (fun _ => True) (.slice Ao18 x6_2.length co18) x6_2) ∧ Aside0 (Kd.R (Kd.int .i64) 3 w' w.heap.size (fun _ => True) v649 t647) ∧ Aside0 (Kd.R k48 48 w' w.heap.size (fun _ => True) v651 t648) ∧ Aside0 (Below w.heap.size w w'))
                case atStart => exact ⟨(0), (by first | rfl | (simp; done) | (simp [*]; done)), H', ⟨Nat.le_refl _⟩, ⟨by (with_reducible repeat (first | apply Kd.R_alloc | apply Kd.R_drewN | apply Kd.R_drew)); exact HO_6.out⟩, ⟨by (with_reducible repeat (first | apply Kd.R_alloc | apply Kd.R_drewN | apply Kd.R_drew)); exact HO650.out⟩, ⟨by (with_reducible repeat (first | apply Kd.R_alloc | apply Kd.R_drewN | apply Kd.R_drew)); exact HO652.out⟩, ⟨by repeat (first | (with_reducible first | exact HB.out | apply below_alloc | apply pw_below_drewN | apply below_drew1) | exact HB.out)⟩⟩
                case round =>
                  clear H'
                  try clear c1
                  try clear p2
                  try clear c6
                  try clear c6b0
                  try clear c6b1
                  try clear p6
                  try clear q6
                  try clear hx6
                  try clear c7
                  try clear c8
                  try clear c9
                  try clear c11
                  try clear c12
                  try clear c12b0
                  try clear c13
                  try clear c13b0
                  try clear c14
                  try clear hx642_0
                  try clear hx642_1
                  try clear hx642_2
                  try clear hx642_3
                  try clear hx642_4
                  try clear hx642_5
                  try clear hx642_6
                  try clear hx643_0
                  try clear hx643_1
                  try clear hx643_2
                  try clear hx643_3
                  try clear hx643_4
                  try clear hx643_5
                  try clear hx643_6
                  try clear p2
                  try clear p642
                  try clear p643
                  try clear q642
                  try clear q643
                  obtain ⟨x10_3, rfl, HA, HK3, HO_6, HO_8, HO_9, HB⟩ := hrel
                  cases gk with
                  | zero => exact absurd HA.out (by simp [cleanselaw21_BondOpens.l1])
                  | succ k3 =>
                    have H := HA.out
                    clear HA
                    simp only [cleanselaw21_BondOpens.l1] at H
                    by_cases c20 : x10_3 < (t647.length : Int)
                    · rw [if_pos c20] at H
                      have c20b0 : decide (x10_3 < (t647.length : Int)) = true := decide_eq_true c20
                      clear c20
                      by_cases c21 : 0 ≤ x10_3
                      · rw [if_pos c21] at H
                        have c21b0 : decide (0 ≤ x10_3) = true := decide_eq_true c21
                        clear c21
                        by_cases c22 : (rd t647 x10_3) = x10_3
                        · rw [if_pos c22] at H
                          have c22b0 : ((rd t647 x10_3) == x10_3) = true := beq_iff_eq.mpr c22
                          have c22b1 : ((rd t647 x10_3) != x10_3) = false := bne_eq_false_iff_eq.mpr c22
                          clear c22
                          have H' := Aside0.mk H
                          clear H
                          obtain ⟨Ao23, co23, eo23⟩ := Kd.R_slice HO_8.out
                          subst eo23
                          have p653 : 0 ≤ (x10_3 : Int) := of_decide_eq_true (by first | (with_reducible assumption) | assumption)
                          have q653 : x10_3 < (t647.length : Int) := of_decide_eq_true (by first | (with_reducible assumption) | assumption)
                          obtain ⟨ad653, e653, hx653_0⟩ := Kd.at_int (Kd.R_reads' HO_8.out).2.2 x10_3 p653 q653
                          cases e653
                          replace p653 := eq_true p653
                          replace q653 := eq_true q653
                          go_wp2
                          go_roundg k3
                          case measure => have := HJ3.out; have := HK2.out; have := HK3.out; omega
                          case rel => exact ⟨(wrap64 (x10_3 + 1)), (by first | rfl | (simp; done) | (simp [*]; done)), H', ⟨by have := HJ3.out; have := HK2.out; have := HK3.out; omega⟩, ⟨by (with_reducible repeat (first | apply Kd.R_alloc | apply Kd.R_drewN | apply Kd.R_drew)); exact HO_6.out⟩, ⟨by (with_reducible repeat (first | apply Kd.R_alloc | apply Kd.R_drewN | apply Kd.R_drew)); exact HO_8.out⟩, ⟨by (with_reducible repeat (first | apply Kd.R_alloc | apply Kd.R_drewN | apply Kd.R_drew)); exact HO_9.out⟩, ⟨by repeat (first | (with_reducible first | exact HB.out | apply below_alloc | apply pw_below_drewN | apply below_drew1) | exact HB.out)⟩⟩
                        · rw [if_neg c22] at H
                          have c22b0 : ((rd t647 x10_3) == x10_3) = false := beq_eq_false_iff_ne.mpr c22
                          have c22b1 : ((rd t647 x10_3) != x10_3) = true := bne_iff_ne.mpr c22
                          obtain rfl := Option.some.inj H
                          obtain ⟨Ao24, co24, eo24⟩ := Kd.R_slice HO_8.out
                          subst eo24
                          have p653 : 0 ≤ (x10_3 : Int) := of_decide_eq_true (by first | (with_reducible assumption) | assumption)
                          have q653 : x10_3 < (t647.length : Int) := of_decide_eq_true (by first | (with_reducible assumption) | assumption)
                          obtain ⟨ad653, e653, hx653_0⟩ := Kd.at_int (Kd.R_reads' HO_8.out).2.2 x10_3 p653 q653
                          cases e653
                          replace p653 := eq_true p653
                          replace q653 := eq_true q653
                          go_wp2
                          go_ret
                          exact ⟨by first | rfl | (simp [errW_none, errW_some] <;> rfl) | (simp [*, errW_none, errW_some] <;> rfl), by repeat (first | (with_reducible first | exact HB.out | apply below_alloc | apply pw_below_drewN | apply below_drew1) | exact HB.out)⟩
                      · rw [if_neg c21] at H
                        exact absurd H (by simp)
                    · rw [if_neg c20] at H
                      have c20b0 : decide (x10_3 < (t647.length : Int)) = false := decide_eq_false c20
                      clear c20
                      by_cases c25 : t635 = true
                      · subst c25
                        have H1 : (if (t647.length : Int) = (l0.length : Int) then (if (t648.length : Int) = 0 then ((bond_Effective.f x6_2).bind fun t654 => (if (t654.length : Int) = 0 then ((bond_Contradictions.f l0 x6_2).bind fun t657 => (some ((t657.length : Int) == 0))) else (some false))) else (some false)) else (some false)) = some r := by rw [if_pos rfl] at H; exact H
                        clear H
                        have H := H1
                        clear H1
                        by_cases c26 : (t647.length : Int) = (l0.length : Int)
                        · rw [if_pos c26] at H
                          have c26b0 : ((t647.length : Int) == (l0.length : Int)) = true := beq_iff_eq.mpr c26
                          have c26b1 : ((t647.length : Int) != (l0.length : Int)) = false := bne_eq_false_iff_eq.mpr c26
                          have c26b2 : (t647.length == l0.length) = true := by first | simpa using c26 | (simp at c26 ⊢; omega)
                          clear c26
                          by_cases c27 : (t648.length : Int) = 0
                          · rw [if_pos c27] at H
                            have c27b0 : ((t648.length : Int) == 0) = true := beq_iff_eq.mpr c27
                            have c27b1 : ((t648.length : Int) != 0) = false := bne_eq_false_iff_eq.mpr c27
                            clear c27
                            replace H := Option.bind_eq_some_iff.mp H
                            obtain ⟨t654, A280, H⟩ := H
                            replace H : (if (t654.length : Int) = 0 then ((bond_Contradictions.f l0 x6_2).bind fun t657 => (some ((t657.length : Int) == 0))) else (some false)) = some r := H
                            have A28 := Aside0.mk A280
                            clear A280
                            by_cases c29 : (t654.length : Int) = 0
                            · rw [if_pos c29] at H
                              have c29b0 : ((t654.length : Int) == 0) = true := beq_iff_eq.mpr c29
                              have c29b1 : ((t654.length : Int) != 0) = false := bne_eq_false_iff_eq.mpr c29
                              clear c29
                              replace H := Option.bind_eq_some_iff.mp H
                              obtain ⟨t657, A300, H⟩ := H
                              replace H : (some ((t657.length : Int) == 0)) = some r := H
                              have A30 := Aside0.mk A300
                              clear A300
                              obtain rfl := Option.some.inj H
                              obtain ⟨Ao31, co31, eo31⟩ := Kd.R_slice HO_8.out
                              subst eo31
                              obtain ⟨Ao32, co32, eo32⟩ := Kd.R_slice HO_9.out
                              subst eo32
                              go_wp2_with (first | (go_at_call 16; (with_reducible refine (bond_Effective.calls _ _ x6_2 t654 _ ?side1 ?side2 A28.out).mono ?_); (case side1 => repeat (first | exact (Kd.R_reads' HO_6.out).2.2 | (with_reducible refine Kd.C_alloc ?_ _) | (with_reducible refine Kd.C_drewN ?_ _) | (with_reducible refine Kd.C_drew ?_))); (case side2 => exact (Kd.R_reads' HO_6.out).2.1); rintro e w33 ⟨v655, rfl, ho0, hb⟩; have n0_ := Aside0.mk (Kd.R_elder' (by (with_reducible repeat (first | apply Kd.R_alloc | apply Kd.R_drewN | apply Kd.R_drew)); exact HO_6.out) (Kd.R_base ho0) hb); have n1_ := Aside0.mk (Kd.R_below (by (with_reducible repeat (first | apply Kd.R_alloc | apply Kd.R_drewN | apply Kd.R_drew)); exact HO_8.out) hb); have n2_ := Aside0.mk (Kd.R_below (by (with_reducible repeat (first | apply Kd.R_alloc | apply Kd.R_drewN | apply Kd.R_drew)); exact HO_9.out) hb); have n3_ := Aside0.mk (Kd.R_lower (Kd.R_new' ho0 (Kd.R_lt (by (with_reducible repeat (first | apply Kd.R_alloc | apply Kd.R_drewN | apply Kd.R_drew)); exact HO_6.out))) (below_size (by repeat (first | (with_reducible first | exact HB.out | apply below_alloc | apply pw_below_drewN | apply below_drew1) | exact HB.out)))); have n4_ := Aside0.mk (below_step (by repeat (first | (with_reducible first | exact HB.out | apply below_alloc | apply pw_below_drewN | apply below_drew1) | exact HB.out)) hb); clear HO_6; clear HO_8; clear HO_9; clear HB; have HO_6 := n0_; have HO_8 := n1_; have HO_9 := n2_; have HO656 := n3_; have HB := n4_; clear n0_ n1_ n2_ n3_ n4_; (try clear hb); (try clear hb2); (try clear hk); (try clear hi); (try clear ho0); obtain ⟨Ao34, co34, eo34⟩ := Kd.R_slice HO656.out; subst eo34) | (go_at_call 18; (with_reducible refine (bond_Contradictions.calls _ _ l0 _ _ x6_2 t657 _ ?side1 ?side2 ?side3 ?side4 A30.out).mono ?_); (case side1 => repeat (first | exact (Kd.C_below HR0.out HB.out) | (with_reducible refine Kd.C_alloc ?_ _) | (with_reducible refine Kd.C_drewN ?_ _) | (with_reducible refine Kd.C_drew ?_))); (case side2 => exact HC0.out); (case side3 => repeat (first | exact (Kd.R_reads' HO_6.out).2.2 | (with_reducible refine Kd.C_alloc ?_ _) | (with_reducible refine Kd.C_drewN ?_ _) | (with_reducible refine Kd.C_drew ?_))); (case side4 => exact (Kd.R_reads' HO_6.out).2.1); rintro e w35 ⟨v658, rfl, ho0, hb⟩; have n0_ := Aside0.mk (Kd.R_below (by (with_reducible repeat (first | apply Kd.R_alloc | apply Kd.R_drewN | apply Kd.R_drew)); exact HO_6.out) hb); have n1_ := Aside0.mk (Kd.R_below (by (with_reducible repeat (first | apply Kd.R_alloc | apply Kd.R_drewN | apply Kd.R_drew)); exact HO_8.out) hb); have n2_ := Aside0.mk (Kd.R_elder' (by (with_reducible repeat (first | apply Kd.R_alloc | apply Kd.R_drewN | apply Kd.R_drew)); exact HO_9.out) (Kd.R_base ho0) hb); have n3_ := Aside0.mk (Kd.R_below (by (with_reducible repeat (first | apply Kd.R_alloc | apply Kd.R_drewN | apply Kd.R_drew)); exact HO656.out) hb); have n4_ := Aside0.mk (Kd.R_lower (Kd.R_new' ho0 (Kd.R_lt (by (with_reducible repeat (first | apply Kd.R_alloc | apply Kd.R_drewN | apply Kd.R_drew)); exact HO_9.out))) (below_size (by repeat (first | (with_reducible first | exact HB.out | apply below_alloc | apply pw_below_drewN | apply below_drew1) | exact HB.out)))); have n5_ := Aside0.mk (below_step (by repeat (first | (with_reducible first | exact HB.out | apply below_alloc | apply pw_below_drewN | apply below_drew1) | exact HB.out)) hb); clear HO_6; clear HO_8; clear HO_9; clear HO656; clear HB; have HO_6 := n0_; have HO_8 := n1_; have HO_9 := n2_; have HO656 := n3_; have HO659 := n4_; have HB := n5_; clear n0_ n1_ n2_ n3_ n4_ n5_; (try clear hb); (try clear hb2); (try clear hk); (try clear hi); (try clear ho0); obtain ⟨Ao36, co36, eo36⟩ := Kd.R_slice HO659.out; subst eo36))
                              go_ret
                              exact ⟨by first | rfl | (simp [errW_none, errW_some] <;> rfl) | (simp [*, errW_none, errW_some] <;> rfl), by repeat (first | (with_reducible first | exact HB.out | apply below_alloc | apply pw_below_drewN | apply below_drew1) | exact HB.out)⟩
                            · rw [if_neg c29] at H
                              have c29b0 : ((t654.length : Int) == 0) = false := beq_eq_false_iff_ne.mpr c29
                              have c29b1 : ((t654.length : Int) != 0) = true := bne_iff_ne.mpr c29
                              have c29b2 : ¬ (t654 = []) := fun h_ => c29 (by rw [h_]; rfl)
                              obtain rfl := Option.some.inj H
                              obtain ⟨Ao37, co37, eo37⟩ := Kd.R_slice HO_8.out
                              subst eo37
                              obtain ⟨Ao38, co38, eo38⟩ := Kd.R_slice HO_9.out
                              subst eo38
                              go_wp2_with (first | (go_at_call 16; (with_reducible refine (bond_Effective.calls _ _ x6_2 t654 _ ?side1 ?side2 A28.out).mono ?_); (case side1 => repeat (first | exact (Kd.R_reads' HO_6.out).2.2 | (with_reducible refine Kd.C_alloc ?_ _) | (with_reducible refine Kd.C_drewN ?_ _) | (with_reducible refine Kd.C_drew ?_))); (case side2 => exact (Kd.R_reads' HO_6.out).2.1); rintro e w39 ⟨v655, rfl, ho0, hb⟩; have n0_ := Aside0.mk (Kd.R_elder' (by (with_reducible repeat (first | apply Kd.R_alloc | apply Kd.R_drewN | apply Kd.R_drew)); exact HO_6.out) (Kd.R_base ho0) hb); have n1_ := Aside0.mk (Kd.R_below (by (with_reducible repeat (first | apply Kd.R_alloc | apply Kd.R_drewN | apply Kd.R_drew)); exact HO_8.out) hb); have n2_ := Aside0.mk (Kd.R_below (by (with_reducible repeat (first | apply Kd.R_alloc | apply Kd.R_drewN | apply Kd.R_drew)); exact HO_9.out) hb); have n3_ := Aside0.mk (Kd.R_lower (Kd.R_new' ho0 (Kd.R_lt (by (with_reducible repeat (first | apply Kd.R_alloc | apply Kd.R_drewN | apply Kd.R_drew)); exact HO_6.out))) (below_size (by repeat (first | (with_reducible first | exact HB.out | apply below_alloc | apply pw_below_drewN | apply below_drew1) | exact HB.out)))); have n4_ := Aside0.mk (below_step (by repeat (first | (with_reducible first | exact HB.out | apply below_alloc | apply pw_below_drewN | apply below_drew1) | exact HB.out)) hb); clear HO_6; clear HO_8; clear HO_9; clear HB; have HO_6 := n0_; have HO_8 := n1_; have HO_9 := n2_; have HO656 := n3_; have HB := n4_; clear n0_ n1_ n2_ n3_ n4_; (try clear hb); (try clear hb2); (try clear hk); (try clear hi); (try clear ho0); obtain ⟨Ao40, co40, eo40⟩ := Kd.R_slice HO656.out; subst eo40))
                              go_ret
                              exact ⟨by first | rfl | (simp [errW_none, errW_some] <;> rfl) | (simp [*, errW_none, errW_some] <;> rfl), by repeat (first | (with_reducible first | exact HB.out | apply below_alloc | apply pw_below_drewN | apply below_drew1) | exact HB.out)⟩
                          · rw [if_neg c27] at H
                            have c27b0 : ((t648.length : Int) == 0) = false := beq_eq_false_iff_ne.mpr c27
                            have c27b1 : ((t648.length : Int) != 0) = true := bne_iff_ne.mpr c27
                            have c27b2 : ¬ (t648 = []) := fun h_ => c27 (by rw [h_]; rfl)
                            obtain rfl := Option.some.inj H
                            obtain ⟨Ao41, co41, eo41⟩ := Kd.R_slice HO_8.out
                            subst eo41
                            obtain ⟨Ao42, co42, eo42⟩ := Kd.R_slice HO_9.out
                            subst eo42
                            go_wp2
                            go_ret
                            exact ⟨by first | rfl | (simp [errW_none, errW_some] <;> rfl) | (simp [*, errW_none, errW_some] <;> rfl), by repeat (first | (with_reducible first | exact HB.out | apply below_alloc | apply pw_below_drewN | apply below_drew1) | exact HB.out)⟩
                        · rw [if_neg c26] at H
                          have c26b0 : ((t647.length : Int) == (l0.length : Int)) = false := beq_eq_false_iff_ne.mpr c26
                          have c26b1 : ((t647.length : Int) != (l0.length : Int)) = true := bne_iff_ne.mpr c26
                          have c26b2 : (t647.length == l0.length) = false := by first | simpa using c26 | (simp at c26 ⊢; omega)
                          obtain rfl := Option.some.inj H
                          obtain ⟨Ao43, co43, eo43⟩ := Kd.R_slice HO_8.out
                          subst eo43
                          go_wp2
                          go_ret
                          exact ⟨by first | rfl | (simp [errW_none, errW_some] <;> rfl) | (simp [*, errW_none, errW_some] <;> rfl), by repeat (first | (with_reducible first | exact HB.out | apply below_alloc | apply pw_below_drewN | apply below_drew1) | exact HB.out)⟩
                      · replace c25 := Bool.eq_false_iff.mpr c25
                        subst c25
                        have H1 : (some false) = some r := by rw [if_neg (show ¬ (false = true) by decide)] at H; exact H
                        clear H
                        have H := H1
                        clear H1
                        obtain rfl := Option.some.inj H
                        obtain ⟨Ao44, co44, eo44⟩ := Kd.R_slice HO_8.out
                        subst eo44
                        go_wp2
                        go_ret
                        exact ⟨by first | rfl | (simp [errW_none, errW_some] <;> rfl) | (simp [*, errW_none, errW_some] <;> rfl), by repeat (first | (with_reducible first | exact HB.out | apply below_alloc | apply pw_below_drewN | apply below_drew1) | exact HB.out)⟩
        · rw [if_neg c8] at H
          exact absurd H (by simp)

end Go.Proofs.Ytocjknmojcgeiaa.Bd
