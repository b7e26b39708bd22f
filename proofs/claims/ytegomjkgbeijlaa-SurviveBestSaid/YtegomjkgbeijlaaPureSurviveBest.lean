/- SurviveBest in plain words: no cell that counts comes before the chosen one by the rule. -/
import Derived.Test.YtegomjkgbeijlaaHd
import Derived.Test.YtegomjkgbeijlaaTr
import Derived.Test.YtegomjkgbeijlaaStSurviveBest
namespace Go.Proofs.Ytegomjkgbeijlaa.Pure
set_option linter.unusedSimpArgs false
set_option linter.unusedSectionVars false
set_option linter.unnecessarySimpa false
open Go.RowKit Go.Proofs.Ytegomjkgbeijlaa.Sv Hand
open Go.Proofs.YtegomjkgbeijlaaW.PrintWords hiding Ev
set_option linter.unusedVariables false
theorem eqv2 {a b : S32} : (a.f0 == b.f0 && (a.f1 == b.f1 && a.f2.toList == b.f2.toList)) = true ↔ a = b := by
  simp only [Bool.and_eq_true, beq_iff_eq]
  exact ⟨fun ⟨h0, h1, h2⟩ => S32.ext' h0 h1 (toList_inj h2), fun e => by subst e; exact ⟨rfl, rfl, rfl⟩⟩
theorem count_loop (l : List S34) (v : S32) (h30 : l.length ≤ 30) (d : Nat) : ∀ (i : Nat) (n : Nat), i + d = l.length → n + d ≤ 1000 →
    Ev (fun k => cleanselaw23_count.l0 k l (n : Int) (i : Int) v.f0 v.f1 v.f2) (((n + ((l.drop i).filter (fun c => decide (c.f0 = v))).length : Nat)) : Int) := by
  induction d with
  | zero =>
    intro i n hi hn
    refine Ev.step (Ev.of fun k => ?_)
    rw [cleanselaw23_count.l0, if_neg (by omega), List.drop_of_length_le (by omega)]
    rfl
  | succ d ih =>
    intro i n hi hn
    have hlt : i < l.length := by omega
    have hw : wrap64 ((i : Int) + 1) = ((i + 1 : Nat) : Int) := by rw [wrap_up (by omega) (by omega)]; rfl
    have hw2 : wrap64 ((n : Int) + 1) = ((n + 1 : Nat) : Int) := by rw [wrap_up (by omega) (by omega)]; rfl
    rw [List.drop_eq_getElem_cons hlt]
    by_cases hv : l[i].f0 = v
    · rw [List.filter_cons_of_pos (by simpa using hv), List.length_cons]
      have h := ih (i + 1) (n + 1) (by omega) (by omega)
      rw [show n + 1 + ((l.drop (i + 1)).filter (fun c => decide (c.f0 = v))).length = n + (((l.drop (i + 1)).filter (fun c => decide (c.f0 = v))).length + 1) by omega] at h
      refine Ev.step (h.congr fun k => ?_)
      rw [cleanselaw23_count.l0, if_pos (by omega), if_pos (by omega), rd_at hlt, if_pos (eqv2.2 hv), hw, hw2]
    · rw [List.filter_cons_of_neg (by simpa using hv)]
      refine Ev.step ((ih (i + 1) n (by omega) (by omega)).congr fun k => ?_)
      rw [cleanselaw23_count.l0, if_pos (by omega), if_pos (by omega), rd_at hlt, if_neg (fun h => hv (eqv2.1 h)), hw]
theorem count_freq (l : List S34) (c : S34) (h30 : l.length ≤ 30) (hc : countsB c = true) : Ev (fun k => cleanselaw23_count.f k l c.f0.f0 c.f0.f1 c.f0.f2) (freq l c.f0 l.length) := by
  have h := count_loop l c.f0 h30 l.length 0 0 (by omega) (by omega)
  have e : (((0 + ((l.drop 0).filter (fun x => decide (x.f0 = c.f0))).length : Nat)) : Int) = freq l c.f0 l.length := by
    rw [freq_all, List.drop_zero, Nat.zero_add]
    congr 2
    refine List.filter_congr (fun x _ => ?_)
    by_cases hx : x.f0 = c.f0
    · have : countsB x = true := by unfold countsB at hc ⊢; rw [hx]; exact hc
      rw [this, Bool.true_and]
    · rw [decide_eq_false hx, Bool.and_false]
  rw [e] at h
  exact h
theorem rule_le {a : Int} {x y : S44} (h : cf a x y ≤ 0) : ruleC a x y ≤ 0 := by
  unfold cf at h
  rw [orL] at h
  by_cases h0 : ruleC a x y = 0
  · omega
  · rw [if_neg h0] at h; exact h
theorem best_l0 (a : Int) (l : List S34) (t : List Int) (x : Nat) (hx : x < l.length) (ht : l.length = t.length) (h30 : l.length ≤ 30) (hcx : countsB (rd_T34 l x) = true) (h1 : 1 ≤ a) (h6 : a ≤ 6)
    (hb : ∀ i : Nat, i < l.length → countsB (rd_T34 l i) = true → ruleC a (candAt l t x) (candAt l t i) ≤ 0) (d : Nat) : ∀ i : Nat, i + d = l.length → Ev (fun k => cleanselaw23_SurviveBest.l0 k a l t true (x : Int) true (i : Int)) true := by
  induction d with
  | zero =>
    intro i hi
    refine Ev.step (Ev.step (Ev.of fun k => ?_))
    rw [cleanselaw23_SurviveBest.l0, if_neg (by omega), cleanselaw23_SurviveBest.j3, if_neg (by decide)]
  | succ d ih =>
    intro i hi
    have hlt : i < l.length := by omega
    have hw : wrap64 ((i : Int) + 1) = ((i + 1 : Nat) : Int) := by rw [wrap_up (by omega) (by omega)]; rfl
    have hn := ih (i + 1) (by omega)
    have key : Ev (fun k => cleanselaw23_SurviveBest.j3 k a l t true (x : Int) true (i : Int) true) true := by
      by_cases hc : countsB (rd_T34 l i) = true
      · have hr := hb i hlt hc
        by_cases e1 : a = 1
        · have : ¬ (rd_T34 l i).f2 > (rd_T34 l x).f2 := by
            simp only [ruleC, e1, if_true] at hr
            have := cmpI_le.1 hr
            simp only [candAt] at this
            omega
          refine Ev.step (hn.congr fun k => ?_)
          rw [cleanselaw23_SurviveBest.j3, if_pos rfl, if_pos (by omega), if_pos (by omega), refCounts (rd_T34 l i), Option.bind_some, if_pos hc, if_neg (by omega), if_pos (by omega), if_pos (by omega), if_pos e1, if_neg this, hw]
        by_cases e2 : a = 2
        · obtain ⟨K1, g1⟩ := count_freq l (rd_T34 l i) h30 hc
          obtain ⟨K2, g2⟩ := count_freq l (rd_T34 l x) h30 hcx
          obtain ⟨K3, g3⟩ := hn
          dsimp only at g1 g2 g3
          have : ¬ freq l (rd_T34 l i).f0 l.length > freq l (rd_T34 l x).f0 l.length := by
            simp only [ruleC, e2] at hr
            have := cmpI_le.1 hr
            simp only [candAt] at this
            omega
          refine Ev.step ⟨max K1 (max K2 K3), fun k hk => ?_⟩
          show cleanselaw23_SurviveBest.j3 (k + 1) _ _ _ _ _ _ _ _ = _
          rw [cleanselaw23_SurviveBest.j3, if_pos rfl, if_pos (by omega), if_pos (by omega), refCounts (rd_T34 l i), Option.bind_some, if_pos hc, if_neg (by omega), if_pos (by omega), if_pos (by omega), if_neg e1, if_pos e2, g1 k (by omega), Option.bind_some, g2 k (by omega), Option.bind_some, if_neg this, hw]
          exact g3 k (by omega)
        by_cases e3 : a = 3
        · have : ¬ rd t i > rd t x := by
            simp only [ruleC, e3] at hr
            have := cmpI_le.1 hr
            simp only [candAt] at this
            omega
          refine Ev.step (hn.congr fun k => ?_)
          rw [cleanselaw23_SurviveBest.j3, if_pos rfl, if_pos (by omega), if_pos (by omega), refCounts (rd_T34 l i), Option.bind_some, if_pos hc, if_neg (by omega), if_pos (by omega), if_pos (by omega), if_neg e1, if_neg e2, if_pos e3, if_pos (by omega), if_pos (by omega), if_neg this, hw]
        by_cases e4 : a = 4
        · have : ¬ ((rd_T34 l i).f0.f2.size : Int) > ((rd_T34 l x).f0.f2.size : Int) := by
            simp only [ruleC, e4] at hr
            have := cmpI_le.1 hr
            simp only [candAt] at this
            omega
          refine Ev.step (hn.congr fun k => ?_)
          rw [cleanselaw23_SurviveBest.j3, if_pos rfl, if_pos (by omega), if_pos (by omega), refCounts (rd_T34 l i), Option.bind_some, if_pos hc, if_neg (by omega), if_pos (by omega), if_pos (by omega), if_neg e1, if_neg e2, if_neg e3, if_pos e4, if_neg this, hw]
        by_cases e5 : a = 5
        · have : ¬ cmpV (rd_T34 l i).f0 (rd_T34 l x).f0 < 0 := by
            simp only [ruleC, e5] at hr
            have h9 : cmpV (rd_T34 l x).f0 (rd_T34 l i).f0 ≤ 0 := hr
            have := cmpV_cmp.anti (rd_T34 l x).f0 (rd_T34 l i).f0
            omega
          refine Ev.step (hn.congr fun k => ?_)
          rw [cleanselaw23_SurviveBest.j3, if_pos rfl, if_pos (by omega), if_pos (by omega), refCounts (rd_T34 l i), Option.bind_some, if_pos hc, if_neg (by omega), if_pos (by omega), if_pos (by omega), if_neg e1, if_neg e2, if_neg e3, if_neg e4, if_pos e5, cmpV_f, Option.bind_some, if_neg this, hw]
        · have e6 : a = 6 := by omega
          have : ¬ cmpV (rd_T34 l i).f0 (rd_T34 l x).f0 > 0 := by
            simp only [ruleC, e6] at hr
            have h9 : cmpV (rd_T34 l i).f0 (rd_T34 l x).f0 ≤ 0 := hr
            omega
          refine Ev.step (hn.congr fun k => ?_)
          rw [cleanselaw23_SurviveBest.j3, if_pos rfl, if_pos (by omega), if_pos (by omega), refCounts (rd_T34 l i), Option.bind_some, if_pos hc, if_neg (by omega), if_pos (by omega), if_pos (by omega), if_neg e1, if_neg e2, if_neg e3, if_neg e4, if_neg e5, if_pos e6, cmpV_f, Option.bind_some, if_neg this, hw]
      · refine Ev.step (hn.congr fun k => ?_)
        rw [Bool.not_eq_true] at hc
        rw [cleanselaw23_SurviveBest.j3, if_pos rfl, if_pos (by omega), if_pos (by omega), refCounts (rd_T34 l i), Option.bind_some, hc, if_neg (by decide), hw]
    refine Ev.step (key.congr fun k => ?_)
    rw [cleanselaw23_SurviveBest.l0, if_pos (by omega)]
theorem best_none (a : Int) (l : List S34) (t : List Int) (right : Bool) (h30 : l.length ≤ 30) (hb : right = true → ∀ i : Nat, i < l.length → countsB (rd_T34 l i) = false) (d : Nat) :
    ∀ i : Nat, i + d = l.length → Ev (fun k => cleanselaw23_SurviveBest.l0 k a l t true (-1) right (i : Int)) true := by
  induction d with
  | zero =>
    intro i hi
    refine Ev.step (Ev.step (Ev.of fun k => ?_))
    rw [cleanselaw23_SurviveBest.l0, if_neg (by omega), cleanselaw23_SurviveBest.j3, if_neg (by decide)]
  | succ d ih =>
    intro i hi
    have hlt : i < l.length := by omega
    have hw : wrap64 ((i : Int) + 1) = ((i + 1 : Nat) : Int) := by rw [wrap_up (by omega) (by omega)]; rfl
    cases right with
    | false =>
      refine Ev.step (Ev.step (Ev.of fun k => ?_))
      rw [cleanselaw23_SurviveBest.l0, if_pos (by omega), cleanselaw23_SurviveBest.j3, if_neg (by decide)]
    | true =>
      refine Ev.step (Ev.step ((ih (i + 1) (by omega)).congr fun k => ?_))
      rw [cleanselaw23_SurviveBest.l0, if_pos (by omega), cleanselaw23_SurviveBest.j3, if_pos rfl, if_pos (by omega), if_pos (by omega), refCounts (rd_T34 l i), Option.bind_some, hb rfl i hlt, if_neg (by decide), hw]
theorem best_j0 (a : Int) (l : List S34) (t : List Int) (b : Bool) (hb : b = false → l.length ≤ 30) : Ev (fun k => cleanselaw23_SurviveBest.j0 k a l t true b) true := by
  cases b with
  | true => exact Ev.step (Ev.of fun k => rfl)
  | false =>
    have h30 := hb rfl
    have h1 : l.length ≤ 1000000 := by omega
    have e1 : survive_Choose.f a l t = some (chooseL (rankedA a l t)) := by show chooseO a l t = _; rw [chooseO, if_pos h1]
    cases hs : rankedA a l t with
    | nil =>
      rw [hs] at e1
      have hno : rightB a l t = true → ∀ i : Nat, i < l.length → countsB (rd_T34 l i) = false := by
        intro hr i hi
        cases hc : countsB (rd_T34 l i) with
        | false => rfl
        | true =>
          have hm : candAt l t i ∈ rankedA a l t := by
            unfold rankedA rankedL
            rw [if_pos hr, (sortC_perm a _).mem_iff, candsL_eqP]
            exact mem_candsP.2 ⟨i, hi, hc, rfl⟩
          rw [hs] at hm
          simp at hm
      refine Ev.step (Ev.step ((best_none a l t (rightB a l t) h30 hno l.length 0 (by omega)).congr fun k => ?_))
      rw [cleanselaw23_SurviveBest.j0, if_neg (by decide), e1, Option.bind_some, refRight, Option.bind_some]
      show (if (-1 : Int) < -1 then _ else _) = _
      rw [if_neg (by decide), if_neg (by show ¬ (-1 : Int) ≥ _; omega), if_neg (by decide), cleanselaw23_SurviveBest.j1, if_neg (by decide)]
      rfl
    | cons c r =>
      have hr : rightB a l t = true := by
        cases hh : rightB a l t with
        | true => rfl
        | false => unfold rankedA at hs; rw [hh] at hs; simp at hs
      have hr3 := hr
      simp [rightB] at hr3
      have hsL : rankedL a l t = c :: r := by unfold rankedA at hs; rw [if_pos hr] at hs; exact hs
      have hmem : c ∈ rankedL a l t := by rw [hsL]; exact List.mem_cons_self
      obtain ⟨x, hx, hcx, ec⟩ : ∃ i : Nat, i < l.length ∧ countsB (rd_T34 l i) = true ∧ c = candAt l t i := by
        have h := hmem
        unfold rankedL at h
        rw [(sortC_perm a _).mem_iff, candsL_eqP] at h
        exact mem_candsP.1 h
      have hbest : ∀ i : Nat, i < l.length → countsB (rd_T34 l i) = true → ruleC a (candAt l t x) (candAt l t i) ≤ 0 := by
        intro i hi hc
        refine rule_le ?_
        have hm : candAt l t i ∈ rankedL a l t := by
          unfold rankedL
          rw [(sortC_perm a _).mem_iff, candsL_eqP]
          exact mem_candsP.2 ⟨i, hi, hc, rfl⟩
        have hpw : (c :: r).Pairwise (fun x y => cf a x y ≤ 0) := by rw [← hsL]; exact sortC_sorted a _
        rw [hsL] at hm
        rw [← ec]
        rcases List.mem_cons.1 hm with e | hm
        · rw [e, (cf_cmp a).refl]; omega
        · exact (List.pairwise_cons.1 hpw).1 _ hm
      have hat : chooseL (c :: r) = (x : Int) := by show c.f1 = _; rw [ec]; rfl
      rw [hs, hat] at e1
      have hl := best_l0 a l t x hx hr3.2 h30 hcx hr3.1.1 hr3.1.2 hbest l.length 0 (by omega)
      refine Ev.step (Ev.step (hl.congr fun k => ?_))
      rw [cleanselaw23_SurviveBest.j0, if_neg (by decide), e1, Option.bind_some, refRight, Option.bind_some, hr, if_neg (by omega), if_neg (by omega), if_pos (by omega), if_pos rfl, if_pos (by omega), if_pos (by omega), refCounts (rd_T34 l x), Option.bind_some, hcx, cleanselaw23_SurviveBest.j1, if_neg (by decide)]
      rfl
theorem SurviveBest : SurviveBest_pure := by
  intro a l t _ hl _ ht _
  obtain ⟨K1, g1⟩ := head_ev
  obtain ⟨K2, g2⟩ := refFew l 30 hl
  dsimp only at g1 g2
  by_cases hf : fewB l 30 = true
  · have h30 : l.length ≤ 30 := by
      simp only [fewB, Bool.and_eq_true, decide_eq_true_eq] at hf
      omega
    obtain ⟨K3, g3⟩ := best_j0 a l t (decide ((t.length : Int) > 40)) (fun _ => h30)
    dsimp only at g3
    refine ⟨max K1 (max K2 K3), ?_⟩
    rw [cleanselaw23_SurviveBest.f, g1 _ (by omega), Option.bind_some, g2 _ (by omega), Option.bind_some, if_pos hf]
    exact g3 _ (by omega)
  · obtain ⟨K3, g3⟩ := best_j0 a l t true (fun h => by cases h)
    dsimp only at g3
    refine ⟨max K1 (max K2 K3), ?_⟩
    rw [cleanselaw23_SurviveBest.f, g1 _ (by omega), Option.bind_some, g2 _ (by omega), Option.bind_some, if_neg hf]
    exact g3 _ (by omega)
end Go.Proofs.Ytegomjkgbeijlaa.Pure
