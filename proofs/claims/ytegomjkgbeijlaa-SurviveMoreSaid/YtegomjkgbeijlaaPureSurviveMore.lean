/- SurviveMore in plain words: with one cell more, the chosen value is that of before or that of this cell. -/
import Derived.Test.YtegomjkgbeijlaaHd
import Derived.Test.YtegomjkgbeijlaaTr
import Derived.Test.YtegomjkgbeijlaaStSurviveMore
namespace Go.Proofs.Ytegomjkgbeijlaa.Pure
set_option linter.unusedSimpArgs false
set_option linter.unusedSectionVars false
set_option linter.unnecessarySimpa false
open Go.RowKit Go.Proofs.Ytegomjkgbeijlaa.Sv Hand
open Go.Proofs.YtegomjkgbeijlaaW.PrintWords hiding Ev
set_option linter.unusedVariables false
theorem eqv3 {a b : S32} : (a.f0 == b.f0 && (a.f1 == b.f1 && a.f2.toList == b.f2.toList)) = true ↔ a = b := by
  simp only [Bool.and_eq_true, beq_iff_eq]
  exact ⟨fun ⟨h0, h1, h2⟩ => S32.ext' h0 h1 (toList_inj h2), fun e => by subst e; exact ⟨rfl, rfl, rfl⟩⟩
/-- What Choose answers: no cell counts; or a cell that counts and comes before all others that count. -/
theorem choose_cases {a : Int} {l : List S34} {t : List Int} (hr : rightB a l t = true) :
    (chooseL (rankedA a l t) = -1 ∧ ∀ i : Nat, i < l.length → countsB (rd_T34 l i) = false) ∨
    ∃ x : Nat, x < l.length ∧ countsB (rd_T34 l x) = true ∧ chooseL (rankedA a l t) = (x : Int) ∧ ∀ i : Nat, i < l.length → countsB (rd_T34 l i) = true → cf a (candAt l t x) (candAt l t i) ≤ 0 := by
  have hm : ∀ i : Nat, i < l.length → countsB (rd_T34 l i) = true → candAt l t i ∈ rankedL a l t := by
    intro i hi hc
    unfold rankedL
    rw [(sortC_perm a _).mem_iff, candsL_eqP]
    exact mem_candsP.2 ⟨i, hi, hc, rfl⟩
  have e : rankedA a l t = rankedL a l t := by unfold rankedA; rw [if_pos hr]
  rw [e]
  cases hs : rankedL a l t with
  | nil =>
    refine .inl ⟨rfl, fun i hi => ?_⟩
    cases hc : countsB (rd_T34 l i) with
    | false => rfl
    | true =>
      have := hm i hi hc
      rw [hs] at this
      simp at this
  | cons c r =>
    have hmem : c ∈ rankedL a l t := by rw [hs]; exact List.mem_cons_self
    unfold rankedL at hmem
    rw [(sortC_perm a _).mem_iff, candsL_eqP] at hmem
    obtain ⟨x, hx, hcx, ec⟩ := mem_candsP.1 hmem
    refine .inr ⟨x, hx, hcx, by show c.f1 = _; rw [ec]; rfl, fun i hi hc => ?_⟩
    have hmi := hm i hi hc
    have hpw : (c :: r).Pairwise (fun x y => cf a x y ≤ 0) := by rw [← hs]; exact sortC_sorted a _
    rw [hs] at hmi
    rw [← ec]
    rcases List.mem_cons.1 hmi with e | hmi
    · rw [e, (cf_cmp a).refl]; omega
    · exact (List.pairwise_cons.1 hpw).1 _ hmi
theorem cf_mono {a : Int} (x y : S44) (m : Int) (hm : x.f3 ≤ m) (h : cf a x y ≤ 0) : cf a ⟨x.f0, x.f1, x.f2, m⟩ y ≤ 0 := by
  rcases Int.lt_or_eq_of_le hm with hm | rfl
  · by_cases h2 : a = 2
    · have hr : ruleC a x y ≤ 0 := by
        unfold cf at h
        rw [orL] at h
        by_cases h0 : ruleC a x y = 0
        · omega
        · rw [if_neg h0] at h; exact h
      simp only [ruleC, h2] at hr
      have h3 : y.f3 ≤ x.f3 := cmpI_le.1 hr
      have h4 : ruleC a ⟨x.f0, x.f1, x.f2, m⟩ y < 0 := by
        simp only [ruleC, h2]
        exact cmpI_lt.2 (show y.f3 < m by omega)
      unfold cf
      rw [orL, if_neg (by omega)]
      omega
    · have h4 : ruleC a ⟨x.f0, x.f1, x.f2, m⟩ y = ruleC a x y := by
        unfold ruleC
        simp only [h2, if_false]
      unfold cf at h ⊢
      rw [h4]
      exact h
  · exact h
theorem freq_more (l : List S34) (x : S34) (v : S32) : freq (l ++ [x]) v (l ++ [x]).length = freq l v l.length + (if countsB x = true ∧ x.f0 = v then 1 else 0) := by
  rw [freq_all, freq_all, List.filter_append, List.length_append]
  by_cases h : countsB x = true ∧ x.f0 = v
  · rw [if_pos h, List.filter_cons_of_pos (by rw [h.1, decide_eq_true h.2]; rfl)]
    simp
  · rw [if_neg h, List.filter_cons_of_neg (by simpa using h)]
    simp
theorem rd_more (l : List S34) (x : S34) {i : Nat} (h : i < l.length) : rd_T34 (l ++ [x]) (i : Int) = rd_T34 l i := by
  rw [rd_at (by rw [List.length_append]; omega), rd_at h, List.getElem_append_left h]
theorem rd_last (l : List S34) (x : S34) : rd_T34 (l ++ [x]) (l.length : Int) = x := by
  rw [rd_at (by simp)]
  simp
theorem more_cand (l : List S34) (t : List Int) (x : S34) (n : Int) (ht : l.length = t.length) {i : Nat} (h : i < l.length) : candAt (l ++ [x]) (t ++ [n]) i = ⟨rd_T34 l i, i, rd t i, freq l (rd_T34 l i).f0 l.length + (if countsB x = true ∧ x.f0 = (rd_T34 l i).f0 then 1 else 0)⟩ := by
  have h2 : rd (t ++ [n]) (i : Int) = rd t i := by
    rw [rdI_at (by rw [List.length_append]; omega), rdI_at (by omega), List.getElem_append_left (by omega)]
  unfold candAt
  rw [rd_more l x h, freq_more, h2]
theorem more_choose {a : Int} {l : List S34} {t : List Int} (x : S34) (n : Int) (ht : l.length = t.length) (b : Nat) (hb : chooseL (rankedA a (l ++ [x]) (t ++ [n])) = (b : Int)) :
    b < l.length + 1 ∧ ((rd_T34 (l ++ [x]) b).f0 = x.f0 ∨ ∃ p : Nat, p < l.length ∧ chooseL (rankedA a l t) = (p : Int) ∧ (rd_T34 (l ++ [x]) b).f0 = (rd_T34 l p).f0) := by
  have hr : rightB a (l ++ [x]) (t ++ [n]) = true := by
    cases h : rightB a (l ++ [x]) (t ++ [n]) with
    | true => rfl
    | false =>
      unfold rankedA at hb
      rw [h] at hb
      have : (-1 : Int) = (b : Int) := hb
      omega
  have hr' : rightB a l t = true := by
    unfold rightB at hr ⊢
    rw [decide_eq_true ht]
    simp only [Bool.and_eq_true] at hr ⊢
    exact ⟨hr.1, trivial⟩
  rcases choose_cases hr with ⟨h1, _⟩ | ⟨y, hy, hcy, h1, hbest⟩
  · omega
  · have : y = b := by omega
    subst this
    rw [List.length_append, List.length_singleton] at hy
    refine ⟨hy, ?_⟩
    by_cases hlast : y = l.length
    · subst hlast
      left
      rw [rd_last]
    · have hyl : y < l.length := by omega
      rw [rd_more l x hyl] at hcy ⊢
      by_cases hv : (rd_T34 l y).f0 = x.f0
      · exact .inl hv
      · right
        rcases choose_cases hr' with ⟨_, h2⟩ | ⟨p, hp, hcp, h2, hbest2⟩
        · rw [h2 y hyl] at hcy; cases hcy
        · refine ⟨p, hp, h2, ?_⟩
          have e1 := hbest p (by rw [List.length_append]; omega) (by rw [rd_more l x hp]; exact hcp)
          have e2 := hbest2 y hyl hcy
          rw [more_cand l t x n ht hp, more_cand l t x n ht hyl] at e1
          rw [if_neg (fun h => hv h.2.symm), Int.add_zero] at e1
          have e3 := cf_mono (candAt l t p) (candAt l t y) (freq l (rd_T34 l p).f0 l.length + (if countsB x = true ∧ x.f0 = (rd_T34 l p).f0 then 1 else 0)) (by
            show freq l (rd_T34 l p).f0 l.length ≤ _
            split <;> omega) e2
          have e4 : cf a (candAt l t y) (⟨rd_T34 l p, p, rd t p, freq l (rd_T34 l p).f0 l.length + (if countsB x = true ∧ x.f0 = (rd_T34 l p).f0 then 1 else 0)⟩ : S44) ≤ 0 := e1
          have e5 : cf a (⟨rd_T34 l p, p, rd t p, freq l (rd_T34 l p).f0 l.length + (if countsB x = true ∧ x.f0 = (rd_T34 l p).f0 then 1 else 0)⟩ : S44) (candAt l t y) ≤ 0 := e3
          have e6 := (cf_cmp a).anti (candAt l t y) (⟨rd_T34 l p, p, rd t p, freq l (rd_T34 l p).f0 l.length + (if countsB x = true ∧ x.f0 = (rd_T34 l p).f0 then 1 else 0)⟩ : S44)
          have e7 : ((y : Nat) : Int) = ((p : Nat) : Int) := cf_zero (by_ := a) (x := candAt l t y) (y := (⟨rd_T34 l p, p, rd t p, freq l (rd_T34 l p).f0 l.length + (if countsB x = true ∧ x.f0 = (rd_T34 l p).f0 then 1 else 0)⟩ : S44)) (by omega)
          have e8 : y = p := by omega
          rw [e8]
theorem more_none {a : Int} {l : List S34} {t : List Int} (x : S34) (n : Int) (ht : l.length = t.length) (hb : chooseL (rankedA a (l ++ [x]) (t ++ [n])) < 0) : chooseL (rankedA a l t) = -1 := by
  by_cases hr' : rightB a l t = true
  · have hr : rightB a (l ++ [x]) (t ++ [n]) = true := by
      unfold rightB at hr' ⊢
      rw [decide_eq_true (show (l ++ [x]).length = (t ++ [n]).length by simp [ht])]
      simp only [Bool.and_eq_true] at hr' ⊢
      exact ⟨hr'.1, trivial⟩
    rcases choose_cases hr with ⟨h1, hno⟩ | ⟨y, hy, hcy, h1, _⟩
    · rcases choose_cases hr' with ⟨h2, _⟩ | ⟨p, hp, hcp, h2, _⟩
      · exact h2
      · have := hno p (by rw [List.length_append]; omega)
        rw [rd_more l x hp, hcp] at this
        cases this
    · omega
  · unfold rankedA
    rw [if_neg hr']
    rfl
theorem more_j0 (a : Int) (l : List S34) (t : List Int) (x : S34) (n : Int) (b : Bool) (hb : b = false → l.length ≤ 30 ∧ l.length = t.length) :
    Ev (fun k => cleanselaw23_SurviveMore.j0 k a l t n true b x.f0.f0 x.f0.f1 x.f0.f2 x.f1 x.f2) true := by
  cases b with
  | true => exact Ev.step (Ev.of fun k => rfl)
  | false =>
    obtain ⟨h30, ht⟩ := hb rfl
    have e1 : survive_Choose.f a l t = some (chooseL (rankedA a l t)) := by show chooseO a l t = _; rw [chooseO, if_pos (by omega)]
    have e2 : survive_Choose.f a (l ++ [x]) (t ++ [n]) = some (chooseL (rankedA a (l ++ [x]) (t ++ [n]))) := by show chooseO a _ _ = _; rw [chooseO, if_pos (by rw [List.length_append, List.length_singleton]; omega)]
    have hx : (⟨(⟨x.f0.f0, x.f0.f1, x.f0.f2⟩ : S32), x.f1, x.f2⟩ : S34) = x := rfl
    refine Ev.step (Ev.of fun k => ?_)
    rw [cleanselaw23_SurviveMore.j0, if_neg (by decide)]
    simp only [Option.bind_some, List.nil_append, hx]
    rw [if_pos (by rw [List.length_nil]; omega), if_pos (by rw [List.length_singleton]; omega), if_pos (by rw [List.length_nil]; omega), if_pos (by rw [List.length_singleton]; omega), e1, e2]
    simp only [Option.bind_some]
    have hn : ∀ z : Int, z = chooseL (rankedA a (l ++ [x]) (t ++ [n])) → (if z < 0 then (if True then some (chooseL (rankedA a l t) == (-1)) else some false) else some true) = some true := by
      intro z hz
      by_cases h : z < 0
      · rw [if_pos h, if_pos trivial, more_none x n ht (by omega)]
        rfl
      · rw [if_neg h]
    by_cases hneg : chooseL (rankedA a (l ++ [x]) (t ++ [n])) < 0
    · rw [if_pos hneg, if_pos trivial, more_none x n ht hneg]
      rfl
    · obtain ⟨y, hy⟩ : ∃ y : Nat, chooseL (rankedA a (l ++ [x]) (t ++ [n])) = (y : Int) := ⟨(chooseL (rankedA a (l ++ [x]) (t ++ [n]))).toNat, by omega⟩
      obtain ⟨h1, h2⟩ := more_choose x n ht y hy
      rw [hy, if_neg (by omega), if_pos trivial, if_pos (by rw [List.length_append, List.length_singleton]; omega), if_pos (by omega)]
      by_cases hv : (rd_T34 (l ++ [x]) y).f0 = x.f0
      · rw [if_pos (eqv3.2 hv)]
      · rcases h2 with h2 | ⟨p, hp, h3, h4⟩
        · exact absurd h2 hv
        · rw [if_neg (fun h => hv (eqv3.1 h)), h3, if_pos (by omega), if_pos (by omega), if_pos (by omega), eqv3.2 h4]
theorem SurviveMore : SurviveMore_pure := by
  intro a l t x n _ hl _ ht _ hx hn
  obtain ⟨K1, g1⟩ := head_ev
  obtain ⟨K2, g2⟩ := refFew l 30 hl
  obtain ⟨K4, g4⟩ := refFew [x] 1 (by show 1 ≤ maxLen; unfold maxLen; omega)
  dsimp only at g1 g2 g4
  have hx' : ([(⟨(⟨x.f0.f0, x.f0.f1, x.f0.f2⟩ : S32), x.f1, x.f2⟩ : S34)] : List S34) = [x] := rfl
  by_cases hf : fewB l 30 = true
  · have h30 : l.length ≤ 30 := by
      simp only [fewB, Bool.and_eq_true, decide_eq_true_eq] at hf
      omega
    by_cases hf2 : fewB [x] 1 = true
    · obtain ⟨K3, g3⟩ := more_j0 a l t x n ((t.length : Int) != (l.length : Int)) (fun h => ⟨h30, by simp at h; omega⟩)
      dsimp only at g3
      refine ⟨max K1 (max K2 (max K3 K4)), ?_⟩
      rw [cleanselaw23_SurviveMore.f, g1 _ (by omega), Option.bind_some, g2 _ (by omega), Option.bind_some, if_pos hf, hx', g4 _ (by omega), Option.bind_some, if_pos hf2]
      exact g3 _ (by omega)
    · obtain ⟨K3, g3⟩ := more_j0 a l t x n true (fun h => by cases h)
      dsimp only at g3
      refine ⟨max K1 (max K2 (max K3 K4)), ?_⟩
      rw [cleanselaw23_SurviveMore.f, g1 _ (by omega), Option.bind_some, g2 _ (by omega), Option.bind_some, if_pos hf, hx', g4 _ (by omega), Option.bind_some, if_neg hf2]
      exact g3 _ (by omega)
  · obtain ⟨K3, g3⟩ := more_j0 a l t x n true (fun h => by cases h)
    dsimp only at g3
    refine ⟨max K1 (max K2 K3), ?_⟩
    rw [cleanselaw23_SurviveMore.f, g1 _ (by omega), Option.bind_some, g2 _ (by omega), Option.bind_some, if_neg hf]
    exact g3 _ (by omega)
end Go.Proofs.Ytegomjkgbeijlaa.Pure
