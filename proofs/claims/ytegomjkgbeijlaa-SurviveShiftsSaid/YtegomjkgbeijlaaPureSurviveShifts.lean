/- SurviveShifts in plain words: ranks moved by one number and trusts by another leave the answers. -/
import Derived.Test.YtegomjkgbeijlaaHd
import Derived.Test.YtegomjkgbeijlaaTr
import Derived.Test.YtegomjkgbeijlaaStSurviveShifts
namespace Go.Proofs.Ytegomjkgbeijlaa.Pure
set_option linter.unusedSimpArgs false
set_option linter.unusedSectionVars false
set_option linter.unnecessarySimpa false
open Go.RowKit Go.Proofs.Ytegomjkgbeijlaa.Sv Hand
open Go.Proofs.YtegomjkgbeijlaaW.PrintWords hiding Ev
set_option linter.unusedVariables false
theorem shifts_end (a : Int) (l : List S34) (t : List Int) (p q : Int) (hp : -1000000000 ≤ p ∧ p ≤ 1000000000) (hq : -1000000000 ≤ q ∧ q ≤ 1000000000) (ht : l.length = t.length) (h30 : l.length ≤ 30)
    (hl : ∀ c ∈ l, -1000000000 ≤ c.f2 ∧ c.f2 ≤ 1000000000) (htr : ∀ n ∈ t, -1000000000 ≤ n ∧ n ≤ 1000000000) : Ev (fun k => cleanselaw23_SurviveShifts.l0 k a l t p q true (l.map (shC q)) (t.map (shI p)) l.length) true := by
  have h1 : l.length ≤ 1000000 := by omega
  have h2 : (l.map (shC q)).length ≤ 1000000 := by rw [List.length_map]; omega
  have hs := sh_same (by_ := a) hp hq ht hl htr
  have e1 : survive_Choose.f a l t = some (chooseL (rankedA a l t)) := by show chooseO a l t = _; rw [chooseO, if_pos h1]
  have e2 : survive_Choose.f a (l.map (shC q)) (t.map (shI p)) = some (chooseL (rankedA a l t)) := by show chooseO a _ _ = _; rw [chooseO, if_pos h2, hs, sh_choose]
  have e3 : survive_Others.f a l t = some (outs (rankedA a l t) (rankedA a l t).length) := by show othersO a l t = _; rw [othersO, if_pos h1]
  have e4 : survive_Others.f a (l.map (shC q)) (t.map (shI p)) = some (outs (rankedA a l t) (rankedA a l t).length) := by show othersO a _ _ = _; rw [othersO, if_pos h2, hs, sh_outs]
  have ho : (outs (rankedA a l t) (rankedA a l t).length).length ≤ 2000000 := by
    rw [outs_all, List.length_map, List.length_drop]
    have h3 : (firsts (rankedA a l t)).length ≤ (rankedA a l t).length := firstsG_len _ _
    have h4 := ranked_len a l t
    omega
  obtain ⟨K, g⟩ := refInts _ ho
  dsimp only at g
  refine ⟨K + 1, fun k hk => ?_⟩
  obtain ⟨m, rfl⟩ : ∃ m, k = m + 1 := ⟨k - 1, by omega⟩
  show cleanselaw23_SurviveShifts.l0 (m + 1) a l t p q true (l.map (shC q)) (t.map (shI p)) l.length = _
  rw [cleanselaw23_SurviveShifts.l0, if_neg (by rw [List.length_map]; omega), if_pos rfl, e1, Option.bind_some, e2, Option.bind_some, if_pos rfl, e3, Option.bind_some, e4, Option.bind_some, g m (by omega), Option.bind_some]
theorem shifts_loop (a : Int) (l : List S34) (t : List Int) (p q : Int) (hp : -1000000000 ≤ p ∧ p ≤ 1000000000) (hq : -1000000000 ≤ q ∧ q ≤ 1000000000) (ht : l.length = t.length) (h30 : l.length ≤ 30) (d : Nat) :
    ∀ i : Nat, i + d = l.length → (∀ c ∈ l.take i, -1000000000 ≤ c.f2 ∧ c.f2 ≤ 1000000000) → (∀ n ∈ t.take i, -1000000000 ≤ n ∧ n ≤ 1000000000) →
    Ev (fun k => cleanselaw23_SurviveShifts.l0 k a l t p q true ((l.take i).map (shC q) ++ l.drop i) ((t.take i).map (shI p) ++ t.drop i) i) true := by
  induction d with
  | zero =>
    intro i hi hl htr
    have e : i = l.length := by omega
    have e2 : i = t.length := by omega
    have h := shifts_end a l t p q hp hq ht h30 (by rw [e, List.take_length] at hl; exact hl) (by rw [e2, List.take_length] at htr; exact htr)
    rw [List.drop_of_length_le (by omega), List.drop_of_length_le (by omega), List.take_of_length_le (by omega), List.take_of_length_le (by omega), List.append_nil, List.append_nil, e]
    exact h
  | succ d ih =>
    intro i hi hl htr
    have hlt : i < l.length := by omega
    have hlt2 : i < t.length := by omega
    have hw : wrap64 ((i : Int) + 1) = ((i + 1 : Nat) : Int) := by rw [wrap_up (by omega) (by omega)]; rfl
    have n1 := len_mid (shC q) l i (by omega)
    have n2 := len_mid (shI p) t i (by omega)
    have r1 : rd_T34 ((l.take i).map (shC q) ++ l.drop i) (i : Int) = l[i] := by rw [rd_at (by omega)]; exact get_mid (shC q) l i hlt
    have r2 : rd ((t.take i).map (shI p) ++ t.drop i) (i : Int) = t[i] := by rw [rdI_at (by omega)]; exact get_mid (shI p) t i hlt2
    have step : ∀ k, cleanselaw23_SurviveShifts.l0 (k + 1) a l t p q true ((l.take i).map (shC q) ++ l.drop i) ((t.take i).map (shI p) ++ t.drop i) i = if l[i].f2 > 1000000000 then some true else if l[i].f2 < -1000000000 then some true else if t[i] > 1000000000 then some true else if t[i] < -1000000000 then some true else cleanselaw23_SurviveShifts.l0 k a l t p q true ((l.take (i + 1)).map (shC q) ++ l.drop (i + 1)) ((t.take (i + 1)).map (shI p) ++ t.drop (i + 1)) ((i + 1 : Nat) : Int) := by
      intro k
      rw [cleanselaw23_SurviveShifts.l0, if_pos (by omega), if_pos (by omega), r1, r2, if_pos (by omega : (i : Int) < _), hw, ← set_mid (shC q) l i hlt, ← set_mid (shI p) t i hlt2]
      rfl
    refine Ev.step ?_
    by_cases c1 : l[i].f2 > 1000000000
    · exact Ev.of fun k => by rw [step, if_pos c1]
    · by_cases c2 : l[i].f2 < -1000000000
      · exact Ev.of fun k => by rw [step, if_neg c1, if_pos c2]
      · by_cases c3 : t[i] > 1000000000
        · exact Ev.of fun k => by rw [step, if_neg c1, if_neg c2, if_pos c3]
        · by_cases c4 : t[i] < -1000000000
          · exact Ev.of fun k => by rw [step, if_neg c1, if_neg c2, if_neg c3, if_pos c4]
          · refine (ih (i + 1) (by omega) ?_ ?_).congr fun k => by rw [step, if_neg c1, if_neg c2, if_neg c3, if_neg c4]
            · intro c hc
              rw [List.take_succ_eq_append_getElem hlt] at hc
              rcases List.mem_append.1 hc with hc | hc
              · exact hl c hc
              · rw [List.mem_singleton.1 hc]; omega
            · intro c hc
              rw [List.take_succ_eq_append_getElem hlt2] at hc
              rcases List.mem_append.1 hc with hc | hc
              · exact htr c hc
              · rw [List.mem_singleton.1 hc]; omega
theorem shifts_j0 (a : Int) (l : List S34) (t : List Int) (p q : Int) (b : Bool) (hb : b = false → (-1000000000 ≤ p ∧ p ≤ 1000000000) ∧ (-1000000000 ≤ q ∧ q ≤ 1000000000) ∧ l.length = t.length ∧ l.length ≤ 30) : Ev (fun k => cleanselaw23_SurviveShifts.j0 k a l t p q true b) true := by
  cases b with
  | true => exact Ev.step (Ev.of fun k => rfl)
  | false =>
    obtain ⟨hp, hq, ht, h30⟩ := hb rfl
    refine Ev.step ((shifts_loop a l t p q hp hq ht h30 l.length 0 (by omega) (by simp) (by simp)).congr fun k => ?_)
    rw [cleanselaw23_SurviveShifts.j0, if_neg (by decide), Option.bind_some, if_pos (by rw [List.length_nil]; omega), Option.bind_some, if_pos (by rw [List.length_nil]; omega)]
    rfl
theorem SurviveShifts : SurviveShifts_pure := by
  intro a l t p q _ hl _ ht _ _ _
  obtain ⟨K1, g1⟩ := head_ev
  obtain ⟨K2, g2⟩ := refFew l 30 hl
  dsimp only at g1 g2
  obtain ⟨K4, g4⟩ := shifts_j0 a l t p q true (fun h => by cases h)
  dsimp only at g4
  by_cases hf : fewB l 30 = true
  · have h30 : l.length ≤ 30 := by
      simp only [fewB, Bool.and_eq_true, decide_eq_true_eq] at hf
      omega
    by_cases c1 : (t.length : Int) = (l.length : Int)
    · by_cases c2 : p > 1000000000
      · refine ⟨max K1 (max K2 K4), ?_⟩
        rw [cleanselaw23_SurviveShifts.f, g1 _ (by omega), Option.bind_some, g2 _ (by omega), Option.bind_some, if_pos hf, if_pos c1, if_pos c2]
        exact g4 _ (by omega)
      · by_cases c3 : p < -1000000000
        · refine ⟨max K1 (max K2 K4), ?_⟩
          rw [cleanselaw23_SurviveShifts.f, g1 _ (by omega), Option.bind_some, g2 _ (by omega), Option.bind_some, if_pos hf, if_pos c1, if_neg c2, if_pos c3]
          exact g4 _ (by omega)
        · by_cases c4 : q > 1000000000
          · refine ⟨max K1 (max K2 K4), ?_⟩
            rw [cleanselaw23_SurviveShifts.f, g1 _ (by omega), Option.bind_some, g2 _ (by omega), Option.bind_some, if_pos hf, if_pos c1, if_neg c2, if_neg c3, if_pos c4]
            exact g4 _ (by omega)
          · obtain ⟨K3, g3⟩ := shifts_j0 a l t p q (decide (q < -1000000000)) (fun h => ⟨by omega, by have := of_decide_eq_false h; omega, by omega, h30⟩)
            dsimp only at g3
            refine ⟨max K1 (max K2 K3), ?_⟩
            rw [cleanselaw23_SurviveShifts.f, g1 _ (by omega), Option.bind_some, g2 _ (by omega), Option.bind_some, if_pos hf, if_pos c1, if_neg c2, if_neg c3, if_neg c4]
            exact g3 _ (by omega)
    · refine ⟨max K1 (max K2 K4), ?_⟩
      rw [cleanselaw23_SurviveShifts.f, g1 _ (by omega), Option.bind_some, g2 _ (by omega), Option.bind_some, if_pos hf, if_neg c1]
      exact g4 _ (by omega)
  · refine ⟨max K1 (max K2 K4), ?_⟩
    rw [cleanselaw23_SurviveShifts.f, g1 _ (by omega), Option.bind_some, g2 _ (by omega), Option.bind_some, if_neg hf]
    exact g4 _ (by omega)
end Go.Proofs.Ytegomjkgbeijlaa.Pure
