/- SurviveNothing in plain words: cells that do not count, and their trusts, may as well not be there. -/
import Derived.Test.YtegomjkgbeijlaaHd
import Derived.Test.YtegomjkgbeijlaaTr
import Derived.Test.YtegomjkgbeijlaaStSurviveNothing
namespace Go.Proofs.Ytegomjkgbeijlaa.Pure
set_option linter.unusedSimpArgs false
set_option linter.unusedSectionVars false
set_option linter.unnecessarySimpa false
open Go.RowKit Go.Proofs.Ytegomjkgbeijlaa.Sv Hand
open Go.Proofs.YtegomjkgbeijlaaW.PrintWords hiding Ev
set_option linter.unusedVariables false
theorem firstsG_sub : ∀ (s : List S44) (seen : List S32), ∀ x ∈ firstsG seen s, x ∈ s
  | [], _ => by simp [firstsG]
  | y :: r, seen => by
    intro x hx
    unfold firstsG at hx
    by_cases h : val y ∈ seen
    · rw [if_pos h] at hx
      exact List.mem_cons_of_mem _ (firstsG_sub r seen x hx)
    · rw [if_neg h] at hx
      rcases List.mem_cons.1 hx with e | hx
      · rw [e]; exact List.mem_cons_self
      · exact List.mem_cons_of_mem _ (firstsG_sub r _ x hx)
/-- The answers of the two calls, cell by cell. -/
def okPair (A : List Int) (x y : Int) : Prop := y < (A.length : Int) ∧ (y < 0 → x = -1) ∧ (0 ≤ y → x = rd A y)
theorem nothing_l1 (A X Y : List Int) (hl : X.length = Y.length) (h30 : X.length ≤ 1000) (hp : ∀ j : Nat, j < X.length → okPair A (rd X j) (rd Y j)) (d : Nat) : ∀ j : Nat, j + d = X.length → Ev (fun k => cleanselaw23_SurviveNothing.l1 k true A X Y j) true := by
  induction d with
  | zero =>
    intro j hj
    refine Ev.step (Ev.of fun k => ?_)
    rw [cleanselaw23_SurviveNothing.l1, if_neg (by omega)]
  | succ d ih =>
    intro j hj
    have hw : wrap64 ((j : Int) + 1) = ((j + 1 : Nat) : Int) := by rw [wrap_up (by omega) (by omega)]; rfl
    obtain ⟨h1, h2, h3⟩ := hp j (by omega)
    refine Ev.step ((ih (j + 1) (by omega)).congr fun k => ?_)
    rw [cleanselaw23_SurviveNothing.l1, if_pos (by omega), if_pos (by omega), if_pos (by omega), if_neg (by omega), hw]
    by_cases hn : rd Y j < 0
    · rw [if_pos hn, if_pos (h2 hn), if_neg (by omega)]
    · rw [if_neg hn, if_pos (by omega), if_pos (by omega), if_pos (by omega), if_pos (h3 (by omega))]
theorem nothing_pairs (a : Int) (l : List S34) (t : List Int) (ht : l.length = t.length) :
    ([chooseL (rankedA a l t)] ++ outs (rankedA a l t) (rankedA a l t).length).length = ([chooseL (rankedA a (nl l l.length) (nt l t l.length))] ++ outs (rankedA a (nl l l.length) (nt l t l.length)) (rankedA a (nl l l.length) (nt l t l.length)).length).length ∧
    ∀ j : Nat, j < ([chooseL (rankedA a l t)] ++ outs (rankedA a l t) (rankedA a l t).length).length → okPair (na l l.length) (rd ([chooseL (rankedA a l t)] ++ outs (rankedA a l t) (rankedA a l t).length) j) (rd ([chooseL (rankedA a (nl l l.length) (nt l t l.length))] ++ outs (rankedA a (nl l l.length) (nt l t l.length)) (rankedA a (nl l l.length) (nt l t l.length)).length) j) := by
  have hin : ∀ x ∈ rankedA a (nl l l.length) (nt l t l.length), ∃ i : Nat, i < (na l l.length).length ∧ x.f1 = (i : Int) := by
    intro x hx
    unfold rankedA at hx
    by_cases hr : rightB a (nl l l.length) (nt l t l.length) = true
    · rw [if_pos hr] at hx
      obtain ⟨i, hi, rfl⟩ := ranked_mem hx
      refine ⟨i, ?_, rfl⟩
      unfold na
      rw [List.length_map, ← nl_len]
      exact hi
    · rw [if_neg hr] at hx
      simp at hx
  rw [up_same (by_ := a) ht]
  generalize rankedA a (nl l l.length) (nt l t l.length) = s at hin
  rw [outs_map (upX l) (fun _ => rfl), outs_all]
  cases s with
  | nil =>
    refine ⟨rfl, fun j hj => ?_⟩
    have hj0 : j = 0 := by
      have e : ([chooseL (([] : List S44).map (upX l))] ++ ((firsts ([] : List S44)).drop 1).map (fun x => (upX l x).f1)).length = 1 := rfl
      omega
    subst hj0
    refine ⟨?_, fun _ => rfl, fun h => absurd h (by decide)⟩
    show (-1 : Int) < _
    omega
  | cons c r =>
    have e1 : [chooseL ((c :: r).map (upX l))] ++ ((firsts (c :: r)).drop 1).map (fun x => (upX l x).f1) = (c :: (firsts (c :: r)).drop 1).map (fun x => rd (na l l.length) x.f1) := rfl
    have e2 : [chooseL (c :: r)] ++ ((firsts (c :: r)).drop 1).map (fun x => x.f1) = (c :: (firsts (c :: r)).drop 1).map (fun x => x.f1) := rfl
    rw [e1, e2]
    have hD : ∀ x ∈ c :: (firsts (c :: r)).drop 1, ∃ i : Nat, i < (na l l.length).length ∧ x.f1 = (i : Int) := by
      intro x hx
      rcases List.mem_cons.1 hx with e | hx
      · rw [e]; exact hin c List.mem_cons_self
      · exact hin x (firstsG_sub (c :: r) [] x (List.mem_of_mem_drop hx))
    generalize c :: (firsts (c :: r)).drop 1 = D at hD
    refine ⟨by rw [List.length_map, List.length_map], fun j hj => ?_⟩
    rw [List.length_map] at hj
    obtain ⟨i, hi, e⟩ := hD _ (List.getElem_mem hj)
    have r1 : rd (D.map (fun x => x.f1)) (j : Int) = (i : Int) := by rw [rdI_at (by rw [List.length_map]; exact hj), List.getElem_map, e]
    have r2 : rd (D.map (fun x => rd (na l l.length) x.f1)) (j : Int) = rd (na l l.length) (i : Int) := by rw [rdI_at (by rw [List.length_map]; exact hj), List.getElem_map, e]
    rw [r1, r2]
    exact ⟨by omega, fun h => by omega, fun _ => rfl⟩
theorem nothing_end (a : Int) (l : List S34) (t : List Int) (ht : l.length = t.length) (h30 : l.length ≤ 30) : Ev (fun k => cleanselaw23_SurviveNothing.l0 k a l t true (nl l l.length) (nt l t l.length) (na l l.length) l.length) true := by
  have hidx := idx_len l l.length
  have hn := nl_len l
  have h1 : l.length ≤ 1000000 := by omega
  have h2 : (nl l l.length).length ≤ 1000000 := by omega
  have e1 : survive_Choose.f a l t = some (chooseL (rankedA a l t)) := by show chooseO a l t = _; rw [chooseO, if_pos h1]
  have e2 : survive_Choose.f a (nl l l.length) (nt l t l.length) = some (chooseL (rankedA a (nl l l.length) (nt l t l.length))) := by show chooseO a _ _ = _; rw [chooseO, if_pos h2]
  have e3 : survive_Others.f a l t = some (outs (rankedA a l t) (rankedA a l t).length) := by show othersO a l t = _; rw [othersO, if_pos h1]
  have e4 : survive_Others.f a (nl l l.length) (nt l t l.length) = some (outs (rankedA a (nl l l.length) (nt l t l.length)) (rankedA a (nl l l.length) (nt l t l.length)).length) := by show othersO a _ _ = _; rw [othersO, if_pos h2]
  have ho : ∀ (l' : List S34) (t' : List Int), l'.length ≤ 30 → (outs (rankedA a l' t') (rankedA a l' t').length).length ≤ 30 := by
    intro l' t' hh
    rw [outs_all, List.length_map, List.length_drop]
    have h3 : (firsts (rankedA a l' t')).length ≤ (rankedA a l' t').length := firstsG_len _ _
    have h4 := ranked_len a l' t'
    omega
  have o1 := ho l t h30
  have o2 := ho (nl l l.length) (nt l t l.length) (by omega)
  obtain ⟨hlen, hp⟩ := nothing_pairs a l t ht
  have hx : ([chooseL (rankedA a l t)] ++ outs (rankedA a l t) (rankedA a l t).length).length ≤ 1000 := by rw [List.length_append, List.length_singleton]; omega
  obtain ⟨K, g⟩ := nothing_l1 (na l l.length) _ _ hlen hx hp _ 0 (Nat.zero_add _)
  dsimp only at g
  refine ⟨K + 1, fun k hk => ?_⟩
  obtain ⟨m, rfl⟩ : ∃ m, k = m + 1 := ⟨k - 1, by omega⟩
  show cleanselaw23_SurviveNothing.l0 (m + 1) a l t true (nl l l.length) (nt l t l.length) (na l l.length) l.length = _
  rw [cleanselaw23_SurviveNothing.l0, if_neg (by omega), e1, Option.bind_some, Option.bind_some, e3, Option.bind_some, if_pos (by rw [List.length_singleton]; omega), Option.bind_some, e2, Option.bind_some, Option.bind_some, e4, Option.bind_some, if_pos (by rw [List.length_singleton]; omega), Option.bind_some, if_pos (by rw [hlen])]
  exact g m (by omega)
theorem nothing_loop (a : Int) (l : List S34) (t : List Int) (ht : l.length = t.length) (h30 : l.length ≤ 30) (d : Nat) :
    ∀ i : Nat, i + d = l.length → Ev (fun k => cleanselaw23_SurviveNothing.l0 k a l t true (nl l i) (nt l t i) (na l i) i) true := by
  induction d with
  | zero =>
    intro i hi
    have e : i = l.length := by omega
    rw [e]
    exact nothing_end a l t ht h30
  | succ d ih =>
    intro i hi
    have hlt : i < l.length := by omega
    have hw : wrap64 ((i : Int) + 1) = ((i + 1 : Nat) : Int) := by rw [wrap_up (by omega) (by omega)]; rfl
    have hidx := idx_len l i
    have n1 : (nl l i).length ≤ i := by unfold nl; rw [List.length_map]; exact hidx
    have n2 : (nt l t i).length ≤ i := by unfold nt; rw [List.length_map]; exact hidx
    have n3 : (na l i).length ≤ i := by unfold na; rw [List.length_map]; exact hidx
    refine Ev.step ((ih (i + 1) (by omega)).congr fun k => ?_)
    rw [cleanselaw23_SurviveNothing.l0, if_pos (by omega), if_pos (by omega), refCounts (rd_T34 l i), Option.bind_some, hw]
    by_cases hc : countsB (rd_T34 l i) = true
    · have e1 : nl l (i + 1) = nl l i ++ [rd_T34 l i] := by unfold nl; rw [idx_succ, if_pos hc, List.map_append]; rfl
      have e2 : nt l t (i + 1) = nt l t i ++ [rd t i] := by unfold nt; rw [idx_succ, if_pos hc, List.map_append]; rfl
      have e3 : na l (i + 1) = na l i ++ [(i : Int)] := by unfold na; rw [idx_succ, if_pos hc, List.map_append]; rfl
      rw [if_pos hc, if_pos (by omega), if_pos (by omega), if_pos (by omega), if_pos (by omega), e1, e2, e3]
    · have e1 : nl l (i + 1) = nl l i := by unfold nl; rw [idx_succ, if_neg hc]
      have e2 : nt l t (i + 1) = nt l t i := by unfold nt; rw [idx_succ, if_neg hc]
      have e3 : na l (i + 1) = na l i := by unfold na; rw [idx_succ, if_neg hc]
      rw [if_neg hc, e1, e2, e3]
theorem nothing_j0 (a : Int) (l : List S34) (t : List Int) (b : Bool) (hb : b = false → l.length = t.length ∧ l.length ≤ 30) : Ev (fun k => cleanselaw23_SurviveNothing.j0 k a l t true b) true := by
  cases b with
  | true => exact Ev.step (Ev.of fun k => rfl)
  | false =>
    obtain ⟨ht, h30⟩ := hb rfl
    refine Ev.step ((nothing_loop a l t ht h30 l.length 0 (by omega)).congr fun k => ?_)
    rw [cleanselaw23_SurviveNothing.j0, if_neg (by decide)]
    rfl
theorem SurviveNothing : SurviveNothing_pure := by
  intro a l t _ hl _ ht _
  obtain ⟨K1, g1⟩ := head_ev
  obtain ⟨K2, g2⟩ := refFew l 30 hl
  dsimp only at g1 g2
  by_cases hf : fewB l 30 = true
  · have h30 : l.length ≤ 30 := by
      simp only [fewB, Bool.and_eq_true, decide_eq_true_eq] at hf
      omega
    obtain ⟨K3, g3⟩ := nothing_j0 a l t ((t.length : Int) != (l.length : Int)) (fun h => by
      have : (t.length : Int) = (l.length : Int) := by simpa using h
      exact ⟨by omega, h30⟩)
    dsimp only at g3
    refine ⟨max K1 (max K2 K3), ?_⟩
    rw [cleanselaw23_SurviveNothing.f, g1 _ (by omega), Option.bind_some, g2 _ (by omega), Option.bind_some, if_pos hf]
    exact g3 _ (by omega)
  · obtain ⟨K3, g3⟩ := nothing_j0 a l t true (fun h => by cases h)
    dsimp only at g3
    refine ⟨max K1 (max K2 K3), ?_⟩
    rw [cleanselaw23_SurviveNothing.f, g1 _ (by omega), Option.bind_some, g2 _ (by omega), Option.bind_some, if_neg hf]
    exact g3 _ (by omega)
end Go.Proofs.Ytegomjkgbeijlaa.Pure
