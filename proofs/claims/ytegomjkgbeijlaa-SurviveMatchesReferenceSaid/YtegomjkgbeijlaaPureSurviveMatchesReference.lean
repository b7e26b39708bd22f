/- SurviveMatchesReference in plain words: the reference's answers are the program's. -/
import Derived.Test.YtegomjkgbeijlaaHd
import Derived.Test.YtegomjkgbeijlaaRefC
import Derived.Test.YtegomjkgbeijlaaStSurviveMatchesReference
namespace Go.Proofs.Ytegomjkgbeijlaa.Pure
set_option linter.unusedSimpArgs false
set_option linter.unusedSectionVars false
set_option linter.unnecessarySimpa false
open Go.RowKit Go.Proofs.Ytegomjkgbeijlaa.Sv Hand
open Go.Proofs.YtegomjkgbeijlaaW.PrintWords hiding Ev
set_option linter.unusedVariables false
theorem smr_j0 (a : Int) (l : List S34) (t : List Int) (b : Bool) (hb : b = false → l.length ≤ 30) : Ev (fun k => cleanselaw23_SurviveMatchesReference.j0 k a l t true b) true := by
  cases b with
  | true => exact Ev.step (Ev.of fun k => rfl)
  | false =>
    have hl : l.length ≤ 1000000 := by have := hb rfl; omega
    have ho : (outs (rankedA a l t) (rankedA a l t).length).length ≤ 2000000 := by
      rw [outs_all, List.length_map, List.length_drop]
      have h1 : (firsts (rankedA a l t)).length ≤ (rankedA a l t).length := firstsG_len _ _
      have h2 := ranked_len a l t
      omega
    obtain ⟨K1, g1⟩ := refChoose a l t hl
    obtain ⟨K2, g2⟩ := refOthers a l t hl
    obtain ⟨K3, g3⟩ := refInts _ ho
    dsimp only at g1 g2 g3
    refine ⟨max K1 (max K2 K3) + 1, fun k hk => ?_⟩
    obtain ⟨m, rfl⟩ : ∃ m, k = m + 1 := ⟨k - 1, by omega⟩
    show cleanselaw23_SurviveMatchesReference.j0 (m + 1) a l t true false = _
    have e1 : survive_Choose.f a l t = some (chooseL (rankedA a l t)) := by show chooseO a l t = _; rw [chooseO, if_pos hl]
    have e2 : survive_Others.f a l t = some (outs (rankedA a l t) (rankedA a l t).length) := by show othersO a l t = _; rw [othersO, if_pos hl]
    rw [cleanselaw23_SurviveMatchesReference.j0, if_neg (by decide), if_pos rfl, e1, Option.bind_some, g1 m (by omega), Option.bind_some, if_pos rfl, e2, Option.bind_some, g2 m (by omega), Option.bind_some, g3 m (by omega), Option.bind_some]
theorem SurviveMatchesReference : SurviveMatchesReference_pure := by
  intro a l t _ hl _ ht _
  obtain ⟨K1, g1⟩ := head_ev
  obtain ⟨K2, g2⟩ := refFew l 30 hl
  dsimp only at g1 g2
  by_cases hf : fewB l 30 = true
  · have h30 : l.length ≤ 30 := by
      simp only [fewB, Bool.and_eq_true, decide_eq_true_eq] at hf
      omega
    obtain ⟨K3, g3⟩ := smr_j0 a l t (decide ((t.length : Int) > 40)) (fun _ => h30)
    dsimp only at g3
    refine ⟨max K1 (max K2 K3), ?_⟩
    rw [cleanselaw23_SurviveMatchesReference.f, g1 _ (by omega), Option.bind_some, g2 _ (by omega), Option.bind_some, if_pos hf]
    exact g3 _ (by omega)
  · obtain ⟨K3, g3⟩ := smr_j0 a l t true (fun h => by cases h)
    dsimp only at g3
    refine ⟨max K1 (max K2 K3), ?_⟩
    rw [cleanselaw23_SurviveMatchesReference.f, g1 _ (by omega), Option.bind_some, g2 _ (by omega), Option.bind_some, if_neg hf]
    exact g3 _ (by omega)
end Go.Proofs.Ytegomjkgbeijlaa.Pure
