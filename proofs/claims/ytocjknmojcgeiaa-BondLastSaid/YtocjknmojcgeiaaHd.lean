/- The law's head answers true. -/
import Derived.Test.YtocjknmojcgeiaaExt
import Derived.Test.YtocjknmojcgeiaaBd8
namespace Go.Proofs.Ytocjknmojcgeiaa.Hand
set_option linter.unusedSectionVars false
set_option linter.unnecessarySimpa false
open Go.RowKit Go.Proofs.Ytocjknmojcgeiaa.Bd Go.Proofs.YtocjknmojcgeiaaW.PrintWords MapK
set_option linter.unusedVariables false
set_option linter.unusedSimpArgs false
theorem sample_is : cleanselaw21_sample.f = some smp := rfl
theorem decide_is (a b c : Int) (h : 0 ≤ b ∧ b < 4 ∧ 0 ≤ c ∧ c < 4) : cleanselaw21_decide.f a b c = some (a, (rd_T66 smp b).f0.f0, (rd_T66 smp b).f0.f1, (rd_T66 smp b).f0.f2, (rd_T66 smp c).f0.f0, (rd_T66 smp c).f0.f1, (rd_T66 smp c).f0.f2) := by
  unfold cleanselaw21_decide.f
  have hl : ((smp.length : Nat) : Int) = 4 := rfl
  rw [sample_is, Option.bind_some, hl, if_pos h.1, if_pos h.2.1, if_pos h.2.2.1, if_pos h.2.2.2]
theorem bind_is {r : List S66} {l : List S39} (h : r.length ≤ 1000000) (h2 : l.length ≤ 1000000) : bond_Bind.f r l = some (bindL1 r l, bindL2 r l) := by
  show bindO r l = _
  rw [bindO, if_pos ⟨h, h2⟩]
theorem contra_is {r : List S66} {l : List S39} (h : r.length ≤ 1000000) (h2 : l.length ≤ 1000000) : bond_Contradictions.f r l = some (contraL r l) := by
  show contraO r l = _
  rw [contraO, if_pos ⟨h, h2⟩]
theorem eff_is {l : List S39} (h2 : l.length ≤ 1000000) : bond_Effective.f l = some (effL l) := by
  show effectiveO l = _
  rw [effectiveO, if_pos h2]
theorem x1 : bond_Bind.f smp [⟨1, K0, K2⟩, ⟨1, K2, K3⟩, ⟨2, K1, K3⟩] = some ([0, 1, 0, 0], [⟨0, 1⟩]) := by rw [bind_is (by decide) (by decide), b1, b2]
theorem x2 : bond_Bind.f smp [⟨1, K0, K2⟩, ⟨2, K0, K2⟩] = some ([0, 1, 2, 3], [⟨0, 2⟩]) := by rw [bind_is (by decide) (by decide), b3, b4]
theorem x3 : bond_Bind.f smp [⟨1, K0, K2⟩, ⟨1, K2, K3⟩, ⟨2, K0, K3⟩] = some ([0, 1, 0, 0], []) := by rw [bind_is (by decide) (by decide), b5, b6]
theorem x4 : bond_Contradictions.f smp [⟨1, K0, K2⟩, ⟨1, K2, K3⟩, ⟨2, K0, K3⟩] = some [⟨0, 3⟩] := by rw [contra_is (by decide) (by decide), b7]
theorem x5 : bond_Effective.f [⟨1, K0, K2⟩, ⟨3, K0, K2⟩, ⟨2, K0, K1⟩] = some [⟨2, K0, K1⟩] := by rw [eff_is (by decide), e4]
theorem head_ev : Ev (fun k => cleanselaw21_head.f k) true := by
  obtain ⟨K1', g1⟩ := refInts [0, 1, 0, 0] (by decide)
  obtain ⟨K2', g2⟩ := refInts [0, 1, 2, 3] (by decide)
  obtain ⟨K3', g3⟩ := refPairs [⟨0, 1⟩] (by decide)
  obtain ⟨K4', g4⟩ := refPairs [⟨0, 2⟩] (by decide)
  obtain ⟨K5', g5⟩ := refPairs [⟨0, 3⟩] (by decide)
  obtain ⟨K6', g6⟩ := refSame [⟨2, K0, K1⟩] (by decide)
  dsimp only at g1 g2 g3 g4 g5 g6
  refine ⟨max K1' (max K2' (max K3' (max K4' (max K5' K6')))) + 1, fun k hk => ?_⟩
  obtain ⟨m, rfl⟩ : ∃ m, k = m + 1 := ⟨k - 1, by omega⟩
  show cleanselaw21_head.f (m + 1) = _
  unfold cleanselaw21_head.f
  simp only [sample_is, Option.bind_some, decide_is 1 0 2 (by decide), decide_is 1 2 3 (by decide), decide_is 2 1 3 (by decide), decide_is 2 0 2 (by decide), decide_is 2 0 3 (by decide), decide_is 3 0 2 (by decide), decide_is 2 0 1 (by decide)]
  have r0 : (rd_T66 smp 0).f0 = K0 := rfl
  have r1 : (rd_T66 smp 1).f0 = K1 := rfl
  have r2 : (rd_T66 smp 2).f0 = K2 := rfl
  have r3 : (rd_T66 smp 3).f0 = K3 := rfl
  simp only [r0, r1, r2, r3]
  rw [x1, Option.bind_some, x2, Option.bind_some, x3, Option.bind_some, x4, Option.bind_some, x5, Option.bind_some]
  dsimp only
  rw [g1 _ (by omega), Option.bind_some, if_pos rfl, g3 _ (by omega), Option.bind_some, if_pos rfl, g2 _ (by omega), Option.bind_some, if_pos rfl, g4 _ (by omega), Option.bind_some]
  rw [cleanselaw21_head.j0, if_pos rfl, g1 _ (by omega), Option.bind_some, if_pos rfl, if_pos (by decide), g5 _ (by omega), Option.bind_some, if_pos rfl]
  rw [decide_is 2 0 1 (by decide), Option.bind_some]
  simp only [r0, r1]
  rw [g6 _ (by omega)]
  rfl
end Go.Proofs.Ytocjknmojcgeiaa.Hand
