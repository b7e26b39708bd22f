/- The law's head answers true. -/
import Derived.Test.YtegomjkgbeijlaaRefI
import Derived.Test.YtegomjkgbeijlaaSv4
namespace Go.Proofs.Ytegomjkgbeijlaa.Hand
set_option linter.unusedSimpArgs false
set_option linter.unusedSectionVars false
set_option linter.unnecessarySimpa false
open Go.RowKit Go.Proofs.Ytegomjkgbeijlaa.Sv Go.Proofs.YtegomjkgbeijlaaW.PrintWords MapK
set_option linter.unusedVariables false
/-- What Choose answers, so that it can be reckoned. -/
def compC (by_ : Int) (l : List S34) (t : List Int) : Int := if rightB by_ l t = true then enc (mn by_ (candsP l t l.length) none) else -1
theorem chooseL_comp (by_ : Int) (l : List S34) (t : List Int) : chooseL (rankedA by_ l t) = compC by_ l t := by
  unfold rankedA compC
  by_cases h : rightB by_ l t = true
  · rw [if_pos h, if_pos h, mn_head (fun x hx y hy e => cand_inj hx hy e), enc_head, rankedL, candsL_eqP]
  · rw [if_neg h, if_neg h]; rfl
theorem chooseO_comp {by_ : Int} {l : List S34} {t : List Int} (h : l.length ≤ 1000000) : survive_Choose.f by_ l t = some (compC by_ l t) := by
  show chooseO by_ l t = _
  rw [chooseO, if_pos h, chooseL_comp]
theorem othersO_is {by_ : Int} {l : List S34} {t : List Int} (h : l.length ≤ 1000000) : survive_Others.f by_ l t = some (((firsts (rankedA by_ l t)).drop 1).map (·.f1)) := by
  show othersO by_ l t = _
  rw [othersO, if_pos h, outs_all]
theorem ranked_is {by_ : Int} {l : List S34} {t : List Int} {s : List S44} (hr : rightB by_ l t = true) (hp : s.Perm (candsP l t l.length)) (hs : s.Pairwise (fun x y => cf by_ x y ≤ 0)) : rankedA by_ l t = s := by
  unfold rankedA rankedL
  rw [if_pos hr, candsL_eqP]
  exact (sortC_unique hp hs (fun x hx y hy e => cand_inj hx hy e)).symm
abbrev hl : List S34 := [⟨⟨1, 0, ⟨#[97, 110, 110]⟩⟩, 0, 5⟩, ⟨⟨1, 0, ⟨#[98, 111, 98]⟩⟩, 0, 7⟩, ⟨⟨1, 0, ⟨#[97, 110, 110]⟩⟩, 0, 2⟩, ⟨⟨0, 0, ⟨#[]⟩⟩, 0, 9⟩]
abbrev ht : List Int := [1, 1, 3, 9]
set_option maxRecDepth 100000
theorem c1 : compC 1 hl ht = 1 := by decide +kernel
theorem c2 : compC 2 hl ht = 2 := by decide +kernel
theorem c3 : compC 3 hl ht = 2 := by decide +kernel
theorem c5 : compC 5 hl ht = 2 := by decide +kernel
theorem c6 : compC 6 hl ht = 1 := by decide +kernel
theorem c7 : compC 7 hl ht = -1 := by decide +kernel
theorem c1a : compC 1 hl (ht.take 3) = -1 := by decide +kernel
theorem c1b : compC 1 (hl.drop 3) (ht.drop 3) = -1 := by decide +kernel
theorem cands_is : candsP hl ht hl.length = [candAt hl ht 0, candAt hl ht 1, candAt hl ht 2] := by
  have h3 : candsP hl ht 0 = [] := rfl
  show candsP hl ht 4 = _
  rw [candsP_succ, if_neg (by decide +kernel), candsP_succ, if_pos (by decide +kernel), candsP_succ, if_pos (by decide +kernel), candsP_succ, if_pos (by decide +kernel), h3]
  rfl
theorem r1 : rankedA 1 hl ht = [candAt hl ht 1, candAt hl ht 0, candAt hl ht 2] :=
  ranked_is (by decide +kernel) (by rw [cands_is]; exact .swap ..) (by decide +kernel)
theorem r6 : rankedA 6 hl ht = [candAt hl ht 1, candAt hl ht 2, candAt hl ht 0] :=
  ranked_is (by decide +kernel) (by rw [cands_is]; exact List.perm_append_comm (l₁ := [candAt hl ht 1, candAt hl ht 2]) (l₂ := [candAt hl ht 0])) (by decide +kernel)
theorem o1 : survive_Others.f 1 hl ht = some [0] := by
  rw [othersO_is (by decide), r1]
  decide +kernel
theorem o6 : survive_Others.f 6 hl ht = some [2] := by
  rw [othersO_is (by decide), r6]
  decide +kernel
theorem head_ev : Ev (fun k => cleanselaw23_head.f k) true := by
  obtain ⟨K1, g1⟩ := refInts [0] (by decide)
  obtain ⟨K2, g2⟩ := refInts [2] (by decide)
  dsimp only at g1 g2
  refine ⟨max K1 K2 + 1, fun k hk => ?_⟩
  obtain ⟨m, rfl⟩ : ∃ m, k = m + 1 := ⟨k - 1, by omega⟩
  show cleanselaw23_head.f (m + 1) = _
  unfold cleanselaw23_head.f cleanselaw23_cell.f
  simp only [Option.bind_some]
  rw [chooseO_comp (by decide), c1, Option.bind_some, if_pos rfl, chooseO_comp (by decide), c2, Option.bind_some, if_pos rfl, chooseO_comp (by decide), c3, Option.bind_some, if_pos rfl, chooseO_comp (by decide), c6, Option.bind_some, if_pos rfl, chooseO_comp (by decide), c5, Option.bind_some]
  rw [cleanselaw23_head.j0, o1, Option.bind_some, g1 m (by omega), Option.bind_some, if_pos rfl, o6, Option.bind_some, g2 m (by omega), Option.bind_some, if_pos (by decide), if_pos rfl, chooseO_comp (by decide), c7, Option.bind_some, if_pos rfl, if_pos (by decide), chooseO_comp (by decide), c1a, Option.bind_some, if_pos rfl, if_pos (by decide), chooseO_comp (by decide), c1b]
  rfl
end Go.Proofs.Ytegomjkgbeijlaa.Hand
