/- BondOpens in plain words: an open decision about each pair at the end leaves nothing in force. -/
import Derived.Test.YtocjknmojcgeiaaHd
import Derived.Test.YtocjknmojcgeiaaExt
import Derived.Test.YtocjknmojcgeiaaStBondOpens
namespace Go.Proofs.Ytocjknmojcgeiaa.Pure
set_option linter.unusedSectionVars false
set_option linter.unnecessarySimpa false
open Go.RowKit Go.Proofs.Ytocjknmojcgeiaa.Bd Hand
open Go.Proofs.YtocjknmojcgeiaaW.PrintWords hiding Ev
set_option linter.unusedVariables false
set_option linter.unusedSimpArgs false
def opn (d : S39) : S39 := ⟨3, ⟨d.f1.f0, d.f1.f1, d.f1.f2⟩, ⟨d.f2.f0, d.f2.f1, d.f2.f2⟩⟩
def opnI (l : List S39) (i : Nat) : List S39 := (List.range i).map (fun j : Nat => opn (rd_T39 l j))
theorem opnI_len (l : List S39) (i : Nat) : (opnI l i).length = i := by simp [opnI]
theorem opnI_rd (l : List S39) (i j : Nat) (h : j < i) : rd_T39 (opnI l i) j = opn (rd_T39 l j) := by
  rw [rd39 _ _ (by rw [opnI_len]; exact h)]
  simp [opnI]
theorem opens_eff (l : List S39) : effL (l ++ opnI l l.length) = [] := by
  refine effL_uniq List.Pairwise.nil (fun x => ⟨fun h => by simp at h, fun h => ?_⟩)
  obtain ⟨h1, h2⟩ := h
  rw [List.length_append, opnI_len] at h1
  obtain ⟨t, ht, rfl, hf, hk, hno⟩ := lk_some.1 h1
  exfalso
  by_cases hlt : t < l.length
  · refine hno (l.length + t) (by omega) (by omega) ?_
    rw [rd39_right _ _ _ (by rw [opnI_len]; exact hlt), opnI_rd _ _ _ hlt]
    rw [rd39_left _ _ _ hlt] at hf ⊢
    refine ⟨?_, rfl⟩
    unfold formedB at hf ⊢
    simp only [Bool.and_eq_true, decide_eq_true_eq] at hf ⊢
    exact ⟨⟨by show (1 : Int) ≤ 3; omega, by show (3 : Int) ≤ 3; omega⟩, hf.2⟩
  · obtain ⟨j, rfl⟩ : ∃ j, t = l.length + j := ⟨t - l.length, by omega⟩
    rw [rd39_right _ _ _ (by rw [opnI_len]; omega), opnI_rd _ _ _ (by omega)] at h2
    simp [shut, opn] at h2
theorem roots_none {r : List S66} {l : List S39} (h : effL l = []) : rootsL r l = id := by unfold rootsL; rw [h]; rfl
theorem pairs_none {r : List S66} {l : List S39} (h : effL l = []) : pairsL r l = [] := by unfold pairsL; rw [h]; rfl
theorem setL_nil : setL [] = [] := by
  rw [setL_is (List.Perm.refl []) List.Pairwise.nil]; rfl
theorem opens_l1 (r : List S66) (hr : r.length ≤ 30) (X : List S39) (hX : X.length ≤ 60) (h : effL X = []) (d : Nat) : ∀ i : Nat, i + d = r.length → Ev (fun k => cleanselaw21_BondOpens.l1 k r true X (bindL1 r X) (bindL2 r X) i) true := by
  have e1 : bindL1 r X = headsF id r.length := by unfold bindL1; rw [roots_none h]
  have e2 : bindL2 r X = [] := by unfold bindL2; rw [pairs_none h]; exact setL_nil
  have e3 : contraL r X = [] := by unfold contraL; rw [pairs_none h]; exact setL_nil
  have hl := headsF_len id r.length
  rw [e1, e2]
  induction d with
  | zero =>
    intro i hi
    refine Ev.step (Ev.of fun k => ?_)
    rw [cleanselaw21_BondOpens.l1, if_neg (by omega), if_pos rfl, if_pos (by omega), if_pos (by decide), eff_is (by omega), h, Option.bind_some, if_pos (by decide), contra_is (by omega) (by omega), e3]
    rfl
  | succ d ih =>
    intro i hi
    have hw : wrap64 ((i : Int) + 1) = ((i + 1 : Nat) : Int) := by rw [wrap_up (by omega) (by omega)]; rfl
    have hrd : rd (headsF id r.length) i = i := headsF_rd id r.length i (by omega) (by omega)
    refine Ev.step ((ih (i + 1) (by omega)).congr fun k => ?_)
    rw [cleanselaw21_BondOpens.l1, if_pos (by omega), if_pos (by omega), if_pos hrd, hw]
theorem opens_l0 (r : List S66) (hr : r.length ≤ 30) (l : List S39) (hl : l.length ≤ 30) (d : Nat) : ∀ i : Nat, i + d = l.length → Ev (fun k => cleanselaw21_BondOpens.l0 k r l true (l ++ opnI l i) i) true := by
  induction d with
  | zero =>
    intro i hi
    obtain rfl : i = l.length := by omega
    have hX : (l ++ opnI l l.length).length ≤ 60 := by rw [List.length_append, opnI_len]; omega
    refine Ev.step ((opens_l1 r hr _ hX (opens_eff l) r.length 0 (by omega)).congr fun k => ?_)
    rw [cleanselaw21_BondOpens.l0, if_neg (by omega), bind_is (by omega) (by omega)]
    rfl
  | succ d ih =>
    intro i hi
    have hw : wrap64 ((i : Int) + 1) = ((i + 1 : Nat) : Int) := by rw [wrap_up (by omega) (by omega)]; rfl
    have hX : (l ++ opnI l i).length ≤ 60 := by rw [List.length_append, opnI_len]; omega
    have he : l ++ opnI l (i + 1) = (l ++ opnI l i) ++ [opn (rd_T39 l i)] := by
      unfold opnI
      rw [List.range_succ, List.map_append, List.append_assoc]
      rfl
    have hv := ih (i + 1) (by omega)
    rw [he] at hv
    refine Ev.step (hv.congr fun k => ?_)
    rw [cleanselaw21_BondOpens.l0, if_pos (by omega), if_pos (by omega), if_pos (by omega), hw]
    rfl
theorem opens_j0 (r : List S66) (l : List S39) (b : Bool) (hb : b = false → r.length ≤ 30 ∧ l.length ≤ 30) : Ev (fun k => cleanselaw21_BondOpens.j0 k r l true b) true := by
  cases b with
  | true => exact Ev.step (Ev.of fun k => rfl)
  | false =>
    obtain ⟨h1, h2⟩ := hb rfl
    have h0 := opens_l0 r h1 l h2 l.length 0 (by omega)
    have e0 : l ++ opnI l 0 = [] ++ l := by simp [opnI]
    rw [e0] at h0
    refine Ev.step (h0.congr fun k => ?_)
    rw [cleanselaw21_BondOpens.j0, if_neg (by decide)]
    show (if ([] : List S39).length + l.length < 1599289640401 then _ else _) = _
    rw [if_pos (by simp; omega)]
    rfl
theorem BondOpens : BondOpens_pure := by
  intro r l _ _ _ _
  obtain ⟨K1, g1⟩ := head_ev
  dsimp only at g1
  by_cases hr : (r.length : Int) > 30
  · obtain ⟨K2, g2⟩ := opens_j0 r l true (fun h => by cases h)
    dsimp only at g2
    refine ⟨max K1 K2, ?_⟩
    rw [cleanselaw21_BondOpens.f, g1 _ (by omega), Option.bind_some, if_pos hr]
    exact g2 _ (by omega)
  · obtain ⟨K2, g2⟩ := opens_j0 r l (decide ((l.length : Int) > 30)) (fun h => by
      have := of_decide_eq_false h
      exact ⟨by omega, by omega⟩)
    dsimp only at g2
    refine ⟨max K1 K2, ?_⟩
    rw [cleanselaw21_BondOpens.f, g1 _ (by omega), Option.bind_some, if_neg hr]
    exact g2 _ (by omega)
end Go.Proofs.Ytocjknmojcgeiaa.Pure
