/- BondOrder in plain words: the decisions in force, turned round and without those about other records, bind the same records. -/
import Derived.Test.YtocjknmojcgeiaaIdx
import Derived.Test.YtocjknmojcgeiaaStBondOrder
namespace Go.Proofs.Ytocjknmojcgeiaa.Pure
set_option linter.unusedSectionVars false
set_option linter.unnecessarySimpa false
open Go.RowKit Go.Proofs.Ytocjknmojcgeiaa.Bd Hand
open Go.Proofs.YtocjknmojcgeiaaW.PrintWords hiding Ev
set_option linter.unusedVariables false
set_option linter.unusedSimpArgs false
def turnI (r : List S66) (f : List S39) (j : Nat) : List S39 := ((f.drop j).filter (inB r)).reverse
theorem turnI_len (r : List S66) (f : List S39) (j : Nat) : (turnI r f j).length ≤ f.length := by
  unfold turnI
  rw [List.length_reverse]
  have h1 := List.length_filter_le (inB r) (f.drop j)
  rw [List.length_drop] at h1
  omega
theorem turn_eff (r : List S66) (l : List S39) : effL (turnI r (effL l) 0) = (effL l).filter (inB r) := by
  have hst : ((effL l).filter (inB r)).Pairwise (fun x y => ordD x y < 0) := (effL_strict l).sublist List.filter_sublist
  have hX : turnI r (effL l) 0 = ((effL l).filter (inB r)).reverse := by simp [turnI]
  rw [hX]
  refine effL_uniq hst (fun x => ?_)
  rw [lk_distinct (by rw [List.map_reverse]; exact (List.reverse_perm _).nodup_iff.2 (strict_keys hst))]
  rw [List.mem_reverse]
  constructor
  · intro h
    have h1 := effL_mem.1 (List.mem_filter.1 h).1
    exact ⟨⟨h, (lk_in h1.1).1, rfl⟩, h1.2⟩
  · exact fun h => h.1.1
theorem turn_hits (r : List S66) (l : List S39) (kind : Int) : hits r kind (effL l) = hits r kind (effL (turnI r (effL l) 0)) := by
  rw [turn_eff]
  unfold hits
  rw [List.filter_filter]
  refine List.filter_congr (fun x _ => ?_)
  rw [hit_is]
  cases decide (x.f0 = kind) <;> cases inB r x <;> rfl
theorem order_end (r : List S66) (l : List S39) (hr : r.length ≤ 60) (hl : l.length ≤ 60) : Ev (fun k => cleanselaw21_BondOrder.l0 k r l true (effL l) (turnI r (effL l) 0) (-1)) true := by
  have hf := effL_len l
  have hX := turnI_len r (effL l) 0
  obtain ⟨e1, e2, e3⟩ := same_of_hits (r := r) (turn_hits r l 1) (turn_hits r l 2)
  have n1 := bindL1_len r l
  have n2 := bindL2_len r l
  have n3 := contraL_len r l
  obtain ⟨K1, g1⟩ := refInts (bindL1 r l) (by omega)
  obtain ⟨K2, g2⟩ := refPairs (bindL2 r l) (by omega)
  obtain ⟨K3, g3⟩ := refPairs (contraL r l) (by omega)
  dsimp only at g1 g2 g3
  refine ⟨max K1 (max K2 K3) + 1, fun k hk => ?_⟩
  obtain ⟨m, rfl⟩ : ∃ m, k = m + 1 := ⟨k - 1, by omega⟩
  show cleanselaw21_BondOrder.l0 (m + 1) r l true (effL l) (turnI r (effL l) 0) (-1) = _
  rw [cleanselaw21_BondOrder.l0, if_neg (by decide), bind_is (by omega) (by omega), Option.bind_some, bind_is (by omega) (by omega), Option.bind_some, if_pos rfl]
  dsimp only
  rw [← e1, g1 _ (by omega), Option.bind_some, if_pos rfl, ← e2, g2 _ (by omega), Option.bind_some, if_pos rfl, contra_is (by omega) (by omega), Option.bind_some, contra_is (by omega) (by omega), Option.bind_some, ← e3, g3 _ (by omega)]
  rfl
theorem order_l0 (r : List S66) (l : List S39) (hr : r.length ≤ 60) (hl : l.length ≤ 60) : ∀ j : Nat, j ≤ (effL l).length → Ev (fun k => cleanselaw21_BondOrder.l0 k r l true (effL l) (turnI r (effL l) j) ((j : Int) - 1)) true
  | 0, _ => order_end r l hr hl
  | i + 1, hi => by
    have ih := order_l0 r l hr hl i (by omega)
    have hf := effL_len l
    have hX := turnI_len r (effL l) (i + 1)
    have hd : (effL l).drop i = rd_T39 (effL l) i :: (effL l).drop (i + 1) := by
      rw [rd39 _ _ (by omega)]
      exact List.drop_eq_getElem_cons (by omega)
    have e0 : ((i + 1 : Nat) : Int) - 1 = i := by omega
    have hw : wrap64 ((i : Int) - 1) = (i : Int) - 1 := by unfold wrap64; omega
    rw [e0]
    obtain ⟨K1, g1⟩ := refIndex r (rd_T39 (effL l) i).f1 (by omega)
    obtain ⟨K2, g2⟩ := refIndex r (rd_T39 (effL l) i).f2 (by omega)
    dsimp only at g1 g2
    have key : ∀ (B : Bool), inB r (rd_T39 (effL l) i) = B → turnI r (effL l) i = if B = true then turnI r (effL l) (i + 1) ++ [rd_T39 (effL l) i] else turnI r (effL l) (i + 1) := by
      intro B hB
      unfold turnI
      rw [hd]
      cases B with
      | true => rw [List.filter_cons_of_pos hB, List.reverse_cons]; rfl
      | false => rw [List.filter_cons_of_neg (by rw [hB]; simp)]; rfl
    obtain ⟨K3, g3⟩ := ih
    dsimp only at g3
    refine ⟨max K1 (max K2 K3) + 1, fun k hk => ?_⟩
    obtain ⟨m, rfl⟩ : ∃ m, k = m + 1 := ⟨k - 1, by omega⟩
    show cleanselaw21_BondOrder.l0 (m + 1) r l true (effL l) (turnI r (effL l) (i + 1)) i = _
    have g3' := g3 m (by omega)
    rw [cleanselaw21_BondOrder.l0, if_pos (by omega), if_pos (by omega), if_pos (by omega), g1 _ (by omega), Option.bind_some]
    by_cases ha : ixP r (rd_T39 (effL l) i).f1 ≥ 0
    · rw [if_pos ha, g2 _ (by omega), Option.bind_some]
      by_cases hb : ixP r (rd_T39 (effL l) i).f2 ≥ 0
      · rw [if_pos hb, if_pos (by omega), hw]
        rw [key true (by unfold inB; rw [(ixP_ge _ _).1 ha, (ixP_ge _ _).1 hb]; rfl), if_pos rfl] at g3'
        exact g3'
      · rw [if_neg hb, hw]
        rw [key false (by
          unfold inB
          have := mt (ixP_ge r (rd_T39 (effL l) i).f2).2 hb
          rw [Bool.not_eq_true] at this
          rw [this, Bool.and_false]), if_neg (by decide)] at g3'
        exact g3'
    · rw [if_neg ha, hw]
      rw [key false (by
        unfold inB
        have := mt (ixP_ge r (rd_T39 (effL l) i).f1).2 ha
        rw [Bool.not_eq_true] at this
        rw [this, Bool.false_and]), if_neg (by decide)] at g3'
      exact g3'
theorem BondOrder : BondOrder_pure := by
  intro r l _ _ _ _
  obtain ⟨K1, g1⟩ := head_ev
  dsimp only at g1
  by_cases hfew : r.length ≤ 60 ∧ l.length ≤ 60
  · have h0 := order_l0 r l hfew.1 hfew.2 (effL l).length (Nat.le_refl _)
    have e0 : turnI r (effL l) (effL l).length = [] := by simp [turnI]
    rw [e0] at h0
    obtain ⟨K2, g2⟩ := h0
    dsimp only at g2
    have hf := effL_len l
    have hw : wrap64 (((effL l).length : Int) - 1) = ((effL l).length : Int) - 1 := by unfold wrap64; omega
    refine ⟨max K1 K2, ?_⟩
    rw [cleanselaw21_BondOrder.f, g1 _ (by omega), Option.bind_some, few_is, Option.bind_some, if_pos (decide_eq_true hfew), eff_is (by omega), Option.bind_some, hw]
    exact g2 _ (by omega)
  · refine ⟨K1, ?_⟩
    rw [cleanselaw21_BondOrder.f, g1 _ (by omega), Option.bind_some, few_is, Option.bind_some, if_neg (by rw [decide_eq_false hfew]; simp)]
end Go.Proofs.Ytocjknmojcgeiaa.Pure
