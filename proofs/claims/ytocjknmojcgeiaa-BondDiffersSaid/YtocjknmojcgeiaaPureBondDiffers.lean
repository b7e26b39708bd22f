/- BondDiffers in plain words: the pairs of heads, and the contradictions, are those of the decisions in force that two records differ. -/
import Derived.Test.YtocjknmojcgeiaaPut
import Derived.Test.YtocjknmojcgeiaaStBondDiffers
namespace Go.Proofs.Ytocjknmojcgeiaa.Pure
set_option linter.unusedSectionVars false
set_option linter.unnecessarySimpa false
open Go.RowKit Go.Proofs.Ytocjknmojcgeiaa.Bd Hand
open Go.Proofs.YtocjknmojcgeiaaW.PrintWords hiding Ev
set_option linter.unusedVariables false
set_option linter.unusedSimpArgs false
/-- The pairs of heads, and the contradictions, among the first i decisions in force. -/
def wantF (r : List S66) (h : List Int) (f : List S39) : Nat → List S48
  | 0 => []
  | i + 1 => if hitB (idxM r r.length) 2 (rd_T39 f i) = true ∧ ¬ rd h (ixP r (rd_T39 f i).f1) = rd h (ixP r (rd_T39 f i).f2) then insP (wantF r h f i) (pairOf (rd h (ixP r (rd_T39 f i).f1)) (rd h (ixP r (rd_T39 f i).f2))) else wantF r h f i
def otherF (r : List S66) (h : List Int) (f : List S39) : Nat → List S48
  | 0 => []
  | i + 1 => if hitB (idxM r r.length) 2 (rd_T39 f i) = true ∧ rd h (ixP r (rd_T39 f i).f1) = rd h (ixP r (rd_T39 f i).f2) then insP (otherF r h f i) (pairOf (ixP r (rd_T39 f i).f1) (ixP r (rd_T39 f i).f2)) else otherF r h f i
theorem wantF_ok (r : List S66) (h : List Int) (f : List S39) : ∀ i, (wantF r h f i).length ≤ i ∧ Strict (wantF r h f i) ∧ ∀ y, y ∈ wantF r h f i ↔ ∃ t : Nat, t < i ∧ hitB (idxM r r.length) 2 (rd_T39 f t) = true ∧ ¬ rd h (ixP r (rd_T39 f t).f1) = rd h (ixP r (rd_T39 f t).f2) ∧ y = pairOf (rd h (ixP r (rd_T39 f t).f1)) (rd h (ixP r (rd_T39 f t).f2))
  | 0 => ⟨Nat.le_refl _, List.Pairwise.nil, fun y => by simp [wantF]⟩
  | i + 1 => by
    obtain ⟨h1, h2, h3⟩ := wantF_ok r h f i
    rw [wantF]
    by_cases hc : hitB (idxM r r.length) 2 (rd_T39 f i) = true ∧ ¬ rd h (ixP r (rd_T39 f i).f1) = rd h (ixP r (rd_T39 f i).f2)
    · rw [if_pos hc]
      refine ⟨Nat.le_trans (insP_len _ _) (by omega), insP_strict _ _ h2, fun y => ?_⟩
      rw [insP_mem, h3]
      constructor
      · rintro (rfl | ⟨t, g1, g2⟩)
        · exact ⟨i, by omega, hc.1, hc.2, rfl⟩
        · exact ⟨t, by omega, g2⟩
      · rintro ⟨t, g1, g2, g3, g4⟩
        by_cases e : t = i
        · subst e; exact .inl g4
        · exact .inr ⟨t, by omega, g2, g3, g4⟩
    · rw [if_neg hc]
      refine ⟨by omega, h2, fun y => ?_⟩
      rw [h3]
      constructor
      · rintro ⟨t, g1, g2⟩
        exact ⟨t, by omega, g2⟩
      · rintro ⟨t, g1, g2, g3, g4⟩
        by_cases e : t = i
        · subst e; exact absurd ⟨g2, g3⟩ hc
        · exact ⟨t, by omega, g2, g3, g4⟩
theorem otherF_ok (r : List S66) (h : List Int) (f : List S39) : ∀ i, (otherF r h f i).length ≤ i ∧ Strict (otherF r h f i) ∧ ∀ y, y ∈ otherF r h f i ↔ ∃ t : Nat, t < i ∧ hitB (idxM r r.length) 2 (rd_T39 f t) = true ∧ rd h (ixP r (rd_T39 f t).f1) = rd h (ixP r (rd_T39 f t).f2) ∧ y = pairOf (ixP r (rd_T39 f t).f1) (ixP r (rd_T39 f t).f2)
  | 0 => ⟨Nat.le_refl _, List.Pairwise.nil, fun y => by simp [otherF]⟩
  | i + 1 => by
    obtain ⟨h1, h2, h3⟩ := otherF_ok r h f i
    rw [otherF]
    by_cases hc : hitB (idxM r r.length) 2 (rd_T39 f i) = true ∧ rd h (ixP r (rd_T39 f i).f1) = rd h (ixP r (rd_T39 f i).f2)
    · rw [if_pos hc]
      refine ⟨Nat.le_trans (insP_len _ _) (by omega), insP_strict _ _ h2, fun y => ?_⟩
      rw [insP_mem, h3]
      constructor
      · rintro (rfl | ⟨t, g1, g2⟩)
        · exact ⟨i, by omega, hc.1, hc.2, rfl⟩
        · exact ⟨t, by omega, g2⟩
      · rintro ⟨t, g1, g2, g3, g4⟩
        by_cases e : t = i
        · subst e; exact .inl g4
        · exact .inr ⟨t, by omega, g2, g3, g4⟩
    · rw [if_neg hc]
      refine ⟨by omega, h2, fun y => ?_⟩
      rw [h3]
      constructor
      · rintro ⟨t, g1, g2⟩
        exact ⟨t, by omega, g2⟩
      · rintro ⟨t, g1, g2, g3, g4⟩
        by_cases e : t = i
        · subst e; exact absurd ⟨g2, g3⟩ hc
        · exact ⟨t, by omega, g2, g3, g4⟩
theorem pair_cases (a b : Int) : ((pairOf a b).f0 = a ∧ (pairOf a b).f1 = b) ∨ ((pairOf a b).f0 = b ∧ (pairOf a b).f1 = a) := by
  show (min a b = a ∧ max a b = b) ∨ (min a b = b ∧ max a b = a)
  omega
theorem pair_comm (a b : Int) : pairOf a b = pairOf b a := by
  unfold pairOf
  rw [Int.min_comm, Int.max_comm]
theorem apF_mem (ρ : Nat → Nat) (ps : List S48) (y : S48) : ∀ i, i ≤ ps.length → (y ∈ apF ρ ps i ↔ ∃ t : Nat, t < i ∧ ρ (rd_T48 ps t).f0.toNat ≠ ρ (rd_T48 ps t).f1.toNat ∧ y = pairOf (ρ (rd_T48 ps t).f0.toNat) (ρ (rd_T48 ps t).f1.toNat))
  | 0, _ => by simp [apF]
  | i + 1, hi => by
    have ih := apF_mem ρ ps y i (by omega)
    rw [apF]
    by_cases hc : ρ (rd_T48 ps i).f0.toNat ≠ ρ (rd_T48 ps i).f1.toNat
    · rw [if_pos hc, List.mem_append, ih, List.mem_singleton]
      constructor
      · rintro (⟨t, g1, g2⟩ | rfl)
        · exact ⟨t, by omega, g2⟩
        · exact ⟨i, by omega, hc, rfl⟩
      · rintro ⟨t, g1, g2, g3⟩
        by_cases e : t = i
        · subst e; exact .inr g3
        · exact .inl ⟨t, by omega, g2, g3⟩
    · rw [if_neg hc, ih]
      constructor
      · rintro ⟨t, g1, g2⟩
        exact ⟨t, by omega, g2⟩
      · rintro ⟨t, g1, g2, g3⟩
        by_cases e : t = i
        · subst e; exact absurd g2 hc
        · exact ⟨t, by omega, g2, g3⟩
theorem dlF_mem (ρ : Nat → Nat) (ps : List S48) (y : S48) : ∀ i, i ≤ ps.length → (y ∈ dlF ρ ps i ↔ ∃ t : Nat, t < i ∧ difB ρ (rd_T48 ps t) = false ∧ y = rd_T48 ps t)
  | 0, _ => by simp [dlF]
  | i + 1, hi => by
    have ih := dlF_mem ρ ps y i (by omega)
    rw [dlF]
    by_cases hc : difB ρ (rd_T48 ps i) = true
    · rw [if_pos hc, ih]
      constructor
      · rintro ⟨t, g1, g2⟩
        exact ⟨t, by omega, g2⟩
      · rintro ⟨t, g1, g2, g3⟩
        by_cases e : t = i
        · subst e; rw [hc] at g2; cases g2
        · exact ⟨t, by omega, g2, g3⟩
    · rw [if_neg hc, List.mem_append, ih, List.mem_singleton]
      constructor
      · rintro (⟨t, g1, g2⟩ | rfl)
        · exact ⟨t, by omega, g2⟩
        · exact ⟨i, by omega, by simpa using hc, rfl⟩
      · rintro ⟨t, g1, g2, g3⟩
        by_cases e : t = i
        · subst e; exact .inr g3
        · exact .inl ⟨t, by omega, g2, g3⟩
theorem hit_in {r : List S66} {kind : Int} {x : S39} (h : hitB (idxM r r.length) kind x = true) : x.f0 = kind ∧ 0 ≤ ixP r x.f1 ∧ ixP r x.f1 < r.length ∧ 0 ≤ ixP r x.f2 ∧ ixP r x.f2 < r.length := by
  rw [hit_is] at h
  simp only [inB, Bool.and_eq_true, decide_eq_true_eq] at h
  exact ⟨h.1, (ixP_ge r x.f1).2 h.2.1, ixP_lt r x.f1, (ixP_ge r x.f2).2 h.2.2, ixP_lt r x.f2⟩
/-- The pairs of bond.split are those of the hits. -/
theorem pairs_ex (r : List S66) (l : List S39) (Q : S48 → Prop) : (∃ t : Nat, t < (pairsL r l).length ∧ Q (rd_T48 (pairsL r l) t)) ↔ ∃ t : Nat, t < (effL l).length ∧ hitB (idxM r r.length) 2 (rd_T39 (effL l) t) = true ∧ Q (pairOf (ixP r (rd_T39 (effL l) t).f1) (ixP r (rd_T39 (effL l) t).f2)) := by
  have h1 : (∃ t : Nat, t < (pairsL r l).length ∧ Q (rd_T48 (pairsL r l) t)) ↔ ∃ p ∈ pairsL r l, Q p := by
    constructor
    · rintro ⟨t, h1, h2⟩
      exact ⟨_, rd48_mem _ _ h1, h2⟩
    · rintro ⟨p, h1, h2⟩
      obtain ⟨t, ht, rfl⟩ := List.getElem_of_mem h1
      exact ⟨t, ht, by rw [rd48 _ _ ht]; exact h2⟩
  rw [h1, pairs_map]
  constructor
  · rintro ⟨p, hp, hq⟩
    obtain ⟨x, hx, rfl⟩ := List.mem_map.1 hp
    obtain ⟨h2, h3⟩ := List.mem_filter.1 hx
    obtain ⟨t, ht, rfl⟩ := List.getElem_of_mem h2
    exact ⟨t, ht, by rw [rd39 _ _ ht]; exact ⟨h3, hq⟩⟩
  · rintro ⟨t, ht, h3, hq⟩
    refine ⟨_, List.mem_map.2 ⟨rd_T39 (effL l) t, List.mem_filter.2 ⟨?_, h3⟩, rfl⟩, hq⟩
    rw [rd39 _ _ ht]
    exact List.getElem_mem ht
theorem want_is (r : List S66) (l : List S39) : wantF r (bindL1 r l) (effL l) (effL l).length = bindL2 r l := by
  obtain ⟨_, h2, h3⟩ := wantF_ok r (bindL1 r l) (effL l) (effL l).length
  refine strictP_ext h2 (setL_strict _) (fun y => ?_)
  show _ ↔ y ∈ setL (apF (rootsL r l) (pairsL r l) (pairsL r l).length)
  rw [h3, setL_mem, apF_mem _ _ _ _ (Nat.le_refl _), pairs_ex r l (fun p => rootsL r l p.f0.toNat ≠ rootsL r l p.f1.toNat ∧ y = pairOf (rootsL r l p.f0.toNat) (rootsL r l p.f1.toNat))]
  refine exists_congr (fun t => and_congr_right (fun _ => and_congr_right (fun hh => ?_)))
  obtain ⟨_, a0, a1, b0, b1⟩ := hit_in hh
  have ea : rd (bindL1 r l) (ixP r (rd_T39 (effL l) t).f1) = ((rootsL r l (ixP r (rd_T39 (effL l) t).f1).toNat : Nat) : Int) := headsF_rd _ _ _ a0 a1
  have eb : rd (bindL1 r l) (ixP r (rd_T39 (effL l) t).f2) = ((rootsL r l (ixP r (rd_T39 (effL l) t).f2).toNat : Nat) : Int) := headsF_rd _ _ _ b0 b1
  rw [ea, eb]
  rcases pair_cases (ixP r (rd_T39 (effL l) t).f1) (ixP r (rd_T39 (effL l) t).f2) with ⟨e1, e2⟩ | ⟨e1, e2⟩
  · rw [e1, e2]
    exact and_congr_left (fun _ => by omega)
  · rw [e1, e2, pair_comm]
    exact and_congr_left (fun _ => by omega)
theorem other_is (r : List S66) (l : List S39) : otherF r (bindL1 r l) (effL l) (effL l).length = contraL r l := by
  obtain ⟨_, h2, h3⟩ := otherF_ok r (bindL1 r l) (effL l) (effL l).length
  refine strictP_ext h2 (setL_strict _) (fun y => ?_)
  show _ ↔ y ∈ setL (dlF (rootsL r l) (pairsL r l) (pairsL r l).length)
  rw [h3, setL_mem, dlF_mem _ _ _ _ (Nat.le_refl _), pairs_ex r l (fun p => difB (rootsL r l) p = false ∧ y = p)]
  refine exists_congr (fun t => and_congr_right (fun _ => and_congr_right (fun hh => ?_)))
  obtain ⟨_, a0, a1, b0, b1⟩ := hit_in hh
  have ea : rd (bindL1 r l) (ixP r (rd_T39 (effL l) t).f1) = ((rootsL r l (ixP r (rd_T39 (effL l) t).f1).toNat : Nat) : Int) := headsF_rd _ _ _ a0 a1
  have eb : rd (bindL1 r l) (ixP r (rd_T39 (effL l) t).f2) = ((rootsL r l (ixP r (rd_T39 (effL l) t).f2).toNat : Nat) : Int) := headsF_rd _ _ _ b0 b1
  rw [ea, eb]
  refine and_congr_left (fun _ => ?_)
  unfold difB
  rw [bne_eq_false_iff_eq]
  rcases pair_cases (ixP r (rd_T39 (effL l) t).f1) (ixP r (rd_T39 (effL l) t).f2) with ⟨e1, e2⟩ | ⟨e1, e2⟩
  · rw [e1, e2]
  · rw [e1, e2]; exact eq_comm
theorem differs_l0 (r : List S66) (l : List S39) (hr : r.length ≤ 60) (hl : l.length ≤ 60) (d : Nat) : ∀ i : Nat, i + d = (effL l).length → Ev (fun k => cleanselaw21_BondDiffers.l0 k r true (bindL1 r l) (bindL2 r l) (contraL r l) (wantF r (bindL1 r l) (effL l) i) (otherF r (bindL1 r l) (effL l) i) (effL l) i) true := by
  have hf := effL_len l
  induction d with
  | zero =>
    intro i hi
    have n2 := bindL2_len r l
    have n3 := contraL_len r l
    obtain rfl : i = (effL l).length := by omega
    rw [want_is, other_is]
    obtain ⟨K2, g2⟩ := refPairs (bindL2 r l) (by omega)
    obtain ⟨K3, g3⟩ := refPairs (contraL r l) (by omega)
    dsimp only at g2 g3
    refine ⟨max K2 K3 + 1, fun k hk => ?_⟩
    obtain ⟨m, rfl⟩ : ∃ m, k = m + 1 := ⟨k - 1, by omega⟩
    show cleanselaw21_BondDiffers.l0 (m + 1) r true (bindL1 r l) (bindL2 r l) (contraL r l) (bindL2 r l) (contraL r l) (effL l) (effL l).length = _
    rw [cleanselaw21_BondDiffers.l0, if_neg (by omega), if_pos rfl, g2 _ (by omega), Option.bind_some, if_pos rfl, g3 _ (by omega)]
    rfl
  | succ d ih =>
    intro i hi
    have hw : wrap64 ((i : Int) + 1) = ((i + 1 : Nat) : Int) := by rw [wrap_up (by omega) (by omega)]; rfl
    have hW := (wantF_ok r (bindL1 r l) (effL l) i).1
    have hO := (otherF_ok r (bindL1 r l) (effL l) i).1
    have hbl := bindL1_len r l
    obtain ⟨K0, g0⟩ := ih (i + 1) (by omega)
    obtain ⟨K1, g1⟩ := refIndex r (rd_T39 (effL l) i).f1 (by omega)
    obtain ⟨K2, g2⟩ := refIndex r (rd_T39 (effL l) i).f2 (by omega)
    obtain ⟨K3, g3⟩ := refPut (otherF r (bindL1 r l) (effL l) i) (ixP r (rd_T39 (effL l) i).f1) (ixP r (rd_T39 (effL l) i).f2) (by omega)
    obtain ⟨K4, g4⟩ := refPut (wantF r (bindL1 r l) (effL l) i) (rd (bindL1 r l) (ixP r (rd_T39 (effL l) i).f1)) (rd (bindL1 r l) (ixP r (rd_T39 (effL l) i).f2)) (by omega)
    dsimp only at g0 g1 g2 g3 g4
    refine ⟨max K0 (max K1 (max K2 (max K3 K4))) + 2, fun k hk => ?_⟩
    obtain ⟨m, rfl⟩ : ∃ m, k = m + 2 := ⟨k - 2, by omega⟩
    have g0' := g0 m (by omega)
    show cleanselaw21_BondDiffers.l0 (m + 1 + 1) r true (bindL1 r l) (bindL2 r l) (contraL r l) (wantF r (bindL1 r l) (effL l) i) (otherF r (bindL1 r l) (effL l) i) (effL l) i = _
    rw [cleanselaw21_BondDiffers.l0, if_pos (by omega), if_pos (by omega), g1 _ (by omega), Option.bind_some, g2 _ (by omega), Option.bind_some]
    have hhit : hitB (idxM r r.length) 2 (rd_T39 (effL l) i) = (decide ((rd_T39 (effL l) i).f0 = 2) && inB r (rd_T39 (effL l) i)) := hit_is _ _ _
    have miss : hitB (idxM r r.length) 2 (rd_T39 (effL l) i) = false → cleanselaw21_BondDiffers.j1 (m + 1) r true (bindL1 r l) (bindL2 r l) (contraL r l) (wantF r (bindL1 r l) (effL l) i) (otherF r (bindL1 r l) (effL l) i) (effL l) i (ixP r (rd_T39 (effL l) i).f1) (ixP r (rd_T39 (effL l) i).f2) true = some true := by
      intro h
      rw [cleanselaw21_BondDiffers.j1, if_pos rfl, hw]
      rw [wantF, otherF, if_neg (fun e => by rw [h] at e; exact absurd e.1 (by decide)), if_neg (fun e => by rw [h] at e; exact absurd e.1 (by decide))] at g0'
      exact g0'
    by_cases h2 : (rd_T39 (effL l) i).f0 = 2
    · rw [if_pos h2]
      by_cases ha : ixP r (rd_T39 (effL l) i).f1 < 0
      · rw [if_pos ha]
        refine miss ?_
        rw [hhit]
        unfold inB
        have := mt (ixP_ge r (rd_T39 (effL l) i).f1).2 (by omega)
        rw [Bool.not_eq_true] at this
        rw [this, Bool.false_and, Bool.and_false]
      · rw [if_neg ha]
        by_cases hb : ixP r (rd_T39 (effL l) i).f2 < 0
        · rw [decide_eq_true hb]
          refine miss ?_
          rw [hhit]
          unfold inB
          have := mt (ixP_ge r (rd_T39 (effL l) i).f2).2 (by omega)
          rw [Bool.not_eq_true] at this
          rw [this, Bool.and_false, Bool.and_false]
        · rw [decide_eq_false hb]
          have hh : hitB (idxM r r.length) 2 (rd_T39 (effL l) i) = true := by
            rw [hhit, decide_eq_true h2]
            unfold inB
            rw [(ixP_ge _ _).1 (show ixP r (rd_T39 (effL l) i).f1 ≥ 0 by omega), (ixP_ge _ _).1 (show ixP r (rd_T39 (effL l) i).f2 ≥ 0 by omega)]
            rfl
          have la := ixP_lt r (rd_T39 (effL l) i).f1
          have lb := ixP_lt r (rd_T39 (effL l) i).f2
          rw [cleanselaw21_BondDiffers.j1, if_neg (by decide), if_pos (by omega), if_pos (by omega), if_pos (by omega), if_pos (by omega)]
          by_cases he : rd (bindL1 r l) (ixP r (rd_T39 (effL l) i).f1) = rd (bindL1 r l) (ixP r (rd_T39 (effL l) i).f2)
          · rw [wantF, otherF, if_neg (fun e => e.2 he), if_pos ⟨hh, he⟩] at g0'
            rw [if_pos he, g3 _ (by omega), Option.bind_some, hw]
            exact g0'
          · rw [wantF, otherF, if_pos ⟨hh, he⟩, if_neg (fun e => he e.2)] at g0'
            rw [if_neg he, g4 _ (by omega), Option.bind_some, hw]
            exact g0'
    · rw [if_neg h2]
      refine miss ?_
      rw [hhit, decide_eq_false h2, Bool.false_and]
theorem BondDiffers : BondDiffers_pure := by
  intro r l _ _ _ _
  obtain ⟨K1, g1⟩ := head_ev
  dsimp only at g1
  by_cases hfew : r.length ≤ 60 ∧ l.length ≤ 60
  · obtain ⟨K2, g2⟩ := differs_l0 r l hfew.1 hfew.2 (effL l).length 0 (by omega)
    dsimp only at g2
    have hbl := bindL1_len r l
    refine ⟨max K1 K2, ?_⟩
    rw [cleanselaw21_BondDiffers.f, g1 _ (by omega), Option.bind_some, few_is, Option.bind_some, if_pos (decide_eq_true hfew), bind_is (by omega) (by omega), Option.bind_some, contra_is (by omega) (by omega), Option.bind_some, if_pos (by show ((bindL1 r l).length : Int) = _; omega), eff_is (by omega), Option.bind_some]
    exact g2 _ (by omega)
  · refine ⟨K1, ?_⟩
    rw [cleanselaw21_BondDiffers.f, g1 _ (by omega), Option.bind_some, few_is, Option.bind_some, if_neg (by rw [decide_eq_false hfew]; simp)]
end Go.Proofs.Ytocjknmojcgeiaa.Pure
