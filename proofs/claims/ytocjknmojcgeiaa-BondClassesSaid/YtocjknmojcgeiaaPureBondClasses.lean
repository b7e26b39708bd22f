/- BondClasses in plain words: the heads are those of the smallest classes that the decisions 'same' keep together. -/
import Derived.Test.YtocjknmojcgeiaaIdx
import Derived.Test.YtocjknmojcgeiaaStBondClasses
namespace Go.Proofs.Ytocjknmojcgeiaa.Pure
set_option linter.unusedSectionVars false
set_option linter.unnecessarySimpa false
open Go.RowKit Go.Proofs.Ytocjknmojcgeiaa.Bd Hand
open Go.Proofs.YtocjknmojcgeiaaW.PrintWords hiding Ev
set_option linter.unusedVariables false
set_option linter.unusedSimpArgs false
structure Good (ρ : Nat → Nat) : Prop where
  le : ∀ j, ρ j ≤ j
  idem : ∀ j, ρ (ρ j) = ρ j
theorem good_join {ρ : Nat → Nat} (h : Good ρ) (a b : Nat) : Good (joinF ρ a b) := by
  have ia := h.idem a
  have ib := h.idem b
  refine ⟨fun j => ?_, fun j => ?_⟩
  · have := h.le j
    unfold joinF
    split <;> omega
  · have ij := h.idem j
    have im : ρ (min (ρ a) (ρ b)) = min (ρ a) (ρ b) := by
      rcases (show min (ρ a) (ρ b) = ρ a ∨ min (ρ a) (ρ b) = ρ b by omega) with e | e
      · rw [e, ia]
      · rw [e, ib]
    unfold joinF
    by_cases e : ρ j = max (ρ a) (ρ b)
    · rw [if_pos e, im]
      by_cases e2 : min (ρ a) (ρ b) = max (ρ a) (ρ b)
      · rw [if_pos e2]
      · rw [if_neg e2]
    · rw [if_neg e, ij, if_neg e]
theorem eq_join {ρ : Nat → Nat} {j k : Nat} (h : ρ j = ρ k) (a b : Nat) : joinF ρ a b j = joinF ρ a b k := by
  unfold joinF
  rw [h]
theorem hit_join (ρ : Nat → Nat) (a b : Nat) : joinF ρ a b a = joinF ρ a b b := by
  unfold joinF
  by_cases h1 : ρ a = max (ρ a) (ρ b)
  · rw [if_pos h1]
    by_cases h2 : ρ b = max (ρ a) (ρ b)
    · rw [if_pos h2]
    · rw [if_neg h2]; omega
  · rw [if_neg h1]
    by_cases h2 : ρ b = max (ρ a) (ρ b)
    · rw [if_pos h2]; omega
    · omega
theorem cls_join {c : Nat → Int} {ρ : Nat → Nat} (h : ∀ j, c j = c (ρ j)) {a b : Nat} (hab : c a = c b) (j : Nat) : c j = c (joinF ρ a b j) := by
  unfold joinF
  by_cases e : ρ j = max (ρ a) (ρ b)
  · rw [if_pos e, h j, e]
    have ha := h a
    have hb := h b
    rcases (show (max (ρ a) (ρ b) = ρ a ∧ min (ρ a) (ρ b) = ρ b) ∨ (max (ρ a) (ρ b) = ρ b ∧ min (ρ a) (ρ b) = ρ a) by omega) with ⟨e1, e2⟩ | ⟨e1, e2⟩
    · rw [e1, e2]; omega
    · rw [e1, e2]; omega
  · rw [if_neg e]; exact h j
abbrev jn (r : List S66) (ρ : Nat → Nat) (x : S39) : Nat → Nat := joinF ρ (ixP r x.f1).toNat (ixP r x.f2).toNat
theorem fold_good (r : List S66) : ∀ (L : List S39) (ρ : Nat → Nat), Good ρ → Good (L.foldl (jn r) ρ)
  | [], _, h => h
  | x :: L, ρ, h => fold_good r L _ (good_join h _ _)
theorem fold_eq (r : List S66) : ∀ (L : List S39) (ρ : Nat → Nat) (j k : Nat), ρ j = ρ k → L.foldl (jn r) ρ j = L.foldl (jn r) ρ k
  | [], _, _, _, h => h
  | x :: L, ρ, j, k, h => fold_eq r L _ j k (eq_join h _ _)
theorem fold_hit (r : List S66) : ∀ (L : List S39) (ρ : Nat → Nat) (x : S39), x ∈ L → L.foldl (jn r) ρ (ixP r x.f1).toNat = L.foldl (jn r) ρ (ixP r x.f2).toNat
  | [], _, x, h => by simp at h
  | y :: L, ρ, x, h => by
    rcases List.mem_cons.1 h with rfl | h
    · exact fold_eq r L _ _ _ (hit_join _ _ _)
    · exact fold_hit r L _ x h
theorem fold_cls (r : List S66) (c : Nat → Int) : ∀ (L : List S39) (ρ : Nat → Nat), (∀ x ∈ L, c (ixP r x.f1).toNat = c (ixP r x.f2).toNat) → (∀ j, c j = c (ρ j)) → ∀ j, c j = c (L.foldl (jn r) ρ j)
  | [], _, _, h => h
  | x :: L, ρ, hx, h => fold_cls r c L _ (fun y hy => hx y (List.mem_cons_of_mem _ hy)) (fun j => cls_join h (hx x List.mem_cons_self) j)
theorem roots_jn (r : List S66) (l : List S39) : rootsL r l = (hits r 1 (effL l)).foldl (jn r) id := roots_fold r l
theorem roots_good (r : List S66) (l : List S39) : Good (rootsL r l) := by
  rw [roots_jn]
  exact fold_good r _ _ ⟨fun j => Nat.le_refl j, fun j => rfl⟩
/-- Whether the given division keeps the first i decisions 'same' together. -/
def keptF (r : List S66) (c : List Int) (f : List S39) : Nat → Bool
  | 0 => decide ((c.length : Int) ≥ (r.length : Int))
  | i + 1 => if hitB (idxM r r.length) 1 (rd_T39 f i) = true then keptF r c f i && (rd c (ixP r (rd_T39 f i).f1) == rd c (ixP r (rd_T39 f i).f2)) else keptF r c f i
theorem keptF_len (r : List S66) (c : List Int) (f : List S39) : ∀ i, keptF r c f i = true → (c.length : Int) ≥ r.length
  | 0, h => of_decide_eq_true h
  | i + 1, h => by
    rw [keptF] at h
    split at h
    · simp only [Bool.and_eq_true] at h
      exact keptF_len r c f i h.1
    · exact keptF_len r c f i h
theorem keptF_hit (r : List S66) (c : List Int) (f : List S39) : ∀ i, keptF r c f i = true → ∀ t : Nat, t < i → hitB (idxM r r.length) 1 (rd_T39 f t) = true → rd c (ixP r (rd_T39 f t).f1) = rd c (ixP r (rd_T39 f t).f2)
  | 0, _, t, ht, _ => by omega
  | i + 1, h, t, ht, hh => by
    rw [keptF] at h
    by_cases e : t = i
    · subst e
      rw [if_pos hh] at h
      simp only [Bool.and_eq_true, beq_iff_eq] at h
      exact h.2
    · have h' : keptF r c f i = true := by
        split at h
        · simp only [Bool.and_eq_true] at h
          exact h.1
        · exact h
      exact keptF_hit r c f i h' t (by omega) hh
theorem hit_in1 {r : List S66} {kind : Int} {x : S39} (h : hitB (idxM r r.length) kind x = true) : x.f0 = kind ∧ 0 ≤ ixP r x.f1 ∧ ixP r x.f1 < r.length ∧ 0 ≤ ixP r x.f2 ∧ ixP r x.f2 < r.length := by
  rw [hit_is] at h
  simp only [inB, Bool.and_eq_true, decide_eq_true_eq] at h
  exact ⟨h.1, (ixP_ge r x.f1).2 h.2.1, ixP_lt r x.f1, (ixP_ge r x.f2).2 h.2.2, ixP_lt r x.f2⟩
theorem rd_cls (r : List S66) (l : List S39) (j : Int) (h0 : 0 ≤ j) (h1 : j < r.length) : rd (bindL1 r l) j = ((rootsL r l j.toNat : Nat) : Int) := headsF_rd _ _ j h0 h1
theorem kept_all (r : List S66) (l : List S39) (c : List Int) (h : keptF r c (effL l) (effL l).length = true) (i : Nat) (hi : i < r.length) : rd c i = rd c (rd (bindL1 r l) i) := by
  have hc := fold_cls r (fun j => rd c j) (hits r 1 (effL l)) id (fun x hx => by
    obtain ⟨h2, h3⟩ := List.mem_filter.1 hx
    obtain ⟨t, ht, rfl⟩ := List.getElem_of_mem h2
    rw [← rd39 _ _ ht] at h3 ⊢
    obtain ⟨_, a0, _, b0, _⟩ := hit_in1 h3
    have := keptF_hit r c (effL l) _ h t ht h3
    show rd c (((ixP r (rd_T39 (effL l) t).f1).toNat : Nat) : Int) = rd c (((ixP r (rd_T39 (effL l) t).f2).toNat : Nat) : Int)
    rw [Int.toNat_of_nonneg a0, Int.toNat_of_nonneg b0]
    exact this) (fun j => rfl) i
  rw [← roots_jn] at hc
  rw [rd_cls r l i (by omega) (by omega), Int.toNat_natCast]
  exact hc
theorem classes_l2 (r : List S66) (l : List S39) (c : List Int) (hr : r.length ≤ 60) (d : Nat) : ∀ i : Nat, i + d = r.length → Ev (fun k => cleanselaw21_BondClasses.l2 k c true (bindL1 r l) (keptF r c (effL l) (effL l).length) i) true := by
  have hbl := bindL1_len r l
  have hstop : ∀ i : Nat, ∀ K : Bool, Ev (fun k => cleanselaw21_BondClasses.j4 k c true (bindL1 r l) K i false) true := fun i K => Ev.step (Ev.of fun k => by rw [cleanselaw21_BondClasses.j4, if_neg (by decide)])
  induction d with
  | zero =>
    intro i hi
    refine Ev.step ((hstop i (keptF r c (effL l) (effL l).length)).congr fun k => ?_)
    rw [cleanselaw21_BondClasses.l2, if_neg (by omega)]
  | succ d ih =>
    intro i hi
    have hw : wrap64 ((i : Int) + 1) = ((i + 1 : Nat) : Int) := by rw [wrap_up (by omega) (by omega)]; rfl
    cases hK : keptF r c (effL l) (effL l).length with
    | false =>
      refine Ev.step ((hstop i false).congr fun k => ?_)
      rw [cleanselaw21_BondClasses.l2, if_pos (by omega)]
    | true =>
      have hlen := keptF_len r c (effL l) _ hK
      have hall := kept_all r l c hK i (by omega)
      have hg := (roots_good r l).le i
      have hrd := rd_cls r l i (by omega) (by omega)
      rw [Int.toNat_natCast] at hrd
      rw [hK] at ih
      refine Ev.step (Ev.step ((ih (i + 1) (by omega)).congr fun k => ?_))
      rw [cleanselaw21_BondClasses.l2, if_pos (by omega), cleanselaw21_BondClasses.j4, if_pos rfl, if_pos (by omega), if_pos (by omega), if_pos (by omega), if_pos (by omega), if_pos (by omega), if_pos hall, hw]
theorem classes_l1 (r : List S66) (l : List S39) (c : List Int) (hr : r.length ≤ 60) (hl : l.length ≤ 60) (d : Nat) : ∀ i : Nat, i + d = (effL l).length → Ev (fun k => cleanselaw21_BondClasses.l1 k r c true (bindL1 r l) (keptF r c (effL l) i) (effL l) i) true := by
  have hf := effL_len l
  have hbl := bindL1_len r l
  induction d with
  | zero =>
    intro i hi
    obtain rfl : i = (effL l).length := by omega
    refine Ev.step ((classes_l2 r l c hr r.length 0 (by omega)).congr fun k => ?_)
    rw [cleanselaw21_BondClasses.l1, if_neg (by omega)]
    rfl
  | succ d ih =>
    intro i hi
    have hw : wrap64 ((i : Int) + 1) = ((i + 1 : Nat) : Int) := by rw [wrap_up (by omega) (by omega)]; rfl
    obtain ⟨K0, g0⟩ := ih (i + 1) (by omega)
    obtain ⟨K1, g1⟩ := refIndex r (rd_T39 (effL l) i).f1 (by omega)
    obtain ⟨K2, g2⟩ := refIndex r (rd_T39 (effL l) i).f2 (by omega)
    dsimp only at g0 g1 g2
    refine ⟨max K0 (max K1 K2) + 2, fun k hk => ?_⟩
    obtain ⟨m, rfl⟩ : ∃ m, k = m + 2 := ⟨k - 2, by omega⟩
    have g0' := g0 m (by omega)
    show cleanselaw21_BondClasses.l1 (m + 1 + 1) r c true (bindL1 r l) (keptF r c (effL l) i) (effL l) i = _
    rw [cleanselaw21_BondClasses.l1, if_pos (by omega), if_pos (by omega), g1 _ (by omega), Option.bind_some, g2 _ (by omega), Option.bind_some]
    have hhit : hitB (idxM r r.length) 1 (rd_T39 (effL l) i) = (decide ((rd_T39 (effL l) i).f0 = 1) && inB r (rd_T39 (effL l) i)) := hit_is _ _ _
    have miss : hitB (idxM r r.length) 1 (rd_T39 (effL l) i) = false → cleanselaw21_BondClasses.j2 (m + 1) r c true (bindL1 r l) (keptF r c (effL l) i) (effL l) i (ixP r (rd_T39 (effL l) i).f1) (ixP r (rd_T39 (effL l) i).f2) true = some true := by
      intro h
      rw [cleanselaw21_BondClasses.j2, if_pos rfl, hw]
      rw [keptF, if_neg (by rw [h]; decide)] at g0'
      exact g0'
    by_cases h2 : (rd_T39 (effL l) i).f0 = 1
    · rw [if_pos h2]
      by_cases ha : ixP r (rd_T39 (effL l) i).f1 < 0
      · rw [if_pos ha]
        refine miss ?_
        rw [hhit]
        unfold inB
        have := mt (ixP_ge r (rd_T39 (effL l) i).f1).2 (by omega)
        rw [Bool.not_eq_true] at this
        rw [this, Bool.false_and, Bool.and_false]
      · rw [if_neg ha]
        by_cases hb : ixP r (rd_T39 (effL l) i).f2 < 0
        · rw [decide_eq_true hb]
          refine miss ?_
          rw [hhit]
          unfold inB
          have := mt (ixP_ge r (rd_T39 (effL l) i).f2).2 (by omega)
          rw [Bool.not_eq_true] at this
          rw [this, Bool.and_false, Bool.and_false]
        · rw [decide_eq_false hb]
          have hh : hitB (idxM r r.length) 1 (rd_T39 (effL l) i) = true := by
            rw [hhit, decide_eq_true h2]
            unfold inB
            rw [(ixP_ge _ _).1 (show ixP r (rd_T39 (effL l) i).f1 ≥ 0 by omega), (ixP_ge _ _).1 (show ixP r (rd_T39 (effL l) i).f2 ≥ 0 by omega)]
            rfl
          have la := ixP_lt r (rd_T39 (effL l) i).f1
          have lb := ixP_lt r (rd_T39 (effL l) i).f2
          have hmem : rd_T39 (effL l) i ∈ hits r 1 (effL l) := List.mem_filter.2 ⟨by rw [rd39 _ _ (by omega)]; exact List.getElem_mem (by omega), hh⟩
          have heq := fold_hit r (hits r 1 (effL l)) id _ hmem
          rw [← roots_jn] at heq
          have hE : rd (bindL1 r l) (ixP r (rd_T39 (effL l) i).f1) = rd (bindL1 r l) (ixP r (rd_T39 (effL l) i).f2) := by
            rw [rd_cls r l _ (by omega) la, rd_cls r l _ (by omega) lb, heq]
          rw [cleanselaw21_BondClasses.j2, if_neg (by decide), if_pos (by omega), if_pos (by omega), if_pos (by omega), if_pos (by omega), if_pos hE]
          rw [keptF, if_pos hh] at g0'
          cases hK : keptF r c (effL l) i with
          | true =>
            have hlen := keptF_len r c (effL l) _ hK
            rw [hK, Bool.true_and] at g0'
            rw [if_pos rfl, if_pos (by omega), if_pos (by omega), hw]
            exact g0'
          | false =>
            rw [hK, Bool.false_and] at g0'
            rw [if_neg (by decide), hw]
            exact g0'
    · rw [if_neg h2]
      refine miss ?_
      rw [hhit, decide_eq_false h2, Bool.false_and]
theorem classes_l0 (r : List S66) (l : List S39) (c : List Int) (hr : r.length ≤ 60) (hl : l.length ≤ 60) (d : Nat) : ∀ i : Nat, i + d = r.length → Ev (fun k => cleanselaw21_BondClasses.l0 k r l c true (bindL1 r l) i) true := by
  have hf := effL_len l
  have hbl := bindL1_len r l
  induction d with
  | zero =>
    intro i hi
    refine Ev.step ((classes_l1 r l c hr hl (effL l).length 0 (by omega)).congr fun k => ?_)
    rw [cleanselaw21_BondClasses.l0, if_neg (by omega), eff_is (by omega), Option.bind_some]
    rfl
  | succ d ih =>
    intro i hi
    have hw : wrap64 ((i : Int) + 1) = ((i + 1 : Nat) : Int) := by rw [wrap_up (by omega) (by omega)]; rfl
    have hg := (roots_good r l).le i
    have hid := (roots_good r l).idem i
    have hrd := rd_cls r l i (by omega) (by omega)
    rw [Int.toNat_natCast] at hrd
    have hrd2 := rd_cls r l ((rootsL r l i : Nat) : Int) (by omega) (by omega)
    rw [Int.toNat_natCast, hid] at hrd2
    refine Ev.step ((ih (i + 1) (by omega)).congr fun k => ?_)
    rw [cleanselaw21_BondClasses.l0, if_pos (by omega), if_pos (by omega), hrd, if_neg (by omega), if_neg (by omega), if_pos (by omega), if_pos (by omega), if_pos hrd2, hw]
theorem BondClasses : BondClasses_pure := by
  intro r l c _ _ _ _ _ _
  obtain ⟨K1, g1⟩ := head_ev
  dsimp only at g1
  by_cases hfew : r.length ≤ 60 ∧ l.length ≤ 60
  · obtain ⟨K2, g2⟩ := classes_l0 r l c hfew.1 hfew.2 r.length 0 (by omega)
    dsimp only at g2
    have hbl := bindL1_len r l
    refine ⟨max K1 K2, ?_⟩
    rw [cleanselaw21_BondClasses.f, g1 _ (by omega), Option.bind_some, few_is, Option.bind_some, if_pos (decide_eq_true hfew), bind_is (by omega) (by omega), Option.bind_some, if_pos (by show ((bindL1 r l).length : Int) = _; omega)]
    exact g2 _ (by omega)
  · refine ⟨K1, ?_⟩
    rw [cleanselaw21_BondClasses.f, g1 _ (by omega), Option.bind_some, few_is, Option.bind_some, if_neg (by rw [decide_eq_false hfew]; simp)]
end Go.Proofs.Ytocjknmojcgeiaa.Pure
