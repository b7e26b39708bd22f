/- BondLast in plain words: the decisions in force are formed, shut, in strict order, each the last about its pair, and in force as a list. -/
import Derived.Test.YtocjknmojcgeiaaIdx
import Derived.Test.YtocjknmojcgeiaaStBondLast
namespace Go.Proofs.Ytocjknmojcgeiaa.Pure
set_option linter.unusedSectionVars false
set_option linter.unnecessarySimpa false
open Go.RowKit Go.Proofs.Ytocjknmojcgeiaa.Bd Hand
open Go.Proofs.YtocjknmojcgeiaaW.PrintWords hiding Ev
set_option linter.unusedVariables false
set_option linter.unusedSimpArgs false
theorem cmpS_lt (a b : ByteArray) : cmpS a b < 0 ↔ Op.bytesLess a.toList b.toList = true := by
  unfold cmpS
  by_cases h : Op.bytesLess a.toList b.toList = true
  · rw [if_pos h]; simp [h]
  · rw [if_neg h]
    by_cases h2 : Op.bytesLess b.toList a.toList = true
    · rw [if_pos h2]; simp [h]
    · rw [if_neg h2]; simp [h]
theorem cmpI_lt (a b : Int) : cmpI a b < 0 ↔ a < b := by
  unfold cmpI
  by_cases h : a < b
  · rw [if_pos h]; simp [h]
  · rw [if_neg h]
    by_cases h2 : a > b
    · rw [if_pos h2]; simp [h]
    · rw [if_neg h2]; simp [h]
theorem or2_lt (a b : Int) : or2 a b < 0 ↔ a < 0 ∨ (a = 0 ∧ b < 0) := by
  unfold or2
  by_cases h : a = 0
  · rw [if_pos h]; omega
  · rw [if_neg h]; omega
theorem refLess (a b : S37) : cleanseref21_Less.f a.f0 a.f1 a.f2 b.f0 b.f1 b.f2 = some (decide (ordK a b < 0)) := by
  unfold cleanseref21_Less.f ordK
  by_cases h0 : a.f0 = b.f0
  · rw [if_pos h0]
    have e0 : cmpI a.f0 b.f0 = 0 := cmpI_zero.2 h0
    by_cases h1 : a.f1.toList = b.f1.toList
    · rw [if_pos h1]
      have e1 : cmpS a.f1 b.f1 = 0 := cmpS_zero.2 (toList_inj h1)
      congr 1
      rw [Bool.eq_iff_iff, decide_eq_true_eq, or2_lt, or2_lt, e0, e1, cmpS_lt]
      simp
    · rw [if_neg h1]
      have e1 : ¬ cmpS a.f1 b.f1 = 0 := fun h => h1 (by rw [cmpS_zero.1 h])
      congr 1
      rw [Bool.eq_iff_iff, decide_eq_true_eq, or2_lt, or2_lt, e0, ← cmpS_lt]
      constructor
      · intro h; exact .inr ⟨rfl, .inl h⟩
      · rintro (h | ⟨_, h | ⟨h, _⟩⟩)
        · omega
        · exact h
        · exact absurd h e1
  · rw [if_neg h0]
    have e0 : ¬ cmpI a.f0 b.f0 = 0 := fun h => h0 (cmpI_zero.1 h)
    congr 1
    rw [decide_eq_decide, or2_lt, ← cmpI_lt]
    constructor
    · exact .inl
    · rintro (h | ⟨h, _⟩)
      · exact h
      · exact absurd h e0
theorem refFormed (x : S39) : cleanseref21_Formed.f x.f0 x.f1.f0 x.f1.f1 x.f1.f2 x.f2.f0 x.f2.f1 x.f2.f2 = some (formedB x) := by
  unfold cleanseref21_Formed.f formedB
  by_cases h1 : x.f0 ≥ 1
  · rw [if_pos h1, decide_eq_true (show 1 ≤ x.f0 from h1)]
    by_cases h3 : x.f0 ≤ 3
    · rw [if_pos h3, decide_eq_true h3, refLess]
      rfl
    · rw [if_neg h3, decide_eq_false h3]
      rfl
  · rw [if_neg h1, decide_eq_false (show ¬ 1 ≤ x.f0 from h1)]
    rfl
theorem refBefore (x y : S39) : cleanseref21_Before.f x.f0 x.f1.f0 x.f1.f1 x.f1.f2 x.f2.f0 x.f2.f1 x.f2.f2 y.f0 y.f1.f0 y.f1.f1 y.f1.f2 y.f2.f0 y.f2.f1 y.f2.f2 = some (decide (ordD x y < 0)) := by
  unfold cleanseref21_Before.f ordD
  rw [refLess, Option.bind_some, key_eq]
  by_cases h : ordK x.f1 y.f1 < 0
  · rw [if_pos (decide_eq_true h)]
    congr 1
    exact (decide_eq_true ((or2_lt _ _).2 (.inl h))).symm
  · rw [if_neg (by rw [decide_eq_false h]; simp)]
    by_cases he : x.f1 = y.f1
    · rw [if_pos (decide_eq_true he), refLess, Option.bind_some]
      congr 1
      rw [decide_eq_decide, or2_lt]
      have e0 : ordK x.f1 y.f1 = 0 := ordK_zero.2 he
      omega
    · rw [if_neg (by rw [decide_eq_false he]; simp)]
      have e0 : ¬ ordK x.f1 y.f1 = 0 := fun h => he (ordK_zero.1 h)
      congr 1
      refine (decide_eq_false (fun h2 => ?_)).symm
      rcases (or2_lt _ _).1 h2 with h3 | h3
      · exact h h3
      · exact e0 h3.1
theorem eff_twice (l : List S39) : effL (effL l) = effL l := by
  refine effL_uniq (effL_strict l) (fun x => ?_)
  rw [lk_distinct (strict_keys (effL_strict l))]
  constructor
  · intro h
    have h1 := effL_mem.1 h
    exact ⟨⟨h, (lk_in h1.1).1, rfl⟩, h1.2⟩
  · exact fun h => h.1.1
theorem lk_left (a b : List S39) (k : S37 × S37) : ∀ i, i ≤ a.length → lk (a ++ b) i k = lk a i k
  | 0, _ => rfl
  | i + 1, hi => by rw [lk, lk, rd39_left a b i (by omega), lk_left a b k i (by omega)]
theorem lk_right (a b : List S39) (k : S37 × S37) : ∀ j, j ≤ b.length → lk (a ++ b) (a.length + j) k = (lk b j k).or (lk a a.length k)
  | 0, _ => by rw [Nat.add_zero, lk_left a b k _ (Nat.le_refl _)]; rfl
  | j + 1, hj => by
    rw [← Nat.add_assoc, lk, lk, rd39_right a b j (by omega), lk_right a b k j (by omega)]
    by_cases h : formedB (rd_T39 b j) = true ∧ keyD (rd_T39 b j) = k
    · rw [if_pos h, if_pos h]; rfl
    · rw [if_neg h, if_neg h]
theorem eff_double (l : List S39) : effL (l ++ l) = effL l := by
  refine strict_ext (effL_strict _) (effL_strict _) (fun x => ?_)
  rw [effL_mem, effL_mem, List.length_append, lk_right l l _ _ (Nat.le_refl _)]
  cases lk l l.length (keyD x) <;> simp
/-- What the inner loop holds: the last formed decision about the pair, or nothing's zero. -/
def lst (l : List S39) (j : Nat) (k : S37 × S37) : S39 := (lk l j k).getD ⟨0, ⟨0, ⟨#[]⟩, ⟨#[]⟩⟩, ⟨0, ⟨#[]⟩, ⟨#[]⟩⟩⟩
theorem last_l1 (l : List S39) (hl : l.length ≤ 60) (i : Nat) (hi : i < (effL l).length) (hnext : Ev (fun k => cleanselaw21_BondLast.l0 k l true (effL l) ((i + 1 : Nat) : Int)) true) (d : Nat) : ∀ j : Nat, j + d = l.length →
    Ev (fun k => cleanselaw21_BondLast.l1 k l true (effL l) i j (lst l j (keyD (rd_T39 (effL l) i))).f0 (lst l j (keyD (rd_T39 (effL l) i))).f1.f0 (lst l j (keyD (rd_T39 (effL l) i))).f1.f1 (lst l j (keyD (rd_T39 (effL l) i))).f1.f2 (lst l j (keyD (rd_T39 (effL l) i))).f2.f0 (lst l j (keyD (rd_T39 (effL l) i))).f2.f1 (lst l j (keyD (rd_T39 (effL l) i))).f2.f2) true := by
  have hf := effL_len l
  induction d with
  | zero =>
    intro j hj
    obtain rfl : j = l.length := by omega
    have hm : rd_T39 (effL l) i ∈ effL l := by rw [rd39 _ _ hi]; exact List.getElem_mem hi
    have hk := (effL_mem.1 hm).1
    have hL : lst l l.length (keyD (rd_T39 (effL l) i)) = rd_T39 (effL l) i := by unfold lst; rw [hk]; rfl
    have hw : wrap64 ((i : Int) + 1) = ((i + 1 : Nat) : Int) := by rw [wrap_up (by omega) (by omega)]; rfl
    rw [hL]
    refine Ev.step (hnext.congr fun k => ?_)
    rw [cleanselaw21_BondLast.l1, if_neg (by omega), if_pos (by omega), if_pos (by omega), if_neg (by simp), hw]
  | succ d ih =>
    intro j hj
    have hw : wrap64 ((j : Int) + 1) = ((j + 1 : Nat) : Int) := by rw [wrap_up (by omega) (by omega)]; rfl
    have hlst : lst l (j + 1) (keyD (rd_T39 (effL l) i)) = if formedB (rd_T39 l j) = true ∧ keyD (rd_T39 l j) = keyD (rd_T39 (effL l) i) then rd_T39 l j else lst l j (keyD (rd_T39 (effL l) i)) := by
      unfold lst
      rw [lk]
      split <;> rfl
    have ihj := ih (j + 1) (by omega)
    refine Ev.step (ihj.congr fun k => ?_)
    rw [cleanselaw21_BondLast.l1, if_pos (by omega), if_pos (by omega), refFormed (rd_T39 l j), Option.bind_some, hw, hlst]
    by_cases hF : formedB (rd_T39 l j) = true
    · rw [if_pos hF, if_pos (by omega), if_pos (by omega), key_eq]
      by_cases h1 : (rd_T39 l j).f1 = (rd_T39 (effL l) i).f1
      · rw [if_pos (decide_eq_true h1), key_eq]
        by_cases h2 : (rd_T39 l j).f2 = (rd_T39 (effL l) i).f2
        · rw [if_pos (decide_eq_true h2), if_pos ⟨hF, by unfold keyD; rw [h1, h2]⟩]
        · rw [if_neg (by rw [decide_eq_false h2]; simp), if_neg (fun h => h2 (by have := h.2; simp only [keyD, Prod.mk.injEq] at this; exact this.2))]
      · rw [if_neg (by rw [decide_eq_false h1]; simp), if_neg (fun h => h1 (by have := h.2; simp only [keyD, Prod.mk.injEq] at this; exact this.1))]
    · rw [if_neg hF, if_neg (fun h => hF h.1)]
theorem last_end (l : List S39) (hl : l.length ≤ 60) : Ev (fun k => cleanselaw21_BondLast.l0 k l true (effL l) ((effL l).length : Nat)) true := by
  have hf := effL_len l
  obtain ⟨K1, g1⟩ := refSame (effL l) (by omega)
  dsimp only at g1
  refine ⟨K1 + 1, fun k hk => ?_⟩
  obtain ⟨m, rfl⟩ : ∃ m, k = m + 1 := ⟨k - 1, by omega⟩
  show cleanselaw21_BondLast.l0 (m + 1) l true (effL l) ((effL l).length : Nat) = _
  rw [cleanselaw21_BondLast.l0, if_neg (by omega), Option.bind_some, if_pos (by simp only [List.length_nil]; omega), Option.bind_some, List.nil_append, if_pos (by omega), if_pos rfl, eff_is (by omega), Option.bind_some, eff_twice, g1 _ (by omega), Option.bind_some, if_pos rfl, eff_is (by rw [List.length_append]; omega), Option.bind_some, eff_double, g1 _ (by omega)]
  rfl
theorem last_l0 (l : List S39) (hl : l.length ≤ 60) (d : Nat) : ∀ i : Nat, i + d = (effL l).length → Ev (fun k => cleanselaw21_BondLast.l0 k l true (effL l) i) true := by
  have hf := effL_len l
  induction d with
  | zero =>
    intro i hi
    obtain rfl : i = (effL l).length := by omega
    exact last_end l hl
  | succ d ih =>
    intro i hi
    have hlt : i < (effL l).length := by omega
    have hm : rd_T39 (effL l) i ∈ effL l := by rw [rd39 _ _ hlt]; exact List.getElem_mem hlt
    obtain ⟨hk, hs⟩ := effL_mem.1 hm
    have hF := (lk_in hk).1
    have h3 : ¬ (rd_T39 (effL l) i).f0 = 3 := by simpa [shut] using hs
    have hin := last_l1 l hl i hlt (ih (i + 1) (by omega)) l.length 0 (by omega)
    have hj : Ev (fun k => cleanselaw21_BondLast.j1 k l true (effL l) i false) true := Ev.step (hin.congr fun k => by
      rw [cleanselaw21_BondLast.j1, if_neg (by decide)]
      rfl)
    refine Ev.step (hj.congr fun k => ?_)
    rw [cleanselaw21_BondLast.l0, if_pos (by omega), if_pos (by omega), refFormed (rd_T39 (effL l) i), Option.bind_some, if_pos hF, if_neg h3]
    by_cases h0 : (i : Int) > 0
    · obtain ⟨i', rfl⟩ : ∃ i', i = i' + 1 := ⟨i - 1, by omega⟩
      have hw : wrap64 (((i' + 1 : Nat) : Int) - 1) = (i' : Int) := by unfold wrap64; omega
      have hb : ordD (rd_T39 (effL l) i') (rd_T39 (effL l) ((i' + 1 : Nat) : Int)) < 0 := by
        rw [rd39 _ _ (by omega), rd39 _ _ hlt]
        exact List.pairwise_iff_getElem.1 (effL_strict l) i' (i' + 1) (by omega) hlt (by omega)
      rw [if_pos h0, hw, if_pos (by omega), if_pos (by omega), refBefore (rd_T39 (effL l) i') (rd_T39 (effL l) ((i' + 1 : Nat) : Int)), Option.bind_some, decide_eq_true hb]
      rfl
    · rw [if_neg h0]
theorem BondLast : BondLast_pure := by
  intro l _ _
  obtain ⟨K1, g1⟩ := head_ev
  dsimp only at g1
  by_cases hfew : ([] : List S66).length ≤ 60 ∧ l.length ≤ 60
  · obtain ⟨K2, g2⟩ := last_l0 l hfew.2 (effL l).length 0 (by omega)
    dsimp only at g2
    refine ⟨max K1 K2, ?_⟩
    rw [cleanselaw21_BondLast.f, g1 _ (by omega), Option.bind_some, few_is, Option.bind_some, if_pos (decide_eq_true hfew), eff_is (by omega), Option.bind_some]
    exact g2 _ (by omega)
  · refine ⟨K1, ?_⟩
    rw [cleanselaw21_BondLast.f, g1 _ (by omega), Option.bind_some, few_is, Option.bind_some, if_neg (by rw [decide_eq_false hfew]; simp)]
end Go.Proofs.Ytocjknmojcgeiaa.Pure
