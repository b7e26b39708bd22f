/- The reference's Index, in plain words, is what bond.each looks up; and the decisions that bond.each passes on. -/
import Derived.Test.YtocjknmojcgeiaaExt
import Derived.Test.YtocjknmojcgeiaaHd
import Derived.Test.YtocjknmojcgeiaaBd9
import Derived.Test.YtocjknmojcgeiaaBd11
namespace Go.Proofs.Ytocjknmojcgeiaa.Hand
set_option linter.unusedSectionVars false
set_option linter.unnecessarySimpa false
open Go.RowKit Go.Proofs.Ytocjknmojcgeiaa.Bd Go.Proofs.YtocjknmojcgeiaaW.PrintWords MapK
set_option linter.unusedVariables false
set_option linter.unusedSimpArgs false
theorem strict_keys {m : List S39} (h : m.Pairwise (fun x y => ordD x y < 0)) : (m.map keyD).Nodup := by
  rw [List.Nodup, List.pairwise_map]
  refine h.imp (fun {a b} h1 e => ?_)
  have h2 : ordD a b = 0 := ordD_zero.2 (by simp only [keyD, Prod.mk.injEq] at e; exact e)
  omega
/-- Where no two decisions are about one pair, each formed one is the last about its pair. -/
theorem lk_distinct {X : List S39} (hn : (X.map keyD).Nodup) {k : S37 × S37} {x : S39} : lk X X.length k = some x ↔ x ∈ X ∧ formedB x = true ∧ keyD x = k := by
  rw [lk_some]
  constructor
  · rintro ⟨t, h1, rfl, h2, h3, _⟩
    exact ⟨by rw [rd39 _ _ h1]; exact List.getElem_mem h1, h2, h3⟩
  · rintro ⟨hm, h2, h3⟩
    obtain ⟨t, ht, rfl⟩ := List.getElem_of_mem hm
    refine ⟨t, ht, (rd39 _ _ ht).symm, h2, h3, fun s h4 h5 h6 => ?_⟩
    rw [rd39 _ _ h5] at h6
    have e : (X.map keyD)[s]'(by rw [List.length_map]; exact h5) = (X.map keyD)[t]'(by rw [List.length_map]; exact ht) := by
      rw [List.getElem_map, List.getElem_map, h6.2, h3]
    have := (List.getElem_inj hn).1 e
    omega
/-- The first of the last d records that bears the key. -/
def ixd (r : List S66) (key : S37) : Nat → Option Int
  | 0 => none
  | d + 1 => if (rd_T66 r ((r.length - 1 - d : Nat) : Int)).f0 = key then some ((r.length - 1 - d : Nat) : Int) else ixd r key d
theorem idxM_look (r : List S66) (key : S37) : ∀ d, mlook (idxM r d) key = ixd r key d
  | 0 => by simp [idxM, ixd, mlook, firstAt]
  | d + 1 => by
    rw [idxM, ixd, mlook_put (idxM_nodup r d), idxM_look r key d]
    by_cases h : (rd_T66 r ((r.length - 1 - d : Nat) : Int)).f0 = key
    · rw [if_pos h.symm, if_pos h]
    · rw [if_neg (fun e => h e.symm), if_neg h]
theorem key_eq (a b : S37) : ((a.f0 == b.f0) && ((a.f1.toList == b.f1.toList) && (a.f2.toList == b.f2.toList))) = decide (a = b) := by
  by_cases h : a = b
  · subst h; simp
  · rw [decide_eq_false h]
    cases e : ((a.f0 == b.f0) && ((a.f1.toList == b.f1.toList) && (a.f2.toList == b.f2.toList))) with
    | false => rfl
    | true =>
      simp only [Bool.and_eq_true, beq_iff_eq] at e
      exact absurd (S37.ext' e.1 (toList_inj e.2.1) (toList_inj e.2.2)) h
/-- The place of a key: the first record's that bears it, or -1. -/
def ixP (r : List S66) (key : S37) : Int := (ixd r key r.length).getD (-1)
theorem ixd_in (r : List S66) (key : S37) (v : Int) (h : ixd r key r.length = some v) : 0 ≤ v ∧ v < r.length :=
  idxM_in r r.length (Nat.le_refl _) key v ((idxM_look r key r.length).trans h)
theorem ixP_ge (r : List S66) (key : S37) : ixP r key ≥ 0 ↔ (ixd r key r.length).isSome = true := by
  unfold ixP
  cases e : ixd r key r.length with
  | none => simp
  | some v => have := ixd_in r key v e; simp; omega
theorem ixP_lt (r : List S66) (key : S37) : ixP r key < r.length := by
  unfold ixP
  cases e : ixd r key r.length with
  | none => simp; omega
  | some v => have := ixd_in r key v e; simp; omega
theorem refIndex_loop (r : List S66) (key : S37) (hr : r.length ≤ 2000000) (d : Nat) : ∀ i : Nat, i + d = r.length → Ev (fun k => cleanseref21_Index.l0 k r i key.f0 key.f1 key.f2) ((ixd r key d).getD (-1)) := by
  induction d with
  | zero =>
    intro i hi
    refine Ev.step (Ev.of fun k => ?_)
    rw [cleanseref21_Index.l0, if_neg (by omega)]
    rfl
  | succ d ih =>
    intro i hi
    have hw : wrap64 ((i : Int) + 1) = ((i + 1 : Nat) : Int) := by rw [wrap_up (by omega) (by omega)]; rfl
    have hi' : r.length - 1 - d = i := by omega
    rw [ixd, hi']
    by_cases h : (rd_T66 r (i : Int)).f0 = key
    · rw [if_pos h]
      refine Ev.step (Ev.of fun k => ?_)
      rw [cleanseref21_Index.l0, if_pos (by omega), if_pos (by omega), key_eq, if_pos (decide_eq_true h)]
      rfl
    · rw [if_neg h]
      refine Ev.step ((ih (i + 1) (by omega)).congr fun k => ?_)
      rw [cleanseref21_Index.l0, if_pos (by omega), if_pos (by omega), key_eq, if_neg (by rw [decide_eq_false h]; simp), hw]
theorem refIndex (r : List S66) (key : S37) (hr : r.length ≤ 2000000) : Ev (fun k => cleanseref21_Index.f k r key.f0 key.f1 key.f2) (ixP r key) := refIndex_loop r key hr r.length 0 (by omega)
/-- Both keys are records'. -/
def inB (r : List S66) (x : S39) : Bool := (ixd r x.f1 r.length).isSome && (ixd r x.f2 r.length).isSome
theorem hit_is (r : List S66) (kind : Int) (x : S39) : hitB (idxM r r.length) kind x = (decide (x.f0 = kind) && inB r x) := by
  unfold hitB inB
  rw [idxM_look, idxM_look, Bool.and_assoc]
def placesOf (r : List S66) (x : S39) : Int × Int := (ixP r x.f1, ixP r x.f2)
theorem eachF_fold {σ : Type} (r : List S66) (kind : Int) (step : σ → Int → Int → σ) (l : List S39) (s : σ) : ∀ i, i ≤ l.length → eachF (idxM r r.length) kind step l s i = ((l.take i).filter (hitB (idxM r r.length) kind)).foldl (fun s x => step s (ixP r x.f1) (ixP r x.f2)) s
  | 0, _ => by simp [eachF]
  | i + 1, hi => by
    have ht : l.take (i + 1) = l.take i ++ [rd_T39 l i] := by
      rw [rd39 _ _ (by omega), List.take_add_one, List.getElem?_eq_getElem (by omega)]; rfl
    rw [eachF, ht, List.filter_append, List.foldl_append, ← eachF_fold r kind step l s i (by omega)]
    by_cases h : hitB (idxM r r.length) kind (rd_T39 l i) = true
    · rw [if_pos h, List.filter_cons_of_pos h, idxM_look, idxM_look]
      have hh := h
      rw [hit_is] at hh
      simp only [inB, Bool.and_eq_true, Option.isSome_iff_exists] at hh
      obtain ⟨_, ⟨a, ha⟩, b, hb⟩ := hh
      simp only [List.filter_nil, List.foldl_cons, List.foldl_nil, ixP, ha, hb, Option.getD_some]
    · rw [if_neg h, List.filter_cons_of_neg h]
      rfl
/-- The decisions of a kind about two records, in force. -/
def hits (r : List S66) (kind : Int) (f : List S39) : List S39 := f.filter (hitB (idxM r r.length) kind)
theorem roots_fold (r : List S66) (l : List S39) : rootsL r l = (hits r 1 (effL l)).foldl (fun ρ x => joinF ρ (ixP r x.f1).toNat (ixP r x.f2).toNat) id := by
  unfold rootsL hits
  rw [eachF_fold r 1 stepJ (effL l) id _ (Nat.le_refl _), List.take_length]
  rfl
theorem foldl_pairs (f : S39 → S48) : ∀ (l : List S39) (s : List S48), l.foldl (fun s x => s ++ [f x]) s = s ++ l.map f
  | [], s => by simp
  | x :: l, s => by rw [List.foldl_cons, foldl_pairs f l]; simp
theorem pairs_map (r : List S66) (l : List S39) : pairsL r l = (hits r 2 (effL l)).map (fun x => pairOf (ixP r x.f1) (ixP r x.f2)) := by
  unfold pairsL hits
  rw [eachF_fold r 2 stepP (effL l) [] _ (Nat.le_refl _), List.take_length]
  show List.foldl (fun (s : List S48) (x : S39) => s ++ [pairOf (ixP r x.f1) (ixP r x.f2)]) _ _ = _
  rw [foldl_pairs, List.nil_append]
/-- What bond answers hangs on the decisions in force about records alone. -/
theorem same_of_hits {r : List S66} {l l' : List S39} (h1 : hits r 1 (effL l) = hits r 1 (effL l')) (h2 : hits r 2 (effL l) = hits r 2 (effL l')) : bindL1 r l = bindL1 r l' ∧ bindL2 r l = bindL2 r l' ∧ contraL r l = contraL r l' := by
  have e1 : rootsL r l = rootsL r l' := by rw [roots_fold, roots_fold, h1]
  have e2 : pairsL r l = pairsL r l' := by rw [pairs_map, pairs_map, h2]
  unfold bindL1 bindL2 contraL
  rw [e1, e2]
  exact ⟨rfl, rfl, rfl⟩
theorem few_is (r : List S66) (l : List S39) : cleanselaw21_few.f r l = some (decide (r.length ≤ 60 ∧ l.length ≤ 60)) := by
  unfold cleanselaw21_few.f
  by_cases h : r.length ≤ 60
  · rw [if_pos (by omega)]
    by_cases h2 : l.length ≤ 60
    · rw [decide_eq_true (show (l.length : Int) ≤ 60 by omega), decide_eq_true (And.intro h h2)]
    · rw [decide_eq_false (show ¬ (l.length : Int) ≤ 60 by omega), decide_eq_false (fun h => h2 h.2)]
  · rw [if_neg (by omega), decide_eq_false (fun h2 => h h2.1)]
theorem setL_len (xs : List S48) : (setL xs).length ≤ xs.length := by
  have h := cmpF_len (sortPL xs) (sortPL xs).length
  have h2 := (sortPL_perm xs).length_eq
  unfold setL compactL
  omega
theorem bindL2_len (r : List S66) (l : List S39) : (bindL2 r l).length ≤ l.length := by
  have h1 := setL_len (apF (rootsL r l) (pairsL r l) (pairsL r l).length)
  have h2 := apF_len (rootsL r l) (pairsL r l) (pairsL r l).length
  have h3 : (pairsL r l).length ≤ l.length := Nat.le_trans (pairs_len _ _ _ _) (effL_len l)
  unfold bindL2
  omega
theorem contraL_len (r : List S66) (l : List S39) : (contraL r l).length ≤ l.length := by
  have h1 := setL_len (dlF (rootsL r l) (pairsL r l) (pairsL r l).length)
  have h2 := dlF_len (rootsL r l) (pairsL r l) (pairsL r l).length
  have h3 : (pairsL r l).length ≤ l.length := Nat.le_trans (pairs_len _ _ _ _) (effL_len l)
  unfold contraL
  omega
theorem bindL1_len (r : List S66) (l : List S39) : (bindL1 r l).length = r.length := headsF_len _ _
end Go.Proofs.Ytocjknmojcgeiaa.Hand
