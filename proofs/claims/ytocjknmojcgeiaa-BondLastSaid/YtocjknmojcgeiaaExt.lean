/- Plain words: with fuel enough; a list equals itself for the reference; what bond answers at the lists of the law's head. -/
import Derived.Test.YtocjknmojcgeiaaBHand
import Derived.Test.YtocjknmojcgeiaaBd6
namespace Go.Proofs.Ytocjknmojcgeiaa.Hand
set_option linter.unusedSectionVars false
set_option linter.unnecessarySimpa false
open Go.RowKit Go.Proofs.Ytocjknmojcgeiaa.Bd Go.Proofs.YtocjknmojcgeiaaW.PrintWords MapK
set_option linter.unusedVariables false
set_option linter.unusedSimpArgs false
/-- With fuel enough, g answers r. -/
def Ev {α : Type} (g : Nat → Option α) (r : α) : Prop := ∃ K, ∀ k, K ≤ k → g k = some r
namespace Ev
variable {α β : Type}
theorem of {g : Nat → Option α} {r : α} (h : ∀ k, g k = some r) : Ev g r := ⟨0, fun k _ => h k⟩
theorem step {g : Nat → Option α} {r : α} (h : Ev (fun k => g (k + 1)) r) : Ev g r := by
  obtain ⟨K, hK⟩ := h
  refine ⟨K + 1, fun k hk => ?_⟩
  have := hK (k - 1) (by omega)
  dsimp only at this
  rwa [show k - 1 + 1 = k by omega] at this
theorem congr {g g' : Nat → Option α} {r : α} (h : Ev g r) (he : ∀ k, g' k = g k) : Ev g' r := by obtain ⟨K, hK⟩ := h; exact ⟨K, fun k hk => (he k).trans (hK k hk)⟩
theorem and {g : Nat → Option α} {g' : Nat → Option β} {r : α} {r' : β} (h : Ev g r) (h' : Ev g' r') : ∃ K, ∀ k, K ≤ k → g k = some r ∧ g' k = some r' := by
  obtain ⟨K, hK⟩ := h
  obtain ⟨K', hK'⟩ := h'
  exact ⟨max K K', fun k hk => ⟨hK k (by omega), hK' k (by omega)⟩⟩
end Ev
theorem wrap_up {i : Int} (h0 : 0 ≤ i) (h : i < 9223372036854775807) : wrap64 (i + 1) = i + 1 := by unfold wrap64; omega
theorem refInts_loop (a : List Int) (ha : a.length ≤ 2000000) (d : Nat) : ∀ i : Nat, i + d = a.length → Ev (fun k => cleanseref06_Ints.l0 k a a i) true := by
  induction d with
  | zero =>
    intro i hi
    refine Ev.step (Ev.of fun k => ?_)
    rw [cleanseref06_Ints.l0, if_neg (by omega)]
  | succ d ih =>
    intro i hi
    have hw : wrap64 ((i : Int) + 1) = ((i + 1 : Nat) : Int) := by rw [wrap_up (by omega) (by omega)]; rfl
    refine Ev.step ((ih (i + 1) (by omega)).congr fun k => ?_)
    rw [cleanseref06_Ints.l0, if_pos (by omega), if_pos (by omega), if_pos (by omega), if_pos rfl, hw]
theorem refInts (a : List Int) (ha : a.length ≤ 2000000) : Ev (fun k => cleanseref06_Ints.f k a a) true :=
  (refInts_loop a ha a.length 0 (by omega)).congr fun k => by rw [cleanseref06_Ints.f, if_pos rfl]; rfl
theorem refPairs_loop (a : List S48) (ha : a.length ≤ 2000000) (d : Nat) : ∀ i : Nat, i + d = a.length → Ev (fun k => cleanseref21_Pairs.l0 k a a i) true := by
  induction d with
  | zero =>
    intro i hi
    refine Ev.step (Ev.of fun k => ?_)
    rw [cleanseref21_Pairs.l0, if_neg (by omega)]
  | succ d ih =>
    intro i hi
    have hw : wrap64 ((i : Int) + 1) = ((i + 1 : Nat) : Int) := by rw [wrap_up (by omega) (by omega)]; rfl
    refine Ev.step ((ih (i + 1) (by omega)).congr fun k => ?_)
    rw [cleanseref21_Pairs.l0, if_pos (by omega), if_pos (by omega), if_pos (by omega), if_neg (by simp), hw]
theorem refPairs (a : List S48) (ha : a.length ≤ 2000000) : Ev (fun k => cleanseref21_Pairs.f k a a) true :=
  (refPairs_loop a ha a.length 0 (by omega)).congr fun k => by rw [cleanseref21_Pairs.f, if_pos rfl]; rfl
theorem refSame_loop (a : List S39) (ha : a.length ≤ 2000000) (d : Nat) : ∀ i : Nat, i + d = a.length → Ev (fun k => cleanseref21_Same.l0 k a a i) true := by
  induction d with
  | zero =>
    intro i hi
    refine Ev.step (Ev.of fun k => ?_)
    rw [cleanseref21_Same.l0, if_neg (by omega)]
  | succ d ih =>
    intro i hi
    have hw : wrap64 ((i : Int) + 1) = ((i + 1 : Nat) : Int) := by rw [wrap_up (by omega) (by omega)]; rfl
    refine Ev.step ((ih (i + 1) (by omega)).congr fun k => ?_)
    rw [cleanseref21_Same.l0, if_pos (by omega), if_pos (by omega), if_pos (by omega), if_neg (by simp), hw]
theorem refSame (a : List S39) (ha : a.length ≤ 2000000) : Ev (fun k => cleanseref21_Same.f k a a) true :=
  (refSame_loop a ha a.length 0 (by omega)).congr fun k => by rw [cleanseref21_Same.f, if_pos rfl]; rfl
instance decS39 : DecidableEq S39 := fun a b =>
  if h : a.f0 = b.f0 ∧ a.f1 = b.f1 ∧ a.f2 = b.f2 then isTrue (by cases a; cases b; simp only [S39.mk.injEq]; exact h) else isFalse (fun e => h (by rw [e]; exact ⟨rfl, rfl, rfl⟩))
theorem effL_is {l m : List S39} (hp : m.Perm (((lastM l l.length).map (·.2)).filter shut)) (hs : m.Pairwise (fun x y => ordD x y ≤ 0)) : effL l = m := by
  refine (sortDL_unique hp hs (fun x hx y hy h1 h2 => ?_)).symm
  exact pair_inj (lastM_nodup l l.length) (lastM_keys l l.length) x (List.mem_filter.1 hx).1 y (List.mem_filter.1 hy).1 h1 h2
theorem setL_is {l m : List S48} (hp : m.Perm l) (hs : m.Pairwise (fun x y => ordP x y ≤ 0)) : setL l = compactL m := by
  rw [setL, ← sortPL_unique hp hs]
abbrev K0 : S37 := ⟨0, ⟨#[116]⟩, ⟨#[97]⟩⟩
abbrev K1 : S37 := ⟨0, ⟨#[116]⟩, ⟨#[98]⟩⟩
abbrev K2 : S37 := ⟨1, ⟨#[116]⟩, ⟨#[97]⟩⟩
abbrev K3 : S37 := ⟨1, ⟨#[116]⟩, ⟨#[98]⟩⟩
abbrev smp : List S66 := [⟨K0, 0, 0, []⟩, ⟨K1, 0, 0, []⟩, ⟨K2, 0, 0, []⟩, ⟨K3, 0, 0, []⟩]
set_option maxRecDepth 100000
theorem e1 : effL [⟨1, K0, K2⟩, ⟨1, K2, K3⟩, ⟨2, K1, K3⟩] = [⟨1, K0, K2⟩, ⟨2, K1, K3⟩, ⟨1, K2, K3⟩] := effL_is (by decide +kernel) (by decide +kernel)
theorem e2 : effL [⟨1, K0, K2⟩, ⟨2, K0, K2⟩] = [⟨2, K0, K2⟩] := effL_is (by decide +kernel) (by decide +kernel)
theorem e3 : effL [⟨1, K0, K2⟩, ⟨1, K2, K3⟩, ⟨2, K0, K3⟩] = [⟨1, K0, K2⟩, ⟨2, K0, K3⟩, ⟨1, K2, K3⟩] := effL_is (by decide +kernel) (by decide +kernel)
theorem e4 : effL [⟨1, K0, K2⟩, ⟨3, K0, K2⟩, ⟨2, K0, K1⟩] = [⟨2, K0, K1⟩] := effL_is (by decide +kernel) (by decide +kernel)
theorem b1 : bindL1 smp [⟨1, K0, K2⟩, ⟨1, K2, K3⟩, ⟨2, K1, K3⟩] = [0, 1, 0, 0] := by
  unfold bindL1 rootsL
  rw [e1]
  decide +kernel
theorem b2 : bindL2 smp [⟨1, K0, K2⟩, ⟨1, K2, K3⟩, ⟨2, K1, K3⟩] = [⟨0, 1⟩] := by
  have h : apF (rootsL smp [⟨1, K0, K2⟩, ⟨1, K2, K3⟩, ⟨2, K1, K3⟩]) (pairsL smp [⟨1, K0, K2⟩, ⟨1, K2, K3⟩, ⟨2, K1, K3⟩]) (pairsL smp [⟨1, K0, K2⟩, ⟨1, K2, K3⟩, ⟨2, K1, K3⟩]).length = [⟨0, 1⟩] := by
    unfold rootsL pairsL
    rw [e1]
    decide +kernel
  rw [bindL2, h, setL_is (.refl _) (by decide +kernel)]
  decide +kernel
theorem b3 : bindL1 smp [⟨1, K0, K2⟩, ⟨2, K0, K2⟩] = [0, 1, 2, 3] := by
  unfold bindL1 rootsL
  rw [e2]
  decide +kernel
theorem b4 : bindL2 smp [⟨1, K0, K2⟩, ⟨2, K0, K2⟩] = [⟨0, 2⟩] := by
  have h : apF (rootsL smp [⟨1, K0, K2⟩, ⟨2, K0, K2⟩]) (pairsL smp [⟨1, K0, K2⟩, ⟨2, K0, K2⟩]) (pairsL smp [⟨1, K0, K2⟩, ⟨2, K0, K2⟩]).length = [⟨0, 2⟩] := by
    unfold rootsL pairsL
    rw [e2]
    decide +kernel
  rw [bindL2, h, setL_is (.refl _) (by decide +kernel)]
  decide +kernel
theorem b5 : bindL1 smp [⟨1, K0, K2⟩, ⟨1, K2, K3⟩, ⟨2, K0, K3⟩] = [0, 1, 0, 0] := by
  unfold bindL1 rootsL
  rw [e3]
  decide +kernel
theorem b6 : bindL2 smp [⟨1, K0, K2⟩, ⟨1, K2, K3⟩, ⟨2, K0, K3⟩] = [] := by
  have h : apF (rootsL smp [⟨1, K0, K2⟩, ⟨1, K2, K3⟩, ⟨2, K0, K3⟩]) (pairsL smp [⟨1, K0, K2⟩, ⟨1, K2, K3⟩, ⟨2, K0, K3⟩]) (pairsL smp [⟨1, K0, K2⟩, ⟨1, K2, K3⟩, ⟨2, K0, K3⟩]).length = [] := by
    unfold rootsL pairsL
    rw [e3]
    decide +kernel
  rw [bindL2, h, setL_is (.refl _) (by decide +kernel)]
  decide +kernel
theorem b7 : contraL smp [⟨1, K0, K2⟩, ⟨1, K2, K3⟩, ⟨2, K0, K3⟩] = [⟨0, 3⟩] := by
  have h : dlF (rootsL smp [⟨1, K0, K2⟩, ⟨1, K2, K3⟩, ⟨2, K0, K3⟩]) (pairsL smp [⟨1, K0, K2⟩, ⟨1, K2, K3⟩, ⟨2, K0, K3⟩]) (pairsL smp [⟨1, K0, K2⟩, ⟨1, K2, K3⟩, ⟨2, K0, K3⟩]).length = [⟨0, 3⟩] := by
    unfold rootsL pairsL
    rw [e3]
    decide +kernel
  rw [contraL, h, setL_is (.refl _) (by decide +kernel)]
  decide +kernel
end Go.Proofs.Ytocjknmojcgeiaa.Hand

/- Which decisions are in force, in plain words: the last formed one about each pair, unless it leaves the pair open. -/
namespace Go.Proofs.Ytocjknmojcgeiaa.Hand
set_option linter.unusedSectionVars false
set_option linter.unnecessarySimpa false
open Go.RowKit Go.Proofs.Ytocjknmojcgeiaa.Bd Go.Proofs.YtocjknmojcgeiaaW.PrintWords MapK
set_option linter.unusedVariables false
set_option linter.unusedSimpArgs false
def keyD (d : S39) : S37 × S37 := (d.f1, d.f2)
/-- The last formed decision about k among the first i. -/
def lk (l : List S39) : Nat → S37 × S37 → Option S39
  | 0, _ => none
  | i + 1, k => if formedB (rd_T39 l i) = true ∧ keyD (rd_T39 l i) = k then some (rd_T39 l i) else lk l i k
theorem lk_eq (l : List S39) (k : S37 × S37) : ∀ i, mlook (lastM l i) k = lk l i k
  | 0 => by simp [lastM, lk, mlook, firstAt]
  | i + 1 => by
    unfold lastM lk
    by_cases h : formedB (rd_T39 l i) = true
    · rw [if_pos h, mlook_put (lastM_nodup l i)]
      by_cases h2 : keyD (rd_T39 l i) = k
      · rw [if_pos (show k = ((rd_T39 l i).f1, (rd_T39 l i).f2) from h2.symm), if_pos ⟨h, h2⟩]
      · rw [if_neg (show ¬ k = ((rd_T39 l i).f1, (rd_T39 l i).f2) from fun e => h2 e.symm), if_neg (fun e => h2 e.2), lk_eq l k i]
    · rw [if_neg h, if_neg (fun e => h e.1), lk_eq l k i]
theorem lk_some {l : List S39} {k : S37 × S37} {x : S39} : ∀ {i : Nat}, lk l i k = some x ↔ ∃ t : Nat, t < i ∧ x = rd_T39 l t ∧ formedB x = true ∧ keyD x = k ∧ ∀ s : Nat, t < s → s < i → ¬ (formedB (rd_T39 l s) = true ∧ keyD (rd_T39 l s) = k)
  | 0 => by simp [lk]
  | i + 1 => by
    unfold lk
    by_cases h : formedB (rd_T39 l i) = true ∧ keyD (rd_T39 l i) = k
    · rw [if_pos h]
      constructor
      · intro e
        injection e with e
        subst e
        exact ⟨i, by omega, rfl, h.1, h.2, fun s h1 h2 => by omega⟩
      · rintro ⟨t, h1, rfl, h2, h3, h4⟩
        by_cases e : t = i
        · rw [e]
        · exact absurd h (h4 i (by omega) (by omega))
    · rw [if_neg h, lk_some (i := i)]
      constructor
      · rintro ⟨t, h1, h2, h3, h4, h5⟩
        refine ⟨t, by omega, h2, h3, h4, fun s g1 g2 => ?_⟩
        by_cases e : s = i
        · rw [e]; exact h
        · exact h5 s g1 (by omega)
      · rintro ⟨t, h1, h2, h3, h4, h5⟩
        have ht : t ≠ i := fun e => h (by rw [← e, ← h2]; exact ⟨h3, h4⟩)
        exact ⟨t, by omega, h2, h3, h4, fun s g1 g2 => h5 s g1 (by omega)⟩
theorem lk_in {l : List S39} {k : S37 × S37} {x : S39} {i : Nat} (h : lk l i k = some x) : formedB x = true ∧ keyD x = k ∧ ∃ t : Nat, t < i ∧ x = rd_T39 l t := by
  obtain ⟨t, h1, h2, h3, h4, _⟩ := lk_some.1 h
  exact ⟨h3, h4, t, h1, h2⟩
theorem mem_lastM {l : List S39} {i : Nat} {p : (S37 × S37) × S39} : p ∈ lastM l i ↔ lk l i p.1 = some p.2 := by
  rw [← lk_eq, mlook_some (lastM_nodup l i)]
theorem effL_mem {l : List S39} {x : S39} : x ∈ effL l ↔ lk l l.length (keyD x) = some x ∧ shut x = true := by
  unfold effL
  rw [(sortDL_perm _).mem_iff, List.mem_filter, List.mem_map]
  constructor
  · rintro ⟨⟨p, hp, rfl⟩, h⟩
    have h1 := mem_lastM.1 hp
    refine ⟨?_, h⟩
    rw [(lk_in h1).2.1]
    exact h1
  · rintro ⟨h1, h2⟩
    exact ⟨⟨(keyD x, x), mem_lastM.2 h1, rfl⟩, h2⟩
theorem ordD_key {x y : S39} (h : ordD x y = 0) : keyD x = keyD y := by
  obtain ⟨h1, h2⟩ := ordD_zero.1 h
  simp [keyD, h1, h2]
theorem strict_of {l : List S39} (h : l.Pairwise (fun x y => ordD x y ≤ 0)) (hn : (l.map keyD).Nodup) : l.Pairwise (fun x y => ordD x y < 0) := by
  rw [List.Nodup, List.pairwise_map] at hn
  refine h.imp₂ (fun {a b} h1 h2 => ?_) hn
  rcases (show ordD a b < 0 ∨ ordD a b = 0 by omega) with h3 | h3
  · exact h3
  · exact absurd (ordD_key h3) h2
theorem strict_nodup {l : List S39} (h : l.Pairwise (fun x y => ordD x y < 0)) : l.Nodup :=
  h.imp (fun {a b} h1 e => by subst e; have := ordD_cmp.refl a; omega)
theorem effL_strict (l : List S39) : (effL l).Pairwise (fun x y => ordD x y < 0) := by
  refine strict_of (sortDL_sorted _) ?_
  have hp : ((effL l).map keyD).Perm ((((lastM l l.length).map (·.2)).filter shut).map keyD) := (sortDL_perm _).map _
  rw [hp.nodup_iff]
  have h1 : ((lastM l l.length).map (·.2)).map keyD = (lastM l l.length).map (·.1) := by
    rw [List.map_map]
    refine List.map_congr_left (fun p hp => ?_)
    exact (lk_in (mem_lastM.1 hp)).2.1
  exact (List.filter_sublist.map _).nodup (by rw [h1]; exact lastM_nodup l l.length)
theorem strict_ext {m m' : List S39} (h : m.Pairwise (fun x y => ordD x y < 0)) (h' : m'.Pairwise (fun x y => ordD x y < 0)) (he : ∀ x, x ∈ m ↔ x ∈ m') : m = m' := by
  have hp : m.Perm m' := (List.perm_ext_iff_of_nodup (strict_nodup h) (strict_nodup h')).2 he
  refine List.Perm.eq_of_pairwise (le := fun x y => ordD x y < 0) (fun a b ha hb h1 h2 => ?_) h h' hp
  have := ordD_cmp.anti a b
  omega
theorem effL_uniq {l m : List S39} (hm : m.Pairwise (fun x y => ordD x y < 0)) (h : ∀ x, x ∈ m ↔ (lk l l.length (keyD x) = some x ∧ shut x = true)) : effL l = m :=
  strict_ext (effL_strict l) hm (fun x => by rw [effL_mem, h])
theorem rd39 (xs : List S39) (i : Nat) (hi : i < xs.length) : rd_T39 xs i = xs[i] := by
  simp [rd_T39, List.getD, List.getElem?_eq_getElem hi]
theorem rd39_left (a b : List S39) (i : Nat) (hi : i < a.length) : rd_T39 (a ++ b) i = rd_T39 a i := by
  rw [rd39 _ _ (by rw [List.length_append]; omega), rd39 _ _ hi, List.getElem_append_left hi]
theorem rd39_right (a b : List S39) (i : Nat) (hi : i < b.length) : rd_T39 (a ++ b) ((a.length + i : Nat) : Int) = rd_T39 b i := by
  rw [rd39 _ _ (by rw [List.length_append]; omega), rd39 _ _ hi, List.getElem_append_right (by omega)]
  congr 1
  omega
end Go.Proofs.Ytocjknmojcgeiaa.Hand
