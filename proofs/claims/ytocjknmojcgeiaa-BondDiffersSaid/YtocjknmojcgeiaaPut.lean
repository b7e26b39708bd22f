/- Sorted lists of pairs, each once: bond.sorted in plain words, and the reference's Put. -/
import Derived.Test.YtocjknmojcgeiaaIdx
import Derived.Test.YtocjknmojcgeiaaBd12
namespace Go.Proofs.Ytocjknmojcgeiaa.Hand
set_option linter.unusedSectionVars false
set_option linter.unnecessarySimpa false
open Go.RowKit Go.Proofs.Ytocjknmojcgeiaa.Bd Go.Proofs.YtocjknmojcgeiaaW.PrintWords MapK
set_option linter.unusedVariables false
set_option linter.unusedSimpArgs false
abbrev Strict (l : List S48) : Prop := l.Pairwise (fun x y => ordP x y < 0)
theorem strictP_ext {m m' : List S48} (h : Strict m) (h' : Strict m') (he : ∀ x, x ∈ m ↔ x ∈ m') : m = m' := by
  have nd : ∀ {l : List S48}, Strict l → l.Nodup := fun h => h.imp (fun {a b} h1 e => by subst e; have := ordP_cmp.refl a; omega)
  have hp : m.Perm m' := (List.perm_ext_iff_of_nodup (nd h) (nd h')).2 he
  refine List.Perm.eq_of_pairwise (le := fun x y => ordP x y < 0) (fun a b ha hb h1 h2 => ?_) h h' hp
  have := ordP_cmp.anti a b
  omega
theorem cmpF_mem (xs : List S48) (y : S48) : ∀ m, m ≤ xs.length → (y ∈ cmpF xs m ↔ ∃ i : Nat, i < m ∧ rd_T48 xs i = y)
  | 0, _ => by simp [cmpF]
  | m + 1, hm => by
    have ih := cmpF_mem xs y m (by omega)
    rw [cmpF]
    by_cases h : 0 < m ∧ rd_T48 xs m = rd_T48 xs (m - 1 : Nat)
    · rw [if_pos h, ih]
      constructor
      · rintro ⟨i, h1, h2⟩
        exact ⟨i, by omega, h2⟩
      · rintro ⟨i, h1, h2⟩
        by_cases e : i = m
        · subst e
          exact ⟨i - 1, by omega, by rw [← h.2]; exact h2⟩
        · exact ⟨i, by omega, h2⟩
    · rw [if_neg h, List.mem_append, ih, List.mem_singleton]
      constructor
      · rintro (⟨i, h1, h2⟩ | rfl)
        · exact ⟨i, by omega, h2⟩
        · exact ⟨m, by omega, rfl⟩
      · rintro ⟨i, h1, h2⟩
        by_cases e : i = m
        · subst e; exact .inr h2.symm
        · exact .inl ⟨i, by omega, h2⟩
theorem cmpF_strict (xs : List S48) (hs : xs.Pairwise (fun x y => ordP x y ≤ 0)) : ∀ m, m ≤ xs.length → Strict (cmpF xs m)
  | 0, _ => by simp [cmpF]
  | m + 1, hm => by
    have ih := cmpF_strict xs hs m (by omega)
    rw [cmpF]
    by_cases h : 0 < m ∧ rd_T48 xs m = rd_T48 xs (m - 1 : Nat)
    · rw [if_pos h]; exact ih
    · rw [if_neg h]
      refine List.pairwise_append.2 ⟨ih, by simp, fun a ha b hb => ?_⟩
      rw [List.mem_singleton] at hb
      subst hb
      obtain ⟨i, hi, rfl⟩ := (cmpF_mem xs a m (by omega)).1 ha
      have le : ∀ s t : Nat, s < t → t < xs.length → ordP (rd_T48 xs s) (rd_T48 xs t) ≤ 0 := fun s t h1 h2 => by
        rw [rd48 _ _ (by omega), rd48 _ _ h2]
        exact List.pairwise_iff_getElem.1 hs s t (by omega) h2 h1
      have h1 := le i m hi (by omega)
      rcases (show ordP (rd_T48 xs i) (rd_T48 xs m) < 0 ∨ ordP (rd_T48 xs i) (rd_T48 xs m) = 0 by omega) with h2 | h2
      · exact h2
      · exfalso
        have e := ordP_zero.1 h2
        apply h
        refine ⟨by omega, ?_⟩
        by_cases hl : i = m - 1
        · rw [← hl]; exact e.symm
        · have g1 := le i (m - 1) (by omega) (by omega)
          have g2 := le (m - 1) m (by omega) (by omega)
          rw [e] at g1
          have := ordP_cmp.anti (rd_T48 xs (m - 1 : Nat)) (rd_T48 xs m)
          exact (ordP_zero.1 (show ordP (rd_T48 xs m) (rd_T48 xs (m - 1 : Nat)) = 0 by omega))
theorem setL_strict (l : List S48) : Strict (setL l) := cmpF_strict _ (sortPL_sorted l) _ (Nat.le_refl _)
theorem setL_mem (l : List S48) (y : S48) : y ∈ setL l ↔ y ∈ l := by
  unfold setL compactL
  rw [cmpF_mem _ _ _ (Nat.le_refl _), ← (sortPL_perm l).mem_iff]
  constructor
  · rintro ⟨i, h1, rfl⟩
    exact rd48_mem _ _ h1
  · intro h
    obtain ⟨i, hi, rfl⟩ := List.getElem_of_mem h
    exact ⟨i, hi, rd48 _ _ hi⟩
/-- One more pair, in its place. -/
def insP : List S48 → S48 → List S48
  | [], p => [p]
  | x :: t, p => if ordP x p < 0 then x :: insP t p else if x = p then x :: t else p :: x :: t
theorem insP_mem (p y : S48) : ∀ l, y ∈ insP l p ↔ y = p ∨ y ∈ l
  | [] => by simp [insP]
  | x :: t => by
    rw [insP]
    by_cases h : ordP x p < 0
    · rw [if_pos h, List.mem_cons, insP_mem p y t, List.mem_cons]
      constructor
      · rintro (h | h | h)
        · exact .inr (.inl h)
        · exact .inl h
        · exact .inr (.inr h)
      · rintro (h | h | h)
        · exact .inr (.inl h)
        · exact .inl h
        · exact .inr (.inr h)
    · rw [if_neg h]
      by_cases e : x = p
      · rw [if_pos e, List.mem_cons]
        constructor
        · exact .inr
        · rintro (h | h)
          · exact .inl (h.trans e.symm)
          · exact h
      · rw [if_neg e, List.mem_cons]
theorem insP_strict (p : S48) : ∀ l, Strict l → Strict (insP l p)
  | [], _ => by simp [insP]
  | x :: t, h => by
    obtain ⟨h1, h2⟩ := List.pairwise_cons.1 h
    rw [insP]
    by_cases hx : ordP x p < 0
    · rw [if_pos hx]
      refine List.pairwise_cons.2 ⟨fun y hy => ?_, insP_strict p t h2⟩
      rcases (insP_mem p y t).1 hy with rfl | hy
      · exact hx
      · exact h1 y hy
    · rw [if_neg hx]
      by_cases e : x = p
      · rw [if_pos e]; exact h
      · rw [if_neg e]
        have hpx : ordP p x < 0 := by
          have := ordP_cmp.anti x p
          rcases (show ordP p x < 0 ∨ ordP x p = 0 by omega) with h3 | h3
          · exact h3
          · exact absurd (ordP_zero.1 h3) e
        refine List.pairwise_cons.2 ⟨fun y hy => ?_, h⟩
        rcases List.mem_cons.1 hy with rfl | hy
        · exact hpx
        · exact ordP_cmp.lt_le hpx (by have := h1 y hy; omega)
theorem insP_len (p : S48) : ∀ l, (insP l p).length ≤ l.length + 1
  | [] => by simp [insP]
  | x :: t => by
    have := insP_len p t
    rw [insP]
    split
    · simp; omega
    · split <;> simp
theorem ordP_lt (x y : S48) : ordP x y < 0 ↔ x.f0 < y.f0 ∨ (x.f0 = y.f0 ∧ x.f1 < y.f1) := by
  unfold ordP or2 cmpI
  by_cases a : x.f0 < y.f0
  · simp [a]
  · by_cases b : x.f0 = y.f0
    · by_cases c : x.f1 < y.f1
      · simp [b, c]
      · by_cases d : x.f1 > y.f1
        · simp [b, c, d]
        · simp [b, c, d]
    · have : x.f0 > y.f0 := by omega
      simp [a, b, this]
theorem insP_at (p : S48) : ∀ (xs : List S48) (j : Nat), j ≤ xs.length → (∀ i : Nat, i < j → ordP (rd_T48 xs i) p < 0) → (j = xs.length ∨ ¬ ordP (rd_T48 xs j) p < 0) → insP xs p = if j < xs.length ∧ rd_T48 xs j = p then xs else xs.take j ++ [p] ++ xs.drop j
  | [], j, hj, _, _ => by
    have : j = 0 := by simpa using hj
    subst this
    simp [insP]
  | x :: t, 0, _, _, h => by
    have h0 : ¬ ordP x p < 0 := by
      rcases h with h | h
      · simp at h
      · exact h
    rw [insP, if_neg h0]
    have e : rd_T48 (x :: t) (0 : Nat) = x := rfl
    rw [e]
    by_cases hx : x = p
    · rw [if_pos hx, if_pos ⟨by simp, hx⟩]
    · rw [if_neg hx, if_neg (fun h => hx h.2)]
      rfl
  | x :: t, j + 1, hj, hlt, h => by
    have h0 : ordP x p < 0 := hlt 0 (by omega)
    have e : ∀ i : Nat, rd_T48 (x :: t) ((i + 1 : Nat) : Int) = rd_T48 t i := fun i => by simp [rd_T48, List.getD]
    rw [insP, if_pos h0, insP_at p t j (by simpa using hj) (fun i hi => by rw [← e]; exact hlt (i + 1) (by omega)) (by
      rcases h with h | h
      · left; simpa using h
      · right; rw [e] at h; exact h), e]
    by_cases hc : j < t.length ∧ rd_T48 t j = p
    · rw [if_pos hc, if_pos ⟨by simp; omega, hc.2⟩]
    · rw [if_neg hc, if_neg (fun h => hc ⟨by have := h.1; simp at this; omega, h.2⟩)]
      rfl
theorem put_end (x0 : List S48) (p : S48) (j : Nat) (hj : j ≤ x0.length) (hl : x0.length ≤ 1000000) : (if 0 ≤ (j : Int) then (if (j : Int) ≤ (x0.length : Int) then ((some (x0.take (j : Int).toNat : List S48)).bind fun y442 => (if ([] : List S48).length + y442.length < 8796093022208 then ((some (([] : List S48) ++ y442 : List S48)).bind fun y446 => (if y446.length < 8796093022208 then ((some (y446 ++ [p] : List S48)).bind fun y449 => ((some (x0.drop (j : Int).toNat : List S48)).bind fun y452 => (if y449.length + y452.length < 8796093022208 then (some (y449 ++ y452)) else (none)))) else (none))) else (none))) else (none)) else (none)) = some (x0.take j ++ [p] ++ x0.drop j) := by
  have ht : (x0.take j).length ≤ 1000000 := by rw [List.length_take]; omega
  have hd : (x0.drop j).length ≤ 1000000 := by rw [List.length_drop]; omega
  rw [if_pos (by omega), if_pos (by omega), Int.toNat_natCast, Option.bind_some, if_pos (by simp only [List.length_nil]; omega), Option.bind_some, List.nil_append, if_pos (by omega), Option.bind_some, Option.bind_some, if_pos (by rw [List.length_append, List.length_singleton]; omega)]
theorem refPut_loop (x0 : List S48) (p : S48) (hl : x0.length ≤ 1000000) (d : Nat) : ∀ j : Nat, j + d = x0.length → (∀ i : Nat, i < j → ordP (rd_T48 x0 i) p < 0) → Ev (fun k => cleanseref21_Put.l0 k x0 j p.f0 p.f1) (insP x0 p) := by
  induction d with
  | zero =>
    intro j hj hlt
    refine Ev.step (Ev.of fun k => ?_)
    rw [cleanseref21_Put.l0, if_neg (by omega), Option.bind_some, put_end x0 p j (by omega) hl, insP_at p x0 j (by omega) hlt (.inl (by omega)), if_neg (fun h => by have := h.1; omega)]
  | succ d ih =>
    intro j hj hlt
    have hw : wrap64 ((j : Int) + 1) = ((j + 1 : Nat) : Int) := by rw [wrap_up (by omega) (by omega)]; rfl
    by_cases hp : ordP (rd_T48 x0 j) p < 0
    · refine Ev.step ((ih (j + 1) (by omega) (fun i hi => by
        rcases (show i < j ∨ i = j by omega) with h | rfl
        · exact hlt i h
        · exact hp)).congr fun k => ?_)
      rw [cleanseref21_Put.l0, if_pos (by omega), if_pos (by omega), hw]
      rcases (ordP_lt _ _).1 hp with h | h
      · rw [if_pos h]
      · rw [if_neg (by omega), if_pos h.1, if_pos h.2]
    · have hins := insP_at p x0 j (by omega) hlt (.inr hp)
      have hp' := mt (ordP_lt (rd_T48 x0 j) p).2 hp
      refine Ev.step (Ev.of fun k => ?_)
      have hE : (((rd_T48 x0 j).f0 == p.f0) && ((rd_T48 x0 j).f1 == p.f1)) = decide (rd_T48 x0 j = p) := eq48 _ _
      have hend := put_end x0 p j (by omega) hl
      rw [if_pos (by omega)] at hend
      rw [cleanseref21_Put.l0, if_pos (by omega), if_pos (by omega), if_neg (by omega), hE]
      by_cases he : rd_T48 x0 j = p
      · rw [if_pos ⟨by omega, he⟩] at hins
        rw [hins, if_pos (by rw [he]), if_neg (by rw [he]; omega), if_pos (decide_eq_true he)]
      · rw [if_neg (fun h => he h.2)] at hins
        have hdec : ¬ decide (rd_T48 x0 j = p) = true := by rw [decide_eq_false he]; simp
        rw [hins]
        by_cases h0 : (rd_T48 x0 j).f0 = p.f0
        · rw [if_pos h0, if_neg (by omega), if_neg hdec, Option.bind_some, hend]
        · rw [if_neg h0, if_neg hdec, Option.bind_some, hend]
theorem mn_is (a b : Int) : mn a b = min a b := by unfold mn; omega
theorem mx_is (a b : Int) : mx a b = max a b := by unfold mx; omega
theorem refPut (x0 : List S48) (a b : Int) (hl : x0.length ≤ 1000000) : Ev (fun k => cleanseref21_Put.f k x0 a b) (insP x0 (pairOf a b)) := by
  refine (refPut_loop x0 (pairOf a b) hl x0.length 0 (by omega) (fun i hi => by omega)).congr fun k => ?_
  rw [cleanseref21_Put.f, mn_is, mx_is]
  rfl
end Go.Proofs.Ytocjknmojcgeiaa.Hand
