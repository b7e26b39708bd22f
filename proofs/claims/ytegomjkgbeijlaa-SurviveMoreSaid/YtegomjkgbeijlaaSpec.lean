/- What survive.Choose and survive.Others return, in plain words on lists; no program. -/
import Derived.Test.YtegomjkgbeijlaaHandE
namespace Go.Proofs.Ytegomjkgbeijlaa.Hand
set_option linter.unusedSimpArgs false
set_option linter.unusedSectionVars false
set_option linter.unnecessarySimpa false
open Go.Proofs.Ytegomjkgbeijlaa.Sv Go.Proofs.YtegomjkgbeijlaaW.PrintWords MapK
set_option linter.unusedVariables false

/-- From some number of rounds on, the answer is r. -/
def Ev {α : Type} (g : Nat → Option α) (r : α) : Prop := ∃ K, ∀ k, K ≤ k → g k = some r
namespace Ev
variable {α β : Type}
theorem of {g : Nat → Option α} {r : α} (h : ∀ k, g k = some r) : Ev g r := ⟨0, fun k _ => h k⟩
theorem bind {g : Nat → Option α} {f : Nat → α → Option β} {a : α} {r : β} (h : Ev g a) (h' : Ev (fun k => f k a) r) : Ev (fun k => (g k).bind (f k)) r := by
  obtain ⟨K, hK⟩ := h
  obtain ⟨K', hK'⟩ := h'
  refine ⟨max K K', fun k hk => ?_⟩
  show (g k).bind (f k) = some r
  rw [hK k (by omega), Option.bind_some]
  exact hK' k (by omega)
theorem step {g : Nat → Option α} {r : α} (h : Ev (fun k => g (k + 1)) r) : Ev g r := by
  obtain ⟨K, hK⟩ := h
  refine ⟨K + 1, fun k hk => ?_⟩
  obtain ⟨m, rfl⟩ : ∃ m, k = m + 1 := ⟨k - 1, by omega⟩
  exact hK m (by omega)
theorem get {g : Nat → Option α} {r : α} (h : Ev g r) : ∃ k, g k = some r := by obtain ⟨K, hK⟩ := h; exact ⟨K, hK K (Nat.le_refl _)⟩
theorem congr {g g' : Nat → Option α} {r : α} (h : Ev g r) (he : ∀ k, g' k = g k) : Ev g' r := by obtain ⟨K, hK⟩ := h; exact ⟨K, fun k hk => (he k).trans (hK k hk)⟩
end Ev

abbrev val (x : S44) : S32 := x.f0.f0

/-- How many of the first i cells count and have a value. -/
def freq (l : List S34) (v : S32) : Nat → Int
  | 0 => 0
  | i + 1 => if countsB (rd_T34 l i) = true ∧ (rd_T34 l i).f0 = v then freq l v i + 1 else freq l v i
theorem counted_freq (l : List S34) (v : S32) : ∀ i, (mlook (counted l i) v).getD 0 = freq l v i
  | 0 => rfl
  | i + 1 => by
    have ih := counted_freq l v i
    have ih2 := counted_freq l (rd_T34 l i).f0 i
    unfold counted freq
    by_cases hc : countsB (rd_T34 l i) = true
    · rw [if_pos hc, mlook_put (counted_le l i v).2.2]
      by_cases hv : v = (rd_T34 l i).f0
      · subst hv
        rw [if_pos rfl, if_pos ⟨hc, rfl⟩, ← ih]
        rfl
      · rw [if_neg hv, if_neg (fun h => hv h.2.symm)]
        exact ih
    · rw [if_neg hc, if_neg (fun h => hc h.1)]
      exact ih
/-- The candidate at index i. -/
def candAt (l : List S34) (t : List Int) (i : Nat) : S44 := ⟨rd_T34 l i, i, rd t i, freq l (rd_T34 l i).f0 l.length⟩
/-- The candidates among the first i cells, with their numbers. -/
def candsP (l : List S34) (t : List Int) (i : Nat) : List S44 := ((List.range i).filter (fun j : Nat => countsB (rd_T34 l (j : Int)))).map (candAt l t)
theorem candsP_succ (l : List S34) (t : List Int) (i : Nat) : candsP l t (i + 1) = if countsB (rd_T34 l i) = true then candsP l t i ++ [candAt l t i] else candsP l t i := by
  unfold candsP
  rw [List.range_succ, List.filter_append, List.map_append]
  by_cases h : countsB (rd_T34 l i) = true
  · simp [h]
  · simp [h]
theorem candsL_eqP (l : List S34) (t : List Int) : candsL l t = candsP l t l.length := by
  rw [candsL_eq]
  have key : ∀ i, (cands0 l t i).map (fun x : S44 => ({ x with f3 := (mlook (counted l l.length) x.f0.f0).getD 0 } : S44)) = candsP l t i := by
    intro i
    induction i with
    | zero => rfl
    | succ i ih =>
      rw [candsP_succ]
      unfold cands0
      by_cases h : countsB (rd_T34 l i) = true
      · rw [if_pos h, if_pos h, List.map_append, ih]
        simp [candAt, counted_freq]
      · rw [if_neg h, if_neg h, ih]
  exact key l.length
theorem mem_candsP {l : List S34} {t : List Int} {n : Nat} {x : S44} : x ∈ candsP l t n ↔ ∃ i, i < n ∧ countsB (rd_T34 l i) = true ∧ x = candAt l t i := by
  unfold candsP
  simp only [List.mem_map, List.mem_filter, List.mem_range]
  constructor
  · rintro ⟨i, ⟨h1, h2⟩, rfl⟩; exact ⟨i, h1, h2, rfl⟩
  · rintro ⟨i, h1, h2, rfl⟩; exact ⟨i, ⟨h1, h2⟩, rfl⟩
theorem cand_inj {l : List S34} {t : List Int} {n : Nat} {x y : S44} (hx : x ∈ candsP l t n) (hy : y ∈ candsP l t n) (h : x.f1 = y.f1) : x = y := by
  obtain ⟨i, _, _, rfl⟩ := mem_candsP.1 hx
  obtain ⟨j, _, _, rfl⟩ := mem_candsP.1 hy
  have : i = j := by simp only [candAt] at h; omega
  rw [this]

/-! ### the least of a list, and the head of the sorted one -/
/-- The first by the rule, scanning. -/
def mn (by_ : Int) : List S44 → Option S44 → Option S44
  | [], a => a
  | x :: r, none => mn by_ r (some x)
  | x :: r, some y => mn by_ r (if cf by_ x y < 0 then some x else some y)
theorem mn_append (by_ : Int) (r s : List S44) : ∀ a, mn by_ (r ++ s) a = mn by_ s (mn by_ r a) := by
  induction r with
  | nil => intro a; rfl
  | cons x r ih =>
    intro a
    cases a with
    | none => exact ih _
    | some y => exact ih _
theorem mn_spec (by_ : Int) : ∀ (l : List S44) (y : S44), ∃ x, mn by_ l (some y) = some x ∧ (x = y ∨ x ∈ l) ∧ cf by_ x y ≤ 0 ∧ ∀ z ∈ l, cf by_ x z ≤ 0
  | [], y => ⟨y, rfl, .inl rfl, by rw [(cf_cmp by_).refl]; omega, by simp⟩
  | x :: r, y => by
    by_cases h : cf by_ x y < 0
    · obtain ⟨m, h1, h2, h3, h4⟩ := mn_spec by_ r x
      refine ⟨m, by simp only [mn, if_pos h]; exact h1, ?_, (cf_cmp by_).trans m x y h3 (by omega), ?_⟩
      · rcases h2 with rfl | h2
        · exact .inr List.mem_cons_self
        · exact .inr (List.mem_cons_of_mem _ h2)
      · intro z hz
        rcases List.mem_cons.1 hz with rfl | hz
        · exact h3
        · exact h4 z hz
    · obtain ⟨m, h1, h2, h3, h4⟩ := mn_spec by_ r y
      refine ⟨m, by simp only [mn, if_neg h]; exact h1, ?_, h3, ?_⟩
      · rcases h2 with rfl | h2
        · exact .inl rfl
        · exact .inr (List.mem_cons_of_mem _ h2)
      · intro z hz
        rcases List.mem_cons.1 hz with rfl | hz
        · exact (cf_cmp by_).trans m y z h3 (by have := (cf_cmp by_).anti z y; omega)
        · exact h4 z hz
theorem mn_none (by_ : Int) : ∀ l : List S44, mn by_ l none = none ↔ l = []
  | [] => by simp [mn]
  | x :: r => by
    obtain ⟨m, h1, _⟩ := mn_spec by_ r x
    simp only [mn, h1]
    simp
theorem mn_some {by_ : Int} {l : List S44} {x : S44} (h : mn by_ l none = some x) : x ∈ l ∧ ∀ z ∈ l, cf by_ x z ≤ 0 := by
  cases l with
  | nil => simp [mn] at h
  | cons y r =>
    obtain ⟨m, h1, h2, h3, h4⟩ := mn_spec by_ r y
    have hm : m = x := by
      have : mn by_ (y :: r) none = mn by_ r (some y) := rfl
      rw [this, h1] at h
      exact Option.some.inj h
    subst hm
    refine ⟨?_, fun z hz => ?_⟩
    · rcases h2 with rfl | h2
      · exact List.mem_cons_self
      · exact List.mem_cons_of_mem _ h2
    · rcases List.mem_cons.1 hz with rfl | hz
      · exact h3
      · exact h4 z hz
theorem mn_head {by_ : Int} {l : List S44} (hn : ∀ x ∈ l, ∀ y ∈ l, x.f1 = y.f1 → x = y) : mn by_ l none = (sortC by_ l).head? := by
  have hp := sortC_perm by_ l
  cases hs : sortC by_ l with
  | nil =>
    rw [hs] at hp
    have : l = [] := List.nil_perm.1 hp
    subst this
    rfl
  | cons x r =>
    rw [hs] at hp
    have hpw := sortC_sorted by_ l
    rw [hs] at hpw
    have hx : x ∈ l := hp.mem_iff.1 List.mem_cons_self
    cases hm : mn by_ l none with
    | none => rw [(mn_none by_ l).1 hm] at hx; simp at hx
    | some m =>
      obtain ⟨h1, h2⟩ := mn_some hm
      have h3 := h2 x hx
      have h4 : cf by_ x m ≤ 0 := by
        rcases List.mem_cons.1 (hp.mem_iff.2 h1) with rfl | h
        · rw [(cf_cmp by_).refl]; omega
        · exact (List.pairwise_cons.1 hpw).1 m h
      have : m = x := hn m h1 x hx (cf_zero (by_ := by_) (by have := (cf_cmp by_).anti m x; omega))
      rw [this]
      rfl
theorem sortC_filter {by_ : Int} {l : List S44} (hn : ∀ x ∈ l, ∀ y ∈ l, x.f1 = y.f1 → x = y) (p : S44 → Bool) : (sortC by_ l).filter p = sortC by_ (l.filter p) :=
  sortC_unique ((sortC_perm by_ l).filter p) ((sortC_sorted by_ l).filter p) (fun x hx y hy => hn x (List.mem_filter.1 hx).1 y (List.mem_filter.1 hy).1)

/-! ### the first of each value -/
def firstsG (seen : List S32) : List S44 → List S44
  | [] => []
  | x :: r => if val x ∈ seen then firstsG seen r else x :: firstsG (val x :: seen) r
theorem firstsG_congr {a b : List S32} (h : ∀ v, v ∈ a ↔ v ∈ b) : ∀ s, firstsG a s = firstsG b s
  | [] => rfl
  | x :: r => by
    unfold firstsG
    by_cases hx : val x ∈ a
    · rw [if_pos hx, if_pos ((h _).1 hx)]; exact firstsG_congr h r
    · rw [if_neg hx, if_neg (fun hh => hx ((h _).2 hh))]
      rw [firstsG_congr (a := val x :: a) (b := val x :: b) (fun v => by simp [h v]) r]
theorem firstsG_snoc (x : S44) : ∀ (s : List S44) (seen : List S32), firstsG seen (s ++ [x]) = firstsG seen s ++ (if val x ∈ seen ∨ val x ∈ s.map val then [] else [x])
  | [], seen => by
    by_cases h : val x ∈ seen
    · simp [firstsG, h]
    · simp [firstsG, h]
  | y :: r, seen => by
    show firstsG seen (y :: (r ++ [x])) = _
    unfold firstsG
    by_cases hy : val y ∈ seen
    · rw [if_pos hy, if_pos hy, firstsG_snoc x r seen]
      congr 1
      by_cases h : val x ∈ seen
      · simp [h]
      · by_cases h2 : val x = val y
        · exact absurd (h2 ▸ hy) h
        · simp [h, h2]
    · rw [if_neg hy, if_neg hy, firstsG_snoc x r (val y :: seen), List.cons_append]
      congr 2
      by_cases h : val x ∈ seen
      · simp [h]
      · by_cases h2 : val x = val y
        · simp [h2]
        · simp [h, h2]
/-- The next of the firsts is the first whose value is not yet there. -/
theorem firstsG_next : ∀ (s : List S44) (seen : List S32), firstsG seen s = match (s.filter (fun y => decide (val y ∉ seen))).head? with | none => [] | some x => x :: firstsG (val x :: seen) s
  | [], seen => rfl
  | y :: r, seen => by
    have ih := firstsG_next r seen
    by_cases hy : val y ∈ seen
    · have e1 : firstsG seen (y :: r) = firstsG seen r := by rw [firstsG, if_pos hy]
      have e2 : (y :: r).filter (fun y => decide (val y ∉ seen)) = r.filter (fun y => decide (val y ∉ seen)) := by rw [List.filter_cons_of_neg (by simpa using hy)]
      rw [e1, e2, ih]
      cases (r.filter (fun y => decide (val y ∉ seen))).head? with
      | none => rfl
      | some x =>
        simp only
        rw [firstsG, if_pos (List.mem_cons_of_mem _ hy)]
    · rw [List.filter_cons_of_pos (by simpa using hy)]
      simp only [List.head?_cons]
      have e3 : firstsG (val y :: seen) (y :: r) = firstsG (val y :: seen) r := by rw [firstsG, if_pos List.mem_cons_self]
      rw [e3, firstsG, if_neg hy]
/-- The first candidates of each value. -/
def firsts (s : List S44) : List S44 := firstsG [] s

theorem seenM_nodup (s : List S44) : ∀ j, ((seenM s j).map (·.1)).Nodup
  | 0 => by simp [seenM]
  | j + 1 => mput_nodup (seenM_nodup s j) _ _
theorem seenM_look (s : List S44) (v : S32) : ∀ j, j ≤ s.length → ((mlook (seenM s j) v).getD false = true ↔ v ∈ (s.take j).map val)
  | 0, _ => by simp [seenM, mlook, firstAt]
  | j + 1, h => by
    have ih := seenM_look s v j (by omega)
    have hx : rd_T44 s j = s[j] := by simp [rd_T44, List.getD_eq_getElem?_getD, show j < s.length by omega]
    unfold seenM
    rw [mlook_put (seenM_nodup s j), hx, List.take_succ_eq_append_getElem (by omega), List.map_append, List.mem_append]
    by_cases hv : v = s[j].f0.f0
    · simp [hv, val]
    · rw [if_neg hv, ih]
      simp [hv, val]
theorem outs_firsts (s : List S44) : ∀ j, j ≤ s.length → outs s j = ((firsts (s.take j)).drop 1).map (·.f1)
  | 0, _ => by simp [outs, firsts, firstsG]
  | j + 1, h => by
    have ih := outs_firsts s j (by omega)
    have hx : rd_T44 s j = s[j] := by simp [rd_T44, List.getD_eq_getElem?_getD, show j < s.length by omega]
    have hs := seenM_look s s[j].f0.f0 j (by omega)
    unfold outs
    rw [hx, ih, List.take_succ_eq_append_getElem (by omega)]
    unfold firsts
    rw [firstsG_snoc]
    by_cases hj : j = 0
    · subst hj
      simp [firstsG]
    · have hj0 : decide (0 < (j : Int)) = true := by simp; omega
      have hne : ∃ a r, firstsG [] (s.take j) = a :: r := by
        obtain ⟨a, r, e⟩ : ∃ a r, s.take j = a :: r := by
          cases e : s.take j with
          | nil =>
            have h9 := congrArg List.length e
            rw [List.length_take, List.length_nil] at h9
            omega
          | cons a r => exact ⟨a, r, rfl⟩
        rw [e]
        exact ⟨a, firstsG [val a] r, by simp [firstsG]⟩
      obtain ⟨a, r, e⟩ := hne
      rw [hj0, Bool.true_and]
      by_cases hv : s[j].f0.f0 ∈ (s.take j).map val
      · rw [hs.2 hv, if_neg (by simp), if_pos (.inr hv), List.append_nil]
      · have hf : (mlook (seenM s j) s[j].f0.f0).getD false = false := by
          cases hb : (mlook (seenM s j) s[j].f0.f0).getD false with
          | false => rfl
          | true => exact absurd (hs.1 hb) hv
        rw [hf, if_pos (by simp), if_neg (by simpa using hv), e]
        simp
theorem outs_all (s : List S44) : outs s s.length = ((firsts s).drop 1).map (·.f1) := by
  have := outs_firsts s s.length (Nat.le_refl _)
  rwa [List.take_length] at this
end Go.Proofs.Ytegomjkgbeijlaa.Hand
