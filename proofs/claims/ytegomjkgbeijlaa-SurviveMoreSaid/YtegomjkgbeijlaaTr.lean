/- Two inputs whose candidates answer to each other, in the same order, are ranked alike. -/
import Derived.Test.YtegomjkgbeijlaaRefI
namespace Go.Proofs.Ytegomjkgbeijlaa.Hand
set_option linter.unusedSimpArgs false
set_option linter.unusedSectionVars false
set_option linter.unnecessarySimpa false
open Go.RowKit Go.Proofs.Ytegomjkgbeijlaa.Sv Go.Proofs.YtegomjkgbeijlaaW.PrintWords MapK
set_option linter.unusedVariables false
theorem ranked_map {by_ : Int} {l l' : List S34} {t t' : List Int} (φ : S44 → S44) (hc : candsP l' t' l'.length = (candsP l t l.length).map φ)
    (hcf : ∀ x ∈ candsP l t l.length, ∀ y ∈ candsP l t l.length, cf by_ (φ x) (φ y) = cf by_ x y) : rankedL by_ l' t' = (rankedL by_ l t).map φ := by
  unfold rankedL
  rw [candsL_eqP, candsL_eqP]
  refine (sortC_unique ?_ ?_ (fun x hx y hy e => cand_inj hx hy e)).symm
  · rw [hc]
    exact (sortC_perm by_ _).map φ
  · rw [List.pairwise_map]
    refine (sortC_sorted by_ _).imp_of_mem (fun {x y} hx hy h => ?_)
    rw [hcf x ((sortC_perm by_ _).mem_iff.1 hx) y ((sortC_perm by_ _).mem_iff.1 hy)]
    exact h
theorem rankedA_map {by_ : Int} {l l' : List S34} {t t' : List Int} (φ : S44 → S44) (hr : rightB by_ l' t' = rightB by_ l t) (hc : candsP l' t' l'.length = (candsP l t l.length).map φ)
    (hcf : ∀ x ∈ candsP l t l.length, ∀ y ∈ candsP l t l.length, cf by_ (φ x) (φ y) = cf by_ x y) : rankedA by_ l' t' = (rankedA by_ l t).map φ := by
  unfold rankedA
  rw [hr]
  by_cases h : rightB by_ l t = true
  · rw [if_pos h, if_pos h, ranked_map φ hc hcf]
  · rw [if_neg h, if_neg h]; rfl
theorem firstsG_map (φ : S44 → S44) (hv : ∀ x, val (φ x) = val x) : ∀ (s : List S44) (seen : List S32), firstsG seen (s.map φ) = (firstsG seen s).map φ
  | [], _ => rfl
  | x :: r, seen => by
    rw [List.map_cons, firstsG, firstsG, hv]
    by_cases h : val x ∈ seen
    · rw [if_pos h, if_pos h]; exact firstsG_map φ hv r seen
    · rw [if_neg h, if_neg h, List.map_cons, firstsG_map φ hv r (val x :: seen)]
theorem outs_map (φ : S44 → S44) (hv : ∀ x, val (φ x) = val x) (s : List S44) : outs (s.map φ) (s.map φ).length = ((firsts s).drop 1).map (fun x => (φ x).f1) := by
  rw [outs_all]
  unfold firsts
  rw [firstsG_map φ hv, ← List.map_drop, List.map_map]
  rfl
theorem chooseL_map (φ : S44 → S44) (s : List S44) : chooseL (s.map φ) = match s with | [] => -1 | x :: _ => (φ x).f1 := by cases s <;> rfl
theorem rd_map34 {l : List S34} (g : S34 → S34) {i : Nat} (h : i < l.length) : rd_T34 (l.map g) (i : Int) = g (rd_T34 l i) := by
  rw [rd_at (by rw [List.length_map]; exact h), rd_at h, List.getElem_map]
theorem rdI_at {l : List Int} {i : Nat} (h : i < l.length) : rd l (i : Int) = l[i] := by simp [rd, List.getD_eq_getElem?_getD, h]
theorem rd_mapI {l : List Int} (g : Int → Int) {i : Nat} (h : i < l.length) : rd (l.map g) (i : Int) = g (rd l i) := by
  rw [rdI_at (by rw [List.length_map]; exact h), rdI_at h, List.getElem_map]
theorem list_range (l : List S34) : (List.range l.length).map (fun j : Nat => rd_T34 l (j : Int)) = l := by
  refine List.ext_getElem (by simp) (fun i h1 h2 => ?_)
  rw [List.getElem_map, List.getElem_range, rd_at h2]
theorem freq_count (l : List S34) (v : S32) : ∀ i, i ≤ l.length → freq l v i = (((l.take i).filter (fun c => countsB c && decide (c.f0 = v))).length : Int)
  | 0, _ => by simp [freq]
  | i + 1, h => by
    have ih := freq_count l v i (by omega)
    rw [List.take_succ_eq_append_getElem (by omega), List.filter_append, List.length_append, freq, ih, rd_at (show i < l.length by omega)]
    by_cases hc : countsB l[i] = true ∧ l[i].f0 = v
    · rw [if_pos hc, List.filter_cons_of_pos (by rw [hc.1, decide_eq_true hc.2]; rfl)]
      simp
    · rw [if_neg hc, List.filter_cons_of_neg (by simpa using hc)]
      simp
theorem freq_all (l : List S34) (v : S32) : freq l v l.length = ((l.filter (fun c => countsB c && decide (c.f0 = v))).length : Int) := by
  rw [freq_count l v l.length (Nat.le_refl _), List.take_length]

/-! ### everything moved by the same numbers -/
def shC (a : Int) (c : S34) : S34 := ⟨c.f0, c.f1, wrap64 (c.f2 + a)⟩
def shI (a : Int) (n : Int) : Int := wrap64 (n + a)
def shX (a b : Int) (x : S44) : S44 := ⟨shC b x.f0, x.f1, shI a x.f2, x.f3⟩
theorem shC_counts (a : Int) (c : S34) : countsB (shC a c) = countsB c := rfl
theorem freq_sh (a : Int) (l : List S34) (v : S32) : freq (l.map (shC a)) v (l.map (shC a)).length = freq l v l.length := by
  rw [freq_all, freq_all, List.filter_map, List.length_map]
  rfl
theorem cands_sh (a b : Int) (l : List S34) (t : List Int) (ht : l.length = t.length) : candsP (l.map (shC b)) (t.map (shI a)) (l.map (shC b)).length = (candsP l t l.length).map (shX a b) := by
  unfold candsP
  rw [List.map_map, List.length_map]
  have e1 : (List.range l.length).filter (fun j : Nat => countsB (rd_T34 (l.map (shC b)) (j : Int))) = (List.range l.length).filter (fun j : Nat => countsB (rd_T34 l (j : Int))) := by
    refine List.filter_congr (fun j hj => ?_)
    rw [rd_map34 _ (List.mem_range.1 hj)]
    rfl
  rw [e1]
  refine List.map_congr_left (fun j hj => ?_)
  have hj' := List.mem_range.1 (List.mem_filter.1 hj).1
  show candAt (l.map (shC b)) (t.map (shI a)) j = shX a b (candAt l t j)
  unfold candAt
  rw [freq_sh, rd_map34 _ hj', rd_mapI _ (by omega)]
  rfl
theorem cmpI_add {a b c : Int} : cmpI (a + c) (b + c) = cmpI a b := by
  unfold cmpI
  by_cases h : a < b
  · rw [if_pos h, if_pos (by omega)]
  · rw [if_neg h, if_neg (by omega)]
    by_cases h2 : a > b
    · rw [if_pos h2, if_pos (by omega)]
    · rw [if_neg h2, if_neg (by omega)]
theorem wrap_near {i : Int} (h0 : -4000000000 ≤ i) (h : i ≤ 4000000000) : wrap64 i = i := by unfold wrap64; omega
theorem cmpI_sh {a x y : Int} (ha : -1000000000 ≤ a ∧ a ≤ 1000000000) (hx : -1000000000 ≤ x ∧ x ≤ 1000000000) (hy : -1000000000 ≤ y ∧ y ≤ 1000000000) : cmpI (wrap64 (x + a)) (wrap64 (y + a)) = cmpI x y := by
  rw [wrap_near (by omega) (by omega), wrap_near (by omega) (by omega), cmpI_add]
theorem cf_sh (by_ a b : Int) (ha : -1000000000 ≤ a ∧ a ≤ 1000000000) (hb : -1000000000 ≤ b ∧ b ≤ 1000000000) (x y : S44)
    (hx : -1000000000 ≤ x.f0.f2 ∧ x.f0.f2 ≤ 1000000000) (hy : -1000000000 ≤ y.f0.f2 ∧ y.f0.f2 ≤ 1000000000) (hx2 : -1000000000 ≤ x.f2 ∧ x.f2 ≤ 1000000000) (hy2 : -1000000000 ≤ y.f2 ∧ y.f2 ≤ 1000000000) : cf by_ (shX a b x) (shX a b y) = cf by_ x y := by
  have e1 : cmpI (shX a b y).f2 (shX a b x).f2 = cmpI y.f2 x.f2 := cmpI_sh ha hy2 hx2
  have e2 : cmpI (shX a b y).f0.f2 (shX a b x).f0.f2 = cmpI y.f0.f2 x.f0.f2 := cmpI_sh hb hy hx
  have e3 : ruleC by_ (shX a b x) (shX a b y) = ruleC by_ x y := by
    unfold ruleC
    rw [e1, e2]
    rfl
  unfold cf
  rw [e1, e2, e3]
  rfl
theorem set_mid {α : Type} (g : α → α) (l : List α) (i : Nat) (h : i < l.length) : ((l.take i).map g ++ l.drop i).set i (g l[i]) = (l.take (i + 1)).map g ++ l.drop (i + 1) := by
  have e : ((l.take i).map g).length = i := by rw [List.length_map, List.length_take]; omega
  rw [List.set_append_right _ _ (by omega), e, Nat.sub_self, List.drop_eq_getElem_cons h, List.set_cons_zero, List.take_succ_eq_append_getElem h, List.map_append, List.append_assoc]
  rfl
theorem get_mid {α : Type} (g : α → α) (l : List α) (i : Nat) (h : i < l.length) : ((l.take i).map g ++ l.drop i)[i]'(by simp; omega) = l[i] := by
  have e : i + (i - min i l.length) = i := by omega
  rw [List.getElem_append_right (by simp; omega)]
  simp [e]
theorem len_mid {α : Type} (g : α → α) (l : List α) (i : Nat) (h : i ≤ l.length) : ((l.take i).map g ++ l.drop i).length = l.length := by
  simp; omega
theorem sh_same {by_ a b : Int} (ha : -1000000000 ≤ a ∧ a ≤ 1000000000) (hb : -1000000000 ≤ b ∧ b ≤ 1000000000) {l : List S34} {t : List Int} (ht : l.length = t.length)
    (hl : ∀ c ∈ l, -1000000000 ≤ c.f2 ∧ c.f2 ≤ 1000000000) (htr : ∀ n ∈ t, -1000000000 ≤ n ∧ n ≤ 1000000000) :
    rankedA by_ (l.map (shC b)) (t.map (shI a)) = (rankedA by_ l t).map (shX a b) := by
  have hin : ∀ x ∈ candsP l t l.length, (-1000000000 ≤ x.f0.f2 ∧ x.f0.f2 ≤ 1000000000) ∧ (-1000000000 ≤ x.f2 ∧ x.f2 ≤ 1000000000) := by
    intro x hx
    obtain ⟨i, hi, _, rfl⟩ := mem_candsP.1 hx
    refine ⟨?_, ?_⟩
    · show -1000000000 ≤ (rd_T34 l i).f2 ∧ (rd_T34 l i).f2 ≤ 1000000000
      rw [rd_at hi]
      exact hl _ (List.getElem_mem hi)
    · show -1000000000 ≤ rd t i ∧ rd t i ≤ 1000000000
      rw [rdI_at (by omega)]
      exact htr _ (List.getElem_mem _)
  refine rankedA_map (shX a b) ?_ (cands_sh a b l t ht) (fun x hx y hy => cf_sh by_ a b ha hb x y (hin x hx).1 (hin y hy).1 (hin x hx).2 (hin y hy).2)
  unfold rightB
  rw [List.length_map, List.length_map]
theorem sh_choose {a b : Int} (s : List S44) : chooseL (s.map (shX a b)) = chooseL s := by cases s <;> rfl
theorem sh_outs {a b : Int} (s : List S44) : outs (s.map (shX a b)) (s.map (shX a b)).length = outs s s.length := by
  rw [outs_map (shX a b) (fun _ => rfl), outs_all]
  rfl

/-! ### only the cells that count -/
def idx (l : List S34) (i : Nat) : List Nat := (List.range i).filter (fun j : Nat => countsB (rd_T34 l (j : Int)))
def nl (l : List S34) (i : Nat) : List S34 := (idx l i).map (fun j : Nat => rd_T34 l (j : Int))
def nt (l : List S34) (t : List Int) (i : Nat) : List Int := (idx l i).map (fun j : Nat => rd t (j : Int))
def na (l : List S34) (i : Nat) : List Int := (idx l i).map (fun j : Nat => (j : Int))
theorem idx_succ (l : List S34) (i : Nat) : idx l (i + 1) = if countsB (rd_T34 l i) = true then idx l i ++ [i] else idx l i := by
  unfold idx
  rw [List.range_succ, List.filter_append]
  by_cases h : countsB (rd_T34 l i) = true
  · simp [h]
  · simp [h]
theorem idx_len (l : List S34) (i : Nat) : (idx l i).length ≤ i := by
  unfold idx
  refine Nat.le_trans (List.length_filter_le _ _) (by simp)
theorem nl_is (l : List S34) : nl l l.length = l.filter countsB := by
  have h := list_range l
  have h2 := congrArg (List.filter countsB) h
  rw [List.filter_map] at h2
  exact h2
theorem idx_lt (l : List S34) (i : Nat) : (idx l i).Pairwise (· < ·) := List.Pairwise.filter _ List.pairwise_lt_range
theorem idx_counts {l : List S34} {i j : Nat} (h : j ∈ idx l i) : j < i ∧ countsB (rd_T34 l (j : Int)) = true := by
  unfold idx at h
  rw [List.mem_filter, List.mem_range] at h
  exact h
def upX (l : List S34) (x : S44) : S44 := ⟨x.f0, rd (na l l.length) x.f1, x.f2, x.f3⟩
theorem freq_nl (l : List S34) (v : S32) : freq (nl l l.length) v (nl l l.length).length = freq l v l.length := by
  rw [freq_all, freq_all, nl_is, List.filter_filter]
  congr 2
  refine List.filter_congr (fun c _ => ?_)
  cases countsB c <;> simp
theorem nl_rd (l : List S34) {j : Nat} (h : j < (idx l l.length).length) : rd_T34 (nl l l.length) (j : Int) = rd_T34 l (((idx l l.length)[j] : Nat) : Int) := by
  unfold nl
  rw [rd_at (by rw [List.length_map]; exact h), List.getElem_map]
theorem nt_rd (l : List S34) (t : List Int) {j : Nat} (h : j < (idx l l.length).length) : rd (nt l t l.length) (j : Int) = rd t (((idx l l.length)[j] : Nat) : Int) := by
  unfold nt
  rw [rdI_at (by rw [List.length_map]; exact h), List.getElem_map]
theorem na_rd (l : List S34) {j : Nat} (h : j < (idx l l.length).length) : rd (na l l.length) (j : Int) = (((idx l l.length)[j] : Nat) : Int) := by
  unfold na
  rw [rdI_at (by rw [List.length_map]; exact h), List.getElem_map]
theorem nl_len (l : List S34) : (nl l l.length).length = (idx l l.length).length := by unfold nl; rw [List.length_map]
theorem cands_nl (l : List S34) (t : List Int) : candsP l t l.length = (candsP (nl l l.length) (nt l t l.length) (nl l l.length).length).map (upX l) := by
  have e0 : candsP l t l.length = (idx l l.length).map (candAt l t) := rfl
  have e1 : (List.range (nl l l.length).length).filter (fun j : Nat => countsB (rd_T34 (nl l l.length) (j : Int))) = List.range (idx l l.length).length := by
    rw [nl_len]
    refine List.filter_eq_self.2 (fun j hj => ?_)
    have hj' := List.mem_range.1 hj
    rw [nl_rd l hj']
    exact (idx_counts (List.getElem_mem hj')).2
  rw [e0]
  unfold candsP
  rw [e1, List.map_map]
  refine List.ext_getElem (by simp) (fun j h1 h2 => ?_)
  rw [List.length_map] at h1
  rw [List.getElem_map, List.getElem_map, List.getElem_range]
  show candAt l t (idx l l.length)[j] = upX l (candAt (nl l l.length) (nt l t l.length) j)
  unfold candAt upX
  dsimp only
  rw [freq_nl, nl_rd l h1, nt_rd l t h1, na_rd l h1]
theorem cf_f1 (by_ : Int) (x y : S44) (p q : Int) (h : cmpI p q = cmpI x.f1 y.f1) : cf by_ ⟨x.f0, p, x.f2, x.f3⟩ ⟨y.f0, q, y.f2, y.f3⟩ = cf by_ x y := by
  unfold cf
  dsimp only
  rw [h]
  rfl
theorem cmp_idx (l : List S34) {i j : Nat} (hi : i < (idx l l.length).length) (hj : j < (idx l l.length).length) : cmpI (((idx l l.length)[i] : Nat) : Int) (((idx l l.length)[j] : Nat) : Int) = cmpI (i : Int) (j : Int) := by
  have hp := List.pairwise_iff_getElem.1 (idx_lt l l.length)
  unfold cmpI
  rcases Nat.lt_trichotomy i j with h | h | h
  · have := hp i j hi hj h
    rw [if_pos (by omega), if_pos (by omega)]
  · subst h
    rw [if_neg (by omega), if_neg (by omega), if_neg (by omega), if_neg (by omega)]
  · have := hp j i hj hi h
    rw [if_neg (by omega), if_pos (by omega), if_neg (by omega), if_pos (by omega)]
theorem up_same {by_ : Int} {l : List S34} {t : List Int} (ht : l.length = t.length) : rankedA by_ l t = (rankedA by_ (nl l l.length) (nt l t l.length)).map (upX l) := by
  refine rankedA_map (upX l) ?_ (cands_nl l t) (fun x hx y hy => ?_)
  · unfold rightB
    have e : (nl l l.length).length = (nt l t l.length).length := by unfold nl nt; rw [List.length_map, List.length_map]
    rw [decide_eq_true ht, decide_eq_true e]
  · obtain ⟨i, hi, _, rfl⟩ := mem_candsP.1 hx
    obtain ⟨j, hj, _, rfl⟩ := mem_candsP.1 hy
    rw [nl_len] at hi hj
    unfold upX
    refine cf_f1 by_ _ _ _ _ ?_
    show cmpI (rd (na l l.length) (i : Int)) (rd (na l l.length) (j : Int)) = cmpI (i : Int) (j : Int)
    rw [na_rd l hi, na_rd l hj, cmp_idx l hi hj]
end Go.Proofs.Ytegomjkgbeijlaa.Hand
