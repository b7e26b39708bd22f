/- The reference's best, Choose and Others are the program's Choose and Others. -/
import Derived.Test.YtegomjkgbeijlaaRefB
import Derived.Test.YtegomjkgbeijlaaRefI
namespace Go.Proofs.Ytegomjkgbeijlaa.Hand
set_option linter.unusedSimpArgs false
set_option linter.unusedSectionVars false
set_option linter.unnecessarySimpa false
open Go.RowKit Go.Proofs.Ytegomjkgbeijlaa.Sv Go.Proofs.YtegomjkgbeijlaaW.PrintWords MapK
set_option linter.unusedVariables false
/-- The candidate's value is none of the values at the given places. -/
def notIn (l : List S34) (W : List Int) (x : S44) : Bool := W.all (fun m => decide (x.f0.f0 ≠ (rd_T34 l m).f0))
abbrev bfin (k : Nat) (by_ : Int) (l : List S34) (t W : List Int) (a i : Int) (b : Bool) : Option Int :=
  if b = true then (if a < 0 then cleanseref23_best.l0 k by_ l t W i (wrap64 (i + 1)) else (cleanseref23_before.f k by_ l t i a).bind fun c => if c = true then cleanseref23_best.l0 k by_ l t W i (wrap64 (i + 1)) else cleanseref23_best.l0 k by_ l t W a (wrap64 (i + 1))) else cleanseref23_best.l0 k by_ l t W a (wrap64 (i + 1))
theorem best_inner (by_ : Int) (l : List S34) (t W : List Int) (a : Int) (i : Nat) (hi : i < l.length) (hW : ∀ m ∈ W, ∃ j : Nat, j < l.length ∧ m = (j : Int)) (hWl : W.length ≤ 2000000) (r : Int) (d : Nat) : ∀ (j : Nat) (b : Bool), j + d = W.length →
    Ev (fun k => bfin k by_ l t W a i (b && notIn l (W.drop j) (candAt l t i))) r → Ev (fun k => cleanseref23_best.l1 k by_ l t W a i b j) r := by
  induction d with
  | zero =>
    intro j b hj h
    have e : W.drop j = [] := List.drop_of_length_le (by omega)
    rw [e] at h
    simp only [notIn, List.all_nil, Bool.and_true] at h
    refine Ev.step (h.congr fun k => ?_)
    rw [cleanseref23_best.l1, if_neg (by omega)]
  | succ d ih =>
    intro j b hj h
    have hlt : j < W.length := by omega
    have hw : wrap64 ((j : Int) + 1) = ((j + 1 : Nat) : Int) := by rw [wrap_up (by omega) (by omega)]; rfl
    obtain ⟨m, hm, em⟩ := hW (W[j]) (List.getElem_mem hlt)
    have hr : rd W (j : Int) = m := by rw [← em]; simp [rd, List.getD_eq_getElem?_getD, hlt]
    refine Ev.step ((ih (j + 1) (b && decide ((rd_T34 l i).f0 ≠ (rd_T34 l m).f0)) (by omega) (h.congr fun k => ?_)).congr fun k => ?_)
    · rw [List.drop_eq_getElem_cons hlt]
      simp only [notIn, List.all_cons, em, Bool.and_assoc]
      rfl
    · rw [cleanseref23_best.l1, if_pos (by omega)]
      cases b with
      | false => rw [if_neg (by decide), Bool.false_and, hw]
      | true => rw [if_pos rfl, if_pos (by omega), if_pos (by omega), if_pos (by omega), hr, if_pos (by omega), if_pos (by omega), nev, Bool.true_and, hw]
theorem best_outer (by_ : Int) (h1 : 1 ≤ by_) (h6 : by_ ≤ 6) (l : List S34) (t W : List Int) (ht : l.length = t.length) (hl : l.length ≤ 1000000) (hW : ∀ m ∈ W, ∃ j : Nat, j < l.length ∧ m = (j : Int)) (hWl : W.length ≤ 2000000) (d : Nat) : ∀ i : Nat, i + d = l.length →
    Ev (fun k => cleanseref23_best.l0 k by_ l t W (enc (mn by_ ((candsP l t i).filter (notIn l W)) none)) i) (enc (mn by_ ((candsP l t l.length).filter (notIn l W)) none)) := by
  induction d with
  | zero =>
    intro i hi
    have e : i = l.length := by omega
    subst e
    refine Ev.step (Ev.of fun k => ?_)
    rw [cleanseref23_best.l0, if_neg (by omega)]
  | succ d ih =>
    intro i hi
    have hlt : i < l.length := by omega
    have hw : wrap64 ((i : Int) + 1) = ((i + 1 : Nat) : Int) := by rw [wrap_up (by omega) (by omega)]; rfl
    have hn := ih (i + 1) (by omega)
    have key : Ev (fun k => bfin k by_ l t W (enc (mn by_ ((candsP l t i).filter (notIn l W)) none)) i (countsB (rd_T34 l i) && notIn l (W.drop 0) (candAt l t i))) (enc (mn by_ ((candsP l t l.length).filter (notIn l W)) none)) := by
      rw [List.drop_zero]
      by_cases hc : countsB (rd_T34 l i) = true
      · rw [hc, Bool.true_and]
        rw [candsP_succ, if_pos hc, List.filter_append, mn_append] at hn
        by_cases hp : notIn l W (candAt l t i) = true
        · rw [List.filter_cons_of_pos hp, List.filter_nil] at hn
          rw [hp]
          cases hm : mn by_ ((candsP l t i).filter (notIn l W)) none with
          | none =>
            rw [hm] at hn
            refine hn.congr fun k => ?_
            simp only [bfin, enc, hw]
            rfl
          | some y =>
            rw [hm] at hn
            have hy := (mn_some hm).1
            obtain ⟨m, hml, _, rfl⟩ := mem_candsP.1 (List.mem_filter.1 hy).1
            have hb := refBefore by_ h1 h6 l t i m hlt (by omega) ht hl
            obtain ⟨K1, g1⟩ := hb
            dsimp only at g1
            obtain ⟨K2, g2⟩ := hn
            dsimp only at g2
            refine ⟨max K1 K2, fun k hk => ?_⟩
            have e1 := g1 k (by omega)
            have e2 := g2 k (by omega)
            simp only [mn] at e2
            show bfin k by_ l t W (m : Int) i true = _
            unfold bfin
            rw [if_pos rfl, if_neg (by omega), e1, Option.bind_some, hw]
            by_cases hcf : cf by_ (candAt l t i) (candAt l t m) < 0
            · rw [if_pos hcf] at e2
              rw [decide_eq_true hcf, if_pos rfl]
              exact e2
            · rw [if_neg hcf] at e2
              rw [decide_eq_false hcf, if_neg (by decide)]
              exact e2
        · rw [List.filter_cons_of_neg hp, List.filter_nil] at hn
          rw [Bool.not_eq_true] at hp
          rw [hp]
          refine hn.congr fun k => ?_
          simp only [bfin, hw, mn]
          rfl
      · rw [candsP_succ, if_neg hc] at hn
        rw [Bool.not_eq_true] at hc
        rw [hc, Bool.false_and]
        refine hn.congr fun k => ?_
        simp only [bfin, hw]
        rfl
    have := best_inner by_ l t W _ i hlt hW hWl _ W.length 0 _ (by omega) key
    refine Ev.step (this.congr fun k => ?_)
    rw [cleanseref23_best.l0, if_pos (by omega), if_pos (by omega), refCounts (rd_T34 l i), Option.bind_some]
    rfl
theorem refBest (by_ : Int) (h1 : 1 ≤ by_) (h6 : by_ ≤ 6) (l : List S34) (t W : List Int) (ht : l.length = t.length) (hl : l.length ≤ 1000000) (hW : ∀ m ∈ W, ∃ j : Nat, j < l.length ∧ m = (j : Int)) (hWl : W.length ≤ 2000000) :
    Ev (fun k => cleanseref23_best.f k by_ l t W) (enc ((rankedL by_ l t).filter (notIn l W)).head?) := by
  have h := best_outer by_ h1 h6 l t W ht hl hW hWl l.length 0 (by omega)
  have hinj : ∀ x ∈ candsP l t l.length, ∀ y ∈ candsP l t l.length, x.f1 = y.f1 → x = y := fun x hx y hy e => cand_inj hx hy e
  unfold rankedL
  rw [candsL_eqP, sortC_filter hinj, ← mn_head (fun x hx y hy => hinj x (List.mem_filter.1 hx).1 y (List.mem_filter.1 hy).1)]
  exact h
theorem refChoose (by_ : Int) (l : List S34) (t : List Int) (hl : l.length ≤ 1000000) : Ev (fun k => cleanseref23_Choose.f k by_ l t) (chooseL (rankedA by_ l t)) := by
  unfold rankedA
  by_cases hr : rightB by_ l t = true
  · rw [if_pos hr]
    have h := hr
    simp only [rightB, Bool.and_eq_true, decide_eq_true_eq] at h
    have hb := refBest by_ h.1.1 h.1.2 l t [] h.2 hl (by simp) (by simp)
    have e : (rankedL by_ l t).filter (notIn l []) = rankedL by_ l t := List.filter_eq_self.2 (fun x _ => rfl)
    rw [e, enc_head] at hb
    obtain ⟨K, g⟩ := hb
    dsimp only at g
    refine ⟨K, fun k hk => ?_⟩
    show cleanseref23_Choose.f k by_ l t = _
    rw [cleanseref23_Choose.f, refRight, Option.bind_some, if_pos hr, g k hk, Option.bind_some]
  · rw [if_neg hr]
    refine Ev.of fun k => ?_
    rw [cleanseref23_Choose.f, refRight, Option.bind_some, if_neg hr]
    rfl
theorem notIn_seen (l : List S34) (t : List Int) (D : List S44) (hD : ∀ x ∈ D, ∃ i : Nat, i < l.length ∧ x = candAt l t i) (y : S44) : notIn l (D.map (·.f1)) y = decide (val y ∉ D.map val) := by
  unfold notIn
  rw [Bool.eq_iff_iff]
  simp only [List.all_eq_true, decide_eq_true_eq, List.mem_map, not_exists, not_and]
  constructor
  · intro h x hx e
    obtain ⟨i, _, ex⟩ := hD x hx
    refine h x.f1 ⟨x, hx, rfl⟩ ?_
    rw [ex] at e ⊢
    exact e.symm
  · rintro h m ⟨x, hx, rfl⟩ e
    obtain ⟨i, _, ex⟩ := hD x hx
    refine h x hx ?_
    rw [ex] at e ⊢
    exact e.symm
theorem others_loop (by_ : Int) (h1 : 1 ≤ by_) (h6 : by_ ≤ 6) (l : List S34) (t : List Int) (ht : l.length = t.length) (hl : l.length ≤ 1000000) (n : Nat) : ∀ (D : List S44), D ≠ [] → (∀ x ∈ D, ∃ i : Nat, i < l.length ∧ x = candAt l t i) → (firstsG (D.map val) (rankedL by_ l t)).length ≤ n → D.length + n ≤ 2000000 →
    Ev (fun k => cleanseref23_Others.l0 k by_ l t (D.map (·.f1))) (((D ++ firstsG (D.map val) (rankedL by_ l t)).map (·.f1)).drop 1) := by
  induction n with
  | zero =>
    intro D hD0 hD hn hs
    have hb := refBest by_ h1 h6 l t (D.map (·.f1)) ht hl (by intro m hm; obtain ⟨x, hx, rfl⟩ := List.mem_map.1 hm; obtain ⟨i, hi, rfl⟩ := hD x hx; exact ⟨i, hi, rfl⟩) (by rw [List.length_map]; omega)
    have hf : (rankedL by_ l t).filter (notIn l (D.map (·.f1))) = (rankedL by_ l t).filter (fun y => decide (val y ∉ D.map val)) := List.filter_congr fun y _ => notIn_seen l t D hD y
    rw [hf] at hb
    have hnx := firstsG_next (rankedL by_ l t) (D.map val)
    have h0 : firstsG (D.map val) (rankedL by_ l t) = [] := List.eq_nil_of_length_eq_zero (by omega)
    rw [h0, List.append_nil]
    rw [h0] at hnx
    cases hh : ((rankedL by_ l t).filter (fun y => decide (val y ∉ D.map val))).head? with
    | some x => rw [hh] at hnx; cases hnx
    | none =>
      rw [hh] at hb
      obtain ⟨K, g⟩ := hb
      dsimp only at g
      refine ⟨K + 1, fun k hk => ?_⟩
      obtain ⟨m, rfl⟩ : ∃ m, k = m + 1 := ⟨k - 1, by omega⟩
      show cleanseref23_Others.l0 (m + 1) by_ l t (D.map (·.f1)) = _
      have hp : 1 ≤ ((D.map (·.f1)).length : Int) := by rw [List.length_map]; have := List.length_pos_iff.2 hD0; omega
      rw [cleanseref23_Others.l0, g m (by omega), Option.bind_some, if_pos (by decide), if_pos hp]
      rfl
  | succ n ih =>
    intro D hD0 hD hn hs
    have hb := refBest by_ h1 h6 l t (D.map (·.f1)) ht hl (by intro m hm; obtain ⟨x, hx, rfl⟩ := List.mem_map.1 hm; obtain ⟨i, hi, rfl⟩ := hD x hx; exact ⟨i, hi, rfl⟩) (by rw [List.length_map]; omega)
    have hf : (rankedL by_ l t).filter (notIn l (D.map (·.f1))) = (rankedL by_ l t).filter (fun y => decide (val y ∉ D.map val)) := List.filter_congr fun y _ => notIn_seen l t D hD y
    rw [hf] at hb
    have hnx := firstsG_next (rankedL by_ l t) (D.map val)
    cases hh : ((rankedL by_ l t).filter (fun y => decide (val y ∉ D.map val))).head? with
    | none =>
      rw [hh] at hb hnx
      simp only at hnx
      rw [hnx, List.append_nil]
      obtain ⟨K, g⟩ := hb
      dsimp only at g
      refine ⟨K + 1, fun k hk => ?_⟩
      obtain ⟨m, rfl⟩ : ∃ m, k = m + 1 := ⟨k - 1, by omega⟩
      show cleanseref23_Others.l0 (m + 1) by_ l t (D.map (·.f1)) = _
      have hp : 1 ≤ ((D.map (·.f1)).length : Int) := by rw [List.length_map]; have := List.length_pos_iff.2 hD0; omega
      rw [cleanseref23_Others.l0, g m (by omega), Option.bind_some, if_pos (by decide), if_pos hp]
      rfl
    | some x =>
      rw [hh] at hb hnx
      simp only at hnx
      have hx : x ∈ rankedL by_ l t := (List.mem_filter.1 (List.mem_of_head? hh)).1
      obtain ⟨i, hi, ex⟩ := ranked_mem hx
      have hc : firstsG (val x :: D.map val) (rankedL by_ l t) = firstsG ((D ++ [x]).map val) (rankedL by_ l t) := firstsG_congr (by intro v; simp [or_comm]) _
      have hlen := congrArg List.length hnx
      rw [List.length_cons, hc] at hlen
      have hr := ih (D ++ [x]) (by simp) (by intro y hy; rcases List.mem_append.1 hy with hy | hy; · exact hD y hy
                                             · rw [List.mem_singleton.1 hy]; exact ⟨i, hi, ex⟩) (by omega) (by rw [List.length_append, List.length_singleton]; omega)
      rw [hnx, hc]
      rw [List.append_assoc, List.singleton_append] at hr
      obtain ⟨K, g⟩ := hb
      dsimp only at g
      obtain ⟨K2, g2⟩ := hr
      dsimp only at g2
      refine ⟨max K K2 + 1, fun k hk => ?_⟩
      obtain ⟨m, rfl⟩ : ∃ m, k = m + 1 := ⟨k - 1, by omega⟩
      show cleanseref23_Others.l0 (m + 1) by_ l t (D.map (·.f1)) = _
      have hneg : ¬ enc (some x) < 0 := by rw [ex]; show ¬ (i : Int) < 0; omega
      rw [cleanseref23_Others.l0, g m (by omega), Option.bind_some, if_neg hneg, if_pos (by rw [List.length_map]; omega)]
      have := g2 m (by omega)
      rw [List.map_append, List.map_singleton] at this
      exact this
theorem refOthers (by_ : Int) (l : List S34) (t : List Int) (hl : l.length ≤ 1000000) : Ev (fun k => cleanseref23_Others.f k by_ l t) (outs (rankedA by_ l t) (rankedA by_ l t).length) := by
  rw [outs_all]
  have hch := refChoose by_ l t hl
  obtain ⟨K, g⟩ := hch
  dsimp only at g
  by_cases hr : rightB by_ l t = true
  · have e : rankedA by_ l t = rankedL by_ l t := by unfold rankedA; rw [if_pos hr]
    rw [e] at g ⊢
    have h := hr
    simp only [rightB, Bool.and_eq_true, decide_eq_true_eq] at h
    cases hs : rankedL by_ l t with
    | nil =>
      rw [hs] at g
      refine ⟨K, fun k hk => ?_⟩
      show cleanseref23_Others.f k by_ l t = _
      rw [cleanseref23_Others.f, g k hk, Option.bind_some, if_pos (by decide)]
      rfl
    | cons x r =>
      rw [hs] at g
      have hx : x ∈ rankedL by_ l t := by rw [hs]; exact List.mem_cons_self
      obtain ⟨i, hi, ex⟩ := ranked_mem hx
      have hlen := ranked_len by_ l t
      rw [e] at hlen
      have hf1 : firsts (x :: r) = x :: firstsG [val x] (x :: r) := by
        unfold firsts
        rw [firstsG_next (x :: r) []]
        simp
      have hl2 := firstsG_len (rankedL by_ l t) [val x]
      have hlo := others_loop by_ h.1.1 h.1.2 l t h.2 hl (firstsG [val x] (rankedL by_ l t)).length [x] (by simp) (by intro y hy; rw [List.mem_singleton.1 hy]; exact ⟨i, hi, ex⟩) (Nat.le_refl _) (by rw [List.length_singleton]; omega)
      obtain ⟨K2, g2⟩ := hlo
      dsimp only at g2
      refine ⟨max K K2, fun k hk => ?_⟩
      show cleanseref23_Others.f k by_ l t = _
      have hneg : ¬ chooseL (x :: r) < 0 := by show ¬ x.f1 < 0; rw [ex]; show ¬ (i : Int) < 0; omega
      rw [cleanseref23_Others.f, g k (by omega), Option.bind_some, if_neg hneg]
      have h2 := g2 k (by omega)
      rw [hs] at h2
      rw [hf1]
      exact h2
  · have e : rankedA by_ l t = [] := by unfold rankedA; rw [if_neg hr]
    rw [e] at g ⊢
    refine ⟨K, fun k hk => ?_⟩
    show cleanseref23_Others.f k by_ l t = _
    rw [cleanseref23_Others.f, g k hk, Option.bind_some, if_pos (by decide)]
    rfl
end Go.Proofs.Ytegomjkgbeijlaa.Hand
