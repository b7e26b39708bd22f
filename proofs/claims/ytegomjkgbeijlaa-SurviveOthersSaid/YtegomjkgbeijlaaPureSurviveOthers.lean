/- SurviveOthers in plain words: each of the others is the chosen one once the cells with the values before it are cleared. -/
import Derived.Test.YtegomjkgbeijlaaHd
import Derived.Test.YtegomjkgbeijlaaTr
import Derived.Test.YtegomjkgbeijlaaStSurviveOthers
namespace Go.Proofs.Ytegomjkgbeijlaa.Pure
open Go.RowKit Go.Proofs.Ytegomjkgbeijlaa.Sv Hand
open Go.Proofs.YtegomjkgbeijlaaW.PrintWords hiding Ev
set_option linter.unusedVariables false
set_option linter.unusedSimpArgs false
abbrev zcell : S34 := ⟨⟨0, 0, ⟨#[]⟩⟩, 0, 0⟩
/-- A cell of value v cleared. -/
def z1 (v : S32) (c : S34) : S34 := if c.f0 = v then zcell else c
/-- A cell of one of the values V cleared. -/
def zV (V : List S32) (c : S34) : S34 := if c.f0 ∈ V then zcell else c
theorem z_next (v : S32) (V : List S32) (l : List S34) : (l.map (zV V)).map (z1 v) = l.map (zV (v :: V)) := by
  rw [List.map_map]
  refine List.map_congr_left (fun c _ => ?_)
  show z1 v (zV V c) = zV (v :: V) c
  unfold zV z1
  by_cases h : c.f0 ∈ V
  · rw [if_pos h, if_pos (List.mem_cons_of_mem _ h)]
    split <;> rfl
  · rw [if_neg h]
    by_cases h2 : c.f0 = v
    · rw [if_pos h2, if_pos (by rw [h2]; exact List.mem_cons_self)]
    · rw [if_neg h2, if_neg (by simp [h, h2])]
theorem z_counts (V : List S32) (c : S34) : countsB (zV V c) = (countsB c && decide (c.f0 ∉ V)) := by
  unfold zV
  by_cases h : c.f0 ∈ V
  · rw [if_pos h, decide_eq_false (fun hh => hh h), Bool.and_false]
    simp [countsB]
  · rw [if_neg h, decide_eq_true h, Bool.and_true]
theorem z_freq (V : List S32) (l : List S34) (v : S32) (hv : v ∉ V) : freq (l.map (zV V)) v (l.map (zV V)).length = freq l v l.length := by
  rw [freq_all, freq_all, List.filter_map, List.length_map]
  congr 2
  refine List.filter_congr (fun c _ => ?_)
  show (countsB (zV V c) && decide ((zV V c).f0 = v)) = (countsB c && decide (c.f0 = v))
  rw [z_counts]
  by_cases h : c.f0 ∈ V
  · have h2 : c.f0 ≠ v := fun e => hv (e ▸ h)
    rw [decide_eq_false (fun hh => hh h), Bool.and_false, Bool.false_and, decide_eq_false h2, Bool.and_false]
  · unfold zV
    rw [if_neg h, decide_eq_true h, Bool.and_true]
theorem z_cands (V : List S32) (l : List S34) (t : List Int) : candsP (l.map (zV V)) t (l.map (zV V)).length = (candsP l t l.length).filter (fun x => decide (val x ∉ V)) := by
  unfold candsP
  rw [List.filter_map, List.filter_filter, List.length_map]
  have e1 : (List.range l.length).filter (fun j : Nat => countsB (rd_T34 (l.map (zV V)) (j : Int))) = (List.range l.length).filter (fun j : Nat => ((fun x => decide (val x ∉ V)) ∘ candAt l t) j && countsB (rd_T34 l (j : Int))) := by
    refine List.filter_congr (fun j hj => ?_)
    rw [rd_map34 _ (List.mem_range.1 hj), z_counts, Bool.and_comm]
    rfl
  rw [e1]
  refine List.map_congr_left (fun j hj => ?_)
  have hj1 := List.mem_filter.1 hj
  have hj' := List.mem_range.1 hj1.1
  have hnot : (rd_T34 l (j : Int)).f0 ∉ V := by
    have h := hj1.2
    rw [Bool.and_eq_true] at h
    exact of_decide_eq_true h.1
  have hz : zV V (rd_T34 l (j : Int)) = rd_T34 l (j : Int) := by unfold zV; rw [if_neg hnot]
  unfold candAt
  rw [rd_map34 _ hj', hz, z_freq V l _ hnot]
theorem z_ranked {by_ : Int} {l : List S34} {t : List Int} (V : List S32) (hr : rightB by_ l t = true) : rankedA by_ (l.map (zV V)) t = (rankedA by_ l t).filter (fun x => decide (val x ∉ V)) := by
  have hr2 : rightB by_ (l.map (zV V)) t = true := by
    unfold rightB at hr ⊢
    rw [List.length_map]
    exact hr
  have hinj : ∀ x ∈ candsP l t l.length, ∀ y ∈ candsP l t l.length, x.f1 = y.f1 → x = y := fun x hx y hy e => cand_inj hx hy e
  unfold rankedA
  rw [if_pos hr, if_pos hr2]
  unfold rankedL
  rw [candsL_eqP, candsL_eqP, z_cands, sortC_filter hinj]
/-- How many of the first i cells have the value v. -/
def cnt (v : S32) (L : List S34) (i : Nat) : Nat := ((L.take i).filter (fun c => decide (c.f0 = v))).length
theorem cnt_le (v : S32) (L : List S34) (i : Nat) : cnt v L i ≤ L.length := by
  unfold cnt
  refine Nat.le_trans (List.length_filter_le _ _) ?_
  rw [List.length_take]
  omega
theorem cnt_succ (v : S32) (L : List S34) {i : Nat} (h : i < L.length) : cnt v L (i + 1) = if L[i].f0 = v then cnt v L i + 1 else cnt v L i := by
  unfold cnt
  rw [List.take_succ_eq_append_getElem h, List.filter_append, List.length_append]
  by_cases hv : L[i].f0 = v
  · rw [if_pos hv, List.filter_cons_of_pos (by simpa using hv)]; rfl
  · rw [if_neg hv, List.filter_cons_of_neg (by simpa using hv)]; rfl
theorem cnt_pos (v : S32) (L : List S34) {i : Nat} (h : i < L.length) (hv : L[i].f0 = v) : 1 ≤ cnt v L L.length := by
  unfold cnt
  rw [List.take_length]
  exact List.length_pos_of_mem (List.mem_filter.2 ⟨List.getElem_mem h, by simpa using hv⟩)
theorem eqv' {a b : S32} : (a.f0 == b.f0 && (a.f1 == b.f1 && a.f2.toList == b.f2.toList)) = true ↔ a = b := by
  simp only [Bool.and_eq_true, beq_iff_eq]
  exact ⟨fun ⟨h0, h1, h2⟩ => S32.ext' h0 h1 (toList_inj h2), fun e => by subst e; exact ⟨rfl, rfl, rfl⟩⟩
theorem others_l1 (a : Int) (l : List S34) (t al : List Int) (L : List S34) (v : S32) (seen : Int) (j : Int) (r : Bool) (hs : 0 ≤ seen ∧ seen ≤ 1000000) (h30 : L.length ≤ 30) (d : Nat)
    (hend : Ev (fun k => cleanselaw23_SurviveOthers.l0 k a l t true al (seen + cnt v L L.length) (L.map (z1 v)) (wrap64 (j + 1))) r) :
    ∀ i : Nat, i + d = L.length → Ev (fun k => cleanselaw23_SurviveOthers.l1 k a l t true al (seen + cnt v L i) ((L.take i).map (z1 v) ++ L.drop i) j i v.f0 v.f1 v.f2) r := by
  induction d with
  | zero =>
    intro i hi
    have e : i = L.length := by omega
    subst e
    refine Ev.step (hend.congr fun k => ?_)
    have n1 := len_mid (z1 v) L L.length (Nat.le_refl _)
    rw [cleanselaw23_SurviveOthers.l1, if_neg (by omega), List.take_length, List.drop_length, List.append_nil]
  | succ d ih =>
    intro i hi
    have hlt : i < L.length := by omega
    have hw : wrap64 ((i : Int) + 1) = ((i + 1 : Nat) : Int) := by rw [wrap_up (by omega) (by omega)]; rfl
    have n1 := len_mid (z1 v) L i (by omega)
    have r1 : rd_T34 ((L.take i).map (z1 v) ++ L.drop i) (i : Int) = L[i] := by rw [rd_at (by omega)]; exact get_mid (z1 v) L i hlt
    have hc := cnt_le v L i
    have hws : wrap64 (seen + (cnt v L i : Int) + 1) = seen + (cnt v L i : Int) + 1 := wrap_up (by omega) (by omega)
    have hn := ih (i + 1) (by omega)
    rw [cnt_succ v L hlt] at hn
    refine Ev.step (hn.congr fun k => ?_)
    rw [cleanselaw23_SurviveOthers.l1, if_pos (by omega), if_pos (by omega), r1, hw, hws, ← set_mid (z1 v) L i hlt]
    by_cases hv : L[i].f0 = v
    · rw [if_pos (eqv'.2 hv), if_pos hv]
      have ez : z1 v L[i] = zcell := by unfold z1; rw [if_pos hv]
      have es : seen + ((cnt v L i + 1 : Nat) : Int) = seen + (cnt v L i : Int) + 1 := by omega
      rw [ez, es]
      rfl
    · rw [if_neg (fun h => hv (eqv'.1 h)), if_neg hv]
      have ez : z1 v L[i] = L[i] := by unfold z1; rw [if_neg hv]
      rw [ez]
      have eg := get_mid (z1 v) L i hlt
      congr 1
      refine (List.ext_getElem (by simp) (fun m h1 h2 => ?_))
      rw [List.getElem_set]
      split
      · rename_i e
        subst e
        exact eg
      · rfl
theorem others_l2 (L : List S34) (seen : Int) (hs : 0 < seen) (h30 : L.length ≤ 30) (hno : ∀ c ∈ L, countsB c = false) (d : Nat) : ∀ i : Nat, i + d = L.length → Ev (fun k => cleanselaw23_SurviveOthers.l2 k true seen L i) true := by
  induction d with
  | zero =>
    intro i hi
    refine Ev.step (Ev.of fun k => ?_)
    rw [cleanselaw23_SurviveOthers.l2, if_neg (by omega), if_pos rfl, decide_eq_true hs]
  | succ d ih =>
    intro i hi
    have hlt : i < L.length := by omega
    have hw : wrap64 ((i : Int) + 1) = ((i + 1 : Nat) : Int) := by rw [wrap_up (by omega) (by omega)]; rfl
    refine Ev.step ((ih (i + 1) (by omega)).congr fun k => ?_)
    rw [cleanselaw23_SurviveOthers.l2, if_pos (by omega), if_pos (by omega), refCounts (rd_T34 L i), Option.bind_some, rd_at hlt, hno _ (List.getElem_mem hlt), if_neg (by decide), hw]
theorem others_l0 (a : Int) (l : List S34) (t : List Int) (h30 : l.length ≤ 30) (hr : rightB a l t = true) (n : Nat) : ∀ (P : List Int) (V : List S32) (seen : Int), (firstsG V (rankedA a l t)).length ≤ n → 0 ≤ seen → seen + 30 * (n : Int) ≤ 100000 → P.length + n ≤ 1000 → (0 < seen ∨ firstsG V (rankedA a l t) ≠ []) →
    Ev (fun k => cleanselaw23_SurviveOthers.l0 k a l t true (P ++ (firstsG V (rankedA a l t)).map (·.f1)) seen (l.map (zV V)) P.length) true := by
  have hbase : ∀ (P : List Int) (V : List S32) (seen : Int), firstsG V (rankedA a l t) = [] → 0 < seen → Ev (fun k => cleanselaw23_SurviveOthers.l0 k a l t true (P ++ (firstsG V (rankedA a l t)).map (·.f1)) seen (l.map (zV V)) P.length) true := by
    intro P V seen h0 hs
    rw [h0, List.map_nil, List.append_nil]
    have hnx := firstsG_next (rankedA a l t) V
    rw [h0] at hnx
    have hall : ∀ x ∈ rankedA a l t, val x ∈ V := by
      intro x hx
      cases hh : ((rankedA a l t).filter (fun y => decide (val y ∉ V))).head? with
      | some y => rw [hh] at hnx; cases hnx
      | none =>
        have hnil := List.head?_eq_none_iff.1 hh
        have hf := List.filter_eq_nil_iff.1 hnil x hx
        simpa using hf
    have hno : ∀ c ∈ l.map (zV V), countsB c = false := by
      intro c hc
      obtain ⟨c0, hc0, rfl⟩ := List.mem_map.1 hc
      rw [z_counts]
      by_cases hcc : countsB c0 = true
      · obtain ⟨i, hi, e⟩ := List.mem_iff_getElem.1 hc0
        have hm : candAt l t i ∈ rankedA a l t := by
          unfold rankedA rankedL
          rw [if_pos hr, (sortC_perm a _).mem_iff, candsL_eqP]
          exact mem_candsP.2 ⟨i, hi, by rw [rd_at hi, e]; exact hcc, rfl⟩
        have hv := hall _ hm
        have hv2 : c0.f0 ∈ V := by
          have e2 : val (candAt l t i) = c0.f0 := by show (rd_T34 l i).f0 = c0.f0; rw [rd_at hi, e]
          rw [← e2]; exact hv
        rw [hcc, decide_eq_false (fun hh => hh hv2)]
        rfl
      · rw [Bool.not_eq_true] at hcc
        rw [hcc, Bool.false_and]
    refine Ev.step ((others_l2 (l.map (zV V)) seen hs (by rw [List.length_map]; exact h30) hno _ 0 (Nat.zero_add _)).congr fun k => ?_)
    rw [cleanselaw23_SurviveOthers.l0, if_neg (by omega)]
    rfl
  induction n with
  | zero =>
    intro P V seen hn h0 hs hP hor
    have hnil : firstsG V (rankedA a l t) = [] := List.eq_nil_of_length_eq_zero (by omega)
    exact hbase P V seen hnil (hor.resolve_right (fun h => h hnil))
  | succ n ih =>
    intro P V seen hn h0 hs hP hor
    have hnx := firstsG_next (rankedA a l t) V
    cases hh : ((rankedA a l t).filter (fun y => decide (val y ∉ V))).head? with
    | none =>
      rw [hh] at hnx
      exact hbase P V seen hnx (hor.resolve_right (fun h => h hnx))
    | some x =>
      rw [hh] at hnx
      simp only at hnx
      have hx := List.mem_filter.1 (List.mem_of_head? hh)
      have hxV : val x ∉ V := of_decide_eq_true hx.2
      have hxr : x ∈ rankedL a l t := by have h := hx.1; unfold rankedA at h; rw [if_pos hr] at h; exact h
      obtain ⟨i, hi, hic, ex⟩ : ∃ i : Nat, i < l.length ∧ countsB (rd_T34 l i) = true ∧ x = candAt l t i := by
        unfold rankedL at hxr
        rw [(sortC_perm a _).mem_iff, candsL_eqP] at hxr
        exact mem_candsP.1 hxr
      have hlen := congrArg List.length hnx
      rw [List.length_cons] at hlen
      have exf : x.f1 = (i : Int) := by rw [ex]; rfl
      have exv : val x = (rd_T34 l i).f0 := by rw [ex]; rfl
      have hLi : rd_T34 (l.map (zV V)) (i : Int) = rd_T34 l i := by
        rw [rd_map34 _ hi]
        unfold zV
        rw [if_neg (by rw [← exv]; exact hxV)]
      have hLlen : (l.map (zV V)).length = l.length := List.length_map _
      have hLg : ((l.map (zV V))[i]'(by omega)).f0 = val x := by
        rw [← rd_at (l := l.map (zV V)) (i := i) (by omega), hLi, exv]
      have hcp := cnt_pos (val x) (l.map (zV V)) (by omega) hLg
      have hcl := cnt_le (val x) (l.map (zV V)) (l.map (zV V)).length
      have hch : survive_Choose.f a (l.map (zV V)) t = some (i : Int) := by
        show chooseO a _ _ = _
        rw [chooseO, if_pos (by omega), z_ranked V hr, ← enc_head, hh]
        show some x.f1 = _
        rw [exf]
      have q1 : (0 : Int) ≤ (P.length : Int) := Int.natCast_nonneg _
      have q2 : ¬ (i : Int) < 0 := by omega
      have q3 : ¬ (i : Int) ≥ (l.length : Int) := by omega
      have q4 : (0 : Int) ≤ (i : Int) := Int.natCast_nonneg _
      have q5 : (i : Int) < ((l.map (zV V)).length : Int) := by omega
      have hc0 : seen + ((cnt (val x) (l.map (zV V)) 0 : Nat) : Int) = seen := by
        have : cnt (val x) (l.map (zV V)) 0 = 0 := rfl
        omega
      have hnext := ih (P ++ [x.f1]) (val x :: V) (seen + cnt (val x) (l.map (zV V)) (l.map (zV V)).length) (by omega) (by omega) (by omega) (by rw [List.length_append, List.length_singleton]; omega) (.inl (by omega))
      rw [← z_next, List.append_assoc, List.length_append, List.length_singleton] at hnext
      have hw : wrap64 ((P.length : Int) + 1) = ((P.length + 1 : Nat) : Int) := by rw [wrap_up (by omega) (by omega)]; rfl
      rw [← hw] at hnext
      have hl1 := others_l1 a l t (P ++ ([x.f1] ++ (firstsG (val x :: V) (rankedA a l t)).map (·.f1))) (l.map (zV V)) (val x) seen (P.length : Int) true ⟨h0, by omega⟩ (by omega) (l.map (zV V)).length hnext 0 (Nat.zero_add _)
      rw [hnx, List.map_cons]
      have hall : rd (P ++ x.f1 :: (firstsG (val x :: V) (rankedA a l t)).map (·.f1)) (P.length : Int) = (i : Int) := by
        rw [rdI_at (by rw [List.length_append, List.length_cons]; omega), List.getElem_append_right (Nat.le_refl _)]
        simp [exf]
      have hlt : (P.length : Int) < ((P ++ x.f1 :: (firstsG (val x :: V) (rankedA a l t)).map (·.f1)).length : Int) := by rw [List.length_append, List.length_cons]; omega
      refine Ev.step (Ev.step (hl1.congr fun k => ?_))
      rw [cleanselaw23_SurviveOthers.l0, if_pos hlt]
      rw [if_pos q1]
      rw [hall, if_neg q2, if_neg q3, if_pos q4, if_pos q5]
      rw [refCounts (rd_T34 (l.map (zV V)) i), Option.bind_some, hLi, if_pos hic, hch, Option.bind_some]
      rw [cleanselaw23_SurviveOthers.j2, if_neg (by simp), if_pos q1, if_pos hlt, hall, if_pos q4, if_pos q5, hLi, ← exv]
      simp only [List.take_zero, List.map_nil, List.nil_append, List.drop_zero, List.singleton_append]
      rw [hc0]
      rfl
theorem others_j0 (a : Int) (l : List S34) (t : List Int) (b : Bool) (hb : b = false → l.length ≤ 30) : Ev (fun k => cleanselaw23_SurviveOthers.j0 k a l t true b) true := by
  cases b with
  | true => exact Ev.step (Ev.of fun k => rfl)
  | false =>
    have h30 := hb rfl
    have h1 : l.length ≤ 1000000 := by omega
    have e1 : survive_Choose.f a l t = some (chooseL (rankedA a l t)) := by show chooseO a l t = _; rw [chooseO, if_pos h1]
    have e3 : survive_Others.f a l t = some (outs (rankedA a l t) (rankedA a l t).length) := by show othersO a l t = _; rw [othersO, if_pos h1]
    have hrl := ranked_len a l t
    have hfl : (firsts (rankedA a l t)).length ≤ (rankedA a l t).length := firstsG_len _ _
    rw [outs_all] at e3
    cases hs : rankedA a l t with
    | nil =>
      rw [hs] at e1 e3
      refine Ev.step (Ev.of fun k => ?_)
      rw [cleanselaw23_SurviveOthers.j0, if_neg (by decide), e1, Option.bind_some, e3, Option.bind_some, if_pos (by decide), if_pos rfl]
      rfl
    | cons c r =>
      have hr : rightB a l t = true := by
        cases hh : rightB a l t with
        | true => rfl
        | false => unfold rankedA at hs; rw [hh] at hs; simp at hs
      have hf : firstsG [] (rankedA a l t) = c :: (firsts (rankedA a l t)).drop 1 := by
        show firsts (rankedA a l t) = _
        rw [hs]
        unfold firsts
        rw [firstsG_next (c :: r) []]
        simp
      have hmem : c ∈ rankedL a l t := by
        have h : c ∈ rankedA a l t := by rw [hs]; exact List.mem_cons_self
        unfold rankedA at h
        rw [if_pos hr] at h
        exact h
      obtain ⟨i, hi, ec⟩ := ranked_mem hmem
      have ef : c.f1 = (i : Int) := by rw [ec]; rfl
      have hz : l.map (zV []) = l := by
        refine (List.map_congr_left (fun c _ => ?_)).trans (List.map_id l)
        unfold zV
        rw [if_neg (by simp)]
        rfl
      have hlo := others_l0 a l t h30 hr (firsts (rankedA a l t)).length [] [] 0 (Nat.le_refl _) (Int.le_refl _) (by omega) (by rw [List.length_nil]; omega) (.inr (by rw [hf]; simp))
      rw [hz, hf] at hlo
      have ech : chooseL (rankedA a l t) = c.f1 := by rw [hs]; rfl
      rw [ech] at e1
      refine Ev.step (hlo.congr fun k => ?_)
      rw [cleanselaw23_SurviveOthers.j0, if_neg (by decide), e1, Option.bind_some, e3, Option.bind_some, if_neg (by omega), Option.bind_some, if_pos (by rw [List.length_singleton, List.length_map, List.length_drop]; omega), Option.bind_some, if_pos (by rw [List.length_nil]; omega)]
      rfl
theorem SurviveOthers : SurviveOthers_pure := by
  intro a l t _ hl _ ht _
  obtain ⟨K1, g1⟩ := head_ev
  obtain ⟨K2, g2⟩ := refFew l 30 hl
  dsimp only at g1 g2
  by_cases hf : fewB l 30 = true
  · have h30 : l.length ≤ 30 := by
      simp only [fewB, Bool.and_eq_true, decide_eq_true_eq] at hf
      omega
    obtain ⟨K3, g3⟩ := others_j0 a l t (decide ((t.length : Int) > 40)) (fun _ => h30)
    dsimp only at g3
    refine ⟨max K1 (max K2 K3), ?_⟩
    rw [cleanselaw23_SurviveOthers.f, g1 _ (by omega), Option.bind_some, g2 _ (by omega), Option.bind_some, if_pos hf]
    exact g3 _ (by omega)
  · obtain ⟨K3, g3⟩ := others_j0 a l t true (fun h => by cases h)
    dsimp only at g3
    refine ⟨max K1 (max K2 K3), ?_⟩
    rw [cleanselaw23_SurviveOthers.f, g1 _ (by omega), Option.bind_some, g2 _ (by omega), Option.bind_some, if_neg hf]
    exact g3 _ (by omega)
end Go.Proofs.Ytegomjkgbeijlaa.Pure
