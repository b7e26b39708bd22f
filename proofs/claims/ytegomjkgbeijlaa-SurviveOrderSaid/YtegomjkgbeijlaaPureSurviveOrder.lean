/- SurviveOrder in plain words: cells in another order are ranked alike, but for what the order of equal ones is. -/
import Derived.Test.YtegomjkgbeijlaaHd
import Derived.Test.YtegomjkgbeijlaaTr
import Derived.Test.YtegomjkgbeijlaaStSurviveOrder
namespace Go.Proofs.Ytegomjkgbeijlaa.Pure
set_option linter.unusedSimpArgs false
set_option linter.unusedSectionVars false
set_option linter.unnecessarySimpa false
open Go.RowKit Go.Proofs.Ytegomjkgbeijlaa.Sv Hand
open Go.Proofs.YtegomjkgbeijlaaW.PrintWords hiding Ev
set_option linter.unusedVariables false
/-- A candidate without its place and the number of its delivery. -/
def nu (x : S44) : S44 := ⟨⟨x.f0.f0, 0, x.f0.f2⟩, 0, x.f2, x.f3⟩
theorem cf_nu {a : Int} {x y : S44} (h : cf a x y ≤ 0) : cf a (nu x) (nu y) ≤ 0 := by
  have e1 : ruleC a (nu x) (nu y) = ruleC a x y := rfl
  have e2 : cmpI (nu x).f1 (nu y).f1 = 0 := cmpI_cmp.refl _
  unfold cf at h ⊢
  rw [e1, e2]
  have e3 : (nu y).f2 = y.f2 := rfl
  have e4 : (nu x).f2 = x.f2 := rfl
  have e5 : (nu y).f0.f2 = y.f0.f2 := rfl
  have e6 : (nu x).f0.f2 = x.f0.f2 := rfl
  have e7 : (nu x).f0.f0 = x.f0.f0 := rfl
  have e8 : (nu y).f0.f0 = y.f0.f0 := rfl
  rw [e3, e4, e5, e6, e7, e8]
  simp only [orL] at h ⊢
  split
  · split
    · split
      · split
        · omega
        · simp_all
      · simp_all
    · simp_all
  · simp_all
theorem nu_anti {a : Int} {x y : S44} (F : S32 → Int) (hx : x.f3 = F x.f0.f0) (hy : y.f3 = F y.f0.f0) (h1 : cf a (nu x) (nu y) ≤ 0) (h2 : cf a (nu y) (nu x) ≤ 0) : nu x = nu y := by
  have h : cf a (nu x) (nu y) = 0 := by have := (cf_cmp a).anti (nu x) (nu y); omega
  unfold cf at h
  simp only [orL] at h
  by_cases h1 : ruleC a (nu x) (nu y) = 0
  · rw [if_pos h1] at h
    by_cases h2 : cmpI (nu y).f2 (nu x).f2 = 0
    · rw [if_pos h2] at h
      by_cases h3 : cmpI (nu y).f0.f2 (nu x).f0.f2 = 0
      · rw [if_pos h3] at h
        by_cases h4 : cmpV (nu x).f0.f0 (nu y).f0.f0 = 0
        · have e2 : y.f2 = x.f2 := cmpI_zero.1 h2
          have e3 : y.f0.f2 = x.f0.f2 := cmpI_zero.1 h3
          have e4 : x.f0.f0 = y.f0.f0 := cmpV_zero.1 h4
          unfold nu
          rw [e2, e3, hx, hy, e4]
        · rw [if_neg h4] at h; exact absurd h h4
      · rw [if_neg h3] at h; exact absurd h h3
    · rw [if_neg h2] at h; exact absurd h h2
  · rw [if_neg h1] at h; exact absurd h h1
/-- A cell that counts with its trust, as a candidate without its place. -/
def mkn (F : S32 → Int) (p : S34 × Int) : S44 := ⟨⟨p.1.f0, 0, p.1.f2⟩, 0, p.2, F p.1.f0⟩
def pairs (l : List S34) (t : List Int) (n : Nat) : List (S34 × Int) := (List.range n).map (fun i : Nat => (rd_T34 l (i : Int), rd t (i : Int)))
theorem cands_pairs (l : List S34) (t : List Int) : (candsP l t l.length).map nu = ((pairs l t l.length).filter (fun p => countsB p.1)).map (mkn (fun v => freq l v l.length)) := by
  unfold candsP pairs
  rw [List.filter_map, List.map_map, List.map_map]
  rfl
theorem ranked_nu {a : Int} {l l' : List S34} {t t' : List Int} (hr : rightB a l' t' = rightB a l t) (hp : (pairs l' t' l'.length).Perm (pairs l t l.length)) (hl : l'.Perm l) : (rankedA a l' t').map nu = (rankedA a l t).map nu := by
  unfold rankedA
  rw [hr]
  by_cases h : rightB a l t = true
  · rw [if_pos h, if_pos h]
    have hF : ∀ v, freq l' v l'.length = freq l v l.length := fun v => by
      rw [freq_all, freq_all, (hl.filter _).length_eq]
    have hperm : (rankedL a l' t').Perm (candsP l' t' l'.length) := by unfold rankedL; rw [← candsL_eqP]; exact sortC_perm a _
    have hperm2 : (rankedL a l t).Perm (candsP l t l.length) := by unfold rankedL; rw [← candsL_eqP]; exact sortC_perm a _
    have hs : ((rankedL a l' t').map nu).Pairwise (fun x y => cf a x y ≤ 0) := by
      rw [List.pairwise_map]
      exact (sortC_sorted a _).imp (fun h => cf_nu h)
    have hs2 : ((rankedL a l t).map nu).Pairwise (fun x y => cf a x y ≤ 0) := by
      rw [List.pairwise_map]
      exact (sortC_sorted a _).imp (fun h => cf_nu h)
    have hP : ((rankedL a l' t').map nu).Perm ((rankedL a l t).map nu) := by
      refine (hperm.map nu).trans (List.Perm.trans ?_ (hperm2.map nu).symm)
      rw [cands_pairs, cands_pairs, show (fun v => freq l' v l'.length) = (fun v => freq l v l.length) from funext hF]
      exact (hp.filter _).map _
    have hm : ∀ x ∈ (rankedL a l t).map nu, ∃ y, x = nu y ∧ y.f3 = freq l y.f0.f0 l.length := by
      intro x hx
      obtain ⟨y, hy, rfl⟩ := List.mem_map.1 hx
      obtain ⟨i, hi, rfl⟩ := ranked_mem hy
      exact ⟨_, rfl, rfl⟩
    refine List.Perm.eq_of_pairwise (le := fun x y => cf a x y ≤ 0) (fun x y hx hy h1 h2 => ?_) hs hs2 hP
    obtain ⟨x', rfl, ex⟩ := hm x (hP.mem_iff.1 hx)
    obtain ⟨y', rfl, ey⟩ := hm y hy
    exact nu_anti (fun v => freq l v l.length) ex ey h1 h2
  · rw [if_neg h, if_neg h]
theorem rotated (n r : Nat) (hn : 0 < n) : ((List.range n).map (fun i => (i + r) % n)).Perm (List.range n) := by
  have hr := Nat.mod_lt r hn
  have e : (List.range n).map (fun i => (i + r) % n) = (List.range n).drop (r % n) ++ (List.range n).take (r % n) := by
    refine List.ext_getElem (by simp; omega) (fun i h1 h2 => ?_)
    rw [List.length_map, List.length_range] at h1
    rw [List.getElem_map, List.getElem_range]
    have e1 : (i + r) % n = (i + r % n) % n := by rw [Nat.add_mod_mod]
    rw [e1]
    by_cases h : i + r % n < n
    · rw [Nat.mod_eq_of_lt h, List.getElem_append_left (by simp; omega), List.getElem_drop, List.getElem_range]
      omega
    · rw [Nat.mod_eq_sub_mod (by omega), Nat.mod_eq_of_lt (by omega), List.getElem_append_right (by simp; omega), List.getElem_take, List.getElem_range]
      simp
      omega
  rw [e]
  refine List.perm_append_comm.trans ?_
  rw [List.take_append_drop]
/-- The cells (the trusts) from the last one down to the one at i, turned. -/
def tl (l : List S34) (n r i : Nat) : List S34 := (((List.range n).drop i).map (fun j : Nat => rd_T34 l (((j + r) % n : Nat) : Int))).reverse
def tt (t : List Int) (n r i : Nat) : List Int := (((List.range n).drop i).map (fun j : Nat => rd t (((j + r) % n : Nat) : Int))).reverse
theorem tl_len (l : List S34) (n r i : Nat) : (tl l n r i).length = n - i := by simp [tl]
theorem tt_len (t : List Int) (n r i : Nat) : (tt t n r i).length = n - i := by simp [tt]
theorem tl_step (l : List S34) {n r i : Nat} (h : i < n) : tl l n r i = tl l n r (i + 1) ++ [rd_T34 l (((i + r) % n : Nat) : Int)] := by
  unfold tl
  rw [List.drop_eq_getElem_cons (by simpa using h), List.map_cons, List.reverse_cons, List.getElem_range]
theorem tt_step (t : List Int) {n r i : Nat} (h : i < n) : tt t n r i = tt t n r (i + 1) ++ [rd t (((i + r) % n : Nat) : Int)] := by
  unfold tt
  rw [List.drop_eq_getElem_cons (by simpa using h), List.map_cons, List.reverse_cons, List.getElem_range]
theorem pairs_turned (l : List S34) (t : List Int) (r : Nat) (h0 : 0 < l.length) (ht : l.length = t.length) : (pairs (tl l l.length r 0) (tt t l.length r 0) (tl l l.length r 0).length).Perm (pairs l t l.length) ∧ (tl l l.length r 0).Perm l := by
  have e0 : (tl l l.length r 0).length = l.length := by rw [tl_len]; omega
  have hz : pairs (tl l l.length r 0) (tt t l.length r 0) (tl l l.length r 0).length = (((List.range l.length).map (fun i => (i + r) % l.length)).map (fun i : Nat => (rd_T34 l (i : Int), rd t (i : Int)))).reverse := by
    unfold pairs
    refine List.ext_getElem (by simp [tl]) (fun i h1 h2 => ?_)
    have h1' : i < l.length := by simpa [tl] using h1
    rw [List.getElem_map, List.getElem_range, List.getElem_reverse, List.getElem_map, List.getElem_map, List.getElem_range]
    rw [rd_at (by rw [e0]; exact h1'), rdI_at (by rw [tt_len]; omega)]
    simp [tl, tt]
  refine ⟨?_, ?_⟩
  · rw [hz]
    exact (List.reverse_perm _).trans ((rotated l.length r h0).map _)
  · have hl : tl l l.length r 0 = (((List.range l.length).map (fun i => (i + r) % l.length)).map (fun i : Nat => rd_T34 l (i : Int))).reverse := by
      unfold tl
      rw [List.drop_zero, List.map_map]
      rfl
    rw [hl]
    refine (List.reverse_perm _).trans (((rotated l.length r h0).map _).trans ?_)
    rw [list_range]
theorem order_l0 (a : Int) (l : List S34) (t : List Int) (raw : Nat) (h0 : 0 < l.length) (h30 : l.length ≤ 30) (ht : l.length = t.length) (hraw : raw ≤ 255) (g : Nat → Option Bool)
    (hend : Ev (fun k => cleanselaw23_SurviveOrder.l0 k a l t (raw : Int) true (tl l l.length raw 0) (tt t l.length raw 0) (-1)) true) :
    ∀ i : Nat, i ≤ l.length → Ev (fun k => cleanselaw23_SurviveOrder.l0 k a l t (raw : Int) true (tl l l.length raw i) (tt t l.length raw i) ((i : Int) - 1)) true := by
  intro i
  induction i with
  | zero => intro _; exact hend
  | succ i ih =>
    intro hi
    have hw1 : wrap64 (raw : Int) = (raw : Int) := wrap_near (by omega) (by omega)
    have hw2 : wrap64 ((i : Int) + (raw : Int)) = ((i + raw : Nat) : Int) := by rw [wrap_near (by omega) (by omega)]; omega
    have hw3 : wrap64 ((i : Int) - 1) = (i : Int) - 1 := wrap_near (by omega) (by omega)
    have hm : Int.tmod ((i + raw : Nat) : Int) (l.length : Int) = (((i + raw) % l.length : Nat) : Int) := by rw [Int.tmod_eq_emod_of_nonneg (by omega)]; rfl
    have hlt := Nat.mod_lt (i + raw) h0
    have hn := ih (by omega)
    rw [tl_step l (show i < l.length by omega), tt_step t (show i < l.length by omega)] at hn
    have ei : ((i + 1 : Nat) : Int) - 1 = (i : Int) := by omega
    rw [ei]
    refine Ev.step (hn.congr fun k => ?_)
    have e1 := tl_len l l.length raw (i + 1)
    have e2 := tt_len t l.length raw (i + 1)
    rw [cleanselaw23_SurviveOrder.l0, if_pos (show (i : Int) ≥ 0 by omega), hw1, hw2, hm, hw3, if_neg (by omega), if_pos (by omega), if_pos (by omega), if_pos (by omega), if_pos (by omega), if_pos (by omega)]
theorem order_l1 (l l' : List S34) (t t' : List Int) (X Y : List S44) (hXY : X.map nu = Y.map nu) (hX : ∀ x ∈ X, ∃ p : Nat, p < l.length ∧ x = candAt l t p) (hY : ∀ x ∈ Y, ∃ p : Nat, p < l'.length ∧ x = candAt l' t' p) (ht : l.length = t.length) (ht' : l'.length = t'.length) (h30 : X.length ≤ 1000) (d : Nat) :
    ∀ i : Nat, i + d = X.length → Ev (fun k => cleanselaw23_SurviveOrder.l1 k l t true l' t' (X.map (·.f1)) (Y.map (·.f1)) (i : Int)) true := by
  have hlen : X.length = Y.length := by have := congrArg List.length hXY; simpa using this
  induction d with
  | zero =>
    intro i hi
    refine Ev.step (Ev.of fun k => ?_)
    rw [cleanselaw23_SurviveOrder.l1, if_neg (by rw [List.length_map]; omega)]
  | succ d ih =>
    intro i hi
    have hlt : i < X.length := by omega
    have hlt2 : i < Y.length := by omega
    have hw : wrap64 ((i : Int) + 1) = ((i + 1 : Nat) : Int) := by rw [wrap_up (by omega) (by omega)]; rfl
    obtain ⟨p, hp, ep⟩ := hX X[i] (List.getElem_mem hlt)
    obtain ⟨q, hq, eq⟩ := hY Y[i] (List.getElem_mem hlt2)
    have hnu : nu (candAt l t p) = nu (candAt l' t' q) := by
      rw [← ep, ← eq]
      have h1 := congrArg (fun s : List S44 => s[i]?) hXY
      simp only [List.getElem?_map, List.getElem?_eq_getElem hlt, List.getElem?_eq_getElem hlt2, Option.map_some] at h1
      exact Option.some.inj h1
    have ev : (rd_T34 l p).f0 = (rd_T34 l' q).f0 := congrArg (fun x : S44 => x.f0.f0) hnu
    have et : (rd_T34 l p).f2 = (rd_T34 l' q).f2 := congrArg (fun x : S44 => x.f0.f2) hnu
    have eu : rd t p = rd t' q := congrArg (fun x : S44 => x.f2) hnu
    have r1 : rd (X.map (·.f1)) (i : Int) = (p : Int) := by rw [rdI_at (by rw [List.length_map]; exact hlt), List.getElem_map, ep]; rfl
    have r2 : rd (Y.map (·.f1)) (i : Int) = (q : Int) := by rw [rdI_at (by rw [List.length_map]; exact hlt2), List.getElem_map, eq]; rfl
    refine Ev.step ((ih (i + 1) (by omega)).congr fun k => ?_)
    rw [cleanselaw23_SurviveOrder.l1, r1, r2, if_pos (by rw [List.length_map]; omega), if_pos (by omega), if_neg (by omega), if_neg (by omega), if_pos (by rw [List.length_map]; omega), if_neg (by omega), if_neg (by omega), if_pos (by omega), if_pos (by omega), if_pos (by omega), if_pos (by omega), ev, if_neg (by simp), if_pos et, if_pos (by omega), if_pos (by omega), if_pos eu, hw]
theorem order_lists {a : Int} {l : List S34} {t : List Int} {c : S44} {s : List S44} (hs : rankedA a l t = c :: s) : [chooseL (rankedA a l t)] ++ outs (rankedA a l t) (rankedA a l t).length = (firsts (rankedA a l t)).map (·.f1) := by
  rw [outs_all, hs]
  have : firsts (c :: s) = c :: (firsts (c :: s)).drop 1 := by
    unfold firsts
    rw [firstsG_next (c :: s) []]
    simp
  rw [this]
  rfl
theorem firsts_sub : ∀ (s : List S44) (seen : List S32), ∀ x ∈ firstsG seen s, x ∈ s
  | [], _ => by simp [firstsG]
  | y :: r, seen => by
    intro x hx
    unfold firstsG at hx
    by_cases h : val y ∈ seen
    · rw [if_pos h] at hx
      exact List.mem_cons_of_mem _ (firsts_sub r seen x hx)
    · rw [if_neg h] at hx
      rcases List.mem_cons.1 hx with e | hx
      · rw [e]; exact List.mem_cons_self
      · exact List.mem_cons_of_mem _ (firsts_sub r _ x hx)
theorem ranked_memA {a : Int} {l : List S34} {t : List Int} {x : S44} (h : x ∈ rankedA a l t) : ∃ i : Nat, i < l.length ∧ x = candAt l t i := by
  unfold rankedA at h
  by_cases hr : rightB a l t = true
  · rw [if_pos hr] at h; exact ranked_mem h
  · rw [if_neg hr] at h; simp at h
theorem order_j0 (a : Int) (l : List S34) (t : List Int) (raw : Nat) (hraw : raw ≤ 255) (b : Bool) (hb : b = false → l.length ≤ 30 ∧ l.length = t.length ∧ 0 < l.length) : Ev (fun k => cleanselaw23_SurviveOrder.j0 k a l t (raw : Int) true b) true := by
  cases b with
  | true => exact Ev.step (Ev.of fun k => rfl)
  | false =>
    obtain ⟨h30, ht, h0⟩ := hb rfl
    have hl0 : (tl l l.length raw 0).length = l.length := by rw [tl_len]; omega
    have ht0 : (tt t l.length raw 0).length = l.length := by rw [tt_len]; omega
    obtain ⟨hpp, hpl⟩ := pairs_turned l t raw h0 ht
    have hnu : (rankedA a (tl l l.length raw 0) (tt t l.length raw 0)).map nu = (rankedA a l t).map nu := by
      refine ranked_nu ?_ hpp hpl
      unfold rightB
      rw [hl0, ht0, decide_eq_true ht, decide_eq_true rfl]
    have e1 : survive_Choose.f a l t = some (chooseL (rankedA a l t)) := by show chooseO a l t = _; rw [chooseO, if_pos (by omega)]
    have e2 : survive_Choose.f a (tl l l.length raw 0) (tt t l.length raw 0) = some (chooseL (rankedA a (tl l l.length raw 0) (tt t l.length raw 0))) := by show chooseO a _ _ = _; rw [chooseO, if_pos (by omega)]
    have e3 : survive_Others.f a l t = some (outs (rankedA a l t) (rankedA a l t).length) := by show othersO a l t = _; rw [othersO, if_pos (by omega)]
    have e4 : survive_Others.f a (tl l l.length raw 0) (tt t l.length raw 0) = some (outs (rankedA a (tl l l.length raw 0) (tt t l.length raw 0)) (rankedA a (tl l l.length raw 0) (tt t l.length raw 0)).length) := by show othersO a _ _ = _; rw [othersO, if_pos (by omega)]
    have hwl : wrap64 ((l.length : Int) - 1) = (l.length : Int) - 1 := wrap_near (by omega) (by omega)
    have hend : Ev (fun k => cleanselaw23_SurviveOrder.l0 k a l t (raw : Int) true (tl l l.length raw 0) (tt t l.length raw 0) (-1)) true := by
      cases hs : rankedA a l t with
      | nil =>
        have hs' : rankedA a (tl l l.length raw 0) (tt t l.length raw 0) = [] := by
          rw [hs] at hnu
          simpa using hnu
        rw [hs] at e1
        rw [hs'] at e2
        refine Ev.step (Ev.step (Ev.of fun k => ?_))
        rw [cleanselaw23_SurviveOrder.l0, if_neg (by decide), e1, Option.bind_some, e2, Option.bind_some]
        show (if (-1 : Int) < 0 then _ else _) = _
        rw [if_pos (by decide), cleanselaw23_SurviveOrder.j2, if_pos rfl, if_pos rfl]
        rfl
      | cons c s =>
        obtain ⟨c', s', hs'⟩ : ∃ c' s', rankedA a (tl l l.length raw 0) (tt t l.length raw 0) = c' :: s' := by
          cases h : rankedA a (tl l l.length raw 0) (tt t l.length raw 0) with
          | nil => rw [h, hs] at hnu; simp at hnu
          | cons c' s' => exact ⟨c', s', rfl⟩
        have hX := order_lists hs
        have hY := order_lists hs'
        have hXY : (firsts (rankedA a l t)).map nu = (firsts (rankedA a (tl l l.length raw 0) (tt t l.length raw 0))).map nu := by
          unfold firsts
          rw [← firstsG_map nu (fun _ => rfl), ← firstsG_map nu (fun _ => rfl), hnu]
        have hfl : (firsts (rankedA a l t)).length ≤ (rankedA a l t).length := firstsG_len _ _
        have hfl' : (firsts (rankedA a (tl l l.length raw 0) (tt t l.length raw 0))).length ≤ (rankedA a (tl l l.length raw 0) (tt t l.length raw 0)).length := firstsG_len _ _
        have hrl := ranked_len a l t
        have hrl' := ranked_len a (tl l l.length raw 0) (tt t l.length raw 0)
        have hc : ∃ p : Nat, chooseL (rankedA a l t) = (p : Int) := by
          obtain ⟨p, _, ep⟩ := ranked_memA (a := a) (l := l) (t := t) (x := c) (by rw [hs]; exact List.mem_cons_self)
          exact ⟨p, by rw [hs]; show c.f1 = _; rw [ep]; rfl⟩
        have hc' : ∃ p : Nat, chooseL (rankedA a (tl l l.length raw 0) (tt t l.length raw 0)) = (p : Int) := by
          obtain ⟨p, _, ep⟩ := ranked_memA (a := a) (l := tl l l.length raw 0) (t := tt t l.length raw 0) (x := c') (by rw [hs']; exact List.mem_cons_self)
          exact ⟨p, by rw [hs']; show c'.f1 = _; rw [ep]; rfl⟩
        obtain ⟨p, hp⟩ := hc
        obtain ⟨p', hp'⟩ := hc'
        have hlen : (firsts (rankedA a l t)).length = (firsts (rankedA a (tl l l.length raw 0) (tt t l.length raw 0))).length := by have := congrArg List.length hXY; simpa using this
        have hol := congrArg List.length hX
        have hol' := congrArg List.length hY
        rw [List.length_append, List.length_map] at hol hol'
        have h1 := order_l1 l (tl l l.length raw 0) t (tt t l.length raw 0) (firsts (rankedA a l t)) (firsts (rankedA a (tl l l.length raw 0) (tt t l.length raw 0))) hXY
          (fun x hx => ranked_memA (firsts_sub _ _ x hx)) (fun x hx => ranked_memA (firsts_sub _ _ x hx)) ht (by omega) (by omega) _ 0 (Nat.zero_add _)
        refine Ev.step (Ev.step (h1.congr fun k => ?_))
        rw [cleanselaw23_SurviveOrder.l0, if_neg (by decide), e1, Option.bind_some, e2, Option.bind_some, if_neg (by omega), decide_eq_false (by omega), cleanselaw23_SurviveOrder.j2, if_neg (by decide)]
        simp only [Option.bind_some]
        rw [e3, Option.bind_some, if_pos (by omega), e4, Option.bind_some, if_pos (by omega), hX, hY, if_pos (by rw [List.length_map, List.length_map]; omega)]
        rfl
    have hstart := order_l0 a l t raw h0 h30 ht hraw (fun _ => none) hend l.length (Nat.le_refl _)
    have ea : tl l l.length raw l.length = [] := List.eq_nil_of_length_eq_zero (by rw [tl_len]; omega)
    have eb : tt t l.length raw l.length = [] := List.eq_nil_of_length_eq_zero (by rw [tt_len]; omega)
    rw [ea, eb] at hstart
    refine Ev.step (hstart.congr fun k => ?_)
    rw [cleanselaw23_SurviveOrder.j0, if_neg (by decide), hwl]
theorem SurviveOrder : SurviveOrder_pure := by
  intro a l t raw _ hl _ ht _ hraw
  obtain ⟨K1, g1⟩ := head_ev
  obtain ⟨K2, g2⟩ := refFew l 30 hl
  dsimp only at g1 g2
  have hr : 0 ≤ raw ∧ raw ≤ 255 := by
    simp [Lit.wf, IntKind.min, IntKind.max, IntKind.signed, IntKind.bits] at hraw
    omega
  obtain ⟨m, rfl⟩ : ∃ m : Nat, raw = (m : Int) := ⟨raw.toNat, by omega⟩
  by_cases hf : fewB l 30 = true
  · have h30 : l.length ≤ 30 := by
      simp only [fewB, Bool.and_eq_true, decide_eq_true_eq] at hf
      omega
    by_cases he : (t.length : Int) = (l.length : Int)
    · obtain ⟨K3, g3⟩ := order_j0 a l t m (by omega) ((l.length : Int) == 0) (fun h => ⟨h30, by omega, by have := beq_eq_false_iff_ne.1 h; omega⟩)
      dsimp only at g3
      refine ⟨max K1 (max K2 K3), ?_⟩
      rw [cleanselaw23_SurviveOrder.f, g1 _ (by omega), Option.bind_some, g2 _ (by omega), Option.bind_some, if_pos hf, if_pos he]
      exact g3 _ (by omega)
    · obtain ⟨K3, g3⟩ := order_j0 a l t m (by omega) true (fun h => by cases h)
      dsimp only at g3
      refine ⟨max K1 (max K2 K3), ?_⟩
      rw [cleanselaw23_SurviveOrder.f, g1 _ (by omega), Option.bind_some, g2 _ (by omega), Option.bind_some, if_pos hf, if_neg he]
      exact g3 _ (by omega)
  · obtain ⟨K3, g3⟩ := order_j0 a l t m (by omega) true (fun h => by cases h)
    dsimp only at g3
    refine ⟨max K1 (max K2 K3), ?_⟩
    rw [cleanselaw23_SurviveOrder.f, g1 _ (by omega), Option.bind_some, g2 _ (by omega), Option.bind_some, if_neg hf]
    exact g3 _ (by omega)
end Go.Proofs.Ytegomjkgbeijlaa.Pure
