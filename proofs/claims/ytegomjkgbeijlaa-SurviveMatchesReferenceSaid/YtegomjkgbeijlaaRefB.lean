/- The reference's Choose and Others, in plain words: they are the program's. -/
import Derived.Test.YtegomjkgbeijlaaRefA
import Derived.Test.YtegomjkgbeijlaaSv8
namespace Go.Proofs.Ytegomjkgbeijlaa.Hand
set_option linter.unusedSimpArgs false
set_option linter.unusedSectionVars false
set_option linter.unnecessarySimpa false
open Go.RowKit Go.Proofs.Ytegomjkgbeijlaa.Sv Go.Proofs.YtegomjkgbeijlaaW.PrintWords MapK
set_option linter.unusedVariables false
theorem eqv {a b : S32} : (a.f0 == b.f0 && (a.f1 == b.f1 && a.f2.toList == b.f2.toList)) = true ↔ a = b := by
  simp only [Bool.and_eq_true, beq_iff_eq]
  exact ⟨fun ⟨h0, h1, h2⟩ => S32.ext' h0 h1 (toList_inj h2), fun e => by subst e; exact ⟨rfl, rfl, rfl⟩⟩
theorem nev {a b : S32} : (!(a.f0 == b.f0) || (!(a.f1 == b.f1) || !(a.f2.toList == b.f2.toList))) = decide (a ≠ b) := by
  have h : (!(a.f0 == b.f0) || (!(a.f1 == b.f1) || !(a.f2.toList == b.f2.toList))) = !(a.f0 == b.f0 && (a.f1 == b.f1 && a.f2.toList == b.f2.toList)) := by
    cases (a.f0 == b.f0) <;> cases (a.f1 == b.f1) <;> cases (a.f2.toList == b.f2.toList) <;> rfl
  rw [h]
  by_cases e : a = b
  · rw [eqv.2 e]; simp [e]
  · have : (a.f0 == b.f0 && (a.f1 == b.f1 && a.f2.toList == b.f2.toList)) = false := by
      cases hh : (a.f0 == b.f0 && (a.f1 == b.f1 && a.f2.toList == b.f2.toList)) with
      | false => rfl
      | true => exact absurd (eqv.1 hh) e
    rw [this]; simp [e]
theorem freq_succ (l : List S34) (v : S32) (i : Nat) : freq l v (i + 1) = if countsB (rd_T34 l i) = true ∧ (rd_T34 l i).f0 = v then freq l v i + 1 else freq l v i := rfl
theorem freq_le (l : List S34) (v : S32) : ∀ i, 0 ≤ freq l v i ∧ freq l v i ≤ i
  | 0 => by simp [freq]
  | i + 1 => by
    have := freq_le l v i
    unfold freq
    split
    · omega
    · omega
theorem refFreq_loop (l : List S34) (m : Nat) (hm : m < l.length) (hl : l.length ≤ 1000000) (d : Nat) : ∀ i : Nat, i + d = l.length → Ev (fun k => cleanseref23_frequent.l0 k l m (freq l (rd_T34 l m).f0 i) i) (freq l (rd_T34 l m).f0 l.length) := by
  induction d with
  | zero =>
    intro i hi
    have e : i = l.length := by omega
    subst e
    refine Ev.step (Ev.of fun k => ?_)
    rw [cleanseref23_frequent.l0, if_neg (by omega)]
  | succ d ih =>
    intro i hi
    have hlt : i < l.length := by omega
    have hf := freq_le l (rd_T34 l m).f0 i
    have hw : wrap64 ((i : Int) + 1) = ((i + 1 : Nat) : Int) := by rw [wrap_up (by omega) (by omega)]; rfl
    have hw2 : wrap64 (freq l (rd_T34 l m).f0 i + 1) = freq l (rd_T34 l m).f0 i + 1 := wrap_up (by omega) (by omega)
    refine Ev.step ((ih (i + 1) (by omega)).congr fun k => ?_)
    rw [cleanseref23_frequent.l0, if_pos (by omega), if_pos (by omega), refCounts (rd_T34 l i), Option.bind_some, hw, hw2, freq_succ]
    by_cases hc : countsB (rd_T34 l i) = true
    · rw [if_pos hc, if_pos (by omega), if_pos (by omega)]
      by_cases hv : (rd_T34 l i).f0 = (rd_T34 l m).f0
      · rw [if_pos (eqv.2 hv), if_pos ⟨hc, hv⟩]
      · rw [if_neg (fun h => hv (eqv.1 h)), if_neg (fun h => hv h.2)]
    · rw [if_neg hc, if_neg (fun h => hc h.1)]
theorem refFreq (l : List S34) (m : Nat) (hm : m < l.length) (hl : l.length ≤ 1000000) : Ev (fun k => cleanseref23_frequent.f k l m) (freq l (rd_T34 l m).f0 l.length) := refFreq_loop l m hm hl l.length 0 (by omega)

/-- What comes behind the rule. -/
def tailC (x y : S44) : Int := orL [cmpI y.f2 x.f2, cmpI y.f0.f2 x.f0.f2, cmpV x.f0.f0 y.f0.f0, cmpI x.f1 y.f1]
theorem cf_tail (by_ : Int) (x y : S44) : cf by_ x y = if ruleC by_ x y = 0 then tailC x y else ruleC by_ x y := rfl
theorem cmpI_rev {a b : Int} : decide (cmpI b a < 0) = decide (a > b) := by
  rw [Bool.eq_iff_iff]; simp only [decide_eq_true_eq, cmpI_lt, gt_iff_lt]
theorem tailC_eq (l : List S34) (t : List Int) (i j : Nat) : tailC (candAt l t i) (candAt l t j) = if cmpI (rd t j) (rd t i) = 0 then (if cmpI (rd_T34 l j).f2 (rd_T34 l i).f2 = 0 then (if cmpV (rd_T34 l i).f0 (rd_T34 l j).f0 = 0 then (if cmpI (i : Int) j = 0 then 0 else cmpI (i : Int) j) else cmpV (rd_T34 l i).f0 (rd_T34 l j).f0) else cmpI (rd_T34 l j).f2 (rd_T34 l i).f2) else cmpI (rd t j) (rd t i) := rfl
abbrev bj0 (k : Nat) (l : List S34) (t : List Int) (i j : Nat) : Option Bool := cleanseref23_before.j0 k t i j (cmpV (rd_T34 l i).f0 (rd_T34 l j).f0) (rd_T34 l i).f0.f0 (rd_T34 l i).f0.f1 (rd_T34 l i).f0.f2 (rd_T34 l i).f1 (rd_T34 l i).f2 (rd_T34 l j).f0.f0 (rd_T34 l j).f0.f1 (rd_T34 l j).f0.f2 (rd_T34 l j).f1 (rd_T34 l j).f2
theorem before_open (by_ : Int) (l : List S34) (t : List Int) (i j : Nat) (hi : i < l.length) (hj : j < l.length) (k : Nat) : cleanseref23_before.f k by_ l t i j =
    if by_ = 1 then (if (rd_T34 l i).f2 = (rd_T34 l j).f2 then bj0 k l t i j else some (decide ((rd_T34 l i).f2 > (rd_T34 l j).f2)))
    else if by_ = 2 then ((cleanseref23_frequent.f k l i).bind fun a => (cleanseref23_frequent.f k l j).bind fun b => if a = b then bj0 k l t i j else some (decide (a > b)))
    else if by_ = 4 then (if ((rd_T34 l i).f0.f2.size : Int) = ((rd_T34 l j).f0.f2.size : Int) then bj0 k l t i j else some (decide (((rd_T34 l i).f0.f2.size : Int) > ((rd_T34 l j).f0.f2.size : Int))))
    else if by_ = 5 then (if cmpV (rd_T34 l i).f0 (rd_T34 l j).f0 = 0 then bj0 k l t i j else some (decide (cmpV (rd_T34 l i).f0 (rd_T34 l j).f0 < 0)))
    else if by_ = 6 then (if cmpV (rd_T34 l i).f0 (rd_T34 l j).f0 = 0 then bj0 k l t i j else some (decide (cmpV (rd_T34 l i).f0 (rd_T34 l j).f0 > 0)))
    else bj0 k l t i j := by
  rw [cleanseref23_before.f, if_pos (by omega), if_pos (by omega), if_pos (by omega), if_pos (by omega), refCompare, Option.bind_some]
theorem tail_f (l : List S34) (t : List Int) (i j : Nat) (hi : i < t.length) (hj : j < t.length) (k : Nat) :
    cleanseref23_before.j0 (k + 1) t i j (cmpV (rd_T34 l i).f0 (rd_T34 l j).f0) (rd_T34 l i).f0.f0 (rd_T34 l i).f0.f1 (rd_T34 l i).f0.f2 (rd_T34 l i).f1 (rd_T34 l i).f2 (rd_T34 l j).f0.f0 (rd_T34 l j).f0.f1 (rd_T34 l j).f0.f2 (rd_T34 l j).f1 (rd_T34 l j).f2 = some (decide (tailC (candAt l t i) (candAt l t j) < 0)) := by
  rw [cleanseref23_before.j0, if_pos (by omega), if_pos (by omega), if_pos (by omega), if_pos (by omega)]
  rw [tailC_eq]
  by_cases h1 : rd t i = rd t j
  · rw [if_pos h1, if_pos (cmpI_zero.2 h1.symm)]
    by_cases h2 : (rd_T34 l i).f2 = (rd_T34 l j).f2
    · rw [if_pos h2, if_pos (cmpI_zero.2 h2.symm)]
      by_cases h3 : cmpV (rd_T34 l i).f0 (rd_T34 l j).f0 = 0
      · rw [if_pos h3, if_pos h3]
        by_cases h4 : cmpI (i : Int) j = 0
        · rw [if_pos h4]
          have := cmpI_zero.1 h4
          simp [this]
        · rw [if_neg h4]
          congr 1
          rw [Bool.eq_iff_iff]
          simp only [decide_eq_true_eq, cmpI_lt]
      · rw [if_neg h3, if_neg h3]
    · rw [if_neg h2, if_neg (fun h => h2 (cmpI_zero.1 h).symm), cmpI_rev]
  · rw [if_neg h1, if_neg (fun h => h1 (cmpI_zero.1 h).symm), cmpI_rev]
theorem tail_ev (l : List S34) (t : List Int) (i j : Nat) (hi : i < t.length) (hj : j < t.length) :
    Ev (fun k => cleanseref23_before.j0 k t i j (cmpV (rd_T34 l i).f0 (rd_T34 l j).f0) (rd_T34 l i).f0.f0 (rd_T34 l i).f0.f1 (rd_T34 l i).f0.f2 (rd_T34 l i).f1 (rd_T34 l i).f2 (rd_T34 l j).f0.f0 (rd_T34 l j).f0.f1 (rd_T34 l j).f0.f2 (rd_T34 l j).f1 (rd_T34 l j).f2) (decide (tailC (candAt l t i) (candAt l t j) < 0)) :=
  Ev.step (Ev.of fun k => tail_f l t i j hi hj k)
theorem refBefore (by_ : Int) (h1 : 1 ≤ by_) (h6 : by_ ≤ 6) (l : List S34) (t : List Int) (i j : Nat) (hi : i < l.length) (hj : j < l.length) (ht : l.length = t.length) (hl : l.length ≤ 1000000) :
    Ev (fun k => cleanseref23_before.f k by_ l t i j) (decide (cf by_ (candAt l t i) (candAt l t j) < 0)) := by
  have htl := tail_ev l t i j (by omega) (by omega)
  have open1 := before_open by_ l t i j hi hj
  rw [cf_tail]
  have hcase : by_ = 1 ∨ by_ = 2 ∨ by_ = 3 ∨ by_ = 4 ∨ by_ = 5 ∨ by_ = 6 := by omega
  rcases hcase with rfl | rfl | rfl | rfl | rfl | rfl
  · have hr : ruleC 1 (candAt l t i) (candAt l t j) = cmpI (rd_T34 l j).f2 (rd_T34 l i).f2 := rfl
    rw [hr]
    by_cases h : (rd_T34 l i).f2 = (rd_T34 l j).f2
    · rw [if_pos (cmpI_zero.2 h.symm)]
      refine htl.congr fun k => ?_
      rw [open1 k, if_pos rfl, if_pos h]
    · rw [if_neg (fun hh => h (cmpI_zero.1 hh).symm), cmpI_rev]
      refine Ev.of fun k => ?_
      rw [open1 k, if_pos rfl, if_neg h]
  · have hr : ruleC 2 (candAt l t i) (candAt l t j) = cmpI (freq l (rd_T34 l j).f0 l.length) (freq l (rd_T34 l i).f0 l.length) := rfl
    rw [hr]
    have f1 := refFreq l i hi hl
    have f2 := refFreq l j hj hl
    have hk : Ev (fun k => if freq l (rd_T34 l i).f0 l.length = freq l (rd_T34 l j).f0 l.length then cleanseref23_before.j0 k t i j (cmpV (rd_T34 l i).f0 (rd_T34 l j).f0) (rd_T34 l i).f0.f0 (rd_T34 l i).f0.f1 (rd_T34 l i).f0.f2 (rd_T34 l i).f1 (rd_T34 l i).f2 (rd_T34 l j).f0.f0 (rd_T34 l j).f0.f1 (rd_T34 l j).f0.f2 (rd_T34 l j).f1 (rd_T34 l j).f2 else some (decide (freq l (rd_T34 l i).f0 l.length > freq l (rd_T34 l j).f0 l.length)))
        (decide ((if cmpI (freq l (rd_T34 l j).f0 l.length) (freq l (rd_T34 l i).f0 l.length) = 0 then tailC (candAt l t i) (candAt l t j) else cmpI (freq l (rd_T34 l j).f0 l.length) (freq l (rd_T34 l i).f0 l.length)) < 0)) := by
      by_cases h : freq l (rd_T34 l i).f0 l.length = freq l (rd_T34 l j).f0 l.length
      · rw [if_pos (cmpI_zero.2 h.symm)]
        exact htl.congr fun k => if_pos h
      · rw [if_neg (fun hh => h (cmpI_zero.1 hh).symm), cmpI_rev]
        exact Ev.of fun k => if_neg h
    obtain ⟨K1, g1⟩ := f1
    dsimp only at g1
    obtain ⟨K2, g2⟩ := f2
    dsimp only at g2
    obtain ⟨K3, g3⟩ := hk
    dsimp only at g3
    refine ⟨max K1 (max K2 K3), fun k hk => ?_⟩
    show cleanseref23_before.f k 2 l t i j = _
    rw [open1 k, if_neg (by decide), if_pos rfl, g1 k (by omega), Option.bind_some, g2 k (by omega), Option.bind_some]
    exact g3 k (by omega)
  · have hr : ruleC 3 (candAt l t i) (candAt l t j) = cmpI (rd t j) (rd t i) := rfl
    rw [hr]
    have : (if cmpI (rd t j) (rd t i) = 0 then tailC (candAt l t i) (candAt l t j) else cmpI (rd t j) (rd t i)) = tailC (candAt l t i) (candAt l t j) := by
      by_cases h : cmpI (rd t j) (rd t i) = 0
      · rw [if_pos h]
      · rw [if_neg h]
        rw [tailC_eq, if_neg h]
    rw [this]
    refine htl.congr fun k => ?_
    rw [open1 k, if_neg (by decide), if_neg (by decide), if_neg (by decide), if_neg (by decide), if_neg (by decide)]
  · have hr : ruleC 4 (candAt l t i) (candAt l t j) = cmpI ((rd_T34 l j).f0.f2.size : Int) ((rd_T34 l i).f0.f2.size : Int) := rfl
    rw [hr]
    by_cases h : ((rd_T34 l i).f0.f2.size : Int) = ((rd_T34 l j).f0.f2.size : Int)
    · rw [if_pos (cmpI_zero.2 h.symm)]
      refine htl.congr fun k => ?_
      rw [open1 k, if_neg (by decide), if_neg (by decide), if_pos rfl, if_pos h]
    · rw [if_neg (fun hh => h (cmpI_zero.1 hh).symm), cmpI_rev]
      refine Ev.of fun k => ?_
      rw [open1 k, if_neg (by decide), if_neg (by decide), if_pos rfl, if_neg h]
  · have hr : ruleC 5 (candAt l t i) (candAt l t j) = cmpV (rd_T34 l i).f0 (rd_T34 l j).f0 := rfl
    rw [hr]
    by_cases h : cmpV (rd_T34 l i).f0 (rd_T34 l j).f0 = 0
    · rw [if_pos h]
      refine htl.congr fun k => ?_
      rw [open1 k, if_neg (by decide), if_neg (by decide), if_neg (by decide), if_pos rfl, if_pos h]
    · rw [if_neg h]
      refine Ev.of fun k => ?_
      rw [open1 k, if_neg (by decide), if_neg (by decide), if_neg (by decide), if_pos rfl, if_neg h]
  · have hr : ruleC 6 (candAt l t i) (candAt l t j) = cmpV (rd_T34 l j).f0 (rd_T34 l i).f0 := rfl
    rw [hr]
    have ha := cmpV_cmp.anti (rd_T34 l i).f0 (rd_T34 l j).f0
    by_cases h : cmpV (rd_T34 l i).f0 (rd_T34 l j).f0 = 0
    · rw [if_pos (by omega)]
      refine htl.congr fun k => ?_
      rw [open1 k, if_neg (by decide), if_neg (by decide), if_neg (by decide), if_neg (by decide), if_pos rfl, if_pos h]
    · rw [if_neg (by omega)]
      refine Ev.of fun k => ?_
      rw [open1 k, if_neg (by decide), if_neg (by decide), if_neg (by decide), if_neg (by decide), if_pos rfl, if_neg h]
      congr 1
      rw [Bool.eq_iff_iff]
      simp only [decide_eq_true_eq]
      omega
end Go.Proofs.Ytegomjkgbeijlaa.Hand
