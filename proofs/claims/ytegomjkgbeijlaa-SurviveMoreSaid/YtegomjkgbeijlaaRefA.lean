/- The reference's small functions, in plain words: what counts, what is right, what is few. -/
import Derived.Test.YtegomjkgbeijlaaSpec
import Derived.Test.YtegomjkgbeijlaaSv5
namespace Go.Proofs.Ytegomjkgbeijlaa.Hand
set_option linter.unusedSimpArgs false
set_option linter.unusedSectionVars false
set_option linter.unnecessarySimpa false
open Go.RowKit Go.Proofs.Ytegomjkgbeijlaa.Sv Go.Proofs.YtegomjkgbeijlaaW.PrintWords MapK
set_option linter.unusedVariables false
theorem wrap_up {i : Int} (h0 : 0 ≤ i) (h : i < 9223372036854775807) : wrap64 (i + 1) = i + 1 := by unfold wrap64; omega
theorem tl_empty (s : ByteArray) : (s.toList == ([] : List UInt8)) = s.toList.isEmpty := by cases s.toList <;> rfl
theorem refValid (v : S32) : cleanseref02_Valid.f v.f0 v.f1 v.f2 = some (validB v) := by
  unfold cleanseref02_Valid.f validB
  simp only [tl_empty]
  by_cases h0 : v.f0 = 0
  · have h1 : ¬ v.f0 = 1 := by omega
    rw [if_pos h0, if_neg h1, if_pos h0]
    by_cases h : v.f1 = 0 <;> simp [h]
  · by_cases h1 : v.f0 = 1
    · rw [if_neg h0, if_pos h1, if_pos h1]
      by_cases h : v.f1 = 0
      · simp [h]; omega
      · simp [h]
    · by_cases h2 : v.f0 = 2
      · rw [if_neg h0, if_neg h1, if_pos h2, if_neg h1, if_neg h0, if_pos h2]
        by_cases a : v.f1 ≥ -1000000000
        · by_cases b : v.f1 ≤ 1000000000
          · rw [if_pos a, if_pos b]; simp [show -1000000000 ≤ v.f1 from a, b]
          · rw [if_pos a, if_neg b]; simp [b]
        · rw [if_neg a]; simp [show ¬ -1000000000 ≤ v.f1 from a]
      · by_cases h3 : v.f0 = 3
        · rw [if_neg h0, if_neg h1, if_neg h2, if_pos h3, if_neg h1, if_neg h0, if_neg h2, if_pos h3]
          by_cases a : v.f1 ≥ 0
          · by_cases b : v.f1 ≤ 73048
            · rw [if_pos a, if_pos b]; simp [show 0 ≤ v.f1 from a, b]
            · rw [if_pos a, if_neg b]; simp [b]
          · rw [if_neg a]; simp [show ¬ 0 ≤ v.f1 from a]
        · by_cases h4 : v.f0 = 4
          · rw [if_neg h0, if_neg h1, if_neg h2, if_neg h3, if_pos h4, if_neg h1, if_neg h0, if_neg h2, if_neg h3, if_pos h4]
            by_cases a : v.f1 = 0
            · simp [a]
            · by_cases b : v.f1 = 1
              · simp [b]
              · rw [if_neg a, if_neg b]
                simp
                intro _ _
                omega
          · rw [if_neg h0, if_neg h1, if_neg h2, if_neg h3, if_neg h4, if_neg h1, if_neg h0, if_neg h2, if_neg h3, if_neg h4]
            simp
theorem refCounts (c : S34) : cleanseref23_Counts.f c.f0.f0 c.f0.f1 c.f0.f2 c.f1 c.f2 = some (countsB c) := by
  unfold cleanseref23_Counts.f countsB
  rw [refValid c.f0, Option.bind_some]
  cases validB c.f0 <;> rfl
theorem refSign (a b : Int) : cleanseref02_sign.f a b = some (cmpI a b) := by
  unfold cleanseref02_sign.f cmpI
  split
  · rfl
  · split <;> rfl
theorem refCompare (a b : S32) : cleanseref02_Compare.f a.f0 a.f1 a.f2 b.f0 b.f1 b.f2 = some (cmpV a b) := by
  unfold cleanseref02_Compare.f cmpV
  simp only [refSign, Option.bind_some]
  by_cases h0 : a.f0 = b.f0
  · rw [if_pos h0, if_pos (cmpI_zero.2 h0)]
    by_cases h1 : a.f1 = b.f1
    · rw [if_pos h1, if_pos (cmpI_zero.2 h1)]
      unfold cmpS
      split
      · rfl
      · split <;> rfl
    · rw [if_neg h1, if_neg (fun h => h1 (cmpI_zero.1 h))]
  · rw [if_neg h0, if_neg (fun h => h0 (cmpI_zero.1 h))]
theorem refRight (a : Int) (l : List S34) (t : List Int) : cleanseref23_Right.f a l t = some (rightB a l t) := by
  unfold cleanseref23_Right.f rightB
  by_cases h1 : a ≥ 1
  · by_cases h2 : a ≤ 6
    · rw [if_pos h1, if_pos h2]
      rw [decide_eq_true (show 1 ≤ a from h1), decide_eq_true h2, Bool.true_and, Bool.true_and]
      congr 1
      rw [Bool.eq_iff_iff]
      simp
      omega
    · rw [if_pos h1, if_neg h2, decide_eq_false h2]; simp
  · rw [if_neg h1, decide_eq_false (show ¬ 1 ≤ a from h1)]; simp
/-- There are few cells, with short texts. -/
def fewB (l : List S34) (m : Int) : Bool := l.all (fun c => decide ((c.f0.f2.size : Int) ≤ 300)) && decide ((l.length : Int) ≤ m)
theorem rd_at {l : List S34} {i : Nat} (h : i < l.length) : rd_T34 l (i : Int) = l[i] := by simp [rd_T34, List.getD_eq_getElem?_getD, h]
theorem refFew_loop (l : List S34) (m : Int) (hl : l.length ≤ maxLen) (d : Nat) : ∀ i : Nat, i + d = l.length → Ev (fun k => cleanseref23_Few.l0 k l m i) ((l.drop i).all (fun c => decide ((c.f0.f2.size : Int) ≤ 300)) && decide ((l.length : Int) ≤ m)) := by
  induction d with
  | zero =>
    intro i hi
    refine Ev.step (Ev.of fun k => ?_)
    rw [cleanseref23_Few.l0, if_neg (by omega), List.drop_of_length_le (by omega)]
    rfl
  | succ d ih =>
    intro i hi
    have hlt : i < l.length := by omega
    have hw : wrap64 ((i : Int) + 1) = ((i + 1 : Nat) : Int) := by unfold maxLen at hl; rw [wrap_up (by omega) (by omega)]; rfl
    refine Ev.step ?_
    rw [List.drop_eq_getElem_cons hlt, List.all_cons]
    by_cases h : ((l[i].f0.f2.size : Nat) : Int) > 300
    · refine Ev.of fun k => ?_
      rw [cleanseref23_Few.l0, if_pos (by omega), if_pos (by omega), rd_at hlt, if_pos h, decide_eq_false (by omega)]
      rfl
    · rw [decide_eq_true (show ((l[i].f0.f2.size : Nat) : Int) ≤ 300 by omega), Bool.true_and]
      refine (ih (i + 1) (by omega)).congr fun k => ?_
      rw [cleanseref23_Few.l0, if_pos (by omega), if_pos (by omega), rd_at hlt, if_neg h, hw]
theorem refFew (l : List S34) (m : Int) (hl : l.length ≤ maxLen) : Ev (fun k => cleanseref23_Few.f k l m) (fewB l m) := refFew_loop l m hl l.length 0 (by omega)
end Go.Proofs.Ytegomjkgbeijlaa.Hand
