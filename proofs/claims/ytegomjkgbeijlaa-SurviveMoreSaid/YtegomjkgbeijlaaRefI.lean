/- Small laws of the ranked list, and that a list of numbers equals itself for the reference. -/
import Derived.Test.YtegomjkgbeijlaaRefA
import Derived.Test.YtegomjkgbeijlaaSv3
namespace Go.Proofs.Ytegomjkgbeijlaa.Hand
set_option linter.unusedSimpArgs false
set_option linter.unusedSectionVars false
set_option linter.unnecessarySimpa false
open Go.RowKit Go.Proofs.Ytegomjkgbeijlaa.Sv Go.Proofs.YtegomjkgbeijlaaW.PrintWords MapK
set_option linter.unusedVariables false
def enc : Option S44 → Int
  | none => -1
  | some x => x.f1
theorem ranked_mem {by_ : Int} {l : List S34} {t : List Int} {x : S44} (h : x ∈ rankedL by_ l t) : ∃ i : Nat, i < l.length ∧ x = candAt l t i := by
  unfold rankedL at h
  rw [(sortC_perm by_ _).mem_iff, candsL_eqP] at h
  obtain ⟨i, h1, _, h2⟩ := mem_candsP.1 h
  exact ⟨i, h1, h2⟩
theorem enc_head (s : List S44) : enc s.head? = chooseL s := by cases s <;> rfl
theorem firstsG_len : ∀ (s : List S44) (seen : List S32), (firstsG seen s).length ≤ s.length
  | [], _ => by simp [firstsG]
  | x :: r, seen => by
    unfold firstsG
    split
    · have := firstsG_len r seen
      simp only [List.length_cons]; omega
    · have := firstsG_len r (val x :: seen)
      simp only [List.length_cons]; omega
theorem refInts_loop (a : List Int) (ha : a.length ≤ 2000000) (d : Nat) : ∀ i : Nat, i + d = a.length → Ev (fun k => cleanseref05_Ints.l0 k a a i) true := by
  induction d with
  | zero =>
    intro i hi
    refine Ev.step (Ev.of fun k => ?_)
    rw [cleanseref05_Ints.l0, if_neg (by omega)]
  | succ d ih =>
    intro i hi
    have hw : wrap64 ((i : Int) + 1) = ((i + 1 : Nat) : Int) := by rw [wrap_up (by omega) (by omega)]; rfl
    refine Ev.step ((ih (i + 1) (by omega)).congr fun k => ?_)
    rw [cleanseref05_Ints.l0, if_pos (by omega), if_pos (by omega), if_pos (by omega), if_pos rfl, hw]
theorem refInts (a : List Int) (ha : a.length ≤ 2000000) : Ev (fun k => cleanseref05_Ints.f k a a) true :=
  (refInts_loop a ha a.length 0 (by omega)).congr fun k => by rw [cleanseref05_Ints.f, if_pos rfl]; rfl
end Go.Proofs.Ytegomjkgbeijlaa.Hand
