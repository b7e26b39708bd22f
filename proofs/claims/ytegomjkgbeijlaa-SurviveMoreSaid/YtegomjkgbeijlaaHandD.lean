/- survive.Choose and survive.Others, walked. -/
import Derived.Test.YtegomjkgbeijlaaHandC
namespace Go.Proofs.Ytegomjkgbeijlaa.Hand
set_option linter.unusedSectionVars false
set_option linter.unnecessarySimpa false
open Go.RowKit Go.Proofs.Ytegomjkgbeijlaa.Sv Go.Proofs.YtegomjkgbeijlaaW.PrintWords Go.Proofs.YtegomjkgbeijlaaW.PrintLast MapK
set_option linter.unusedVariables false
set_option linter.unusedSimpArgs false
/-- The arguments are right. -/
def rightB (by_ : Int) (l : List S34) (t : List Int) : Bool := decide (1 ≤ by_) && decide (by_ ≤ 6) && decide (l.length = t.length)
/-- What survive.ranked returns. -/
def rankedA (by_ : Int) (l : List S34) (t : List Int) : List S44 := if rightB by_ l t = true then rankedL by_ l t else []
set_option maxHeartbeats 4000000 in
set_option maxRecDepth 100000 in
theorem ranked_wrong (by_ : Int) (A1 : Option Addr) (c1 : Nat) (l1 : List (S34)) (A2 : Option Addr) (c2 : Nat) (l2 : List Int) (w : World) (h : rightB by_ l1 l2 = false) :
    Calls Try.prog 22 #[.int .i64 by_, .slice A1 l1.length c1, .slice A2 l2.length c2] w fun e w' => ∃ v0_ : Value, e = .returned v0_ ∧ Kd.R k44 44 w' w.heap.size (fun _ => True) v0_ [] ∧ Below w.heap.size w w' := by
  have fin : ∀ W, Below w.heap.size w W → ∃ v0_ : Value, Ending.returned (.slice none 0 0) = Ending.returned v0_ ∧ Kd.R k44 44 W w.heap.size (fun _ => True) v0_ [] ∧ Below w.heap.size w W := fun W hW => ⟨_, rfl, Kd.R_nil _ _ _ _ _, hW⟩
  have FIN := Aside0.mk fin
  clear fin
  by_cases h1 : by_ < 1
  · clear h
    go_enter Try.func22, Try.ntmps22
    go_wp2
    go_ret
    exact FIN.out _ (Below.refl _ _)
  · by_cases h6 : 6 < by_
    · clear h
      go_enter Try.func22, Try.ntmps22
      go_wp2
      go_ret
      exact FIN.out _ (Below.refl _ _)
    · have hl : ((l1.length : Int) != (l2.length : Int)) = true := by
        simp [rightB] at h
        have := h (by omega) (by omega)
        simp
        omega
      have hl' : (l1.length != l2.length) = true := by
        simp [rightB] at h
        have := h (by omega) (by omega)
        simp
        omega
      clear h
      go_enter Try.func22, Try.ntmps22
      go_wp2
      go_ret
      exact FIN.out _ (Below.refl _ _)
theorem ranked_any (by_ : Int) (A1 : Option Addr) (c1 : Nat) (l1 : List (S34)) (A2 : Option Addr) (c2 : Nat) (l2 : List Int) (w : World) (hr1 : Kd.C k34 w A1 l1.length l1) (hc1 : l1.length ≤ c1) (hr2 : Kd.C (Kd.int .i64) w A2 l2.length l2) (hc2 : l2.length ≤ c2) (hsz : l1.length ≤ 1000000) :
    Calls Try.prog 22 #[.int .i64 by_, .slice A1 l1.length c1, .slice A2 l2.length c2] w fun e w' => ∃ v0_ : Value, e = .returned v0_ ∧ Kd.R k44 44 w' w.heap.size (fun _ => True) v0_ (rankedA by_ l1 l2) ∧ Below w.heap.size w w' := by
  unfold rankedA
  by_cases h : rightB by_ l1 l2 = true
  · rw [if_pos h]
    simp [rightB] at h
    exact ranked_right by_ A1 c1 l1 A2 c2 l2 w hr1 hc1 hr2 hc2 h.1.1 h.1.2 h.2 hsz
  · rw [if_neg h]
    exact ranked_wrong by_ A1 c1 l1 A2 c2 l2 w (by simpa using h)

def chooseL (s : List S44) : Int := match s with | [] => -1 | c :: _ => c.f1
def chooseO (a0 : Int) (l1 : List (S34)) (l2 : List Int) : Option (Int) := if l1.length ≤ 1000000 then some (chooseL (rankedA a0 l1 l2)) else none
set_option maxHeartbeats 4000000 in
set_option maxRecDepth 100000 in
theorem choose_calls (a0 : Int) (A1 : Option Addr) (c1 : Nat) (l1 : List (S34)) (A2 : Option Addr) (c2 : Nat) (l2 : List Int) (r : Int) (w : World) (hr1 : Kd.C k34 w A1 l1.length l1) (hc1 : l1.length ≤ c1) (hr2 : Kd.C (Kd.int .i64) w A2 l2.length l2) (hc2 : l2.length ≤ c2) (h : chooseO a0 l1 l2 = some r) :
    Calls Try.prog 12 #[.int .i64 a0, .slice A1 l1.length c1, .slice A2 l2.length c2] w fun e w' => e = .returned (.int .i64 r) ∧ Below w.heap.size w w' := by
  unfold chooseO at h
  by_cases hsz : l1.length ≤ 1000000
  · rw [if_pos hsz] at h
    obtain rfl := Option.some.inj h
    have HC := Aside0.mk (ranked_any a0 A1 c1 l1 A2 c2 l2 w hr1 hc1 hr2 hc2 hsz)
    clear h hr1 hr2
    generalize rankedA a0 l1 l2 = s at *
    go_enter Try.func12, Try.ntmps12
    go_wp2_with fail
    refine (HC.out).mono ?_
    rintro e w1 ⟨v, rfl, hR, hb⟩
    obtain ⟨A, c, hv, hl, hr⟩ := Kd.R_reads hR
    subst hv
    cases s with
    | nil =>
      clear hr hR
      go_wp2
      go_ret
      exact ⟨rfl, hb⟩
    | cons x s =>
      obtain ⟨ad, e, hx0, hx1, hx2, hx3, hx4, hx5, hx6, hx7⟩ := at_T44 hr 0 (by omega) (by simp)
      subst e
      have e0 : rd_T44 (x :: s) 0 = x := rfl
      rw [e0] at hx0 hx1 hx2 hx3 hx4 hx5 hx6 hx7
      simp only [show ((0 : Int).toNat * 8) = 0 from rfl, show ∀ a : Addr, a.add 0 = a from fun _ => rfl] at hx0 hx1 hx2 hx3 hx4 hx5 hx6 hx7
      clear hr hR e0
      have HB := Aside0.mk hb
      clear hb
      go_wp2
      go_ret
      exact ⟨rfl, HB.out⟩
  · rw [if_neg hsz] at h
    cases h
end Go.Proofs.Ytegomjkgbeijlaa.Hand
