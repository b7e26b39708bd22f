/- The order of candidates by a rule is a total order of their indices: plain laws, no program. -/
import Derived.Test.YtegomjkgbeijlaaHandB
import Derived.Sort.Statements
namespace Go.Proofs.Ytegomjkgbeijlaa.Hand
set_option linter.unusedVariables false
set_option linter.unusedSimpArgs false
set_option linter.unusedSectionVars false
set_option linter.unnecessarySimpa false
open Go.Proofs.Ytegomjkgbeijlaa.Sv

/-- A comparison: exchanging the sides turns the sign; 'at most' is transitive. -/
structure Cmp {α : Type} (c : α → α → Int) : Prop where
  anti : ∀ x y, c y x = - c x y
  trans : ∀ x y z, c x y ≤ 0 → c y z ≤ 0 → c x z ≤ 0
namespace Cmp
variable {α β : Type} {c c' : α → α → Int}
theorem refl (h : Cmp c) (x : α) : c x x = 0 := by have := h.anti x x; omega
theorem lt_le (h : Cmp c) {x y z : α} (h1 : c x y < 0) (h2 : c y z ≤ 0) : c x z < 0 := by
  rcases (show c x z < 0 ∨ c x z ≥ 0 by omega) with h3 | h3
  · exact h3
  · have h4 : c z x ≤ 0 := by rw [h.anti]; omega
    have h5 := h.trans y z x h2 h4
    rw [h.anti] at h5
    omega
theorem le_lt (h : Cmp c) {x y z : α} (h1 : c x y ≤ 0) (h2 : c y z < 0) : c x z < 0 := by
  rcases (show c x z < 0 ∨ c x z ≥ 0 by omega) with h3 | h3
  · exact h3
  · have h4 : c z x ≤ 0 := by rw [h.anti]; omega
    have h5 := h.trans z x y h4 h1
    rw [h.anti] at h5
    omega
theorem eq_eq (h : Cmp c) {x y z : α} (h1 : c x y = 0) (h2 : c y z = 0) : c x z = 0 := by
  have h3 := h.trans x y z (by omega) (by omega)
  have h4 := h.trans z y x (by rw [h.anti]; omega) (by rw [h.anti]; omega)
  rw [h.anti] at h4
  omega
theorem lex (h : Cmp c) (h' : Cmp c') : Cmp (fun x y => if c x y = 0 then c' x y else c x y) where
  anti x y := by
    show (if c y x = 0 then c' y x else c y x) = -(if c x y = 0 then c' x y else c x y)
    rw [h.anti x y, h'.anti x y]
    by_cases h0 : c x y = 0
    · rw [if_pos h0, if_pos (by omega)]
    · rw [if_neg h0, if_neg (by omega)]
  trans x y z h1 h2 := by
    show (if c x z = 0 then c' x z else c x z) ≤ 0
    replace h1 : (if c x y = 0 then c' x y else c x y) ≤ 0 := h1
    replace h2 : (if c y z = 0 then c' y z else c y z) ≤ 0 := h2
    by_cases h0 : c x y = 0
    · rw [if_pos h0] at h1
      by_cases g0 : c y z = 0
      · rw [if_pos g0] at h2
        rw [if_pos (h.eq_eq h0 g0)]
        exact h'.trans x y z h1 h2
      · rw [if_neg g0] at h2
        have h3 : c x z < 0 := h.le_lt (y := y) (by omega) (by omega)
        rw [if_neg (by omega)]
        omega
    · rw [if_neg h0] at h1
      by_cases g0 : c y z = 0
      · have h3 : c x z < 0 := h.lt_le (y := y) (by omega) (by omega)
        rw [if_neg (by omega)]
        omega
      · rw [if_neg g0] at h2
        have h3 : c x z < 0 := h.lt_le (y := y) (by omega) (by omega)
        rw [if_neg (by omega)]
        omega
theorem flip (h : Cmp c) : Cmp (fun x y => c y x) where
  anti x y := h.anti y x
  trans x y z h1 h2 := h.trans z y x h2 h1
theorem on (h : Cmp c) (f : β → α) : Cmp (fun x y => c (f x) (f y)) where
  anti _ _ := h.anti _ _
  trans _ _ _ := h.trans _ _ _
theorem zero : Cmp (fun _ _ : α => 0) := ⟨fun _ _ => rfl, fun _ _ _ h _ => h⟩
end Cmp

theorem cmpI_le {a b : Int} : cmpI a b ≤ 0 ↔ a ≤ b := by
  unfold cmpI
  by_cases h : a < b
  · simp [h]; omega
  · by_cases g : a > b
    · simp [h, g]
    · simp [h, g]; omega
theorem cmpI_zero {a b : Int} : cmpI a b = 0 ↔ a = b := by
  unfold cmpI
  by_cases h : a < b
  · simp [h]; omega
  · by_cases g : a > b
    · simp [h, g]; omega
    · simp [h, g]; omega
theorem cmpI_lt {a b : Int} : cmpI a b < 0 ↔ a < b := by
  unfold cmpI
  by_cases h : a < b
  · simp [h]
  · by_cases g : a > b
    · simp [h, g]
    · simp [h, g]
theorem cmpI_cmp : Cmp cmpI where
  anti x y := by
    unfold cmpI
    by_cases h : x < y
    · rw [if_pos h, if_neg (by omega), if_pos h]; rfl
    · by_cases g : x > y
      · simp [h, g]
      · rw [if_neg h, if_neg g, if_neg (by omega), if_neg (by omega)]; rfl
  trans x y z := by rw [cmpI_le, cmpI_le, cmpI_le]; omega

theorem cmpS_zero {a b : ByteArray} : cmpS a b = 0 ↔ a = b := by
  unfold cmpS
  constructor
  · intro h
    by_cases h1 : Op.bytesLess a.toList b.toList = true
    · simp [h1] at h
    · by_cases h2 : Op.bytesLess b.toList a.toList = true
      · simp [h1, h2] at h
      · exact toList_inj (bl_total _ _ (by simpa using h1) (by simpa using h2))
  · rintro rfl
    simp [bl_irrefl]
theorem cmpS_cmp : Cmp cmpS where
  anti x y := by
    unfold cmpS
    by_cases h : Op.bytesLess x.toList y.toList = true
    · rw [if_pos h, bl_asymm _ _ h, if_neg (by simp), if_pos h]; rfl
    · rw [if_neg h]
      by_cases g : Op.bytesLess y.toList x.toList = true
      · rw [if_pos g, if_neg h, if_pos g]
      · rw [if_neg g, if_neg h, if_neg g]; rfl
  trans x y z := by
    have key : ∀ a b : ByteArray, cmpS a b ≤ 0 ↔ Op.bytesLess b.toList a.toList = false := by
      intro a b
      unfold cmpS
      by_cases h : Op.bytesLess a.toList b.toList = true
      · simp [h, bl_asymm _ _ h]
      · by_cases g : Op.bytesLess b.toList a.toList = true
        · simp [h, g]
        · simp [h, g]
    rw [key, key, key]
    intro h1 h2
    cases h3 : Op.bytesLess z.toList x.toList with
    | false => rfl
    | true =>
      cases h4 : Op.bytesLess x.toList y.toList with
      | true => rw [bl_trans _ _ _ h3 h4] at h2; cases h2
      | false =>
        have := bl_total _ _ h4 h1
        rw [this] at h3
        rw [h3] at h2
        cases h2

theorem cmpV_cmp : Cmp cmpV := by
  have h := (cmpI_cmp.on (fun v : S32 => v.f0)).lex ((cmpI_cmp.on (fun v : S32 => v.f1)).lex (cmpS_cmp.on (fun v : S32 => v.f2)))
  exact h
theorem cmpV_zero {a b : S32} : cmpV a b = 0 ↔ a = b := by
  unfold cmpV
  constructor
  · intro h
    by_cases h0 : cmpI a.f0 b.f0 = 0
    · rw [if_pos h0] at h
      by_cases h1 : cmpI a.f1 b.f1 = 0
      · rw [if_pos h1] at h
        exact S32.ext' (cmpI_zero.1 h0) (cmpI_zero.1 h1) (cmpS_zero.1 h)
      · rw [if_neg h1] at h; exact absurd h h1
    · rw [if_neg h0] at h; exact absurd h h0
  · rintro rfl
    rw [if_pos (cmpI_cmp.refl _), if_pos (cmpI_cmp.refl _), cmpS_cmp.refl]

theorem ruleC_cmp (by_ : Int) : Cmp (ruleC by_) := by
  unfold ruleC
  by_cases h1 : by_ = 1
  · simp only [h1, if_true]; exact (cmpI_cmp.on (fun x : S44 => x.f0.f2)).flip
  by_cases h2 : by_ = 2
  · simp only [h2]; exact (cmpI_cmp.on (fun x : S44 => x.f3)).flip
  by_cases h3 : by_ = 3
  · simp only [h3]; exact (cmpI_cmp.on (fun x : S44 => x.f2)).flip
  by_cases h4 : by_ = 4
  · simp only [h4]; exact (cmpI_cmp.on (fun x : S44 => (x.f0.f0.f2.size : Int))).flip
  by_cases h5 : by_ = 5
  · simp only [h5]; exact cmpV_cmp.on (fun x : S44 => x.f0.f0)
  · simp only [h1, h2, h3, h4, h5, if_false]; exact (cmpV_cmp.on (fun x : S44 => x.f0.f0)).flip

theorem cf_cmp (by_ : Int) : Cmp (cf by_) := by
  have h := (ruleC_cmp by_).lex ((cmpI_cmp.on (fun x : S44 => x.f2)).flip.lex ((cmpI_cmp.on (fun x : S44 => x.f0.f2)).flip.lex ((cmpV_cmp.on (fun x : S44 => x.f0.f0)).lex ((cmpI_cmp.on (fun x : S44 => x.f1)).lex (Cmp.zero)))))
  exact h
/-- Candidates that are equal in the order have one index. -/
theorem cf_zero {by_ : Int} {x y : S44} (h : cf by_ x y = 0) : x.f1 = y.f1 := by
  unfold cf at h
  simp only [orL] at h
  by_cases h1 : ruleC by_ x y = 0
  · rw [if_pos h1] at h
    by_cases h2 : cmpI y.f2 x.f2 = 0
    · rw [if_pos h2] at h
      by_cases h3 : cmpI y.f0.f2 x.f0.f2 = 0
      · rw [if_pos h3] at h
        by_cases h4 : cmpV x.f0.f0 y.f0.f0 = 0
        · rw [if_pos h4] at h
          by_cases h5 : cmpI x.f1 y.f1 = 0
          · exact cmpI_zero.1 h5
          · rw [if_neg h5] at h; exact absurd h h5
        · rw [if_neg h4] at h; exact absurd h h4
      · rw [if_neg h3] at h; exact absurd h h3
    · rw [if_neg h2] at h; exact absurd h h2
  · rw [if_neg h1] at h; exact absurd h h1

/-- A list in the order of a rule. -/
def sortC (by_ : Int) (l : List S44) : List S44 := l.mergeSort (fun x y => decide (cf by_ x y ≤ 0))
theorem sortC_perm (by_ : Int) (l : List S44) : (sortC by_ l).Perm l := List.mergeSort_perm _ _
theorem sortC_sorted (by_ : Int) (l : List S44) : (sortC by_ l).Pairwise (fun x y => cf by_ x y ≤ 0) := by
  have h := List.pairwise_mergeSort (le := fun x y => decide (cf by_ x y ≤ 0)) (fun a b c h1 h2 => by
    simp only [decide_eq_true_eq] at *
    exact (cf_cmp by_).trans a b c h1 h2) (fun a b => by
    simp only [Bool.or_eq_true, decide_eq_true_eq]
    have := (cf_cmp by_).anti a b
    omega) l
  exact h.imp (fun h => by simpa using h)
theorem sortC_unique {by_ : Int} {l m : List S44} (hp : m.Perm l) (hs : m.Pairwise (fun x y => cf by_ x y ≤ 0)) (hn : ∀ x ∈ l, ∀ y ∈ l, x.f1 = y.f1 → x = y) : m = sortC by_ l := by
  refine List.Perm.eq_of_pairwise (le := fun x y => cf by_ x y ≤ 0) (fun a b ha hb h1 h2 => ?_) hs (sortC_sorted by_ l) (hp.trans (sortC_perm by_ l).symm)
  refine hn a (hp.mem_iff.1 ha) b ((sortC_perm by_ l).mem_iff.1 hb) (cf_zero (by_ := by_) ?_)
  have := (cf_cmp by_).anti a b
  omega
/-- 'cmp(a, b) < 0' is a strict weak order. -/
theorem cf_swo (by_ : Int) : Go.Sort.SWO (fun x y => decide (cf by_ x y < 0)) where
  irrefl x := by simp [(cf_cmp by_).refl x]
  trans x y z h1 h2 := by
    simp only [decide_eq_true_eq] at *
    exact (cf_cmp by_).lt_le h1 (by omega)
  ntrans x y z h1 h2 := by
    simp only [decide_eq_false_iff_not] at *
    have a := (cf_cmp by_).anti x y
    have b := (cf_cmp by_).anti y z
    have c := (cf_cmp by_).anti x z
    have := (cf_cmp by_).trans z y x (by omega) (by omega)
    omega
end Go.Proofs.Ytegomjkgbeijlaa.Hand
