/- slices.SortFunc called with the closure of survive.ranked: the row holds the same candidates in the order of the rule. -/
import Derived.Test.YtegomjkgbeijlaaOrd
import Derived.Test.YtegomjkgbeijlaaSort
import Derived.Test.YtegomjkgbeijlaaLay
import Derived.Shelf.SlSortCmp.NoneTotal
namespace Go.Proofs.Ytegomjkgbeijlaa.Hand
set_option linter.unusedVariables false
set_option linter.unusedSimpArgs false
set_option linter.unusedSectionVars false
set_option linter.unnecessarySimpa false
open Go.RowKit Go.Proofs.Ytegomjkgbeijlaa.Sv Go.Proofs.YtegomjkgbeijlaaW.PrintWords Go.Proofs.YtegomjkgbeijlaaW.PrintLast
open Go.Sort (grow PermIn SortedIn SWO)
instance : Inhabited S44 := ⟨z44⟩
theorem rule_enters (by_ : Int) (h1 : 1 ≤ by_) (h6 : by_ ≤ 6) : ∀ args w, (callFunc (33 + by_.toNat) args).run Try.prog w = .ok (.enter (33 + by_.toNat) args) w := by
  have h : by_ = 1 ∨ by_ = 2 ∨ by_ = 3 ∨ by_ = 4 ∨ by_ = 5 ∨ by_ = 6 := by omega
  rcases h with rfl | rfl | rfl | rfl | rfl | rfl
  · exact enters_of Try.func34 (by kernel_rfl) rfl
  · exact enters_of Try.func35 (by kernel_rfl) rfl
  · exact enters_of Try.func36 (by kernel_rfl) rfl
  · exact enters_of Try.func37 (by kernel_rfl) rfl
  · exact enters_of Try.func38 (by kernel_rfl) rfl
  · exact enters_of Try.func39 (by kernel_rfl) rfl
theorem rule_any (by_ : Int) (h1 : 1 ≤ by_) (h6 : by_ ≤ 6) (x y : S44) (W : World) : Calls Try.prog (33 + by_.toNat) #[.agg #[.int .i64 x.f0.f0.f0, .int .i64 x.f0.f0.f1, .string x.f0.f0.f2, .int .i64 x.f0.f1, .int .i64 x.f0.f2, .int .i64 x.f1, .int .i64 x.f2, .int .i64 x.f3], .agg #[.int .i64 y.f0.f0.f0, .int .i64 y.f0.f0.f1, .string y.f0.f0.f2, .int .i64 y.f0.f1, .int .i64 y.f0.f2, .int .i64 y.f1, .int .i64 y.f2, .int .i64 y.f3]] W fun e w' => e = .returned (.int .i64 (ruleC by_ x y)) ∧ Grew W w' := by
  have h : by_ = 1 ∨ by_ = 2 ∨ by_ = 3 ∨ by_ = 4 ∨ by_ = 5 ∨ by_ = 6 := by omega
  rcases h with rfl | rfl | rfl | rfl | rfl | rfl
  · exact rule1_any x y W
  · exact rule2_any x y W
  · exact rule3_any x y W
  · exact rule4_any x y W
  · exact rule5_any x y W
  · exact rule6_any x y W
theorem cells44_M (w : World) (base : Nat) (ok : Nat → Prop) (x : S44) (cs : List Value) (h : k44.M w base ok x cs) : cs = cells44 x := k44_openM h

theorem sort_some (by_ : Int) (h1 : 1 ≤ by_) (h6 : by_ ≤ 6) (w : World) (base : Nat) (ok : Nat → Prop) (g n c : Nat) (xs : List S44) (HO : Kd.R k44 44 w base ok (.slice (some ⟨g, 0, none⟩) n c) xs) (B : Nat)
    (hB : w.cell? ⟨B, 0, none⟩ = some (.func (.func (33 + by_.toNat)) #[] #[])) (hne : B ≠ g) (hlen : xs.length ≤ 1000000) :
    Calls Try.prog 29 #[.slice (some ⟨g, 0, none⟩) n c, .func (.func 30) #[] #[.pointer (some ⟨B, 0, none⟩)]] w fun e w' =>
      e = .returned (.tuple #[]) ∧ ∃ ys, ys.Perm xs ∧ ys.Pairwise (fun x y => cf by_ x y ≤ 0) ∧ Kd.R k44 44 w' base ok (.slice (some ⟨g, 0, none⟩) n c) ys ∧ w.grownBy w' (some g) := by
  have hn : n = xs.length := by obtain ⟨_, _, _, hn, _⟩ := SortR.parts HO; exact hn
  subst hn
  have hk : ∀ x : S44, (cells44 x).length = 8 := fun _ => rfl
  obtain ⟨hH, hg⟩ := SortR.holds_of_R (enc := cells44) (k := 8) (d := k44) hk rfl cells44_M HO
  have hc := AnyQ.slices_SortFunc (P := Try.prog) (ρ := sortLay_ren) sortLay 8 Try.isAgg44 Try.sizeOf44 cells44 hk (fun x v hv => by
    simp only [cells44, List.mem_cons, List.not_mem_nil, or_false] at hv
    rcases hv with rfl | rfl | rfl | rfl | rfl | rfl | rfl | rfl <;> rfl) (cf by_) (cf_swo by_) 30 #[.pointer (some ⟨B, 0, none⟩)] g 0 c xs.toArray w (enters_of Try.func30 (by kernel_rfl) rfl)
    (fun m os dk _ x y => closure30 (33 + by_.toNat) (rule_enters by_ h1 h6) (ruleC by_) (rule_any by_ h1 h6) x y B _ ((SortR.grown_sorted (enc := cells44) (k := 8) (w := w) (g := g) (os := os) (m := m) dk).cell hB (by intro e; injection e with e; exact hne e)))
    hH hg (by simp; omega)
  refine hc.mono ?_
  rintro e w' ⟨rfl, d', m, os, hp, hs, rfl⟩
  have hsz : d'.size = xs.length := by have := hp.1; simpa using this
  refine ⟨rfl, d'.toList, ?_, ?_, ?_, SortR.grown_sorted d'⟩
  · have h2 := hp.2.2
    have e1 : (d'.extract 0 xs.toArray.size).toList = d'.toList := by
      have e3 : xs.toArray.size = d'.size := by simp [hsz]
      rw [e3]; simp
    have e2 : (xs.toArray.extract 0 xs.toArray.size).toList = xs := by simp
    rw [e1, e2] at h2
    exact h2
  · rw [List.pairwise_iff_getElem]
    intro i j hi hj hij
    have h3 := hs i j (Nat.zero_le _) hij (by simpa [hsz] using hj)
    simp only [Array.length_toList] at hi hj
    rw [getElem!_pos d' i hi, getElem!_pos d' j hj] at h3
    have h4 : ¬ cf by_ d'[j] d'[i] < 0 := by simpa [ltOf] using h3
    have := (cf_cmp by_).anti d'[j] d'[i]
    simp only [Array.getElem_toList]
    omega
  · have h5 := SortR.R_sorted (enc := cells44) (k := 8) (d := k44) (ys := d'.toList) hk rfl (fun w base ok x => k44_mkM w base ok x) HO (by simpa using hsz) m os
    simpa using h5

theorem sort_any (by_ : Int) (h1 : 1 ≤ by_) (h6 : by_ ≤ 6) (w : World) (base : Nat) (ok : Nat → Prop) (A : Option Addr) (n c : Nat) (xs : List S44) (HO : Kd.R k44 44 w base ok (.slice A n c) xs) (B : Nat)
    (hB : w.cell? ⟨B, 0, none⟩ = some (.func (.func (33 + by_.toNat)) #[] #[])) (hne : some B ≠ (Value.slice A n c).ownBlock) (hlen : xs.length ≤ 1000000) :
    Calls Try.prog 29 #[.slice A n c, .func (.func 30) #[] #[.pointer (some ⟨B, 0, none⟩)]] w fun e w' =>
      e = .returned (.tuple #[]) ∧ ∃ ys, ys.Perm xs ∧ ys.Pairwise (fun x y => cf by_ x y ≤ 0) ∧ Kd.R k44 44 w' base ok (.slice A n c) ys ∧ w.grownBy w' (Value.slice A n c).ownBlock := by
  have HO' := HO
  obtain ⟨hok, inner, ho, hr⟩ := HO'
  rcases ho.2 with ⟨hv, hx⟩ | ⟨g, cap, cur, hv, _⟩
  · injection hv with e1 e2 e3
    subst e1; subst e2
    have hx0 : xs = [] := by cases xs with | nil => rfl | cons a l => simp at hx
    subst hx0
    refine (AnyF.slices_SortFunc_none (P := Try.prog) (ρ := sortLay_ren) sortLay none c _ w).mono ?_
    rintro e w' ⟨rfl, rfl⟩
    exact ⟨rfl, [], List.Perm.refl _, List.Pairwise.nil, HO, ⟨rfl, rfl, rfl, Nat.le_refl _, fun _ _ _ => rfl⟩⟩
  · injection hv with e1 e2 e3
    subst e1
    exact sort_some by_ h1 h6 w base ok g n c xs HO B hB (by intro e; exact hne (by rw [e]; rfl)) hlen
end Go.Proofs.Ytegomjkgbeijlaa.Hand
