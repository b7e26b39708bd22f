/- slices.SortFunc as the library has it, laid at this translation (numbers of functions and types): at decisions, at pairs. -/
import Derived.Shelf.SlSortCmp.WholeK
import Derived.Test.YtocjknmojcgeiaaProg
import Derived.Test.YtocjknmojcgeiaaCp
import Derived.Test.YtocjknmojcgeiaaMap
import Derived.Shelf.SlSortCmp.NoneTotal
namespace Go.Proofs.Ytocjknmojcgeiaa
set_option linter.unusedVariables false
set_option linter.unusedSimpArgs false
set_option linter.unusedSectionVars false
set_option linter.unnecessarySimpa false
def sortD_ren : Go.Shelf.Ren := ⟨fun | 6 => 31 | 15 => 48 | 14 => 47 | 28 => 61 | 29 => 62 | 20 => 53 | 21 => 54 | 22 => 55 | 23 => 56 | 24 => 57 | 25 => 58 | 26 => 59 | 27 => 60 | 46 => 71 | 47 => 72 | 48 => 73 | 49 => 74 | 50 => 75 | 57 => 79 | n => n, fun | 22 => 23 | 24 => 39 | 25 => 60 | 3 => 3 | 39 => 77 | 0 => 0 | 53 => 92 | 55 => 94 | 4 => 4 | 46 => 86 | 45 => 85 | 50 => 80 | 5 => 5 | 9 => 9 | 66 => 100 | 70 => 104 | 76 => 108 | 77 => 109 | n => n, fun n => n⟩
theorem sortD : SlLaysF0.n6 Try.prog sortD_ren := {
  mixed := by kernel_rfl,
  f6 := ⟨Try.f31.name, by decide, Try.func31.trans (congrArg some (by kernel_rfl))⟩,
  f14 := ⟨Try.f47.name, by decide, Try.func47.trans (congrArg some (by kernel_rfl))⟩,
  f15 := Try.func48.trans (congrArg some (by kernel_rfl)),
  f20 := ⟨Try.f53.name, by decide, Try.func53.trans (congrArg some (by kernel_rfl))⟩,
  f21 := ⟨Try.f54.name, by decide, Try.func54.trans (congrArg some (by kernel_rfl))⟩,
  f22 := ⟨Try.f55.name, by decide, Try.func55.trans (congrArg some (by kernel_rfl))⟩,
  f23 := ⟨Try.f56.name, by decide, Try.func56.trans (congrArg some (by kernel_rfl))⟩,
  f24 := ⟨Try.f57.name, by decide, Try.func57.trans (congrArg some (by kernel_rfl))⟩,
  f25 := ⟨Try.f58.name, by decide, Try.func58.trans (congrArg some (by kernel_rfl))⟩,
  f26 := ⟨Try.f59.name, by decide, Try.func59.trans (congrArg some (by kernel_rfl))⟩,
  f27 := ⟨Try.f60.name, by decide, Try.func60.trans (congrArg some (by kernel_rfl))⟩,
  f28 := Try.func61.trans (congrArg some (by kernel_rfl)),
  f29 := Try.func62.trans (congrArg some (by kernel_rfl)),
  f46 := ⟨Try.f71.name, by decide, Try.func71.trans (congrArg some (by kernel_rfl))⟩,
  f47 := Try.func72.trans (congrArg some (by kernel_rfl)),
  f48 := Try.func73.trans (congrArg some (by kernel_rfl)),
  f49 := ⟨Try.f74.name, by decide, Try.func74.trans (congrArg some (by kernel_rfl))⟩,
  f50 := ⟨Try.f75.name, by decide, Try.func75.trans (congrArg some (by kernel_rfl))⟩,
  f57 := ⟨Try.f79.name, by decide, Try.func79.trans (congrArg some (by kernel_rfl))⟩,
  t0 := Try.underlying0,
  a0 := Try.isAgg0,
  z0 := Try.sizeOf0,
  v0 := Try.zeroValue0,
  t3 := Try.underlying3,
  a3 := Try.isAgg3,
  z3 := Try.sizeOf3,
  v3 := Try.zeroValue3,
  t4 := Try.underlying4,
  a4 := Try.isAgg4,
  z4 := Try.sizeOf4,
  v4 := Try.zeroValue4,
  t5 := Try.underlying5,
  a5 := Try.isAgg5,
  z5 := Try.sizeOf5,
  v5 := Try.zeroValue5,
  t9 := Try.underlying9,
  a9 := Try.isAgg9,
  z9 := Try.sizeOf9,
  v9 := Try.zeroValue9,
  t22 := Try.underlying23,
  a22 := Try.isAgg23,
  z22 := Try.sizeOf23,
  v22 := Try.zeroValue23,
  t25 := Try.underlying60,
  a25 := Try.isAgg60,
  z25 := Try.sizeOf60,
  v25 := Try.zeroValue60,
  t39 := Try.underlying77,
  a39 := Try.isAgg77,
  z39 := Try.sizeOf77,
  v39 := Try.zeroValue77,
  t45 := Try.underlying85,
  a45 := Try.isAgg85,
  z45 := Try.sizeOf85,
  v45 := Try.zeroValue85,
  t46 := Try.underlying86,
  a46 := Try.isAgg86,
  z46 := Try.sizeOf86,
  v46 := Try.zeroValue86,
  t50 := Try.underlying80,
  a50 := Try.isAgg80,
  z50 := Try.sizeOf80,
  v50 := Try.zeroValue80,
  t53 := Try.underlying92,
  a53 := Try.isAgg92,
  z53 := Try.sizeOf92,
  v53 := Try.zeroValue92,
  t55 := Try.underlying94,
  a55 := Try.isAgg94,
  z55 := Try.sizeOf94,
  v55 := Try.zeroValue94,
  t66 := Try.underlying100,
  a66 := Try.isAgg100,
  z66 := Try.sizeOf100,
  v66 := Try.zeroValue100,
  t70 := Try.underlying104,
  a70 := Try.isAgg104,
  z70 := Try.sizeOf104,
  v70 := Try.zeroValue104,
  t76 := Try.underlying108,
  a76 := Try.isAgg108,
  z76 := Try.sizeOf108,
  v76 := Try.zeroValue108,
  t77 := Try.underlying109,
  a77 := Try.isAgg109,
  z77 := Try.sizeOf109,
  v77 := Try.zeroValue109 }
def sortP_ren : Go.Shelf.Ren := ⟨fun | 6 => 41 | 15 => 48 | 14 => 50 | 28 => 61 | 29 => 62 | 20 => 63 | 21 => 64 | 22 => 65 | 23 => 66 | 24 => 67 | 25 => 68 | 26 => 69 | 27 => 70 | 46 => 76 | 47 => 72 | 48 => 73 | 49 => 77 | 50 => 78 | 57 => 80 | n => n, fun | 22 => 27 | 24 => 48 | 25 => 72 | 3 => 3 | 39 => 77 | 0 => 0 | 53 => 92 | 55 => 94 | 4 => 4 | 46 => 86 | 45 => 85 | 50 => 80 | 5 => 5 | 9 => 9 | 66 => 100 | 70 => 104 | 76 => 108 | 77 => 109 | n => n, fun n => n⟩
theorem sortP : SlLaysF0.n6 Try.prog sortP_ren := {
  mixed := by kernel_rfl,
  f6 := ⟨Try.f41.name, by decide, Try.func41.trans (congrArg some (by kernel_rfl))⟩,
  f14 := ⟨Try.f50.name, by decide, Try.func50.trans (congrArg some (by kernel_rfl))⟩,
  f15 := Try.func48.trans (congrArg some (by kernel_rfl)),
  f20 := ⟨Try.f63.name, by decide, Try.func63.trans (congrArg some (by kernel_rfl))⟩,
  f21 := ⟨Try.f64.name, by decide, Try.func64.trans (congrArg some (by kernel_rfl))⟩,
  f22 := ⟨Try.f65.name, by decide, Try.func65.trans (congrArg some (by kernel_rfl))⟩,
  f23 := ⟨Try.f66.name, by decide, Try.func66.trans (congrArg some (by kernel_rfl))⟩,
  f24 := ⟨Try.f67.name, by decide, Try.func67.trans (congrArg some (by kernel_rfl))⟩,
  f25 := ⟨Try.f68.name, by decide, Try.func68.trans (congrArg some (by kernel_rfl))⟩,
  f26 := ⟨Try.f69.name, by decide, Try.func69.trans (congrArg some (by kernel_rfl))⟩,
  f27 := ⟨Try.f70.name, by decide, Try.func70.trans (congrArg some (by kernel_rfl))⟩,
  f28 := Try.func61.trans (congrArg some (by kernel_rfl)),
  f29 := Try.func62.trans (congrArg some (by kernel_rfl)),
  f46 := ⟨Try.f76.name, by decide, Try.func76.trans (congrArg some (by kernel_rfl))⟩,
  f47 := Try.func72.trans (congrArg some (by kernel_rfl)),
  f48 := Try.func73.trans (congrArg some (by kernel_rfl)),
  f49 := ⟨Try.f77.name, by decide, Try.func77.trans (congrArg some (by kernel_rfl))⟩,
  f50 := ⟨Try.f78.name, by decide, Try.func78.trans (congrArg some (by kernel_rfl))⟩,
  f57 := ⟨Try.f80.name, by decide, Try.func80.trans (congrArg some (by kernel_rfl))⟩,
  t0 := Try.underlying0,
  a0 := Try.isAgg0,
  z0 := Try.sizeOf0,
  v0 := Try.zeroValue0,
  t3 := Try.underlying3,
  a3 := Try.isAgg3,
  z3 := Try.sizeOf3,
  v3 := Try.zeroValue3,
  t4 := Try.underlying4,
  a4 := Try.isAgg4,
  z4 := Try.sizeOf4,
  v4 := Try.zeroValue4,
  t5 := Try.underlying5,
  a5 := Try.isAgg5,
  z5 := Try.sizeOf5,
  v5 := Try.zeroValue5,
  t9 := Try.underlying9,
  a9 := Try.isAgg9,
  z9 := Try.sizeOf9,
  v9 := Try.zeroValue9,
  t22 := Try.underlying27,
  a22 := Try.isAgg27,
  z22 := Try.sizeOf27,
  v22 := Try.zeroValue27,
  t25 := Try.underlying72,
  a25 := Try.isAgg72,
  z25 := Try.sizeOf72,
  v25 := Try.zeroValue72,
  t39 := Try.underlying77,
  a39 := Try.isAgg77,
  z39 := Try.sizeOf77,
  v39 := Try.zeroValue77,
  t45 := Try.underlying85,
  a45 := Try.isAgg85,
  z45 := Try.sizeOf85,
  v45 := Try.zeroValue85,
  t46 := Try.underlying86,
  a46 := Try.isAgg86,
  z46 := Try.sizeOf86,
  v46 := Try.zeroValue86,
  t50 := Try.underlying80,
  a50 := Try.isAgg80,
  z50 := Try.sizeOf80,
  v50 := Try.zeroValue80,
  t53 := Try.underlying92,
  a53 := Try.isAgg92,
  z53 := Try.sizeOf92,
  v53 := Try.zeroValue92,
  t55 := Try.underlying94,
  a55 := Try.isAgg94,
  z55 := Try.sizeOf94,
  v55 := Try.zeroValue94,
  t66 := Try.underlying100,
  a66 := Try.isAgg100,
  z66 := Try.sizeOf100,
  v66 := Try.zeroValue100,
  t70 := Try.underlying104,
  a70 := Try.isAgg104,
  z70 := Try.sizeOf104,
  v70 := Try.zeroValue104,
  t76 := Try.underlying108,
  a76 := Try.isAgg108,
  z76 := Try.sizeOf108,
  v76 := Try.zeroValue108,
  t77 := Try.underlying109,
  a77 := Try.isAgg109,
  z77 := Try.sizeOf109,
  v77 := Try.zeroValue109 }
end Go.Proofs.Ytocjknmojcgeiaa

/- slices.SortFunc called with the closures of bond: the row holds the same elements, in order. -/
namespace Go.Proofs.Ytocjknmojcgeiaa.Hand
set_option linter.unusedVariables false
set_option linter.unusedSimpArgs false
set_option linter.unusedSectionVars false
set_option linter.unnecessarySimpa false
open Go.RowKit Go.Proofs.Ytocjknmojcgeiaa.Bd Go.Proofs.YtocjknmojcgeiaaW.PrintWords Go.Proofs.YtocjknmojcgeiaaW.PrintLast
open Go.Sort (grow PermIn SortedIn SWO)
instance : Inhabited S39 := ⟨z39⟩
instance : Inhabited S48 := ⟨z48⟩
theorem cells39_M (w : World) (base : Nat) (ok : Nat → Prop) (x : S39) (cs : List Value) (h : k39.M w base ok x cs) : cs = cells39 x := k39_openM h
theorem cells48_M (w : World) (base : Nat) (ok : Nat → Prop) (x : S48) (cs : List Value) (h : k48.M w base ok x cs) : cs = cells48 x := k48_openM h
/-- What a sort that is handed a closure leaves: at whatever element type. -/
theorem sortD_any (w : World) (base : Nat) (ok : Nat → Prop) (A : Option Addr) (n c : Nat) (xs : List S39) (HO : Kd.R k39 39 w base ok (.slice A n c) xs) (hlen : xs.length ≤ 1000000) :
    Calls Try.prog 31 #[.slice A n c, .func (.func 32) #[] #[]] w fun e w' =>
      e = .returned (.tuple #[]) ∧ ∃ ys, ys.Perm xs ∧ ys.Pairwise (fun x y => ordD x y ≤ 0) ∧ Kd.R k39 39 w' base ok (.slice A n c) ys ∧ w.grownBy w' (Value.slice A n c).ownBlock := by
  have HO' := HO
  obtain ⟨hok, inner, ho, hr⟩ := HO'
  rcases ho.2 with ⟨hv, hx⟩ | ⟨g, cap, cur, hv, _⟩
  · injection hv with e1 e2 e3
    subst e1; subst e2
    have hx0 : xs = [] := by cases xs with | nil => rfl | cons a l => simp at hx
    subst hx0
    refine (AnyF.slices_SortFunc_none (P := Try.prog) (ρ := sortD_ren) sortD none c _ w).mono ?_
    rintro e w' ⟨rfl, rfl⟩
    exact ⟨rfl, [], List.Perm.refl _, List.Pairwise.nil, HO, ⟨rfl, rfl, rfl, Nat.le_refl _, fun _ _ _ => rfl⟩⟩
  · injection hv with e1 e2 e3
    subst e1
    have hn : n = xs.length := by obtain ⟨_, _, _, hn, _⟩ := SortR.parts HO; exact hn
    subst hn
    have hk : ∀ x : S39, (cells39 x).length = 7 := fun _ => rfl
    obtain ⟨hH, hg⟩ := SortR.holds_of_R (enc := cells39) (k := 7) (d := k39) hk rfl cells39_M HO
    have hc := AnyQ.slices_SortFunc (P := Try.prog) (ρ := sortD_ren) sortD 7 Try.isAgg39 Try.sizeOf39 cells39 hk (fun x v hv => by
      simp only [cells39, List.mem_cons, List.not_mem_nil, or_false] at hv
      rcases hv with rfl | rfl | rfl | rfl | rfl | rfl | rfl <;> rfl) ordD ordD_cmp.swo 32 #[] g 0 c xs.toArray w (enters_of Try.func32 (by kernel_rfl) rfl)
      (fun m os dk _ x y => closure32 x y _)
      hH hg (by simp; omega)
    refine hc.mono ?_
    rintro e w' ⟨rfl, d', m, os, hp, hs, rfl⟩
    have hsz : d'.size = xs.length := by have := hp.1; simpa using this
    refine ⟨rfl, d'.toList, ?_, ?_, ?_, SortR.grown_sorted d'⟩
    · have h2 := hp.2.2
      have e1 : (d'.extract 0 xs.toArray.size).toList = d'.toList := by
        have e3 : xs.toArray.size = d'.size := by simp [hsz]
        rw [e3]; simp
      have e2 : (xs.toArray.extract 0 xs.toArray.size).toList = xs := by simp
      rw [e1, e2] at h2
      exact h2
    · rw [List.pairwise_iff_getElem]
      intro i j hi hj hij
      have h3 := hs i j (Nat.zero_le _) hij (by simpa [hsz] using hj)
      simp only [Array.length_toList] at hi hj
      rw [getElem!_pos d' i hi, getElem!_pos d' j hj] at h3
      have h4 : ¬ ordD d'[j] d'[i] < 0 := by simpa [ltOf] using h3
      have := ordD_cmp.anti d'[j] d'[i]
      simp only [Array.getElem_toList]
      omega
    · have h5 := SortR.R_sorted (enc := cells39) (k := 7) (d := k39) (ys := d'.toList) hk rfl (fun w base ok x => k39_mkM w base ok x) HO (by simpa using hsz) m os
      simpa using h5
theorem sortP_any (w : World) (base : Nat) (ok : Nat → Prop) (A : Option Addr) (n c : Nat) (xs : List S48) (HO : Kd.R k48 48 w base ok (.slice A n c) xs) (hlen : xs.length ≤ 1000000) :
    Calls Try.prog 41 #[.slice A n c, .func (.func 42) #[] #[]] w fun e w' =>
      e = .returned (.tuple #[]) ∧ ∃ ys, ys.Perm xs ∧ ys.Pairwise (fun x y => ordP x y ≤ 0) ∧ Kd.R k48 48 w' base ok (.slice A n c) ys ∧ w.grownBy w' (Value.slice A n c).ownBlock := by
  have HO' := HO
  obtain ⟨hok, inner, ho, hr⟩ := HO'
  rcases ho.2 with ⟨hv, hx⟩ | ⟨g, cap, cur, hv, _⟩
  · injection hv with e1 e2 e3
    subst e1; subst e2
    have hx0 : xs = [] := by cases xs with | nil => rfl | cons a l => simp at hx
    subst hx0
    refine (AnyF.slices_SortFunc_none (P := Try.prog) (ρ := sortP_ren) sortP none c _ w).mono ?_
    rintro e w' ⟨rfl, rfl⟩
    exact ⟨rfl, [], List.Perm.refl _, List.Pairwise.nil, HO, ⟨rfl, rfl, rfl, Nat.le_refl _, fun _ _ _ => rfl⟩⟩
  · injection hv with e1 e2 e3
    subst e1
    have hn : n = xs.length := by obtain ⟨_, _, _, hn, _⟩ := SortR.parts HO; exact hn
    subst hn
    have hk : ∀ x : S48, (cells48 x).length = 2 := fun _ => rfl
    obtain ⟨hH, hg⟩ := SortR.holds_of_R (enc := cells48) (k := 2) (d := k48) hk rfl cells48_M HO
    have hc := AnyQ.slices_SortFunc (P := Try.prog) (ρ := sortP_ren) sortP 2 Try.isAgg48 Try.sizeOf48 cells48 hk (fun x v hv => by
      simp only [cells48, List.mem_cons, List.not_mem_nil, or_false] at hv
      rcases hv with rfl | rfl <;> rfl) ordP ordP_cmp.swo 42 #[] g 0 c xs.toArray w (enters_of Try.func42 (by kernel_rfl) rfl)
      (fun m os dk _ x y => closure42 x y _)
      hH hg (by simp; omega)
    refine hc.mono ?_
    rintro e w' ⟨rfl, d', m, os, hp, hs, rfl⟩
    have hsz : d'.size = xs.length := by have := hp.1; simpa using this
    refine ⟨rfl, d'.toList, ?_, ?_, ?_, SortR.grown_sorted d'⟩
    · have h2 := hp.2.2
      have e1 : (d'.extract 0 xs.toArray.size).toList = d'.toList := by
        have e3 : xs.toArray.size = d'.size := by simp [hsz]
        rw [e3]; simp
      have e2 : (xs.toArray.extract 0 xs.toArray.size).toList = xs := by simp
      rw [e1, e2] at h2
      exact h2
    · rw [List.pairwise_iff_getElem]
      intro i j hi hj hij
      have h3 := hs i j (Nat.zero_le _) hij (by simpa [hsz] using hj)
      simp only [Array.length_toList] at hi hj
      rw [getElem!_pos d' i hi, getElem!_pos d' j hj] at h3
      have h4 : ¬ ordP d'[j] d'[i] < 0 := by simpa [ltOf] using h3
      have := ordP_cmp.anti d'[j] d'[i]
      simp only [Array.getElem_toList]
      omega
    · have h5 := SortR.R_sorted (enc := cells48) (k := 2) (d := k48) (ys := d'.toList) hk rfl (fun w base ok x => k48_mkM w base ok x) HO (by simpa using hsz) m os
      simpa using h5
end Go.Proofs.Ytocjknmojcgeiaa.Hand
