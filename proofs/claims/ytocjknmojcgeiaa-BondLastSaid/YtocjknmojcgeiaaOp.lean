/- From the form's reading of an argument to the printed contracts' words: whatever reads as a slice, a struct, an integer, a string, is what 'Kd' says of it. -/
import Derived.WalkKit
import Derived.ProofKit
import Derived.Deep.Slices
import Derived.Test.YtocjknmojcgeiaaWWords
import Derived.Test.YtocjknmojcgeiaaBd0
namespace Go.Proofs.Ytocjknmojcgeiaa.OpenK
set_option linter.unusedSimpArgs false
set_option linter.unusedSectionVars false
set_option linter.unnecessarySimpa false
set_option linter.unusedVariables false
open Go.Proofs.YtocjknmojcgeiaaW.PrintWords Go.RowKit Go.ChangeShapes
/-- Whatever reads at type t is told by d, and has Q. -/
structure Opens {α : Type} (P : Program) (d : Kd α) (Q : α → Prop) (t : TypeId) : Prop where
  out : ∀ {H : Type} {enc : TypeId × Value → H} {w : World} {base : Nat} {sp : Nat → Bool} {held : Bool} {fuel : Nat} {cs : List Value} {x : DataW H × List MemPlace}, DataW.trod enc P w base sp held fuel t cs = some x → ∃ v, d.K w v cs ∧ Q v
variable {P : Program} {α β : Type} {d : Kd α} {Q : α → Prop} {t e : TypeId}

theorem opens_int {k : IntKind} (h : P.underlying t = some (.int k)) : Opens P (Kd.int k) (fun n => (Lit.int k n).wf = true) t := by
  constructor
  intro H enc w base sp held fuel cs x hx
  obtain ⟨n, rfl, _, hw⟩ := DataW.trod_int h hx
  exact ⟨n, rfl, hw⟩
theorem opens_string (h : P.underlying t = some .string) : Opens P Kd.string (fun s => s.size ≤ maxLen) t := by
  constructor
  intro H enc w base sp held fuel cs x hx
  obtain ⟨s, rfl, _, hw⟩ := DataW.trod_string h hx
  exact ⟨s, rfl, hw⟩
theorem opens_bool (h : P.underlying t = some .bool) : Opens P Kd.bool (fun _ => True) t := by
  constructor
  intro H enc w base sp held fuel cs x hx
  obtain ⟨b, rfl, _⟩ := DataW.trod_bool h hx
  exact ⟨b, rfl, trivial⟩

theorem cells_cell {w : World} {base : Nat} {a : Addr} {n : Nat} {cs : List Value} (h : w.cells? base a n = some cs) : cs.length = n ∧ ∀ i u, cs[i]? = some u → w.cell? (a.add i) = some u := by
  obtain ⟨_, h1, h2⟩ := World.cells?_some h
  exact ⟨h1, fun i u hu => (h2 i (by have := (List.getElem?_eq_some_iff.1 hu).1; omega)).trans hu⟩

theorem opens_row (h : P.underlying t = some (.slice e)) (hc : P.cellsOf e = d.sz) (hd : Opens P d Q e) {H : Type} {enc : TypeId × Value → H} {w : World} {base : Nat} {sp : Nat → Bool} {held : Bool} {fuel : Nat} {cs : List Value} {x : DataW H × List MemPlace}
    (hx : DataW.trod enc P w base sp held fuel t cs = some x) : ∃ A c xs, cs = [.slice A xs.length c] ∧ xs.length ≤ c ∧ d.C w A xs.length xs ∧ (∀ x ∈ xs, Q x) ∧ c ≤ maxLen := by
  rcases Deep.open_slice h hx with ⟨rfl, _⟩ | ⟨a, len, cap, m, n, D, Pl, rfl, hb, hl, hm, hmm, rfl, hel⟩
  · exact ⟨none, 0, [], rfl, Nat.le_refl 0, ⟨rfl, by simp, fun h => absurd h (Nat.lt_irrefl 0)⟩, by simp, by simp [maxLen]⟩
  · have hlm : len ≤ m := by rw [hmm]; split <;> omega
    have key : ∀ i, i < len → ∃ v, ∃ cs', w.cells? base (a.add (i * d.sz)) d.sz = some cs' ∧ d.K w v cs' ∧ Q v := fun i hi => by
      obtain ⟨cs', h1, h2⟩ := hel i (by omega)
      rw [hc] at h1
      obtain ⟨v, hv, hq⟩ := hd.out h2
      exact ⟨v, cs', h1, hv, hq⟩
    have : ∃ xs : List α, xs.length = len ∧ ∀ i v, xs[i]? = some v → ∃ cs', w.cells? base (a.add (i * d.sz)) d.sz = some cs' ∧ d.K w v cs' ∧ Q v := by
      clear hel hlm hmm hl hx
      induction len with
      | zero => exact ⟨[], rfl, by simp⟩
      | succ len ih =>
        obtain ⟨xs, h1, h2⟩ := ih (fun i hi => key i (by omega))
        obtain ⟨v, hv⟩ := key len (by omega)
        refine ⟨xs ++ [v], by simp [h1], fun i u hu => ?_⟩
        rcases Nat.lt_or_ge i xs.length with hi | hi
        · rw [List.getElem?_append_left hi] at hu
          exact h2 i u hu
        · rw [List.getElem?_append_right hi] at hu
          have hi0 : i - xs.length = 0 := by
            rcases Nat.eq_zero_or_pos (i - xs.length) with h0 | h0
            · exact h0
            · rw [List.getElem?_eq_none (by simp; omega)] at hu; cases hu
          rw [hi0] at hu
          simp at hu
          subst hu
          have : i = len := by omega
          subst this
          exact hv
    obtain ⟨xs, hxl, hxs⟩ := this
    subst hxl
    refine ⟨some a, cap, xs, rfl, hl, ⟨rfl, by simp [maxLen] at hm; omega, fun _ => ⟨a, rfl, fun j p hj => ?_⟩⟩, fun v hv => ?_, hm⟩
    · obtain ⟨cs', h1, h2, _⟩ := hxs j p hj
      obtain ⟨h3, h4⟩ := cells_cell h1
      refine ⟨cs', h3, h2, fun i u hu => ?_⟩
      rw [← add_add]
      exact h4 i u hu
    · obtain ⟨i, hi⟩ := List.getElem?_of_mem hv
      obtain ⟨_, _, _, hq⟩ := hxs i v hi
      exact hq
theorem opens_slice (h : P.underlying t = some (.slice e)) (hc : P.cellsOf e = d.sz) (hd : Opens P d Q e) : Opens P (Kd.slice e d) (fun xs => ∀ x ∈ xs, Q x) t := by
  constructor
  intro H enc w base sp held fuel cs x hx
  obtain ⟨A, c, xs, h1, h2, h3, h4, _⟩ := opens_row h hc hd hx
  exact ⟨xs, ⟨A, c, h1, h2, h3⟩, h4⟩

/-- The fields from the i-th on, which begins at cell off. -/
structure OpensF {α : Type} (P : Program) (fs : Array Field) (t : TypeId) (i off : Nat) (d : Kd α) (Q : α → Prop) : Prop where
  out : ∀ {H : Type} {enc : TypeId × Value → H} {w : World} {base : Nat} {sp : Nat → Bool} {held : Bool} {n : Nat} (cs : List Value) (xs : List (DataW H × List MemPlace)), cs.length = P.cellsOf t → xs.length = fs.size →
    (∀ (i : Nat) (f : Field), fs[i]? = some f → DataW.trod enc P w base sp held n f.type ((cs.drop f.offset).take (P.cellsOf f.type)) = xs[i]?) → ∃ v, d.K w v (cs.drop off) ∧ Q v
theorem opensF_last {fs : Array Field} {f : Field} {i off : Nat} (hf : fs[i]? = some f) (ho : f.offset = off) (hs : P.cellsOf f.type = d.sz) (he : off + d.sz = P.cellsOf t) (hd : Opens P d Q f.type) : OpensF P fs t i off d Q := by
  constructor
  intro H enc w base sp held n cs xs hl hx hall
  have hi : i < fs.size := (Array.getElem?_eq_some_iff.1 hf).1
  have h1 := hall i f hf
  rw [List.getElem?_eq_getElem (by omega), ho, hs, List.take_of_length_le (by rw [List.length_drop]; omega)] at h1
  exact hd.out h1
theorem opensF_cons {fs : Array Field} {f : Field} {i off : Nat} {b : Kd β} {Q' : β → Prop} (hf : fs[i]? = some f) (ho : f.offset = off) (hs : P.cellsOf f.type = d.sz) (hd : Opens P d Q f.type) (hr : OpensF P fs t (i + 1) (off + d.sz) b Q') :
    OpensF P fs t i off (Kd.pair d b) (fun v => Q v.1 ∧ Q' v.2) := by
  constructor
  intro H enc w base sp held n cs xs hl hx hall
  have hi : i < fs.size := (Array.getElem?_eq_some_iff.1 hf).1
  have h1 := hall i f hf
  rw [List.getElem?_eq_getElem (by omega), ho, hs] at h1
  obtain ⟨v, hv, hq⟩ := hd.out h1
  obtain ⟨u, hu, hq'⟩ := hr.out cs xs hl hx hall
  refine ⟨(v, u), ⟨_, _, ?_, hv, hu⟩, hq, hq'⟩
  rw [← List.drop_drop, List.take_append_drop]
theorem opens_struct {fs : Array Field} (h : P.underlying t = some (.struct fs)) (hr : OpensF P fs t 0 0 d Q) : Opens P d Q t := by
  constructor
  intro H enc w base sp held fuel cs x hx
  obtain ⟨xs, n, _, _, h1, h2, h3⟩ := DataW.trod_struct h hx
  obtain ⟨v, hv, hq⟩ := hr.out cs xs h1 h2 h3
  exact ⟨v, hv, hq⟩
theorem opens_iso {f : β → α} (g : α → β) (hg : ∀ v, f (g v) = v) (hd : Opens P d Q t) : Opens P (Kd.iso d f) (fun u => Q (f u)) t := by
  constructor
  intro H enc w base sp held fuel cs x hx
  obtain ⟨v, hv, hq⟩ := hd.out hx
  exact ⟨g v, by show d.K w (f (g v)) cs; rw [hg]; exact hv, by show Q (f (g v)); rw [hg]; exact hq⟩
end Go.Proofs.Ytocjknmojcgeiaa.OpenK

/- The kinds of this seat's arguments, opened. -/
namespace Go.Proofs.Ytocjknmojcgeiaa.OpenK
set_option linter.unusedVariables false
set_option linter.unusedSimpArgs false
set_option linter.unusedSectionVars false
set_option linter.unnecessarySimpa false
open Go.Proofs.YtocjknmojcgeiaaW.PrintWords Go.Proofs.Ytocjknmojcgeiaa.Bd
def opens3_Q (n : Int) : Prop := (Lit.int .i64 n).wf = true
theorem opens3 : Opens Try.prog (Kd.int .i64) opens3_Q 3 := opens_int Try.underlying3
def opens37_Q (v : S37) : Prop := (Lit.int .i64 v.f0).wf = true ∧ v.f1.size ≤ maxLen ∧ v.f2.size ≤ maxLen
theorem opens37 : Opens Try.prog k37 opens37_Q 37 :=
  opens_iso (fun v => ⟨v.1, v.2.1, v.2.2⟩) (fun _ => rfl) (opens_struct Try.underlying37
    (opensF_cons rfl rfl (by kernel_rfl) (opens_int Try.underlying3) (opensF_cons rfl rfl (by kernel_rfl) (opens_string Try.underlying9) (opensF_last rfl rfl (by kernel_rfl) (by kernel_rfl) (opens_string Try.underlying9)))))
def opens39_Q (v : S39) : Prop := (Lit.int .i64 v.f0).wf = true ∧ opens37_Q v.f1 ∧ opens37_Q v.f2
theorem opens39 : Opens Try.prog k39 opens39_Q 39 :=
  opens_iso (fun v => ⟨v.1, v.2.1, v.2.2⟩) (fun _ => rfl) (opens_struct Try.underlying39
    (opensF_cons rfl rfl (by kernel_rfl) (opens_int Try.underlying3) (opensF_cons rfl rfl (by kernel_rfl) opens37 (opensF_last rfl rfl (by kernel_rfl) (by kernel_rfl) opens37))))
def opens128_Q (v : S128) : Prop := (Lit.int .i64 v.f0).wf = true ∧ (Lit.int .i64 v.f1).wf = true ∧ v.f2.size ≤ maxLen
theorem opens128 : Opens Try.prog k128 opens128_Q 128 :=
  opens_iso (fun v => ⟨v.1, v.2.1, v.2.2⟩) (fun _ => rfl) (opens_struct Try.underlying128
    (opensF_cons rfl rfl (by kernel_rfl) (opens_int Try.underlying3) (opensF_cons rfl rfl (by kernel_rfl) (opens_int Try.underlying3) (opensF_last rfl rfl (by kernel_rfl) (by kernel_rfl) (opens_string Try.underlying9)))))
def opens130_Q (v : S130) : Prop := opens128_Q v.f0 ∧ (Lit.int .i64 v.f1).wf = true ∧ (Lit.int .i64 v.f2).wf = true
theorem opens130 : Opens Try.prog k130 opens130_Q 130 :=
  opens_iso (fun v => ⟨v.1, v.2.1, v.2.2⟩) (fun _ => rfl) (opens_struct Try.underlying130
    (opensF_cons rfl rfl (by kernel_rfl) opens128 (opensF_cons rfl rfl (by kernel_rfl) (opens_int Try.underlying3) (opensF_last rfl rfl (by kernel_rfl) (by kernel_rfl) (opens_int Try.underlying3)))))
def opens66_Q (v : S66) : Prop := opens37_Q v.f0 ∧ (Lit.int .i64 v.f1).wf = true ∧ (Lit.int .i64 v.f2).wf = true ∧ ∀ x ∈ v.f3, opens130_Q x
theorem opens66 : Opens Try.prog k66 opens66_Q 66 :=
  opens_iso (fun v => ⟨v.1, v.2.1, v.2.2.1, v.2.2.2⟩) (fun _ => rfl) (opens_struct Try.underlying66
    (opensF_cons rfl rfl (by kernel_rfl) opens37 (opensF_cons rfl rfl (by kernel_rfl) (opens_int Try.underlying3) (opensF_cons rfl rfl (by kernel_rfl) (opens_int Try.underlying3) (opensF_last rfl rfl (by kernel_rfl) (by kernel_rfl) (opens_slice Try.underlying64 (by kernel_rfl) opens130))))))
end Go.Proofs.Ytocjknmojcgeiaa.OpenK
