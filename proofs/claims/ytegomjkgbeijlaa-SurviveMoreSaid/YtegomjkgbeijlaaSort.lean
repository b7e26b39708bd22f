/- A row of the call's own (elements of k cells, all scalars) before and behind slices.SortFunc: what the sort's contract asks and gives, in the words of the printed contracts. -/
import Derived.Shelf.SlSortCmp.WholeK
import Derived.Test.YtegomjkgbeijlaaWWords
namespace Go.Proofs.Ytegomjkgbeijlaa.SortR
set_option linter.unusedVariables false
set_option linter.unusedSimpArgs false
set_option linter.unusedSectionVars false
set_option linter.unnecessarySimpa false
open Go.Sort Go.Proofs.YtegomjkgbeijlaaW.PrintWords Go.RowKit
section
variable {α : Type} [Inhabited α] {enc : α → List Value} {k : Nat} {d : Kd α} {e : Nat} {w : World} {base g n c : Nat} {ok : Nat → Prop} {xs ys : List α}

theorem divmod (j r k : Nat) (h : r < k) : (j * k + r) / k = j ∧ (j * k + r) % k = r := by
  have hk : 0 < k := by omega
  constructor
  · rw [Nat.mul_comm, Nat.mul_add_div hk, Nat.div_eq_of_lt h, Nat.add_zero]
  · rw [Nat.mul_comm, Nat.mul_add_mod, Nat.mod_eq_of_lt h]

theorem parts (h : d.R e w base ok (.slice (some ⟨g, 0, none⟩) n c) xs) : ∃ cur, base ≤ g ∧ w.heap[g]? = some (.cells cur e (0, 0)) ∧ n = xs.length ∧ n ≤ c ∧ c ≤ maxLen ∧ cur.size = c * d.sz ∧ ok g ∧
    ∀ j p, xs[j]? = some p → d.M w base (fun k => ok k ∧ some k ≠ (Value.slice (some ⟨g, 0, none⟩) n c).ownBlock) p (((cur.toList.take (n * d.sz)).drop (j * d.sz)).take d.sz) := by
  obtain ⟨hok, inner, ho, hr⟩ := h
  have hl := ho.1
  rcases ho.2 with ⟨hv, _⟩ | ⟨g', cap, cur, hv, hb, hh, h1, h2, h3, h4⟩
  · cases hv
  · injection hv with e1 e2 e3
    injection e1 with e1
    injection e1 with e1
    subst e1; subst e3; subst h4
    exact ⟨cur, hb, hh, e2, by omega, h2, h3, hok g rfl, by rw [e2]; exact hr.2⟩

theorem holds_of_R (hk : ∀ x, (enc x).length = k) (hsz : d.sz = k) (hM : ∀ w base ok x cs, d.M w base ok x cs → cs = enc x) (h : d.R e w base ok (.slice (some ⟨g, 0, none⟩) n c) xs) : HoldsK enc k w g 0 xs.toArray ∧ g < w.heap.size := by
  obtain ⟨cur, hb, hh, hn, hnc, hcm, hcs, _, hr⟩ := parts h
  refine ⟨?_, (Array.getElem?_eq_some_iff.1 hh).1⟩
  intro t ht
  rw [size_flatK] at ht
  have ht' : t < xs.length * k := by simpa using ht
  have k0 : 0 < k := by rcases Nat.eq_zero_or_pos k with h0 | h0; · subst h0; simp at ht'
                        · exact h0
  refine ⟨?_, by simp [World.frozen?, hh]⟩
  have hj : t / k < xs.length := Nat.div_lt_of_lt_mul (by rw [Nat.mul_comm]; exact ht')
  have hx := hM _ _ _ _ _ (hr (t / k) xs[t / k] (List.getElem?_eq_getElem hj))
  rw [hsz] at hx
  have hm := Nat.mod_lt t k0
  have h1 := congrArg (fun l => l[t % k]?) hx
  rw [List.getElem?_take_of_lt hm, List.getElem?_drop] at h1
  have he : t / k * k + t % k = t := by rw [Nat.mul_comm]; exact Nat.div_add_mod t k
  rw [he, List.getElem?_take_of_lt (by rw [hn]; exact ht')] at h1
  have hm2 : t % k < (enc xs[t / k]).length := by rw [hk]; exact hm
  rw [get_flatK enc k _ t (by simpa using ht')]
  have hget : xs.toArray[t / k]! = xs[t / k] := by simp [hj]
  rw [hget]
  simp only [World.cell?, hh, Nat.zero_add, Option.isSome_none, Bool.false_eq_true, if_false, id]
  rw [← Array.getElem?_toList, h1, List.getElem?_eq_getElem hm2, getElem!_pos (enc xs[t / k]) (t % k) hm2]

theorem heap_sorted {os : Array Obj} {cur : Array Value} {fr : Nat × Nat} {m : Nat} (D : Array Value) (hb : w.heap[g]? = some (.cells cur e fr)) :
    (grow (putRow id (Sort.ahead w m) g 0 D) os).heap[g]? = some (.cells (putCells id 0 D cur) e fr) := by
  have hg : g < w.heap.size := (Array.getElem?_eq_some_iff.1 hb).1
  rw [heap_grow_old _ _ (by simpa using hg)]
  simp [putRow, mapBlock, Sort.ahead, Array.getElem?_modify, hb, onCells]

theorem grown_sorted {os : Array Obj} {m : Nat} (D : Array α) : w.grownBy (sortWorldK enc k w g 0 m D os) (some g) := by
  refine ⟨rfl, rfl, rfl, by simp [sortWorldK, putRowK], fun j hj hne => ?_⟩
  unfold sortWorldK putRowK
  rw [heap_grow_old _ _ (by simpa using hj)]
  have : g ≠ j := fun e => hne (by rw [e])
  simp [putRow, mapBlock, Sort.ahead, Array.getElem?_modify, this]

theorem R_sorted (hk : ∀ x, (enc x).length = k) (hsz : d.sz = k) (hM' : ∀ w base ok x, d.M w base ok x (enc x)) (h : d.R e w base ok (.slice (some ⟨g, 0, none⟩) n c) xs) (hl : ys.length = xs.length) (m : Nat) (os : Array Obj) :
    d.R e (sortWorldK enc k w g 0 m ys.toArray os) base ok (.slice (some ⟨g, 0, none⟩) n c) ys := by
  obtain ⟨cur, hb, hh, hn, hnc, hcm, hcs, hok, hr⟩ := parts h
  rw [hsz] at hcs
  have hh' : (sortWorldK enc k w g 0 m ys.toArray os).heap[g]? = some (.cells (putCells id 0 (flatK enc k ys.toArray) cur) e (0, 0)) := heap_sorted _ hh
  have hcur : n * k ≤ cur.size := by rw [hcs]; exact Nat.mul_le_mul_right _ hnc
  refine ⟨fun j hj => ?_, (putCells id 0 (flatK enc k ys.toArray) cur).toList.take (n * k), ⟨?_, .inr ⟨g, c, _, by rw [hl, hn], hb, hh', by omega, hcm, by simp [putCells, hcs, hsz], by rw [hsz, hl, hn]⟩⟩, ?_, ?_⟩
  · simp [Value.ownBlock] at hj; subst hj; exact hok
  · simp [putCells, hsz, hl, hn] at hcur ⊢
    omega
  · simp [putCells, hsz, hl, hn] at hcur ⊢
    omega
  · intro j p hj
    rw [hsz]
    have hjl : j < ys.length := (List.getElem?_eq_some_iff.1 hj).1
    have : ((((putCells id 0 (flatK enc k ys.toArray) cur).toList.take (n * k)).drop (j * k)).take k) = enc p := by
      apply List.ext_getElem?
      intro r
      by_cases hrk : r < k
      · have hlt : j * k + r < n * k := by
          have h1 : j * k + k ≤ n * k := by rw [← Nat.succ_mul]; exact Nat.mul_le_mul_right _ (by omega)
          omega
        have hlt2 : j * k + r < ys.length * k := by rw [hl, ← hn]; exact hlt
        rw [List.getElem?_take_of_lt hrk, List.getElem?_drop, List.getElem?_take_of_lt hlt, Array.getElem?_toList]
        have hc : j * k + r < cur.size := by omega
        obtain ⟨d1, d2⟩ := divmod j r k hrk
        have hp : ys[j] = p := by rw [List.getElem?_eq_getElem hjl] at hj; exact Option.some.inj hj
        have hf := get_flatK enc k ys.toArray (j * k + r) (by simpa using hlt2)
        rw [d1, d2] at hf
        have hy : ys.toArray[j]! = p := by simp [hjl, hp]
        rw [hy] at hf
        have hlen : r < (enc p).length := by rw [hk]; exact hrk
        rw [getElem!_pos (enc p) r hlen] at hf
        simp only [putCells, Array.getElem?_mapIdx, Array.getElem?_eq_getElem hc, Option.map_some, Nat.zero_le, true_and, Nat.zero_add, size_flatK, List.size_toArray, hlt2, if_true, Nat.sub_zero, id, hf]
        rw [List.getElem?_eq_getElem hlen]
      · rw [List.getElem?_eq_none (by rw [List.length_take]; omega), List.getElem?_eq_none (by rw [hk]; omega)]
    rw [this]
    exact hM' _ _ _ _

end
end Go.Proofs.Ytegomjkgbeijlaa.SortR
