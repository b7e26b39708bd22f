/- Go maps that a call makes itself, told as association lists: what mlook-up, store, and 'm[k] op= v' do to them; for any key type whose '==' decides equality. -/
import Derived.WalkKit
import Derived.WideKeyEntry
import Derived.Carry
import Derived.Maps.Own
import Derived.Shelf.SlSortCmp.WholeK
import Derived.Test.YtocjknmojcgeiaaWWords
namespace Go.Proofs.Ytocjknmojcgeiaa.MapK
set_option linter.unusedVariables false
set_option linter.unusedSimpArgs false
set_option linter.unusedSectionVars false
set_option linter.unnecessarySimpa false
open Go.MapKept Go.ChangeMaps Go.WideElems Go.RowKit

section
variable {κ β : Type} [DecidableEq κ]

/-- The first pair with a key, its place counted from i on. -/
def firstAt (x : κ) : List (κ × β) → Nat → Option (Nat × β)
  | [], _ => none
  | p :: r, i => if x = p.1 then some (i, p.2) else firstAt x r (i + 1)
/-- What a map holds at a key. -/
def mlook (M : List (κ × β)) (x : κ) : Option β := (firstAt x M 0).map (·.2)
/-- The map behind 'm[x] = v'. -/
def mput (M : List (κ × β)) (x : κ) (v : β) : List (κ × β) :=
  match firstAt x M 0 with
  | some (i, _) => M.set i (x, v)
  | none => M ++ [(x, v)]

theorem firstAt_shift (x : κ) : ∀ (M : List (κ × β)) (i : Nat), firstAt x M i = (firstAt x M 0).map fun p => (p.1 + i, p.2)
  | [], _ => rfl
  | p :: r, i => by
    unfold firstAt
    by_cases h : x = p.1
    · simp [h]
    · rw [if_neg h, if_neg h, firstAt_shift x r (i + 1), firstAt_shift x r 1]
      cases firstAt x r 0 <;> simp <;> omega

theorem firstAt_some {x : κ} {v : β} : ∀ {M : List (κ × β)} {i : Nat}, firstAt x M 0 = some (i, v) → M[i]? = some (x, v)
  | [], _, h => by simp [firstAt] at h
  | p :: r, i, h => by
    unfold firstAt at h
    by_cases hx : x = p.1
    · simp [hx] at h
      obtain ⟨rfl, rfl⟩ := h
      simp [hx]
    · rw [if_neg hx, firstAt_shift] at h
      cases hr : firstAt x r 0 with
      | none => simp [hr] at h
      | some q =>
        obtain ⟨j, u⟩ := q
        simp [hr] at h
        obtain ⟨rfl, rfl⟩ := h
        simpa using firstAt_some hr

theorem firstAt_none {x : κ} : ∀ {M : List (κ × β)}, firstAt x M 0 = none → ∀ p ∈ M, p.1 ≠ x
  | [], _, p, hp => by simp at hp
  | q :: r, h, p, hp => by
    unfold firstAt at h
    by_cases hx : x = q.1
    · simp [hx] at h
    · rw [if_neg hx, firstAt_shift] at h
      have hr : firstAt x r 0 = none := by simpa using h
      rcases List.mem_cons.1 hp with rfl | hp
      · exact fun e => hx e.symm
      · exact firstAt_none hr p hp

theorem firstAt_nodup {x : κ} {v : β} {M : List (κ × β)} (hn : (M.map (·.1)).Nodup) {i : Nat} (h : M[i]? = some (x, v)) : firstAt x M 0 = some (i, v) := by
  induction M generalizing i with
  | nil => simp at h
  | cons p r ih =>
    simp only [List.map_cons, List.nodup_cons] at hn
    unfold firstAt
    cases i with
    | zero => simp at h; simp [h]
    | succ i =>
      simp at h
      have : x ≠ p.1 := fun e => hn.1 (e ▸ List.mem_map.2 ⟨(x, v), List.mem_of_getElem? h, rfl⟩)
      rw [if_neg this, firstAt_shift, ih hn.2 h]
      rfl

theorem mlook_none {M : List (κ × β)} {x : κ} : mlook M x = none ↔ ∀ p ∈ M, p.1 ≠ x := by
  unfold mlook
  constructor
  · intro h
    exact firstAt_none (by simpa using h)
  · intro h
    cases hf : firstAt x M 0 with
    | none => rfl
    | some q => obtain ⟨i, v⟩ := q; exact absurd rfl (h _ (List.mem_of_getElem? (firstAt_some hf)))

theorem mlook_some {M : List (κ × β)} (hn : (M.map (·.1)).Nodup) {x : κ} {v : β} : mlook M x = some v ↔ (x, v) ∈ M := by
  unfold mlook
  constructor
  · intro h
    cases hf : firstAt x M 0 with
    | none => rw [hf] at h; simp at h
    | some q =>
      obtain ⟨i, u⟩ := q
      rw [hf] at h
      simp at h
      subst h
      exact List.mem_of_getElem? (firstAt_some hf)
  · intro h
    obtain ⟨i, hi⟩ := List.getElem?_of_mem h
    rw [firstAt_nodup hn hi]
    rfl

theorem mput_keys (M : List (κ × β)) (x : κ) (v : β) : (mput M x v).map (·.1) = if mlook M x = none then M.map (·.1) ++ [x] else M.map (·.1) := by
  unfold mput mlook
  cases hf : firstAt x M 0 with
  | none => simp
  | some q =>
    obtain ⟨i, u⟩ := q
    have := firstAt_some hf
    simp only [Option.map_some, reduceCtorEq, if_false, List.map_set]
    apply List.ext_getElem?
    intro j
    rw [List.getElem?_set]
    by_cases hj : i = j
    · subst hj
      have hl : i < M.length := (List.getElem?_eq_some_iff.1 this).1
      have hx : M[i] = (x, u) := by rw [List.getElem?_eq_getElem hl] at this; exact Option.some.inj this
      simp [hl, hx]
    · simp [hj]

theorem mput_nodup {M : List (κ × β)} (hn : (M.map (·.1)).Nodup) (x : κ) (v : β) : ((mput M x v).map (·.1)).Nodup := by
  rw [mput_keys]
  split
  · rename_i h
    refine List.nodup_append.2 ⟨hn, by simp, ?_⟩
    intro a ha b hb e
    simp at hb
    subst hb; subst e
    obtain ⟨p, hp, rfl⟩ := List.mem_map.1 ha
    exact mlook_none.1 h p hp rfl
  · exact hn

theorem mlook_put {M : List (κ × β)} (hn : (M.map (·.1)).Nodup) (x y : κ) (v : β) : mlook (mput M x v) y = if y = x then some v else mlook M y := by
  have hn' := mput_nodup hn x v
  by_cases hy : y = x
  · subst hy
    rw [if_pos rfl, mlook_some hn']
    unfold mput
    cases hf : firstAt y M 0 with
    | none => simp
    | some q =>
      obtain ⟨i, u⟩ := q
      have := firstAt_some hf
      have hl : i < M.length := (List.getElem?_eq_some_iff.1 this).1
      exact List.mem_of_getElem? (i := i) (by simp [hl])
  · rw [if_neg hy]
    have key : ∀ u, (y, u) ∈ mput M x v ↔ (y, u) ∈ M := by
      intro u
      unfold mput
      cases hf : firstAt x M 0 with
      | none => simp [hy]
      | some q =>
        obtain ⟨i, u0⟩ := q
        have h0 := firstAt_some hf
        simp only [List.mem_iff_getElem?]
        constructor
        · rintro ⟨j, hj⟩
          rw [List.getElem?_set] at hj
          by_cases hij : i = j
          · subst hij
            have hl : i < M.length := (List.getElem?_eq_some_iff.1 h0).1
            simp [hl] at hj
            exact absurd hj.1.symm hy
          · rw [if_neg hij] at hj
            exact ⟨j, hj⟩
        · rintro ⟨j, hj⟩
          refine ⟨j, ?_⟩
          rw [List.getElem?_set]
          by_cases hij : i = j
          · subst hij
            rw [h0] at hj
            simp at hj
            exact absurd hj.1.symm hy
          · rw [if_neg hij]
            exact hj
    cases h : mlook M y with
    | some u => rw [mlook_some hn', key u, ← mlook_some hn]; exact h
    | none =>
      cases h' : mlook (mput M x v) y with
      | none => rfl
      | some u => rw [mlook_some hn', key u, ← mlook_some hn, h] at h'; cases h'

theorem mput_length (M : List (κ × β)) (x : κ) (v : β) : (mput M x v).length ≤ M.length + 1 := by
  have := congrArg List.length (mput_keys M x v)
  simp only [List.length_map] at this
  rw [this]
  split <;> simp
end

/-- What the operations on maps ask of the key's type. -/
structure KeyRun (P : Program) (k : TypeId) {κ : Type} [DecidableEq κ] (ek : κ → Value) : Prop where
  check : ∀ (w : World) (em : Bool) (x : κ), (Instr.checkKey em 10000 k (ek x)).run P w = .ok () w
  find : ∀ {β : Type} (ev : β → Value) (w : World) (x : κ) (es : List MapEntry) (M : List (κ × β)), es.map (fun e => (e.key, e.val)) = M.map (fun p => (ek p.1, ev p.2)) →
    (Instr.findKey k (ek x) es).run P w = .ok ((firstAt x M 0).map fun p => (p.1, ev p.2)) w
  stays : ∀ x : κ, Instr.sameBits 10000 (ek x) (ek x) = true

/-- Keys that are compared by '=='. -/
theorem find_asking {P : Program} {k : TypeId} {κ : Type} [DecidableEq κ] {ek : κ → Value} (heq : ∀ (w : World) (x y : κ), (Op.equal k (ek x) (ek y)).run P w = .ok (decide (x = y)) w)
    {β : Type} (ev : β → Value) (w : World) (x : κ) : ∀ (es : List MapEntry) (M : List (κ × β)) (i : Nat), es.map (fun e => (e.key, e.val)) = M.map (fun p => (ek p.1, ev p.2)) →
    (Instr.findAsking k (ek x) es i).run P w = .ok ((firstAt x M i).map fun p => (p.1, ev p.2)) w
  | [], [], i, _ => by simp [Instr.findAsking, firstAt]
  | [], _ :: _, _, h => by simp at h
  | _ :: _, [], _, h => by simp at h
  | e :: es, p :: M, i, h => by
    simp only [List.map_cons, List.cons.injEq, Prod.mk.injEq] at h
    obtain ⟨⟨h1, h2⟩, h3⟩ := h
    have ih := find_asking heq ev w x es M (i + 1) h3
    simp only [Instr.findAsking, Sem.run_bind, h1, heq, Result.andThen]
    unfold firstAt
    by_cases hx : x = p.1
    · simp [hx, h2]
    · simp [hx, ih]

theorem find_of_asking {P : Program} {k : TypeId} {d : TypeDesc} {κ : Type} [DecidableEq κ] {ek : κ → Value} (hd : P.underlying k = some d) (hno : ∀ x y, Instr.sameNow d (ek x) (ek y) = none)
    (heq : ∀ (w : World) (x y : κ), (Op.equal k (ek x) (ek y)).run P w = .ok (decide (x = y)) w)
    {β : Type} (ev : β → Value) (w : World) (x : κ) (es : List MapEntry) (M : List (κ × β)) (h : es.map (fun e => (e.key, e.val)) = M.map (fun p => (ek p.1, ev p.2))) :
    (Instr.findKey k (ek x) es).run P w = .ok ((firstAt x M 0).map fun p => (p.1, ev p.2)) w := by
  unfold Instr.findKey
  simp only [Sem.run_bind, run_underlying hd, Result.andThen]
  cases es with
  | nil =>
    cases M with
    | nil => simp [Instr.findNow, firstAt]
    | cons p M => simp at h
  | cons e es =>
    cases M with
    | nil => simp at h
    | cons p M =>
      have h1 : e.key = ek p.1 := by simp at h; exact h.1.1
      simp only [Instr.findNow, h1, hno]
      exact find_asking heq ev w x (e :: es) (p :: M) 0 h

section
variable {P : Program} {k : TypeId} {κ β : Type} [DecidableEq κ] {ek : κ → Value} {ev : β → Value} {w : World} {b : Nat} {M : List (κ × β)}

/-- Block b of w is a map that holds just the pairs of M. -/
def MapIs (ek : κ → Value) (ev : β → Value) (w : World) (b : Nat) (M : List (κ × β)) : Prop :=
  ∃ es clock, w.heap[b]? = some (.map es clock) ∧ es.toList.map (fun e => (e.key, e.val)) = M.map (fun p => (ek p.1, ev p.2)) ∧ (es.toList.map (·.born)).Nodup ∧ (∀ e ∈ es.toList, e.born < clock) ∧ (M.map (·.1)).Nodup

theorem MapIs.nodup (h : MapIs ek ev w b M) : (M.map (·.1)).Nodup := by obtain ⟨_, _, _, _, _, _, h⟩ := h; exact h
theorem MapIs.lt (h : MapIs ek ev w b M) : b < w.heap.size := by
  obtain ⟨es, clock, hb, _⟩ := h
  exact (Array.getElem?_eq_some_iff.1 hb).1
theorem MapIs.same {w' : World} (h : MapIs ek ev w b M) (hb : w'.heap[b]? = w.heap[b]?) : MapIs ek ev w' b M := by
  obtain ⟨es, clock, h1, h2⟩ := h
  exact ⟨es, clock, hb.trans h1, h2⟩
theorem MapIs.made (ek : κ → Value) (ev : β → Value) (w : World) : MapIs ek ev (w.alloc (.map #[] 0)) w.heap.size ([] : List (κ × β)) :=
  ⟨#[], 0, (heap_alloc w _).1, by simp, by simp, by simp, by simp⟩

/-- 'm[x]'. -/
theorem MapIs.lookup (K : KeyRun P k ek) {t e : TypeId} (ht : P.underlying t = some (.map k e)) {z : β} (hz : (zeroValue e).run P w = .ok (ev z) w) (h : MapIs ek ev w b M) (x : κ) :
    (Instr.lookup t (.map (some b)) (ek x) false).run P w = .ok (ev ((mlook M x).getD z)) w := by
  obtain ⟨es, clock, hb, hM, _⟩ := h
  unfold Instr.lookup mlook
  cases hf : firstAt x M 0 with
  | none => simp [run_underlying ht, MapKept.run_getObj_map hb, K.check w _ x, K.find ev w x es.toList M hM, Result.andThen, hf, hz]
  | some q => simp [run_underlying ht, MapKept.run_getObj_map hb, K.check w _ x, K.find ev w x es.toList M hM, Result.andThen, hf]
/-- 'v, ok := m[x]'. -/
theorem MapIs.lookup_ok (K : KeyRun P k ek) {t e : TypeId} (ht : P.underlying t = some (.map k e)) {z : β} (hz : (zeroValue e).run P w = .ok (ev z) w) (h : MapIs ek ev w b M) (x : κ) :
    (Instr.lookup t (.map (some b)) (ek x) true).run P w = .ok (.tuple #[ev ((mlook M x).getD z), .bool (mlook M x).isSome]) w := by
  obtain ⟨es, clock, hb, hM, _⟩ := h
  unfold Instr.lookup mlook
  cases hf : firstAt x M 0 with
  | none => simp [run_underlying ht, MapKept.run_getObj_map hb, K.check w _ x, K.find ev w x es.toList M hM, Result.andThen, hf, hz]
  | some q => simp [run_underlying ht, MapKept.run_getObj_map hb, K.check w _ x, K.find ev w x es.toList M hM, Result.andThen, hf]

theorem setBlock_grown {es : Array MapEntry} {clock : Nat} (hb : w.heap[b]? = some (.map es clock)) (o : Obj) : w.grownBy (setBlock w b o) (some b) :=
  ⟨rfl, rfl, rfl, by simp [setBlock], fun i _ hi => heap_setBlock_other hb _ (fun e => hi (by rw [e]))⟩

theorem modify_key {es : Array MapEntry} {j : Nat} {e0 : MapEntry} (hj : es[j]? = some e0) : es.modify j (fun e => { e with key := e0.key }) = es := by
  apply Array.ext'
  have h2 : es.toList[j]? = some e0 := by simpa using hj
  rw [Array.toList_modify, modify_eq_set _ _ _ _ h2]
  exact set_self _ _ _ h2

theorem pair_at {es : List MapEntry} {M : List (κ × β)} (hM : es.map (fun e => (e.key, e.val)) = M.map (fun p => (ek p.1, ev p.2))) {i : Nat} {x : κ} {v : β} (h : M[i]? = some (x, v)) :
    ∃ e0, es[i]? = some e0 ∧ e0.key = ek x ∧ e0.val = ev v := by
  have h1 := congrArg (fun l => l[i]?) hM
  simp only [List.getElem?_map, h, Option.map_some] at h1
  cases he : es[i]? with
  | none => simp [he] at h1
  | some e0 => simp [he] at h1; exact ⟨e0, rfl, h1⟩

/-- 'm[x] = v'. -/
theorem MapIs.update (K : KeyRun P k ek) {t e : TypeId} (ht : P.underlying t = some (.map k e)) (h : MapIs ek ev w b M) (x : κ) (v : β) :
    ∃ w', (Instr.mapUpdate t (.map (some b)) (ek x) (ev v)).run P w = .ok () w' ∧ MapIs ek ev w' b (mput M x v) ∧ w.grownBy w' (some b) := by
  have hnd := h.nodup
  obtain ⟨es, clock, hb, hM, h3, h4, _⟩ := h
  unfold Instr.mapUpdate
  cases hf : firstAt x M 0 with
  | none =>
    refine ⟨setBlock w b (.map (es.push ⟨ek x, ev v, clock⟩) (clock + 1)), ?_, ⟨_, _, heap_setBlock_same hb _, ?_, ?_, ?_, mput_nodup hnd x v⟩, setBlock_grown hb _⟩
    · simp [run_underlying ht, MapKept.run_getObj_map hb, K.check w _ x, K.find ev w x es.toList M hM, Result.andThen, hf, MapKept.run_setObj_map _ hb, setBlock]
    · simp [mput, hf, hM]
    · simp only [Array.toList_push, List.map_append, List.map_cons, List.map_nil]
      refine List.nodup_append.2 ⟨h3, by simp, fun a ha c hc e1 => ?_⟩
      simp only [List.mem_singleton] at hc
      obtain ⟨y, hy, rfl⟩ := List.mem_map.1 ha
      have := h4 y hy
      omega
    · intro y hy
      simp at hy
      rcases hy with hy | rfl
      · have := h4 y (by simpa using hy); omega
      · simp
  | some q =>
    obtain ⟨i, u⟩ := q
    have hi := firstAt_some hf
    obtain ⟨e0, he0, hk, hv⟩ := pair_at hM hi
    have hj : es[i]? = some e0 := by simpa using he0
    refine ⟨setBlock w b (.map (es.modify i (fun e => { e with key := ek x, val := ev v })) clock), ?_, ⟨_, _, heap_setBlock_same hb _, ?_, ?_, ?_, mput_nodup hnd x v⟩, setBlock_grown hb _⟩
    · simp [run_underlying ht, MapKept.run_getObj_map hb, K.check w _ x, K.find ev w x es.toList M hM, Result.andThen, hf, hj, hk, Instr.keyThatStays, K.stays x, MapKept.run_setObj_map _ hb, setBlock]
    · rw [Array.toList_modify, modify_eq_set _ _ _ _ he0, List.map_set, hM]
      simp [mput, hf, List.map_set]
    · rw [Array.toList_modify, modify_eq_set _ _ _ _ he0, List.map_set]
      simp only
      rw [show (es.toList.map (·.born)).set i e0.born = es.toList.map (·.born) from set_self _ _ _ (by simp [hj])]
      exact h3
    · intro y hy
      rw [Array.toList_modify, modify_eq_set _ _ _ _ he0] at hy
      rcases List.mem_or_eq_of_mem_set hy with hy | rfl
      · exact h4 y hy
      · exact h4 e0 (List.mem_of_getElem? he0)

/-- 'm[x] op= v', first half: the entry is made where there is none; what a mlook-up gives does not change by it. Second half: the store by the entry's stamp. -/
theorem MapIs.entry (K : KeyRun P k ek) {t e : TypeId} (ht : P.underlying t = some (.map k e)) {z : β} (hz : ∀ u : World, (zeroValue e).run P u = .ok (ev z) u) (h : MapIs ek ev w b M) (x : κ) :
    ∃ (st : Nat) (w' : World) (M' : List (κ × β)), (Instr.mapEntry t (.map (some b)) (ek x)).run P w = .ok (.tuple #[ev ((mlook M x).getD z), .int .i64 st]) w' ∧ MapIs ek ev w' b M' ∧ (∀ y, (mlook M' y).getD z = (mlook M y).getD z) ∧ w.grownBy w' (some b) ∧
      ∀ (w2 : World) (v : β), w2.heap[b]? = w'.heap[b]? → ∃ w3, (Instr.entryStore t (.map (some b)) (.int .i64 st) (ev v)).run P w2 = .ok () w3 ∧ MapIs ek ev w3 b (mput M x v) ∧ w2.grownBy w3 (some b) := by
  have hnd := h.nodup
  obtain ⟨es, clock, hb, hM, h3, h4, _⟩ := h
  cases hf : firstAt x M 0 with
  | none =>
    have hM1 : (es.push ⟨ek x, ev z, clock⟩).toList.map (fun e => (e.key, e.val)) = (M ++ [(x, z)]).map (fun p => (ek p.1, ev p.2)) := by simp [hM]
    have hn1 : ((es.push ⟨ek x, ev z, clock⟩).toList.map (·.born)).Nodup := by
      simp only [Array.toList_push, List.map_append, List.map_cons, List.map_nil]
      refine List.nodup_append.2 ⟨h3, by simp, fun a ha c hc e1 => ?_⟩
      simp only [List.mem_singleton] at hc
      obtain ⟨y, hy, rfl⟩ := List.mem_map.1 ha
      have := h4 y hy
      omega
    have hb1 : ∀ e ∈ (es.push ⟨ek x, ev z, clock⟩).toList, e.born < clock + 1 := by
      intro y hy
      simp at hy
      rcases hy with hy | rfl
      · have := h4 y (by simpa using hy); omega
      · simp
    have hput : mput M x z = M ++ [(x, z)] := by simp [mput, hf]
    refine ⟨clock, setBlock w b (.map (es.push ⟨ek x, ev z, clock⟩) (clock + 1)), M ++ [(x, z)], ?_, ⟨_, _, heap_setBlock_same hb _, hM1, hn1, hb1, by rw [← hput]; exact mput_nodup hnd x z⟩, ?_, setBlock_grown hb _, ?_⟩
    · unfold Instr.mapEntry
      simp [run_underlying ht, MapKept.run_getObj_map hb, K.check w _ x, K.find ev w x es.toList M hM, Result.andThen, hf, hz, MapKept.run_setObj_map _ hb, setBlock, mlook, goInt]
    · intro y
      rw [← hput, mlook_put hnd]
      by_cases hy : y = x
      · subst hy; simp [mlook, hf]
      · rw [if_neg hy]
    · intro w2 v hw2
      have hw2' : w2.heap[b]? = some (.map (es.push ⟨ek x, ev z, clock⟩) (clock + 1)) := hw2.trans (heap_setBlock_same hb _)
      have hidx : (es.push ⟨ek x, ev z, clock⟩).findIdx? (fun e => ((e.born : Nat) : Int) == ((clock : Nat) : Int)) = some es.size := by
        rw [findIdx_arr]
        exact findIdx_born (l := (es.push ⟨ek x, ev z, clock⟩).toList) (j := es.size) (e0 := ⟨ek x, ev z, clock⟩) hn1 (by simp)
      have hmod : (es.push ⟨ek x, ev z, clock⟩).modify es.size (fun e => { e with val := ev v }) = es.push ⟨ek x, ev v, clock⟩ := by
        apply Array.ext'
        rw [Array.toList_modify, Array.toList_push, Array.toList_push, ← Array.length_toList, modify_last]
      refine ⟨setBlock w2 b (.map (es.push ⟨ek x, ev v, clock⟩) (clock + 1)), ?_, ⟨_, _, heap_setBlock_same hw2' _, ?_, ?_, ?_, mput_nodup hnd x v⟩, setBlock_grown hw2' _⟩
      · unfold Instr.entryStore
        simp [MapKept.run_getObj_map hw2', asInt, asIntOf, hidx, hmod, MapKept.run_setObj_map _ hw2', Result.andThen, setBlock]
      · simp [mput, hf, hM]
      · simpa using hn1
      · intro y hy
        simp at hy
        rcases hy with hy | rfl
        · have := h4 y (by simpa using hy); omega
        · simp
  | some q =>
    obtain ⟨i, u⟩ := q
    have hi := firstAt_some hf
    obtain ⟨e0, he0, hk, hv⟩ := pair_at hM hi
    have hj : es[i]? = some e0 := by simpa using he0
    have hsame : es.modify i (fun e => { e with key := ek x }) = es := by rw [← hk]; exact modify_key hj
    refine ⟨e0.born, setBlock w b (.map es clock), M, ?_, ⟨_, _, heap_setBlock_same hb _, hM, h3, h4, hnd⟩, fun _ => rfl, setBlock_grown hb _, ?_⟩
    · unfold Instr.mapEntry
      simp [run_underlying ht, MapKept.run_getObj_map hb, K.check w _ x, K.find ev w x es.toList M hM, Result.andThen, hf, hj, hk, hsame, Instr.keyThatStays, K.stays x, MapKept.run_setObj_map _ hb, setBlock, mlook, goInt]
    · intro w2 v hw2
      have hw2' : w2.heap[b]? = some (.map es clock) := hw2.trans (heap_setBlock_same hb _)
      have hidx : es.findIdx? (fun e => ((e.born : Nat) : Int) == ((e0.born : Nat) : Int)) = some i := by
        rw [findIdx_arr]
        exact findIdx_born h3 he0
      refine ⟨setBlock w2 b (.map (es.modify i (fun e => { e with val := ev v })) clock), ?_, ⟨_, _, heap_setBlock_same hw2' _, ?_, ?_, ?_, mput_nodup hnd x v⟩, setBlock_grown hw2' _⟩
      · unfold Instr.entryStore
        simp [MapKept.run_getObj_map hw2', asInt, asIntOf, hidx, MapKept.run_setObj_map _ hw2', Result.andThen, setBlock]
      · rw [Array.toList_modify, modify_eq_set _ _ _ _ he0, List.map_set, hM]
        simp [mput, hf, List.map_set, hk]
      · rw [Array.toList_modify, modify_eq_set _ _ _ _ he0, List.map_set]
        simp only
        rw [show (es.toList.map (·.born)).set i e0.born = es.toList.map (·.born) from set_self _ _ _ (by simp [hj])]
        exact h3
      · intro y hy
        rw [Array.toList_modify, modify_eq_set _ _ _ _ he0] at hy
        rcases List.mem_or_eq_of_mem_set hy with hy | rfl
        · exact h4 y hy
        · exact h4 e0 (List.mem_of_getElem? he0)

/-- 'm[x] = v' at the operation, for a walk. -/
theorem wp_mapUpdate {ops : Array Oper} {rest : List Oper} {o : Oper} {a : Act} {Q : Exit → Act → World → Prop} (hg : o.guard = none) (m x v : Operand) (t : TypeId) (hop : o.op = Op.mapUpdate t m x v)
    {e : TypeId} (K : KeyRun P k ek) (ht : P.underlying t = some (.map k e)) (b : Nat) (M : List (κ × β)) (hm : a.eval m = .map (some b)) (hown : MapIs ek ev w b M) (key : κ) (val : β) (hx : a.eval x = ek key) (hv : a.eval v = ev val)
    (hK : ∀ w', MapIs ek ev w' b (mput M key val) → w.grownBy w' (some b) → wpList P ops Q rest (a.put o.dst undef) w') : wpList P ops Q (o :: rest) a w := by
  refine wpList_plain hg fun K' hK' => ?_
  obtain ⟨w', hrun, r1, r2⟩ := hown.update K ht key val
  unfold Oper.wp
  simp [execOp, hop, hm, hx, hv, hrun, Result.andThen]
  exact hK' _ _ (hK w' r1 r2)
theorem MapIs.alloc (h : MapIs ek ev w b M) (o : Obj) : MapIs ek ev (w.alloc o) b M := h.same (Below.heap_alloc _ _ _ h.lt)
end
end Go.Proofs.Ytocjknmojcgeiaa.MapK

/- A row of the call's own (elements of k cells, all scalars) before and behind slices.SortFunc: what the sort's contract asks and gives, in the words of the printed contracts. -/
namespace Go.Proofs.Ytocjknmojcgeiaa.SortR
set_option linter.unusedVariables false
set_option linter.unusedSimpArgs false
set_option linter.unusedSectionVars false
set_option linter.unnecessarySimpa false
open Go.Sort Go.Proofs.YtocjknmojcgeiaaW.PrintWords Go.RowKit
section
variable {α : Type} [Inhabited α] {enc : α → List Value} {k : Nat} {d : Kd α} {e : Nat} {w : World} {base g n c : Nat} {ok : Nat → Prop} {xs ys : List α}

theorem divmod (j r k : Nat) (h : r < k) : (j * k + r) / k = j ∧ (j * k + r) % k = r := by
  have hk : 0 < k := by omega
  constructor
  · rw [Nat.mul_comm, Nat.mul_add_div hk, Nat.div_eq_of_lt h, Nat.add_zero]
  · rw [Nat.mul_comm, Nat.mul_add_mod, Nat.mod_eq_of_lt h]

theorem parts (h : d.R e w base ok (.slice (some ⟨g, 0, none⟩) n c) xs) : ∃ cur, base ≤ g ∧ w.heap[g]? = some (.cells cur e (0, 0)) ∧ n = xs.length ∧ n ≤ c ∧ c ≤ maxLen ∧ cur.size = c * d.sz ∧ ok g ∧
    ∀ j p, xs[j]? = some p → d.M w base (fun k => ok k ∧ some k ≠ (Value.slice (some ⟨g, 0, none⟩) n c).ownBlock) p (((cur.toList.take (n * d.sz)).drop (j * d.sz)).take d.sz) := by
  obtain ⟨hok, inner, ho, hr⟩ := h
  have hl := ho.1
  rcases ho.2 with ⟨hv, _⟩ | ⟨g', cap, cur, hv, hb, hh, h1, h2, h3, h4⟩
  · cases hv
  · injection hv with e1 e2 e3
    injection e1 with e1
    injection e1 with e1
    subst e1; subst e3; subst h4
    exact ⟨cur, hb, hh, e2, by omega, h2, h3, hok g rfl, by rw [e2]; exact hr.2⟩

theorem holds_of_R (hk : ∀ x, (enc x).length = k) (hsz : d.sz = k) (hM : ∀ w base ok x cs, d.M w base ok x cs → cs = enc x) (h : d.R e w base ok (.slice (some ⟨g, 0, none⟩) n c) xs) : HoldsK enc k w g 0 xs.toArray ∧ g < w.heap.size := by
  obtain ⟨cur, hb, hh, hn, hnc, hcm, hcs, _, hr⟩ := parts h
  refine ⟨?_, (Array.getElem?_eq_some_iff.1 hh).1⟩
  intro t ht
  rw [size_flatK] at ht
  have ht' : t < xs.length * k := by simpa using ht
  have k0 : 0 < k := by rcases Nat.eq_zero_or_pos k with h0 | h0; · subst h0; simp at ht'
                        · exact h0
  refine ⟨?_, by simp [World.frozen?, hh]⟩
  have hj : t / k < xs.length := Nat.div_lt_of_lt_mul (by rw [Nat.mul_comm]; exact ht')
  have hx := hM _ _ _ _ _ (hr (t / k) xs[t / k] (List.getElem?_eq_getElem hj))
  rw [hsz] at hx
  have hm := Nat.mod_lt t k0
  have h1 := congrArg (fun l => l[t % k]?) hx
  rw [List.getElem?_take_of_lt hm, List.getElem?_drop] at h1
  have he : t / k * k + t % k = t := by rw [Nat.mul_comm]; exact Nat.div_add_mod t k
  rw [he, List.getElem?_take_of_lt (by rw [hn]; exact ht')] at h1
  have hm2 : t % k < (enc xs[t / k]).length := by rw [hk]; exact hm
  rw [get_flatK enc k _ t (by simpa using ht')]
  have hget : xs.toArray[t / k]! = xs[t / k] := by simp [hj]
  rw [hget]
  simp only [World.cell?, hh, Nat.zero_add, Option.isSome_none, Bool.false_eq_true, if_false, id]
  rw [← Array.getElem?_toList, h1, List.getElem?_eq_getElem hm2, getElem!_pos (enc xs[t / k]) (t % k) hm2]

theorem heap_sorted {os : Array Obj} {cur : Array Value} {fr : Nat × Nat} {m : Nat} (D : Array Value) (hb : w.heap[g]? = some (.cells cur e fr)) :
    (grow (putRow id (Sort.ahead w m) g 0 D) os).heap[g]? = some (.cells (putCells id 0 D cur) e fr) := by
  have hg : g < w.heap.size := (Array.getElem?_eq_some_iff.1 hb).1
  rw [heap_grow_old _ _ (by simpa using hg)]
  simp [putRow, mapBlock, Sort.ahead, Array.getElem?_modify, hb, onCells]

theorem grown_sorted {os : Array Obj} {m : Nat} (D : Array α) : w.grownBy (sortWorldK enc k w g 0 m D os) (some g) := by
  refine ⟨rfl, rfl, rfl, by simp [sortWorldK, putRowK], fun j hj hne => ?_⟩
  unfold sortWorldK putRowK
  rw [heap_grow_old _ _ (by simpa using hj)]
  have : g ≠ j := fun e => hne (by rw [e])
  simp [putRow, mapBlock, Sort.ahead, Array.getElem?_modify, this]

theorem R_sorted (hk : ∀ x, (enc x).length = k) (hsz : d.sz = k) (hM' : ∀ w base ok x, d.M w base ok x (enc x)) (h : d.R e w base ok (.slice (some ⟨g, 0, none⟩) n c) xs) (hl : ys.length = xs.length) (m : Nat) (os : Array Obj) :
    d.R e (sortWorldK enc k w g 0 m ys.toArray os) base ok (.slice (some ⟨g, 0, none⟩) n c) ys := by
  obtain ⟨cur, hb, hh, hn, hnc, hcm, hcs, hok, hr⟩ := parts h
  rw [hsz] at hcs
  have hh' : (sortWorldK enc k w g 0 m ys.toArray os).heap[g]? = some (.cells (putCells id 0 (flatK enc k ys.toArray) cur) e (0, 0)) := heap_sorted _ hh
  have hcur : n * k ≤ cur.size := by rw [hcs]; exact Nat.mul_le_mul_right _ hnc
  refine ⟨fun j hj => ?_, (putCells id 0 (flatK enc k ys.toArray) cur).toList.take (n * k), ⟨?_, .inr ⟨g, c, _, by rw [hl, hn], hb, hh', by omega, hcm, by simp [putCells, hcs, hsz], by rw [hsz, hl, hn]⟩⟩, ?_, ?_⟩
  · simp [Value.ownBlock] at hj; subst hj; exact hok
  · simp [putCells, hsz, hl, hn] at hcur ⊢
    omega
  · simp [putCells, hsz, hl, hn] at hcur ⊢
    omega
  · intro j p hj
    rw [hsz]
    have hjl : j < ys.length := (List.getElem?_eq_some_iff.1 hj).1
    have : ((((putCells id 0 (flatK enc k ys.toArray) cur).toList.take (n * k)).drop (j * k)).take k) = enc p := by
      apply List.ext_getElem?
      intro r
      by_cases hrk : r < k
      · have hlt : j * k + r < n * k := by
          have h1 : j * k + k ≤ n * k := by rw [← Nat.succ_mul]; exact Nat.mul_le_mul_right _ (by omega)
          omega
        have hlt2 : j * k + r < ys.length * k := by rw [hl, ← hn]; exact hlt
        rw [List.getElem?_take_of_lt hrk, List.getElem?_drop, List.getElem?_take_of_lt hlt, Array.getElem?_toList]
        have hc : j * k + r < cur.size := by omega
        obtain ⟨d1, d2⟩ := divmod j r k hrk
        have hp : ys[j] = p := by rw [List.getElem?_eq_getElem hjl] at hj; exact Option.some.inj hj
        have hf := get_flatK enc k ys.toArray (j * k + r) (by simpa using hlt2)
        rw [d1, d2] at hf
        have hy : ys.toArray[j]! = p := by simp [hjl, hp]
        rw [hy] at hf
        have hlen : r < (enc p).length := by rw [hk]; exact hrk
        rw [getElem!_pos (enc p) r hlen] at hf
        simp only [putCells, Array.getElem?_mapIdx, Array.getElem?_eq_getElem hc, Option.map_some, Nat.zero_le, true_and, Nat.zero_add, size_flatK, List.size_toArray, hlt2, if_true, Nat.sub_zero, id, hf]
        rw [List.getElem?_eq_getElem hlen]
      · rw [List.getElem?_eq_none (by rw [List.length_take]; omega), List.getElem?_eq_none (by rw [hk]; omega)]
    rw [this]
    exact hM' _ _ _ _

end
end Go.Proofs.Ytocjknmojcgeiaa.SortR
