/- Go maps that a call makes itself, told as association lists: what mlook-up, store, and 'm[k] op= v' do to them; for any key type whose '==' decides equality. -/
import Derived.WalkKit
import Derived.WideKeyEntry
import Derived.Carry
import Derived.Maps.Own
namespace Go.Proofs.Ytegomjkgbeijlaa.MapK
set_option linter.unusedVariables false
set_option linter.unusedSimpArgs false
set_option linter.unusedSectionVars false
set_option linter.unnecessarySimpa false
open Go.MapKept Go.ChangeMaps Go.WideElems Go.RowKit

section
variable {κ β : Type} [DecidableEq κ]

/-- The first pair with a key, its place counted from i on. -/
def firstAt (x : κ) : List (κ × β) → Nat → Option (Nat × β)
  | [], _ => none
  | p :: r, i => if x = p.1 then some (i, p.2) else firstAt x r (i + 1)
/-- What a map holds at a key. -/
def mlook (M : List (κ × β)) (x : κ) : Option β := (firstAt x M 0).map (·.2)
/-- The map behind 'm[x] = v'. -/
def mput (M : List (κ × β)) (x : κ) (v : β) : List (κ × β) :=
  match firstAt x M 0 with
  | some (i, _) => M.set i (x, v)
  | none => M ++ [(x, v)]

theorem firstAt_shift (x : κ) : ∀ (M : List (κ × β)) (i : Nat), firstAt x M i = (firstAt x M 0).map fun p => (p.1 + i, p.2)
  | [], _ => rfl
  | p :: r, i => by
    unfold firstAt
    by_cases h : x = p.1
    · simp [h]
    · rw [if_neg h, if_neg h, firstAt_shift x r (i + 1), firstAt_shift x r 1]
      cases firstAt x r 0 <;> simp <;> omega

theorem firstAt_some {x : κ} {v : β} : ∀ {M : List (κ × β)} {i : Nat}, firstAt x M 0 = some (i, v) → M[i]? = some (x, v)
  | [], _, h => by simp [firstAt] at h
  | p :: r, i, h => by
    unfold firstAt at h
    by_cases hx : x = p.1
    · simp [hx] at h
      obtain ⟨rfl, rfl⟩ := h
      simp [hx]
    · rw [if_neg hx, firstAt_shift] at h
      cases hr : firstAt x r 0 with
      | none => simp [hr] at h
      | some q =>
        obtain ⟨j, u⟩ := q
        simp [hr] at h
        obtain ⟨rfl, rfl⟩ := h
        simpa using firstAt_some hr

theorem firstAt_none {x : κ} : ∀ {M : List (κ × β)}, firstAt x M 0 = none → ∀ p ∈ M, p.1 ≠ x
  | [], _, p, hp => by simp at hp
  | q :: r, h, p, hp => by
    unfold firstAt at h
    by_cases hx : x = q.1
    · simp [hx] at h
    · rw [if_neg hx, firstAt_shift] at h
      have hr : firstAt x r 0 = none := by simpa using h
      rcases List.mem_cons.1 hp with rfl | hp
      · exact fun e => hx e.symm
      · exact firstAt_none hr p hp

theorem firstAt_nodup {x : κ} {v : β} {M : List (κ × β)} (hn : (M.map (·.1)).Nodup) {i : Nat} (h : M[i]? = some (x, v)) : firstAt x M 0 = some (i, v) := by
  induction M generalizing i with
  | nil => simp at h
  | cons p r ih =>
    simp only [List.map_cons, List.nodup_cons] at hn
    unfold firstAt
    cases i with
    | zero => simp at h; simp [h]
    | succ i =>
      simp at h
      have : x ≠ p.1 := fun e => hn.1 (e ▸ List.mem_map.2 ⟨(x, v), List.mem_of_getElem? h, rfl⟩)
      rw [if_neg this, firstAt_shift, ih hn.2 h]
      rfl

theorem mlook_none {M : List (κ × β)} {x : κ} : mlook M x = none ↔ ∀ p ∈ M, p.1 ≠ x := by
  unfold mlook
  constructor
  · intro h
    exact firstAt_none (by simpa using h)
  · intro h
    cases hf : firstAt x M 0 with
    | none => rfl
    | some q => obtain ⟨i, v⟩ := q; exact absurd rfl (h _ (List.mem_of_getElem? (firstAt_some hf)))

theorem mlook_some {M : List (κ × β)} (hn : (M.map (·.1)).Nodup) {x : κ} {v : β} : mlook M x = some v ↔ (x, v) ∈ M := by
  unfold mlook
  constructor
  · intro h
    cases hf : firstAt x M 0 with
    | none => rw [hf] at h; simp at h
    | some q =>
      obtain ⟨i, u⟩ := q
      rw [hf] at h
      simp at h
      subst h
      exact List.mem_of_getElem? (firstAt_some hf)
  · intro h
    obtain ⟨i, hi⟩ := List.getElem?_of_mem h
    rw [firstAt_nodup hn hi]
    rfl

theorem mput_keys (M : List (κ × β)) (x : κ) (v : β) : (mput M x v).map (·.1) = if mlook M x = none then M.map (·.1) ++ [x] else M.map (·.1) := by
  unfold mput mlook
  cases hf : firstAt x M 0 with
  | none => simp
  | some q =>
    obtain ⟨i, u⟩ := q
    have := firstAt_some hf
    simp only [Option.map_some, reduceCtorEq, if_false, List.map_set]
    apply List.ext_getElem?
    intro j
    rw [List.getElem?_set]
    by_cases hj : i = j
    · subst hj
      have hl : i < M.length := (List.getElem?_eq_some_iff.1 this).1
      have hx : M[i] = (x, u) := by rw [List.getElem?_eq_getElem hl] at this; exact Option.some.inj this
      simp [hl, hx]
    · simp [hj]

theorem mput_nodup {M : List (κ × β)} (hn : (M.map (·.1)).Nodup) (x : κ) (v : β) : ((mput M x v).map (·.1)).Nodup := by
  rw [mput_keys]
  split
  · rename_i h
    refine List.nodup_append.2 ⟨hn, by simp, ?_⟩
    intro a ha b hb e
    simp at hb
    subst hb; subst e
    obtain ⟨p, hp, rfl⟩ := List.mem_map.1 ha
    exact mlook_none.1 h p hp rfl
  · exact hn

theorem mlook_put {M : List (κ × β)} (hn : (M.map (·.1)).Nodup) (x y : κ) (v : β) : mlook (mput M x v) y = if y = x then some v else mlook M y := by
  have hn' := mput_nodup hn x v
  by_cases hy : y = x
  · subst hy
    rw [if_pos rfl, mlook_some hn']
    unfold mput
    cases hf : firstAt y M 0 with
    | none => simp
    | some q =>
      obtain ⟨i, u⟩ := q
      have := firstAt_some hf
      have hl : i < M.length := (List.getElem?_eq_some_iff.1 this).1
      exact List.mem_of_getElem? (i := i) (by simp [hl])
  · rw [if_neg hy]
    have key : ∀ u, (y, u) ∈ mput M x v ↔ (y, u) ∈ M := by
      intro u
      unfold mput
      cases hf : firstAt x M 0 with
      | none => simp [hy]
      | some q =>
        obtain ⟨i, u0⟩ := q
        have h0 := firstAt_some hf
        simp only [List.mem_iff_getElem?]
        constructor
        · rintro ⟨j, hj⟩
          rw [List.getElem?_set] at hj
          by_cases hij : i = j
          · subst hij
            have hl : i < M.length := (List.getElem?_eq_some_iff.1 h0).1
            simp [hl] at hj
            exact absurd hj.1.symm hy
          · rw [if_neg hij] at hj
            exact ⟨j, hj⟩
        · rintro ⟨j, hj⟩
          refine ⟨j, ?_⟩
          rw [List.getElem?_set]
          by_cases hij : i = j
          · subst hij
            rw [h0] at hj
            simp at hj
            exact absurd hj.1.symm hy
          · rw [if_neg hij]
            exact hj
    cases h : mlook M y with
    | some u => rw [mlook_some hn', key u, ← mlook_some hn]; exact h
    | none =>
      cases h' : mlook (mput M x v) y with
      | none => rfl
      | some u => rw [mlook_some hn', key u, ← mlook_some hn, h] at h'; cases h'

theorem mput_length (M : List (κ × β)) (x : κ) (v : β) : (mput M x v).length ≤ M.length + 1 := by
  have := congrArg List.length (mput_keys M x v)
  simp only [List.length_map] at this
  rw [this]
  split <;> simp
end

/-- What the operations on maps ask of the key's type. -/
structure KeyRun (P : Program) (k : TypeId) {κ : Type} [DecidableEq κ] (ek : κ → Value) : Prop where
  check : ∀ (w : World) (em : Bool) (x : κ), (Instr.checkKey em 10000 k (ek x)).run P w = .ok () w
  find : ∀ {β : Type} (ev : β → Value) (w : World) (x : κ) (es : List MapEntry) (M : List (κ × β)), es.map (fun e => (e.key, e.val)) = M.map (fun p => (ek p.1, ev p.2)) →
    (Instr.findKey k (ek x) es).run P w = .ok ((firstAt x M 0).map fun p => (p.1, ev p.2)) w
  stays : ∀ x : κ, Instr.sameBits 10000 (ek x) (ek x) = true

/-- Keys that are compared by '=='. -/
theorem find_asking {P : Program} {k : TypeId} {κ : Type} [DecidableEq κ] {ek : κ → Value} (heq : ∀ (w : World) (x y : κ), (Op.equal k (ek x) (ek y)).run P w = .ok (decide (x = y)) w)
    {β : Type} (ev : β → Value) (w : World) (x : κ) : ∀ (es : List MapEntry) (M : List (κ × β)) (i : Nat), es.map (fun e => (e.key, e.val)) = M.map (fun p => (ek p.1, ev p.2)) →
    (Instr.findAsking k (ek x) es i).run P w = .ok ((firstAt x M i).map fun p => (p.1, ev p.2)) w
  | [], [], i, _ => by simp [Instr.findAsking, firstAt]
  | [], _ :: _, _, h => by simp at h
  | _ :: _, [], _, h => by simp at h
  | e :: es, p :: M, i, h => by
    simp only [List.map_cons, List.cons.injEq, Prod.mk.injEq] at h
    obtain ⟨⟨h1, h2⟩, h3⟩ := h
    have ih := find_asking heq ev w x es M (i + 1) h3
    simp only [Instr.findAsking, Sem.run_bind, h1, heq, Result.andThen]
    unfold firstAt
    by_cases hx : x = p.1
    · simp [hx, h2]
    · simp [hx, ih]

theorem find_of_asking {P : Program} {k : TypeId} {d : TypeDesc} {κ : Type} [DecidableEq κ] {ek : κ → Value} (hd : P.underlying k = some d) (hno : ∀ x y, Instr.sameNow d (ek x) (ek y) = none)
    (heq : ∀ (w : World) (x y : κ), (Op.equal k (ek x) (ek y)).run P w = .ok (decide (x = y)) w)
    {β : Type} (ev : β → Value) (w : World) (x : κ) (es : List MapEntry) (M : List (κ × β)) (h : es.map (fun e => (e.key, e.val)) = M.map (fun p => (ek p.1, ev p.2))) :
    (Instr.findKey k (ek x) es).run P w = .ok ((firstAt x M 0).map fun p => (p.1, ev p.2)) w := by
  unfold Instr.findKey
  simp only [Sem.run_bind, run_underlying hd, Result.andThen]
  cases es with
  | nil =>
    cases M with
    | nil => simp [Instr.findNow, firstAt]
    | cons p M => simp at h
  | cons e es =>
    cases M with
    | nil => simp at h
    | cons p M =>
      have h1 : e.key = ek p.1 := by simp at h; exact h.1.1
      simp only [Instr.findNow, h1, hno]
      exact find_asking heq ev w x (e :: es) (p :: M) 0 h

section
variable {P : Program} {k : TypeId} {κ β : Type} [DecidableEq κ] {ek : κ → Value} {ev : β → Value} {w : World} {b : Nat} {M : List (κ × β)}

/-- Block b of w is a map that holds just the pairs of M. -/
def MapIs (ek : κ → Value) (ev : β → Value) (w : World) (b : Nat) (M : List (κ × β)) : Prop :=
  ∃ es clock, w.heap[b]? = some (.map es clock) ∧ es.toList.map (fun e => (e.key, e.val)) = M.map (fun p => (ek p.1, ev p.2)) ∧ (es.toList.map (·.born)).Nodup ∧ (∀ e ∈ es.toList, e.born < clock) ∧ (M.map (·.1)).Nodup

theorem MapIs.nodup (h : MapIs ek ev w b M) : (M.map (·.1)).Nodup := by obtain ⟨_, _, _, _, _, _, h⟩ := h; exact h
theorem MapIs.lt (h : MapIs ek ev w b M) : b < w.heap.size := by
  obtain ⟨es, clock, hb, _⟩ := h
  exact (Array.getElem?_eq_some_iff.1 hb).1
theorem MapIs.same {w' : World} (h : MapIs ek ev w b M) (hb : w'.heap[b]? = w.heap[b]?) : MapIs ek ev w' b M := by
  obtain ⟨es, clock, h1, h2⟩ := h
  exact ⟨es, clock, hb.trans h1, h2⟩
theorem MapIs.made (ek : κ → Value) (ev : β → Value) (w : World) : MapIs ek ev (w.alloc (.map #[] 0)) w.heap.size ([] : List (κ × β)) :=
  ⟨#[], 0, (heap_alloc w _).1, by simp, by simp, by simp, by simp⟩

/-- 'm[x]'. -/
theorem MapIs.lookup (K : KeyRun P k ek) {t e : TypeId} (ht : P.underlying t = some (.map k e)) {z : β} (hz : (zeroValue e).run P w = .ok (ev z) w) (h : MapIs ek ev w b M) (x : κ) :
    (Instr.lookup t (.map (some b)) (ek x) false).run P w = .ok (ev ((mlook M x).getD z)) w := by
  obtain ⟨es, clock, hb, hM, _⟩ := h
  unfold Instr.lookup mlook
  cases hf : firstAt x M 0 with
  | none => simp [run_underlying ht, MapKept.run_getObj_map hb, K.check w _ x, K.find ev w x es.toList M hM, Result.andThen, hf, hz]
  | some q => simp [run_underlying ht, MapKept.run_getObj_map hb, K.check w _ x, K.find ev w x es.toList M hM, Result.andThen, hf]
/-- 'v, ok := m[x]'. -/
theorem MapIs.lookup_ok (K : KeyRun P k ek) {t e : TypeId} (ht : P.underlying t = some (.map k e)) {z : β} (hz : (zeroValue e).run P w = .ok (ev z) w) (h : MapIs ek ev w b M) (x : κ) :
    (Instr.lookup t (.map (some b)) (ek x) true).run P w = .ok (.tuple #[ev ((mlook M x).getD z), .bool (mlook M x).isSome]) w := by
  obtain ⟨es, clock, hb, hM, _⟩ := h
  unfold Instr.lookup mlook
  cases hf : firstAt x M 0 with
  | none => simp [run_underlying ht, MapKept.run_getObj_map hb, K.check w _ x, K.find ev w x es.toList M hM, Result.andThen, hf, hz]
  | some q => simp [run_underlying ht, MapKept.run_getObj_map hb, K.check w _ x, K.find ev w x es.toList M hM, Result.andThen, hf]

theorem setBlock_grown {es : Array MapEntry} {clock : Nat} (hb : w.heap[b]? = some (.map es clock)) (o : Obj) : w.grownBy (setBlock w b o) (some b) :=
  ⟨rfl, rfl, rfl, by simp [setBlock], fun i _ hi => heap_setBlock_other hb _ (fun e => hi (by rw [e]))⟩

theorem modify_key {es : Array MapEntry} {j : Nat} {e0 : MapEntry} (hj : es[j]? = some e0) : es.modify j (fun e => { e with key := e0.key }) = es := by
  apply Array.ext'
  have h2 : es.toList[j]? = some e0 := by simpa using hj
  rw [Array.toList_modify, modify_eq_set _ _ _ _ h2]
  exact set_self _ _ _ h2

theorem pair_at {es : List MapEntry} {M : List (κ × β)} (hM : es.map (fun e => (e.key, e.val)) = M.map (fun p => (ek p.1, ev p.2))) {i : Nat} {x : κ} {v : β} (h : M[i]? = some (x, v)) :
    ∃ e0, es[i]? = some e0 ∧ e0.key = ek x ∧ e0.val = ev v := by
  have h1 := congrArg (fun l => l[i]?) hM
  simp only [List.getElem?_map, h, Option.map_some] at h1
  cases he : es[i]? with
  | none => simp [he] at h1
  | some e0 => simp [he] at h1; exact ⟨e0, rfl, h1⟩

/-- 'm[x] = v'. -/
theorem MapIs.update (K : KeyRun P k ek) {t e : TypeId} (ht : P.underlying t = some (.map k e)) (h : MapIs ek ev w b M) (x : κ) (v : β) :
    ∃ w', (Instr.mapUpdate t (.map (some b)) (ek x) (ev v)).run P w = .ok () w' ∧ MapIs ek ev w' b (mput M x v) ∧ w.grownBy w' (some b) := by
  have hnd := h.nodup
  obtain ⟨es, clock, hb, hM, h3, h4, _⟩ := h
  unfold Instr.mapUpdate
  cases hf : firstAt x M 0 with
  | none =>
    refine ⟨setBlock w b (.map (es.push ⟨ek x, ev v, clock⟩) (clock + 1)), ?_, ⟨_, _, heap_setBlock_same hb _, ?_, ?_, ?_, mput_nodup hnd x v⟩, setBlock_grown hb _⟩
    · simp [run_underlying ht, MapKept.run_getObj_map hb, K.check w _ x, K.find ev w x es.toList M hM, Result.andThen, hf, MapKept.run_setObj_map _ hb, setBlock]
    · simp [mput, hf, hM]
    · simp only [Array.toList_push, List.map_append, List.map_cons, List.map_nil]
      refine List.nodup_append.2 ⟨h3, by simp, fun a ha c hc e1 => ?_⟩
      simp only [List.mem_singleton] at hc
      obtain ⟨y, hy, rfl⟩ := List.mem_map.1 ha
      have := h4 y hy
      omega
    · intro y hy
      simp at hy
      rcases hy with hy | rfl
      · have := h4 y (by simpa using hy); omega
      · simp
  | some q =>
    obtain ⟨i, u⟩ := q
    have hi := firstAt_some hf
    obtain ⟨e0, he0, hk, hv⟩ := pair_at hM hi
    have hj : es[i]? = some e0 := by simpa using he0
    refine ⟨setBlock w b (.map (es.modify i (fun e => { e with key := ek x, val := ev v })) clock), ?_, ⟨_, _, heap_setBlock_same hb _, ?_, ?_, ?_, mput_nodup hnd x v⟩, setBlock_grown hb _⟩
    · simp [run_underlying ht, MapKept.run_getObj_map hb, K.check w _ x, K.find ev w x es.toList M hM, Result.andThen, hf, hj, hk, Instr.keyThatStays, K.stays x, MapKept.run_setObj_map _ hb, setBlock]
    · rw [Array.toList_modify, modify_eq_set _ _ _ _ he0, List.map_set, hM]
      simp [mput, hf, List.map_set]
    · rw [Array.toList_modify, modify_eq_set _ _ _ _ he0, List.map_set]
      simp only
      rw [show (es.toList.map (·.born)).set i e0.born = es.toList.map (·.born) from set_self _ _ _ (by simp [hj])]
      exact h3
    · intro y hy
      rw [Array.toList_modify, modify_eq_set _ _ _ _ he0] at hy
      rcases List.mem_or_eq_of_mem_set hy with hy | rfl
      · exact h4 y hy
      · exact h4 e0 (List.mem_of_getElem? he0)

/-- 'm[x] op= v', first half: the entry is made where there is none; what a mlook-up gives does not change by it. Second half: the store by the entry's stamp. -/
theorem MapIs.entry (K : KeyRun P k ek) {t e : TypeId} (ht : P.underlying t = some (.map k e)) {z : β} (hz : ∀ u : World, (zeroValue e).run P u = .ok (ev z) u) (h : MapIs ek ev w b M) (x : κ) :
    ∃ (st : Nat) (w' : World) (M' : List (κ × β)), (Instr.mapEntry t (.map (some b)) (ek x)).run P w = .ok (.tuple #[ev ((mlook M x).getD z), .int .i64 st]) w' ∧ MapIs ek ev w' b M' ∧ (∀ y, (mlook M' y).getD z = (mlook M y).getD z) ∧ w.grownBy w' (some b) ∧
      ∀ (w2 : World) (v : β), w2.heap[b]? = w'.heap[b]? → ∃ w3, (Instr.entryStore t (.map (some b)) (.int .i64 st) (ev v)).run P w2 = .ok () w3 ∧ MapIs ek ev w3 b (mput M x v) ∧ w2.grownBy w3 (some b) := by
  have hnd := h.nodup
  obtain ⟨es, clock, hb, hM, h3, h4, _⟩ := h
  cases hf : firstAt x M 0 with
  | none =>
    have hM1 : (es.push ⟨ek x, ev z, clock⟩).toList.map (fun e => (e.key, e.val)) = (M ++ [(x, z)]).map (fun p => (ek p.1, ev p.2)) := by simp [hM]
    have hn1 : ((es.push ⟨ek x, ev z, clock⟩).toList.map (·.born)).Nodup := by
      simp only [Array.toList_push, List.map_append, List.map_cons, List.map_nil]
      refine List.nodup_append.2 ⟨h3, by simp, fun a ha c hc e1 => ?_⟩
      simp only [List.mem_singleton] at hc
      obtain ⟨y, hy, rfl⟩ := List.mem_map.1 ha
      have := h4 y hy
      omega
    have hb1 : ∀ e ∈ (es.push ⟨ek x, ev z, clock⟩).toList, e.born < clock + 1 := by
      intro y hy
      simp at hy
      rcases hy with hy | rfl
      · have := h4 y (by simpa using hy); omega
      · simp
    have hput : mput M x z = M ++ [(x, z)] := by simp [mput, hf]
    refine ⟨clock, setBlock w b (.map (es.push ⟨ek x, ev z, clock⟩) (clock + 1)), M ++ [(x, z)], ?_, ⟨_, _, heap_setBlock_same hb _, hM1, hn1, hb1, by rw [← hput]; exact mput_nodup hnd x z⟩, ?_, setBlock_grown hb _, ?_⟩
    · unfold Instr.mapEntry
      simp [run_underlying ht, MapKept.run_getObj_map hb, K.check w _ x, K.find ev w x es.toList M hM, Result.andThen, hf, hz, MapKept.run_setObj_map _ hb, setBlock, mlook, goInt]
    · intro y
      rw [← hput, mlook_put hnd]
      by_cases hy : y = x
      · subst hy; simp [mlook, hf]
      · rw [if_neg hy]
    · intro w2 v hw2
      have hw2' : w2.heap[b]? = some (.map (es.push ⟨ek x, ev z, clock⟩) (clock + 1)) := hw2.trans (heap_setBlock_same hb _)
      have hidx : (es.push ⟨ek x, ev z, clock⟩).findIdx? (fun e => ((e.born : Nat) : Int) == ((clock : Nat) : Int)) = some es.size := by
        rw [findIdx_arr]
        exact findIdx_born (l := (es.push ⟨ek x, ev z, clock⟩).toList) (j := es.size) (e0 := ⟨ek x, ev z, clock⟩) hn1 (by simp)
      have hmod : (es.push ⟨ek x, ev z, clock⟩).modify es.size (fun e => { e with val := ev v }) = es.push ⟨ek x, ev v, clock⟩ := by
        apply Array.ext'
        rw [Array.toList_modify, Array.toList_push, Array.toList_push, ← Array.length_toList, modify_last]
      refine ⟨setBlock w2 b (.map (es.push ⟨ek x, ev v, clock⟩) (clock + 1)), ?_, ⟨_, _, heap_setBlock_same hw2' _, ?_, ?_, ?_, mput_nodup hnd x v⟩, setBlock_grown hw2' _⟩
      · unfold Instr.entryStore
        simp [MapKept.run_getObj_map hw2', asInt, asIntOf, hidx, hmod, MapKept.run_setObj_map _ hw2', Result.andThen, setBlock]
      · simp [mput, hf, hM]
      · simpa using hn1
      · intro y hy
        simp at hy
        rcases hy with hy | rfl
        · have := h4 y (by simpa using hy); omega
        · simp
  | some q =>
    obtain ⟨i, u⟩ := q
    have hi := firstAt_some hf
    obtain ⟨e0, he0, hk, hv⟩ := pair_at hM hi
    have hj : es[i]? = some e0 := by simpa using he0
    have hsame : es.modify i (fun e => { e with key := ek x }) = es := by rw [← hk]; exact modify_key hj
    refine ⟨e0.born, setBlock w b (.map es clock), M, ?_, ⟨_, _, heap_setBlock_same hb _, hM, h3, h4, hnd⟩, fun _ => rfl, setBlock_grown hb _, ?_⟩
    · unfold Instr.mapEntry
      simp [run_underlying ht, MapKept.run_getObj_map hb, K.check w _ x, K.find ev w x es.toList M hM, Result.andThen, hf, hj, hk, hsame, Instr.keyThatStays, K.stays x, MapKept.run_setObj_map _ hb, setBlock, mlook, goInt]
    · intro w2 v hw2
      have hw2' : w2.heap[b]? = some (.map es clock) := hw2.trans (heap_setBlock_same hb _)
      have hidx : es.findIdx? (fun e => ((e.born : Nat) : Int) == ((e0.born : Nat) : Int)) = some i := by
        rw [findIdx_arr]
        exact findIdx_born h3 he0
      refine ⟨setBlock w2 b (.map (es.modify i (fun e => { e with val := ev v })) clock), ?_, ⟨_, _, heap_setBlock_same hw2' _, ?_, ?_, ?_, mput_nodup hnd x v⟩, setBlock_grown hw2' _⟩
      · unfold Instr.entryStore
        simp [MapKept.run_getObj_map hw2', asInt, asIntOf, hidx, MapKept.run_setObj_map _ hw2', Result.andThen, setBlock]
      · rw [Array.toList_modify, modify_eq_set _ _ _ _ he0, List.map_set, hM]
        simp [mput, hf, List.map_set, hk]
      · rw [Array.toList_modify, modify_eq_set _ _ _ _ he0, List.map_set]
        simp only
        rw [show (es.toList.map (·.born)).set i e0.born = es.toList.map (·.born) from set_self _ _ _ (by simp [hj])]
        exact h3
      · intro y hy
        rw [Array.toList_modify, modify_eq_set _ _ _ _ he0] at hy
        rcases List.mem_or_eq_of_mem_set hy with hy | rfl
        · exact h4 y hy
        · exact h4 e0 (List.mem_of_getElem? he0)

/-- 'm[x] = v' at the operation, for a walk. -/
theorem wp_mapUpdate {ops : Array Oper} {rest : List Oper} {o : Oper} {a : Act} {Q : Exit → Act → World → Prop} (hg : o.guard = none) (m x v : Operand) (t : TypeId) (hop : o.op = Op.mapUpdate t m x v)
    {e : TypeId} (K : KeyRun P k ek) (ht : P.underlying t = some (.map k e)) (b : Nat) (M : List (κ × β)) (hm : a.eval m = .map (some b)) (hown : MapIs ek ev w b M) (key : κ) (val : β) (hx : a.eval x = ek key) (hv : a.eval v = ev val)
    (hK : ∀ w', MapIs ek ev w' b (mput M key val) → w.grownBy w' (some b) → wpList P ops Q rest (a.put o.dst undef) w') : wpList P ops Q (o :: rest) a w := by
  refine wpList_plain hg fun K' hK' => ?_
  obtain ⟨w', hrun, r1, r2⟩ := hown.update K ht key val
  unfold Oper.wp
  simp [execOp, hop, hm, hx, hv, hrun, Result.andThen]
  exact hK' _ _ (hK w' r1 r2)
theorem MapIs.alloc (h : MapIs ek ev w b M) (o : Obj) : MapIs ek ev (w.alloc o) b M := h.same (Below.heap_alloc _ _ _ h.lt)
end
end Go.Proofs.Ytegomjkgbeijlaa.MapK
