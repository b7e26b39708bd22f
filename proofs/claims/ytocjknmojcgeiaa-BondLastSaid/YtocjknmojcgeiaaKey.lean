/- The key types of bond's maps: keys of records, and pairs of them; '==' decides equality. -/
import Derived.Test.YtocjknmojcgeiaaMap
import Derived.Test.YtocjknmojcgeiaaCp
import Derived.Test.YtocjknmojcgeiaaBd1
import Derived.Test.YtocjknmojcgeiaaBd2
import Derived.Laws.EntriesVeiled
import Derived.Maps.RangeWalk
namespace Go.Proofs.Ytocjknmojcgeiaa.Hand
set_option linter.unusedSectionVars false
set_option linter.unnecessarySimpa false
open Go.RowKit Go.Proofs.Ytocjknmojcgeiaa.Bd Go.Proofs.YtocjknmojcgeiaaW.PrintWords Go.Proofs.YtocjknmojcgeiaaW.PrintLast MapK
set_option linter.unusedVariables false
set_option linter.unusedSimpArgs false
def keyV (v : S37) : Value := .agg #[.int .i64 v.f0, .string v.f1, .string v.f2]
def keyP (v : S37 × S37) : Value := .agg #[.int .i64 v.1.f0, .string v.1.f1, .string v.1.f2, .int .i64 v.2.f0, .string v.2.f1, .string v.2.f2]
def valD (d : S39) : Value := .agg #[.int .i64 d.f0, .int .i64 d.f1.f0, .string d.f1.f1, .string d.f1.f2, .int .i64 d.f2.f0, .string d.f2.f1, .string d.f2.f2]
instance decS37 : DecidableEq S37 := fun a b =>
  if h : a.f0 = b.f0 ∧ a.f1 = b.f1 ∧ a.f2 = b.f2 then isTrue (S37.ext' h.1 h.2.1 h.2.2) else isFalse (fun e => h (by subst e; exact ⟨rfl, rfl, rfl⟩))
theorem check37 (w : World) (em : Bool) (n : Nat) (a : Int) (b c : ByteArray) : (Instr.checkKey em (n + 2) 37 (.agg #[.int .i64 a, .string b, .string c])).run Try.prog w = .ok () w := by
  have h3 : ∀ (c : Int), (Instr.checkKey em (n + 1) 3 (.int .i64 c)).run Try.prog w = .ok () w := fun c => MapKept.run_checkKey Try.underlying3 (by simp [MapKept.IsKey]) em n
  have h9 : ∀ s, (Instr.checkKey em (n + 1) 9 (.string s)).run Try.prog w = .ok () w := fun s => MapKept.run_checkKey Try.underlying9 (by simp [MapKept.IsKey]) em n
  rw [Instr.checkKey]
  simp only [Sem.run_bind, run_underlying Try.underlying37, Result.andThen]
  have p0 : (part 3 #[.int .i64 a, .string b, .string c] 0).run Try.prog w = .ok (.int .i64 a) w := by go_simp
  have p1 : (part 9 #[.int .i64 a, .string b, .string c] 1).run Try.prog w = .ok (.string b) w := by go_simp
  have p2 : (part 9 #[.int .i64 a, .string b, .string c] 2).run Try.prog w = .ok (.string c) w := by go_simp
  simp [p0, p1, p2, h3, h9, Result.andThen]
set_option maxRecDepth 1000000 in
theorem key37 : KeyRun Try.prog 37 keyV where
  check w em x := check37 w em 9998 _ _ _
  find := find_of_asking Try.underlying37 (fun _ _ => rfl) (fun w x y => by
    have h := eqA37 9998 w x.f0 y.f0 x.f1 y.f1 x.f2 y.f2
    unfold Op.equal Op.maxDepth keyV
    simp only [h]
    congr 1
    rw [Bool.eq_iff_iff]
    simp only [Bool.and_eq_true, beq_iff_eq, decide_eq_true_eq]
    exact ⟨fun ⟨h0, h1, h2⟩ => S37.ext' h0 (toList_inj h1) (toList_inj h2), fun e => by subst e; exact ⟨rfl, rfl, rfl⟩⟩)
  stays x := by
    have hb : ∀ s : ByteArray, (s == s) = true := fun s => by show ByteArray.beq _ _ = true; cases s with | mk d => exact beq_self_eq_true d
    simp [Instr.sameBits, keyV, hb]
theorem partA (w : World) (x : S37 × S37) : (part 37 #[.int .i64 x.1.f0, .string x.1.f1, .string x.1.f2, .int .i64 x.2.f0, .string x.2.f1, .string x.2.f2] 0).run Try.prog w = .ok (keyV x.1) w := by go_simp; rfl
theorem partB (w : World) (x : S37 × S37) : (part 37 #[.int .i64 x.1.f0, .string x.1.f1, .string x.1.f2, .int .i64 x.2.f0, .string x.2.f1, .string x.2.f2] 3).run Try.prog w = .ok (keyV x.2) w := by go_simp; rfl
set_option maxRecDepth 1000000 in
theorem eqA57 (d : Nat) (w : World) (x y : S37 × S37) : (Op.equalIn (d + 3) 57 (keyP x) (keyP y)).run Try.prog w = .ok (decide (x = y)) w := by
  have key : ∀ a b : S37, (Op.equalIn (d + 2) 37 (keyV a) (keyV b)).run Try.prog w = .ok (decide (a = b)) w := fun a b => by
    have h := eqA37 d w a.f0 b.f0 a.f1 b.f1 a.f2 b.f2
    unfold keyV
    rw [h]
    congr 1
    rw [Bool.eq_iff_iff]
    simp only [Bool.and_eq_true, beq_iff_eq, decide_eq_true_eq]
    exact ⟨fun ⟨h0, h1, h2⟩ => S37.ext' h0 (toList_inj h1) (toList_inj h2), fun e => by subst e; exact ⟨rfl, rfl, rfl⟩⟩
  have h := run_equalIn_array2 (P := Try.prog) w (d + 2) 57 37 3 _ _ Try.underlying57 (by kernel_rfl) (partA w x) (partA w y) (partB w x) (partB w y) (key _ _) (key _ _)
  unfold keyP
  rw [h]
  congr 1
  rw [Bool.eq_iff_iff]
  simp only [Bool.and_eq_true, decide_eq_true_eq]
  exact ⟨fun h => Prod.ext h.1 h.2, fun e => by subst e; exact ⟨rfl, rfl⟩⟩
set_option maxRecDepth 1000000 in
theorem key57 : KeyRun Try.prog 57 keyP where
  check w em x := by
    have hn : (sizeOf 37).run Try.prog w = .ok 3 w := by kernel_rfl
    show (Instr.checkKey em (9999 + 1) 57 (keyP x)).run Try.prog w = .ok () w
    unfold keyP
    rw [Instr.checkKey]
    simp only [Sem.run_bind, run_underlying Try.underlying57, Result.andThen]
    have pa := partA w x
    have pb := partB w x
    simp [show List.range' 0 2 = [0, 1] from rfl, List.forIn_cons, Sem.run_bind, hn, pa, pb, Result.andThen, keyV, check37 w em 9997]
  find := find_of_asking Try.underlying57 (fun _ _ => rfl) (fun w x y => eqA57 9997 w x y)
  stays x := by
    have hb : ∀ s : ByteArray, (s == s) = true := fun s => by show ByteArray.beq _ _ = true; cases s with | mk d => exact beq_self_eq_true d
    simp [Instr.sameBits, keyP, hb]
end Go.Proofs.Ytocjknmojcgeiaa.Hand

/- 'for k, v := range m' over a map that the call made, told as an association list: which pairs are still to come; whatever order the tape says. -/
namespace Go.Proofs.Ytocjknmojcgeiaa.MapK
set_option linter.unusedVariables false
set_option linter.unusedSimpArgs false
set_option linter.unusedSectionVars false
set_option linter.unnecessarySimpa false
open Go.MapKept Go.ChangeMaps Go.WideElems Go.RowKit
section
variable {P : Program} {k : TypeId} {κ β : Type} [DecidableEq κ] {ek : κ → Value} {ev : β → Value} {w : World} {b r : Nat} {M left : List (κ × β)}
/-- Block b is a map that holds the pairs of M; block r ranges over it: the pairs of 'left' are still to come. -/
def RangeIs (ek : κ → Value) (ev : β → Value) (w : World) (b r : Nat) (M left : List (κ × β)) : Prop :=
  ∃ es clock since seen c0, w.heap[b]? = some (.map es clock) ∧ es.toList.map (fun e => (e.key, e.val)) = M.map (fun p => (ek p.1, ev p.2)) ∧ (es.toList.map (·.born)).Nodup ∧ (∀ e ∈ es.toList, e.born < clock) ∧ (M.map (·.1)).Nodup ∧
    w.heap[r]? = some (.mapIter (some b) since seen c0) ∧ (∀ x ∈ es.toList, x.born < since) ∧ since ≤ c0 ∧ since ≤ clock ∧ (leftOf es seen).toList.map (fun e => (e.key, e.val)) = left.map (fun p => (ek p.1, ev p.2))
theorem RangeIs.map (h : RangeIs ek ev w b r M left) : MapIs ek ev w b M := by
  obtain ⟨es, clock, _, _, _, h1, h2, h3, h4, h5, _⟩ := h
  exact ⟨es, clock, h1, h2, h3, h4, h5⟩
theorem RangeIs.ne (h : RangeIs ek ev w b r M left) : r ≠ b := by
  obtain ⟨es, clock, since, seen, c0, hb, _, _, _, _, hr, _⟩ := h
  intro e
  rw [e, hb] at hr
  cases hr
theorem RangeIs.lt (h : RangeIs ek ev w b r M left) : r < w.heap.size := by
  obtain ⟨es, clock, since, seen, c0, _, _, _, _, _, hr, _⟩ := h
  exact (Array.getElem?_eq_some_iff.1 hr).1
theorem RangeIs.same {w' : World} (h : RangeIs ek ev w b r M left) (hb : w'.heap[b]? = w.heap[b]?) (hr : w'.heap[r]? = w.heap[r]?) : RangeIs ek ev w' b r M left := by
  obtain ⟨es, clock, since, seen, c0, h1, h2, h3, h4, h5, h6, h7⟩ := h
  exact ⟨es, clock, since, seen, c0, hb.trans h1, h2, h3, h4, h5, hr.trans h6, h7⟩
theorem RangeIs.kept {w' : World} {row : Option Nat} (h : RangeIs ek ev w b r M left) (hg : w.grownBy w' row) (hb : some b ≠ row) (hr : some r ≠ row) : RangeIs ek ev w' b r M left :=
  h.same (hg.block b h.map.lt hb) (hg.block r h.lt hr)
/-- 'range m'. -/
theorem MapIs.range {t e : TypeId} (h : MapIs ek ev w b M) (ht : P.underlying t = some (.map k e)) :
    ∃ w', (Instr.range t (.map (some b))).run P w = .ok (.pointer (some ⟨w.heap.size, 0, none⟩)) w' ∧ RangeIs ek ev w' b w.heap.size M M ∧ w.grownBy w' none ∧ w'.heap.size = w.heap.size + 1 := by
  have hlt := h.lt
  obtain ⟨es, clock, hb, h2, h3, h4, h5⟩ := h
  refine ⟨_, run_range_map w t k e b es clock ht hb, ⟨es, clock, clock, #[], clock, ((MapKept.heap_alloc w _).2 b hlt).trans hb, h2, h3, h4, h5, (MapKept.heap_alloc w _).1, h4, Nat.le_refl _, Nat.le_refl _, ?_⟩, World.grownBy_alloc w _ none, by simp⟩
  have : leftOf es #[] = es := by simp [leftOf]
  rw [this]
  exact h2
theorem left_push (es : Array MapEntry) (seen : Array Nat) (e : MapEntry) : (leftOf es (seen.push e.born)).toList = (leftOf es seen).toList.filter (fun x => !(x.born == e.born)) := by
  unfold leftOf
  rw [Array.toList_filter, Array.toList_filter, List.filter_filter]
  refine List.filter_congr (fun x _ => ?_)
  rw [contains_push]
  cases seen.contains x.born <;> cases (x.born == e.born) <;> rfl
theorem split_born {l : List MapEntry} (hn : (l.map (·.born)).Nodup) {pre post : List MapEntry} {e : MapEntry} (hl : l = pre ++ e :: post) : l.filter (fun x => !(x.born == e.born)) = pre ++ post := by
  subst hl
  rw [List.map_append, List.map_cons] at hn
  have h1 := (List.nodup_append.1 hn)
  obtain ⟨n1, n2, n3⟩ := h1
  rw [List.filter_append, List.filter_cons_of_neg (by simp)]
  congr 1
  · refine List.filter_eq_self.2 (fun x hx => ?_)
    have := n3 x.born (List.mem_map_of_mem hx) e.born (by simp)
    simpa using this
  · refine List.filter_eq_self.2 (fun x hx => ?_)
    have hne : x.born ≠ e.born := fun eq => (List.nodup_cons.1 n2).1 (eq ▸ List.mem_map_of_mem hx)
    simpa using hne
theorem map_split {α γ δ : Type} {f : α → γ} {g : δ → γ} {l : List α} {m : List δ} (h : l.map f = m.map g) {pre post : List α} {x : α} (hl : l = pre ++ x :: post) : ∃ pre' y post', m = pre' ++ y :: post' ∧ pre.map f = pre'.map g ∧ f x = g y ∧ post.map f = post'.map g := by
  subst hl
  rw [List.map_append, List.map_cons] at h
  have h' := h.symm
  obtain ⟨m1, m2, rfl, e1, e2⟩ := List.map_eq_append_iff.1 h'
  obtain ⟨y, m3, rfl, e3, e4⟩ := List.map_eq_cons_iff.1 e2
  exact ⟨m1, y, m3, rfl, e1.symm, e3.symm, e4.symm⟩
theorem leftOf_nodup {es : Array MapEntry} (seen : Array Nat) (h : (es.toList.map (·.born)).Nodup) : ((leftOf es seen).toList.map (·.born)).Nodup := by
  unfold leftOf
  rw [Array.toList_filter]
  exact h.sublist ((List.filter_sublist).map _)
/-- THE STEP. -/
theorem RangeIs.next (h : RangeIs ek ev w b r M left) (ty : TypeId) :
    (left = [] ∧ (Instr.next (.pointer (some ⟨r, 0, none⟩)) false ty).run P w = .ok (.tuple #[.bool false]) w) ∨
    ∃ pre p post w', left = pre ++ p :: post ∧ (Instr.next (.pointer (some ⟨r, 0, none⟩)) false ty).run P w = .ok (.tuple #[.bool true, ek p.1, ev p.2]) w' ∧ RangeIs ek ev w' b r M (pre ++ post) ∧ w.grownBy w' (some r) ∧ w'.heap.size = w.heap.size ∧
      ∀ w2 : World, w2.heap[b]? = w'.heap[b]? → w2.heap[r]? = w'.heap[r]? → (Instr.entry (.pointer (some ⟨r, 0, none⟩))).run P w2 = .ok (.tuple #[ek p.1, ev p.2]) w2 := by
  have hne := h.ne
  obtain ⟨es, clock, since, seen, c0, hb, hM, h3, h4, h5, hr, hold, hsc, hsk, hl⟩ := h
  rcases run_next_at (P := P) w ty r b since c0 seen es clock hr hb hold hsc with ⟨h0, hrun⟩ | ⟨e, he, w1, hal, hrun⟩
  · left
    refine ⟨?_, hrun⟩
    have hnil : (leftOf es seen).toList = [] := by
      have : leftOf es seen = #[] := Array.eq_empty_of_size_eq_zero h0
      rw [this]
    rw [hnil] at hl
    simpa using hl.symm
  · right
    obtain ⟨hem, _⟩ := mem_left he
    obtain ⟨pre, post, hpp⟩ := List.append_of_mem he
    obtain ⟨pre', p, post', hleft, e1, e2, e3⟩ := map_split hl hpp
    have hkv : (e.key, e.val) = (ek p.1, ev p.2) := e2
    injection hkv with hk hv
    have hr1 : w1.heap[r]? = some (.mapIter (some b) since seen c0) := by rcases hal with rfl | rfl <;> exact hr
    have hb1 : w1.heap[b]? = some (.map es clock) := by rcases hal with rfl | rfl <;> exact hb
    have hset := heap_set (o' := .mapIter (some b) since (seen.push e.born) clock) hr1
    have hb' : (setBlock w1 r (.mapIter (some b) since (seen.push e.born) clock)).heap[b]? = some (.map es clock) := (hset.2 b (fun e1 => hne e1.symm)).trans hb1
    refine ⟨pre', p, post', _, hleft, by rw [← hk, ← hv]; exact hrun, ⟨es, clock, since, seen.push e.born, clock, hb', hM, h3, h4, h5, hset.1, hold, hsk, hsk, ?_⟩, ?_, ?_, ?_⟩
    · rw [left_push, split_born (leftOf_nodup seen h3) hpp, List.map_append, List.map_append, e1, e3]
    · rcases hal with rfl | rfl <;> exact ⟨rfl, rfl, rfl, by simp [setBlock], fun i _ hi => hset.2 i (fun e1 => hi (by rw [e1]))⟩
    · rcases hal with rfl | rfl <;> simp [setBlock]
    · intro w2 h2b h2r
      rw [← hk, ← hv]
      exact run_entry_at w2 r b since seen es clock e (h2r.trans hset.1) (h2b.trans hb') hem h3
end
end Go.Proofs.Ytocjknmojcgeiaa.MapK
