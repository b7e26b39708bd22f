/- What survive.ranked leans on: the key type of its map, value.Valid, the table of rules, and the order that its closure gives. -/
import Derived.Test.YtegomjkgbeijlaaMap
import Derived.Test.YtegomjkgbeijlaaHandA
import Derived.Test.YtegomjkgbeijlaaSv1
import Derived.Laws.EntriesVeiled
namespace Go.Proofs.Ytegomjkgbeijlaa.Hand
set_option linter.unusedSectionVars false
set_option linter.unnecessarySimpa false
open Go.RowKit Go.Proofs.Ytegomjkgbeijlaa.Sv Go.Proofs.YtegomjkgbeijlaaW.PrintWords Go.Proofs.YtegomjkgbeijlaaW.PrintLast MapK
set_option linter.unusedVariables false
set_option linter.unusedSimpArgs false
/-- A value as a map's key. -/
def keyV (v : S32) : Value := .agg #[.int .i64 v.f0, .int .i64 v.f1, .string v.f2]
theorem S32.ext' {a b : S32} (h0 : a.f0 = b.f0) (h1 : a.f1 = b.f1) (h2 : a.f2 = b.f2) : a = b := by cases a; cases b; simp_all
instance decS32 : DecidableEq S32 := fun a b =>
  if h : a.f0 = b.f0 ∧ a.f1 = b.f1 ∧ a.f2 = b.f2 then isTrue (S32.ext' h.1 h.2.1 h.2.2) else isFalse (fun e => h (by subst e; exact ⟨rfl, rfl, rfl⟩))
theorem toList_inj {a b : ByteArray} (h : a.toList = b.toList) : a = b := by
  rw [ByteArray.toList_eq, ByteArray.toList_eq] at h
  cases a; cases b
  simp only [ByteArray.mk.injEq]
  exact Array.ext' h
theorem check32 (w : World) (em : Bool) (n : Nat) (a b : Int) (s : ByteArray) : (Instr.checkKey em (n + 2) 32 (.agg #[.int .i64 a, .int .i64 b, .string s])).run Try.prog w = .ok () w := by
  have h3 : ∀ (c : Int), (Instr.checkKey em (n + 1) 3 (.int .i64 c)).run Try.prog w = .ok () w := fun c => MapKept.run_checkKey Try.underlying3 (by simp [MapKept.IsKey]) em n
  have h9 : (Instr.checkKey em (n + 1) 9 (.string s)).run Try.prog w = .ok () w := MapKept.run_checkKey Try.underlying9 (by simp [MapKept.IsKey]) em n
  rw [Instr.checkKey]
  simp only [Sem.run_bind, run_underlying Try.underlying32, Result.andThen]
  have p0 : ∀ c : Int, (part 3 #[.int .i64 a, .int .i64 b, .string s] 0).run Try.prog w = .ok (.int .i64 a) w := fun _ => by go_simp
  have p1 : (part 3 #[.int .i64 a, .int .i64 b, .string s] 1).run Try.prog w = .ok (.int .i64 b) w := by go_simp
  have p2 : (part 9 #[.int .i64 a, .int .i64 b, .string s] 2).run Try.prog w = .ok (.string s) w := by go_simp
  simp [p0 0, p1, p2, h3, h9, Result.andThen]
theorem key32 : KeyRun Try.prog 32 keyV where
  check w em x := by
    exact check32 w em 9998 _ _ _
  find := find_of_asking Try.underlying32 (fun _ _ => rfl) (fun w x y => by
    have h := eqA32 9998 w x.f0 y.f0 x.f1 y.f1 x.f2 y.f2
    unfold Op.equal Op.maxDepth keyV
    simp only [h]
    congr 1
    rw [Bool.eq_iff_iff]
    simp only [Bool.and_eq_true, beq_iff_eq, decide_eq_true_eq]
    exact ⟨fun ⟨h0, h1, h2⟩ => S32.ext' h0 h1 (toList_inj h2), fun e => by subst e; exact ⟨rfl, rfl, rfl⟩⟩)
  stays x := by
    simp [Instr.sameBits, keyV]
    show ByteArray.beq _ _ = true; cases x.f2 with | mk d => exact beq_self_eq_true d
/-- A value is valid. -/
def validB (v : S32) : Bool :=
  if v.f0 = 1 then decide (v.f2.size ≤ 200) && decide (v.f1 = 0)
  else v.f2.toList.isEmpty && (if v.f0 = 0 then decide (v.f1 = 0) else if v.f0 = 2 then decide (-1000000000 ≤ v.f1) && decide (v.f1 ≤ 1000000000) else if v.f0 = 3 then decide (0 ≤ v.f1) && decide (v.f1 ≤ 73048) else if v.f0 = 4 then decide (0 ≤ v.f1) && decide (v.f1 ≤ 1) else false)
set_option maxHeartbeats 4000000 in
set_option maxRecDepth 100000 in
theorem valid_any (k n : Int) (s : ByteArray) (w : World) : Calls Try.prog 27 #[.agg #[.int .i64 k, .int .i64 n, .string s]] w fun e w' => e = .returned (.bool (validB ⟨k, n, s⟩)) ∧ Below w.heap.size w w' := by
  have hu32 := Try.underlying32
  by_cases k1 : k = 1
  · subst k1
    go_enter Try.func27, Try.ntmps27
    go_wp2
    all_goals
      go_ret
      refine ⟨?_, below_alloc (Below.refl _ _) _⟩
      congr 2
      simp [validB]
      try (rw [Bool.eq_iff_iff]; simp)
      try omega
  · have t2 : (k != 1) = true := by simpa using k1
    have t3 : (k == 1) = false := by simpa using k1
    by_cases t0 : s.toList = []
    · have t1 : s.toList.isEmpty = true := by simp [t0]
      by_cases k0 : k = 0
      · subst k0
        go_enter Try.func27, Try.ntmps27
        go_wp2
        all_goals
          go_ret
          refine ⟨?_, below_alloc (Below.refl _ _) _⟩
          congr 2
          simp [validB, t0]
          try omega
      by_cases k2 : k = 2
      · subst k2
        go_enter Try.func27, Try.ntmps27
        go_wp2
        all_goals
          go_ret
          refine ⟨?_, below_alloc (Below.refl _ _) _⟩
          congr 2
          simp [validB, t0]
          try omega
      by_cases k3 : k = 3
      · subst k3
        go_enter Try.func27, Try.ntmps27
        go_wp2
        all_goals
          go_ret
          refine ⟨?_, below_alloc (Below.refl _ _) _⟩
          congr 2
          simp [validB, t0]
          try omega
      by_cases k4 : k = 4
      · subst k4
        go_enter Try.func27, Try.ntmps27
        go_wp2
        all_goals
          go_ret
          refine ⟨?_, below_alloc (Below.refl _ _) _⟩
          congr 2
          simp [validB, t0]
          try omega
      go_enter Try.func27, Try.ntmps27
      go_wp2
      all_goals
        go_ret
        refine ⟨?_, below_alloc (Below.refl _ _) _⟩
        congr 2
        simp [validB, t0, k0, k1, k2, k3, k4]
        try omega
    · have t1 : s.toList.isEmpty = false := by simpa using t0
      go_enter Try.func27, Try.ntmps27
      go_wp2
      all_goals
        go_ret
        refine ⟨?_, below_alloc (Below.refl _ _) _⟩
        congr 2
        simp [validB, t0, k1]
        try omega

set_option maxHeartbeats 4000000 in
set_option maxRecDepth 100000 in
theorem rules_any (w : World) : Calls Try.prog 28 #[] w fun e w' => e = .returned (.agg #[.nilFunc, .func (.func 34) #[] #[], .func (.func 35) #[] #[], .func (.func 36) #[] #[], .func (.func 37) #[] #[], .func (.func 38) #[] #[], .func (.func 39) #[] #[]]) ∧ Below w.heap.size w w' := by
  have hu52 := Try.underlying52
  go_enter Try.func28, Try.ntmps28
  go_wp2
  exact bodyPost_ret (v := .agg #[.nilFunc, .func (.func 34) #[] #[], .func (.func 35) #[] #[], .func (.func 36) #[] #[], .func (.func 37) #[] #[], .func (.func 38) #[] #[], .func (.func 39) #[] #[]]) (by simp [results, Try.results28, go_sem, hu52]) rfl ⟨rfl, below_alloc (Below.refl _ _) _⟩
end Go.Proofs.Ytegomjkgbeijlaa.Hand
