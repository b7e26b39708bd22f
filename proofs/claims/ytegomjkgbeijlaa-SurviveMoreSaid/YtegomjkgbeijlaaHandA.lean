/- The closure that survive.ranked hands to slices.SortFunc: called with two candidates it returns the first of five comparisons that is not zero; it turns nothing that was there. -/
import Derived.Test.YtegomjkgbeijlaaSv0
import Derived.Test.YtegomjkgbeijlaaSv2
import Derived.Test.YtegomjkgbeijlaaAid
import Derived.Sort.Grow
namespace Go.Proofs.Ytegomjkgbeijlaa.Hand
set_option linter.unusedSectionVars false
set_option linter.unnecessarySimpa false
open Go.RowKit Go.Proofs.Ytegomjkgbeijlaa.Sv Go.Proofs.YtegomjkgbeijlaaW.PrintWords Go.Proofs.YtegomjkgbeijlaaW.PrintLast
open Go.Sort (grow grow_empty alloc_eq_grow)
set_option linter.unusedVariables false
set_option linter.unusedSimpArgs false

/-- Two whole numbers compared: -1, 0 or 1. -/
def cmpI (a b : Int) : Int := if a < b then -1 else if a > b then 1 else 0
/-- Two texts compared. -/
def cmpS (a b : ByteArray) : Int := if Op.bytesLess a.toList b.toList = true then -1 else if Op.bytesLess b.toList a.toList = true then 1 else 0
/-- Two values compared. -/
def cmpV (a b : S32) : Int := if cmpI a.f0 b.f0 = 0 then (if cmpI a.f1 b.f1 = 0 then cmpS a.f2 b.f2 else cmpI a.f1 b.f1) else cmpI a.f0 b.f0
/-- The first that is not zero. -/
def orL : List Int → Int
  | [] => 0
  | a :: l => if a = 0 then orL l else a

theorem cmpI_f (a b : Int) : cmp_Compare_int.f a b = some (cmpI a b) := by
  unfold cmp_Compare_int.f cmp_isNaN_int.f cmpI
  simp only [bne_self_eq_false, Option.bind_some, Bool.false_eq_true, if_false]
  split
  · rfl
  · split <;> rfl
theorem ordI_f (a b : Int) : value_order_int.f a b = some (cmpI a b) := by
  unfold value_order_int.f cmpI
  split
  · rfl
  · split <;> rfl
theorem ordS_f (a b : ByteArray) : value_order_string.f a b = some (cmpS a b) := by
  unfold value_order_string.f cmpS
  split
  · rfl
  · split <;> rfl
theorem cmpV_f (a b : S32) : value_Compare.f a.f0 a.f1 a.f2 b.f0 b.f1 b.f2 = some (cmpV a b) := by
  unfold value_Compare.f cmpV
  simp only [ordI_f, ordS_f, Option.bind_some]
  split
  · split <;> rfl
  · rfl
theorem orL_f (a b c d e : Int) : cmp_Or_int.f 7 [a, b, c, d, e] = some (orL [a, b, c, d, e]) := by
  have h0 : wrap64 1 = 1 := by unfold wrap64; omega
  have h1 : wrap64 2 = 2 := by unfold wrap64; omega
  have h2 : wrap64 3 = 3 := by unfold wrap64; omega
  have h3 : wrap64 4 = 4 := by unfold wrap64; omega
  have h4 : wrap64 5 = 5 := by unfold wrap64; omega
  unfold cmp_Or_int.f orL
  simp only [cmp_Or_int.l0, List.length_cons, List.length_nil]
  by_cases ha : a = 0
  · by_cases hb : b = 0
    · by_cases hc : c = 0
      · by_cases hd : d = 0
        · by_cases he : e = 0
          · simp [rd, orL, ha, hb, hc, hd, he, h0, h1, h2, h3, h4]
          · simp [rd, orL, ha, hb, hc, hd, he, h0, h1, h2, h3, h4]
        · simp [rd, orL, ha, hb, hc, hd, h0, h1, h2, h3, h4]
      · simp [rd, orL, ha, hb, hc, h0, h1, h2, h3, h4]
    · simp [rd, orL, ha, hb, h0, h1, h2, h3, h4]
  · simp [rd, orL, ha, h0, h1, h2, h3, h4]

/-- A candidate's cells. -/
def cells44 (x : S44) : List Value := [.int .i64 x.f0.f0.f0, .int .i64 x.f0.f0.f1, .string x.f0.f0.f2, .int .i64 x.f0.f1, .int .i64 x.f0.f2, .int .i64 x.f1, .int .i64 x.f2, .int .i64 x.f3]

structure Held (g B gx gy : Nat) (x y : S44) (w : World) : Prop where
  b : w.cell? ⟨B, 0, none⟩ = some (.func (.func g) #[] #[])
  x0 : w.cell? ⟨gx, 0, none⟩ = some (.int .i64 x.f0.f0.f0)
  x1 : w.cell? ⟨gx, 1, none⟩ = some (.int .i64 x.f0.f0.f1)
  x2 : w.cell? ⟨gx, 2, none⟩ = some (.string x.f0.f0.f2)
  x3 : w.cell? ⟨gx, 3, none⟩ = some (.int .i64 x.f0.f1)
  x4 : w.cell? ⟨gx, 4, none⟩ = some (.int .i64 x.f0.f2)
  x5 : w.cell? ⟨gx, 5, none⟩ = some (.int .i64 x.f1)
  x6 : w.cell? ⟨gx, 6, none⟩ = some (.int .i64 x.f2)
  x7 : w.cell? ⟨gx, 7, none⟩ = some (.int .i64 x.f3)
  y0 : w.cell? ⟨gy, 0, none⟩ = some (.int .i64 y.f0.f0.f0)
  y1 : w.cell? ⟨gy, 1, none⟩ = some (.int .i64 y.f0.f0.f1)
  y2 : w.cell? ⟨gy, 2, none⟩ = some (.string y.f0.f0.f2)
  y3 : w.cell? ⟨gy, 3, none⟩ = some (.int .i64 y.f0.f1)
  y4 : w.cell? ⟨gy, 4, none⟩ = some (.int .i64 y.f0.f2)
  y5 : w.cell? ⟨gy, 5, none⟩ = some (.int .i64 y.f1)
  y6 : w.cell? ⟨gy, 6, none⟩ = some (.int .i64 y.f2)
  y7 : w.cell? ⟨gy, 7, none⟩ = some (.int .i64 y.f3)

theorem cell_on {w w1 : World} {a : Addr} {v : Value} (hb : Below w.heap.size w w1) (h : w.cell? a = some v) : w1.cell? a = some v := (hb.cell (World.block_lt_of_cell? _ _ h)).trans h

theorem Held.below {g B gx gy : Nat} {x y : S44} {w w1 : World} (h : Held g B gx gy x y w) (hb : Below w.heap.size w w1) : Held g B gx gy x y w1 :=
  ⟨cell_on hb h.b, cell_on hb h.x0, cell_on hb h.x1, cell_on hb h.x2, cell_on hb h.x3, cell_on hb h.x4, cell_on hb h.x5, cell_on hb h.x6, cell_on hb h.x7, cell_on hb h.y0, cell_on hb h.y1, cell_on hb h.y2, cell_on hb h.y3, cell_on hb h.y4, cell_on hb h.y5, cell_on hb h.y6, cell_on hb h.y7⟩

theorem held0 {g B : Nat} {x y : S44} {W : World} (hB : W.cell? ⟨B, 0, none⟩ = some (.func (.func g) #[] #[])) :
    Held g B W.heap.size (W.heap.size + 1) x y ((W.alloc (.cells #[.int .i64 x.f0.f0.f0, .int .i64 x.f0.f0.f1, .string x.f0.f0.f2, .int .i64 x.f0.f1, .int .i64 x.f0.f2, .int .i64 x.f1, .int .i64 x.f2, .int .i64 x.f3] 44)).alloc (.cells #[.int .i64 y.f0.f0.f0, .int .i64 y.f0.f0.f1, .string y.f0.f0.f2, .int .i64 y.f0.f1, .int .i64 y.f0.f2, .int .i64 y.f1, .int .i64 y.f2, .int .i64 y.f3] 44)).drew := by
  have hlt : B < W.heap.size := World.block_lt_of_cell? W _ hB
  constructor
  · exact cell_on (below_drew (below_alloc (below_alloc (Below.refl _ _) _) _)) hB
  all_goals simp

/-- The callee is a function value that is held in a variable. -/
theorem goesV_ {P : Program} {Q : Exit → Act → World → Prop} {ops : Array Oper} {oi : Oper} {N : Option Tmp} {a : Act} {w : World} {K : Act → World → Prop} {cv : Operand} {ar : Array Operand} {ts : Array TypeId} (f : FuncId)
    (he : ∀ args w, (callFunc f args).run P w = .ok (.enter f args) w) (args : Array Value)
    (hw : Region.wanted oi (yielded ops a.tmps) = true) (hN : oi.dst = N) (hop : oi.op = .call { callee := .value cv, args := ar, argTypes := ts }) (hcv : a.eval cv = .func (.func f) #[] #[]) (hargs : ar.map a.eval = args)
    (h : Calls P f args w fun e w' => ∃ v, e = .returned v ∧ K (a.put N v) w') : if Region.wanted oi (yielded ops a.tmps) = true then Oper.wp P oi a w K Q else K (a.put N undef) w := by
  refine call_ f args hw hN ?_ h
  have he := he args w
  unfold execOp
  simp [hop, resolve, Deferred.ofValue, invoke, hcv, hargs, he]

theorem row5 (a b c d e : Int) (w : World) : Kd.C (Kd.int .i64) (w.alloc (.cells #[.int .i64 a, .int .i64 b, .int .i64 c, .int .i64 d, .int .i64 e] 3)) (some ⟨w.heap.size, 0, none⟩) [a, b, c, d, e].length [a, b, c, d, e] := by
  refine Kd.C_of_reads (enc := Value.int .i64) (d := (0 : Int)) (h1 := fun _ => rfl) ?_
  refine ⟨rfl, by simp, fun _ => ⟨_, rfl, fun j hj => ?_⟩⟩
  match j, hj with
  | 0, _ | 1, _ | 2, _ | 3, _ | 4, _ => simp [Addr.add]
  | n + 5, h => exact absurd h (by simp)

theorem or5 (a b c d e : Int) (w : World) : Calls Try.prog 31 #[.slice (some ⟨w.heap.size, 0, none⟩) 5 5] (w.alloc (.cells #[.int .i64 a, .int .i64 b, .int .i64 c, .int .i64 d, .int .i64 e] 3)) fun z w' =>
    z = .returned (.int .i64 (orL [a, b, c, d, e])) ∧ Drawn0 (w.alloc (.cells #[.int .i64 a, .int .i64 b, .int .i64 c, .int .i64 d, .int .i64 e] 3)) w' :=
  cmp_Or_int.calls 7 (some ⟨w.heap.size, 0, none⟩) 5 [a, b, c, d, e] (orL [a, b, c, d, e]) _ (row5 a b c d e w) (Nat.le_refl 5) (orL_f a b c d e)

/-- Some draws on, some new blocks behind; nothing else has turned. -/
def Grew (W w' : World) : Prop := ∃ (q : Nat) (os' : Array Obj), w' = grow (W.drewN q) os'
theorem Grew.refl (W : World) : Grew W W := ⟨0, #[], by rw [grow_empty]; rfl⟩
theorem Grew.trans {a b c : World} (h : Grew a b) (k : Grew b c) : Grew a c := by
  obtain ⟨q, o, rfl⟩ := h
  obtain ⟨q', o', rfl⟩ := k
  exact ⟨q + q', o ++ o', by simp [grow, World.drewN, Nat.add_assoc, Array.append_assoc]⟩
theorem Grew.alloc1 (W : World) (o : Obj) : Grew W (W.alloc o) := ⟨0, #[o], by rw [alloc_eq_grow]; rfl⟩
theorem Grew.alloc {a b : World} (h : Grew a b) (o : Obj) : Grew a (b.alloc o) := h.trans (Grew.alloc1 b o)
theorem Grew.drewN {a b : World} (h : Grew a b) (n : Nat) : Grew a (b.drewN n) := h.trans ⟨n, #[], by rw [grow_empty]⟩
theorem Grew.drew {a b : World} (h : Grew a b) : Grew a b.drew := h.drewN 1
theorem Grew.drawn {a b : World} (h : Drawn0 a b) : Grew a b := by obtain ⟨n, rfl⟩ := h; exact (Grew.refl a).drewN n
theorem Grew.below {a b : World} (h : Grew a b) : Below a.heap.size a b := by
  obtain ⟨q, o, rfl⟩ := h
  refine ⟨rfl, rfl, rfl, by simp [grow, World.drewN], fun k hk => ?_⟩
  show (a.heap ++ o)[k]? = a.heap[k]?
  rw [Array.getElem?_append_left hk]
set_option maxHeartbeats 4000000 in
set_option maxRecDepth 100000 in
theorem compare_any (a b : S32) (W : World) : Calls Try.prog 20 #[.agg #[.int .i64 a.f0, .int .i64 a.f1, .string a.f2], .agg #[.int .i64 b.f0, .int .i64 b.f1, .string b.f2]] W fun e w' => e = .returned (.int .i64 (cmpV a b)) ∧ Grew W w' := by
  have hu32 := Try.underlying32
  by_cases h0 : cmpI a.f0 b.f0 = 0
  · by_cases h1 : cmpI a.f1 b.f1 = 0
    · have HV := Aside0.mk (show cmpV a b = cmpS a.f2 b.f2 by simp [cmpV, h0, h1])
      have H0 := Aside0.mk (show value_order_int.f a.f0 b.f0 = some 0 by rw [ordI_f, h0])
      have H1 := Aside0.mk (show value_order_int.f a.f1 b.f1 = some 0 by rw [ordI_f, h1])
      clear h0 h1
      go_enter Try.func20, Try.ntmps20
      go_wp2_with fail
      refine (value_order_int.calls _ _ _ _ H0.out).mono ?_
      rintro e w' ⟨rfl, ⟨n1, rfl⟩⟩
      go_wp2_with fail
      refine (value_order_int.calls _ _ _ _ H1.out).mono ?_
      rintro e w' ⟨rfl, ⟨n2, rfl⟩⟩
      go_wp2_with fail
      refine (value_order_string.calls _ _ _ _ (ordS_f _ _)).mono ?_
      rintro e w' ⟨rfl, ⟨n3, rfl⟩⟩
      go_wp2_with fail
      go_ret
      rw [HV.out]
      exact ⟨rfl, by repeat (first | exact Grew.refl _ | apply Grew.drewN | apply Grew.drew | apply Grew.alloc)⟩
    · have HV := Aside0.mk (show cmpV a b = cmpI a.f1 b.f1 by simp [cmpV, h0, h1])
      have H0 := Aside0.mk (show value_order_int.f a.f0 b.f0 = some 0 by rw [ordI_f, h0])
      have H1 := Aside0.mk (show value_order_int.f a.f1 b.f1 = some (cmpI a.f1 b.f1) by rw [ordI_f])
      have h2 : (cmpI a.f1 b.f1 != 0) = true := by simpa using h1
      clear h0 h1
      generalize cmpI a.f1 b.f1 = q at *
      go_enter Try.func20, Try.ntmps20
      go_wp2_with fail
      refine (value_order_int.calls _ _ _ _ H0.out).mono ?_
      rintro e w' ⟨rfl, ⟨n1, rfl⟩⟩
      go_wp2_with fail
      refine (value_order_int.calls _ _ _ _ H1.out).mono ?_
      rintro e w' ⟨rfl, ⟨n2, rfl⟩⟩
      go_wp2_with fail
      go_ret
      rw [HV.out]
      exact ⟨rfl, by repeat (first | exact Grew.refl _ | apply Grew.drewN | apply Grew.drew | apply Grew.alloc)⟩
  · have HV := Aside0.mk (show cmpV a b = cmpI a.f0 b.f0 by simp [cmpV, h0])
    have H0 := Aside0.mk (show value_order_int.f a.f0 b.f0 = some (cmpI a.f0 b.f0) by rw [ordI_f])
    have h2 : (cmpI a.f0 b.f0 != 0) = true := by simpa using h0
    clear h0
    generalize cmpI a.f0 b.f0 = q at *
    go_enter Try.func20, Try.ntmps20
    go_wp2_with fail
    refine (value_order_int.calls _ _ _ _ H0.out).mono ?_
    rintro e w' ⟨rfl, ⟨n1, rfl⟩⟩
    go_wp2_with fail
    go_ret
    rw [HV.out]
    exact ⟨rfl, by repeat (first | exact Grew.refl _ | apply Grew.drewN | apply Grew.drew | apply Grew.alloc)⟩
/-- The comparison that a rule names. -/
def ruleC (by_ : Int) (x y : S44) : Int :=
  if by_ = 1 then cmpI y.f0.f2 x.f0.f2
  else if by_ = 2 then cmpI y.f3 x.f3
  else if by_ = 3 then cmpI y.f2 x.f2
  else if by_ = 4 then cmpI (y.f0.f0.f2.size : Int) (x.f0.f0.f2.size : Int)
  else if by_ = 5 then cmpV x.f0.f0 y.f0.f0
  else cmpV y.f0.f0 x.f0.f0
/-- The order of candidates by a rule. -/
def cf (by_ : Int) (x y : S44) : Int := orL [ruleC by_ x y, cmpI y.f2 x.f2, cmpI y.f0.f2 x.f0.f2, cmpV x.f0.f0 y.f0.f0, cmpI x.f1 y.f1]

set_option maxHeartbeats 4000000 in
set_option maxRecDepth 100000 in
theorem rule1_any (x y : S44) (W : World) : Calls Try.prog 34 #[.agg #[.int .i64 x.f0.f0.f0, .int .i64 x.f0.f0.f1, .string x.f0.f0.f2, .int .i64 x.f0.f1, .int .i64 x.f0.f2, .int .i64 x.f1, .int .i64 x.f2, .int .i64 x.f3], .agg #[.int .i64 y.f0.f0.f0, .int .i64 y.f0.f0.f1, .string y.f0.f0.f2, .int .i64 y.f0.f1, .int .i64 y.f0.f2, .int .i64 y.f1, .int .i64 y.f2, .int .i64 y.f3]] W fun e w' => e = .returned (.int .i64 (ruleC 1 x y)) ∧ Grew W w' := by
  have hu44 := Try.underlying44
  have hu34 := Try.underlying34
  have hu32 := Try.underlying32
  go_enter Try.func34, Try.ntmps34
  go_wp2_with (go_at_call 32; refine (cmp_Compare_int.calls _ _ _ _ (cmpI_f _ _)).mono ?_; rintro e w' ⟨rfl, ⟨n1, rfl⟩⟩)
  go_ret
  exact ⟨rfl, by repeat (first | exact Grew.refl _ | apply Grew.drewN | apply Grew.drew | apply Grew.alloc)⟩
set_option maxHeartbeats 4000000 in
set_option maxRecDepth 100000 in
theorem rule2_any (x y : S44) (W : World) : Calls Try.prog 35 #[.agg #[.int .i64 x.f0.f0.f0, .int .i64 x.f0.f0.f1, .string x.f0.f0.f2, .int .i64 x.f0.f1, .int .i64 x.f0.f2, .int .i64 x.f1, .int .i64 x.f2, .int .i64 x.f3], .agg #[.int .i64 y.f0.f0.f0, .int .i64 y.f0.f0.f1, .string y.f0.f0.f2, .int .i64 y.f0.f1, .int .i64 y.f0.f2, .int .i64 y.f1, .int .i64 y.f2, .int .i64 y.f3]] W fun e w' => e = .returned (.int .i64 (ruleC 2 x y)) ∧ Grew W w' := by
  have hu44 := Try.underlying44
  have hu34 := Try.underlying34
  have hu32 := Try.underlying32
  go_enter Try.func35, Try.ntmps35
  go_wp2_with (go_at_call 32; refine (cmp_Compare_int.calls _ _ _ _ (cmpI_f _ _)).mono ?_; rintro e w' ⟨rfl, ⟨n1, rfl⟩⟩)
  go_ret
  exact ⟨rfl, by repeat (first | exact Grew.refl _ | apply Grew.drewN | apply Grew.drew | apply Grew.alloc)⟩
set_option maxHeartbeats 4000000 in
set_option maxRecDepth 100000 in
theorem rule3_any (x y : S44) (W : World) : Calls Try.prog 36 #[.agg #[.int .i64 x.f0.f0.f0, .int .i64 x.f0.f0.f1, .string x.f0.f0.f2, .int .i64 x.f0.f1, .int .i64 x.f0.f2, .int .i64 x.f1, .int .i64 x.f2, .int .i64 x.f3], .agg #[.int .i64 y.f0.f0.f0, .int .i64 y.f0.f0.f1, .string y.f0.f0.f2, .int .i64 y.f0.f1, .int .i64 y.f0.f2, .int .i64 y.f1, .int .i64 y.f2, .int .i64 y.f3]] W fun e w' => e = .returned (.int .i64 (ruleC 3 x y)) ∧ Grew W w' := by
  have hu44 := Try.underlying44
  have hu34 := Try.underlying34
  have hu32 := Try.underlying32
  go_enter Try.func36, Try.ntmps36
  go_wp2_with (go_at_call 32; refine (cmp_Compare_int.calls _ _ _ _ (cmpI_f _ _)).mono ?_; rintro e w' ⟨rfl, ⟨n1, rfl⟩⟩)
  go_ret
  exact ⟨rfl, by repeat (first | exact Grew.refl _ | apply Grew.drewN | apply Grew.drew | apply Grew.alloc)⟩
set_option maxHeartbeats 4000000 in
set_option maxRecDepth 100000 in
theorem rule4_any (x y : S44) (W : World) : Calls Try.prog 37 #[.agg #[.int .i64 x.f0.f0.f0, .int .i64 x.f0.f0.f1, .string x.f0.f0.f2, .int .i64 x.f0.f1, .int .i64 x.f0.f2, .int .i64 x.f1, .int .i64 x.f2, .int .i64 x.f3], .agg #[.int .i64 y.f0.f0.f0, .int .i64 y.f0.f0.f1, .string y.f0.f0.f2, .int .i64 y.f0.f1, .int .i64 y.f0.f2, .int .i64 y.f1, .int .i64 y.f2, .int .i64 y.f3]] W fun e w' => e = .returned (.int .i64 (ruleC 4 x y)) ∧ Grew W w' := by
  have hu44 := Try.underlying44
  have hu34 := Try.underlying34
  have hu32 := Try.underlying32
  go_enter Try.func37, Try.ntmps37
  go_wp2_with (go_at_call 32; refine (cmp_Compare_int.calls _ _ _ _ (cmpI_f _ _)).mono ?_; rintro e w' ⟨rfl, ⟨n1, rfl⟩⟩)
  go_ret
  exact ⟨rfl, by repeat (first | exact Grew.refl _ | apply Grew.drewN | apply Grew.drew | apply Grew.alloc)⟩
set_option maxHeartbeats 4000000 in
set_option maxRecDepth 100000 in
theorem rule5_any (x y : S44) (W : World) : Calls Try.prog 38 #[.agg #[.int .i64 x.f0.f0.f0, .int .i64 x.f0.f0.f1, .string x.f0.f0.f2, .int .i64 x.f0.f1, .int .i64 x.f0.f2, .int .i64 x.f1, .int .i64 x.f2, .int .i64 x.f3], .agg #[.int .i64 y.f0.f0.f0, .int .i64 y.f0.f0.f1, .string y.f0.f0.f2, .int .i64 y.f0.f1, .int .i64 y.f0.f2, .int .i64 y.f1, .int .i64 y.f2, .int .i64 y.f3]] W fun e w' => e = .returned (.int .i64 (ruleC 5 x y)) ∧ Grew W w' := by
  have hu44 := Try.underlying44
  have hu34 := Try.underlying34
  have hu32 := Try.underlying32
  go_enter Try.func38, Try.ntmps38
  go_wp2_with (go_at_call 20; refine (compare_any x.f0.f0 y.f0.f0 _).mono ?_; rintro e w' ⟨rfl, hg⟩)
  go_ret
  exact ⟨rfl, (by repeat (first | exact Grew.refl _ | apply Grew.drewN | apply Grew.drew | apply Grew.alloc) : Grew W _).trans hg⟩
set_option maxHeartbeats 4000000 in
set_option maxRecDepth 100000 in
theorem rule6_any (x y : S44) (W : World) : Calls Try.prog 39 #[.agg #[.int .i64 x.f0.f0.f0, .int .i64 x.f0.f0.f1, .string x.f0.f0.f2, .int .i64 x.f0.f1, .int .i64 x.f0.f2, .int .i64 x.f1, .int .i64 x.f2, .int .i64 x.f3], .agg #[.int .i64 y.f0.f0.f0, .int .i64 y.f0.f0.f1, .string y.f0.f0.f2, .int .i64 y.f0.f1, .int .i64 y.f0.f2, .int .i64 y.f1, .int .i64 y.f2, .int .i64 y.f3]] W fun e w' => e = .returned (.int .i64 (ruleC 6 x y)) ∧ Grew W w' := by
  have hu44 := Try.underlying44
  have hu34 := Try.underlying34
  have hu32 := Try.underlying32
  go_enter Try.func39, Try.ntmps39
  go_wp2_with (go_at_call 20; refine (compare_any y.f0.f0 x.f0.f0 _).mono ?_; rintro e w' ⟨rfl, hg⟩)
  go_ret
  exact ⟨rfl, (by repeat (first | exact Grew.refl _ | apply Grew.drewN | apply Grew.drew | apply Grew.alloc) : Grew W _).trans hg⟩
set_option maxHeartbeats 4000000 in
set_option maxRecDepth 100000 in
theorem closure30 (g : Nat) (eg : ∀ args w, (callFunc g args).run Try.prog w = .ok (.enter g args) w) (cr : S44 → S44 → Int)
    (hg : ∀ (x y : S44) (W : World), Calls Try.prog g #[.agg #[.int .i64 x.f0.f0.f0, .int .i64 x.f0.f0.f1, .string x.f0.f0.f2, .int .i64 x.f0.f1, .int .i64 x.f0.f2, .int .i64 x.f1, .int .i64 x.f2, .int .i64 x.f3], .agg #[.int .i64 y.f0.f0.f0, .int .i64 y.f0.f0.f1, .string y.f0.f0.f2, .int .i64 y.f0.f1, .int .i64 y.f0.f2, .int .i64 y.f1, .int .i64 y.f2, .int .i64 y.f3]] W fun e w' => e = .returned (.int .i64 (cr x y)) ∧ Grew W w')
    (x y : S44) (B : Nat) (W : World) (hB : W.cell? ⟨B, 0, none⟩ = some (.func (.func g) #[] #[])) :
    Calls Try.prog 30 #[.agg #[.int .i64 x.f0.f0.f0, .int .i64 x.f0.f0.f1, .string x.f0.f0.f2, .int .i64 x.f0.f1, .int .i64 x.f0.f2, .int .i64 x.f1, .int .i64 x.f2, .int .i64 x.f3], .agg #[.int .i64 y.f0.f0.f0, .int .i64 y.f0.f0.f1, .string y.f0.f0.f2, .int .i64 y.f0.f1, .int .i64 y.f0.f2, .int .i64 y.f1, .int .i64 y.f2, .int .i64 y.f3], .pointer (some ⟨B, 0, none⟩)] W fun e w' => e = .returned (.int .i64 (orL [cr x y, cmpI y.f2 x.f2, cmpI y.f0.f2 x.f0.f2, cmpV x.f0.f0 y.f0.f0, cmpI x.f1 y.f1])) ∧ Grew W w' := by
  have hu44 := Try.underlying44
  have hu51 := Try.underlying51
  have hu32 := Try.underlying32
  go_enter Try.func30, Try.ntmps30
  go_wp2
  have HB := Grew.drew (Grew.alloc (Grew.alloc1 W (.cells #[.int .i64 x.f0.f0.f0, .int .i64 x.f0.f0.f1, .string x.f0.f0.f2, .int .i64 x.f0.f1, .int .i64 x.f0.f2, .int .i64 x.f1, .int .i64 x.f2, .int .i64 x.f3] 44)) (.cells #[.int .i64 y.f0.f0.f0, .int .i64 y.f0.f0.f1, .string y.f0.f0.f2, .int .i64 y.f0.f1, .int .i64 y.f0.f2, .int .i64 y.f1, .int .i64 y.f2, .int .i64 y.f3] 44))
  refine start_ (n := 31) (S := fun w' => Held g B W.heap.size (W.heap.size + 1) x y w') (ds := []) #[false, false, false, false, false, false, false, false, false, false, false, false, false, false, false, false, false, false, false, false, false, false, false, false, false, false, false, false, false, false, false] (by kernel_rfl) rfl rfl ((held0 hB)) (fun hHeld => ?_)
  refine pure_ (i := 4) (N := some 10) (v := ?_) (a' := ?_) #[false, false, false, false, true, false, false, false, false, false, false, false, false, false, false, false, false, false, false, false, false, false, false, false, false, false, false, false, false, false, false] rfl rfl (by kernel_rfl) (fun _ _ _ h => h) (Or.inl ⟨by rfl, ?_⟩) ?_ ?_
  rotate_left
  · intro w'
    go_simp
    with_reducible rfl
  rotate_left
  · simp only [Act.put, List.setIfInBounds_toArray, List.set_cons_zero, List.set_cons_succ, i64_w, i32_w]
    rfl
  refine pure_ (i := 6) (N := some 12) (v := ?_) (a' := ?_) #[false, false, false, false, true, false, true, false, false, false, false, false, false, false, false, false, false, false, false, false, false, false, false, false, false, false, false, false, false, false, false] rfl rfl (by kernel_rfl) (fun _ _ _ h => h) (Or.inl ⟨by rfl, ?_⟩) ?_ ?_
  rotate_left
  · intro w'
    go_simp
    with_reducible rfl
  rotate_left
  · simp only [Act.put, List.setIfInBounds_toArray, List.set_cons_zero, List.set_cons_succ, i64_w, i32_w]
    rfl
  refine pure_ (i := 9) (N := some 15) (v := ?_) (a' := ?_) #[false, false, false, false, true, false, true, false, false, true, false, false, false, false, false, false, false, false, false, false, false, false, false, false, false, false, false, false, false, false, false] rfl rfl (by kernel_rfl) (fun _ _ _ h => h) (Or.inl ⟨by rfl, ?_⟩) ?_ ?_
  rotate_left
  · intro w'
    go_simp
    with_reducible rfl
  rotate_left
  · simp only [Act.put, List.setIfInBounds_toArray, List.set_cons_zero, List.set_cons_succ, i64_w, i32_w]
    rfl
  refine pure_ (i := 10) (N := some 16) (v := ?_) (a' := ?_) #[false, false, false, false, true, false, true, false, false, true, true, false, false, false, false, false, false, false, false, false, false, false, false, false, false, false, false, false, false, false, false] rfl rfl (by kernel_rfl) (fun _ _ _ h => h) (Or.inl ⟨by rfl, ?_⟩) ?_ ?_
  rotate_left
  · intro w'
    go_simp
    with_reducible rfl
  rotate_left
  · simp only [Act.put, List.setIfInBounds_toArray, List.set_cons_zero, List.set_cons_succ, i64_w, i32_w]
    rfl
  refine pure_ (i := 12) (N := some 18) (v := ?_) (a' := ?_) #[false, false, false, false, true, false, true, false, false, true, true, false, true, false, false, false, false, false, false, false, false, false, false, false, false, false, false, false, false, false, false] rfl rfl (by kernel_rfl) (fun _ _ _ h => h) (Or.inl ⟨by rfl, ?_⟩) ?_ ?_
  rotate_left
  · intro w'
    go_simp
    with_reducible rfl
  rotate_left
  · simp only [Act.put, List.setIfInBounds_toArray, List.set_cons_zero, List.set_cons_succ, i64_w, i32_w]
    rfl
  refine pure_ (i := 13) (N := some 19) (v := ?_) (a' := ?_) #[false, false, false, false, true, false, true, false, false, true, true, false, true, true, false, false, false, false, false, false, false, false, false, false, false, false, false, false, false, false, false] rfl rfl (by kernel_rfl) (fun _ _ _ h => h) (Or.inl ⟨by rfl, ?_⟩) ?_ ?_
  rotate_left
  · intro w'
    go_simp
    with_reducible rfl
  rotate_left
  · simp only [Act.put, List.setIfInBounds_toArray, List.set_cons_zero, List.set_cons_succ, i64_w, i32_w]
    rfl
  refine pure_ (i := 16) (N := some 22) (v := ?_) (a' := ?_) #[false, false, false, false, true, false, true, false, false, true, true, false, true, true, false, false, true, false, false, false, false, false, false, false, false, false, false, false, false, false, false] rfl rfl (by kernel_rfl) (fun _ _ _ h => h) (Or.inl ⟨by rfl, ?_⟩) ?_ ?_
  rotate_left
  · intro w'
    go_simp
    with_reducible rfl
  rotate_left
  · simp only [Act.put, List.setIfInBounds_toArray, List.set_cons_zero, List.set_cons_succ, i64_w, i32_w]
    rfl
  refine pure_ (i := 17) (N := some 23) (v := ?_) (a' := ?_) #[false, false, false, false, true, false, true, false, false, true, true, false, true, true, false, false, true, true, false, false, false, false, false, false, false, false, false, false, false, false, false] rfl rfl (by kernel_rfl) (fun _ _ _ h => h) (Or.inl ⟨by rfl, ?_⟩) ?_ ?_
  rotate_left
  · intro w'
    go_simp
    with_reducible rfl
  rotate_left
  · simp only [Act.put, List.setIfInBounds_toArray, List.set_cons_zero, List.set_cons_succ, i64_w, i32_w]
    rfl
  refine pure_ (i := 19) (N := some 25) (v := ?_) (a' := ?_) #[false, false, false, false, true, false, true, false, false, true, true, false, true, true, false, false, true, true, false, true, false, false, false, false, false, false, false, false, false, false, false] rfl rfl (by kernel_rfl) (fun _ _ _ h => h) (Or.inl ⟨by rfl, ?_⟩) ?_ ?_
  rotate_left
  · intro w'
    go_simp
    with_reducible rfl
  rotate_left
  · simp only [Act.put, List.setIfInBounds_toArray, List.set_cons_zero, List.set_cons_succ, i64_w, i32_w]
    rfl
  refine pure_ (i := 20) (N := some 26) (v := ?_) (a' := ?_) #[false, false, false, false, true, false, true, false, false, true, true, false, true, true, false, false, true, true, false, true, true, false, false, false, false, false, false, false, false, false, false] rfl rfl (by kernel_rfl) (fun _ _ _ h => h) (Or.inl ⟨by rfl, ?_⟩) ?_ ?_
  rotate_left
  · intro w'
    go_simp
    with_reducible rfl
  rotate_left
  · simp only [Act.put, List.setIfInBounds_toArray, List.set_cons_zero, List.set_cons_succ, i64_w, i32_w]
    rfl
  refine pure_ (i := 23) (N := some 29) (v := ?_) (a' := ?_) #[false, false, false, false, true, false, true, false, false, true, true, false, true, true, false, false, true, true, false, true, true, false, false, true, false, false, false, false, false, false, false] rfl rfl (by kernel_rfl) (fun _ _ _ h => h) (Or.inl ⟨by rfl, ?_⟩) ?_ ?_
  rotate_left
  · intro w'
    go_simp
    with_reducible rfl
  rotate_left
  · simp only [Act.put, List.setIfInBounds_toArray, List.set_cons_zero, List.set_cons_succ, i64_w, i32_w]
    rfl
  refine pure_ (i := 25) (N := some 31) (v := ?_) (a' := ?_) #[false, false, false, false, true, false, true, false, false, true, true, false, true, true, false, false, true, true, false, true, true, false, false, true, false, true, false, false, false, false, false] rfl rfl (by kernel_rfl) (fun _ _ _ h => h) (Or.inl ⟨by rfl, ?_⟩) ?_ ?_
  rotate_left
  · intro w'
    go_simp
    with_reducible rfl
  rotate_left
  · simp only [Act.put, List.setIfInBounds_toArray, List.set_cons_zero, List.set_cons_succ, i64_w, i32_w]
    rfl
  refine take_ (i := 0) (N := some 6) (v := ?_) (a' := ?_) #[true, false, false, false, true, false, true, false, false, true, true, false, true, true, false, false, true, true, false, true, true, false, false, true, false, true, false, false, false, false, false] rfl rfl (by kernel_rfl) (fun _ _ _ h => h) (Or.inl ⟨by rfl, ?_⟩) hHeld ?_ ?_
  rotate_left
  · rintro w' ⟨s0, s1, s2, s3, s4, s5, s6, s7, s8, s9, s10, s11, s12, s13, s14, s15, s16⟩
    go_simp
    with_reducible rfl
  rotate_left
  · simp only [Act.put, List.setIfInBounds_toArray, List.set_cons_zero, List.set_cons_succ, i64_w, i32_w]
    rfl
  refine take_ (i := 1) (N := some 7) (v := ?_) (a' := ?_) #[true, true, false, false, true, false, true, false, false, true, true, false, true, true, false, false, true, true, false, true, true, false, false, true, false, true, false, false, false, false, false] rfl rfl (by kernel_rfl) (fun _ _ _ h => h) (Or.inl ⟨by rfl, ?_⟩) hHeld ?_ ?_
  rotate_left
  · rintro w' ⟨s0, s1, s2, s3, s4, s5, s6, s7, s8, s9, s10, s11, s12, s13, s14, s15, s16⟩
    go_simp
    with_reducible rfl
  rotate_left
  · simp only [Act.put, List.setIfInBounds_toArray, List.set_cons_zero, List.set_cons_succ, i64_w, i32_w]
    rfl
  refine take_ (i := 2) (N := some 8) (v := ?_) (a' := ?_) #[true, true, true, false, true, false, true, false, false, true, true, false, true, true, false, false, true, true, false, true, true, false, false, true, false, true, false, false, false, false, false] rfl rfl (by kernel_rfl) (fun _ _ _ h => h) (Or.inl ⟨by rfl, ?_⟩) hHeld ?_ ?_
  rotate_left
  · rintro w' ⟨s0, s1, s2, s3, s4, s5, s6, s7, s8, s9, s10, s11, s12, s13, s14, s15, s16⟩
    go_simp
    with_reducible rfl
  rotate_left
  · simp only [Act.put, List.setIfInBounds_toArray, List.set_cons_zero, List.set_cons_succ, i64_w, i32_w]
    rfl
  refine take_ (i := 5) (N := some 11) (v := ?_) (a' := ?_) #[true, true, true, false, true, true, true, false, false, true, true, false, true, true, false, false, true, true, false, true, true, false, false, true, false, true, false, false, false, false, false] rfl rfl (by kernel_rfl) (fun _ _ _ h => h) (Or.inl ⟨by rfl, ?_⟩) hHeld ?_ ?_
  rotate_left
  · rintro w' ⟨s0, s1, s2, s3, s4, s5, s6, s7, s8, s9, s10, s11, s12, s13, s14, s15, s16⟩
    go_simp
    with_reducible rfl
  rotate_left
  · simp only [Act.put, List.setIfInBounds_toArray, List.set_cons_zero, List.set_cons_succ, i64_w, i32_w]
    rfl
  refine take_ (i := 7) (N := some 13) (v := ?_) (a' := ?_) #[true, true, true, false, true, true, true, true, false, true, true, false, true, true, false, false, true, true, false, true, true, false, false, true, false, true, false, false, false, false, false] rfl rfl (by kernel_rfl) (fun _ _ _ h => h) (Or.inl ⟨by rfl, ?_⟩) hHeld ?_ ?_
  rotate_left
  · rintro w' ⟨s0, s1, s2, s3, s4, s5, s6, s7, s8, s9, s10, s11, s12, s13, s14, s15, s16⟩
    go_simp
    with_reducible rfl
  rotate_left
  · simp only [Act.put, List.setIfInBounds_toArray, List.set_cons_zero, List.set_cons_succ, i64_w, i32_w]
    rfl
  refine take_ (i := 11) (N := some 17) (v := ?_) (a' := ?_) #[true, true, true, false, true, true, true, true, false, true, true, true, true, true, false, false, true, true, false, true, true, false, false, true, false, true, false, false, false, false, false] rfl rfl (by kernel_rfl) (fun _ _ _ h => h) (Or.inl ⟨by rfl, ?_⟩) hHeld ?_ ?_
  rotate_left
  · rintro w' ⟨s0, s1, s2, s3, s4, s5, s6, s7, s8, s9, s10, s11, s12, s13, s14, s15, s16⟩
    go_simp
    with_reducible rfl
  rotate_left
  · simp only [Act.put, List.setIfInBounds_toArray, List.set_cons_zero, List.set_cons_succ, i64_w, i32_w]
    rfl
  refine take_ (i := 14) (N := some 20) (v := ?_) (a' := ?_) #[true, true, true, false, true, true, true, true, false, true, true, true, true, true, true, false, true, true, false, true, true, false, false, true, false, true, false, false, false, false, false] rfl rfl (by kernel_rfl) (fun _ _ _ h => h) (Or.inl ⟨by rfl, ?_⟩) hHeld ?_ ?_
  rotate_left
  · rintro w' ⟨s0, s1, s2, s3, s4, s5, s6, s7, s8, s9, s10, s11, s12, s13, s14, s15, s16⟩
    go_simp
    with_reducible rfl
  rotate_left
  · simp only [Act.put, List.setIfInBounds_toArray, List.set_cons_zero, List.set_cons_succ, i64_w, i32_w]
    rfl
  refine take_ (i := 18) (N := some 24) (v := ?_) (a' := ?_) #[true, true, true, false, true, true, true, true, false, true, true, true, true, true, true, false, true, true, true, true, true, false, false, true, false, true, false, false, false, false, false] rfl rfl (by kernel_rfl) (fun _ _ _ h => h) (Or.inl ⟨by rfl, ?_⟩) hHeld ?_ ?_
  rotate_left
  · rintro w' ⟨s0, s1, s2, s3, s4, s5, s6, s7, s8, s9, s10, s11, s12, s13, s14, s15, s16⟩
    go_simp
    with_reducible rfl
  rotate_left
  · simp only [Act.put, List.setIfInBounds_toArray, List.set_cons_zero, List.set_cons_succ, i64_w, i32_w]
    rfl
  refine take_ (i := 21) (N := some 27) (v := ?_) (a' := ?_) #[true, true, true, false, true, true, true, true, false, true, true, true, true, true, true, false, true, true, true, true, true, true, false, true, false, true, false, false, false, false, false] rfl rfl (by kernel_rfl) (fun _ _ _ h => h) (Or.inl ⟨by rfl, ?_⟩) hHeld ?_ ?_
  rotate_left
  · rintro w' ⟨s0, s1, s2, s3, s4, s5, s6, s7, s8, s9, s10, s11, s12, s13, s14, s15, s16⟩
    go_simp
    with_reducible rfl
  rotate_left
  · simp only [Act.put, List.setIfInBounds_toArray, List.set_cons_zero, List.set_cons_succ, i64_w, i32_w]
    rfl
  refine take_ (i := 24) (N := some 30) (v := ?_) (a' := ?_) #[true, true, true, false, true, true, true, true, false, true, true, true, true, true, true, false, true, true, true, true, true, true, false, true, true, true, false, false, false, false, false] rfl rfl (by kernel_rfl) (fun _ _ _ h => h) (Or.inl ⟨by rfl, ?_⟩) hHeld ?_ ?_
  rotate_left
  · rintro w' ⟨s0, s1, s2, s3, s4, s5, s6, s7, s8, s9, s10, s11, s12, s13, s14, s15, s16⟩
    go_simp
    with_reducible rfl
  rotate_left
  · simp only [Act.put, List.setIfInBounds_toArray, List.set_cons_zero, List.set_cons_succ, i64_w, i32_w]
    rfl
  refine take_ (i := 26) (N := some 32) (v := ?_) (a' := ?_) #[true, true, true, false, true, true, true, true, false, true, true, true, true, true, true, false, true, true, true, true, true, true, false, true, true, true, true, false, false, false, false] rfl rfl (by kernel_rfl) (fun _ _ _ h => h) (Or.inl ⟨by rfl, ?_⟩) hHeld ?_ ?_
  rotate_left
  · rintro w' ⟨s0, s1, s2, s3, s4, s5, s6, s7, s8, s9, s10, s11, s12, s13, s14, s15, s16⟩
    go_simp
    with_reducible rfl
  rotate_left
  · simp only [Act.put, List.setIfInBounds_toArray, List.set_cons_zero, List.set_cons_succ, i64_w, i32_w]
    rfl
  refine one_ (i := 3) (N := some 9) #[true, true, true, true, true, true, true, true, false, true, true, true, true, true, true, false, true, true, true, true, true, true, false, true, true, true, true, false, false, false, false] rfl rfl (by kernel_rfl) (by decide) (fun K hK => ?_)
  refine goesV_ g eg #[.agg #[.int .i64 x.f0.f0.f0, .int .i64 x.f0.f0.f1, .string x.f0.f0.f2, .int .i64 x.f0.f1, .int .i64 x.f0.f2, .int .i64 x.f1, .int .i64 x.f2, .int .i64 x.f3], .agg #[.int .i64 y.f0.f0.f0, .int .i64 y.f0.f0.f1, .string y.f0.f0.f2, .int .i64 y.f0.f1, .int .i64 y.f0.f2, .int .i64 y.f1, .int .i64 y.f2, .int .i64 y.f3]] (by rfl) rfl rfl rfl (by simp only [List.map_toArray, List.map_cons, List.map_nil]; rfl) ?_
  refine (hg x y _).mono ?_
  rintro e w3 ⟨rfl, hb⟩
  refine ⟨_, rfl, ?_⟩
  have HB1 := HB.trans hb
  clear HB
  have HB := HB1
  clear HB1
  refine hK.out _ _ ((hHeld.below hb.below)) (fun hHeld => ?_)
  clear hK K
  refine norm_ (a' := ?_) ?_ ?_
  rotate_left
  · show Act.put _ (some 9) _ = _
    simp only [Act.put, List.setIfInBounds_toArray, List.set_cons_zero, List.set_cons_succ, i64_w, i32_w]
    rfl
  refine one_ (i := 8) (N := some 14) #[true, true, true, true, true, true, true, true, true, true, true, true, true, true, true, false, true, true, true, true, true, true, false, true, true, true, true, false, false, false, false] rfl rfl (by kernel_rfl) (by decide) (fun K hK => ?_)
  refine goes_ Try.func32 (by kernel_rfl) rfl #[.int .i64 y.f2, .int .i64 x.f2] (by rfl) rfl rfl (by simp only [List.map_toArray, List.map_cons, List.map_nil]; rfl) ?_
  with_reducible refine (cmp_Compare_int.calls y.f2 x.f2 (cmpI y.f2 x.f2) _ (cmpI_f y.f2 x.f2)).mono ?_
  rintro e w3 ⟨rfl, hd⟩
  refine ⟨_, rfl, ?_⟩
  have hb := Grew.drawn hd
  have HB1 := HB.trans hb
  clear HB
  have HB := HB1
  clear HB1
  refine hK.out _ _ ((hHeld.below hb.below)) (fun hHeld => ?_)
  clear hK K
  refine norm_ (a' := ?_) ?_ ?_
  rotate_left
  · show Act.put _ (some 14) _ = _
    simp only [Act.put, List.setIfInBounds_toArray, List.set_cons_zero, List.set_cons_succ, i64_w, i32_w]
    rfl
  refine one_ (i := 15) (N := some 21) #[true, true, true, true, true, true, true, true, true, true, true, true, true, true, true, true, true, true, true, true, true, true, false, true, true, true, true, false, false, false, false] rfl rfl (by kernel_rfl) (by decide) (fun K hK => ?_)
  refine goes_ Try.func32 (by kernel_rfl) rfl #[.int .i64 y.f0.f2, .int .i64 x.f0.f2] (by rfl) rfl rfl (by simp only [List.map_toArray, List.map_cons, List.map_nil]; rfl) ?_
  with_reducible refine (cmp_Compare_int.calls y.f0.f2 x.f0.f2 (cmpI y.f0.f2 x.f0.f2) _ (cmpI_f y.f0.f2 x.f0.f2)).mono ?_
  rintro e w3 ⟨rfl, hd⟩
  refine ⟨_, rfl, ?_⟩
  have hb := Grew.drawn hd
  have HB1 := HB.trans hb
  clear HB
  have HB := HB1
  clear HB1
  refine hK.out _ _ ((hHeld.below hb.below)) (fun hHeld => ?_)
  clear hK K
  refine norm_ (a' := ?_) ?_ ?_
  rotate_left
  · show Act.put _ (some 21) _ = _
    simp only [Act.put, List.setIfInBounds_toArray, List.set_cons_zero, List.set_cons_succ, i64_w, i32_w]
    rfl
  refine one_ (i := 22) (N := some 28) #[true, true, true, true, true, true, true, true, true, true, true, true, true, true, true, true, true, true, true, true, true, true, true, true, true, true, true, false, false, false, false] rfl rfl (by kernel_rfl) (by decide) (fun K hK => ?_)
  refine goes_ Try.func20 (by kernel_rfl) rfl #[.agg #[.int .i64 x.f0.f0.f0, .int .i64 x.f0.f0.f1, .string x.f0.f0.f2], .agg #[.int .i64 y.f0.f0.f0, .int .i64 y.f0.f0.f1, .string y.f0.f0.f2]] (by rfl) rfl rfl (by simp only [List.map_toArray, List.map_cons, List.map_nil]; rfl) ?_
  with_reducible refine (compare_any x.f0.f0 y.f0.f0 _).mono ?_
  rintro e w3 ⟨rfl, hb⟩
  refine ⟨_, rfl, ?_⟩
  have HB1 := HB.trans hb
  clear HB
  have HB := HB1
  clear HB1
  refine hK.out _ _ ((hHeld.below hb.below)) (fun hHeld => ?_)
  clear hK K
  refine norm_ (a' := ?_) ?_ ?_
  rotate_left
  · show Act.put _ (some 28) _ = _
    simp only [Act.put, List.setIfInBounds_toArray, List.set_cons_zero, List.set_cons_succ, i64_w, i32_w]
    rfl
  refine one_ (i := 27) (N := some 33) #[true, true, true, true, true, true, true, true, true, true, true, true, true, true, true, true, true, true, true, true, true, true, true, true, true, true, true, true, false, false, false] rfl rfl (by kernel_rfl) (by decide) (fun K hK => ?_)
  refine goes_ Try.func32 (by kernel_rfl) rfl #[.int .i64 x.f1, .int .i64 y.f1] (by rfl) rfl rfl (by simp only [List.map_toArray, List.map_cons, List.map_nil]; rfl) ?_
  with_reducible refine (cmp_Compare_int.calls x.f1 y.f1 (cmpI x.f1 y.f1) _ (cmpI_f x.f1 y.f1)).mono ?_
  rintro e w3 ⟨rfl, hd⟩
  refine ⟨_, rfl, ?_⟩
  have hb := Grew.drawn hd
  have HB1 := HB.trans hb
  clear HB
  have HB := HB1
  clear HB1
  refine hK.out _ _ ((hHeld.below hb.below)) (fun hHeld => ?_)
  clear hK K
  refine norm_ (a' := ?_) ?_ ?_
  rotate_left
  · show Act.put _ (some 33) _ = _
    simp only [Act.put, List.setIfInBounds_toArray, List.set_cons_zero, List.set_cons_succ, i64_w, i32_w]
    rfl
  refine one_ (i := 28) (N := some 34) #[true, true, true, true, true, true, true, true, true, true, true, true, true, true, true, true, true, true, true, true, true, true, true, true, true, true, true, true, true, false, false] rfl rfl (by kernel_rfl) (by decide) (fun K hK => ?_)
  refine value_ (w1 := ?_) (v := ?_) (by rfl) rfl ?_ ?_
  rotate_left 2
  · go_simp
    constructor
    · rfl
    · rfl
  have hb := Grew.alloc1 w3 (.cells #[.int .i64 (cr x y), .int .i64 (cmpI y.f2 x.f2), .int .i64 (cmpI y.f0.f2 x.f0.f2), .int .i64 (cmpV x.f0.f0 y.f0.f0), .int .i64 (cmpI x.f1 y.f1)] 3)
  have HB1 := HB.trans hb
  clear HB
  have HB := HB1
  clear HB1
  refine hK.out _ _ ((hHeld.below hb.below)) (fun hHeld => ?_)
  clear hK K
  refine norm_ (a' := ?_) ?_ ?_
  rotate_left
  · show Act.put _ (some 34) _ = _
    simp only [Act.put, List.setIfInBounds_toArray, List.set_cons_zero, List.set_cons_succ, i64_w, i32_w]
    rfl
  refine one_ (i := 29) (N := some 35) #[true, true, true, true, true, true, true, true, true, true, true, true, true, true, true, true, true, true, true, true, true, true, true, true, true, true, true, true, true, true, false] rfl rfl (by kernel_rfl) (by decide) (fun K hK => ?_)
  refine goes_ Try.func31 (by kernel_rfl) rfl #[.slice (some ⟨w3.heap.size, 0, none⟩) 5 5] (by rfl) rfl rfl (by simp only [List.map_toArray, List.map_cons, List.map_nil]; rfl) ?_
  with_reducible refine (or5 (cr x y) (cmpI y.f2 x.f2) (cmpI y.f0.f2 x.f0.f2) (cmpV x.f0.f0 y.f0.f0) (cmpI x.f1 y.f1) w3).mono ?_
  rintro e w3 ⟨rfl, hd⟩
  refine ⟨_, rfl, ?_⟩
  have hb := Grew.drawn hd
  have HB1 := HB.trans hb
  clear HB
  have HB := HB1
  clear HB1
  refine hK.out _ _ ((hHeld.below hb.below)) (fun hHeld => ?_)
  clear hK K
  refine norm_ (a' := ?_) ?_ ?_
  rotate_left
  · show Act.put _ (some 35) _ = _
    simp only [Act.put, List.setIfInBounds_toArray, List.set_cons_zero, List.set_cons_succ, i64_w, i32_w]
    rfl
  refine pure_ (i := 30) (N := some 5) (v := ?_) (a' := ?_) #[true, true, true, true, true, true, true, true, true, true, true, true, true, true, true, true, true, true, true, true, true, true, true, true, true, true, true, true, true, true, true] rfl rfl (by kernel_rfl) (fun _ _ _ h => h) (Or.inl ⟨by rfl, ?_⟩) ?_ ?_
  rotate_left
  · intro w'
    go_simp
    with_reducible rfl
  rotate_left
  · simp only [Act.put, List.setIfInBounds_toArray, List.set_cons_zero, List.set_cons_succ, i64_w, i32_w]
    rfl
  refine done_ (by kernel_rfl) ?_
  go_wp2
  go_ret
  exact ⟨rfl, HB⟩
end Go.Proofs.Ytegomjkgbeijlaa.Hand
