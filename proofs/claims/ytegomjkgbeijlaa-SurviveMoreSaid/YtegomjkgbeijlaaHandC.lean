/- survive.ranked, walked: it returns the candidates in the order of the rule, in memory of its own. -/
import Derived.Test.YtegomjkgbeijlaaHandB
import Derived.Test.YtegomjkgbeijlaaHandS
namespace Go.Proofs.Ytegomjkgbeijlaa.Hand
set_option linter.unusedSectionVars false
set_option linter.unnecessarySimpa false
open Go.RowKit Go.Proofs.Ytegomjkgbeijlaa.Sv Go.Proofs.YtegomjkgbeijlaaW.PrintWords Go.Proofs.YtegomjkgbeijlaaW.PrintLast MapK
set_option linter.unusedVariables false
set_option linter.unusedSimpArgs false
/-- A cell counts. -/
def countsB (c : S34) : Bool := validB c.f0 && c.f0.f0 != 0
/-- The candidates among the first i cells. -/
def cands0 (l : List S34) (t : List Int) : Nat → List S44
  | 0 => []
  | i + 1 => if countsB (rd_T34 l i) = true then cands0 l t i ++ [⟨rd_T34 l i, i, rd t i, 0⟩] else cands0 l t i
/-- The counts behind the first i cells. -/
def counted (l : List S34) : Nat → List (S32 × Int)
  | 0 => []
  | i + 1 => if countsB (rd_T34 l i) = true then mput (counted l i) (rd_T34 l i).f0 (((mlook (counted l i) (rd_T34 l i).f0).getD 0) + 1) else counted l i

theorem cands0_len (l : List S34) (t : List Int) : ∀ i, (cands0 l t i).length ≤ i
  | 0 => Nat.le_refl 0
  | i + 1 => by
    unfold cands0
    have := cands0_len l t i
    split
    · simp; omega
    · omega
theorem counted_le (l : List S34) : ∀ (i : Nat) (x : S32), 0 ≤ (mlook (counted l i) x).getD 0 ∧ (mlook (counted l i) x).getD 0 ≤ i ∧ ((counted l i).map (·.1)).Nodup
  | 0, x => by simp [counted, mlook, firstAt]
  | i + 1, x => by
    obtain ⟨h0, h1, hn⟩ := counted_le l i x
    obtain ⟨g0, g1, _⟩ := counted_le l i (rd_T34 l i).f0
    unfold counted
    split
    · rw [mlook_put hn]
      refine ⟨?_, ?_, mput_nodup hn _ _⟩
      · split
        · simp; omega
        · exact h0
      · split
        · simp; omega
        · omega
    · exact ⟨h0, by omega, hn⟩

theorem cands_no {l : List S34} {t : List Int} {i : Nat} (h : countsB (rd_T34 l i) = false) : cands0 l t (i + 1) = cands0 l t i ∧ counted l (i + 1) = counted l i := by simp [cands0, counted, h]
theorem cands_yes {l : List S34} {t : List Int} {i : Nat} (h : countsB (rd_T34 l i) = true) : cands0 l t (i + 1) = cands0 l t i ++ [⟨rd_T34 l i, i, rd t i, 0⟩] ∧ counted l (i + 1) = mput (counted l i) (rd_T34 l i).f0 (((mlook (counted l i) (rd_T34 l i).f0).getD 0) + 1) := by simp [cands0, counted, h]

/-- The candidates with their numbers, the first j of them. -/
def filled (M : List (S32 × Int)) (cs : List S44) (j : Nat) : List S44 := (cs.take j).map (fun x => { x with f3 := (mlook M x.f0.f0).getD 0 }) ++ cs.drop j
theorem filled_zero (M : List (S32 × Int)) (cs : List S44) : filled M cs 0 = cs := by simp [filled]
theorem filled_len (M : List (S32 × Int)) (cs : List S44) (j : Nat) : (filled M cs j).length = cs.length := by simp [filled]; omega
theorem filled_at (M : List (S32 × Int)) (cs : List S44) (j : Nat) (h : j < cs.length) : rd_T44 (filled M cs j) j = rd_T44 cs j := by
  have hl : ((List.take j cs).map (fun x : S44 => ({ x with f3 := (mlook M x.f0.f0).getD 0 } : S44))).length = j := by rw [List.length_map, List.length_take]; omega
  simp only [rd_T44, filled, List.getD_eq_getElem?_getD, Int.toNat_natCast]
  rw [List.getElem?_append_right (by omega), hl, Nat.sub_self, List.getElem?_drop, Nat.add_zero]
theorem filled_step (M : List (S32 × Int)) (cs : List S44) (j : Nat) (h : j < cs.length) : (filled M cs j).set j { rd_T44 cs j with f3 := (mlook M (rd_T44 cs j).f0.f0).getD 0 } = filled M cs (j + 1) := by
  have hl : ((List.take j cs).map (fun x : S44 => ({ x with f3 := (mlook M x.f0.f0).getD 0 } : S44))).length = j := by rw [List.length_map, List.length_take]; omega
  have hx : rd_T44 cs j = cs[j] := by simp [rd_T44, List.getD_eq_getElem?_getD, h]
  unfold filled
  rw [List.set_append_right _ _ (by omega), hl, Nat.sub_self, List.drop_eq_getElem_cons h, List.set_cons_zero, List.take_succ_eq_append_getElem h, hx]
  simp only [List.map_append, List.map_cons, List.map_nil, List.append_assoc, List.singleton_append]
theorem index52_1 (W : World) : (Instr.index 52 (.agg #[.nilFunc, .func (.func 34) #[] #[], .func (.func 35) #[] #[], .func (.func 36) #[] #[], .func (.func 37) #[] #[], .func (.func 38) #[] #[], .func (.func 39) #[] #[]]) (.int .i64 1)).run Try.prog W = .ok (.func (.func 34) #[] #[]) W := by kernel_rfl
theorem index52_2 (W : World) : (Instr.index 52 (.agg #[.nilFunc, .func (.func 34) #[] #[], .func (.func 35) #[] #[], .func (.func 36) #[] #[], .func (.func 37) #[] #[], .func (.func 38) #[] #[], .func (.func 39) #[] #[]]) (.int .i64 2)).run Try.prog W = .ok (.func (.func 35) #[] #[]) W := by kernel_rfl
theorem index52_3 (W : World) : (Instr.index 52 (.agg #[.nilFunc, .func (.func 34) #[] #[], .func (.func 35) #[] #[], .func (.func 36) #[] #[], .func (.func 37) #[] #[], .func (.func 38) #[] #[], .func (.func 39) #[] #[]]) (.int .i64 3)).run Try.prog W = .ok (.func (.func 36) #[] #[]) W := by kernel_rfl
theorem index52_4 (W : World) : (Instr.index 52 (.agg #[.nilFunc, .func (.func 34) #[] #[], .func (.func 35) #[] #[], .func (.func 36) #[] #[], .func (.func 37) #[] #[], .func (.func 38) #[] #[], .func (.func 39) #[] #[]]) (.int .i64 4)).run Try.prog W = .ok (.func (.func 37) #[] #[]) W := by kernel_rfl
theorem index52_5 (W : World) : (Instr.index 52 (.agg #[.nilFunc, .func (.func 34) #[] #[], .func (.func 35) #[] #[], .func (.func 36) #[] #[], .func (.func 37) #[] #[], .func (.func 38) #[] #[], .func (.func 39) #[] #[]]) (.int .i64 5)).run Try.prog W = .ok (.func (.func 38) #[] #[]) W := by kernel_rfl
theorem index52_6 (W : World) : (Instr.index 52 (.agg #[.nilFunc, .func (.func 34) #[] #[], .func (.func 35) #[] #[], .func (.func 36) #[] #[], .func (.func 37) #[] #[], .func (.func 38) #[] #[], .func (.func 39) #[] #[]]) (.int .i64 6)).run Try.prog W = .ok (.func (.func 39) #[] #[]) W := by kernel_rfl
theorem index52 (by_ : Int) (h1 : 1 ≤ by_) (h6 : by_ ≤ 6) (W : World) : (Instr.index 52 (.agg #[.nilFunc, .func (.func 34) #[] #[], .func (.func 35) #[] #[], .func (.func 36) #[] #[], .func (.func 37) #[] #[], .func (.func 38) #[] #[], .func (.func 39) #[] #[]]) (.int .i64 by_)).run Try.prog W = .ok (.func (.func (33 + by_.toNat)) #[] #[]) W := by
  have h : by_ = 1 ∨ by_ = 2 ∨ by_ = 3 ∨ by_ = 4 ∨ by_ = 5 ∨ by_ = 6 := by omega
  rcases h with rfl | rfl | rfl | rfl | rfl | rfl
  · exact index52_1 W
  · exact index52_2 W
  · exact index52_3 W
  · exact index52_4 W
  · exact index52_5 W
  · exact index52_6 W
theorem own_frozen {α : Type} {d : Kd α} {e : Nat} {w : World} {base : Nat} {ok : Nat → Prop} {g n c o : Nat} {xs : List α} (h : d.R e w base ok (.slice (some ⟨g, 0, none⟩) n c) xs) : w.frozen? ⟨g, o, none⟩ = false := by
  obtain ⟨_, inner, ho, _⟩ := h
  rcases ho.2 with ⟨hv, _⟩ | ⟨g', cap, cur, hv, _, hh, _⟩
  · cases hv
  · injection hv with h3 h4 h5
    injection h3 with h3
    injection h3 with h3
    subst h3
    exact blk_frozen hh o
theorem own_lt' {α : Type} {d : Kd α} {e : Nat} {w : World} {base : Nat} {ok : Nat → Prop} {v : Value} {xs : List α} (h : d.R e w base ok v xs) (k : Nat) (hk : v.ownBlock = some k) : k < w.heap.size := by
  obtain ⟨_, inner, ho, _⟩ := h
  exact own_lt ho k hk
theorem own_base' {α : Type} {d : Kd α} {e : Nat} {w : World} {base : Nat} {ok : Nat → Prop} {v : Value} {xs : List α} (h : d.R e w base ok v xs) (k : Nat) (hk : v.ownBlock = some k) : base ≤ k := by
  obtain ⟨_, inner, ho, _⟩ := h
  exact own_base ho k hk
theorem own_ge {α : Type} {d : Kd α} {e : Nat} {w : World} {base : Nat} {ok : Nat → Prop} {g n c : Nat} {xs : List α} (h : d.R e w base ok (.slice (some ⟨g, 0, none⟩) n c) xs) : base ≤ g := by
  obtain ⟨_, inner, ho, _⟩ := h
  exact own_base ho g rfl
theorem addr8 (g j : Nat) : (⟨g, 0, none⟩ : Addr).add (j * 8) = ⟨g, j * 8, none⟩ := by
  unfold Addr.add
  by_cases h : j * 8 = 0 <;> simp [h]
theorem own_some {α : Type} {d : Kd α} {e : Nat} {w : World} {base : Nat} {ok : Nat → Prop} {A : Option Addr} {n c : Nat} {xs : List α} (h : d.R e w base ok (.slice A n c) xs) (hx : 0 < xs.length) : ∃ g, A = some ⟨g, 0, none⟩ := by
  obtain ⟨_, inner, ho, _⟩ := h
  rcases ho.2 with ⟨hv, h2⟩ | ⟨g, cap, cur, hv, _⟩
  · omega
  · injection hv with h3 h4 h5
    exact ⟨g, h3⟩

structure Inv (w wr : World) (Bm : Nat) (v : Value) (cs : List S44) (M : List (S32 × Int)) : Prop where
  below : Below w.heap.size w wr
  own : Kd.R k44 44 wr w.heap.size (fun k => k ≠ Bm) v cs
  map : MapIs keyV (Value.int .i64) wr Bm M
  base : w.heap.size ≤ Bm
theorem Inv.on {w wr wr' : World} {Bm : Nat} {v : Value} {cs : List S44} {M : List (S32 × Int)} (h : Inv w wr Bm v cs M) (hb : Below wr.heap.size wr wr') : Inv w wr' Bm v cs M :=
  ⟨below_step h.below hb, Kd.R_below h.own hb, h.map.same (hb.block _ h.map.lt), h.base⟩
theorem Inv.turned {w wr wr' : World} {Bm : Nat} {v : Value} {cs : List S44} {M M' : List (S32 × Int)} (h : Inv w wr Bm v cs M) (hm : MapIs keyV (Value.int .i64) wr' Bm M') (hg : wr.grownBy wr' (some Bm)) : Inv w wr' Bm v cs M' :=
  ⟨h.below.grown hg h.below.size (fun k hk => by cases hk; exact h.base), Kd.R_grown h.own hg (fun k hk => by simpa using hk), hm, h.base⟩
theorem zero3 (u : World) : (zeroValue 3).run Try.prog u = .ok (.int .i64 0) u := by kernel_rfl
theorem info44 : (Try.prog.info? 44).map (fun i => (i.zero, i.size, i.bytes)) = some (some (.agg #[.int .i64 0, .int .i64 0, .string ⟨#[]⟩, .int .i64 0, .int .i64 0, .int .i64 0, .int .i64 0, .int .i64 0]), 8, 72) := by kernel_rfl
theorem cell_off {w w' : World} {row : Option Nat} (hg : w.grownBy w' row) {b : Nat} (hne : some b ≠ row) {o : Nat} {v : Value} (h : w.cell? ⟨b, o, none⟩ = some v) : w'.cell? ⟨b, o, none⟩ = some v := hg.cell h hne
theorem cell_al {w : World} {o : Obj} {a : Addr} {v : Value} (h : w.cell? a = some v) : (w.alloc o).cell? a = some v := cell_on (below_alloc (Below.refl _ _) o) h

/-- The candidates with their numbers. -/
def candsL (l : List S34) (t : List Int) : List S44 := filled (counted l l.length) (cands0 l t l.length) (cands0 l t l.length).length
/-- What survive.ranked returns for arguments that are right. -/
def rankedL (by_ : Int) (l : List S34) (t : List Int) : List S44 := sortC by_ (candsL l t)
theorem cands0_at (l : List S34) (t : List Int) : ∀ i, (cands0 l t i).Pairwise (fun x y => x.f1 < y.f1) ∧ ∀ x ∈ cands0 l t i, x.f1 < i
  | 0 => ⟨List.Pairwise.nil, by simp [cands0]⟩
  | i + 1 => by
    obtain ⟨h1, h2⟩ := cands0_at l t i
    unfold cands0
    split
    · refine ⟨List.pairwise_append.2 ⟨h1, List.pairwise_singleton _ _, fun x hx y hy => ?_⟩, fun x hx => ?_⟩
      · simp at hy
        subst hy
        exact h2 x hx
      · rcases List.mem_append.1 hx with hx | hx
        · have := h2 x hx; omega
        · simp at hx; subst hx; simp; omega
    · exact ⟨h1, fun x hx => by have := h2 x hx; omega⟩
theorem candsL_eq (l : List S34) (t : List Int) : candsL l t = (cands0 l t l.length).map (fun x : S44 => ({ x with f3 := (mlook (counted l l.length) x.f0.f0).getD 0 } : S44)) := by simp [candsL, filled]
theorem candsL_at (l : List S34) (t : List Int) : (candsL l t).Pairwise (fun x y => x.f1 < y.f1) := by
  rw [candsL_eq, List.pairwise_map]
  exact (cands0_at l t l.length).1
theorem candsL_inj (l : List S34) (t : List Int) : ∀ x ∈ candsL l t, ∀ y ∈ candsL l t, x.f1 = y.f1 → x = y := by
  intro x hx y hy h
  obtain ⟨i, hi, rfl⟩ := List.getElem_of_mem hx
  obtain ⟨j, hj, rfl⟩ := List.getElem_of_mem hy
  have hp := List.pairwise_iff_getElem.1 (candsL_at l t)
  rcases Nat.lt_trichotomy i j with h1 | h1 | h1
  · have := hp i j hi hj h1; omega
  · subst h1; rfl
  · have := hp j i hj hi h1; omega
theorem box_cells {w w2 : World} {c : S34} (hb : Below (w.alloc (.cells #[.int .i64 c.f0.f0, .int .i64 c.f0.f1, .string c.f0.f2, .int .i64 c.f1, .int .i64 c.f2] 34)).heap.size (w.alloc (.cells #[.int .i64 c.f0.f0, .int .i64 c.f0.f1, .string c.f0.f2, .int .i64 c.f1, .int .i64 c.f2] 34)) w2) :
    w2.cell? ⟨w.heap.size, 0, none⟩ = some (.int .i64 c.f0.f0) ∧ w2.cell? ⟨w.heap.size, 1, none⟩ = some (.int .i64 c.f0.f1) ∧ w2.cell? ⟨w.heap.size, 2, none⟩ = some (.string c.f0.f2) ∧ w2.cell? ⟨w.heap.size, 3, none⟩ = some (.int .i64 c.f1) ∧ w2.cell? ⟨w.heap.size, 4, none⟩ = some (.int .i64 c.f2) :=
  ⟨cell_on hb (by simp), cell_on hb (by simp), cell_on hb (by simp), cell_on hb (by simp), cell_on hb (by simp)⟩
theorem World.cell?_alloc_here (wr : World) (c : S34) : (wr.alloc (.cells #[.int .i64 c.f0.f0, .int .i64 c.f0.f1, .string c.f0.f2, .int .i64 c.f1, .int .i64 c.f2] 34)).cell? ⟨wr.heap.size, 0, none⟩ = some (.int .i64 c.f0.f0) := by simp
set_option maxHeartbeats 8000000 in
set_option maxRecDepth 100000 in
theorem ranked_right (by_ : Int) (A1 : Option Addr) (c1 : Nat) (l1 : List (S34)) (A2 : Option Addr) (c2 : Nat) (l2 : List Int) (w : World) (hr1 : Kd.C k34 w A1 l1.length l1) (hc1 : l1.length ≤ c1) (hr2 : Kd.C (Kd.int .i64) w A2 l2.length l2) (hc2 : l2.length ≤ c2)
    (h1 : 1 ≤ by_) (h6 : by_ ≤ 6) (hlen : l1.length = l2.length) (hsz : l1.length ≤ 1000000) :
    Calls Try.prog 22 #[.int .i64 by_, .slice A1 l1.length c1, .slice A2 l2.length c2] w fun e w' => ∃ v0_ : Value, e = .returned v0_ ∧ Kd.R k44 44 w' w.heap.size (fun _ => True) v0_ (rankedL by_ l1 l2) ∧ Below w.heap.size w w' := by
  have hu34 := Try.underlying34
  have hu32 := Try.underlying32
  have hu44 := Try.underlying44
  have hmm := @run_makeMap Try.prog
  have b1 : decide (by_ < 1) = false := by simp; omega
  have b2 : decide (6 < by_) = false := by simp; omega
  have hne : ((l1.length : Int) != (l2.length : Int)) = false := by simp [hlen]
  have hne' : (l1.length != l2.length) = false := by simp [hlen]
  have HL := Aside0.mk hlen
  have HR1 := Aside0.mk hr1
  have HR2 := Aside0.mk hr2
  clear hr1 hr2 hlen
  go_enter Try.func22, Try.ntmps22
  go_wp2
  go_loopg [8, 29] l1.length (fun kq v8 v29 w' => ∃ i : Nat, i ≤ l1.length ∧ v29 = .int .i64 i ∧ Aside0 (Inv w w' w.heap.size v8 (cands0 l1 l2 i) (counted l1 i)) ∧ Aside0 (kq = l1.length - i))
  case atStart =>
    refine ⟨0, Nat.zero_le _, rfl, ⟨?_⟩, ⟨rfl⟩⟩
    exact ⟨below_alloc (Below.refl _ _) _, Kd.R_nil _ _ _ _ _, MapIs.made _ _ _, Nat.le_refl _⟩
  case round =>
    obtain ⟨i, hi, rfl, HI, HK⟩ := hrel
    by_cases hlt : i < l1.length
    · have p0 : 0 ≤ (i : Int) := by omega
      have p1 : (i : Int) < l1.length := by omega
      obtain ⟨ad, e, hx0, hx1, hx2, hx3, hx4⟩ := at_T34 HR1.out i p0 p1
      cases e
      simp only [Int.toNat_natCast] at hx0 hx1 hx2 hx3 hx4
      replace hx0 := (HI.out.below.cell (World.block_lt_of_cell? w _ hx0)).trans hx0
      replace hx1 := (HI.out.below.cell (World.block_lt_of_cell? w _ hx1)).trans hx1
      replace hx2 := (HI.out.below.cell (World.block_lt_of_cell? w _ hx2)).trans hx2
      replace hx3 := (HI.out.below.cell (World.block_lt_of_cell? w _ hx3)).trans hx3
      replace hx4 := (HI.out.below.cell (World.block_lt_of_cell? w _ hx4)).trans hx4
      obtain ⟨c, Hc⟩ : ∃ c, Aside0 (c = rd_T34 l1 i) := ⟨_, ⟨rfl⟩⟩
      rw [← Hc.out] at hx0 hx1 hx2 hx3 hx4
      have HW1 := Aside0.mk (HI.out.on (below_alloc (Below.refl wr.heap.size wr) (.cells #[.int .i64 c.f0.f0, .int .i64 c.f0.f1, .string c.f0.f2, .int .i64 c.f1, .int .i64 c.f2] 34)))
      have sk : ∀ wz : World, Aside0 (Inv w wz w.heap.size u8 (cands0 l1 l2 i) (counted l1 i)) → countsB c = false → Aside0 (Inv w wz w.heap.size u8 (cands0 l1 l2 (i + 1)) (counted l1 (i + 1))) := fun wz h hc => ⟨by rw [Hc.out] at hc; rw [(cands_no (t := l2) hc).1, (cands_no (t := l2) hc).2]; exact h.out⟩
      have SK := Aside0.mk sk
      clear sk
      by_cases hv : validB c.f0 = true
      · by_cases hk : c.f0.f0 = 0
        · have hk1 : (c.f0.f0 != 0) = false := by simp [hk]
          have HC := Aside0.mk (show countsB c = false by simp [countsB, hk])
          have Hk := Aside0.mk hk
          clear hk
          have Hv := Aside0.mk hv
          clear hv
          go_wp2_with (go_at_call 27; refine (valid_any _ _ _ _).mono ?_; rintro e w2 ⟨rfl, hb2⟩; have HI2 := Aside0.mk (HW1.out.on hb2); have hz2 : validB ⟨c.f0.f0, c.f0.f1, c.f0.f2⟩ = true := Hv.out; have hq0 := cell_on hb2 (World.cell?_alloc_here wr c); clear hb2)
          go_roundg (l1.length - (i + 1))
          case measure => have := HK.out; omega
          case rel => exact ⟨i + 1, by omega, by go_num, SK.out _ HI2 HC.out, ⟨rfl⟩⟩
        · have hk1 : (c.f0.f0 != 0) = true := by simpa using hk
          clear hk
          have HC := Aside0.mk (show countsB c = true by simp [countsB, hv, hk1])
          have Hv := Aside0.mk hv
          clear hv
          go_wp2_with (go_at_call 27; refine (valid_any _ _ _ _).mono ?_; rintro e w2 ⟨rfl, hb2⟩; have HI2 := Aside0.mk (HW1.out.on hb2); have hz2 : validB ⟨c.f0.f0, c.f0.f1, c.f0.f2⟩ = true := Hv.out; have hq0 := cell_on hb2 (World.cell?_alloc_here wr c); have HB2 := Aside0.mk hb2; clear hb2)
          obtain ⟨q, HQ⟩ : ∃ q, Aside0 ((mlook (counted l1 i) c.f0).getD 0 = q) := ⟨_, ⟨rfl⟩⟩
          have q0 : 0 ≤ q := by have := (counted_le l1 i c.f0).1; have h9 := HQ.out; omega
          have q1 : q ≤ 1000000 := by have := (counted_le l1 i c.f0).2.1; have h9 := HQ.out; omega
          have Hhb := Aside0.mk (box_cells (w := wr) (w2 := w2) (c := c) HB2.out)
          have hne2 : some wr.heap.size ≠ some w.heap.size := by have := HI.out.map.lt; intro e; injection e with e; omega
          have HNE := Aside0.mk hne2
          clear hq0 hz2 hne2
          have hb0 := Hhb.out.1
          have hb1 := Hhb.out.2.1
          have hb2 := Hhb.out.2.2.1
          refine start_ (n := 8) (S := fun w' => w'.cell? ⟨wr.heap.size, 0, none⟩ = some (.int .i64 c.f0.f0) ∧ w'.cell? ⟨wr.heap.size, 1, none⟩ = some (.int .i64 c.f0.f1) ∧ w'.cell? ⟨wr.heap.size, 2, none⟩ = some (.string c.f0.f2) ∧ (Instr.lookup 50 (.map (some w.heap.size)) (.agg #[.int .i64 c.f0.f0, .int .i64 c.f0.f1, .string c.f0.f2]) false).run Try.prog w' = .ok (.int .i64 q) w') (ds := [7]) #[false, false, false, false, false, false, false, false] (by kernel_rfl) rfl rfl ⟨hb0, hb1, hb2, (by have h := (HI2.out.map.same (w' := w2.drew) rfl).lookup key32 Try.underlying50 (zero3 _) c.f0; rw [HQ.out] at h; exact h)⟩ (fun hHeld => ?_)
          refine pure_ (i := 0) (N := some 43) (v := ?_) (a' := ?_) #[true, false, false, false, false, false, false, false] rfl rfl (by kernel_rfl) (fun _ _ _ h => h) (Or.inl ⟨by rfl, ?_⟩) ?_ ?_
          rotate_left
          · intro w'
            go_simp
            with_reducible rfl
          rotate_left
          · simp only [Act.put, List.setIfInBounds_toArray, List.set_cons_zero, List.set_cons_succ, i64_w, i32_w]
            rfl
          refine pure_ (i := 1) (N := some 44) (v := ?_) (a' := ?_) #[true, true, false, false, false, false, false, false] rfl rfl (by kernel_rfl) (fun _ _ _ h => h) (Or.inl ⟨by rfl, ?_⟩) ?_ ?_
          rotate_left
          · intro w'
            go_simp
            with_reducible rfl
          rotate_left
          · simp only [Act.put, List.setIfInBounds_toArray, List.set_cons_zero, List.set_cons_succ, i64_w, i32_w]
            rfl
          refine take_ (i := 2) (N := some 45) (v := ?_) (a' := ?_) #[true, true, true, false, false, false, false, false] rfl rfl (by kernel_rfl) (fun _ _ _ h => h) (Or.inl ⟨by rfl, ?_⟩) hHeld ?_ ?_
          rotate_left
          · rintro w' ⟨s0, s1, s2, s3⟩
            go_simp
            with_reducible rfl
          rotate_left
          · simp only [Act.put, List.setIfInBounds_toArray, List.set_cons_zero, List.set_cons_succ, i64_w, i32_w]
            rfl
          refine take_ (i := 3) (N := some 46) (v := ?_) (a' := ?_) #[true, true, true, true, false, false, false, false] rfl rfl (by kernel_rfl) (fun _ _ _ h => h) (Or.inl ⟨by rfl, ?_⟩) hHeld ?_ ?_
          rotate_left
          · rintro w' ⟨s0, s1, s2, s3⟩
            go_simp
            with_reducible rfl
          rotate_left
          · simp only [Act.put, List.setIfInBounds_toArray, List.set_cons_zero, List.set_cons_succ, i64_w, i32_w]
            rfl
          refine pure_ (i := 4) (N := some 47) (v := ?_) (a' := ?_) #[true, true, true, true, true, false, false, false] rfl rfl (by kernel_rfl) (fun _ _ _ h => h) (Or.inl ⟨by rfl, ?_⟩) ?_ ?_
          rotate_left
          · intro w'
            go_simp
            with_reducible rfl
          rotate_left
          · simp only [Act.put, List.setIfInBounds_toArray, List.set_cons_zero, List.set_cons_succ, i64_w, i32_w]
            rfl
          refine one_ (i := 5) (N := some 48) #[true, true, true, true, true, true, false, false] rfl rfl (by kernel_rfl) (by decide) (fun K hK => ?_)
          obtain ⟨st, w5, M', hrun5, hm5, hz5, hg5, hst5⟩ := MapIs.entry (P := Try.prog) (w := w2.drew) (ev := Value.int .i64) (z := (0 : Int)) key32 Try.underlying50 zero3 (HI2.out.map.same (w' := w2.drew) rfl) c.f0
          rw [HQ.out] at hrun5
          unfold keyV at hrun5
          refine value_ (w1 := w5) (v := .tuple #[.int .i64 q, .int .i64 st]) (by rfl) rfl ?_ ?_
          · go_simp
          refine hK.out _ _ ⟨cell_off hg5 HNE.out hHeld.1, cell_off hg5 HNE.out hHeld.2.1, cell_off hg5 HNE.out hHeld.2.2.1, (by have h := hm5.lookup key32 Try.underlying50 (zero3 _) c.f0; rw [hz5, HQ.out] at h; exact h)⟩ (fun hHeld => ?_)
          clear hK K
          refine norm_ (a' := ?_) ?_ ?_
          rotate_left
          · show Act.put _ (some 48) _ = _
            simp only [Act.put, List.setIfInBounds_toArray, List.set_cons_zero, List.set_cons_succ, i64_w, i32_w]
            rfl
          refine pure_ (i := 6) (N := some 49) (v := ?_) (a' := ?_) #[true, true, true, true, true, true, true, false] rfl rfl (by kernel_rfl) (fun _ _ _ h => h) (Or.inl ⟨by rfl, ?_⟩) ?_ ?_
          rotate_left
          · intro w'
            go_simp
            with_reducible rfl
          rotate_left
          · simp only [Act.put, List.setIfInBounds_toArray, List.set_cons_zero, List.set_cons_succ, i64_w, i32_w]
            rfl
          refine last_ (i := 7) (N := none) #[true, true, true, true, true, true, true, true] rfl rfl (by kernel_rfl) (by decide) (fun K hK => ?_)
          obtain ⟨w6, hrun6, hm6, hg6⟩ := hst5 w5 (wrap64 (q + 1)) rfl
          refine skip_ (w1 := w6) (by rfl) rfl ?_ ?_
          · go_simp
          refine hK.out _ _ ?_
          clear hK K
          refine done_ (by kernel_rfl) ?_
          have HI6 := Aside0.mk (show Inv w w6 w.heap.size u8 (cands0 l1 l2 i) (counted l1 (i + 1)) by
            have hcc := HC.out
            rw [Hc.out] at hcc
            have hw : wrap64 (q + 1) = q + 1 := by unfold wrap64; omega
            rw [hw, ← HQ.out, Hc.out] at hm6
            rw [(cands_yes (t := l2) hcc).2]
            exact ((HI2.out.on (below_drew (Below.refl _ _))).turned hm5 hg5).turned hm6 hg6)
          have h6c := Aside0.mk (show w6.cell? ⟨wr.heap.size, 0, none⟩ = some (.int .i64 c.f0.f0) ∧ w6.cell? ⟨wr.heap.size, 1, none⟩ = some (.int .i64 c.f0.f1) ∧ w6.cell? ⟨wr.heap.size, 2, none⟩ = some (.string c.f0.f2) ∧ w6.cell? ⟨wr.heap.size, 3, none⟩ = some (.int .i64 c.f1) ∧ w6.cell? ⟨wr.heap.size, 4, none⟩ = some (.int .i64 c.f2) from
            ⟨cell_off hg6 HNE.out (cell_off hg5 HNE.out Hhb.out.1), cell_off hg6 HNE.out (cell_off hg5 HNE.out Hhb.out.2.1), cell_off hg6 HNE.out (cell_off hg5 HNE.out Hhb.out.2.2.1), cell_off hg6 HNE.out (cell_off hg5 HNE.out Hhb.out.2.2.2.1), cell_off hg6 HNE.out (cell_off hg5 HNE.out Hhb.out.2.2.2.2)⟩)
          clear hm6 hg6 hg5 hm5 hst5 hz5 hrun5 hrun6 hHeld hb0 hb1 hb2
          have hl2 : i < l2.length := by have := HL.out; omega
          have hl2i : (i : Int) < (l2.length : Int) := by omega
          obtain ⟨ad2, e2, ht2⟩ := Kd.at_int HR2.out (i : Int) p0 hl2i
          cases e2
          simp only [Int.toNat_natCast] at ht2
          replace ht2 := (HI6.out.below.cell (World.block_lt_of_cell? w _ ht2)).trans ht2
          have hc0 := h6c.out.1
          have hc1' := h6c.out.2.1
          have hc2' := h6c.out.2.2.1
          have hc3 := h6c.out.2.2.2.1
          have hc4 := h6c.out.2.2.2.2
          go_wp2
          refine start_ (n := 11) (S := fun w' => w'.cell? ⟨wr.heap.size, 0, none⟩ = some (.int .i64 c.f0.f0) ∧ w'.cell? ⟨wr.heap.size, 1, none⟩ = some (.int .i64 c.f0.f1) ∧ w'.cell? ⟨wr.heap.size, 2, none⟩ = some (.string c.f0.f2) ∧ w'.cell? ⟨wr.heap.size, 3, none⟩ = some (.int .i64 c.f1) ∧ w'.cell? ⟨wr.heap.size, 4, none⟩ = some (.int .i64 c.f2) ∧ w'.cell? (ad2.add i) = some (.int .i64 (rd l2 i))) (ds := [9]) #[false, false, false, false, false, false, false, false, false, false, false] (by kernel_rfl) rfl rfl ⟨hc0, hc1', hc2', hc3, hc4, ht2⟩ (fun hHeld => ?_)
          refine pure_ (i := 0) (N := some 50) (v := ?_) (a' := ?_) #[true, false, false, false, false, false, false, false, false, false, false] rfl rfl (by kernel_rfl) (fun _ _ _ h => h) (Or.inl ⟨by rfl, ?_⟩) ?_ ?_
          rotate_left
          · intro w'
            go_simp
            with_reducible rfl
          rotate_left
          · simp only [Act.put, List.setIfInBounds_toArray, List.set_cons_zero, List.set_cons_succ, i64_w, i32_w]
            rfl
          refine pure_ (i := 2) (N := some 52) (v := ?_) (a' := ?_) #[true, false, true, false, false, false, false, false, false, false, false] rfl rfl (by kernel_rfl) (fun _ _ _ h => h) (Or.inl ⟨by rfl, ?_⟩) ?_ ?_
          rotate_left
          · intro w'
            go_simp
            with_reducible rfl
          rotate_left
          · simp only [Act.put, List.setIfInBounds_toArray, List.set_cons_zero, List.set_cons_succ, i64_w, i32_w]
            rfl
          refine pure_ (i := 3) (N := some 53) (v := ?_) (a' := ?_) #[true, false, true, true, false, false, false, false, false, false, false] rfl rfl (by kernel_rfl) (fun _ _ _ h => h) (Or.inl ⟨by rfl, ?_⟩) ?_ ?_
          rotate_left
          · intro w'
            go_simp
            with_reducible rfl
          rotate_left
          · simp only [Act.put, List.setIfInBounds_toArray, List.set_cons_zero, List.set_cons_succ, i64_w, i32_w]
            rfl
          refine pure_ (i := 4) (N := some 54) (v := ?_) (a' := ?_) #[true, false, true, true, true, false, false, false, false, false, false] rfl rfl (by kernel_rfl) (fun _ _ _ h => h) (Or.inl ⟨by rfl, ?_⟩) ?_ ?_
          rotate_left
          · intro w'
            go_simp
            with_reducible rfl
          rotate_left
          · simp only [Act.put, List.setIfInBounds_toArray, List.set_cons_zero, List.set_cons_succ, i64_w, i32_w]
            rfl
          refine pure_ (i := 5) (N := some 55) (v := ?_) (a' := ?_) #[true, false, true, true, true, true, false, false, false, false, false] rfl rfl (by kernel_rfl) (fun _ _ _ h => h) (Or.inl ⟨by rfl, ?_⟩) ?_ ?_
          rotate_left
          · intro w'
            go_simp
            with_reducible rfl
          rotate_left
          · simp only [Act.put, List.setIfInBounds_toArray, List.set_cons_zero, List.set_cons_succ, i64_w, i32_w]
            rfl
          refine take_ (i := 1) (N := some 51) (v := ?_) (a' := ?_) #[true, true, true, true, true, true, false, false, false, false, false] rfl rfl (by kernel_rfl) (fun _ _ _ h => h) (Or.inl ⟨by rfl, ?_⟩) hHeld ?_ ?_
          rotate_left
          · rintro w' ⟨s0, s1, s2, s3, s4, s5⟩
            go_simp
            with_reducible rfl
          rotate_left
          · simp only [Act.put, List.setIfInBounds_toArray, List.set_cons_zero, List.set_cons_succ, i64_w, i32_w]
            rfl
          refine take_ (i := 6) (N := some 56) (v := ?_) (a' := ?_) #[true, true, true, true, true, true, true, false, false, false, false] rfl rfl (by kernel_rfl) (fun _ _ _ h => h) (Or.inl ⟨by rfl, ?_⟩) hHeld ?_ ?_
          rotate_left
          · rintro w' ⟨s0, s1, s2, s3, s4, s5⟩
            go_simp
            with_reducible rfl
          rotate_left
          · simp only [Act.put, List.setIfInBounds_toArray, List.set_cons_zero, List.set_cons_succ, i64_w, i32_w]
            rfl
          refine pure_ (i := 7) (N := some 57) (v := ?_) (a' := ?_) #[true, true, true, true, true, true, true, true, false, false, false] rfl rfl (by kernel_rfl) (fun _ _ _ h => h) (Or.inl ⟨by rfl, ?_⟩) ?_ ?_
          rotate_left
          · intro w'
            go_simp
            with_reducible rfl
          rotate_left
          · simp only [Act.put, List.setIfInBounds_toArray, List.set_cons_zero, List.set_cons_succ, i64_w, i32_w]
            rfl
          refine one_ (i := 8) (N := some 58) #[true, true, true, true, true, true, true, true, true, false, false] rfl rfl (by kernel_rfl) (by decide) (fun K hK => ?_)
          refine value_ (w1 := ?_) (v := ?_) (by rfl) rfl ?_ ?_
          rotate_left 2
          · go_simp
            constructor
            · rfl
            · rfl
          refine hK.out _ _ ⟨cell_al hHeld.1, cell_al hHeld.2.1, cell_al hHeld.2.2.1, cell_al hHeld.2.2.2.1, cell_al hHeld.2.2.2.2.1, cell_al hHeld.2.2.2.2.2⟩ (fun hHeld => ?_)
          clear hK K
          refine norm_ (a' := ?_) ?_ ?_
          rotate_left
          · show Act.put _ (some 58) _ = _
            simp only [Act.put, List.setIfInBounds_toArray, List.set_cons_zero, List.set_cons_succ, i64_w, i32_w]
            rfl
          refine last_ (i := 9) (N := some 59) #[true, true, true, true, true, true, true, true, true, true, false] rfl rfl (by kernel_rfl) (by decide) (fun K hK => ?_)
          refine Kd.R_append_step (P := Try.prog) (w0 := w) k44 w.heap.size (by rfl) _ _ 41 44 (.agg #[.int .i64 0, .int .i64 0, .string ⟨#[]⟩, .int .i64 0, .int .i64 0, .int .i64 0, .int .i64 0, .int .i64 0]) 72 rfl Try.underlying41 info44 rfl (by decide) (by decide) u8 (cands0 l1 l2 i) (⟨c, i, rd l2 i, 0⟩ : S44) [.int .i64 c.f0.f0, .int .i64 c.f0.f1, .string c.f0.f2, .int .i64 c.f1, .int .i64 c.f2, .int .i64 i, .int .i64 (rd l2 i), .int .i64 0] (fun k => k ≠ w.heap.size) (fun k => k ≠ w.heap.size ∧ some k ≠ u8.ownBlock) rfl rfl (k44_mkM _ _ _ _) (fun k hk => hk) (fun k hk => by have := HI6.out.map.lt; have h9 : w6.heap.size ≤ k := hk; omega) (Kd.R_drew HI6.out.own) (below_drew HI6.out.below) HI6.out.below.size ?_ ?_
          · have := cands0_len l1 l2 i; omega
          intro v1 w7 hown7 hb7 hg7 hat7
          refine hK.out _ _ ?_
          clear hK K
          refine norm_ (a' := ?_) ?_ ?_
          rotate_left
          · show Act.put _ (some 59) _ = _
            simp only [Act.put, List.setIfInBounds_toArray, List.set_cons_zero, List.set_cons_succ, i64_w, i32_w]
            rfl
          refine pure_ (i := 10) (N := some 8) (v := ?_) (a' := ?_) #[true, true, true, true, true, true, true, true, true, true, true] rfl rfl (by kernel_rfl) (fun _ _ _ h => h) (Or.inl ⟨by rfl, ?_⟩) ?_ ?_
          rotate_left
          · intro w'
            go_simp
            with_reducible rfl
          rotate_left
          · simp only [Act.put, List.setIfInBounds_toArray, List.set_cons_zero, List.set_cons_succ, i64_w, i32_w]
            rfl
          refine done_ (by kernel_rfl) ?_
          have HI7 := Aside0.mk (show Inv w w7 w.heap.size v1 (cands0 l1 l2 (i + 1)) (counted l1 (i + 1)) by
            have hcc := HC.out
            rw [Hc.out] at hcc
            rw [Hc.out] at hown7
            rw [(cands_yes (t := l2) hcc).1]
            refine ⟨hb7, hown7, HI6.out.map.same ?_, Nat.le_refl _⟩
            refine (hg7.block _ HI6.out.map.lt (fun e => ?_)).trans rfl
            exact HI6.out.own.1 _ e.symm rfl)
          clear hown7 hb7 hg7 hat7 hHeld hc0 hc1' hc2' hc3 hc4 ht2
          go_wp2
          go_roundg (l1.length - (i + 1))
          case measure => have := HK.out; omega
          case rel => exact ⟨i + 1, by omega, by go_num, HI7, ⟨rfl⟩⟩
      · have hv2 : validB c.f0 = false := by simpa using hv
        have HC := Aside0.mk (show countsB c = false by simp [countsB, hv2])
        have Hv := Aside0.mk hv2
        clear hv hv2
        go_wp2_with (go_at_call 27; refine (valid_any _ _ _ _).mono ?_; rintro e w2 ⟨rfl, hb2⟩; have HI2 := Aside0.mk (HW1.out.on hb2); have hz2 : validB ⟨c.f0.f0, c.f0.f1, c.f0.f2⟩ = false := Hv.out; have hq0 := cell_on hb2 (World.cell?_alloc_here wr c); clear hb2)
        go_roundg (l1.length - (i + 1))
        case measure => have := HK.out; omega
        case rel => exact ⟨i + 1, by omega, by go_num, SK.out _ HI2 HC.out, ⟨rfl⟩⟩
    · obtain rfl : i = l1.length := by omega
      clear hlt hi HK
      obtain ⟨M, HM⟩ : ∃ M, Aside0 (M = counted l1 l1.length) := ⟨_, ⟨rfl⟩⟩
      obtain ⟨cs, HCS⟩ : ∃ cs, Aside0 (cs = cands0 l1 l2 l1.length) := ⟨_, ⟨rfl⟩⟩
      rw [← HM.out, ← HCS.out] at HI
      have hcl : cs.length ≤ 1000000 := by have := cands0_len l1 l2 l1.length; have h9 := HCS.out; rw [← h9] at this; omega
      obtain ⟨A8, c8, e8, hl8, hr8⟩ := Kd.R_reads HI.out.own
      subst e8
      clear hr8
      go_wp2
      go_loopg [63] cs.length (fun kq v63 w' => ∃ j : Nat, j ≤ cs.length ∧ v63 = .int .i64 j ∧ Aside0 (Inv w w' w.heap.size (.slice A8 cs.length c8) (filled M cs j) M) ∧ Aside0 (kq = cs.length - j))
      case atStart => exact ⟨0, Nat.zero_le _, rfl, ⟨by rw [filled_zero]; exact HI.out⟩, ⟨rfl⟩⟩
      case round =>
        obtain ⟨j, hj, rfl, HJ, HK⟩ := hrel
        by_cases hlt : j < cs.length
        · obtain ⟨g, eg⟩ := own_some HJ.out.own (by rw [filled_len]; omega)
          subst eg
          obtain ⟨A9, c9, e9, hl9, hr9⟩ := Kd.R_reads HJ.out.own
          injection e9 with e9a e9b e9c
          subst e9a
          have q0 : 0 ≤ (j : Int) := by omega
          have q1 : (j : Int) < ((filled M cs j).length : Nat) := by rw [filled_len]; omega
          obtain ⟨ad, e, hx0, hx1, hx2, hx3, hx4, hx5, hx6, hx7⟩ := at_T44 hr9 j q0 q1
          injection e with e
          subst e
          simp only [Int.toNat_natCast, filled_at M cs j hlt] at hx0 hx1 hx2 hx3 hx4 hx5 hx6 hx7
          simp only [addr8] at hx0 hx1 hx2 hx3 hx4 hx5 hx6 hx7
          clear e9b e9c hl9 hr9 q1
          obtain ⟨x, HX⟩ : ∃ x, Aside0 (x = rd_T44 cs j) := ⟨_, ⟨rfl⟩⟩
          rw [← HX.out] at hx0 hx1 hx2 hx3 hx4 hx5 hx6 hx7
          obtain ⟨q, HQ⟩ : ∃ q, Aside0 ((mlook M x.f0.f0).getD 0 = q) := ⟨_, ⟨rfl⟩⟩
          have hlk := HJ.out.map.lookup key32 Try.underlying50 (zero3 _) x.f0.f0
          rw [HQ.out] at hlk
          unfold keyV at hlk
          have hxs := Aside0.mk (show ∀ k u, [Value.int .i64 x.f0.f0.f0, .int .i64 x.f0.f0.f1, .string x.f0.f0.f2, .int .i64 x.f0.f1, .int .i64 x.f0.f2, .int .i64 x.f1, .int .i64 x.f2, .int .i64 x.f3][k]? = some u → wr.cell? ⟨g, ((j : Int)).toNat * k44.sz + k, none⟩ = some u by
            intro k u hk
            match k, hk with
            | 0, hk => simp at hk; subst hk; exact hx0
            | 1, hk => simp at hk; subst hk; exact hx1
            | 2, hk => simp at hk; subst hk; exact hx2
            | 3, hk => simp at hk; subst hk; exact hx3
            | 4, hk => simp at hk; subst hk; exact hx4
            | 5, hk => simp at hk; subst hk; exact hx5
            | 6, hk => simp at hk; subst hk; exact hx6
            | 7, hk => simp at hk; subst hk; exact hx7
            | n + 8, hk => simp at hk)
          have hseg := Kd.R_seg (d := k44) (xs := filled M cs j) (x' := ({ x with f3 := q } : S44)) (seg := [.int .i64 q]) (c := [Value.int .i64 x.f0.f0.f0, .int .i64 x.f0.f0.f1, .string x.f0.f0.f2, .int .i64 x.f0.f1, .int .i64 x.f0.f2, .int .i64 x.f1, .int .i64 x.f2, .int .i64 x.f3]) (okp := fun k => k ≠ w.heap.size ∧ k ≠ g) (j := 7) HJ.out.own (j : Int) q0 (by omega) rfl hxs.out (Nat.le_refl 8) (k44_mkM _ _ _ _) (fun k hk => hk)
          obtain ⟨hrow, hgr⟩ := hseg
          have hfr : wr.frozen? ⟨g, j * 8 + 7, none⟩ = false := own_frozen HJ.out.own
          have HS := Aside0.mk (show Inv w (wr.setCell ⟨g, j * 8 + 7, none⟩ (.int .i64 q)) w.heap.size (.slice (some ⟨g, 0, none⟩) cs.length c8) (filled M cs (j + 1)) M from by
            have hg2 : w.heap.size ≤ g := own_ge HJ.out.own
            have hg3 : g ≠ w.heap.size := HJ.out.own.1 g rfl
            have hx9 := HX.out
            have hq9 := HQ.out
            refine ⟨HJ.out.below.setCell hg2 _, ?_, HJ.out.map.same (Below.heap_setCell _ _ _ _ (fun e => hg3 e.symm)), Nat.le_refl _⟩
            rw [← filled_step M cs j hlt, ← hx9, hq9]
            exact hrow)
          clear hrow hgr hxs
          go_wp2
          go_roundg (cs.length - (j + 1))
          case measure => have := HK.out; omega
          case rel => exact ⟨j + 1, by omega, by go_num, HS, ⟨rfl⟩⟩
        · obtain rfl : j = cs.length := by omega
          clear hlt hj HK
          obtain ⟨ds, HD⟩ : ∃ ds, Aside0 (ds = filled M cs cs.length) := ⟨_, ⟨rfl⟩⟩
          have hdl : ds.length = cs.length := by have := HD.out; rw [this, filled_len]
          have HDL := Aside0.mk hdl
          clear hdl
          rw [← HD.out] at HJ
          have hix : ∀ W : World, (Instr.index 52 (.agg #[.nilFunc, .func (.func 34) #[] #[], .func (.func 35) #[] #[], .func (.func 36) #[] #[], .func (.func 37) #[] #[], .func (.func 38) #[] #[], .func (.func 39) #[] #[]]) (.int .i64 by_)).run Try.prog W = .ok (.func (.func (33 + by_.toNat)) #[] #[]) W := index52 by_ h1 h6
          go_wp2_with (go_at_call 28; refine (rules_any _).mono ?_; rintro e w2 ⟨rfl, hb2⟩; have HK2 := Aside0.mk (HJ.out.on hb2); clear hb2)
          have hbox := Aside0.mk (show (w2.alloc (.cells #[.func (.func (33 + by_.toNat)) #[] #[]] 51)).cell? ⟨w2.heap.size, 0, none⟩ = some (.func (.func (33 + by_.toNat)) #[] #[]) by simp)
          have hown := Aside0.mk (Kd.R_alloc HK2.out.own (.cells #[.func (.func (33 + by_.toNat)) #[] #[]] 51))
          have hneb := Aside0.mk (show some w2.heap.size ≠ (Value.slice A8 cs.length c8).ownBlock from fun e => by
            have := own_lt' HK2.out.own _ e.symm
            omega)
          have hfin := Aside0.mk (below_alloc HK2.out.below (.cells #[.func (.func (33 + by_.toNat)) #[] #[]] 51))
          refine (sort_any by_ h1 h6 _ w.heap.size (fun k => k ≠ w.heap.size) A8 cs.length c8 ds hown.out w2.heap.size hbox.out hneb.out (by have := HDL.out; omega)).mono ?_
          rintro e w3 ⟨rfl, ys, hperm, hpair, hR, hg⟩
          have HF := Aside0.mk (show Kd.R k44 44 w3 w.heap.size (fun _ => True) (.slice A8 cs.length c8) (rankedL by_ l1 l2) ∧ Below w.heap.size w w3 from by
            have hds : ds = candsL l1 l2 := by rw [HD.out, HM.out, HCS.out]; rfl
            have hys : ys = rankedL by_ l1 l2 := sortC_unique (by rw [← hds]; exact hperm) hpair (candsL_inj l1 l2)
            rw [← hys]
            refine ⟨Kd.R_mono hR (fun _ _ => trivial), hfin.out.grown hg hfin.out.size (fun k hk => ?_)⟩
            exact own_base' hR k hk)
          clear hperm hpair hR hg
          go_wp2
          go_ret
          exact ⟨_, rfl, HF.out.1, HF.out.2⟩
end Go.Proofs.Ytegomjkgbeijlaa.Hand
