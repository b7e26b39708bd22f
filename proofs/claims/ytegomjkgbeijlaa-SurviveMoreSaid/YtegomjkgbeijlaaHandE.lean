/- survive.Others, walked: the indices of the first candidates of each value but the first one's. -/
import Derived.Test.YtegomjkgbeijlaaHandD
namespace Go.Proofs.Ytegomjkgbeijlaa.Hand
set_option linter.unusedSectionVars false
set_option linter.unnecessarySimpa false
open Go.RowKit Go.Proofs.Ytegomjkgbeijlaa.Sv Go.Proofs.YtegomjkgbeijlaaW.PrintWords Go.Proofs.YtegomjkgbeijlaaW.PrintLast MapK
set_option linter.unusedVariables false
set_option linter.unusedSimpArgs false
/-- The values among the first j candidates. -/
def seenM (s : List S44) : Nat → List (S32 × Bool)
  | 0 => []
  | j + 1 => mput (seenM s j) (rd_T44 s j).f0.f0 true
/-- What has been collected behind the first j candidates. -/
def outs (s : List S44) : Nat → List Int
  | 0 => []
  | j + 1 => if (decide (0 < (j : Int)) && !((mlook (seenM s j) (rd_T44 s j).f0.f0).getD false)) = true then outs s j ++ [(rd_T44 s j).f1] else outs s j
theorem outs_len (s : List S44) : ∀ j, (outs s j).length ≤ j
  | 0 => Nat.le_refl 0
  | j + 1 => by
    unfold outs
    have := outs_len s j
    split
    · simp; omega
    · omega
structure Inv2 (w wr : World) (Bm : Nat) (v v15 : Value) (s : List S44) (out : List Int) (M : List (S32 × Bool)) : Prop where
  below : Below w.heap.size w wr
  own : Kd.R (Kd.int .i64) 3 wr w.heap.size (fun k => k ≠ Bm) v out
  rank : Kd.R k44 44 wr w.heap.size (fun k => k ≠ Bm) v15 s
  map : MapIs keyV Value.bool wr Bm M
  base : w.heap.size ≤ Bm
theorem Inv2.on {w wr wr' : World} {Bm : Nat} {v v15 : Value} {s : List S44} {out : List Int} {M : List (S32 × Bool)} (h : Inv2 w wr Bm v v15 s out M) (hb : Below wr.heap.size wr wr') : Inv2 w wr' Bm v v15 s out M :=
  ⟨below_step h.below hb, Kd.R_below h.own hb, Kd.R_below h.rank hb, h.map.same (hb.block _ h.map.lt), h.base⟩
theorem Inv2.turned {w wr wr' : World} {Bm : Nat} {v v15 : Value} {s : List S44} {out : List Int} {M M' : List (S32 × Bool)} (h : Inv2 w wr Bm v v15 s out M) (hm : MapIs keyV Value.bool wr' Bm M') (hg : wr.grownBy wr' (some Bm)) : Inv2 w wr' Bm v v15 s out M' :=
  ⟨h.below.grown hg h.below.size (fun k hk => by cases hk; exact h.base), Kd.R_grown h.own hg (fun k hk => by simpa using hk), Kd.R_grown h.rank hg (fun k hk => by simpa using hk), hm, h.base⟩
theorem Inv2.appended {w wr wr' : World} {Bm : Nat} {v v' v15 : Value} {s : List S44} {out out' : List Int} {M : List (S32 × Bool)} (h : Inv2 w wr Bm v v15 s out M) (ho : Kd.R (Kd.int .i64) 3 wr' w.heap.size (fun k => k ≠ Bm) v' out') (hg : wr.grownBy wr' v.ownBlock) : Inv2 w wr' Bm v' v15 s out' M :=
  ⟨h.below.grown hg h.below.size (fun k hk => own_base' h.own k hk), ho, Kd.R_over' (v := v) h.rank (Kd.R_typed h.own) (by intro q hq; simp [k44, Kd.iso, Kd.pair, Kd.int, Kd.string, Kd.scalar, k34, k32] at hq; omega) hg,
    h.map.same (hg.block _ h.map.lt (fun e => h.own.1 _ e.symm rfl)), h.base⟩
theorem size_push1 (w : World) (o : Obj) : (w.alloc o).heap.size = w.heap.size + 1 := by simp
theorem zero4 (u : World) : (zeroValue 4).run Try.prog u = .ok (.bool false) u := by kernel_rfl
theorem info3 : (Try.prog.info? 3).map (fun i => (i.zero, i.size, i.bytes)) = some (some (.int .i64 0), 1, 8) := by kernel_rfl

def othersO (a0 : Int) (l1 : List (S34)) (l2 : List Int) : Option (List Int) := if l1.length ≤ 1000000 then some (outs (rankedA a0 l1 l2) (rankedA a0 l1 l2).length) else none
theorem ranked_len (a0 : Int) (l1 : List (S34)) (l2 : List Int) : (rankedA a0 l1 l2).length ≤ l1.length := by
  unfold rankedA
  split
  · unfold rankedL
    rw [(sortC_perm _ _).length_eq, candsL_eq, List.length_map]
    exact cands0_len _ _ _
  · simp
set_option maxHeartbeats 8000000 in
set_option maxRecDepth 100000 in
theorem others_calls (a0 : Int) (A1 : Option Addr) (c1 : Nat) (l1 : List (S34)) (A2 : Option Addr) (c2 : Nat) (l2 : List Int) (r : List Int) (w : World) (hr1 : Kd.C k34 w A1 l1.length l1) (hc1 : l1.length ≤ c1) (hr2 : Kd.C (Kd.int .i64) w A2 l2.length l2) (hc2 : l2.length ≤ c2) (h : othersO a0 l1 l2 = some r) :
    Calls Try.prog 15 #[.int .i64 a0, .slice A1 l1.length c1, .slice A2 l2.length c2] w fun e w' => ∃ v0_ : Value, e = .returned (v0_) ∧ Kd.R (Kd.int .i64) 3 w' w.heap.size (fun _ => True) v0_ r ∧ Below w.heap.size w w' := by
  unfold othersO at h
  by_cases hsz : l1.length ≤ 1000000
  · rw [if_pos hsz] at h
    obtain rfl := Option.some.inj h
    have hb0 := below_alloc (Below.refl w.heap.size w) (.map #[] 0)
    have HC := Aside0.mk (ranked_any a0 A1 c1 l1 A2 c2 l2 (w.alloc (.map #[] 0)) (Kd.C_below hr1 hb0) hc1 (Kd.C_below hr2 hb0) hc2 hsz)
    have HN := Aside0.mk (show (rankedA a0 l1 l2).length ≤ 1000000 from Nat.le_trans (ranked_len a0 l1 l2) hsz)
    have HB0 := Aside0.mk hb0
    have hmm := @run_makeMap Try.prog
    have hu34 := Try.underlying34
    have hu32 := Try.underlying32
    have hu44 := Try.underlying44
    have hsl := HN.out
    clear h hr1 hr2 hb0 HN
    generalize rankedA a0 l1 l2 = s at *
    go_enter Try.func15, Try.ntmps15
    go_wp2_with fail
    refine (HC.out).mono ?_
    rintro e w1 ⟨v, rfl, hR, hb⟩
    have hrk : Kd.R k44 44 w1 w.heap.size (fun k => k ≠ w.heap.size) v s := Kd.R_mono (Kd.R_lower (Kd.R_bound hR) (by simp)) (fun k hk => by
      obtain ⟨_, h2, _⟩ := hk
      simp at h2
      omega)
    have HI0 := Aside0.mk (show Inv2 w w1 w.heap.size (.slice none 0 0) v s [] [] from ⟨below_step HB0.out hb, Kd.R_nil _ _ _ _ _, hrk, (MapIs.made keyV Value.bool w).same (hb.block _ (by simp)), Nat.le_refl _⟩)
    clear hrk
    obtain ⟨A, c, hv, hl, _⟩ := Kd.R_reads hR
    subst hv
    clear hR hb
    go_wp2
    go_loopg [7, 17] s.length (fun kq v7 v17 w' => ∃ j : Nat, j ≤ s.length ∧ v17 = .int .i64 j ∧ Aside0 (Inv2 w w' w.heap.size v7 (.slice A s.length c) s (outs s j) (seenM s j)) ∧ Aside0 (kq = s.length - j))
    case atStart => exact ⟨0, Nat.zero_le _, rfl, HI0, ⟨rfl⟩⟩
    case round =>
      obtain ⟨j, hj, rfl, HI, HK⟩ := hrel
      by_cases hlt : j < s.length
      · have p0 : 0 ≤ (j : Int) := by omega
        have p1 : (j : Int) < s.length := by omega
        obtain ⟨A9, c9, e9, hl9, hr9⟩ := Kd.R_reads HI.out.rank
        injection e9 with e9a e9b e9c
        subst e9a
        obtain ⟨ad, e, hx0, hx1, hx2, hx3, hx4, hx5, hx6, hx7⟩ := at_T44 hr9 j p0 p1
        cases e
        simp only [Int.toNat_natCast] at hx0 hx1 hx2 hx3 hx4 hx5 hx6 hx7
        clear e9b e9c hl9 hr9
        obtain ⟨x, Hx⟩ : ∃ x, Aside0 (x = rd_T44 s j) := ⟨_, ⟨rfl⟩⟩
        rw [← Hx.out] at hx0 hx1 hx2 hx3 hx4 hx5 hx6 hx7
        obtain ⟨q, HQ⟩ : ∃ q, Aside0 ((mlook (seenM s j) x.f0.f0).getD false = q) := ⟨_, ⟨rfl⟩⟩
        have HI1 := Aside0.mk (HI.out.on (below_alloc (Below.refl wr.heap.size wr) (.cells #[.int .i64 x.f0.f0.f0, .int .i64 x.f0.f0.f1, .string x.f0.f0.f2, .int .i64 x.f0.f1, .int .i64 x.f0.f2, .int .i64 x.f1, .int .i64 x.f2, .int .i64 x.f3] 44)))
        have hlk := HI1.out.map.lookup key32 Try.underlying46 (zero4 _) x.f0.f0
        rw [HQ.out] at hlk
        unfold keyV at hlk
        have nxt : ∀ wz, Inv2 w wz w.heap.size u7 (.slice (some ad) s.length c) s (outs s (j + 1)) (mput (seenM s j) x.f0.f0 true) → Aside0 (Inv2 w wz w.heap.size u7 (.slice (some ad) s.length c) s (outs s (j + 1)) (seenM s (j + 1))) := fun wz hz => ⟨by rw [Hx.out] at hz; exact hz⟩
        have NXT := Aside0.mk nxt
        clear nxt
        by_cases hap : (decide (0 < (j : Int)) && !q) = true
        · have HO := Aside0.mk (show outs s (j + 1) = outs s j ++ [x.f1] by
            have h1 := Hx.out
            have h2 := HQ.out
            rw [h1] at h2 ⊢
            simp only [outs, h2]
            rw [if_pos hap])
          have hj0 : 0 < (j : Int) := by
            rw [Bool.and_eq_true] at hap
            exact of_decide_eq_true hap.1
          have hq : q = false := by
            rw [Bool.and_eq_true] at hap
            simpa using hap.2
          subst hq
          clear hap
          have hol := outs_len s j
          have HOL := Aside0.mk (show (outs s j).length ≤ 1000000 by omega)
          clear hol
          have HNE7 := Aside0.mk (show some wr.heap.size ≠ u7.ownBlock from fun e => by
            have := own_lt' HI.out.own _ e.symm
            omega)
          go_wp2_with (first | (at_builtin; refine Kd.R_append (P := Try.prog) (Kd.int .i64) (w0 := w) w.heap.size rfl (.tmp 32) (.tmp 35) 23 3 (.int .i64 0) 8 rfl Try.underlying23 info3 rfl (by decide) (by omega) u7 (outs s j) x.f1 [.int .i64 x.f1] (fun k => k ≠ w.heap.size) (fun _ => False) rfl ?aX ?aP (fun _ hk => hk.elim) ?aF ?aO ?aB ?aS ?aL ?_; (case aX => rw [size_push1]; rfl); (case aP => exact rfl); (case aF => exact (fun k hk => show k ≠ w.heap.size from Nat.ne_of_gt (Nat.lt_of_lt_of_le HI1.out.map.lt hk))); (case aO => exact HI1.out.own); (case aB => exact HI1.out.below); (case aS => exact HI1.out.below.size); (case aL => have := HOL.out; omega); intro v9 w9 ho9 hb9 hg9 hat9; have HI9 := Aside0.mk (HI1.out.appended ho9 hg9); have hy0 := cell_off (o := 0) (v := .int .i64 x.f0.f0.f0) hg9 HNE7.out (by simp); have hy1 := cell_off (o := 1) (v := .int .i64 x.f0.f0.f1) hg9 HNE7.out (by simp); have hy2 := cell_off (o := 2) (v := .string x.f0.f0.f2) hg9 HNE7.out (by simp); clear ho9 hb9 hg9 hat9) | (at_mapUpdate; refine wp_mapUpdate (P := Try.prog) (ek := keyV) (ev := Value.bool) rfl _ _ _ 46 rfl key32 Try.underlying46 w.heap.size _ rfl HI9.out.map x.f0.f0 true rfl rfl ?_; intro w3 hm3 hg3; have HI3 := Aside0.mk (HI9.out.turned hm3 hg3); clear hm3 hg3))
          go_roundg (s.length - (j + 1))
          case measure => have := HK.out; omega
          case rel => exact ⟨j + 1, by omega, by go_num, ⟨by rw [HO.out]; have h7 := HI3.out; rw [Hx.out] at h7 ⊢; exact h7⟩, ⟨rfl⟩⟩
        · have HO := Aside0.mk (show outs s (j + 1) = outs s j by
            have h1 := Hx.out
            have h2 := HQ.out
            rw [h1] at h2
            simp only [outs, h2]
            rw [if_neg hap])
          by_cases hj0 : 0 < (j : Int)
          · have hq : q = true := by
              cases q with
              | true => rfl
              | false => exact absurd (show (decide (0 < (j : Int)) && !false) = true by rw [decide_eq_true hj0]; rfl) hap
            subst hq
            clear hap
            go_wp2_with (at_mapUpdate; refine wp_mapUpdate (P := Try.prog) (ek := keyV) (ev := Value.bool) rfl _ _ _ 46 rfl key32 Try.underlying46 w.heap.size _ rfl HI1.out.map x.f0.f0 true rfl rfl ?_; intro w3 hm3 hg3; have HI3 := Aside0.mk (HI1.out.turned hm3 hg3); clear hm3 hg3)
            go_roundg (s.length - (j + 1))
            case measure => have := HK.out; omega
            case rel => exact ⟨j + 1, by omega, by go_num, NXT.out _ (by rw [HO.out]; exact HI3.out), ⟨rfl⟩⟩
          · clear hap
            go_wp2_with (at_mapUpdate; refine wp_mapUpdate (P := Try.prog) (ek := keyV) (ev := Value.bool) rfl _ _ _ 46 rfl key32 Try.underlying46 w.heap.size _ rfl HI1.out.map x.f0.f0 true rfl rfl ?_; intro w3 hm3 hg3; have HI3 := Aside0.mk (HI1.out.turned hm3 hg3); clear hm3 hg3)
            go_roundg (s.length - (j + 1))
            case measure => have := HK.out; omega
            case rel => exact ⟨j + 1, by omega, by go_num, NXT.out _ (by rw [HO.out]; exact HI3.out), ⟨rfl⟩⟩
      · obtain rfl : j = s.length := by omega
        clear hlt hj HK
        go_wp2
        go_ret
        exact ⟨_, rfl, Kd.R_mono HI.out.own (fun _ _ => trivial), HI.out.below⟩
  · rw [if_neg hsz] at h
    cases h
end Go.Proofs.Ytegomjkgbeijlaa.Hand
