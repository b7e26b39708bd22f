/- bond.Effective, walked: the last decision about each pair, but for those that leave it open, in order of the pairs. -/
import Derived.Test.YtocjknmojcgeiaaKey
import Derived.Test.YtocjknmojcgeiaaSrt
namespace Go.Proofs.Ytocjknmojcgeiaa.Hand
set_option linter.unusedSectionVars false
set_option linter.unnecessarySimpa false
open Go.RowKit Go.Proofs.Ytocjknmojcgeiaa.Bd Go.Proofs.YtocjknmojcgeiaaW.PrintWords Go.Proofs.YtocjknmojcgeiaaW.PrintLast MapK
set_option linter.unusedVariables false
set_option linter.unusedSimpArgs false
/-- A decision is formed. -/
def formedB (d : S39) : Bool := decide (1 ≤ d.f0) && decide (d.f0 ≤ 3) && decide (ordK d.f1 d.f2 < 0)
/-- The last formed decision about each pair, among the first i. -/
def lastM (l : List S39) : Nat → List ((S37 × S37) × S39)
  | 0 => []
  | i + 1 => if formedB (rd_T39 l i) = true then mput (lastM l i) ((rd_T39 l i).f1, (rd_T39 l i).f2) (rd_T39 l i) else lastM l i
/-- A decision that does not leave its pair open. -/
def shut (d : S39) : Bool := decide (d.f0 ≠ 3)
def sortDL (l : List S39) : List S39 := l.mergeSort (fun x y => decide (ordD x y ≤ 0))
def effL (l : List S39) : List S39 := sortDL (((lastM l l.length).map (·.2)).filter shut)
def effectiveO (l : List S39) : Option (List S39) := if l.length ≤ 1000000 then some (effL l) else none
theorem lastM_nodup (l : List S39) : ∀ i, ((lastM l i).map (·.1)).Nodup
  | 0 => by simp [lastM]
  | i + 1 => by
    unfold lastM
    split
    · exact mput_nodup (lastM_nodup l i) _ _
    · exact lastM_nodup l i
theorem lastM_len (l : List S39) : ∀ i, (lastM l i).length ≤ i
  | 0 => Nat.le_refl 0
  | i + 1 => by
    unfold lastM
    have := lastM_len l i
    have := mput_length (lastM l i) ((rd_T39 l i).f1, (rd_T39 l i).f2) (rd_T39 l i)
    split <;> omega
theorem mput_mem {κ β : Type} [DecidableEq κ] {M : List (κ × β)} {x : κ} {v : β} {p : κ × β} (h : p ∈ mput M x v) : p = (x, v) ∨ p ∈ M := by
  unfold mput at h
  split at h
  · rcases List.mem_or_eq_of_mem_set h with h | h
    · exact .inr h
    · exact .inl h
  · rcases List.mem_append.1 h with h | h
    · exact .inr h
    · exact .inl (by simpa using h)
theorem lastM_keys (l : List S39) : ∀ i, ∀ p ∈ lastM l i, p.1 = (p.2.f1, p.2.f2)
  | 0 => by simp [lastM]
  | i + 1 => by
    intro p hp
    unfold lastM at hp
    split at hp
    · rcases mput_mem hp with rfl | hp
      · rfl
      · exact lastM_keys l i p hp
    · exact lastM_keys l i p hp
theorem pair_inj {M : List ((S37 × S37) × S39)} (hn : (M.map (·.1)).Nodup) (hk : ∀ p ∈ M, p.1 = (p.2.f1, p.2.f2)) : ∀ x ∈ M.map (·.2), ∀ y ∈ M.map (·.2), x.f1 = y.f1 → x.f2 = y.f2 → x = y := by
  intro x hx y hy h1 h2
  obtain ⟨p, hp, rfl⟩ := List.mem_map.1 hx
  obtain ⟨q, hq, rfl⟩ := List.mem_map.1 hy
  have e : p.1 = q.1 := by rw [hk p hp, hk q hq, h1, h2]
  have hpm := (mlook_some hn (x := p.1) (v := p.2)).2 hp
  have hqm := (mlook_some hn (x := q.1) (v := q.2)).2 hq
  rw [e, hqm] at hpm
  exact (Option.some.inj hpm).symm
theorem sortDL_perm (l : List S39) : (sortDL l).Perm l := List.mergeSort_perm _ _
theorem sortDL_sorted (l : List S39) : (sortDL l).Pairwise (fun x y => ordD x y ≤ 0) := by
  have h := List.pairwise_mergeSort (le := fun x y => decide (ordD x y ≤ 0)) (fun a b c h1 h2 => by
    simp only [decide_eq_true_eq] at *
    exact ordD_cmp.trans a b c h1 h2) (fun a b => by
    simp only [Bool.or_eq_true, decide_eq_true_eq]
    have := ordD_cmp.anti a b
    omega) l
  exact h.imp (fun h => by simpa using h)
theorem sortDL_unique {l m : List S39} (hp : m.Perm l) (hs : m.Pairwise (fun x y => ordD x y ≤ 0)) (hn : ∀ x ∈ l, ∀ y ∈ l, x.f1 = y.f1 → x.f2 = y.f2 → x = y) : m = sortDL l := by
  refine List.Perm.eq_of_pairwise (le := fun x y => ordD x y ≤ 0) (fun a b ha hb h1 h2 => ?_) hs (sortDL_sorted l) (hp.trans (sortDL_perm l).symm)
  have h0 : ordD a b = 0 := by have := ordD_cmp.anti a b; omega
  obtain ⟨e1, e2⟩ := ordD_zero.1 h0
  exact hn a (hp.mem_iff.1 ha) b ((sortDL_perm l).mem_iff.1 hb) e1 e2

theorem cell_on {w w1 : World} {a : Addr} {v : Value} (hb : Below w.heap.size w w1) (h : w.cell? a = some v) : w1.cell? a = some v := (hb.cell (World.block_lt_of_cell? _ _ h)).trans h
theorem info39 : (Try.prog.info? 39).map (fun i => (i.zero, i.size, i.bytes)) = some (some (.agg #[.int .i64 0, .int .i64 0, .string ⟨#[]⟩, .string ⟨#[]⟩, .int .i64 0, .string ⟨#[]⟩, .string ⟨#[]⟩]), 7, 88) := by kernel_rfl
abbrev box39 (x : S39) : Obj := .cells #[.int .i64 x.f0, .int .i64 x.f1.f0, .string x.f1.f1, .string x.f1.f2, .int .i64 x.f2.f0, .string x.f2.f1, .string x.f2.f2] 39
structure Inv1 (w wr : World) (Bm : Nat) (M : List ((S37 × S37) × S39)) : Prop where
  below : Below w.heap.size w wr
  map : MapIs keyP valD wr Bm M
  base : w.heap.size ≤ Bm
theorem Inv1.on {w wr wr' : World} {Bm : Nat} {M : List ((S37 × S37) × S39)} (h : Inv1 w wr Bm M) (hb : Below wr.heap.size wr wr') : Inv1 w wr' Bm M :=
  ⟨below_step h.below hb, h.map.same (hb.block _ h.map.lt), h.base⟩
theorem Inv1.turned {w wr wr' : World} {Bm : Nat} {M M' : List ((S37 × S37) × S39)} (h : Inv1 w wr Bm M) (hm : MapIs keyP valD wr' Bm M') (hg : wr.grownBy wr' (some Bm)) : Inv1 w wr' Bm M' :=
  ⟨h.below.grown hg h.below.size (fun k hk => by cases hk; exact h.base), hm, h.base⟩
structure Inv2 (w wr : World) (Bm Br : Nat) (v : Value) (M left : List ((S37 × S37) × S39)) (out : List S39) : Prop where
  below : Below w.heap.size w wr
  own : Kd.R k39 39 wr w.heap.size (fun k => k ≠ Bm ∧ k ≠ Br) v out
  rng : RangeIs keyP valD wr Bm Br M left
  base : w.heap.size ≤ Bm
  base2 : w.heap.size ≤ Br
theorem Inv2.on {w wr wr' : World} {Bm Br : Nat} {v : Value} {M left : List ((S37 × S37) × S39)} {out : List S39} (h : Inv2 w wr Bm Br v M left out) (hb : Below wr.heap.size wr wr') : Inv2 w wr' Bm Br v M left out :=
  ⟨below_step h.below hb, Kd.R_below h.own hb, h.rng.same (hb.block _ h.rng.map.lt) (hb.block _ h.rng.lt), h.base, h.base2⟩
theorem Inv2.stepped {w wr wr' : World} {Bm Br : Nat} {v : Value} {M left left' : List ((S37 × S37) × S39)} {out : List S39} (h : Inv2 w wr Bm Br v M left out) (hr : RangeIs keyP valD wr' Bm Br M left') (hg : wr.grownBy wr' (some Br)) : Inv2 w wr' Bm Br v M left' out :=
  ⟨h.below.grown hg h.below.size (fun k hk => by cases hk; exact h.base2), Kd.R_grown h.own hg (fun k hk => by
    intro e
    have e' : k = Br := by injection e
    exact hk.2 e'), hr, h.base, h.base2⟩
theorem own_lt' {α : Type} {d : Kd α} {e : Nat} {w : World} {base : Nat} {ok : Nat → Prop} {v : Value} {xs : List α} (h : d.R e w base ok v xs) (k : Nat) (hk : v.ownBlock = some k) : k < w.heap.size := by
  obtain ⟨_, inner, ho, _⟩ := h
  exact own_lt ho k hk
theorem own_base' {α : Type} {d : Kd α} {e : Nat} {w : World} {base : Nat} {ok : Nat → Prop} {v : Value} {xs : List α} (h : d.R e w base ok v xs) (k : Nat) (hk : v.ownBlock = some k) : base ≤ k := by
  obtain ⟨_, inner, ho, _⟩ := h
  exact own_base ho k hk
theorem Inv2.appended {w wr wr' : World} {Bm Br : Nat} {v v' : Value} {M left : List ((S37 × S37) × S39)} {out out' : List S39} (h : Inv2 w wr Bm Br v M left out) (ho : Kd.R k39 39 wr' w.heap.size (fun k => k ≠ Bm ∧ k ≠ Br) v' out') (hg : wr.grownBy wr' v.ownBlock) : Inv2 w wr' Bm Br v' M left out' :=
  ⟨h.below.grown hg h.below.size (fun k hk => own_base' h.own k hk), ho, h.rng.kept hg (fun e => (h.own.1 _ e.symm).1 rfl) (fun e => (h.own.1 _ e.symm).2 rfl), h.base, h.base2⟩
theorem box_cells {w w2 : World} {x : S39} (hb : Below (w.alloc (box39 x)).heap.size (w.alloc (box39 x)) w2) :
    w2.cell? ⟨w.heap.size, 0, none⟩ = some (.int .i64 x.f0) ∧ w2.cell? ⟨w.heap.size, 1, none⟩ = some (.int .i64 x.f1.f0) ∧ w2.cell? ⟨w.heap.size, 2, none⟩ = some (.string x.f1.f1) ∧ w2.cell? ⟨w.heap.size, 3, none⟩ = some (.string x.f1.f2) ∧ w2.cell? ⟨w.heap.size, 4, none⟩ = some (.int .i64 x.f2.f0) ∧ w2.cell? ⟨w.heap.size, 5, none⟩ = some (.string x.f2.f1) ∧ w2.cell? ⟨w.heap.size, 6, none⟩ = some (.string x.f2.f2) :=
  ⟨cell_on hb (by simp), cell_on hb (by simp), cell_on hb (by simp), cell_on hb (by simp), cell_on hb (by simp), cell_on hb (by simp), cell_on hb (by simp)⟩
theorem size_push1 (w : World) (o : Obj) : (w.alloc o).heap.size = w.heap.size + 1 := by simp
theorem last_no {l : List S39} {i : Nat} (h : formedB (rd_T39 l i) = false) : lastM l (i + 1) = lastM l i := by simp [lastM, h]
theorem last_yes {l : List S39} {i : Nat} (h : formedB (rd_T39 l i) = true) : lastM l (i + 1) = mput (lastM l i) ((rd_T39 l i).f1, (rd_T39 l i).f2) (rd_T39 l i) := by simp [lastM, h]
set_option maxHeartbeats 8000000 in
set_option maxRecDepth 100000 in
theorem effective_any (A0 : Option Addr) (c0 : Nat) (l : List S39) (w : World) (hr0 : Kd.C k39 w A0 l.length l) (hc0 : l.length ≤ c0) (hsz : l.length ≤ 1000000) :
    Calls Try.prog 16 #[.slice A0 l.length c0] w fun e w' => ∃ v0_ : Value, e = .returned (v0_) ∧ Kd.R k39 39 w' w.heap.size (fun _ => True) v0_ (effL l) ∧ Below w.heap.size w w' := by
  have hu39 := Try.underlying39
  have hu37 := Try.underlying37
  have hu57 := Try.underlying57
  have hmm := @run_makeMap Try.prog
  have HR := Aside0.mk hr0
  clear hr0
  go_enter Try.func16, Try.ntmps16
  go_wp2
  go_loopg [12] l.length (fun kq v12 w' => ∃ i : Nat, i ≤ l.length ∧ v12 = .int .i64 i ∧ Aside0 (Inv1 w w' w.heap.size (lastM l i)) ∧ Aside0 (kq = l.length - i))
  case atStart => exact ⟨0, Nat.zero_le _, rfl, ⟨⟨below_alloc (Below.refl _ _) _, MapIs.made _ _ _, Nat.le_refl _⟩⟩, ⟨rfl⟩⟩
  case round =>
    obtain ⟨i, hi, rfl, HI, HK⟩ := hrel
    by_cases hlt : i < l.length
    · have p0 : 0 ≤ (i : Int) := by omega
      have p1 : (i : Int) < l.length := by omega
      obtain ⟨ad, e, hx0, hx1, hx2, hx3, hx4, hx5, hx6⟩ := at_T39 HR.out i p0 p1
      cases e
      simp only [Int.toNat_natCast] at hx0 hx1 hx2 hx3 hx4 hx5 hx6
      replace hx0 := (HI.out.below.cell (World.block_lt_of_cell? w _ hx0)).trans hx0
      replace hx1 := (HI.out.below.cell (World.block_lt_of_cell? w _ hx1)).trans hx1
      replace hx2 := (HI.out.below.cell (World.block_lt_of_cell? w _ hx2)).trans hx2
      replace hx3 := (HI.out.below.cell (World.block_lt_of_cell? w _ hx3)).trans hx3
      replace hx4 := (HI.out.below.cell (World.block_lt_of_cell? w _ hx4)).trans hx4
      replace hx5 := (HI.out.below.cell (World.block_lt_of_cell? w _ hx5)).trans hx5
      replace hx6 := (HI.out.below.cell (World.block_lt_of_cell? w _ hx6)).trans hx6
      obtain ⟨x, Hx⟩ : ∃ x, Aside0 (x = rd_T39 l i) := ⟨_, ⟨rfl⟩⟩
      rw [← Hx.out] at hx0 hx1 hx2 hx3 hx4 hx5 hx6
      have HW1 := Aside0.mk (HI.out.on (below_alloc (Below.refl wr.heap.size wr) (box39 x)))
      have SK := Aside0.mk (show ∀ wz : World, Inv1 w wz w.heap.size (lastM l i) → formedB x = false → Inv1 w wz w.heap.size (lastM l (i + 1)) from fun wz h hc => by rw [Hx.out] at hc; rw [last_no hc]; exact h)
      have SY := Aside0.mk (show ∀ wz : World, Inv1 w wz w.heap.size (mput (lastM l i) (x.f1, x.f2) x) → formedB x = true → Inv1 w wz w.heap.size (lastM l (i + 1)) from fun wz h hc => by rw [Hx.out] at hc h; rw [last_yes hc]; exact h)
      by_cases h1 : 1 ≤ x.f0
      · by_cases h3 : x.f0 ≤ 3
        · obtain ⟨q, Hq⟩ : ∃ q, Aside0 (ordK x.f1 x.f2 = q) := ⟨_, ⟨rfl⟩⟩
          have HO : Aside0 (∀ W, Calls Try.prog 30 #[.agg #[.int .i64 x.f1.f0, .string x.f1.f1, .string x.f1.f2], .agg #[.int .i64 x.f2.f0, .string x.f2.f1, .string x.f2.f2]] W fun e w' => e = .returned (.int .i64 q) ∧ Grew W w') := ⟨fun W => by rw [← Hq.out]; exact order_any _ _ W⟩
          by_cases ho : q < 0
          · have HF := Aside0.mk (show formedB x = true by unfold formedB; rw [Hq.out, decide_eq_true h1, decide_eq_true h3, decide_eq_true ho]; rfl)
            go_wp2_with (first | (go_at_call 30; refine (HO.out _).mono ?_; rintro e w2 ⟨rfl, hg2⟩; have HI2 := Aside0.mk (HW1.out.on hg2.below); obtain ⟨hz0, hz1, hz2, hz3, hz4, hz5, hz6⟩ := box_cells hg2.below; clear hg2) | (at_mapUpdate; refine wp_mapUpdate (P := Try.prog) (ek := keyP) (ev := valD) rfl _ _ _ 55 rfl key57 Try.underlying55 w.heap.size _ rfl HI2.out.map (x.f1, x.f2) x rfl rfl ?_; intro w3 hm3 hg3; have HI3 := Aside0.mk (HI2.out.turned hm3 hg3); clear hm3 hg3))
            go_roundg (l.length - (i + 1))
            case measure => have := HK.out; omega
            case rel => exact ⟨i + 1, by omega, by go_num, ⟨SY.out _ HI3.out HF.out⟩, ⟨rfl⟩⟩
          · have HF := Aside0.mk (show formedB x = false by unfold formedB; rw [Hq.out, decide_eq_false ho, Bool.and_false])
            go_wp2_with (go_at_call 30; refine (HO.out _).mono ?_; rintro e w2 ⟨rfl, hg2⟩; have HI2 := Aside0.mk (HW1.out.on hg2.below); clear hg2)
            go_roundg (l.length - (i + 1))
            case measure => have := HK.out; omega
            case rel => exact ⟨i + 1, by omega, by go_num, ⟨SK.out _ HI2.out HF.out⟩, ⟨rfl⟩⟩
        · have HF := Aside0.mk (show formedB x = false by unfold formedB; rw [decide_eq_false h3]; simp)
          go_wp2
          go_roundg (l.length - (i + 1))
          case measure => have := HK.out; omega
          case rel => exact ⟨i + 1, by omega, by go_num, ⟨SK.out _ HW1.out HF.out⟩, ⟨rfl⟩⟩
      · have HF := Aside0.mk (show formedB x = false by unfold formedB; rw [decide_eq_false h1]; simp)
        go_wp2
        go_roundg (l.length - (i + 1))
        case measure => have := HK.out; omega
        case rel => exact ⟨i + 1, by omega, by go_num, ⟨SK.out _ HW1.out HF.out⟩, ⟨rfl⟩⟩
    · obtain rfl : i = l.length := by omega
      clear hlt hi HK
      obtain ⟨w1, hrun1, hR1, hg1, hs1⟩ := HI.out.map.range (P := Try.prog) Try.underlying55
      have HI1 : Aside0 (Inv2 w w1 w.heap.size wr.heap.size (.slice none 0 0) (lastM l l.length) (lastM l l.length) []) := ⟨⟨HI.out.below.grown hg1 HI.out.below.size (fun k hk => by cases hk), Kd.R_nil _ _ _ _ _, hR1, Nat.le_refl _, HI.out.below.size⟩⟩
      have HML := Aside0.mk (lastM_len l l.length)
      have HMN := Aside0.mk (lastM_nodup l l.length)
      have HMK := Aside0.mk (lastM_keys l l.length)
      have HE : Aside0 (effL l = sortDL (((lastM l l.length).map (·.2)).filter shut)) := ⟨rfl⟩
      clear hR1 hg1 hs1 HI
      generalize lastM l l.length = M at *
      obtain ⟨Br, hBr⟩ : ∃ Br, wr.heap.size = Br := ⟨_, rfl⟩
      rw [hBr] at hrun1 HI1
      clear hBr
      go_wp2
      clear hrun1
      go_loopg [6] M.length (fun kq v6 w' => ∃ (done left : List ((S37 × S37) × S39)), Aside0 ((done ++ left).Perm M) ∧ Aside0 (Inv2 w w' w.heap.size Br v6 M left ((done.map (·.2)).filter shut)) ∧ Aside0 (kq = left.length))
      case atStart => exact ⟨[], M, ⟨List.Perm.refl _⟩, HI1, ⟨rfl⟩⟩
      case round =>
        obtain ⟨done, left, HP, HI2, HK2⟩ := hrel
        have HOL : Aside0 (((done.map (·.2)).filter shut).length ≤ 1000000) := ⟨by
          have h1 := List.length_filter_le shut (done.map (·.2))
          have h2 := HP.out.length_eq
          have h3 := HML.out
          rw [List.length_append] at h2
          rw [List.length_map] at h1
          omega⟩
        rcases HI2.out.rng.next (P := Try.prog) 0 with ⟨hl0, hrun⟩ | ⟨pre, pp, post, w2, hleft, hrun, hR2, hg2, hs2, hent⟩
        · subst hl0
          have HD := Aside0.mk (show done.Perm M by have := HP.out; rwa [List.append_nil] at this)
          clear HP HK2
          obtain ⟨A, c, hv, hl, _⟩ := Kd.R_reads HI2.out.own
          subst hv
          obtain ⟨out, Hout⟩ : ∃ out, Aside0 ((done.map (·.2)).filter shut = out) := ⟨_, ⟨rfl⟩⟩
          rw [Hout.out] at HI2 HOL
          rw [Hout.out]
          go_wp2_with fail
          refine (sortD_any _ w.heap.size _ A _ c out HI2.out.own HOL.out).mono ?_
          rintro e w3 ⟨rfl, ys, hperm, hpair, hR, hg⟩
          have HF := Aside0.mk (show Kd.R k39 39 w3 w.heap.size (fun _ => True) (.slice A out.length c) (effL l) ∧ Below w.heap.size w w3 from by
            have hys : ys = effL l := by
              rw [HE.out]
              have hp2 : out.Perm ((M.map (·.2)).filter shut) := by rw [← Hout.out]; exact (HD.out.map _).filter _
              refine sortDL_unique (hperm.trans hp2) hpair (fun x hx y hy h1 h2 => ?_)
              exact pair_inj HMN.out HMK.out x (List.mem_filter.1 hx).1 y (List.mem_filter.1 hy).1 h1 h2
            rw [← hys]
            exact ⟨Kd.R_mono hR (fun _ _ => trivial), HI2.out.below.grown hg HI2.out.below.size (fun k hk => own_base' HI2.out.own k hk)⟩)
          clear hperm hpair hR hg
          go_wp2
          go_ret
          exact ⟨_, rfl, HF.out.1, HF.out.2⟩
        · have he := hent w2 rfl rfl
          have HI3 := Aside0.mk (HI2.out.stepped hR2 hg2)
          obtain ⟨⟨ka, kb⟩, d⟩ := pp
          simp only [keyP, valD] at hrun he
          have HI4 := Aside0.mk (HI3.out.on (below_alloc (Below.refl w2.heap.size w2) (box39 d)))
          have HL := Aside0.mk hleft
          have HPD := Aside0.mk (show ((done ++ [((ka, kb), d)]) ++ (pre ++ post)).Perm M from by
            have h := HP.out
            rw [hleft] at h
            refine List.Perm.trans ?_ h
            rw [List.append_assoc]
            exact (List.perm_middle (a := ((ka, kb), d)) (l₁ := pre) (l₂ := post)).symm.append_left done)
          clear hR2 hg2 hs2 hent hleft HP
          by_cases hd : d.f0 = 3
          · have HOUT := Aside0.mk (show ((done ++ [((ka, kb), d)]).map (·.2)).filter shut = (done.map (·.2)).filter shut by
              rw [List.map_append, List.filter_append]
              simp [shut, hd])
            have hd1 : (d.f0 != 3) = false := by simp [hd]
            clear hd
            go_wp2
            go_roundg (pre ++ post).length
            case measure => have := HK2.out; have h9 := HL.out; rw [this, h9]; simp
            case rel => exact ⟨done ++ [((ka, kb), d)], pre ++ post, HPD, ⟨by rw [HOUT.out]; exact HI4.out⟩, ⟨rfl⟩⟩
          · have HOUT := Aside0.mk (show ((done ++ [((ka, kb), d)]).map (·.2)).filter shut = (done.map (·.2)).filter shut ++ [d] by
              rw [List.map_append, List.filter_append]
              simp [shut, hd])
            have hd1 : (d.f0 != 3) = true := by simpa using hd
            clear hd
            go_wp2_with (at_builtin; refine Kd.R_append (P := Try.prog) k39 (w0 := w) w.heap.size rfl (.tmp 49) (.tmp 51) 23 39 (.agg #[.int .i64 0, .int .i64 0, .string ⟨#[]⟩, .string ⟨#[]⟩, .int .i64 0, .string ⟨#[]⟩, .string ⟨#[]⟩]) 88 rfl Try.underlying23 info39 rfl (by decide) (by decide) u6 ((done.map (·.2)).filter shut) d (cells39 d) (fun k => k ≠ w.heap.size ∧ k ≠ Br) (fun _ => False) rfl ?aX ?aP (fun _ hk => hk.elim) ?aF ?aO ?aB ?aS ?aL ?_; (case aX => rw [size_push1]; rfl); (case aP => exact (k39_mkM _ _ _ _)); (case aF => exact (fun k hk => ⟨Nat.ne_of_gt (Nat.lt_of_lt_of_le HI4.out.rng.map.lt hk), Nat.ne_of_gt (Nat.lt_of_lt_of_le HI4.out.rng.lt hk)⟩)); (case aO => exact HI4.out.own); (case aB => exact HI4.out.below); (case aS => exact HI4.out.below.size); (case aL => have := HOL.out; omega); intro v9 w9 ho9 hb9 hg9 hat9; have HI9 := Aside0.mk (HI4.out.appended ho9 hg9); clear ho9 hb9 hg9 hat9)
            go_roundg (pre ++ post).length
            case measure => have := HK2.out; have h9 := HL.out; rw [this, h9]; simp
            case rel => exact ⟨done ++ [((ka, kb), d)], pre ++ post, HPD, ⟨by rw [HOUT.out]; exact HI9.out⟩, ⟨rfl⟩⟩
theorem effective_calls (A0 : Option Addr) (c0 : Nat) (l0 : List (S39)) (r : List (S39)) (w : World) (hr0 : Kd.C k39 w A0 l0.length l0) (hc0 : l0.length ≤ c0) (h : effectiveO l0 = some r) :
    Calls Try.prog 16 #[.slice A0 l0.length c0] w fun e w' => ∃ v0_ : Value, e = .returned (v0_) ∧ Kd.R k39 39 w' w.heap.size (fun _ => True) v0_ r ∧ Below w.heap.size w w' := by
  unfold effectiveO at h
  by_cases hsz : l0.length ≤ 1000000
  · rw [if_pos hsz] at h
    obtain rfl := Option.some.inj h
    exact effective_any A0 c0 l0 w hr0 hc0 hsz
  · rw [if_neg hsz] at h
    cases h
end Go.Proofs.Ytocjknmojcgeiaa.Hand
