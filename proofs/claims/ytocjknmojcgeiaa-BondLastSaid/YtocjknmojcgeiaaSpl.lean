/- bond.split, walked: the classes that the decisions 'same' make, and the pairs of records that are decided to be different. -/
import Derived.Test.YtocjknmojcgeiaaHdJn
import Derived.Lib.SliceRun
namespace Go.Proofs.Ytocjknmojcgeiaa.Hand
set_option linter.unusedSectionVars false
set_option linter.unnecessarySimpa false
open Go.RowKit Go.Proofs.Ytocjknmojcgeiaa.Bd Go.Proofs.YtocjknmojcgeiaaW.PrintWords Go.Proofs.YtocjknmojcgeiaaW.PrintLast MapK
set_option linter.unusedVariables false
set_option linter.unusedSimpArgs false
theorem own_form {α : Type} {d : Kd α} {e : Nat} {w : World} {base : Nat} {ok : Nat → Prop} {v : Value} {xs : List α} {b : Nat} (h : d.R e w base ok v xs) (hb : v.ownBlock = some b) : ∃ c, v = .slice (some ⟨b, 0, none⟩) xs.length c ∧ base ≤ b ∧ b < w.heap.size := by
  have h1 := own_lt' h b hb
  have h2 := own_base' h b hb
  obtain ⟨hok, inner, ho, hr⟩ := h
  rcases ho.2 with ⟨hv, hx⟩ | ⟨g, cap, cur, hv, _⟩
  · rw [hv] at hb; cases hb
  · rw [hv] at hb
    simp [Value.ownBlock] at hb
    subst hb
    exact ⟨cap, hv, h2, h1⟩
theorem info3 : (Try.prog.info? 3).map (fun i => (i.zero, i.size, i.bytes)) = some (some (.int .i64 0), 1, 8) := by kernel_rfl
theorem info48 : (Try.prog.info? 48).map (fun i => (i.zero, i.size, i.bytes)) = some (some (.agg #[.int .i64 0, .int .i64 0]), 2, 16) := by kernel_rfl
/-- The first i records are classes of their own. -/
def fillI (n i : Nat) : List Int := (List.range i).map (fun j : Nat => (j : Int)) ++ List.replicate (n - i) 0
theorem fillI_len {n i : Nat} (h : i ≤ n) : (fillI n i).length = n := by simp [fillI]; omega
theorem fillI_set {n i : Nat} (h : i < n) : (fillI n i).set i (i : Int) = fillI n (i + 1) := by
  unfold fillI
  rw [List.set_append_right _ _ (by simp), List.length_map, List.length_range, Nat.sub_self, List.range_succ, List.map_append, List.append_assoc]
  obtain ⟨m, hm⟩ : ∃ m, n - i = m + 1 := ⟨n - i - 1, by omega⟩
  rw [hm, show n - (i + 1) = m by omega, List.replicate_succ, List.set_cons_zero]
  rfl
theorem fillI_all (n : Nat) : fillI n n = (List.range n).map (fun j : Nat => (j : Int)) := by simp [fillI]
def pairOf (a b : Int) : S48 := ⟨min a b, max a b⟩
/-- One more pair, behind the pointer that the closure has. -/
structure Prs (w : World) (base : Nat) (ok : Nat → Prop) (B : Nat) (v : Value) (ps : List S48) : Prop where
  cell : w.heap[B]? = some (.cells #[v] 27 (0, 0))
  own : Kd.R k48 48 w base ok v ps
  okB : ¬ ok B
/-- What one call of the closure does to the heap. -/
structure Touch (w w' : World) (S : Nat → Prop) : Prop where
  os : w'.os = w.os
  tape : w'.tape = w.tape
  output : w'.output = w.output
  size : w.heap.size ≤ w'.heap.size
  block : ∀ k, k < w.heap.size → ¬ S k → w'.heap[k]? = w.heap[k]?
theorem Touch.below {w0 w w' : World} {S : Nat → Prop} (h : Touch w w' S) (hb : Below w0.heap.size w0 w) (hS : ∀ k, S k → w0.heap.size ≤ k) : Below w0.heap.size w0 w' :=
  ⟨h.os.trans hb.os, h.tape.trans hb.tape, h.output.trans hb.output, Nat.le_trans hb.size h.size, fun k hk => (h.block k (Nat.lt_of_lt_of_le hk hb.size) (fun hs => by have := hS k hs; omega)).trans (hb.block k hk)⟩
set_option maxHeartbeats 4000000 in
set_option maxRecDepth 100000 in
theorem closure40 (w : World) (base : Nat) (ok : Nat → Prop) (B : Nat) (v : Value) (ps : List S48) (H : Prs w base ok B v ps) (hbase : base ≤ w.heap.size) (hfresh : ∀ k, w.heap.size ≤ k → ok k) (hlen : ps.length ≤ 1000000) (a b : Int) :
    Calls Try.prog 40 #[.int .i64 a, .int .i64 b, .pointer (some ⟨B, 0, none⟩)] w fun e w' => e = .returned (.tuple #[]) ∧ ∃ v', Prs w' base ok B v' (ps ++ [pairOf a b]) ∧ Touch w w' (fun k => k = B ∨ some k = v.ownBlock) ∧ ∃ w9, w.grownBy w9 v.ownBlock ∧ w9.heap[B]? = some (.cells #[v] 27 (0, 0)) ∧ w' = w9.setCell ⟨B, 0, none⟩ v' := by
  have hu48 := Try.underlying48
  have hc := blk_cell H.cell 0
  have hf := blk_frozen H.cell 0
  simp at hc
  have HH := Aside0.mk H
  have hlt : B < w.heap.size := (Array.getElem?_eq_some_iff.1 H.cell).1
  obtain ⟨A, c, hv, _⟩ := Kd.R_reads H.own
  subst hv
  clear H
  have HNE := Aside0.mk (show some B ≠ (Value.slice A ps.length c).ownBlock from fun e => HH.out.okB (HH.out.own.1 _ e.symm))
  go_enter Try.func40, Try.ntmps40
  go_wp2_with (at_builtin; refine Kd.R_append (P := Try.prog) k48 (w0 := w) base rfl (.tmp 5) (.tmp 13) 27 48 (.agg #[.int .i64 0, .int .i64 0]) 16 rfl Try.underlying27 info48 rfl (by decide) (by decide) (.slice A ps.length c) ps (pairOf a b) [.int .i64 (min a b), .int .i64 (max a b)] ok (fun _ => False) rfl ?aX ?aP (fun _ hk => hk.elim) ?aF ?aO ?aB ?aS ?aL ?_; (case aX => rfl); (case aP => exact (k48_mkM _ _ _ _)); (case aF => exact hfresh); (case aO => exact HH.out.own); (case aB => exact Below.refl _ _); (case aS => exact hbase); (case aL => omega); intro v9 w9 ho9 hb9 hg9 hat9; have HB9 := Aside0.mk ((hg9.block B hlt HNE.out).trans HH.out.cell); obtain ⟨A9, c9, hv9, _⟩ := Kd.R_reads ho9; rw [List.length_append, List.length_singleton] at hv9; subst hv9; have HO9 := Aside0.mk ho9; have HG9 := Aside0.mk hg9; have hc9 := blk_cell HB9.out 0; have hf9 := blk_frozen HB9.out 0; simp at hc9; clear ho9 hb9 hg9 hat9)
  go_end0
  refine ⟨rfl, .slice A9 (ps.length + 1) c9, ⟨blk_put HB9.out 0 _ (by simp), Kd.R_far (p := ⟨B, 0, none⟩) HO9.out (fun k hk (e : k = B) => HH.out.okB (e ▸ hk)) _, HH.out.okB⟩, ?_, _, HG9.out, HB9.out, rfl⟩
  refine ⟨HG9.out.os, HG9.out.tape, HG9.out.output, by have := HG9.out.size; simpa [World.setCell] using this, fun k hk hS => ?_⟩
  have h1 : k ≠ B := fun e => hS (.inl e)
  have h2 : some k ≠ (Value.slice A ps.length c).ownBlock := fun e => hS (.inr e)
  exact (Below.heap_setCell _ _ _ k h1).trans (HG9.out.block k hk h2)
def stepJ (ρ : Nat → Nat) (a b : Int) : Nat → Nat := joinF ρ a.toNat b.toNat
def stepP (ps : List S48) (a b : Int) : List S48 := ps ++ [pairOf a b]
def rootsL (r : List S66) (l : List S39) : Nat → Nat := eachF (idxM r r.length) 1 stepJ (effL l) id (effL l).length
def pairsL (r : List S66) (l : List S39) : List S48 := eachF (idxM r r.length) 2 stepP (effL l) [] (effL l).length
theorem pairs_len (M : List (S37 × Int)) (k : Int) (l : List S39) : ∀ i, (eachF M k stepP l [] i).length ≤ i
  | 0 => Nat.le_refl 0
  | i + 1 => by
    have := pairs_len M k l i
    rw [eachF]
    split
    · simp [stepP]; omega
    · omega
theorem effL_len (l : List S39) : (effL l).length ≤ l.length := by
  unfold effL
  rw [(sortDL_perm _).length_eq]
  have h1 := List.length_filter_le shut ((lastM l l.length).map (·.2))
  rw [List.length_map] at h1
  exact Nat.le_trans h1 (lastM_len l l.length)
theorem ty39 : ∀ q, q ∈ 39 :: k39.E → q ≠ 48 := by
  intro q hq
  simp [k39, k37, Kd.iso, Kd.pair, Kd.int, Kd.string, Kd.scalar] at hq
  omega
theorem ty39' : ∀ q, q ∈ 39 :: k39.E → q ≠ 27 := by
  intro q hq
  simp [k39, k37, Kd.iso, Kd.pair, Kd.int, Kd.string, Kd.scalar] at hq
  omega
theorem ty39'' : ∀ q, q ∈ 39 :: k39.E → q ≠ 3 := by
  intro q hq
  simp [k39, k37, Kd.iso, Kd.pair, Kd.int, Kd.string, Kd.scalar] at hq
  omega
theorem ty3 : ∀ q, q ∈ 3 :: (Kd.int .i64).E → q ≠ 48 := by
  intro q hq
  simp [Kd.int, Kd.scalar] at hq
  omega
theorem ty3' : ∀ q, q ∈ 3 :: (Kd.int .i64).E → q ≠ 27 := by
  intro q hq
  simp [Kd.int, Kd.scalar] at hq
  omega
theorem ty48 : ∀ q, q ∈ 48 :: k48.E → q ≠ 3 := by
  intro q hq
  simp [k48, Kd.iso, Kd.pair, Kd.int, Kd.scalar] at hq
  omega
structure InvJ (w : World) (g n c : Nat) (vf : Value) (fl : List S39) (ρ : Nat → Nat) (W : World) : Prop where
  cls : ∃ cs, Cls W w.heap.size (fun _ => True) g n c cs ρ
  frc : Kd.R k39 39 W w.heap.size (fun _ => True) vf fl
  below : Below w.heap.size w W
  base : w.heap.size ≤ g
theorem InvJ.on {w W W' : World} {g n c : Nat} {vf : Value} {fl : List S39} {ρ : Nat → Nat} (h : InvJ w g n c vf fl ρ W) (hb : Below W.heap.size W W') : InvJ w g n c vf fl ρ W' := by
  obtain ⟨⟨cs, h1⟩, h2, h3, h4⟩ := h
  exact ⟨⟨cs, h1.kept hb⟩, Kd.R_below h2 hb, below_step h3 hb, h4⟩
structure InvP (w : World) (g n c : Nat) (vf : Value) (fl : List S39) (ρ : Nat → Nat) (B Bm : Nat) (ps : List S48) (W : World) : Prop where
  j : InvJ w g n c vf fl ρ W
  prs : ∃ v, Prs W w.heap.size (fun k => k ≠ B ∧ k ≠ Bm) B v ps
  baseB : w.heap.size ≤ B
theorem InvP.on {w W W' : World} {g n c : Nat} {vf : Value} {fl : List S39} {ρ : Nat → Nat} {B Bm : Nat} {ps : List S48} (h : InvP w g n c vf fl ρ B Bm ps W) (hb : Below W.heap.size W W') : InvP w g n c vf fl ρ B Bm ps W' := by
  obtain ⟨h1, ⟨v, h2⟩, h3⟩ := h
  exact ⟨h1.on hb, ⟨v, (hb.block _ (Array.getElem?_eq_some_iff.1 h2.cell).1).trans h2.cell, Kd.R_below h2.own hb, h2.okB⟩, h3⟩
set_option maxHeartbeats 8000000 in
set_option maxRecDepth 100000 in
theorem split_any (A0 : Option Addr) (c0 : Nat) (r : List S66) (A1 : Option Addr) (c1 : Nat) (l : List S39) (w : World) (hr0 : Kd.C k66 w A0 r.length r) (hc0 : r.length ≤ c0) (hr1 : Kd.C k39 w A1 l.length l) (hc1 : l.length ≤ c1) (hsz : r.length ≤ 1000000) (hsz2 : l.length ≤ 1000000) :
    Calls Try.prog 26 #[.slice A0 r.length c0, .slice A1 l.length c1] w fun e w' => ∃ (g c : Nat) (cs : List Int) (vp : Value), e = .returned (.tuple #[.slice (some ⟨g, 0, none⟩) r.length c, vp]) ∧
      Cls w' w.heap.size (fun _ => True) g r.length c cs (rootsL r l) ∧ Kd.R k48 48 w' w.heap.size (fun _ => True) vp (pairsL r l) ∧ Below w.heap.size w w' ∧ w.heap.size ≤ g := by
  have HR0 := Aside0.mk hr0
  have HR1 := Aside0.mk hr1
  clear hr0 hr1
  go_enter Try.func26, Try.ntmps26
  go_wp2_with ((with_reducible refine gate_dst (N := 12) rfl ?_); refine Kd.R_make (P := Try.prog) (Kd.int .i64) (w0 := w) w.heap.size 3 rfl (N := 12) rfl 49 (.tmp 11) (.tmp 11) rfl (r.length : Int) rfl rfl Try.underlying49 (.int .i64 0) 8 info3 rfl (by decide) (by decide) 0 (ok := fun _ => True) (okp := fun _ => True) rfl (fun _ h => h) trivial (by omega) ?hl (Below.refl _ _) (Nat.le_refl _) ?_; (case hl => (simp; omega)); intro v9 w9 ho9 hb9 hg9 hat9; obtain ⟨g, hgb, hge⟩ := hat9; obtain ⟨c, hv9, _, hglt⟩ := own_form ho9 hgb; (simp only [Int.toNat_natCast, List.length_replicate] at hv9 ho9); subst hv9; have HO9 := Aside0.mk ho9; have HB9 := Aside0.mk (show Below w.heap.size w w9 from ⟨hg9.os, hg9.tape, hg9.output, hg9.size, fun k hk => hg9.block k hk (by simp)⟩); have HGE := Aside0.mk hge; clear ho9 hb9 hg9 hgb hge hglt)
  go_loopg [15] r.length (fun kq v15 w' => ∃ i : Nat, i ≤ r.length ∧ v15 = .int .i64 i ∧ Aside0 (Kd.R (Kd.int .i64) 3 w' w.heap.size (fun _ => True) (.slice (some ⟨g, 0, none⟩) r.length c) (fillI r.length i)) ∧ Aside0 (Below w.heap.size w w') ∧ Aside0 (kq = r.length - i))
  case atStart => exact ⟨0, Nat.zero_le _, rfl, HO9, HB9, ⟨rfl⟩⟩
  case round =>
    obtain ⟨i, hi, rfl, HO, HB, HK⟩ := hrel
    by_cases hlt : i < r.length
    · have hl := fillI_len (n := r.length) (i := i) hi
      obtain ⟨hc, hf⟩ := Kd.R_celln 0 HO.out (i : Int) (by omega) (by omega)
      have HP := Aside0.mk (Kd.R_putg HO.out (i : Int) (i : Int))
      simp only [Int.toNat_natCast] at hc hf
      have HS := Aside0.mk (fillI_set hlt)
      have HQ := Aside0.mk (show Kd.R (Kd.int .i64) 3 (wr.setCell ⟨g, i, none⟩ (.int .i64 i)) w.heap.size (fun _ => True) (.slice (some ⟨g, 0, none⟩) r.length c) (fillI r.length (i + 1)) ∧ Below w.heap.size w (wr.setCell ⟨g, i, none⟩ (.int .i64 i)) from by
        have h := HP.out
        simp only [Int.toNat_natCast] at h
        rw [HS.out] at h
        exact ⟨h.1, HB.out.setCell HGE.out _⟩)
      clear hl
      go_wp2
      go_roundg (r.length - (i + 1))
      case measure => have := HK.out; omega
      case rel => exact ⟨i + 1, by omega, by go_num, ⟨HQ.out.1⟩, ⟨HQ.out.2⟩, ⟨rfl⟩⟩
    · obtain rfl : i = r.length := by omega
      clear hlt hi HK
      have HE := Aside0.mk (effective_any A1 c1 l wr (Kd.C_below HR1.out HB.out) hc1 hsz2)
      have HFL := Aside0.mk (effL_len l)
      have HROOT := Aside0.mk (IsRoot.start r.length)
      have HC0 := Aside0.mk (show Cls wr w.heap.size (fun _ => True) g r.length c ((List.range r.length).map (fun j : Nat => (j : Int))) id from ⟨by have := HO.out; rwa [fillI_all] at this, HROOT.out, by simp⟩)
      clear HO
      obtain ⟨fl, Hfl⟩ : ∃ fl, Aside0 (effL l = fl) := ⟨_, ⟨rfl⟩⟩
      rw [Hfl.out] at HE HFL
      go_wp2_with fail
      refine (HE.out).mono ?_
      rintro e w1 ⟨vf, rfl, hRf, hb1⟩
      obtain ⟨Af, cf, hvf, hlf, _⟩ := Kd.R_reads hRf
      subst hvf
      have HJ1 := Aside0.mk (show InvJ w g r.length c (.slice Af fl.length cf) fl id w1 from ⟨⟨_, HC0.out.kept hb1⟩, Kd.R_lower hRf HB.out.size, below_step HB.out hb1, HGE.out⟩)
      clear hRf hb1 hlf
      have HEACH1 := Aside0.mk (each_any (σ := Nat → Nat) A0 c0 r Af cf fl 1 39 #[.slice (some ⟨g, 0, none⟩) r.length c] #[] w1 (fun ρ W => InvJ w g r.length c (.slice Af fl.length cf) fl ρ W) stepJ id
        (Kd.C_below HR0.out HJ1.out.below) hsz (by have := HFL.out; omega) (enters_of Try.func39 (by kernel_rfl) rfl) HJ1.out (fun _ _ _ h hb => h.on hb) (fun _ W h => (Kd.R_reads' h.frc).2.2)
        (fun i W a b hi hI hlt a0 a1 b0 b1 => by
          obtain ⟨a', rfl⟩ : ∃ a' : Nat, a = (a' : Int) := ⟨a.toNat, by omega⟩
          obtain ⟨b', rfl⟩ : ∃ b' : Nat, b = (b' : Int) := ⟨b.toNat, by omega⟩
          obtain ⟨⟨cs, hC⟩, hF, hB, hg⟩ := hI
          have hj := join_any W w.heap.size (fun _ => True) g r.length c cs _ hC a' b' (by omega) (by omega) hsz
          refine hj.mono ?_
          rintro e w' ⟨rfl, cs', hC', hG⟩
          have hgl : g < w1.heap.size := by
            obtain ⟨cs1, hC1⟩ := HJ1.out.cls
            exact own_lt' hC1.own g rfl
          refine ⟨rfl, ⟨⟨cs', hC'⟩, Kd.R_over hF hC.own ty39'' hG, hB.grown hG hB.size (fun k hk => by simp [Value.ownBlock] at hk; omega), hg⟩, hG.block _ hlt (fun e => by injection e with e; omega)⟩))
      clear HE HC0 HROOT
      go_wp2_with fail
      refine (HEACH1.out).mono ?_
      rintro e w2 ⟨rfl, hJ⟩
      obtain ⟨ρ1, Hρ⟩ : ∃ ρ1, Aside0 (eachF (idxM r r.length) 1 stepJ fl id fl.length = ρ1) := ⟨_, ⟨rfl⟩⟩
      have HJ2 := Aside0.mk (show InvJ w g r.length c (.slice Af fl.length cf) fl ρ1 w2 from by rw [← Hρ.out]; exact hJ)
      clear hJ HEACH1
      have HP3 := Aside0.mk (show InvP w g r.length c (.slice Af fl.length cf) fl ρ1 w2.heap.size (w2.heap.size + 1) [] (w2.alloc (.cells #[.slice none 0 0] 27)) from
        ⟨HJ2.out.on (below_alloc (Below.refl _ _) _), ⟨.slice none 0 0, blk_new w2 _, Kd.R_nil _ _ _ _ _, fun h => h.1 rfl⟩, HJ2.out.below.size⟩)
      have HEACH2 := Aside0.mk (each_any (σ := List S48) A0 c0 r Af cf fl 2 40 #[] #[.pointer (some ⟨w2.heap.size, 0, none⟩)] (w2.alloc (.cells #[.slice none 0 0] 27)) (fun ps W => InvP w g r.length c (.slice Af fl.length cf) fl ρ1 w2.heap.size (w2.heap.size + 1) ps W) stepP []
        (Kd.C_below HR0.out HP3.out.j.below) hsz (by have := HFL.out; omega) (enters_of Try.func40 (by kernel_rfl) rfl) HP3.out (fun _ _ _ h hb => h.on hb) (fun _ W h => (Kd.R_reads' h.j.frc).2.2)
        (fun i W a b hi hI hlt a0 a1 b0 b1 => by
          obtain ⟨⟨⟨cs, hC⟩, hF, hB, hg⟩, ⟨v, hP⟩, hBB⟩ := hI
          have hz : (w2.alloc (.cells #[.slice none 0 0] 27)).heap.size = w2.heap.size + 1 := by simp
          rw [hz] at hlt
          have hlB : w2.heap.size < W.heap.size := (Array.getElem?_eq_some_iff.1 hP.cell).1
          have hcl := closure40 W w.heap.size (fun k => k ≠ w2.heap.size ∧ k ≠ w2.heap.size + 1) w2.heap.size v _ hP hB.size (fun k hk => ⟨by omega, by omega⟩) (by have h1 := pairs_len (idxM r r.length) 2 fl i; have h2 := HFL.out; omega) a b
          refine hcl.mono ?_
          rintro e w' ⟨rfl, v', hP', hT, w9, hg9, hb9, hw⟩
          refine ⟨rfl, ⟨⟨⟨cs, ⟨?_, hC.root, hC.len⟩⟩, ?_, ?_, hg⟩, ⟨v', hP'⟩, hBB⟩, ?_⟩
          · rw [hw]; exact Kd.R_set (Kd.R_over hC.own hP.own ty3 hg9) hb9 ty3' 0 v'
          · rw [hw]; exact Kd.R_set (Kd.R_over hF hP.own ty39 hg9) hb9 ty39' 0 v'
          · refine hT.below hB (fun k hS => ?_)
            rcases hS with rfl | hS
            · exact hBB
            · exact own_base' hP.own k hS.symm
          · rw [hz]
            refine hT.block _ hlt (fun hS => ?_)
            rcases hS with h1 | h1
            · omega
            · exact (hP.own.1 _ h1.symm).2 rfl))
      go_wp2_with fail
      refine (HEACH2.out).mono ?_
      rintro e w4 ⟨rfl, hP4⟩
      obtain ⟨ps, Hps⟩ : ∃ ps, Aside0 (eachF (idxM r r.length) 2 stepP fl [] fl.length = ps) := ⟨_, ⟨rfl⟩⟩
      have HP4 := Aside0.mk (show InvP w g r.length c (.slice Af fl.length cf) fl ρ1 w2.heap.size (w2.heap.size + 1) ps w4 from by rw [← Hps.out]; exact hP4)
      clear hP4 HEACH2
      obtain ⟨vp, hvp⟩ := HP4.out.prs
      obtain ⟨Ap, cp, hvf, hlf, _⟩ := Kd.R_reads hvp.own
      subst hvf
      have hcell := blk_cell hvp.cell 0
      simp at hcell
      have HVP := Aside0.mk hvp
      clear hvp hlf
      have HFIN := Aside0.mk (show rootsL r l = ρ1 ∧ pairsL r l = ps from by
        unfold rootsL pairsL
        rw [Hfl.out]
        exact ⟨Hρ.out, Hps.out⟩)
      go_wp2
      go_quiet (fail)
      go_wp2
      go_ret2
      obtain ⟨cs, hC⟩ := HP4.out.j.cls
      rw [HFIN.out.1, HFIN.out.2]
      exact ⟨g, c, cs, _, rfl, hC.kept (pw_below_drewN (Below.refl _ _) _), Kd.R_drewN (Kd.R_mono HVP.out.own (fun _ _ => trivial)) _, pw_below_drewN HP4.out.j.below _, HGE.out⟩
end Go.Proofs.Ytocjknmojcgeiaa.Hand

/- Rows of pairs of the call's own: read, written, cut, cleared. -/
namespace Go.Proofs.Ytocjknmojcgeiaa.Hand
set_option linter.unusedSectionVars false
set_option linter.unnecessarySimpa false
open Go.RowKit Go.Proofs.Ytocjknmojcgeiaa.Bd Go.Proofs.YtocjknmojcgeiaaW.PrintWords Go.Proofs.YtocjknmojcgeiaaW.PrintLast MapK
set_option linter.unusedVariables false
set_option linter.unusedSimpArgs false
section
variable {W : World} {base g n c : Nat} {ok : Nat → Prop} {xs : List S48}
theorem pr_len (HO : Kd.R k48 48 W base ok (.slice (some ⟨g, 0, none⟩) n c) xs) : xs.length = n ∧ n ≤ c := by
  obtain ⟨_, _, _, h1, h2, _⟩ := SortR.parts HO
  exact ⟨h1.symm, h2⟩
theorem pr_cells (HO : Kd.R k48 48 W base ok (.slice (some ⟨g, 0, none⟩) n c) xs) (i : Nat) (hi : i < n) :
    W.cell? ⟨g, i * 2, none⟩ = some (.int .i64 (rd_T48 xs i).f0) ∧ W.cell? ⟨g, i * 2 + 1, none⟩ = some (.int .i64 (rd_T48 xs i).f1) ∧ W.frozen? ⟨g, i * 2, none⟩ = false ∧ W.frozen? ⟨g, i * 2 + 1, none⟩ = false := by
  obtain ⟨cur, _, hh, hn, _⟩ := SortR.parts HO
  obtain ⟨ad, e, h0, h1⟩ := at_T48 (Kd.R_reads' HO).2.2 (i : Int) (by omega) (by omega)
  injection e with e
  subst e
  simp only [Int.toNat_natCast, add_plain] at h0 h1
  exact ⟨h0, h1, blk_frozen hh _, blk_frozen hh _⟩
theorem pr_put (HO : Kd.R k48 48 W base ok (.slice (some ⟨g, 0, none⟩) n c) xs) (i : Nat) (hi : i < n) (x : S48) :
    Kd.R k48 48 ((W.setCell ⟨g, i * 2, none⟩ (.int .i64 x.f0)).setCell ⟨g, i * 2 + 1, none⟩ (.int .i64 x.f1)) base ok (.slice (some ⟨g, 0, none⟩) n c) (xs.set i x) ∧
      W.grownBy ((W.setCell ⟨g, i * 2, none⟩ (.int .i64 x.f0)).setCell ⟨g, i * 2 + 1, none⟩ (.int .i64 x.f1)) (some g) := by
  obtain ⟨h0, h1, _⟩ := pr_cells HO i hi
  have h := Kd.R_seg (d := k48) HO (i : Int) (by omega) (by omega) (c := cells48 (rd_T48 xs i)) (seg := cells48 x) (j := 0) (x' := x) (okp := fun _ => False) rfl (fun j u hu => by
    match j, hu with
    | 0, hu => simp [cells48] at hu; subst hu; exact h0
    | 1, hu => simp [cells48] at hu; subst hu; exact h1
    | j + 2, hu => simp [cells48] at hu) (Nat.le_refl _) (k48_mkM _ _ _ _) (fun _ hk => hk.elim)
  exact h
theorem run_clear48 (w : World) (ty : TypeId) (o m c' : Nat) (hm : 0 < m) (hc : ∀ j, j < m * 2 → (w.cell? ⟨g, o + j, none⟩).isSome = true) (hf : ∀ j, j < m * 2 → w.frozen? ⟨g, o + j, none⟩ = false) :
    ∃ zs : List Value, zs.length = m * 2 ∧ (Builtin.clear_ #[27] ty #[.slice (some ⟨g, o, none⟩) m c']).run Try.prog w = .ok (.tuple #[]) (w.setCells g o zs) := by
  have hz : ∀ w : World, (zeroValue 48).run Try.prog w = .ok (.agg #[.int .i64 0, .int .i64 0]) w := fun w => by kernel_rfl
  have hl : (Builtin.zeroCells #[.int .i64 0, .int .i64 0] m).toList.length = m * 2 := by simp [Builtin.zeroCells]
  have h1 : ∀ v ∈ (Builtin.zeroCells #[.int .i64 0, .int .i64 0] m).toList, v.oneCell' = true := by
    intro v hv
    have : v = .int .i64 0 := by
      simp [Builtin.zeroCells] at hv
      obtain ⟨a, ha, rfl⟩ := hv
      have h2 : a % 2 = 0 ∨ a % 2 = 1 := by omega
      rcases h2 with h2 | h2 <;> simp [h2]
    subst this
    rfl
  have hst := run_storeCells_cells (P := Try.prog) g o (Builtin.zeroCells #[.int .i64 0, .int .i64 0] m).toList 0 w (by rw [hl]; simpa using hc) (by rw [hl]; simpa using hf) h1
  simp only [Nat.add_zero] at hst
  refine ⟨_, hl, ?_⟩
  obtain ⟨m', rfl⟩ : ∃ m', m = m' + 1 := ⟨m - 1, by omega⟩
  simp [Builtin.clear_, run_underlying Try.underlying27, hz, Value.cells, hst]
theorem pr_cut (HO : Kd.R k48 48 W base ok (.slice (some ⟨g, 0, none⟩) n c) xs) (k : Nat) (hk : k ≤ n) (zs : List Value) (hz : k * 2 + zs.length = n * 2) :
    Kd.R k48 48 (W.setCells g (k * 2) zs) base ok (.slice (some ⟨g, 0, none⟩) k c) (xs.take k) ∧ W.grownBy (W.setCells g (k * 2) zs) (some g) := by
  obtain ⟨cur, hb, hh, hn, hnc, hcm, hcs, hok, hr⟩ := SortR.parts HO
  have hsz : k48.sz = 2 := rfl
  rw [hsz] at hcs
  obtain ⟨cur', h1, h2, h3⟩ := setCells_row zs (k * 2) W cur hh (by rw [hz, hcs]; exact Nat.mul_le_mul_right _ hnc)
  obtain ⟨s1, s2, s3, s4⟩ := setCells_same g zs (k * 2) W
  have hlen : (xs.take k).length = k := by rw [List.length_take]; omega
  have hcl : k * 2 ≤ cur.toList.length := by rw [Array.length_toList, hcs]; exact Nat.mul_le_mul_right _ (Nat.le_trans hk hnc)
  have htk : cur'.toList.take (k * 2) = cur.toList.take (k * 2) := by
    rw [h3, List.append_assoc, List.take_append_of_le_length (by rw [List.length_take]; omega), List.take_take, Nat.min_self]
  refine ⟨⟨fun j hj => ?_, cur'.toList.take (k * 2), ⟨?_, .inr ⟨g, c, _, by rw [hlen], hb, h1, by rw [hlen]; omega, hcm, by rw [h2, hcs, hsz], by rw [hsz, hlen]⟩⟩, ?_, ?_⟩, ⟨s1, s2, s3, by rw [s4]; exact Nat.le_refl _, fun i hi hne => setCells_far zs (k * 2) i (fun e => hne (by rw [e]))⟩⟩
  · simp [Value.ownBlock] at hj; subst hj; exact hok
  · rw [hlen, hsz, htk, List.length_take]; omega
  · rw [hlen, hsz, htk, List.length_take]; omega
  · intro j p hj
    rw [hsz, htk]
    have hjl : j < k := by
      have := (List.getElem?_eq_some_iff.1 hj).1
      rw [hlen] at this; exact this
    rw [List.getElem?_take_of_lt hjl] at hj
    have h9 := hr j p hj
    rw [hsz] at h9
    have hM : (((cur.toList.take (k * 2)).drop (j * 2)).take 2) = (((cur.toList.take (n * 2)).drop (j * 2)).take 2) := by
      apply List.ext_getElem?
      intro i
      by_cases hi : i < 2
      · rw [List.getElem?_take_of_lt hi, List.getElem?_take_of_lt hi, List.getElem?_drop, List.getElem?_drop, List.getElem?_take_of_lt (by omega), List.getElem?_take_of_lt (by omega)]
      · rw [List.getElem?_eq_none (by rw [List.length_take]; omega), List.getElem?_eq_none (by rw [List.length_take]; omega)]
    rw [hM, cells48_M _ _ _ _ _ h9]
    exact k48_mkM _ _ _ _
end
end Go.Proofs.Ytocjknmojcgeiaa.Hand
