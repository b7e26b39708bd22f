/- bond.Bind, walked: the head of each record's class, and the pairs of classes that are decided to be different. -/
import Derived.Test.YtocjknmojcgeiaaCpt
import Derived.Deep.RegionHeld3
namespace Go.Proofs.Ytocjknmojcgeiaa.Hand
set_option linter.unusedSectionVars false
set_option linter.unnecessarySimpa false
open Go.RowKit Go.Proofs.Ytocjknmojcgeiaa.Bd Go.Proofs.YtocjknmojcgeiaaW.PrintWords Go.Proofs.YtocjknmojcgeiaaW.PrintLast MapK
set_option linter.unusedVariables false
set_option linter.unusedSimpArgs false
theorem R_only48 {w : World} {base : Nat} {ok : Nat → Prop} {v : Value} {xs : List S48} (h : Kd.R k48 48 w base ok v xs) : Kd.R k48 48 w base (fun k => some k = v.ownBlock) v xs :=
  ⟨fun k hk => hk.symm, h.2.imp_ (fun p cs hp => by rw [k48_openM hp]; exact k48_mkM _ _ _ _)⟩
theorem R_only3 {w : World} {base : Nat} {ok : Nat → Prop} {v : Value} {xs : List Int} (h : Kd.R (Kd.int .i64) 3 w base ok v xs) : Kd.R (Kd.int .i64) 3 w base (fun k => some k = v.ownBlock) v xs :=
  ⟨fun k hk => hk.symm, h.2.imp_ (fun p cs hp => hp)⟩
theorem Cls.only {w : World} {base : Nat} {ok : Nat → Prop} {g n c : Nat} {cs : List Int} {ρ : Nat → Nat} (h : Cls w base ok g n c cs ρ) : Cls w base (fun k => k = g) g n c cs ρ :=
  ⟨Kd.R_mono (R_only3 h.own) (fun k hk => by simp [Value.ownBlock] at hk; exact hk), h.root, h.len⟩
def headsF (ρ : Nat → Nat) (i : Nat) : List Int := (List.range i).map (fun j : Nat => ((ρ j : Nat) : Int))
theorem headsF_len (ρ : Nat → Nat) (i : Nat) : (headsF ρ i).length = i := by simp [headsF]
theorem headsF_succ (ρ : Nat → Nat) (i : Nat) : headsF ρ (i + 1) = headsF ρ i ++ [((ρ i : Nat) : Int)] := by simp [headsF, List.range_succ]
theorem headsF_rd (ρ : Nat → Nat) (n : Nat) (j : Int) (h0 : 0 ≤ j) (h1 : j < n) : rdOf (0 : Int) (headsF ρ n) j = ((ρ j.toNat : Nat) : Int) := by
  have : j.toNat < n := by omega
  simp [rdOf, headsF, List.getD, List.getElem?_map, List.getElem?_range this]
/-- The pairs whose classes differ, among the first i, told by the classes. -/
def apF (ρ : Nat → Nat) (ps : List S48) : Nat → List S48
  | 0 => []
  | i + 1 => if ρ (rd_T48 ps i).f0.toNat ≠ ρ (rd_T48 ps i).f1.toNat then apF ρ ps i ++ [pairOf (ρ (rd_T48 ps i).f0.toNat) (ρ (rd_T48 ps i).f1.toNat)] else apF ρ ps i
theorem apF_len (ρ : Nat → Nat) (ps : List S48) : ∀ i, (apF ρ ps i).length ≤ i
  | 0 => Nat.le_refl 0
  | i + 1 => by
    have := apF_len ρ ps i
    rw [apF]
    split
    · simp; omega
    · omega
theorem pairs_in (r : List S66) (l : List S39) : ∀ i, ∀ p ∈ eachF (idxM r r.length) 2 stepP l [] i, 0 ≤ p.f0 ∧ p.f0 < r.length ∧ 0 ≤ p.f1 ∧ p.f1 < r.length
  | 0 => by simp [eachF]
  | i + 1 => by
    intro p hp
    rw [eachF] at hp
    split at hp
    · rename_i hh
      rcases List.mem_append.1 hp with hp | hp
      · exact pairs_in r l i p hp
      · simp only [hitB, Bool.and_eq_true, Option.isSome_iff_exists] at hh
        obtain ⟨⟨_, a, ha⟩, b, hb⟩ := hh
        rw [ha, hb] at hp
        simp only [Option.getD_some, List.mem_singleton] at hp
        subst hp
        have h1 := idxM_in r r.length (Nat.le_refl _) _ _ ha
        have h2 := idxM_in r r.length (Nat.le_refl _) _ _ hb
        simp only [pairOf]
        omega
    · exact pairs_in r l i p hp
theorem rd48_mem (xs : List S48) (i : Nat) (hi : i < xs.length) : rd_T48 xs i ∈ xs := by rw [rd48 _ _ hi]; exact List.getElem_mem hi
structure InvH (w : World) (g n c : Nat) (ρ : Nat → Nat) (vp : Value) (ps : List S48) (vh : Value) (hs : List Int) (W : World) : Prop where
  cls : ∃ cs, Cls W w.heap.size (fun k => k = g) g n c cs ρ
  prs : Kd.R k48 48 W w.heap.size (fun k => some k = vp.ownBlock) vp ps
  hds : Kd.R (Kd.int .i64) 3 W w.heap.size (fun k => k ≠ g) vh hs
  below : Below w.heap.size w W
  base : w.heap.size ≤ g
structure InvA (w : World) (vp : Value) (ps : List S48) (vh : Value) (hs : List Int) (vo : Value) (os : List S48) (W : World) : Prop where
  prs : Kd.R k48 48 W w.heap.size (fun k => some k = vp.ownBlock) vp ps
  hds : Kd.R (Kd.int .i64) 3 W w.heap.size (fun _ => True) vh hs
  out : Kd.R k48 48 W w.heap.size (fun k => some k ≠ vp.ownBlock) vo os
  below : Below w.heap.size w W
theorem InvA.on {w W W' : World} {vp : Value} {ps : List S48} {vh : Value} {hs : List Int} {vo : Value} {os : List S48} (h : InvA w vp ps vh hs vo os W) (hb : Below W.heap.size W W') : InvA w vp ps vh hs vo os W' :=
  ⟨Kd.R_below h.prs hb, Kd.R_below h.hds hb, Kd.R_below h.out hb, below_step h.below hb⟩
def bindL1 (r : List S66) (l : List S39) : List Int := headsF (rootsL r l) r.length
def bindL2 (r : List S66) (l : List S39) : List S48 := setL (apF (rootsL r l) (pairsL r l) (pairsL r l).length)
set_option maxHeartbeats 8000000 in
set_option maxRecDepth 100000 in
theorem bind_any (A0 : Option Addr) (c0 : Nat) (r : List S66) (A1 : Option Addr) (c1 : Nat) (l : List S39) (w : World) (hr0 : Kd.C k66 w A0 r.length r) (hc0 : r.length ≤ c0) (hr1 : Kd.C k39 w A1 l.length l) (hc1 : l.length ≤ c1) (hsz : r.length ≤ 1000000) (hsz2 : l.length ≤ 1000000) :
    Calls Try.prog 11 #[.slice A0 r.length c0, .slice A1 l.length c1] w fun e w' => ∃ v0_ v1_ : Value, e = .returned (.tuple #[v0_, v1_]) ∧ Kd.R (Kd.int .i64) 3 w' w.heap.size (fun _ => True) v0_ (bindL1 r l) ∧ Kd.R k48 48 w' w.heap.size (fun _ => True) v1_ (bindL2 r l) ∧ Below w.heap.size w w' := by
  have hu48 := Try.underlying48
  have HSP := Aside0.mk (split_any A0 c0 r A1 c1 l w hr0 hc0 hr1 hc1 hsz hsz2)
  have HPI := Aside0.mk (show ∀ p ∈ pairsL r l, 0 ≤ p.f0 ∧ p.f0 < r.length ∧ 0 ≤ p.f1 ∧ p.f1 < r.length from pairs_in r (effL l) _)
  have HPL := Aside0.mk (show (pairsL r l).length ≤ l.length from Nat.le_trans (pairs_len _ _ _ _) (effL_len l))
  have HB1 : Aside0 (bindL1 r l = headsF (rootsL r l) r.length) := ⟨rfl⟩
  have HB2 : Aside0 (bindL2 r l = setL (apF (rootsL r l) (pairsL r l) (pairsL r l).length)) := ⟨rfl⟩
  clear hr0 hr1
  go_enter Try.func11, Try.ntmps11
  go_wp2_with fail
  refine (HSP.out).mono ?_
  rintro e w1 ⟨g, c, cs, vp, rfl, hC, hP, hB, hg⟩
  clear HSP
  generalize rootsL r l = ρ at *
  generalize pairsL r l = ps at *
  obtain ⟨Ap, cp, hvp, _⟩ := Kd.R_reads hP
  subst hvp
  have HI := Aside0.mk (show InvH w g r.length c ρ (.slice Ap ps.length cp) ps (.slice none 0 0) (headsF ρ 0) w1 from ⟨⟨cs, hC.only⟩, R_only48 hP, Kd.R_nil _ _ _ _ _, hB, hg⟩)
  clear hC hP hB hg
  go_wp2
  go_loopg [8, 23] r.length (fun kq v8 v23 w' => ∃ i : Nat, i ≤ r.length ∧ v23 = .int .i64 i ∧ Aside0 (InvH w g r.length c ρ (.slice Ap ps.length cp) ps v8 (headsF ρ i) w') ∧ Aside0 (kq = r.length - i))
  case atStart => exact ⟨0, Nat.zero_le _, rfl, HI, ⟨rfl⟩⟩
  case round =>
    clear HI
    obtain ⟨i, hi, rfl, HI, HK⟩ := hrel
    by_cases hlt : i < r.length
    · obtain ⟨cs', hC⟩ := HI.out.cls
      have HD := Aside0.mk (head_any wr w.heap.size (fun k => k = g) g r.length c cs' ρ hC i hlt hsz)
      have HCC := Aside0.mk hC
      clear hC
      go_wp2_with fail
      refine (HD.out).mono ?_
      rintro e w2 ⟨rfl, cs2, hC2, hG2⟩
      have HI2 := Aside0.mk (show InvH w g r.length c ρ (.slice Ap ps.length cp) ps u8 (headsF ρ i) w2 from
        ⟨⟨cs2, hC2⟩, Kd.R_over HI.out.prs HCC.out.own ty48 hG2, Kd.R_grown HI.out.hds hG2 (fun k hk e => hk (by injection e)), HI.out.below.grown hG2 HI.out.below.size (fun k hk => by cases hk; exact HI.out.base), HI.out.base⟩)
      clear hC2 hG2 HD HI
      go_wp2_with (at_builtin; refine Kd.R_append (P := Try.prog) (Kd.int .i64) (w0 := w) w.heap.size rfl (.tmp 26) (.tmp 30) 26 3 (.int .i64 0) 8 rfl Try.underlying26 info3 rfl (by decide) (by decide) u8 (headsF ρ i) ((ρ i : Nat) : Int) [.int .i64 ((ρ i : Nat) : Int)] (fun k => k ≠ g) (fun _ => False) rfl ?aX ?aP (fun _ hk => hk.elim) ?aF ?aO ?aB ?aS ?aL ?_; (case aX => rfl); (case aP => rfl); (case aF => exact (fun k hk => by obtain ⟨_, hC⟩ := HI2.out.cls; have := own_lt' hC.own g rfl; omega)); (case aO => exact HI2.out.hds); (case aB => exact HI2.out.below); (case aS => exact HI2.out.below.size); (case aL => have := headsF_len ρ i; omega); intro v9 w9 ho9 hb9 hg9 hat9; have HI9 := Aside0.mk (show InvH w g r.length c ρ (.slice Ap ps.length cp) ps v9 (headsF ρ (i + 1)) w9 from ⟨by obtain ⟨cq, hC⟩ := HI2.out.cls; exact ⟨cq, ⟨Kd.R_grown hC.own hg9 (fun k hk e => HI2.out.hds.1 k e.symm hk), hC.root, hC.len⟩⟩, Kd.R_over HI2.out.prs HI2.out.hds ty48 hg9, by rw [headsF_succ]; exact ho9, hb9, HI2.out.base⟩); clear ho9 hb9 hg9 hat9)
      go_roundg (r.length - (i + 1))
      case measure => have := HK.out; omega
      case rel => exact ⟨i + 1, by omega, by go_num, HI9, ⟨rfl⟩⟩
    · obtain rfl : i = r.length := by omega
      clear hlt hi HK
      obtain ⟨hs, Hhs⟩ : ∃ hs, Aside0 (headsF ρ r.length = hs) := ⟨_, ⟨rfl⟩⟩
      rw [Hhs.out] at HI HB1
      have HA := Aside0.mk (show InvA w (.slice Ap ps.length cp) ps u8 hs (.slice none 0 0) (apF ρ ps 0) wr from ⟨HI.out.prs, Kd.R_mono HI.out.hds (fun _ _ => trivial), Kd.R_nil _ _ _ _ _, HI.out.below⟩)
      clear HI
      obtain ⟨Ah, ch, hvh, _⟩ := Kd.R_reads HA.out.hds
      subst hvh
      go_wp2
      go_loopg [10, 35] ps.length (fun kq v10 v35 w' => ∃ i : Nat, i ≤ ps.length ∧ v35 = .int .i64 i ∧ Aside0 (InvA w (.slice Ap ps.length cp) ps (.slice Ah hs.length ch) hs v10 (apF ρ ps i) w') ∧ Aside0 (kq = ps.length - i))
      case atStart => exact ⟨0, Nat.zero_le _, rfl, HA, ⟨rfl⟩⟩
      case round =>
        clear HA
        obtain ⟨i, hi, rfl, HA, HK⟩ := hrel
        have hpl : ps.length ≤ 1000000 := by have := HPL.out; omega
        by_cases hlt : i < ps.length
        · obtain ⟨ad, e, hx0, hx1⟩ := at_T48 (Kd.R_reads' HA.out.prs).2.2 (i : Int) (by omega) (by omega)
          subst e
          simp only [Int.toNat_natCast] at hx0 hx1
          have HX := Aside0.mk (show apF ρ ps (i + 1) = if ρ (rd_T48 ps i).f0.toNat ≠ ρ (rd_T48 ps i).f1.toNat then apF ρ ps i ++ [pairOf (ρ (rd_T48 ps i).f0.toNat) (ρ (rd_T48 ps i).f1.toNat)] else apF ρ ps i from rfl)
          have HIN := HPI.out _ (rd48_mem ps i hlt)
          obtain ⟨x, Hx⟩ : ∃ x, Aside0 (x = rd_T48 ps i) := ⟨_, ⟨rfl⟩⟩
          rw [← Hx.out] at hx0 hx1 HIN HX
          obtain ⟨q0, q1, q2, q3⟩ := HIN
          have hhl : hs.length = r.length := by rw [← Hhs.out, headsF_len]
          have hAh : ∃ gh, Ah = some ⟨gh, 0, none⟩ := by
            obtain ⟨_, inner, ho, _⟩ := HA.out.hds
            rcases ho.2 with ⟨hv, hx⟩ | ⟨gh, cap, cur, hv, _⟩
            · injection hv with _ h2 _; omega
            · injection hv with h1 _ _
              exact ⟨gh, h1⟩
          obtain ⟨gh, rfl⟩ := hAh
          have HA1 := Aside0.mk (HA.out.on (below_alloc (Below.refl wr.heap.size wr) (.cells #[.int .i64 x.f0, .int .i64 x.f1] 48)))
          obtain ⟨c0, f0⟩ := Kd.R_celln 0 HA.out.hds x.f0 q0 (by omega)
          obtain ⟨c1, f1⟩ := Kd.R_celln 0 HA.out.hds x.f1 q2 (by omega)
          rw [← Hhs.out, headsF_rd _ _ _ q0 q1] at c0
          rw [← Hhs.out, headsF_rd _ _ _ q2 q3] at c1
          have hgw := own_lt' HA.out.hds gh rfl
          obtain ⟨a, Ha⟩ : ∃ a, Aside0 (ρ x.f0.toNat = a) := ⟨_, ⟨rfl⟩⟩
          obtain ⟨b, Hb⟩ : ∃ b, Aside0 (ρ x.f1.toNat = b) := ⟨_, ⟨rfl⟩⟩
          have r1 : x.f0 < (hs.length : Int) := by omega
          have r3 : x.f1 < (hs.length : Int) := by omega
          clear hhl q1 q3
          rw [Ha.out] at c0 HX
          rw [Hb.out] at c1 HX
          have HOL := Aside0.mk (show (apF ρ ps i).length ≤ 1000000 by have h1 := apF_len ρ ps i; have h2 := HPL.out; omega)
          by_cases hab : a = b
          · have hd : ((a : Int) != (b : Int)) = false := by rw [hab]; exact bne_self_eq_false _
            have hd' : (a != b) = false := by simp [hab]
            have HXX := Aside0.mk (show apF ρ ps (i + 1) = apF ρ ps i from by rw [HX.out, if_neg (fun h => h hab)])
            clear hab
            go_wp2
            go_quiet (fail)
            go_wp2
            go_roundg (ps.length - (i + 1))
            case measure => have := HK.out; omega
            case rel => exact ⟨i + 1, by omega, by go_num, ⟨by rw [HXX.out]; exact HA1.out.on (pw_below_drewN (Below.refl _ _) _)⟩, ⟨rfl⟩⟩
          · have hd : ((a : Int) != (b : Int)) = true := bne_iff_ne.2 (fun h => hab (by omega))
            have hd' : (a != b) = true := by simpa using hab
            have HXX := Aside0.mk (show apF ρ ps (i + 1) = apF ρ ps i ++ [pairOf a b] from by rw [HX.out, if_pos hab])
            clear hab
            go_wp2
            go_quiet (fail)
            have HA2 := Aside0.mk (HA1.out.on (pw_below_drewN (Below.refl _ _) nq))
            go_wp2_with (at_builtin; (refine Kd.R_append (P := Try.prog) k48 (w0 := w) w.heap.size rfl (.tmp 52) (.tmp 60) 27 48 (.agg #[.int .i64 0, .int .i64 0]) 16 rfl Try.underlying27 info48 rfl (by decide) (by decide) u10 (apF ρ ps i) (pairOf a b) [.int .i64 (min (a : Int) b), .int .i64 (max (a : Int) b)] (fun k => some k ≠ (Value.slice (some ad) ps.length cp).ownBlock) (fun _ => False) rfl ?aX ?aP (fun _ hk => hk.elim) ?aF ?aO ?aB ?aS ?aL ?_); (case aX => rw [World.heap_drewN, size_push1]; rfl); (case aP => exact (k48_mkM _ _ _ _)); (case aF => exact (fun k hk e => by have := own_lt' HA2.out.prs k e.symm; omega)); (case aO => exact HA2.out.out); (case aB => exact HA2.out.below); (case aS => exact HA2.out.below.size); (case aL => have := HOL.out; omega); intro v9 w9 ho9 hb9 hg9 hat9; have HI9 := Aside0.mk (show InvA w (.slice (some ad) ps.length cp) ps (.slice (some ⟨gh, 0, none⟩) hs.length ch) hs v9 (apF ρ ps i ++ [pairOf a b]) w9 from ⟨Kd.R_grown HA2.out.prs hg9 (fun k hk e => HA2.out.out.1 k e.symm hk), Kd.R_over HA2.out.hds HA2.out.out ty3 hg9, ho9, hb9⟩); clear ho9 hb9 hg9 hat9)
            go_roundg (ps.length - (i + 1))
            case measure => have := HK.out; omega
            case rel => exact ⟨i + 1, by omega, by go_num, ⟨by rw [HXX.out]; exact HI9.out⟩, ⟨rfl⟩⟩
        · obtain rfl : i = ps.length := by omega
          have HST := Aside0.mk (sorted_any wr w.heap.size _ u10 _ HA.out.out (by have h1 := apF_len ρ ps ps.length; have h2 := HPL.out; omega))
          clear hlt hi HK
          go_wp2_with fail
          refine (HST.out).mono ?_
          rintro e w3 ⟨v3, rfl, hR, hG⟩
          have HF := Aside0.mk (show Kd.R (Kd.int .i64) 3 w3 w.heap.size (fun _ => True) (.slice Ah hs.length ch) (bindL1 r l) ∧ Kd.R k48 48 w3 w.heap.size (fun _ => True) v3 (bindL2 r l) ∧ Below w.heap.size w w3 from by
            rw [HB1.out, HB2.out]
            exact ⟨Kd.R_over HA.out.hds HA.out.out ty3 hG, Kd.R_mono hR (fun _ _ => trivial), HA.out.below.grown hG HA.out.below.size (fun k hk => own_base' HA.out.out k hk)⟩)
          clear hR hG HST
          go_wp2
          go_ret2
          exact ⟨_, _, rfl, HF.out.1, HF.out.2.1, HF.out.2.2⟩
def bindO (l1 : List (S66)) (l2 : List (S39)) : Option (List Int × List (S48)) := if l1.length ≤ 1000000 ∧ l2.length ≤ 1000000 then some (bindL1 l1 l2, bindL2 l1 l2) else none
theorem bind_calls (A1 : Option Addr) (c1 : Nat) (l1 : List (S66)) (A2 : Option Addr) (c2 : Nat) (l2 : List (S39)) (r1 : List Int) (r2 : List (S48)) (w : World) (hr1 : Kd.C k66 w A1 l1.length l1) (hc1 : l1.length ≤ c1) (hr2 : Kd.C k39 w A2 l2.length l2) (hc2 : l2.length ≤ c2) (h : bindO l1 l2 = some (r1, r2)) :
    Calls Try.prog 11 #[.slice A1 l1.length c1, .slice A2 l2.length c2] w fun e w' => ∃ v0_ v1_ : Value, e = .returned (.tuple #[v0_, v1_]) ∧ Kd.R (Kd.int .i64) 3 w' w.heap.size (fun _ => True) v0_ r1 ∧ Kd.R k48 48 w' w.heap.size (fun _ => True) v1_ r2 ∧ Below w.heap.size w w' := by
  unfold bindO at h
  by_cases hs : l1.length ≤ 1000000 ∧ l2.length ≤ 1000000
  · rw [if_pos hs] at h
    injection h with h
    injection h with h1 h2
    subst h1; subst h2
    exact bind_any A1 c1 l1 A2 c2 l2 w hr1 hc1 hr2 hc2 hs.1 hs.2
  · rw [if_neg hs] at h
    cases h
end Go.Proofs.Ytocjknmojcgeiaa.Hand

/- bond.Contradictions, walked: the pairs that are decided to be different though their records are of one class. -/
namespace Go.Proofs.Ytocjknmojcgeiaa.Hand
set_option linter.unusedSectionVars false
set_option linter.unnecessarySimpa false
open Go.RowKit Go.Proofs.Ytocjknmojcgeiaa.Bd Go.Proofs.YtocjknmojcgeiaaW.PrintWords Go.Proofs.YtocjknmojcgeiaaW.PrintLast MapK
set_option linter.unusedVariables false
set_option linter.unusedSimpArgs false
attribute [local go_sem] eqA48
set_option maxHeartbeats 4000000 in
set_option maxRecDepth 100000 in
theorem closure35 (w : World) (base : Nat) (ok : Nat → Prop) (B g n c : Nat) (cs : List Int) (ρ : Nat → Nat) (H : Cls w base ok g n c cs ρ) (hcell : w.heap[B]? = some (.cells #[.slice (some ⟨g, 0, none⟩) n c] 49 (0, 0))) (hBg : B ≠ g) (a b : Nat) (ha : a < n) (hb : b < n) (hsz : n ≤ 1000000) :
    Calls Try.prog 35 #[.agg #[.int .i64 a, .int .i64 b], .pointer (some ⟨B, 0, none⟩)] w fun e w' => e = .returned (.bool ((ρ a : Int) != (ρ b : Int))) ∧ (∃ cs', Cls w' base ok g n c cs' ρ) ∧ w.grownBy w' (some g) := by
  have hu48 := Try.underlying48
  have hB : B < w.heap.size := (Array.getElem?_eq_some_iff.1 hcell).1
  have hg : g < w.heap.size := own_lt' H.own g rfl
  have HD : Aside0 (∀ (j : Nat), j < n → ∀ W : World, (W.cell? ⟨B, 0, none⟩ = some (.slice (some ⟨g, 0, none⟩) n c) ∧ W.cell? ⟨w.heap.size, 0, none⟩ = some (.int .i64 a) ∧ W.cell? ⟨w.heap.size, 1, none⟩ = some (.int .i64 b) ∧ Aside0 ((∃ cs', Cls W base ok g n c cs' ρ) ∧ w.grownBy W (some g))) →
      Calls Try.prog 27 #[.slice (some ⟨g, 0, none⟩) n c, .int .i64 j] W fun e W' => e = .returned (.int .i64 (ρ j)) ∧ (W'.cell? ⟨B, 0, none⟩ = some (.slice (some ⟨g, 0, none⟩) n c) ∧ W'.cell? ⟨w.heap.size, 0, none⟩ = some (.int .i64 a) ∧ W'.cell? ⟨w.heap.size, 1, none⟩ = some (.int .i64 b) ∧ Aside0 ((∃ cs', Cls W' base ok g n c cs' ρ) ∧ w.grownBy W' (some g)))) := ⟨by
    intro j hj W ⟨s1, s2, s3, s4⟩
    obtain ⟨⟨cs1, hC⟩, hG⟩ := s4.out
    refine (head_any W base ok g n c cs1 ρ hC j hj hsz).mono ?_
    rintro e W' ⟨rfl, cs2, hC2, hG2⟩
    have far : ∀ (k o : Nat) (v : Value), k ≠ g → W.cell? ⟨k, o, none⟩ = some v → W'.cell? ⟨k, o, none⟩ = some v := fun k o v hk h => by
      rw [← h]
      unfold World.cell?; rw [hG2.block k (World.block_lt_of_cell? W _ h) (fun e => hk (by injection e))]
    exact ⟨rfl, far _ _ _ hBg s1, far _ _ _ (by omega) s2, far _ _ _ (by omega) s3, ⟨⟨cs2, hC2⟩, grown_trans hG hG2⟩⟩⟩
  have HS := Aside0.mk (show (fun W : World => W.cell? ⟨B, 0, none⟩ = some (.slice (some ⟨g, 0, none⟩) n c) ∧ W.cell? ⟨w.heap.size, 0, none⟩ = some (.int .i64 a) ∧ W.cell? ⟨w.heap.size, 1, none⟩ = some (.int .i64 b) ∧ Aside0 ((∃ cs', Cls W base ok g n c cs' ρ) ∧ w.grownBy W (some g))) ((w.alloc (.cells #[.int .i64 a, .int .i64 b] 48)).drew) from by
    have hb0 : Below w.heap.size w ((w.alloc (.cells #[.int .i64 a, .int .i64 b] 48)).drew) := below_drew1 (below_alloc (Below.refl _ _) _)
    exact ⟨cell_on hb0 (by have := blk_cell hcell 0; simpa using this), by simp, by simp, ⟨⟨cs, H.kept hb0⟩, ⟨rfl, rfl, rfl, hb0.size, fun i hi _ => hb0.block i hi⟩⟩⟩)
  clear H hcell
  go_enter Try.func35, Try.ntmps35
  go_wp2
  go_region_held3 (fun W : World => W.cell? ⟨B, 0, none⟩ = some (.slice (some ⟨g, 0, none⟩) n c) ∧ W.cell? ⟨w.heap.size, 0, none⟩ = some (.int .i64 a) ∧ W.cell? ⟨w.heap.size, 1, none⟩ = some (.int .i64 b) ∧ Aside0 ((∃ cs', Cls W base ok g n c cs' ρ) ∧ w.grownBy W (some g))) (first | exact HS.out | assumption) (first | (go_at_call 27; (with_reducible refine (HD.out _ ?hj _ ?hS).mono ?_); (case hj => first | exact ha | exact hb); (case hS => assumption); rintro e w2 ⟨rfl, hS2⟩))
  go_wp2
  go_ret
  exact ⟨rfl, hS2.2.2.2.out.1, hS2.2.2.2.out.2⟩
def difB (ρ : Nat → Nat) (p : S48) : Bool := (ρ p.f0.toNat : Int) != (ρ p.f1.toNat : Int)
structure InvK (w0 : World) (g nr cr : Nat) (ρ : Nat → Nat) (B : Nat) (v : Value) (zs : List S48) (W : World) : Prop where
  cls : ∃ cs, Cls W w0.heap.size (fun k => k = g) g nr cr cs ρ
  cell : W.heap[B]? = some (.cells #[.slice (some ⟨g, 0, none⟩) nr cr] 49 (0, 0))
  own : Kd.R k48 48 W w0.heap.size (fun k => some k = v.ownBlock) v zs
  below : Below w0.heap.size w0 W
  gB : B ≠ g
  gv : some g ≠ v.ownBlock
  Bv : some B ≠ v.ownBlock
theorem InvK.on {w0 W W' : World} {g nr cr : Nat} {ρ : Nat → Nat} {B : Nat} {v : Value} {zs : List S48} (h : InvK w0 g nr cr ρ B v zs W) (hb : Below W.heap.size W W') : InvK w0 g nr cr ρ B v zs W' := by
  obtain ⟨cs, h1⟩ := h.cls
  exact ⟨⟨cs, h1.kept hb⟩, (hb.block _ (Array.getElem?_eq_some_iff.1 h.cell).1).trans h.cell, Kd.R_below h.own hb, below_step h.below hb, h.gB, h.gv, h.Bv⟩
theorem InvK.wrote {w0 W W' : World} {g nr cr : Nat} {ρ : Nat → Nat} {B : Nat} {v v' : Value} {zs zs' : List S48} (h : InvK w0 g nr cr ρ B v zs W) (ho : Kd.R k48 48 W' w0.heap.size (fun k => some k = v'.ownBlock) v' zs') (hv : v'.ownBlock = v.ownBlock) (hg : W.grownBy W' v.ownBlock) : InvK w0 g nr cr ρ B v' zs' W' := by
  obtain ⟨cs, h1⟩ := h.cls
  refine ⟨⟨cs, ⟨Kd.R_grown h1.own hg (fun k hk e => h.gv (by rw [← e, hk])), h1.root, h1.len⟩⟩, (hg.block _ (Array.getElem?_eq_some_iff.1 h.cell).1 h.Bv).trans h.cell, ho, h.below.grown hg h.below.size (fun k hk => own_base' h.own k hk), h.gB, by rw [hv]; exact h.gv, by rw [hv]; exact h.Bv⟩
theorem InvK.asks {w0 W : World} {g nr cr : Nat} {ρ : Nat → Nat} {B : Nat} {v : Value} {zs : List S48} (h : InvK w0 g nr cr ρ B v zs W) (hsz : nr ≤ 1000000) (x : S48) (hx : 0 ≤ x.f0 ∧ x.f0 < nr ∧ 0 ≤ x.f1 ∧ x.f1 < nr) :
    Calls Try.prog 35 #[.agg #[.int .i64 x.f0, .int .i64 x.f1], .pointer (some ⟨B, 0, none⟩)] W fun e w' => e = .returned (.bool (difB ρ x)) ∧ InvK w0 g nr cr ρ B v zs w' ∧ W.grownBy w' (some g) := by
  obtain ⟨cs, h1⟩ := h.cls
  obtain ⟨h0, h2, h3, h4⟩ := hx
  have hc := closure35 W w0.heap.size (fun k => k = g) B g nr cr cs ρ h1 h.cell h.gB x.f0.toNat x.f1.toNat (by omega) (by omega) hsz
  rw [Int.toNat_of_nonneg h0, Int.toNat_of_nonneg h3] at hc
  refine hc.mono ?_
  rintro e w' ⟨rfl, hcls, hG⟩
  exact ⟨rfl, ⟨hcls, (hG.block _ (Array.getElem?_eq_some_iff.1 h.cell).1 (fun e => h.gB (by injection e))).trans h.cell, Kd.R_grown h.own hG (fun k hk e => h.gv (by rw [← hk, e])), h.below.grown hG h.below.size (fun k hk => by cases hk; exact own_base' h1.own g rfl), h.gB, h.gv, h.Bv⟩, hG⟩
set_option maxHeartbeats 4000000 in
set_option maxRecDepth 100000 in
theorem index_any (w0 : World) (g nr cr : Nat) (ρ : Nat → Nat) (B : Nat) (A : Option Addr) (c : Nat) (xs : List S48) (w : World) (H : InvK w0 g nr cr ρ B (.slice A xs.length c) xs w) (hsz : nr ≤ 1000000) (hlen : xs.length ≤ 1000000) (hin : ∀ p ∈ xs, 0 ≤ p.f0 ∧ p.f0 < nr ∧ 0 ≤ p.f1 ∧ p.f1 < nr) :
    Calls Try.prog 49 #[.slice A xs.length c, .func (.func 35) #[] #[.pointer (some ⟨B, 0, none⟩)]] w fun e w' =>
      InvK w0 g nr cr ρ B (.slice A xs.length c) xs w' ∧ ((e = .returned (.int .i64 (-1)) ∧ ∀ j : Nat, j < xs.length → difB ρ (rd_T48 xs j) = false) ∨ ∃ i : Nat, i < xs.length ∧ e = .returned (.int .i64 i) ∧ difB ρ (rd_T48 xs i) = true ∧ ∀ j : Nat, j < i → difB ρ (rd_T48 xs j) = false) := by
  have hu48 := Try.underlying48
  have HH := Aside0.mk H
  have HIN := Aside0.mk hin
  clear H hin
  go_enter Try.func49, Try.ntmps49
  go_wp2
  go_loopg [8] xs.length (fun kq v8 w' => ∃ i : Nat, i ≤ xs.length ∧ v8 = .int .i64 i ∧ Aside0 (InvK w0 g nr cr ρ B (.slice A xs.length c) xs w') ∧ Aside0 (∀ j : Nat, j < i → difB ρ (rd_T48 xs j) = false) ∧ Aside0 (kq = xs.length - i))
  case atStart => exact ⟨0, Nat.zero_le _, rfl, HH, ⟨fun j hj => by omega⟩, ⟨rfl⟩⟩
  case round =>
    obtain ⟨i, hi, rfl, HI, HN, HK⟩ := hrel
    by_cases hlt : i < xs.length
    · obtain ⟨ad, e, hx0, hx1⟩ := at_T48 (Kd.R_reads' HI.out.own).2.2 (i : Int) (by omega) (by omega)
      subst e
      simp only [Int.toNat_natCast] at hx0 hx1
      have HA := Aside0.mk (HI.out.asks hsz (rd_T48 xs i) (HIN.out _ (rd48_mem xs i hlt)))
      obtain ⟨x, Hx⟩ : ∃ x, Aside0 (rd_T48 xs i = x) := ⟨_, ⟨rfl⟩⟩
      rw [Hx.out] at hx0 hx1 HA
      go_wp2_with fail
      refine (HA.out).mono ?_
      rintro e w2 ⟨rfl, HI2, hG⟩
      have HI2 := Aside0.mk HI2
      by_cases hd : difB ρ x = true
      · have HD := Aside0.mk hd
        rw [hd]
        clear hd hG HI HA
        go_wp2
        go_ret
        exact ⟨HI2.out, .inr ⟨i, hlt, rfl, by rw [Hx.out]; exact HD.out, HN.out⟩⟩
      · have hd' : difB ρ x = false := by simpa using hd
        have HD := Aside0.mk hd'
        rw [hd']
        clear hd hd' hG HI HA
        go_wp2
        go_roundg (xs.length - (i + 1))
        case measure => have := HK.out; omega
        case rel => exact ⟨i + 1, by omega, by go_num, HI2, ⟨fun j hj => by
          rcases (show j < i ∨ j = i by omega) with h | rfl
          · exact HN.out j h
          · rw [Hx.out]; exact HD.out⟩, ⟨rfl⟩⟩
    · obtain rfl : i = xs.length := by omega
      clear hlt HK
      go_wp2
      go_ret
      exact ⟨HI.out, .inl ⟨rfl, HN.out⟩⟩
end Go.Proofs.Ytocjknmojcgeiaa.Hand

/- slices.DeleteFunc as bond.Contradictions calls it, walked; and bond.Contradictions. -/
namespace Go.Proofs.Ytocjknmojcgeiaa.Hand
set_option linter.unusedSectionVars false
set_option linter.unnecessarySimpa false
open Go.RowKit Go.Proofs.Ytocjknmojcgeiaa.Bd Go.Proofs.YtocjknmojcgeiaaW.PrintWords Go.Proofs.YtocjknmojcgeiaaW.PrintLast MapK
set_option linter.unusedVariables false
set_option linter.unusedSimpArgs false
/-- Of the first m pairs, those of one class. -/
def dlF (ρ : Nat → Nat) (xs : List S48) : Nat → List S48
  | 0 => []
  | m + 1 => if difB ρ (rd_T48 xs m) = true then dlF ρ xs m else dlF ρ xs m ++ [rd_T48 xs m]
theorem dlF_len (ρ : Nat → Nat) (xs : List S48) : ∀ m, (dlF ρ xs m).length ≤ m
  | 0 => Nat.le_refl 0
  | m + 1 => by
    have := dlF_len ρ xs m
    rw [dlF]
    split
    · omega
    · simp; omega
theorem dlF_take (ρ : Nat → Nat) (xs : List S48) : ∀ i, i ≤ xs.length → (∀ j : Nat, j < i → difB ρ (rd_T48 xs j) = false) → dlF ρ xs i = xs.take i
  | 0, _, _ => by simp [dlF]
  | i + 1, hi, h => by
    rw [dlF, if_neg (by rw [h i (by omega)]; simp), dlF_take ρ xs i (by omega) (fun j hj => h j (by omega)), ← take_rd xs (by omega)]
structure InvD (w0 : World) (g nr cr : Nat) (ρ : Nat → Nat) (B gp c : Nat) (xs : List S48) (m kk : Nat) (W : World) : Prop where
  inv : ∃ zs, InvK w0 g nr cr ρ B (.slice (some ⟨gp, 0, none⟩) xs.length c) zs W ∧ zs.take kk = dlF ρ xs m ∧ ∀ j, m ≤ j → j < xs.length → rd_T48 zs j = rd_T48 xs j
  len : (dlF ρ xs m).length = kk
theorem InvD.on {w0 W W' : World} {g nr cr : Nat} {ρ : Nat → Nat} {B gp c : Nat} {xs : List S48} {m kk : Nat} (h : InvD w0 g nr cr ρ B gp c xs m kk W) (hb : Below W.heap.size W W') : InvD w0 g nr cr ρ B gp c xs m kk W' := by
  obtain ⟨⟨zs, h1, h2, h3⟩, h4⟩ := h
  exact ⟨⟨zs, h1.on hb, h2, h3⟩, h4⟩
theorem InvD.asks {w0 W : World} {g nr cr : Nat} {ρ : Nat → Nat} {B gp c : Nat} {xs : List S48} {m kk : Nat} (h : InvD w0 g nr cr ρ B gp c xs m kk W) (hsz : nr ≤ 1000000) (x : S48) (hx : 0 ≤ x.f0 ∧ x.f0 < nr ∧ 0 ≤ x.f1 ∧ x.f1 < nr) :
    Calls Try.prog 35 #[.agg #[.int .i64 x.f0, .int .i64 x.f1], .pointer (some ⟨B, 0, none⟩)] W fun e w' => e = .returned (.bool (difB ρ x)) ∧ InvD w0 g nr cr ρ B gp c xs m kk w' ∧ W.grownBy w' (some g) := by
  obtain ⟨⟨zs, h1, h2, h3⟩, h4⟩ := h
  refine (h1.asks hsz x hx).mono ?_
  rintro e w' ⟨rfl, hi, hg⟩
  exact ⟨rfl, ⟨⟨zs, hi, h2, h3⟩, h4⟩, hg⟩
theorem InvD.put {w0 W : World} {g nr cr : Nat} {ρ : Nat → Nat} {B gp c : Nat} {xs : List S48} {m kk : Nat} (h : InvD w0 g nr cr ρ B gp c xs m kk W) (hm : m < xs.length) (hkm : kk ≤ m) (hd : difB ρ (rd_T48 xs m) = false) :
    InvD w0 g nr cr ρ B gp c xs (m + 1) (kk + 1) ((W.setCell ⟨gp, kk * 2, none⟩ (.int .i64 (rd_T48 xs m).f0)).setCell ⟨gp, kk * 2 + 1, none⟩ (.int .i64 (rd_T48 xs m).f1)) := by
  obtain ⟨⟨zs, h1, h2, h3⟩, h4⟩ := h
  have hz := (pr_len h1.own).1
  obtain ⟨p1, p2⟩ := pr_put h1.own kk (by omega) (rd_T48 xs m)
  have hX : dlF ρ xs (m + 1) = dlF ρ xs m ++ [rd_T48 xs m] := by rw [dlF, if_neg (by rw [hd]; simp)]
  refine ⟨⟨zs.set kk (rd_T48 xs m), h1.wrote p1 rfl p2, ?_, fun q hq1 hq2 => ?_⟩, ?_⟩
  · rw [hX, ← h2, List.take_add_one, List.getElem?_set_self (by omega), List.take_set_of_le (Nat.le_refl kk)]
    rfl
  · rw [← h3 q (by omega) hq2]
    have hne : kk ≠ q := by omega
    simp [rd_T48, List.getD, List.getElem?_set_ne hne]
  · rw [hX, List.length_append, h4]; rfl
theorem InvD.skip {w0 W : World} {g nr cr : Nat} {ρ : Nat → Nat} {B gp c : Nat} {xs : List S48} {m kk : Nat} (h : InvD w0 g nr cr ρ B gp c xs m kk W) (hd : difB ρ (rd_T48 xs m) = true) : InvD w0 g nr cr ρ B gp c xs (m + 1) kk W := by
  obtain ⟨⟨zs, h1, h2, h3⟩, h4⟩ := h
  have hX : dlF ρ xs (m + 1) = dlF ρ xs m := by rw [dlF, if_pos hd]
  exact ⟨⟨zs, h1, by rw [hX]; exact h2, fun q h1 h2 => h3 q (by omega) h2⟩, by rw [hX]; exact h4⟩
set_option maxHeartbeats 8000000 in
set_option maxRecDepth 100000 in
theorem delete_any (w0 : World) (g nr cr : Nat) (ρ : Nat → Nat) (B : Nat) (A : Option Addr) (c : Nat) (xs : List S48) (w : World) (H : InvK w0 g nr cr ρ B (.slice A xs.length c) xs w) (hsz : nr ≤ 1000000) (hlen : xs.length ≤ 1000000) (hin : ∀ p ∈ xs, 0 ≤ p.f0 ∧ p.f0 < nr ∧ 0 ≤ p.f1 ∧ p.f1 < nr) :
    Calls Try.prog 34 #[.slice A xs.length c, .func (.func 35) #[] #[.pointer (some ⟨B, 0, none⟩)]] w fun e w' => ∃ m, e = .returned (.slice A m c) ∧
      Kd.R k48 48 w' w0.heap.size (fun _ => True) (.slice A m c) (dlF ρ xs xs.length) ∧ Below w0.heap.size w0 w' := by
  have hu48 := Try.underlying48
  have HX := Aside0.mk (index_any w0 g nr cr ρ B A c xs w H hsz hlen hin)
  have HIN := Aside0.mk hin
  have HH := Aside0.mk H
  clear H hin
  go_enter Try.func34, Try.ntmps34
  go_wp2_with fail
  refine (HX.out).mono ?_
  rintro e w1 ⟨H1, ⟨rfl, hn⟩ | ⟨i0, hi0, rfl, hd, hn⟩⟩
  · have HF := Aside0.mk (And.intro H1 (show dlF ρ xs xs.length = xs by rw [dlF_take ρ xs _ (Nat.le_refl _) hn, List.take_length]))
    clear H1 hn HX
    go_wp2
    go_ret
    exact ⟨_, rfl, by rw [HF.out.2]; exact Kd.R_mono HF.out.1.own (fun _ _ => trivial), HF.out.1.below⟩
  · have hA : ∃ gp, A = some ⟨gp, 0, none⟩ := by
      obtain ⟨_, inner, ho, _⟩ := H1.own
      rcases ho.2 with ⟨hv, hx⟩ | ⟨gp, cap, cur, hv, _⟩
      · injection hv with _ h2 _; omega
      · injection hv with h1 _ _
        exact ⟨gp, h1⟩
    obtain ⟨gp, rfl⟩ := hA
    have hcap := (pr_len H1.own).2
    have HD := Aside0.mk (show InvD w0 g nr cr ρ B gp c xs (i0 + 1) i0 w1 from InvD.skip ⟨⟨xs, H1, (dlF_take ρ xs i0 (by omega) hn).symm, fun _ _ _ => rfl⟩, by rw [dlF_take ρ xs i0 (by omega) hn, List.length_take]; omega⟩ hd)
    clear H1 hn hd HX
    go_wp2
    go_loopg [5, 6] (xs.length - (i0 + 1)) (fun kq v5 v6 w' => ∃ kk m : Nat, kk < m ∧ m ≤ xs.length ∧ v5 = .int .i64 kk ∧ v6 = .int .i64 m ∧ Aside0 (InvD w0 g nr cr ρ B gp c xs m kk w') ∧ Aside0 (kq = xs.length - m))
    case atStart => exact ⟨i0, i0 + 1, by omega, by omega, rfl, by go_num, HD, ⟨rfl⟩⟩
    case round =>
      clear HD
      obtain ⟨kk, m, hkm, hm, rfl, rfl, HD, HK⟩ := hrel
      by_cases hlt : m < xs.length
      · have hcells : wr.cell? ⟨gp, m * 2, none⟩ = some (.int .i64 (rd_T48 xs m).f0) ∧ wr.cell? ⟨gp, m * 2 + 1, none⟩ = some (.int .i64 (rd_T48 xs m).f1) := by
          obtain ⟨zs, h1, h2, h3⟩ := HD.out.inv
          obtain ⟨a0, a1, _, _⟩ := pr_cells h1.own m hlt
          rw [h3 m (Nat.le_refl _) hlt] at a0 a1
          exact ⟨a0, a1⟩
        obtain ⟨a0, a1⟩ := hcells
        have HXIN := Aside0.mk (HIN.out _ (rd48_mem xs m hlt))
        have HPUT := Aside0.mk (fun (W : World) (h : InvD w0 g nr cr ρ B gp c xs m kk W) => h.put hlt (by omega))
        have HSKIP := Aside0.mk (fun (W : World) (h : InvD w0 g nr cr ρ B gp c xs m kk W) => h.skip)
        obtain ⟨x, Hx⟩ : ∃ x, Aside0 (rd_T48 xs m = x) := ⟨_, ⟨rfl⟩⟩
        rw [Hx.out] at a0 a1 HXIN HPUT HSKIP
        have HB0 := Aside0.mk (HD.out.on (below_alloc (Below.refl wr.heap.size wr) (.cells #[.int .i64 x.f0, .int .i64 x.f1] 48)))
        have HA := Aside0.mk (HB0.out.asks hsz x HXIN.out)
        have hgw : g < wr.heap.size := by
          obtain ⟨zs, h1, _⟩ := HD.out.inv
          obtain ⟨cs, h2⟩ := h1.cls
          exact own_lt' h2.own g rfl
        go_wp2_with fail
        refine (HA.out).mono ?_
        rintro e w2 ⟨rfl, HD2, hG⟩
        have hz : (wr.alloc (.cells #[.int .i64 x.f0, .int .i64 x.f1] 48)).heap.size = wr.heap.size + 1 := by simp
        have hbx : ∀ o, w2.cell? ⟨wr.heap.size, o, none⟩ = (wr.alloc (.cells #[.int .i64 x.f0, .int .i64 x.f1] 48)).cell? ⟨wr.heap.size, o, none⟩ := fun o =>
          World.cell?_of_block (hG.block _ (by rw [hz]; show wr.heap.size < _; omega) (fun e => by injection e with e; have e' : wr.heap.size = g := e; omega))
        have b0 : w2.cell? ⟨wr.heap.size, 0, none⟩ = some (.int .i64 x.f0) := (hbx 0).trans (by simp)
        have b1 : w2.cell? ⟨wr.heap.size, 1, none⟩ = some (.int .i64 x.f1) := (hbx 1).trans (by simp)
        have hfr : w2.frozen? ⟨gp, kk * 2, none⟩ = false ∧ w2.frozen? ⟨gp, kk * 2 + 1, none⟩ = false ∧ (w2.cell? ⟨gp, kk * 2, none⟩).isSome = true := by
          obtain ⟨zs, h1, _⟩ := HD2.inv
          obtain ⟨q0, _, q1, q2⟩ := pr_cells h1.own kk (by omega)
          exact ⟨q1, q2, by rw [q0]; rfl⟩
        obtain ⟨zs, h1, _⟩ := HD2.inv
        obtain ⟨c0, c1, f0, f1⟩ := pr_cells h1.own kk (by omega)
        have HD2 := Aside0.mk HD2
        clear hz hbx hG HB0 HA HD hfr h1
        by_cases hd : difB ρ x = true
        · have HDD := Aside0.mk hd
          rw [hd]
          clear hd
          go_wp2
          go_roundg (xs.length - (m + 1))
          case measure => have := HK.out; omega
          case rel => exact ⟨kk, m + 1, by omega, by omega, rfl, by go_num, ⟨HSKIP.out _ HD2.out HDD.out⟩, ⟨rfl⟩⟩
        · have hd' : difB ρ x = false := by simpa using hd
          have HDD := Aside0.mk hd'
          rw [hd']
          clear hd hd'
          go_wp2
          go_roundg (xs.length - (m + 1))
          case measure => have := HK.out; omega
          case rel => exact ⟨kk + 1, m + 1, by omega, by omega, by go_num, by go_num, ⟨HPUT.out _ HD2.out HDD.out⟩, ⟨rfl⟩⟩
      · have hfin : xs.length = m := by omega
        obtain ⟨zs, h1, HT, HE⟩ := HD.out.inv
        have hS := fun W => run_from48 W gp xs.length c kk (by omega) hcap
        have hU := fun W => run_upto48 W gp xs.length c kk (by omega) hcap (by omega)
        obtain ⟨z9, hz9, hcl⟩ := run_clear48 (g := gp) wr 0 (kk * 2) (m - kk) (c - kk) (by omega)
          (fun q hq => by
            obtain ⟨h1, h2, _, _⟩ := pr_cells h1.own (kk + q / 2) (by omega)
            rcases Nat.mod_two_eq_zero_or_one q with h | h
            · rw [show kk * 2 + q = (kk + q / 2) * 2 by omega, h1]; rfl
            · rw [show kk * 2 + q = (kk + q / 2) * 2 + 1 by omega, h2]; rfl)
          (fun q hq => by
            obtain ⟨_, _, h1, h2⟩ := pr_cells h1.own (kk + q / 2) (by omega)
            rcases Nat.mod_two_eq_zero_or_one q with h | h
            · rw [show kk * 2 + q = (kk + q / 2) * 2 by omega, h1]
            · rw [show kk * 2 + q = (kk + q / 2) * 2 + 1 by omega, h2])
        have HP := Aside0.mk (pr_cut h1.own kk (by omega) z9 (by omega))
        have HT := Aside0.mk HT
        have HBW := Aside0.mk (h1.below.grown HP.out.2 h1.below.size (fun k hk => own_base' h1.own k hk))
        have HCL := Aside0.mk hcl
        clear h1 HE hz9 hcl
        go_wp2_with (refine wpList_clear_run _ rfl (.tmp 38) 27 rfl _ rfl HCL.out ?_)
        go_ret
        refine ⟨kk, rfl, ?_, HBW.out⟩
        have h := HP.out.1
        rw [HT.out, ← hfin] at h
        exact Kd.R_mono h (fun _ _ => trivial)
def contraL (r : List S66) (l : List S39) : List S48 := setL (dlF (rootsL r l) (pairsL r l) (pairsL r l).length)
theorem apart_own {W : World} {base : Nat} {ok ok' : Nat → Prop} {g n c : Nat} {xs : List Int} {v : Value} {ps : List S48} (h : Kd.R (Kd.int .i64) 3 W base ok (.slice (some ⟨g, 0, none⟩) n c) xs) (k : Kd.R k48 48 W base ok' v ps) : some g ≠ v.ownBlock := by
  intro e
  obtain ⟨c', hv, _⟩ := own_form k e.symm
  subst hv
  obtain ⟨cur, _, h1, _⟩ := SortR.parts h
  obtain ⟨cur', _, h2, _⟩ := SortR.parts k
  rw [h1] at h2
  injection h2 with h2
  injection h2 with _ h2 _
  exact absurd h2 (by decide)
set_option maxHeartbeats 8000000 in
set_option maxRecDepth 100000 in
theorem contra_any (A0 : Option Addr) (c0 : Nat) (r : List S66) (A1 : Option Addr) (c1 : Nat) (l : List S39) (w : World) (hr0 : Kd.C k66 w A0 r.length r) (hc0 : r.length ≤ c0) (hr1 : Kd.C k39 w A1 l.length l) (hc1 : l.length ≤ c1) (hsz : r.length ≤ 1000000) (hsz2 : l.length ≤ 1000000) :
    Calls Try.prog 18 #[.slice A0 r.length c0, .slice A1 l.length c1] w fun e w' => ∃ v0_ : Value, e = .returned v0_ ∧ Kd.R k48 48 w' w.heap.size (fun _ => True) v0_ (contraL r l) ∧ Below w.heap.size w w' := by
  have HSP := Aside0.mk (split_any A0 c0 r A1 c1 l w hr0 hc0 hr1 hc1 hsz hsz2)
  have HPI := Aside0.mk (show ∀ p ∈ pairsL r l, 0 ≤ p.f0 ∧ p.f0 < r.length ∧ 0 ≤ p.f1 ∧ p.f1 < r.length from pairs_in r (effL l) _)
  have HPL := Aside0.mk (show (pairsL r l).length ≤ l.length from Nat.le_trans (pairs_len _ _ _ _) (effL_len l))
  have HB1 : Aside0 (contraL r l = setL (dlF (rootsL r l) (pairsL r l) (pairsL r l).length)) := ⟨rfl⟩
  clear hr0 hr1
  go_enter Try.func18, Try.ntmps18
  go_wp2_with fail
  refine (HSP.out).mono ?_
  rintro e w1 ⟨g, c, cs, vp, rfl, hC, hP, hB, hg⟩
  clear HSP
  generalize rootsL r l = ρ at *
  generalize pairsL r l = ps at *
  obtain ⟨Ap, cp, hvp, _⟩ := Kd.R_reads hP
  subst hvp
  have hgw := own_lt' hC.own g rfl
  have hb1 : Below w1.heap.size w1 (w1.alloc (.cells #[.slice (some ⟨g, 0, none⟩) r.length c] 49)) := below_alloc (Below.refl _ _) _
  have HI := Aside0.mk (show InvK w g r.length c ρ w1.heap.size (.slice Ap ps.length cp) ps (w1.alloc (.cells #[.slice (some ⟨g, 0, none⟩) r.length c] 49)) from
    ⟨⟨cs, hC.only.kept hb1⟩, blk_new w1 _, Kd.R_below (R_only48 hP) hb1, below_step hB hb1, by omega, apart_own hC.own hP, fun e => by have := own_lt' hP w1.heap.size e.symm; omega⟩)
  have HDE := Aside0.mk (delete_any w g r.length c ρ w1.heap.size Ap cp ps _ HI.out hsz (by have := HPL.out; omega) HPI.out)
  clear hC hP hB hg hb1 HI
  go_wp2_with fail
  refine (HDE.out).mono ?_
  rintro e w2 ⟨m, rfl, hR, hB2⟩
  have HST := Aside0.mk (sorted_any w2 w.heap.size _ _ _ hR (by have h1 := dlF_len ρ ps ps.length; have h2 := HPL.out; omega))
  have HRB := Aside0.mk (And.intro hR hB2)
  clear hR hB2 HDE
  go_wp2_with fail
  refine (HST.out).mono ?_
  rintro e w3 ⟨v3, rfl, hR, hG⟩
  have HF := Aside0.mk (show Kd.R k48 48 w3 w.heap.size (fun _ => True) v3 (contraL r l) ∧ Below w.heap.size w w3 from by
    rw [HB1.out]
    exact ⟨hR, HRB.out.2.grown hG HRB.out.2.size (fun k hk => own_base' HRB.out.1 k hk)⟩)
  clear hR hG HST
  go_wp2
  go_ret
  exact ⟨_, rfl, HF.out.1, HF.out.2⟩
def contraO (l1 : List (S66)) (l2 : List (S39)) : Option (List (S48)) := if l1.length ≤ 1000000 ∧ l2.length ≤ 1000000 then some (contraL l1 l2) else none
theorem contra_calls (A1 : Option Addr) (c1 : Nat) (l1 : List (S66)) (A2 : Option Addr) (c2 : Nat) (l2 : List (S39)) (r : List (S48)) (w : World) (hr1 : Kd.C k66 w A1 l1.length l1) (hc1 : l1.length ≤ c1) (hr2 : Kd.C k39 w A2 l2.length l2) (hc2 : l2.length ≤ c2) (h : contraO l1 l2 = some r) :
    Calls Try.prog 18 #[.slice A1 l1.length c1, .slice A2 l2.length c2] w fun e w' => ∃ v0_ : Value, e = .returned (v0_) ∧ Kd.R k48 48 w' w.heap.size (fun _ => True) v0_ r ∧ Below w.heap.size w w' := by
  unfold contraO at h
  by_cases hs : l1.length ≤ 1000000 ∧ l2.length ≤ 1000000
  · rw [if_pos hs] at h
    injection h with h
    subst h
    exact contra_any A1 c1 l1 A2 c2 l2 w hr1 hc1 hr2 hc2 hs.1 hs.2
  · rw [if_neg hs] at h
    cases h
end Go.Proofs.Ytocjknmojcgeiaa.Hand
