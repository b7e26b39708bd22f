/- slices.Compact at pairs of whole numbers, walked: of neighbours that are equal, the first stays. -/
import Derived.Test.YtocjknmojcgeiaaSpl
namespace Go.Proofs.Ytocjknmojcgeiaa.Hand
set_option linter.unusedSectionVars false
set_option linter.unnecessarySimpa false
open Go.RowKit Go.Proofs.Ytocjknmojcgeiaa.Bd Go.Proofs.YtocjknmojcgeiaaW.PrintWords Go.Proofs.YtocjknmojcgeiaaW.PrintLast MapK
set_option linter.unusedVariables false
set_option linter.unusedSimpArgs false
attribute [local go_sem] eqA48
instance decS48 : DecidableEq S48 := fun a b =>
  if h : a.f0 = b.f0 ∧ a.f1 = b.f1 then isTrue (by cases a; cases b; simp only [S48.mk.injEq]; exact h) else isFalse (fun e => h (by rw [e]; exact ⟨rfl, rfl⟩))
/-- Of the first m, those that differ from the one before. -/
def cmpF (xs : List S48) : Nat → List S48
  | 0 => []
  | m + 1 => if 0 < m ∧ rd_T48 xs m = rd_T48 xs (m - 1 : Nat) then cmpF xs m else cmpF xs m ++ [rd_T48 xs m]
def compactL (xs : List S48) : List S48 := cmpF xs xs.length
theorem rd48 (xs : List S48) (i : Nat) (hi : i < xs.length) : rd_T48 xs i = xs[i] := by
  simp [rd_T48, List.getD, List.getElem?_eq_getElem hi]
theorem cmpF_len (xs : List S48) : ∀ m, (cmpF xs m).length ≤ m
  | 0 => Nat.le_refl 0
  | m + 1 => by
    have := cmpF_len xs m
    unfold cmpF
    split
    · omega
    · simp; omega
theorem eq48 (x y : S48) : ((x.f0 == y.f0) && (x.f1 == y.f1)) = decide (x = y) := by
  cases x with | mk a b => cases y with | mk c d => 
    simp only [S48.mk.injEq]
    by_cases h1 : a = c <;> by_cases h2 : b = d <;> simp [h1, h2]
theorem cmpF_one (xs : List S48) : cmpF xs 1 = [rd_T48 xs 0] := by simp [cmpF]
theorem cmpF_same {xs : List S48} {m : Nat} (h0 : 0 < m) (h : rd_T48 xs m = rd_T48 xs (m - 1 : Nat)) : cmpF xs (m + 1) = cmpF xs m := by
  rw [cmpF, if_pos ⟨h0, h⟩]
theorem cmpF_new {xs : List S48} {m : Nat} (h : ¬ rd_T48 xs m = rd_T48 xs (m - 1 : Nat)) : cmpF xs (m + 1) = cmpF xs m ++ [rd_T48 xs m] := by
  rw [cmpF, if_neg (fun h2 => h h2.2)]
theorem take_rd (xs : List S48) {m : Nat} (hm : m < xs.length) : xs.take (m + 1) = xs.take m ++ [rd_T48 xs m] := by
  rw [rd48 _ _ hm, List.take_add_one, List.getElem?_eq_getElem hm]; rfl
theorem run_from48 (W : World) (g n c k : Nat) (hk : k < n) (hc : n ≤ c) : (Instr.slice 27 (.slice (some ⟨g, 0, none⟩) n c) (some (.int .i64 (k : Int))) none none).run Try.prog W = .ok (.slice (some ⟨g, k * 2, none⟩) (n - k) (c - k)) W := by
  have ht' : Try.prog.underlying 27 = some (.slice (Try.prog.elem 27)) := by simp [Program.elem, Try.underlying27]
  have he : Try.prog.elem 27 = 48 := by simp [Program.elem, Try.underlying27]
  rw [run_slice_l W 27 _ _ _ ht' .i64 _ (by omega) (by omega), he, Try.sizeOf48]
  have hne : ¬ c = k := by omega
  by_cases h0 : k = 0
  · subst h0
    simp [Result.andThen, sliced, Addr.add, hne]
  · simp [Result.andThen, sliced, Addr.add, hne, h0, Nat.mul_comm]
    omega
theorem run_upto48 (W : World) (g n c k : Nat) (hk : k ≤ n) (hc : n ≤ c) (h1 : 0 < c) : (Instr.slice 27 (.slice (some ⟨g, 0, none⟩) n c) none (some (.int .i64 (k : Int))) none).run Try.prog W = .ok (.slice (some ⟨g, 0, none⟩) k c) W := by
  have ht' : Try.prog.underlying 27 = some (.slice (Try.prog.elem 27)) := by simp [Program.elem, Try.underlying27]
  have he : Try.prog.elem 27 = 48 := by simp [Program.elem, Try.underlying27]
  rw [run_slice_h W 27 _ _ _ ht' .i64 _ (by omega) (by omega), he, Try.sizeOf48]
  have hne : ¬ c = 0 := by omega
  simp [Result.andThen, sliced, Addr.add, hne]
theorem grown_drewN {a b : World} {row : Option Nat} (h : a.grownBy b row) (m : Nat) : a.grownBy (b.drewN m) row := ⟨h.os, h.tape, h.output, h.size, h.block⟩
theorem wp_clear_run {P : Program} (w : World) {o : Oper} {a : Act} {K : Act → World → Prop} {Q : Exit → Act → World → Prop} (d : Operand) (t : TypeId)
    (ho : o.op = .call { callee := .builtin .clear, args := #[d], argTypes := #[t] }) (v : Value) (hd : a.eval d = v) {v' : Value} {w' : World}
    (hr : (Builtin.clear_ #[t] o.type #[v]).run P w = .ok v' w') (h : K (a.put o.dst v') w') : o.wp P a w K Q := by
  unfold Oper.wp execOp
  simp only [ho, resolve, invoke, builtin, Sem.run_bind, Sem.run_pure, Result.andThen_ok, List.map_toArray, List.map_cons, List.map_nil, hd, hr]
  exact h
theorem wpList_clear_run {P : Program} (w : World) {ops : Array Oper} {rest : List Oper} {o : Oper} {a : Act} {Q : Exit → Act → World → Prop} (hgd : o.guard = none) (d : Operand) (t : TypeId)
    (ho : o.op = .call { callee := .builtin .clear, args := #[d], argTypes := #[t] }) (v : Value) (hd : a.eval d = v) {v' : Value} {w' : World}
    (hr : (Builtin.clear_ #[t] o.type #[v]).run P w = .ok v' w') (h : wpList P ops Q rest (a.put o.dst v') w') : wpList P ops Q (o :: rest) a w :=
  wpList_plain hgd fun _ hK => wp_clear_run w d t ho v hd hr (hK _ _ h)
/-- What the second loop keeps. -/
structure InvC (w : World) (base : Nat) (ok : Nat → Prop) (g n c : Nat) (xs : List S48) (m : Nat) (kk : Nat) (W : World) : Prop where
  own : ∃ zs, Kd.R k48 48 W base ok (.slice (some ⟨g, 0, none⟩) n c) zs ∧ zs.take kk = cmpF xs m ∧ ∀ j, m - 1 ≤ j → j < n → rd_T48 zs j = rd_T48 xs j
  grown : w.grownBy W (some g)
  len : (cmpF xs m).length = kk
set_option maxHeartbeats 4000000 in
set_option maxRecDepth 100000 in
theorem compact_any (w : World) (base : Nat) (ok : Nat → Prop) (A : Option Addr) (n c : Nat) (xs : List S48) (HO : Kd.R k48 48 w base ok (.slice A n c) xs) (hlen : xs.length ≤ 1000000) :
    Calls Try.prog 44 #[.slice A n c] w fun e w' => ∃ m, e = .returned (.slice A m c) ∧ Kd.R k48 48 w' base ok (.slice A m c) (compactL xs) ∧ w.grownBy w' (Value.slice A n c).ownBlock := by
  have hu48 := Try.underlying48
  have HH := Aside0.mk HO
  obtain ⟨A', c', hv, _⟩ := Kd.R_reads HO
  injection hv with hA hnn hc
  subst hA; subst hnn; subst hc
  by_cases h2 : xs.length < 2
  · have HC := Aside0.mk (show compactL xs = xs by
      rcases xs with _ | ⟨x, _ | ⟨y, l⟩⟩
      · rfl
      · simp [compactL, cmpF, rd_T48]
      · simp at h2; omega)
    clear HO
    go_enter Try.func44, Try.ntmps44
    go_wp2
    go_ret
    exact ⟨_, rfl, by rw [HC.out]; exact HH.out, grown_refl _ _⟩
  · have hA : ∃ g, A = some ⟨g, 0, none⟩ := by
      obtain ⟨_, inner, ho, _⟩ := HO
      rcases ho.2 with ⟨hv, hx⟩ | ⟨g, cap, cur, hv, _⟩
      · rw [hx] at h2; simp at h2
      · injection hv with h1 _ _
        exact ⟨g, h1⟩
    obtain ⟨g, rfl⟩ := hA
    have hcap := (pr_len HO).2
    clear HO
    go_enter Try.func44, Try.ntmps44
    go_wp2
    go_loopg [3] (xs.length - 1) (fun kq v3 w' => ∃ k : Nat, 1 ≤ k ∧ k ≤ xs.length ∧ v3 = .int .i64 k ∧ Aside0 (Kd.R k48 48 w' base ok (.slice (some ⟨g, 0, none⟩) xs.length c) xs) ∧ Aside0 (w.grownBy w' (some g)) ∧ Aside0 (cmpF xs k = xs.take k) ∧ Aside0 (kq = xs.length - k))
    case atStart => exact ⟨1, Nat.le_refl _, by omega, rfl, HH, ⟨grown_refl _ _⟩, ⟨by rw [cmpF_one, take_rd xs (by omega)]; rfl⟩, ⟨by omega⟩⟩
    case round =>
      obtain ⟨k, hk1, hk, rfl, HI, HG, HT, HK⟩ := hrel
      by_cases hlt : k < xs.length
      · obtain ⟨j, rfl⟩ : ∃ j, k = j + 1 := ⟨k - 1, by omega⟩
        have P1 := pr_cells HI.out (j + 1) hlt
        have P0 := pr_cells HI.out j (by omega)
        obtain ⟨a0, a1, f0, f1⟩ := P0
        obtain ⟨b0, b1, h0, h1⟩ := P1
        have hj : ((j + 1 : Nat) : Int) - 1 = (j : Int) := by omega
        have hq := eq48 (rd_T48 xs (j + 1 : Nat)) (rd_T48 xs j)
        by_cases hE : rd_T48 xs (j + 1 : Nat) = rd_T48 xs j
        · have HE := Aside0.mk hE
          rw [hE] at b0 b1
          clear hE hq
          have hS := fun W => run_from48 W g xs.length c (j + 1) hlt hcap
          go_wp2
          go_quiet (fail)
          go_wp2
          clear hS a0 a1 f0 f1 b0 b1 h0 h1 hj
          have HS := Aside0.mk (show InvC w base ok g xs.length c xs (j + 1 + 1) (j + 1) (wr.drewN nq) from ⟨⟨xs, Kd.R_drewN HI.out _, by rw [cmpF_same (by omega) (by simpa using HE.out), HT.out], fun _ _ _ => rfl⟩, grown_drewN HG.out _, by rw [cmpF_same (by omega) (by simpa using HE.out), HT.out, List.length_take]; omega⟩)
          go_loopg [3, 5] (xs.length - (j + 1 + 1)) (fun kq v3 v5 w' => ∃ kk i : Nat, kk ≤ j + 1 + i ∧ j + 1 + i + 1 ≤ xs.length ∧ v3 = .int .i64 kk ∧ v5 = .int .i64 (i + 1 : Nat) ∧ Aside0 (InvC w base ok g xs.length c xs (j + 1 + i + 1) kk w') ∧ Aside0 (kq = xs.length - (j + 1 + i + 1)))
          case atStart => exact ⟨j + 1, 0, by omega, by omega, rfl, rfl, HS, ⟨rfl⟩⟩
          case round =>
            clear hk hk1 hlt HT HK HI HG HS HE
            obtain ⟨kk, i, hkk, him, rfl, rfl, HS, HK⟩ := hrel
            by_cases hlt : j + 1 + i + 1 < xs.length
            · obtain ⟨zs, HZ, HT, HE⟩ := HS.out.own
              have P1 := pr_cells HZ (j + 1 + i + 1) hlt
              have P0 := pr_cells HZ (j + 1 + i) (by omega)
              rw [HE _ (by omega) hlt] at P1
              rw [HE _ (by omega) (by omega)] at P0
              rw [show (j + 1 + i) * 2 = (j + 1) * 2 + i * 2 by omega] at P0
              rw [show (j + 1 + i + 1) * 2 = (j + 1) * 2 + (i + 1) * 2 by omega] at P1
              obtain ⟨a0, a1, f0, f1⟩ := P0
              obtain ⟨b0, b1, h0, h1⟩ := P1
              have P2 := pr_cells HZ kk (by omega)
              obtain ⟨c0, c1, g0, g1⟩ := P2
              have HZl := (pr_len HZ).1
              have HZ := Aside0.mk (And.intro HZ (And.intro HT (And.intro HE HZl)))
              clear HT HE HZl
              have hj : ((i + 1 : Nat) : Int) - 1 = (i : Int) := by omega
              have hq := eq48 (rd_T48 xs (j + 1 + i + 1 : Nat)) (rd_T48 xs (j + 1 + i : Nat))
              by_cases hE : rd_T48 xs (j + 1 + i + 1 : Nat) = rd_T48 xs (j + 1 + i : Nat)
              · have hq0 : ((rd_T48 xs (j + 1 + i + 1 : Nat)).f0 == (rd_T48 xs (j + 1 + i : Nat)).f0 && ((rd_T48 xs (j + 1 + i + 1 : Nat)).f1 == (rd_T48 xs (j + 1 + i : Nat)).f1)) = true := by rw [hq]; exact decide_eq_true hE
                have HC := Aside0.mk (show cmpF xs (j + 1 + i + 1 + 1) = cmpF xs (j + 1 + i + 1) from cmpF_same (by omega) (by simpa using hE))
                clear hE hq c0 c1 g0 g1
                obtain ⟨x1, Hx1⟩ : ∃ x1, Aside0 (rd_T48 xs (j + 1 + i + 1 : Nat) = x1) := ⟨_, ⟨rfl⟩⟩
                obtain ⟨x0, Hx0⟩ : ∃ x0, Aside0 (rd_T48 xs (j + 1 + i : Nat) = x0) := ⟨_, ⟨rfl⟩⟩
                rw [Hx1.out] at b0 b1
                rw [Hx0.out] at a0 a1
                rw [Hx1.out, Hx0.out] at hq0
                go_wp2
                go_quiet (fail)
                go_wp2
                go_roundg (xs.length - (j + 1 + i + 1 + 1))
                case measure => have := HK.out; omega
                case rel =>
                  refine ⟨kk, i + 1, by omega, by omega, rfl, by go_num, ⟨?_⟩, ⟨by omega⟩⟩
                  rw [show j + 1 + (i + 1) + 1 = j + 1 + i + 1 + 1 by omega]
                  exact ⟨⟨zs, Kd.R_drewN HZ.out.1 _, by rw [HC.out]; exact HZ.out.2.1, fun q h1 h2 => HZ.out.2.2.1 q (by omega) h2⟩, grown_drewN HS.out.grown _, by rw [HC.out]; exact HS.out.len⟩
              · have hq0 : ((rd_T48 xs (j + 1 + i + 1 : Nat)).f0 == (rd_T48 xs (j + 1 + i : Nat)).f0 && ((rd_T48 xs (j + 1 + i + 1 : Nat)).f1 == (rd_T48 xs (j + 1 + i : Nat)).f1)) = false := by rw [hq]; exact decide_eq_false hE
                have HC := Aside0.mk (show cmpF xs (j + 1 + i + 1 + 1) = cmpF xs (j + 1 + i + 1) ++ [rd_T48 xs (j + 1 + i + 1 : Nat)] from cmpF_new (by simpa using hE))
                clear hE hq
                obtain ⟨x1, Hx1⟩ : ∃ x1, Aside0 (rd_T48 xs (j + 1 + i + 1 : Nat) = x1) := ⟨_, ⟨rfl⟩⟩
                obtain ⟨x0, Hx0⟩ : ∃ x0, Aside0 (rd_T48 xs (j + 1 + i : Nat) = x0) := ⟨_, ⟨rfl⟩⟩
                rw [Hx1.out] at b0 b1
                rw [Hx0.out] at a0 a1
                rw [Hx1.out, Hx0.out] at hq0
                go_wp2
                go_quiet (fail)
                go_wp2
                go_roundg (xs.length - (j + 1 + i + 1 + 1))
                case measure => have := HK.out; omega
                case rel =>
                  refine ⟨kk + 1, i + 1, by omega, by omega, by go_num, by go_num, ⟨?_⟩, ⟨by omega⟩⟩
                  rw [show j + 1 + (i + 1) + 1 = j + 1 + i + 1 + 1 by omega]
                  have HP := pr_put (Kd.R_drewN HZ.out.1 nq) kk (by omega) x1
                  refine ⟨⟨zs.set kk x1, HP.1, ?_, fun q h1 h2 => ?_⟩, grown_trans (grown_drewN HS.out.grown nq) HP.2, ?_⟩
                  · rw [HC.out, Hx1.out, ← HZ.out.2.1]
                    have hz := HZ.out.2.2.2
                    rw [List.take_add_one, List.getElem?_set_self (by omega), List.take_set_of_le (Nat.le_refl kk)]
                    rfl
                  · rw [← HZ.out.2.2.1 q (by omega) h2]
                    have hne : kk ≠ q := by omega
                    simp [rd_T48, List.getD, List.getElem?_set_ne hne]
                  · rw [HC.out, List.length_append, HS.out.len]; rfl
            · have hfin : xs.length = j + 1 + i + 1 := by omega
              obtain ⟨zs, HZ, HT, HE⟩ := HS.out.own
              have hS := fun W => run_from48 W g xs.length c kk (by omega) hcap
              have hU := fun W => run_upto48 W g xs.length c kk (by omega) hcap (by omega)
              obtain ⟨z9, hz9, hcl⟩ := run_clear48 (g := g) wr 0 (kk * 2) (j + 1 + i + 1 - kk) (c - kk) (by omega)
                (fun q hq => by
                  obtain ⟨h1, h2, _, _⟩ := pr_cells HZ (kk + q / 2) (by omega)
                  rcases Nat.mod_two_eq_zero_or_one q with h | h
                  · rw [show kk * 2 + q = (kk + q / 2) * 2 by omega, h1]; rfl
                  · rw [show kk * 2 + q = (kk + q / 2) * 2 + 1 by omega, h2]; rfl)
                (fun q hq => by
                  obtain ⟨_, _, h1, h2⟩ := pr_cells HZ (kk + q / 2) (by omega)
                  rcases Nat.mod_two_eq_zero_or_one q with h | h
                  · rw [show kk * 2 + q = (kk + q / 2) * 2 by omega, h1]
                  · rw [show kk * 2 + q = (kk + q / 2) * 2 + 1 by omega, h2])
              have HP := Aside0.mk (pr_cut HZ kk (by omega) z9 (by omega))
              have HT := Aside0.mk HT
              have HCL := Aside0.mk hcl
              clear HZ HE hz9 hcl
              go_wp2_with (refine wpList_clear_run _ rfl (.tmp 56) 27 rfl _ rfl HCL.out ?_)
              go_ret
              refine ⟨kk, rfl, ?_, grown_trans HS.out.grown HP.out.2⟩
              have h := HP.out.1
              rw [HT.out, ← hfin] at h
              exact h
        · have hq0 : ((rd_T48 xs (j + 1 : Nat)).f0 == (rd_T48 xs j).f0 && ((rd_T48 xs (j + 1 : Nat)).f1 == (rd_T48 xs j).f1)) = false := by rw [hq]; exact decide_eq_false hE
          have HE := Aside0.mk hE
          clear hE hq
          obtain ⟨x1, Hx1⟩ : ∃ x1, Aside0 (rd_T48 xs (j + 1 : Nat) = x1) := ⟨_, ⟨rfl⟩⟩
          obtain ⟨x0, Hx0⟩ : ∃ x0, Aside0 (rd_T48 xs j = x0) := ⟨_, ⟨rfl⟩⟩
          rw [Hx1.out] at b0 b1
          rw [Hx0.out] at a0 a1
          rw [Hx1.out, Hx0.out] at hq0
          go_wp2
          go_quiet (fail)
          go_wp2
          go_roundg (xs.length - (j + 1 + 1))
          case measure => have := HK.out; omega
          case rel => exact ⟨j + 1 + 1, by omega, by omega, by go_num, ⟨Kd.R_drewN HI.out _⟩, ⟨grown_drewN HG.out _⟩, ⟨by rw [cmpF_new (by simpa using HE.out), HT.out, ← take_rd xs hlt]⟩, ⟨rfl⟩⟩
      · obtain rfl : k = xs.length := by omega
        have HR := Aside0.mk (show compactL xs = xs by unfold compactL; rw [HT.out, List.take_length])
        clear hlt HK
        go_wp2
        go_ret
        exact ⟨_, rfl, by rw [HR.out]; exact HI.out, HG.out⟩
end Go.Proofs.Ytocjknmojcgeiaa.Hand

/- bond.sorted, walked: the pairs in order, each once. -/
namespace Go.Proofs.Ytocjknmojcgeiaa.Hand
set_option linter.unusedSectionVars false
set_option linter.unnecessarySimpa false
open Go.RowKit Go.Proofs.Ytocjknmojcgeiaa.Bd Go.Proofs.YtocjknmojcgeiaaW.PrintWords Go.Proofs.YtocjknmojcgeiaaW.PrintLast MapK
set_option linter.unusedVariables false
set_option linter.unusedSimpArgs false
def sortPL (l : List S48) : List S48 := l.mergeSort (fun x y => decide (ordP x y ≤ 0))
theorem sortPL_perm (l : List S48) : (sortPL l).Perm l := List.mergeSort_perm _ _
theorem sortPL_sorted (l : List S48) : (sortPL l).Pairwise (fun x y => ordP x y ≤ 0) := by
  have h := List.pairwise_mergeSort (le := fun x y => decide (ordP x y ≤ 0)) (fun a b c h1 h2 => by
    simp only [decide_eq_true_eq] at *
    exact ordP_cmp.trans a b c h1 h2) (fun a b => by
    simp only [Bool.or_eq_true, decide_eq_true_eq]
    have := ordP_cmp.anti a b
    omega) l
  exact h.imp (fun h => by simpa using h)
theorem sortPL_unique {l m : List S48} (hp : m.Perm l) (hs : m.Pairwise (fun x y => ordP x y ≤ 0)) : m = sortPL l := by
  refine List.Perm.eq_of_pairwise (le := fun x y => ordP x y ≤ 0) (fun a b ha hb h1 h2 => ?_) hs (sortPL_sorted l) (hp.trans (sortPL_perm l).symm)
  have h0 : ordP a b = 0 := by have := ordP_cmp.anti a b; omega
  exact ordP_zero.1 h0
def setL (l : List S48) : List S48 := compactL (sortPL l)
set_option maxHeartbeats 4000000 in
set_option maxRecDepth 100000 in
theorem sorted_any (w : World) (base : Nat) (ok : Nat → Prop) (v : Value) (xs : List S48) (HO : Kd.R k48 48 w base ok v xs) (hlen : xs.length ≤ 1000000) :
    Calls Try.prog 28 #[v] w fun e w' => ∃ v', e = .returned v' ∧ Kd.R k48 48 w' base ok v' (setL xs) ∧ w.grownBy w' v.ownBlock := by
  obtain ⟨A, c, hv, _⟩ := Kd.R_reads HO
  subst hv
  have HS := Aside0.mk (sortP_any w base ok A _ c xs HO hlen)
  clear HO
  go_enter Try.func28, Try.ntmps28
  go_wp2_with fail
  refine (HS.out).mono ?_
  rintro e w1 ⟨rfl, ys, hperm, hpair, hR, hg⟩
  have hys := sortPL_unique hperm hpair
  have hl := hperm.length_eq
  have HG := Aside0.mk hg
  have HY := Aside0.mk hys
  have HC := Aside0.mk (compact_any w1 base ok A xs.length c ys hR (by omega))
  clear hperm hpair hR hg hys HS
  go_wp2_with fail
  refine (HC.out).mono ?_
  rintro e w2 ⟨m, rfl, hR, hg⟩
  have HF := Aside0.mk (And.intro hR hg)
  clear hR hg HC
  go_wp2
  go_ret
  refine ⟨_, rfl, ?_, grown_trans HG.out HF.out.2⟩
  have h := HF.out.1
  rw [HY.out] at h
  exact h
end Go.Proofs.Ytocjknmojcgeiaa.Hand
