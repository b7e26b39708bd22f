/- Classes of records as bond keeps them: each record leads to an earlier one or to itself; what head and join do to that, in plain words. -/
import Derived.Test.YtocjknmojcgeiaaCp
import Derived.Test.YtocjknmojcgeiaaEff
namespace Go.Proofs.Ytocjknmojcgeiaa.Hand
set_option linter.unusedSectionVars false
set_option linter.unnecessarySimpa false
open Go.RowKit Go.Proofs.Ytocjknmojcgeiaa.Bd Go.Proofs.YtocjknmojcgeiaaW.PrintWords Go.Proofs.YtocjknmojcgeiaaW.PrintLast
set_option linter.unusedVariables false
set_option linter.unusedSimpArgs false
/-- The classes cs have the heads ρ. -/
structure IsRoot (cs : List Int) (ρ : Nat → Nat) : Prop where
  at_ : ∀ (j : Nat) (h : j < cs.length), ∃ p : Nat, cs[j] = (p : Int) ∧ p ≤ j ∧ ρ p = ρ j ∧ (p = j → ρ j = j)
theorem IsRoot.low {cs : List Int} {ρ : Nat → Nat} (h : IsRoot cs ρ) : ∀ (k j : Nat), j ≤ k → (hj : j < cs.length) → ρ j ≤ j ∧ cs[ρ j]? = some ((ρ j : Nat) : Int) ∧ ρ (ρ j) = ρ j := by
  intro k
  induction k with
  | zero =>
    intro j hk hj
    obtain ⟨p, e, hp, h1, h2⟩ := h.at_ j hj
    have : p = j := by omega
    subst this
    have h3 := h2 rfl
    rw [h3]
    exact ⟨Nat.le_refl _, by rw [List.getElem?_eq_getElem hj, e], h3⟩
  | succ k ih =>
    intro j hk hj
    obtain ⟨p, e, hp, h1, h2⟩ := h.at_ j hj
    by_cases hpj : p = j
    · subst hpj
      have h3 := h2 rfl
      rw [h3]
      exact ⟨Nat.le_refl _, by rw [List.getElem?_eq_getElem hj, e], h3⟩
    · obtain ⟨g1, g2, g3⟩ := ih p (by omega) (by omega)
      rw [← h1]
      exact ⟨by omega, g2, g3⟩
theorem IsRoot.le {cs : List Int} {ρ : Nat → Nat} (h : IsRoot cs ρ) {j : Nat} (hj : j < cs.length) : ρ j ≤ j := (h.low j j (Nat.le_refl _) hj).1
theorem IsRoot.fix {cs : List Int} {ρ : Nat → Nat} (h : IsRoot cs ρ) {j : Nat} (hj : j < cs.length) : ρ (ρ j) = ρ j := (h.low j j (Nat.le_refl _) hj).2.2
theorem IsRoot.head {cs : List Int} {ρ : Nat → Nat} (h : IsRoot cs ρ) {j : Nat} (hj : j < cs.length) : cs[ρ j]? = some ((ρ j : Nat) : Int) := (h.low j j (Nat.le_refl _) hj).2.1
/-- What a record leads to. -/
def up (cs : List Int) (j : Nat) : Nat := (cs.getD j 0).toNat
theorem IsRoot.up {cs : List Int} {ρ : Nat → Nat} (h : IsRoot cs ρ) {j : Nat} (hj : j < cs.length) : rd cs (j : Int) = ((up cs j : Nat) : Int) ∧ up cs j ≤ j ∧ ρ (up cs j) = ρ j ∧ (up cs j = j → ρ j = j) := by
  obtain ⟨p, e, hp, h1, h2⟩ := h.at_ j hj
  have e2 : cs.getD j 0 = (p : Int) := by simp [List.getD_eq_getElem?_getD, hj, e]
  have e3 : Hand.up cs j = p := by unfold Hand.up; rw [e2]; rfl
  rw [e3]
  refine ⟨?_, hp, h1, h2⟩
  show cs.getD ((j : Int)).toNat 0 = _
  rw [Int.toNat_natCast]
  exact e2
/-- A step of head: a record leads to what its parent leads to. -/
theorem IsRoot.squash {cs : List Int} {ρ : Nat → Nat} (h : IsRoot cs ρ) {j : Nat} (hj : j < cs.length) (hne : Hand.up cs j ≠ j) : IsRoot (cs.set j ((Hand.up cs (Hand.up cs j) : Nat) : Int)) ρ := by
  obtain ⟨_, h1, h2, h3⟩ := h.up hj
  obtain ⟨_, g1, g2, g3⟩ := h.up (j := Hand.up cs j) (by omega)
  constructor
  intro i hi
  rw [List.length_set] at hi
  rw [List.getElem_set]
  by_cases hji : j = i
  · subst hji
    rw [if_pos rfl]
    exact ⟨_, rfl, by omega, by rw [g2, h2], fun e => by omega⟩
  · rw [if_neg hji]
    exact h.at_ i hi
/-- Two classes made one. -/
def joinF (ρ : Nat → Nat) (a b : Nat) : Nat → Nat := fun j => if ρ j = max (ρ a) (ρ b) then min (ρ a) (ρ b) else ρ j
theorem IsRoot.join {cs : List Int} {ρ : Nat → Nat} (h : IsRoot cs ρ) {a b : Nat} (ha : a < cs.length) (hb : b < cs.length) : IsRoot (cs.set (max (ρ a) (ρ b)) ((min (ρ a) (ρ b) : Nat) : Int)) (joinF ρ a b) := by
  have fa := h.fix ha
  have fb := h.fix hb
  have la := h.le ha
  have lb := h.le hb
  have fm : ρ (max (ρ a) (ρ b)) = max (ρ a) (ρ b) := by rcases Nat.le_total (ρ a) (ρ b) with h1 | h1 <;> simp [Nat.max_def, h1, fa, fb] <;> omega
  have fn : ρ (min (ρ a) (ρ b)) = min (ρ a) (ρ b) := by rcases Nat.le_total (ρ a) (ρ b) with h1 | h1 <;> simp [Nat.min_def, h1, fa, fb] <;> omega
  constructor
  intro j hj
  rw [List.length_set] at hj
  rw [List.getElem_set]
  unfold joinF
  by_cases hm : max (ρ a) (ρ b) = j
  · rw [if_pos hm]
    refine ⟨min (ρ a) (ρ b), rfl, by omega, ?_, ?_⟩
    · rw [fn, ← hm, fm, if_pos rfl]
      split <;> rfl
    · intro e
      rw [← hm, fm, if_pos rfl]
      omega
  · rw [if_neg hm]
    obtain ⟨p, e, hp, h1, h2⟩ := h.at_ j hj
    refine ⟨p, e, hp, by rw [h1], fun e2 => ?_⟩
    have h3 := h2 e2
    rw [h3, if_neg (fun e4 => hm e4.symm)]
theorem IsRoot.start (n : Nat) : IsRoot ((List.range n).map (fun i : Nat => (i : Int))) id := by
  constructor
  intro j hj
  rw [List.length_map, List.length_range] at hj
  exact ⟨j, by simp, Nat.le_refl _, rfl, fun _ => rfl⟩
end Go.Proofs.Ytocjknmojcgeiaa.Hand

/- (classes).head and (classes).join, walked. -/
namespace Go.Proofs.Ytocjknmojcgeiaa.Hand
set_option linter.unusedSectionVars false
set_option linter.unnecessarySimpa false
open Go.RowKit Go.Proofs.Ytocjknmojcgeiaa.Bd Go.Proofs.YtocjknmojcgeiaaW.PrintWords Go.Proofs.YtocjknmojcgeiaaW.PrintLast Go.Proofs.YtocjknmojcgeiaaW.PrintMore
set_option linter.unusedVariables false
set_option linter.unusedSimpArgs false
theorem grown_trans {a b c : World} {row : Option Nat} (h : a.grownBy b row) (k : b.grownBy c row) : a.grownBy c row :=
  ⟨k.os.trans h.os, k.tape.trans h.tape, k.output.trans h.output, Nat.le_trans h.size k.size, fun i hi hne => (k.block i (Nat.lt_of_lt_of_le hi h.size) hne).trans (h.block i hi hne)⟩
theorem grown_refl (a : World) (row : Option Nat) : a.grownBy a row := ⟨rfl, rfl, rfl, Nat.le_refl _, fun _ _ _ => rfl⟩
/-- A row of classes. -/
structure Cls (w : World) (base : Nat) (ok : Nat → Prop) (g n c : Nat) (cs : List Int) (ρ : Nat → Nat) : Prop where
  own : Kd.R (Kd.int .i64) 3 w base ok (.slice (some ⟨g, 0, none⟩) n c) cs
  root : IsRoot cs ρ
  len : cs.length = n
theorem Cls.cell {w : World} {base : Nat} {ok : Nat → Prop} {g n c : Nat} {cs : List Int} {ρ : Nat → Nat} (h : Cls w base ok g n c cs ρ) {j : Nat} (hj : j < n) : w.cell? ⟨g, j, none⟩ = some (.int .i64 ((up cs j : Nat) : Int)) ∧ w.frozen? ⟨g, j, none⟩ = false := by
  have hl := h.len
  obtain ⟨h1, h2⟩ := Kd.R_celln 0 h.own (j : Int) (by omega) (by omega)
  rw [show rdOf (0 : Int) cs (j : Int) = ((up cs j : Nat) : Int) from (h.root.up (by omega)).1] at h1
  simpa using ⟨h1, h2⟩
theorem Cls.put {w : World} {base : Nat} {ok : Nat → Prop} {g n c : Nat} {cs : List Int} {ρ ρ' : Nat → Nat} (h : Cls w base ok g n c cs ρ) {j : Nat} (x : Int) (hr : IsRoot (cs.set j x) ρ') : Cls (w.setCell ⟨g, j, none⟩ (.int .i64 x)) base ok g n c (cs.set j x) ρ' ∧ w.grownBy (w.setCell ⟨g, j, none⟩ (.int .i64 x)) (some g) := by
  have hl := h.len
  obtain ⟨h1, h2⟩ := Kd.R_putg h.own (j : Int) x
  simp only [Int.toNat_natCast] at h1 h2
  exact ⟨⟨h1, hr, by rw [List.length_set]; exact hl⟩, h2⟩
theorem Cls.kept {w w' : World} {base : Nat} {ok : Nat → Prop} {g n c : Nat} {cs : List Int} {ρ : Nat → Nat} (h : Cls w base ok g n c cs ρ) (hb : Below w.heap.size w w') : Cls w' base ok g n c cs ρ := ⟨Kd.R_below h.own hb, h.root, h.len⟩
set_option maxHeartbeats 4000000 in
set_option maxRecDepth 100000 in
theorem head_any (w : World) (base : Nat) (ok : Nat → Prop) (g n c : Nat) (cs : List Int) (ρ : Nat → Nat) (H : Cls w base ok g n c cs ρ) (i : Nat) (hi : i < n) (hsz : n ≤ 1000000) :
    Calls Try.prog 27 #[.slice (some ⟨g, 0, none⟩) n c, .int .i64 i] w fun e w' => e = .returned (.int .i64 (ρ i)) ∧ ∃ cs', Cls w' base ok g n c cs' ρ ∧ w.grownBy w' (some g) := by
  have HH := Aside0.mk H
  clear H
  go_enter Try.func27, Try.ntmps27
  go_wp2
  go_loopg [1] i (fun kq v1 w' => ∃ (j : Nat) (cs' : List Int), j < n ∧ v1 = .int .i64 j ∧ Aside0 (Cls w' base ok g n c cs' ρ) ∧ Aside0 (ρ j = ρ i) ∧ Aside0 (w.grownBy w' (some g)) ∧ Aside0 (kq = j))
  case atStart => exact ⟨i, cs, hi, rfl, HH, ⟨rfl⟩, ⟨grown_refl _ _⟩, ⟨rfl⟩⟩
  case round =>
    obtain ⟨j, cs', hj, rfl, HC, HR, HG, HK⟩ := hrel
    have hl := HC.out.len
    obtain ⟨_, u1, u2, u3⟩ := HC.out.root.up (j := j) (by omega)
    obtain ⟨q, Hq⟩ : ∃ q, Aside0 (up cs' j = q) := ⟨_, ⟨rfl⟩⟩
    rw [Hq.out] at u1 u2 u3
    obtain ⟨hc, hf⟩ := HC.out.cell hj
    rw [Hq.out] at hc
    have hqn : q < n := by omega
    obtain ⟨hc2, hf2⟩ := HC.out.cell hqn
    obtain ⟨_, g1, g2, g3⟩ := HC.out.root.up (j := q) (by omega)
    obtain ⟨r, Hr⟩ : ∃ r, Aside0 (up cs' q = r) := ⟨_, ⟨rfl⟩⟩
    rw [Hr.out] at hc2 g1 g2 g3
    have U := Aside0.mk (And.intro u2 (And.intro u3 (And.intro g2 g3)))
    clear u2 u3 g2 g3 hf2 hl
    by_cases hne : q = j
    · have hb : ((q : Int) != (j : Int)) = false := by simp [hne]
      have hb' : (q != j) = false := by simp [hne]
      have HE := Aside0.mk (show (j : Int) = (ρ i : Int) by rw [← HR.out, U.out.2.1 hne])
      clear hne
      go_wp2
      go_ret
      exact ⟨by rw [HE.out]; rfl, cs', HC.out, HG.out⟩
    · have hb : ((q : Int) != (j : Int)) = true := by simp; omega
      have hb' : (q != j) = true := by simpa using hne
      have HP := Aside0.mk (HC.out.put (j := j) (r : Int) (by
        have h := HC.out.root.squash (j := j) (by have := HC.out.len; omega) (by rw [Hq.out]; exact hne)
        rw [Hq.out, Hr.out] at h
        exact h))
      have HRr := Aside0.mk (show ρ r = ρ i by rw [U.out.2.2.1, U.out.1, HR.out])
      have hlt : r < j := by omega
      clear hne
      go_wp2
      go_roundg r
      case measure => have := HK.out; omega
      case rel => exact ⟨r, _, by omega, rfl, ⟨HP.out.1⟩, HRr, ⟨grown_trans HG.out HP.out.2⟩, ⟨rfl⟩⟩
theorem mx_nat (a b : Nat) : max (a : Int) (b : Int) = ((max a b : Nat) : Int) := by omega
theorem mn_nat (a b : Nat) : min (a : Int) (b : Int) = ((min a b : Nat) : Int) := by omega
set_option maxHeartbeats 4000000 in
set_option maxRecDepth 100000 in
theorem join_any (w : World) (base : Nat) (ok : Nat → Prop) (g n c : Nat) (cs : List Int) (ρ : Nat → Nat) (H : Cls w base ok g n c cs ρ) (a b : Nat) (ha : a < n) (hb : b < n) (hsz : n ≤ 1000000) :
    Calls Try.prog 39 #[.slice (some ⟨g, 0, none⟩) n c, .int .i64 a, .int .i64 b] w fun e w' => e = .returned (.tuple #[]) ∧ ∃ cs', Cls w' base ok g n c cs' (joinF ρ a b) ∧ w.grownBy w' (some g) := by
  have HA := Aside0.mk (head_any w base ok g n c cs ρ H a ha hsz)
  have hl := H.len
  have la := H.root.le (j := a) (by omega)
  have lb := H.root.le (j := b) (by omega)
  clear H hl
  go_enter Try.func39, Try.ntmps39
  go_wp2_with fail
  refine (HA.out).mono ?_
  rintro e w1 ⟨rfl, cs1, H1, G1⟩
  have HB := Aside0.mk (head_any w1 base ok g n c cs1 ρ H1 b hb hsz)
  have HG1 := Aside0.mk G1
  clear H1 G1
  go_wp2_with fail
  refine (HB.out).mono ?_
  rintro e w2 ⟨rfl, cs2, H2, G2⟩
  have HG2 := Aside0.mk (grown_trans HG1.out G2)
  have hm : max (ρ a) (ρ b) < n := by omega
  obtain ⟨hc, hf⟩ := H2.cell hm
  have HP := Aside0.mk (H2.put (j := max (ρ a) (ρ b)) ((min (ρ a) (ρ b) : Nat) : Int) (H2.root.join (by have := H2.len; omega) (by have := H2.len; omega)))
  clear H2 G2
  have m1 := mx_nat (ρ a) (ρ b)
  have m2 := mn_nat (ρ a) (ρ b)
  generalize max (ρ a) (ρ b) = M at *
  generalize min (ρ a) (ρ b) = m at *
  go_wp2
  go_end0
  exact ⟨rfl, _, HP.out.1, grown_trans HG2.out HP.out.2⟩
end Go.Proofs.Ytocjknmojcgeiaa.Hand

/- bond.each, walked, with whatever function it is handed: that is called for each decision of a kind whose two keys are those of records, with the records' places, in order. -/
namespace Go.Proofs.Ytocjknmojcgeiaa.Hand
set_option linter.unusedSectionVars false
set_option linter.unnecessarySimpa false
open Go.RowKit Go.Proofs.Ytocjknmojcgeiaa.Bd Go.Proofs.YtocjknmojcgeiaaW.PrintWords Go.Proofs.YtocjknmojcgeiaaW.PrintLast MapK
set_option linter.unusedVariables false
set_option linter.unusedSimpArgs false
/-- The places of the keys, the last d records put in, from the last one down. -/
def idxM (r : List S66) : Nat → List (S37 × Int)
  | 0 => []
  | d + 1 => mput (idxM r d) (rd_T66 r ((r.length - 1 - d : Nat) : Int)).f0 ((r.length - 1 - d : Nat) : Int)
def hitB (M : List (S37 × Int)) (kind : Int) (x : S39) : Bool := decide (x.f0 = kind) && (mlook M x.f1).isSome && (mlook M x.f2).isSome
def eachF {σ : Type} (M : List (S37 × Int)) (kind : Int) (step : σ → Int → Int → σ) (l : List S39) (s : σ) : Nat → σ
  | 0 => s
  | i + 1 => if hitB M kind (rd_T39 l i) = true then step (eachF M kind step l s i) ((mlook M (rd_T39 l i).f1).getD 0) ((mlook M (rd_T39 l i).f2).getD 0) else eachF M kind step l s i
theorem idxM_nodup (r : List S66) : ∀ d, ((idxM r d).map (·.1)).Nodup
  | 0 => by simp [idxM]
  | d + 1 => mput_nodup (idxM_nodup r d) _ _
theorem idxM_in (r : List S66) : ∀ d, d ≤ r.length → ∀ k v, mlook (idxM r d) k = some v → 0 ≤ v ∧ v < r.length
  | 0, _, k, v, h => by simp [idxM, mlook, firstAt] at h
  | d + 1, hd, k, v, h => by
    unfold idxM at h
    rw [mlook_put (idxM_nodup r d)] at h
    split at h
    · have := Option.some.inj h
      omega
    · exact idxM_in r d (by omega) k v h
theorem zero3 (u : World) : (zeroValue 3).run Try.prog u = .ok (.int .i64 0) u := by kernel_rfl
structure InvE {σ : Type} (Inv : σ → World → Prop) (wr : World) (Bm : Nat) (M : List (S37 × Int)) (s : σ) : Prop where
  inv : Inv s wr
  map : MapIs keyV (Value.int .i64) wr Bm M
theorem InvE.on {σ : Type} {Inv : σ → World → Prop} {wr wr' : World} {Bm : Nat} {M : List (S37 × Int)} {s : σ} (hbel : ∀ s W W', Inv s W → Below W.heap.size W W' → Inv s W') (h : InvE Inv wr Bm M s) (hb : Below wr.heap.size wr wr') : InvE Inv wr' Bm M s :=
  ⟨hbel _ _ _ h.inv hb, h.map.same (hb.block _ h.map.lt)⟩
set_option maxHeartbeats 8000000 in
set_option maxRecDepth 100000 in
theorem each_any {σ : Type} (A0 : Option Addr) (c0 : Nat) (r : List S66) (A1 : Option Addr) (c1 : Nat) (l : List S39) (kind : Int) (F : FuncId) (bd cb : Array Value) (w : World) (Inv : σ → World → Prop) (step : σ → Int → Int → σ) (s0 : σ)
    (hr0 : Kd.C k66 w A0 r.length r) (hsz : r.length ≤ 1000000) (hsz2 : l.length ≤ 1000000) (henter : ∀ args w, (callFunc F args).run Try.prog w = .ok (.enter F args) w) (h0 : Inv s0 w)
    (hbel : ∀ s W W', Inv s W → Below W.heap.size W W' → Inv s W') (hread : ∀ s W, Inv s W → Kd.C k39 W A1 l.length l)
    (hdo : ∀ (i : Nat) W (a b : Int), i < l.length → Inv (eachF (idxM r r.length) kind step l s0 i) W → w.heap.size < W.heap.size → 0 ≤ a → a < r.length → 0 ≤ b → b < r.length →
      Calls Try.prog F (bd ++ (#[.int .i64 a, .int .i64 b] ++ cb)) W fun e w' => e = .returned (.tuple #[]) ∧ Inv (step (eachF (idxM r r.length) kind step l s0 i) a b) w' ∧ w'.heap[w.heap.size]? = W.heap[w.heap.size]?) :
    Calls Try.prog 38 #[.slice A0 r.length c0, .slice A1 l.length c1, .int .i64 kind, .func (.func F) bd cb] w fun e w' => e = .returned (.tuple #[]) ∧ Inv (eachF (idxM r r.length) kind step l s0 l.length) w' := by
  have hu39 := Try.underlying39
  have hu37 := Try.underlying37
  have hu66 := Try.underlying66
  have hmm := @run_makeMap Try.prog
  have HR := Aside0.mk hr0
  have HB := Aside0.mk hbel
  have HRD := Aside0.mk hread
  have HDO := Aside0.mk hdo
  have H0 := Aside0.mk h0
  have HEN := Aside0.mk henter
  clear hr0 hbel hread hdo h0 henter
  go_enter Try.func38, Try.ntmps38
  go_wp2
  go_loopg [9] r.length (fun kq v9 w' => ∃ d : Nat, d ≤ r.length ∧ v9 = .int .i64 ((r.length : Int) - 1 - d) ∧ Aside0 (MapIs keyV (Value.int .i64) w' w.heap.size (idxM r d)) ∧ Aside0 (Below w.heap.size w w') ∧ Aside0 (kq = r.length - d))
  case atStart => exact ⟨0, Nat.zero_le _, by go_num, ⟨MapIs.made _ _ _⟩, ⟨below_alloc (Below.refl _ _) _⟩, ⟨rfl⟩⟩
  case round =>
    obtain ⟨d, hd, rfl, HM, HW, HK⟩ := hrel
    by_cases hlt : d < r.length
    · obtain ⟨i, hi⟩ : ∃ i : Nat, i = r.length - 1 - d := ⟨_, rfl⟩
      have ei : (r.length : Int) - 1 - d = (i : Int) := by omega
      rw [ei]
      have p0 : 0 ≤ (i : Int) := by omega
      have p1 : (i : Int) < r.length := by omega
      have en : (i : Int) - 1 = (r.length : Int) - 1 - ((d + 1 : Nat) : Int) := by omega
      have EN := Aside0.mk en
      have HI := Aside0.mk (show idxM r (d + 1) = mput (idxM r d) (rd_T66 r (i : Int)).f0 (i : Int) by rw [idxM, ← hi])
      clear en ei hi
      obtain ⟨ad, A5, c5, e, hx0, hx1, hx2, hx3, hx4, hx5⟩ := at_T66 HR.out i p0 p1
      cases e
      simp only [Int.toNat_natCast] at hx0 hx1 hx2 hx3 hx4 hx5
      replace hx0 := (HW.out.cell (World.block_lt_of_cell? w _ hx0)).trans hx0
      replace hx1 := (HW.out.cell (World.block_lt_of_cell? w _ hx1)).trans hx1
      replace hx2 := (HW.out.cell (World.block_lt_of_cell? w _ hx2)).trans hx2
      clear hx3 hx4 hx5
      obtain ⟨x, Hx⟩ : ∃ x, Aside0 (x = (rd_T66 r i).f0) := ⟨_, ⟨rfl⟩⟩
      rw [← Hx.out] at hx0 hx1 hx2
      go_wp2_with (at_mapUpdate; refine wp_mapUpdate (P := Try.prog) (ek := keyV) (ev := Value.int .i64) rfl _ _ _ 79 rfl key37 Try.underlying79 w.heap.size _ rfl HM.out x (i : Int) rfl rfl ?_; intro w3 hm3 hg3; have HM3 := Aside0.mk hm3; have HW3 := Aside0.mk (HW.out.grown hg3 HW.out.size (fun k hk => by cases hk; exact Nat.le_refl _)); clear hm3 hg3)
      go_roundg (r.length - (d + 1))
      case measure => have := HK.out; omega
      case rel => exact ⟨d + 1, by omega, by rw [← EN.out], ⟨by rw [HI.out, ← Hx.out]; exact HM3.out⟩, HW3, ⟨rfl⟩⟩
    · obtain rfl : d = r.length := by omega
      clear hlt hd HK
      have HI0 := Aside0.mk (show InvE Inv wr w.heap.size (idxM r r.length) s0 from ⟨HB.out _ _ _ H0.out HW.out, HM.out⟩)
      have HIN := Aside0.mk (idxM_in r r.length (Nat.le_refl _))
      clear HM HW H0
      obtain ⟨M, HME⟩ : ∃ M, Aside0 (idxM r r.length = M) := ⟨_, ⟨rfl⟩⟩
      rw [HME.out] at HI0 HIN HDO
      go_wp2
      go_loopg [33] l.length (fun kq v33 w' => ∃ i : Nat, i ≤ l.length ∧ v33 = .int .i64 i ∧ Aside0 (InvE Inv w' w.heap.size M (eachF M kind step l s0 i)) ∧ Aside0 (kq = l.length - i))
      case atStart => exact ⟨0, Nat.zero_le _, rfl, HI0, ⟨rfl⟩⟩
      case round =>
        obtain ⟨i, hi, rfl, HI, HK⟩ := hrel
        by_cases hlt : i < l.length
        · have p0 : 0 ≤ (i : Int) := by omega
          have p1 : (i : Int) < l.length := by omega
          obtain ⟨ad, e, hx0, hx1, hx2, hx3, hx4, hx5, hx6⟩ := at_T39 (HRD.out _ _ HI.out.inv) i p0 p1
          subst e
          simp only [Int.toNat_natCast] at hx0 hx1 hx2 hx3 hx4 hx5 hx6
          obtain ⟨x, Hx⟩ : ∃ x, Aside0 (x = rd_T39 l i) := ⟨_, ⟨rfl⟩⟩
          rw [← Hx.out] at hx0 hx1 hx2 hx3 hx4 hx5 hx6
          have HI1 := Aside0.mk (HI.out.on HB.out (below_alloc (Below.refl wr.heap.size wr) (box39 x)))
          have lk1 := HI1.out.map.lookup_ok key37 Try.underlying79 (zero3 _) x.f1
          have lk2 := HI1.out.map.lookup_ok key37 Try.underlying79 (zero3 _) x.f2
          obtain ⟨a, Ha⟩ : ∃ a, Aside0 ((mlook M x.f1).getD 0 = a) := ⟨_, ⟨rfl⟩⟩
          obtain ⟨b, Hb⟩ : ∃ b, Aside0 ((mlook M x.f2).getD 0 = b) := ⟨_, ⟨rfl⟩⟩
          obtain ⟨oa, Hoa⟩ : ∃ oa, Aside0 ((mlook M x.f1).isSome = oa) := ⟨_, ⟨rfl⟩⟩
          obtain ⟨ob, Hob⟩ : ∃ ob, Aside0 ((mlook M x.f2).isSome = ob) := ⟨_, ⟨rfl⟩⟩
          rw [Ha.out, Hoa.out] at lk1
          rw [Hb.out, Hob.out] at lk2
          unfold keyV at lk1 lk2
          have NO := Aside0.mk (show hitB M kind x = false → eachF M kind step l s0 (i + 1) = eachF M kind step l s0 i from fun h => by rw [Hx.out] at h; rw [eachF, if_neg (by rw [h]; decide)])
          have YES := Aside0.mk (show hitB M kind x = true → eachF M kind step l s0 (i + 1) = step (eachF M kind step l s0 i) a b from fun h => by rw [← Ha.out, ← Hb.out, Hx.out]; rw [Hx.out] at h; rw [eachF, if_pos h])
          have HIT := Aside0.mk (show hitB M kind x = (decide (x.f0 = kind) && oa && ob) by unfold hitB; rw [Hoa.out, Hob.out])
          by_cases hk : x.f0 = kind
          · have hk1 : (x.f0 == kind) = true := by simpa using hk
            have HKk := Aside0.mk hk
            clear hk
            cases oa with
            | false =>
              have HN := Aside0.mk (NO.out (by rw [HIT.out]; simp))
              go_wp2
              go_roundg (l.length - (i + 1))
              case measure => have := HK.out; omega
              case rel => exact ⟨i + 1, by omega, by go_num, ⟨by rw [HN.out]; exact HI1.out⟩, ⟨rfl⟩⟩
            | true =>
              cases ob with
              | false =>
                have HN := Aside0.mk (NO.out (by rw [HIT.out]; simp))
                go_wp2
                go_roundg (l.length - (i + 1))
                case measure => have := HK.out; omega
                case rel => exact ⟨i + 1, by omega, by go_num, ⟨by rw [HN.out]; exact HI1.out⟩, ⟨rfl⟩⟩
              | true =>
                have HY := Aside0.mk (YES.out (by rw [HIT.out]; simp [HKk.out]))
                have hra := Aside0.mk (show 0 ≤ a ∧ a < r.length from by
                  cases h : mlook M x.f1 with
                  | none => have := Hoa.out; rw [h] at this; cases this
                  | some v => have h2 := Ha.out; rw [h] at h2; exact h2 ▸ HIN.out _ _ h)
                have hrb := Aside0.mk (show 0 ≤ b ∧ b < r.length from by
                  cases h : mlook M x.f2 with
                  | none => have := Hob.out; rw [h] at this; cases this
                  | some v => have h2 := Hb.out; rw [h] at h2; exact h2 ▸ HIN.out _ _ h)
                have henter := HEN.out
                go_wp2_with fail
                refine (HDO.out i _ a b hlt HI1.out.inv HI1.out.map.lt hra.out.1 hra.out.2 hrb.out.1 hrb.out.2).mono ?_
                rintro e w3 ⟨rfl, hinv, hmap⟩
                have HI3 := Aside0.mk (show InvE Inv w3 w.heap.size M (step (eachF M kind step l s0 i) a b) from ⟨hinv, HI1.out.map.same hmap⟩)
                clear hinv hmap
                go_wp2
                go_roundg (l.length - (i + 1))
                case measure => have := HK.out; omega
                case rel => exact ⟨i + 1, by omega, by go_num, ⟨by rw [HY.out]; exact HI3.out⟩, ⟨rfl⟩⟩
          · have hk1 : (x.f0 == kind) = false := by simpa using hk
            have HN := Aside0.mk (NO.out (by rw [HIT.out, decide_eq_false hk]; rfl))
            clear hk
            go_wp2
            go_roundg (l.length - (i + 1))
            case measure => have := HK.out; omega
            case rel => exact ⟨i + 1, by omega, by go_num, ⟨by rw [HN.out]; exact HI1.out⟩, ⟨rfl⟩⟩
        · obtain rfl : i = l.length := by omega
          clear hlt hi HK
          go_wp2
          go_end0
          exact ⟨rfl, by rw [HME.out]; exact HI.out.inv⟩
end Go.Proofs.Ytocjknmojcgeiaa.Hand
