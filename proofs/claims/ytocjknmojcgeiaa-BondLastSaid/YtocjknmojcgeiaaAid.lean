/- Small laws on strings' order, for the walks of this seat: Go's '>' and '<=' on strings, spelled by '<' with the sides exchanged. -/
import Derived.WalkKit
import Derived.Test.YtocjknmojcgeiaaProg
import Derived.Laws.StructEq
namespace Go.Proofs.Ytocjknmojcgeiaa
set_option linter.unusedVariables false
set_option linter.unusedSimpArgs false
set_option linter.unusedSectionVars false
set_option linter.unnecessarySimpa false

theorem bl_irrefl : ∀ x : List UInt8, Op.bytesLess x x = false
  | [] => rfl
  | a :: x => by simp [Op.bytesLess, bl_irrefl x]

theorem bl_asymm : ∀ x y : List UInt8, Op.bytesLess x y = true → Op.bytesLess y x = false
  | _, [], h => by simp [Op.bytesLess] at h
  | [], b :: y, _ => by simp [Op.bytesLess]
  | a :: x, b :: y, h => by
    simp only [Op.bytesLess, Bool.or_eq_true, decide_eq_true_eq, Bool.and_eq_true, beq_iff_eq] at h
    simp only [Op.bytesLess, Bool.or_eq_false_iff, decide_eq_false_iff_not, Bool.and_eq_false_iff, beq_eq_false_iff_ne]
    rcases h with h | ⟨rfl, h⟩
    · refine ⟨?_, .inl ?_⟩
      · rw [UInt8.lt_iff_toNat_lt] at *; omega
      · rintro rfl; rw [UInt8.lt_iff_toNat_lt] at h; omega
    · refine ⟨?_, .inr (bl_asymm x y h)⟩
      rw [UInt8.lt_iff_toNat_lt]; omega

theorem bl_total : ∀ x y : List UInt8, Op.bytesLess x y = false → Op.bytesLess y x = false → x = y
  | [], [], _, _ => rfl
  | [], b :: y, h, _ => by simp [Op.bytesLess] at h
  | a :: x, [], _, h => by simp [Op.bytesLess] at h
  | a :: x, b :: y, h, g => by
    simp only [Op.bytesLess, Bool.or_eq_false_iff, decide_eq_false_iff_not, Bool.and_eq_false_iff, beq_eq_false_iff_ne] at h g
    obtain ⟨h1, h2⟩ := h
    obtain ⟨g1, g2⟩ := g
    have hab : a = b := by
      rw [UInt8.lt_iff_toNat_lt] at h1 g1
      exact UInt8.toNat_inj.mp (by omega)
    subst hab
    rcases h2 with h2 | h2
    · exact absurd rfl h2
    · rcases g2 with g2 | g2
      · exact absurd rfl g2
      · rw [bl_total x y h2 g2]

theorem bl_trans : ∀ x y z : List UInt8, Op.bytesLess x y = true → Op.bytesLess y z = true → Op.bytesLess x z = true
  | _, [], _, h, _ => by simp [Op.bytesLess] at h
  | _, _ :: _, [], _, h => by simp [Op.bytesLess] at h
  | [], _ :: _, _ :: _, _, _ => by simp [Op.bytesLess]
  | a :: x, b :: y, c :: z, h, g => by
    simp only [Op.bytesLess, Bool.or_eq_true, decide_eq_true_eq, Bool.and_eq_true, beq_iff_eq] at h g ⊢
    rcases h with h | ⟨rfl, h⟩
    · rcases g with g | ⟨rfl, g⟩
      · left; rw [UInt8.lt_iff_toNat_lt] at *; omega
      · exact .inl h
    · rcases g with g | ⟨rfl, g⟩
      · exact .inl g
      · exact .inr ⟨rfl, bl_trans x y z h g⟩

theorem bl_flip (x y : List UInt8) : (!(Op.bytesLess x y || x == y)) = Op.bytesLess y x := by
  cases h : Op.bytesLess x y
  · cases g : Op.bytesLess y x
    · rw [bl_total x y h g]; simp
    · have : x ≠ y := by rintro rfl; rw [bl_irrefl] at g; cases g
      simp [this]
  · simp [bl_asymm x y h]

/-- Go's 'a > b' on strings. -/
theorem str_gtr (t : TypeId) (a b : ByteArray) : binOp .gtr t (.string a) (.string b) = pure (.bool (Op.bytesLess b.toList a.toList)) := by
  rw [← bl_flip a.toList b.toList]; simp [binOp, Op.stringOp]
/-- Go's 'a <= b' on strings. -/
theorem str_leq (t : TypeId) (a b : ByteArray) : binOp .leq t (.string a) (.string b) = pure (.bool (!(Op.bytesLess b.toList a.toList))) := by
  rw [← bl_flip a.toList b.toList]; simp [binOp, Op.stringOp]
/-- Go's 'a >= b' on strings. -/
theorem str_geq (t : TypeId) (a b : ByteArray) : binOp .geq t (.string a) (.string b) = pure (.bool (!(Op.bytesLess a.toList b.toList))) := by simp [binOp, Op.stringOp]

/-! ### '==' of arrays of two elements -/
theorem run_equalIn_array2 {P : Program} (w : World) (d : Nat) (t e : TypeId) (n : Nat) (xs ys : Array Value) (ht : P.underlying t = some (.array 2 e)) (hn : (sizeOf e).run P w = .ok n w) {a0 a1 b0 b1 : Value} {r0 r1 : Bool}
    (ha0 : (part e xs (0 * n)).run P w = .ok a0 w) (hb0 : (part e ys (0 * n)).run P w = .ok b0 w) (ha1 : (part e xs (1 * n)).run P w = .ok a1 w) (hb1 : (part e ys (1 * n)).run P w = .ok b1 w)
    (h0 : (Op.equalIn d e a0 b0).run P w = .ok r0 w) (h1 : (Op.equalIn d e a1 b1).run P w = .ok r1 w) : (Op.equalIn (d + 1) t (.agg xs) (.agg ys)).run P w = .ok (r0 && r1) w := by
  simp only [Nat.zero_mul, Nat.one_mul] at ha0 hb0 ha1 hb1
  simp only [Op.equalIn, Sem.run_bind, run_underlying ht, Result.andThen_ok, hn]
  cases r0 <;> cases r1 <;> simp [show List.range' 0 2 = [0, 1] from rfl, List.forIn_cons, Sem.run_bind, ha0, hb0, h0, ha1, hb1, h1, Result.andThen]
/-- Pairs of whole numbers. -/
theorem eqA48 (d : Nat) (w : World) (x0 y0 x1 y1 : Int) : (Op.equalIn (d + 2) 48 (.agg #[.int .i64 x0, .int .i64 x1]) (.agg #[.int .i64 y0, .int .i64 y1])).run Try.prog w = .ok (x0 == y0 && (x1 == y1)) w :=
  run_equalIn_array2 w (d + 1) 48 3 1 _ _ Try.underlying48 (by go_simp) (by go_simp; rfl) (by go_simp; rfl) (by go_simp; rfl) (by go_simp; rfl) (by go_simp) (by go_simp)
end Go.Proofs.Ytocjknmojcgeiaa
