/- Small laws on strings' order, for the walks of this seat: Go's '>' and '<=' on strings, spelled by '<' with the sides exchanged. -/
import Derived.WalkKit
namespace Go.Proofs.Ytegomjkgbeijlaa
set_option linter.unusedVariables false
set_option linter.unusedSimpArgs false
set_option linter.unusedSectionVars false
set_option linter.unnecessarySimpa false

theorem bl_irrefl : ∀ x : List UInt8, Op.bytesLess x x = false
  | [] => rfl
  | a :: x => by simp [Op.bytesLess, bl_irrefl x]

theorem bl_asymm : ∀ x y : List UInt8, Op.bytesLess x y = true → Op.bytesLess y x = false
  | _, [], h => by simp [Op.bytesLess] at h
  | [], b :: y, _ => by simp [Op.bytesLess]
  | a :: x, b :: y, h => by
    simp only [Op.bytesLess, Bool.or_eq_true, decide_eq_true_eq, Bool.and_eq_true, beq_iff_eq] at h
    simp only [Op.bytesLess, Bool.or_eq_false_iff, decide_eq_false_iff_not, Bool.and_eq_false_iff, beq_eq_false_iff_ne]
    rcases h with h | ⟨rfl, h⟩
    · refine ⟨?_, .inl ?_⟩
      · rw [UInt8.lt_iff_toNat_lt] at *; omega
      · rintro rfl; rw [UInt8.lt_iff_toNat_lt] at h; omega
    · refine ⟨?_, .inr (bl_asymm x y h)⟩
      rw [UInt8.lt_iff_toNat_lt]; omega

theorem bl_total : ∀ x y : List UInt8, Op.bytesLess x y = false → Op.bytesLess y x = false → x = y
  | [], [], _, _ => rfl
  | [], b :: y, h, _ => by simp [Op.bytesLess] at h
  | a :: x, [], _, h => by simp [Op.bytesLess] at h
  | a :: x, b :: y, h, g => by
    simp only [Op.bytesLess, Bool.or_eq_false_iff, decide_eq_false_iff_not, Bool.and_eq_false_iff, beq_eq_false_iff_ne] at h g
    obtain ⟨h1, h2⟩ := h
    obtain ⟨g1, g2⟩ := g
    have hab : a = b := by
      rw [UInt8.lt_iff_toNat_lt] at h1 g1
      exact UInt8.toNat_inj.mp (by omega)
    subst hab
    rcases h2 with h2 | h2
    · exact absurd rfl h2
    · rcases g2 with g2 | g2
      · exact absurd rfl g2
      · rw [bl_total x y h2 g2]

theorem bl_trans : ∀ x y z : List UInt8, Op.bytesLess x y = true → Op.bytesLess y z = true → Op.bytesLess x z = true
  | _, [], _, h, _ => by simp [Op.bytesLess] at h
  | _, _ :: _, [], _, h => by simp [Op.bytesLess] at h
  | [], _ :: _, _ :: _, _, _ => by simp [Op.bytesLess]
  | a :: x, b :: y, c :: z, h, g => by
    simp only [Op.bytesLess, Bool.or_eq_true, decide_eq_true_eq, Bool.and_eq_true, beq_iff_eq] at h g ⊢
    rcases h with h | ⟨rfl, h⟩
    · rcases g with g | ⟨rfl, g⟩
      · left; rw [UInt8.lt_iff_toNat_lt] at *; omega
      · exact .inl h
    · rcases g with g | ⟨rfl, g⟩
      · exact .inl g
      · exact .inr ⟨rfl, bl_trans x y z h g⟩

theorem bl_flip (x y : List UInt8) : (!(Op.bytesLess x y || x == y)) = Op.bytesLess y x := by
  cases h : Op.bytesLess x y
  · cases g : Op.bytesLess y x
    · rw [bl_total x y h g]; simp
    · have : x ≠ y := by rintro rfl; rw [bl_irrefl] at g; cases g
      simp [this]
  · simp [bl_asymm x y h]

/-- Go's 'a > b' on strings. -/
theorem str_gtr (t : TypeId) (a b : ByteArray) : binOp .gtr t (.string a) (.string b) = pure (.bool (Op.bytesLess b.toList a.toList)) := by
  rw [← bl_flip a.toList b.toList]; simp [binOp, Op.stringOp]
/-- Go's 'a <= b' on strings. -/
theorem str_leq (t : TypeId) (a b : ByteArray) : binOp .leq t (.string a) (.string b) = pure (.bool (!(Op.bytesLess b.toList a.toList))) := by
  rw [← bl_flip a.toList b.toList]; simp [binOp, Op.stringOp]
/-- Go's 'a >= b' on strings. -/
theorem str_geq (t : TypeId) (a b : ByteArray) : binOp .geq t (.string a) (.string b) = pure (.bool (!(Op.bytesLess a.toList b.toList))) := by simp [binOp, Op.stringOp]
end Go.Proofs.Ytegomjkgbeijlaa
