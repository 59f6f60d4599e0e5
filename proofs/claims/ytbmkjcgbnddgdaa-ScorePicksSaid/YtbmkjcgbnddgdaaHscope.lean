/- A body in a scope to whose labels no goto jumps: its walk goes on as if the scope were not there. And the comparisons of strings, as the print spells them. -/
import Derived.WalkKit
import Derived.WalkMore
namespace Go.Proofs.Ytbmkjcgbnddgdaa.P
theorem scope_body {P : Program} {fn : Func} {R : Ending → World → Prop} {a : Act} {w : World} {c : Code} (h : c.wp P (bodyPost P fn R) a w) : (Code.scope c).wp P (bodyPost P fn R) a w := by
  have e : Exit.noGoto (bodyPost P fn R) = bodyPost P fn R := by
    funext x a w
    cases x <;> rfl
  refine wp_scope_straight ?_
  rw [e]
  exact h
theorem less_total : ∀ a b : List UInt8, (Op.bytesLess a b || a == b) = !Op.bytesLess b a
  | [], [] => by simp [Op.bytesLess]
  | [], _ :: _ => by simp [Op.bytesLess]
  | _ :: _, [] => by simp [Op.bytesLess]
  | x :: a, y :: b => by
    have ih := less_total a b
    simp only [Op.bytesLess]
    rcases Nat.lt_trichotomy x.toNat y.toNat with h | h | h
    · have h1 : x < y := by simpa [UInt8.lt_iff_toNat_lt] using h
      have h2 : ¬ y < x := by simp [UInt8.lt_iff_toNat_lt]; omega
      have h3 : ¬ y = x := by rintro rfl; omega
      simp [h1, h2, h3]
    · obtain rfl : x = y := UInt8.toNat_inj.mp h
      simpa using ih
    · have h1 : ¬ x < y := by simp [UInt8.lt_iff_toNat_lt]; omega
      have h2 : y < x := by simpa [UInt8.lt_iff_toNat_lt] using h
      have h3 : ¬ x = y := by rintro rfl; omega
      simp [h1, h2, h3]
theorem str_geq (t : TypeId) (a b : ByteArray) : binOp .geq t (.string a) (.string b) = pure (.bool !(Op.bytesLess a.toList b.toList)) := by simp [binOp, Op.stringOp]
theorem str_leq (t : TypeId) (a b : ByteArray) : binOp .leq t (.string a) (.string b) = pure (.bool !(Op.bytesLess b.toList a.toList)) := by
  simp only [binOp, Op.stringOp, less_total]
theorem str_gtr (t : TypeId) (a b : ByteArray) : binOp .gtr t (.string a) (.string b) = pure (.bool (Op.bytesLess b.toList a.toList)) := by
  simp only [binOp, Op.stringOp, less_total, Bool.not_not]
end Go.Proofs.Ytbmkjcgbnddgdaa.P
