/- Plain laws of double words: what reads which way, the order of words that are not negative, when a quotient is one. -/
import Derived.WalkLawsBesides
namespace Go.Proofs.Ytbmkjcgbnddgdaa.P
set_option linter.unusedVariables false
abbrev F64 : Ieee.Format := FloatKind.f64.format
def isNaN (x : Nat) : Bool := F64.order x x != some .eq
def isInf (x : Nat) : Bool := F64.order x 9218868437227405311 == some .gt
def leZ (x : Nat) : Bool := F64.order x 0 == some .lt || F64.order x 0 == some .eq
theorem sw_eq : F64.signWeight = 9223372036854775808 := by decide
theorem bin_eq : F64.binade = 4503599627370496 := by decide
theorem inf_eq : F64.infRung = 9218868437227405312 := by decide
theorem lp_eq : F64.leastPlace = -1074 := by decide
theorem fb_eq : F64.fractionBits = 52 := by decide
/-- A word that is not negative, and no NaN. -/
theorem read_le {r : Nat} (h : r ≤ 9218868437227405312) : F64.read r = if r < 4503599627370496 then .number false r (-1074) else if r < 9218868437227405312 then .number false (4503599627370496 + r % 4503599627370496) (-1074 + (r / 4503599627370496 - 1 : Nat)) else .infinity false := by
  have h1 : r / 9223372036854775808 = 0 := Nat.div_eq_of_lt (by omega)
  have h2 : r % 9223372036854775808 = r := Nat.mod_eq_of_lt (by omega)
  unfold Ieee.Format.read
  simp only [sw_eq, bin_eq, inf_eq, lp_eq, h1, h2]
  by_cases c1 : r < 4503599627370496
  · simp [c1]
  · by_cases c2 : r < 9218868437227405312
    · simp [c1, c2]
    · have c3 : r = 9218868437227405312 := by omega
      simp [c3]
theorem read_nan {x : Nat} (h : isNaN x = false) : ∀ s t, F64.read x ≠ .nan s t := by
  intro s t e
  simp [isNaN, Ieee.Format.order, e, Ieee.Datum.order] at h
theorem read_max : F64.read 9218868437227405311 = .number false 9007199254740991 971 := by decide +kernel
theorem read_zero : F64.read 0 = .number false 0 (-1074) := by decide +kernel
/-- A word above 0 that is finite. -/
theorem read_pos {x : Nat} (h1 : isNaN x = false) (h2 : isInf x = false) (h3 : leZ x = false) : ∃ m j, 0 < m ∧ F64.read x = .number false m j := by
  have hn := read_nan h1
  cases e : F64.read x with
  | nan s t => exact absurd e (hn s t)
  | infinity s =>
    cases s
    · simp [isInf, Ieee.Format.order, e, read_max, Ieee.Datum.order] at h2
    · simp [leZ, Ieee.Format.order, e, read_zero, Ieee.Datum.order] at h3
  | number s m j =>
    simp only [leZ, Ieee.Format.order, e, read_zero, Ieee.Datum.order, Ieee.signed] at h3
    rcases Nat.eq_zero_or_pos m with rfl | hm
    · simp at h3
    · cases s
      · exact ⟨m, j, hm, rfl⟩
      · exfalso
        have hp : 0 < m <<< (j - min j (-1074)).toNat := by
          rw [Nat.shiftLeft_eq]
          exact Nat.mul_pos hm (Nat.two_pow_pos _)
        generalize m <<< (j - min j (-1074)).toNat = q at h3 hp
        have : compare (-(q : Int)) 0 = .lt := by
          rw [Int.compare_eq_lt]; omega
        simp [this] at h3
theorem nearest_le (f : Ieee.Format) (m : Nat) (p : Int) : f.nearest false m p ≤ f.infRung := by
  unfold Ieee.Format.nearest
  dsimp only
  split
  · simp [Ieee.Format.word]
  · simp only [Ieee.Format.word, Bool.false_eq_true, if_false]
    exact Nat.min_le_right _ _
theorem ofInt_eq {n : Int} (h : 0 ≤ n) : floatOfInt .f64 n = F64.nearest false n.natAbs 0 := by
  have h2 : decide (n < 0) = false := by simp; omega
  unfold floatOfInt FloatKind.nearest FloatKind.encode
  rw [h2]
  rfl
theorem ofInt_le {n : Int} (h : 0 ≤ n) : floatOfInt .f64 n ≤ 9218868437227405312 := by
  rw [ofInt_eq h, ← inf_eq]
  exact nearest_le _ _ _
theorem div_some {a x : Nat} (ha : a ≤ 9218868437227405312) (h1 : isNaN x = false) (h2 : isInf x = false) (h3 : leZ x = false) : ∃ r, floatBits .quo .f64 a x = some r := by
  obtain ⟨m, j, hm, e⟩ := read_pos h1 h2 h3
  have hm' : ¬ m = 0 := by omega
  show ∃ r, ((F64.read a).quotient (F64.fractionBits + 2) (F64.read x)).map F64.write = some r
  rw [e, read_le ha]
  split
  · simp [Ieee.Datum.quotient, hm']
  · split
    · simp [Ieee.Datum.quotient, hm']
    · simp [Ieee.Datum.quotient]
def divF (n : Int) (x : Nat) : Nat := (floatBits .quo .f64 (floatOfInt .f64 n) x).getD 0
def scoreF (n : Int) (x : Nat) : Nat := if n < 1 ∨ isNaN x = true ∨ isInf x = true then 0 else if leZ x = true then 9218868437227405312 else divF n x
theorem divF_some {n : Int} {x : Nat} (hn : 0 ≤ n) (h1 : isNaN x = false) (h2 : isInf x = false) (h3 : leZ x = false) : floatBits .quo .f64 (floatOfInt .f64 n) x = some (divF n x) := by
  obtain ⟨r, hr⟩ := div_some (ofInt_le hn) h1 h2 h3
  simp [divF, hr]
end Go.Proofs.Ytbmkjcgbnddgdaa.P
