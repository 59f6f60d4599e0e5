/- The plain law of a score: it is no NaN and not below 0; it rises with the size and falls with the target. -/
import Derived.Test.YtbmkjcgbnddgdaaHorder
namespace Go.Proofs.Ytbmkjcgbnddgdaa.P
set_option linter.unusedVariables false
theorem read_neg {x : Nat} (h1 : 9223372036854775808 ≤ x) (h2 : x < 18446744073709551616) : (F64.read x).neg = true := by
  have h : x / 9223372036854775808 = 1 := by omega
  unfold Ieee.Format.read
  simp only [sw_eq, bin_eq, inf_eq, lp_eq, h]
  split
  · rfl
  · split
    · rfl
    · split <;> rfl
theorem read_big {x : Nat} (h1 : 9218868437227405312 < x) (h2 : x < 9223372036854775808) : ∃ t, F64.read x = .nan false t := by
  have h : x / 9223372036854775808 = 0 := by omega
  have hm : x % 9223372036854775808 = x := by omega
  unfold Ieee.Format.read
  simp only [sw_eq, bin_eq, inf_eq, lp_eq, h, hm]
  have c1 : ¬ x < 4503599627370496 := by omega
  have c2 : ¬ x < 9218868437227405312 := by omega
  have c3 : ¬ x = 9218868437227405312 := by omega
  simp [c1, c2, c3]
theorem order_neg {x y : Nat} (h1 : 9223372036854775808 ≤ x) (h2 : x < 18446744073709551616) (hy : y ≤ 9218868437227405312) :
    F64.order x y = none ∨ F64.order x y = some .lt ∨ (y = 0 ∧ F64.order x y = some .eq) := by
  have hn := read_neg h1 h2
  unfold Ieee.Format.order
  generalize F64.read x = d at hn
  by_cases c : y < 9218868437227405312
  · rw [read_fin c]
    cases d with
    | nan s t => exact Or.inl rfl
    | infinity s =>
      obtain rfl : s = true := hn
      exact Or.inr (Or.inl rfl)
    | number s m i =>
      obtain rfl : s = true := hn
      right
      simp only [Ieee.Datum.order, Ieee.signed, if_true, Bool.false_eq_true, if_false]
      generalize m <<< (i - min i (-1074 + (powW y : Int))).toNat = A
      have hB : 0 < y → 0 < magW y <<< (-1074 + (powW y : Int) - min i (-1074 + (powW y : Int))).toNat := by
        intro h
        rw [Nat.shiftLeft_eq]
        exact Nat.mul_pos (magW_pos h) (Nat.two_pow_pos _)
      generalize magW y <<< (-1074 + (powW y : Int) - min i (-1074 + (powW y : Int))).toNat = B at hB
      by_cases hlt : -(A : Int) < (B : Int)
      · left
        rw [Int.compare_eq_lt.mpr hlt]
      · right
        have hA : A = 0 ∧ B = 0 := by omega
        refine ⟨?_, ?_⟩
        · rcases Nat.eq_zero_or_pos y with h | h
          · exact h
          · have := hB h; omega
        · rw [hA.1, hA.2]
          rfl
  · obtain rfl : y = 9218868437227405312 := by omega
    rw [read_inf]
    cases d with
    | nan s t => exact Or.inl rfl
    | infinity s =>
      obtain rfl : s = true := hn
      exact Or.inr (Or.inl rfl)
    | number s m i => exact Or.inr (Or.inl rfl)
theorem order_big {x y : Nat} (h1 : 9218868437227405312 < x) (h2 : x < 9223372036854775808) : F64.order x y = none := by
  obtain ⟨t, e⟩ := read_big h1 h2
  unfold Ieee.Format.order
  rw [e]
  rfl
/-- What is above 0 is a word of the upper half that is no NaN. -/
theorem pos_word {x : Nat} (hx : x < 18446744073709551616) (h : F64.order x 0 = some .gt) : 0 < x ∧ x ≤ 9218868437227405312 := by
  by_cases c : 9223372036854775808 ≤ x
  · rcases order_neg c hx (Nat.zero_le _) with e | e | ⟨_, e⟩ <;> rw [e] at h <;> cases h
  · by_cases c2 : 9218868437227405312 < x
    · rw [order_big c2 (by omega)] at h
      cases h
    · refine ⟨?_, by omega⟩
      rw [order_le (by omega) (by omega)] at h
      injection h with h
      exact Nat.compare_eq_gt.mp h
theorem ge_word {x y : Nat} (hx : x < 18446744073709551616) (hy0 : 0 < y) (hy : y ≤ 9218868437227405312) (h : (F64.order x y == some .gt || F64.order x y == some .eq) = true) : y ≤ x ∧ x ≤ 9218868437227405312 := by
  by_cases c : 9223372036854775808 ≤ x
  · rcases order_neg c hx hy with e | e | ⟨e0, e⟩
    · rw [e] at h; cases h
    · rw [e] at h; cases h
    · omega
  · by_cases c2 : 9218868437227405312 < x
    · rw [order_big c2 (by omega)] at h
      cases h
    · refine ⟨?_, by omega⟩
      rw [order_le (by omega) hy] at h
      rcases Nat.lt_or_ge x y with hl | hg
      · rw [Nat.compare_eq_lt.mpr hl] at h
        cases h
      · exact hg
theorem word_isNaN {x : Nat} (h : x ≤ 9218868437227405312) : isNaN x = false := by
  unfold isNaN
  rw [order_le h h, Nat.compare_eq_eq.mpr rfl]
  rfl
theorem word_leZ {x : Nat} (h0 : 0 < x) (h : x ≤ 9218868437227405312) : leZ x = false := by
  unfold leZ
  rw [order_le h (Nat.zero_le _), Nat.compare_eq_gt.mpr h0]
  rfl
theorem word_isInf {x : Nat} (h : x ≤ 9218868437227405312) : isInf x = decide (x = 9218868437227405312) := by
  unfold isInf
  rw [order_le h (by omega)]
  by_cases c : x = 9218868437227405312
  · rw [Nat.compare_eq_gt.mpr (by omega)]
    simp [c]
  · rcases Nat.lt_or_ge x 9218868437227405311 with hl | hg
    · rw [Nat.compare_eq_lt.mpr hl]
      simp [c]
    · obtain rfl : x = 9218868437227405311 := by omega
      rw [Nat.compare_eq_eq.mpr rfl]
      simp
/-- A target of which the score is a quotient is a finite word above 0. -/
theorem fin_word {x : Nat} (hx : x < 18446744073709551616) (h1 : isNaN x = false) (h2 : isInf x = false) (h3 : leZ x = false) : 0 < x ∧ x < 9218868437227405312 := by
  have h : F64.order x 0 = some .gt := by
    obtain ⟨m, j, hm, e⟩ := read_pos h1 h2 h3
    simp only [leZ] at h3
    have : F64.order x 0 ≠ none := by
      unfold Ieee.Format.order
      rw [e, read_zero]
      simp [Ieee.Datum.order]
    cases ho : F64.order x 0 with
    | none => exact absurd ho this
    | some o => cases o <;> simp_all
  obtain ⟨a, b⟩ := pos_word hx h
  refine ⟨a, ?_⟩
  rw [word_isInf b] at h2
  simp at h2
  omega
theorem divF_eq (n : Int) (x : Nat) : divF n x = divW (floatOfInt .f64 n) x := rfl
theorem scoreF_le {n : Int} {x : Nat} (hx : x < 18446744073709551616) : scoreF n x ≤ 9218868437227405312 := by
  unfold scoreF
  split
  · exact Nat.zero_le _
  · rename_i h
    split
    · exact Nat.le_refl _
    · rename_i h3
      obtain ⟨a, b⟩ := fin_word hx (by simpa using (fun e => h (Or.inr (Or.inl e)))) (by simpa using (fun e => h (Or.inr (Or.inr e)))) (by simpa using h3)
      rw [divF_eq]
      exact divW_le (ofInt_le (by omega)) b a
theorem scoreF_up {n n' : Int} {x : Nat} (hx : x < 18446744073709551616) (h : n ≤ n') : scoreF n x ≤ scoreF n' x := by
  by_cases hn : n < 1
  · have : scoreF n x = 0 := by simp [scoreF, hn]
    rw [this]
    exact Nat.zero_le _
  · have hn' : ¬ n' < 1 := by omega
    unfold scoreF
    simp only [hn, hn', false_or]
    split
    · exact Nat.le_refl _
    · rename_i h1
      split
      · exact Nat.le_refl _
      · rename_i h3
        obtain ⟨a, b⟩ := fin_word hx (by simpa using (fun e => h1 (Or.inl e))) (by simpa using (fun e => h1 (Or.inr e))) (by simpa using h3)
        rw [divF_eq, divF_eq]
        exact divW_up (ofInt_up (by omega) h) (ofInt_le (by omega)) b a
theorem scoreF_down {n : Int} {x y : Nat} (hx : x < 18446744073709551616) (hy : y < 18446744073709551616) (h0 : F64.order x 0 = some .gt)
    (h : (F64.order y x == some .gt || F64.order y x == some .eq) = true) : scoreF n y ≤ scoreF n x := by
  obtain ⟨a, b⟩ := pos_word hx h0
  obtain ⟨c, d⟩ := ge_word hy a b h
  unfold scoreF
  rw [word_isNaN b, word_isNaN d, word_isInf b, word_isInf d, word_leZ a b, word_leZ (by omega) d]
  simp only [Bool.false_eq_true, false_or, decide_eq_true_eq, if_false]
  by_cases hn : n < 1
  · simp [hn]
  · simp only [hn, false_or]
    by_cases e1 : y = 9218868437227405312
    · simp [e1]
    · have e2 : ¬ x = 9218868437227405312 := by omega
      simp only [e1, e2, if_false]
      rw [divF_eq, divF_eq]
      exact divW_down c (ofInt_le (by omega)) (by omega) a
end Go.Proofs.Ytbmkjcgbnddgdaa.P
