/- Words that are not negative: their values, their order, and the quotient's word: it rises with what is divided and falls with the divisor. -/
import Derived.Test.YtbmkjcgbnddgdaaHround
namespace Go.Proofs.Ytbmkjcgbnddgdaa.P
set_option linter.unusedVariables false
def magW (r : Nat) : Nat := if r < 4503599627370496 then r else 4503599627370496 + r % 4503599627370496
def powW (r : Nat) : Nat := r / 4503599627370496 - 1
/-- The value of a finite word, counted in the least steps. -/
def valW (r : Nat) : Nat := magW r * 2 ^ powW r
theorem read_fin {r : Nat} (h : r < 9218868437227405312) : F64.read r = .number false (magW r) (-1074 + (powW r : Nat)) := by
  rw [read_le (Nat.le_of_lt h)]
  unfold magW powW
  split
  · rename_i c
    have : r / 4503599627370496 - 1 = 0 := by omega
    rw [this]
    rfl
  · rfl
theorem read_inf : F64.read 9218868437227405312 = .infinity false := by
  rw [read_le (Nat.le_refl _)]
  simp
theorem magW_pos {r : Nat} (h : 0 < r) : 0 < magW r := by
  unfold magW
  split <;> omega
theorem valW_lt {a b : Nat} (h : a < b) : valW a < valW b := by
  unfold valW magW powW
  have da := Nat.div_add_mod a 4503599627370496
  have db := Nat.div_add_mod b 4503599627370496
  have ma := Nat.mod_lt a (show 4503599627370496 > 0 by omega)
  have mb := Nat.mod_lt b (show 4503599627370496 > 0 by omega)
  generalize a / 4503599627370496 = qa at *
  generalize b / 4503599627370496 = qb at *
  generalize a % 4503599627370496 = ra at *
  generalize b % 4503599627370496 = rb at *
  by_cases ca : a < 4503599627370496
  · have q0 : qa = 0 := by omega
    subst q0
    simp only [ca, if_true, Nat.zero_sub, Nat.pow_zero, Nat.mul_one]
    by_cases cb : b < 4503599627370496
    · have q0 : qb = 0 := by omega
      subst q0
      simpa [cb] using h
    · simp only [cb, if_false]
      have : 4503599627370496 * 1 ≤ (4503599627370496 + rb) * 2 ^ (qb - 1) := Nat.mul_le_mul (by omega) (Nat.two_pow_pos _)
      omega
  · have cb : ¬ b < 4503599627370496 := by omega
    simp only [ca, cb, if_false]
    rcases Nat.lt_trichotomy qa qb with hl | he | hg
    · have h1 : (4503599627370496 + ra) * 2 ^ (qa - 1) < 9007199254740992 * 2 ^ (qa - 1) := Nat.mul_lt_mul_of_pos_right (by omega) (Nat.two_pow_pos _)
      have h2 : 4503599627370496 * 2 ^ (qb - 1) ≤ (4503599627370496 + rb) * 2 ^ (qb - 1) := Nat.mul_le_mul_right _ (by omega)
      have h3 : 2 ^ (qa - 1 + 1) ≤ 2 ^ (qb - 1) := Nat.pow_le_pow_right (by omega) (by omega)
      rw [Nat.pow_succ] at h3
      generalize 2 ^ (qb - 1) = y at *
      generalize 2 ^ (qa - 1) = z at *
      omega
    · subst he
      exact Nat.mul_lt_mul_of_pos_right (by omega) (Nat.two_pow_pos _)
    · omega
theorem valW_le {a b : Nat} (h : a ≤ b) : valW a ≤ valW b := by
  rcases Nat.eq_or_lt_of_le h with rfl | h
  · exact Nat.le_refl _
  · exact Nat.le_of_lt (valW_lt h)
theorem order_fin {a b : Nat} (ha : a < 9218868437227405312) (hb : b < 9218868437227405312) : F64.order a b = some (compare a b) := by
  unfold Ieee.Format.order
  rw [read_fin ha, read_fin hb]
  simp only [Ieee.Datum.order, Ieee.signed, Bool.false_eq_true, if_false, Nat.shiftLeft_eq]
  congr 1
  have e1 : (-1074 + (powW a : Int) - min (-1074 + (powW a : Int)) (-1074 + (powW b : Int))).toNat = powW a - min (powW a) (powW b) := by omega
  have e2 : (-1074 + (powW b : Int) - min (-1074 + (powW a : Int)) (-1074 + (powW b : Int))).toNat = powW b - min (powW a) (powW b) := by omega
  rw [e1, e2]
  have va : magW a * 2 ^ (powW a - min (powW a) (powW b)) * 2 ^ min (powW a) (powW b) = valW a := by
    rw [Nat.mul_assoc, ← Nat.pow_add, Nat.sub_add_cancel (Nat.min_le_left _ _)]; rfl
  have vb : magW b * 2 ^ (powW b - min (powW a) (powW b)) * 2 ^ min (powW a) (powW b) = valW b := by
    rw [Nat.mul_assoc, ← Nat.pow_add, Nat.sub_add_cancel (Nat.min_le_right _ _)]; rfl
  generalize magW a * 2 ^ (powW a - min (powW a) (powW b)) = x at va
  generalize magW b * 2 ^ (powW b - min (powW a) (powW b)) = y at vb
  have hp : 0 < 2 ^ min (powW a) (powW b) := Nat.two_pow_pos _
  rcases Nat.lt_trichotomy a b with h | h | h
  · have := valW_lt h
    rw [← va, ← vb] at this
    have := Nat.lt_of_mul_lt_mul_right this
    rw [Int.compare_eq_lt.mpr (by omega), Nat.compare_eq_lt.mpr h]
  · subst h
    rw [← vb] at va
    have := Nat.eq_of_mul_eq_mul_right hp va
    rw [Int.compare_eq_eq.mpr (by omega), Nat.compare_eq_eq.mpr rfl]
  · have := valW_lt h
    rw [← va, ← vb] at this
    have := Nat.lt_of_mul_lt_mul_right this
    rw [Int.compare_eq_gt.mpr (by omega), Nat.compare_eq_gt.mpr h]
theorem order_le {a b : Nat} (ha : a ≤ 9218868437227405312) (hb : b ≤ 9218868437227405312) : F64.order a b = some (compare a b) := by
  by_cases ca : a < 9218868437227405312
  · by_cases cb : b < 9218868437227405312
    · exact order_fin ca cb
    · obtain rfl : b = 9218868437227405312 := by omega
      unfold Ieee.Format.order
      rw [read_fin ca, read_inf, Nat.compare_eq_lt.mpr ca]
      rfl
  · obtain rfl : a = 9218868437227405312 := by omega
    by_cases cb : b < 9218868437227405312
    · unfold Ieee.Format.order
      rw [read_fin cb, read_inf, Nat.compare_eq_gt.mpr cb]
      rfl
    · obtain rfl : b = 9218868437227405312 := by omega
      unfold Ieee.Format.order
      rw [read_inf, Nat.compare_eq_eq.mpr rfl]
      rfl
theorem Rounds.scale {K p q r c : Nat} (hc : 0 < c) (h : Rounds K p q r) : Rounds K (p * c) (q * c) r := by
  obtain ⟨l, h1, h2, h3⟩ := h
  have e : ∀ z, q * c * z = q * z * c := fun z => by ac_rfl
  refine ⟨l, ?_, ?_, ?_⟩
  · rw [e, ← Nat.mul_assoc]
    exact Nat.mul_lt_mul_of_pos_right h1 hc
  · rcases h2 with h2 | h2
    · exact Or.inl h2
    · right
      rw [e, ← Nat.mul_assoc]
      exact Nat.mul_le_mul_right _ h2
  · rw [e, cutQ_scale _ _ _ hc]
    exact h3
theorem powc {a b : Nat} (h : a = b) : (2 : Nat) ^ a = 2 ^ b := by rw [h]
theorem ac3 (x y : Nat) : x * (y * 2) = 2 * (x * y) := by ac_rfl
theorem ac4 (x n y : Nat) : x * (n * y) = x * y * n := by ac_rfl
/-- The word of a quotient with a last digit for what is left is the word nearest to the quotient. -/
theorem sticky_rounds {d n K g : Nat} {pl : Int} (hn : 0 < n) (hq : 2 ^ 53 * n ≤ d) (hK : 1074 ≤ K) (hg : pl + K = g) :
    Rounds K (d * 2 ^ (g + 1)) n (F64.nearest false (2 * (d / n) + (d % n != 0).toNat) pl) := by
  have q0 : 2 ^ 53 ≤ d / n := (Nat.le_div_iff_mul_le hn).mpr hq
  have s1 : (d % n != 0).toNat ≤ 1 := Bool.toNat_le _
  have hS : 0 < 2 * (d / n) + (d % n != 0).toNat := by omega
  obtain ⟨l, h1, h2, h3⟩ := nearest_rounds (pl := pl) (K := K) (g := g) hS hK hg
  generalize hL : l + (K - 1074) = L at h1 h2 h3
  rw [Nat.one_mul] at h1 h2 h3
  have st := cutQ_sticky d n
  generalize hs : (d % n != 0).toNat = s at *
  have dn := Nat.div_add_mod d n
  have dm := Nat.mod_lt d hn
  generalize hqq : d / n = q at *
  -- two digits at least are cut
  have hgL : g + 1 ≤ L := by
    have : 2 ^ 54 * 2 ^ g < 2 ^ 53 * 2 ^ L := Nat.lt_of_le_of_lt (Nat.mul_le_mul_right _ (by omega)) h1
    rw [← Nat.pow_add, ← Nat.pow_add] at this
    have := (Nat.pow_lt_pow_iff_right (by omega : 1 < 2)).mp this
    omega
  obtain ⟨h, rfl⟩ : ∃ h, L = g + 1 + h := ⟨L - (g + 1), by omega⟩
  have pg : 0 < 2 ^ g := Nat.two_pow_pos _
  have e1 : (2 : Nat) ^ (g + 1 + h) = 2 ^ (h + 1) * 2 ^ g := by rw [← Nat.pow_add]; exact powc (by omega)
  rcases Nat.eq_zero_or_pos h with rfl | hh
  · -- not so few: a quotient has 54 digits and one
    exfalso
    rw [e1] at h1
    rw [← Nat.mul_assoc] at h1
    have := Nat.lt_of_mul_lt_mul_right h1
    omega
  · obtain ⟨h, rfl⟩ : ∃ z, h = z + 1 := ⟨h - 1, by omega⟩
    have e2 : n * 2 ^ (g + 1 + (h + 1)) = n * 2 ^ (h + 1) * 2 ^ (g + 1) := by
      rw [Nat.mul_assoc, ← Nat.pow_add, powc (show g + 1 + (h + 1) = h + 1 + (g + 1) by omega)]
    have pg1 : 0 < 2 ^ (g + 1) := Nat.two_pow_pos _
    refine ⟨l, ?_, ?_, ?_⟩
    · rw [hL, e2, ← Nat.mul_assoc]
      refine Nat.mul_lt_mul_of_pos_right ?_ pg1
      rw [e1, ← Nat.mul_assoc] at h1
      have a := Nat.lt_of_mul_lt_mul_right h1
      have b : 2 ^ 53 * 2 ^ (h + 1 + 1) = 2 * (2 ^ 53 * 2 ^ (h + 1)) := by rw [Nat.pow_succ 2 (h + 1)]; exact ac3 (2 ^ 53) (2 ^ (h + 1))
      rw [b] at a
      have c : q + 1 ≤ 2 ^ 53 * 2 ^ (h + 1) := by omega
      have c2 := Nat.mul_le_mul_right n c
      have c3 : 2 ^ 53 * (n * 2 ^ (h + 1)) = 2 ^ 53 * 2 ^ (h + 1) * n := ac4 _ _ _
      rw [c3]
      rw [Nat.add_mul, Nat.one_mul, Nat.mul_comm q n] at c2
      omega
    · rcases h2 with h2 | h2
      · exact Or.inl h2
      · right
        rw [hL, e2, ← Nat.mul_assoc]
        refine Nat.mul_le_mul_right _ ?_
        rw [e1, ← Nat.mul_assoc] at h2
        have a := Nat.le_of_mul_le_mul_right h2 pg
        have b : 2 ^ 52 * 2 ^ (h + 1 + 1) = 2 * (2 ^ 52 * 2 ^ (h + 1)) := by rw [Nat.pow_succ 2 (h + 1)]; exact ac3 (2 ^ 52) (2 ^ (h + 1))
        rw [b] at a
        have c : 2 ^ 52 * 2 ^ (h + 1) ≤ q := by omega
        have c2 := Nat.mul_le_mul_right n c
        have c3 : 2 ^ 52 * (n * 2 ^ (h + 1)) = 2 ^ 52 * 2 ^ (h + 1) * n := ac4 _ _ _
        rw [c3]
        rw [Nat.mul_comm q n] at c2
        omega
    · rw [hL, e2, cutQ_scale _ _ _ pg1, ← st h hn, ← cutQ_scale _ _ _ pg]
      have e3 : 2 ^ (h + 2) * 2 ^ g = 2 ^ (g + 1 + (h + 1)) := by rw [← Nat.pow_add]; exact powc (by omega)
      rw [e3]
      exact h3
/-- a / b as a word. -/
def divW (a b : Nat) : Nat := (floatBits .quo .f64 a b).getD 0
theorem quo_eq (x y : Nat) : floatBits .quo .f64 x y = ((F64.read x).quotient (F64.fractionBits + 2) (F64.read y)).map F64.write := rfl
theorem quo_inf (k m : Nat) (p : Int) : (Ieee.Datum.infinity false).quotient k (.number false m p) = some (.infinity false) := rfl
theorem word_pos (f : Ieee.Format) (r : Nat) : f.word false r = r := rfl
theorem write_inf : F64.write (.infinity false) = 9218868437227405312 := by
  have : ∀ f : Ieee.Format, f.write (.infinity false) = f.infRung := fun f => rfl
  rw [this, inf_eq]
theorem divW_inf {b : Nat} (hb : b < 9218868437227405312) : divW 9218868437227405312 b = 9218868437227405312 := by
  unfold divW
  rw [quo_eq, read_inf, read_fin hb, quo_inf, Option.map_some, Option.getD_some, write_inf]
def moreOf (m n : Nat) : Nat := 54 + n.log2 - m.log2
theorem divW_fin {a b : Nat} (ha : a < 9218868437227405312) (hb : b < 9218868437227405312) (hb0 : 0 < b) :
    divW a b = F64.nearest false (2 * (magW a * 2 ^ moreOf (magW a) (magW b) / magW b) + (magW a * 2 ^ moreOf (magW a) (magW b) % magW b != 0).toNat) (-1074 + (powW a : Int) - (-1074 + (powW b : Int)) - (moreOf (magW a) (magW b) : Nat) - 1) := by
  have hm : ¬ magW b = 0 := by have := magW_pos hb0; omega
  unfold divW
  rw [quo_eq, read_fin ha, read_fin hb, fb_eq]
  simp only [Ieee.Datum.quotient, hm, if_false, Nat.shiftLeft_eq, Option.map, Option.getD, Ieee.Format.write, moreOf, Bool.xor_self]
theorem divW_zero {b : Nat} (hb : b < 9218868437227405312) (hb0 : 0 < b) : divW 0 b = 0 := by
  rw [divW_fin (by omega) hb hb0]
  have : magW 0 = 0 := rfl
  rw [this]
  simp [Ieee.Format.nearest, Ieee.Format.word]
theorem divW_le {a b : Nat} (ha : a ≤ 9218868437227405312) (hb : b < 9218868437227405312) (hb0 : 0 < b) : divW a b ≤ 9218868437227405312 := by
  by_cases c : a < 9218868437227405312
  · rw [divW_fin c hb hb0, ← inf_eq]
    exact nearest_le _ _ _
  · obtain rfl : a = 9218868437227405312 := by omega
    rw [divW_inf hb]
    exact Nat.le_refl _
theorem divW_rounds {a b K : Nat} (ha : a < 9218868437227405312) (ha0 : 0 < a) (hb : b < 9218868437227405312) (hb0 : 0 < b) (hK : 1074 + powW b + 55 + (magW b).log2 ≤ K) : Rounds K (valW a * 2 ^ K) (valW b) (divW a b) := by
  rw [divW_fin ha hb hb0]
  have hm := magW_pos ha0
  have hn := magW_pos hb0
  have hmb : moreOf (magW a) (magW b) ≤ 54 + (magW b).log2 := by unfold moreOf; omega
  have hd : 2 ^ 53 * magW b ≤ magW a * 2 ^ moreOf (magW a) (magW b) := by
    have h1 : magW b < 2 ^ ((magW b).log2 + 1) := Nat.lt_log2_self
    have h2 := Nat.log2_self_le (show ¬ magW a = 0 by omega)
    have h3 : 2 ^ (magW a).log2 * 2 ^ moreOf (magW a) (magW b) ≤ magW a * 2 ^ moreOf (magW a) (magW b) := Nat.mul_le_mul_right _ h2
    refine Nat.le_trans ?_ h3
    rw [← Nat.pow_add]
    have h4 : 2 ^ 53 * magW b ≤ 2 ^ 53 * 2 ^ ((magW b).log2 + 1) := Nat.mul_le_mul_left _ (Nat.le_of_lt h1)
    refine Nat.le_trans h4 ?_
    rw [← Nat.pow_add]
    refine Nat.pow_le_pow_right (by omega) ?_
    unfold moreOf
    omega
  generalize moreOf (magW a) (magW b) = more at *
  obtain ⟨g, hg⟩ : ∃ g : Nat, (-1074 + (powW a : Int) - (-1074 + (powW b : Int)) - (more : Nat) - 1) + K = g := ⟨(powW a + K - powW b - more - 1), by omega⟩
  have r := (sticky_rounds hn hd (by omega : 1074 ≤ K) hg).scale (c := 2 ^ powW b) (Nat.two_pow_pos _)
  have e : magW a * 2 ^ more * 2 ^ (g + 1) * 2 ^ powW b = valW a * 2 ^ K := by
    unfold valW
    rw [Nat.mul_assoc, Nat.mul_assoc, Nat.mul_assoc, ← Nat.pow_add, ← Nat.pow_add, ← Nat.pow_add]
    congr 2
    omega
  rw [e] at r
  exact r
theorem valW_pos {b : Nat} (h : 0 < b) : 0 < valW b := Nat.mul_pos (magW_pos h) (Nat.two_pow_pos _)
/-- With a greater number to divide it does not fall. -/
theorem divW_up {a a' b : Nat} (h : a ≤ a') (ha : a' ≤ 9218868437227405312) (hb : b < 9218868437227405312) (hb0 : 0 < b) : divW a b ≤ divW a' b := by
  by_cases c : a' < 9218868437227405312
  · rcases Nat.eq_zero_or_pos a with rfl | h0
    · rw [divW_zero hb hb0]
      exact Nat.zero_le _
    · refine Rounds.mono (valW_pos hb0) (valW_pos hb0) (divW_rounds (by omega) h0 hb hb0 (Nat.le_refl _)) (divW_rounds c (by omega) hb hb0 (Nat.le_refl _)) ?_
      exact Nat.mul_le_mul_right _ (Nat.mul_le_mul_right _ (valW_le h))
  · obtain rfl : a' = 9218868437227405312 := by omega
    rw [divW_inf hb]
    exact divW_le h hb hb0
/-- With a greater divisor it does not rise. -/
theorem divW_down {a b b' : Nat} (h : b ≤ b') (ha : a ≤ 9218868437227405312) (hb : b' < 9218868437227405312) (hb0 : 0 < b) : divW a b' ≤ divW a b := by
  by_cases c : a < 9218868437227405312
  · rcases Nat.eq_zero_or_pos a with rfl | h0
    · rw [divW_zero hb (by omega)]
      exact Nat.zero_le _
    · have k1 : 1074 + powW b' + 55 + (magW b').log2 ≤ (1074 + powW b' + 55 + (magW b').log2) + (1074 + powW b + 55 + (magW b).log2) := by omega
      have k2 : 1074 + powW b + 55 + (magW b).log2 ≤ (1074 + powW b' + 55 + (magW b').log2) + (1074 + powW b + 55 + (magW b).log2) := by omega
      refine Rounds.mono (valW_pos (by omega)) (valW_pos hb0) (divW_rounds c h0 hb (by omega) k1) (divW_rounds c h0 (by omega) hb0 k2) ?_
      exact Nat.mul_le_mul_left _ (valW_le h)
  · obtain rfl : a = 9218868437227405312 := by omega
    rw [divW_inf hb, divW_inf (b := b) (by omega)]
    exact Nat.le_refl _
/-- A greater whole number's word is not less. -/
theorem ofInt_up {n n' : Int} (h0 : 0 ≤ n) (h : n ≤ n') : floatOfInt .f64 n ≤ floatOfInt .f64 n' := by
  rw [ofInt_eq h0, ofInt_eq (by omega)]
  rcases Nat.eq_zero_or_pos n.natAbs with z | z
  · rw [z]
    simp [Ieee.Format.nearest, Ieee.Format.word]
  · refine Rounds.mono (K := 1074) (by omega) (by omega) (nearest_rounds z (Nat.le_refl _) (g := 1074) (by omega)) (nearest_rounds (by omega) (Nat.le_refl _) (g := 1074) (by omega)) ?_
    refine Nat.mul_le_mul_right _ (Nat.mul_le_mul_right _ ?_)
    omega
end Go.Proofs.Ytbmkjcgbnddgdaa.P
