/- Rounding in plain numbers: the nearest word of an exact quotient, as a function of the quotient alone; it does not fall as the quotient rises. -/
import Derived.Test.YtbmkjcgbnddgdaaHieee
namespace Go.Proofs.Ytbmkjcgbnddgdaa.P
set_option linter.unusedVariables false
/-- n / d to the nearest, between two to the even one. -/
def cutQ (n d : Nat) : Nat := n / d + (decide (d < 2 * (n % d)) || (decide (d = 2 * (n % d)) && decide (n / d % 2 = 1))).toNat
theorem cutQ_scale (n d c : Nat) (hc : 0 < c) : cutQ (n * c) (d * c) = cutQ n d := by
  unfold cutQ
  rw [Nat.mul_div_mul_right _ _ hc, Nat.mul_mod_mul_right]
  have e1 : decide (d * c < 2 * (n % d * c)) = decide (d < 2 * (n % d)) := by
    rw [← Nat.mul_assoc]
    exact decide_eq_decide.mpr ⟨fun h => Nat.lt_of_mul_lt_mul_right h, fun h => Nat.mul_lt_mul_of_pos_right h hc⟩
  have e2 : decide (d * c = 2 * (n % d * c)) = decide (d = 2 * (n % d)) := by
    rw [← Nat.mul_assoc]
    exact decide_eq_decide.mpr ⟨fun h => Nat.eq_of_mul_eq_mul_right hc h, fun h => by rw [← h]⟩
  rw [e1, e2]
theorem cutQ_ge (n d : Nat) : n / d ≤ cutQ n d := Nat.le_add_right _ _
theorem cutQ_le (n d : Nat) : cutQ n d ≤ n / d + 1 := by
  unfold cutQ
  exact Nat.add_le_add_left (Bool.toNat_le _) _
theorem cutQ_up {n d k : Nat} (hd : 0 < d) (h : k * d ≤ n) : k ≤ cutQ n d := Nat.le_trans ((Nat.le_div_iff_mul_le hd).mpr h) (cutQ_ge n d)
theorem cutQ_lt {n d k : Nat} (hd : 0 < d) (h : n < k * d) : cutQ n d ≤ k := Nat.le_trans (cutQ_le n d) ((Nat.div_lt_iff_lt_mul hd).mpr h)
theorem cutQ_mono {n d n' d' : Nat} (hd : 0 < d) (hd' : 0 < d') (h : n * d' ≤ n' * d) : cutQ n d ≤ cutQ n' d' := by
  rw [← cutQ_scale n d d' hd', ← cutQ_scale n' d' d hd, Nat.mul_comm d' d]
  generalize n * d' = a at h ⊢
  generalize n' * d = b at h ⊢
  have hD : 0 < d * d' := Nat.mul_pos hd hd'
  generalize d * d' = D at hD ⊢
  have hq : a / D ≤ b / D := Nat.div_le_div_right h
  rcases Nat.lt_or_ge (a / D) (b / D) with hl | hg
  · exact Nat.le_trans (cutQ_le a D) (Nat.le_trans hl (cutQ_ge b D))
  · have e : a / D = b / D := Nat.le_antisymm hq hg
    have ha := Nat.div_add_mod a D
    have hb := Nat.div_add_mod b D
    have hr : a % D ≤ b % D := by
      rw [e] at ha
      generalize D * (b / D) = z at ha hb
      omega
    unfold cutQ
    rw [e]
    refine Nat.add_le_add_left ?_ _
    cases hc : (decide (D < 2 * (a % D)) || (decide (D = 2 * (a % D)) && decide (b / D % 2 = 1)))
    · simp
    · have : (decide (D < 2 * (b % D)) || (decide (D = 2 * (b % D)) && decide (b / D % 2 = 1))) = true := by
        simp only [Bool.or_eq_true, Bool.and_eq_true, decide_eq_true_eq] at hc ⊢
        omega
      rw [this]
      exact Nat.le_refl _
/-- The quotient with a last digit that says 'something is left' cuts as the quotient itself. -/
theorem cutQ_sticky (d n h : Nat) (hn : 0 < n) : cutQ (2 * (d / n) + (d % n != 0).toNat) (2 ^ (h + 2)) = cutQ d (n * 2 ^ (h + 1)) := by
  have hd := Nat.div_add_mod d n
  have hr := Nat.mod_lt d hn
  generalize hq : d / n = q at hd ⊢
  generalize hrr : d % n = r at hd hr ⊢
  generalize hG : 2 ^ h = G
  have hG0 : 0 < G := by rw [← hG]; exact Nat.two_pow_pos _
  have p1 : 2 ^ (h + 1) = 2 * G := by rw [Nat.pow_succ, hG, Nat.mul_comm]
  have p2 : 2 ^ (h + 2) = 2 * (2 * G) := by rw [Nat.pow_succ, p1, Nat.mul_comm]
  rw [p1, p2]
  have dd : d / (n * (2 * G)) = q / (2 * G) := by rw [← Nat.div_div_eq_div_mul, hq]
  have hqq := Nat.div_add_mod q (2 * G)
  have hqr := Nat.mod_lt q (show 2 * G > 0 by omega)
  generalize hQ : q / (2 * G) = Q at dd hqq ⊢
  generalize hR : q % (2 * G) = R at hqq hqr ⊢
  have dm : d % (n * (2 * G)) = n * R + r := by
    have hdd := Nat.div_add_mod d (n * (2 * G))
    rw [dd] at hdd
    have : d = n * (2 * G) * Q + (n * R + r) := by
      rw [← hd, ← hqq, Nat.mul_add, Nat.mul_assoc, Nat.mul_assoc, Nat.mul_assoc, Nat.add_assoc]
    omega
  have sb : (r != 0).toNat ≤ 1 := Bool.toNat_le _
  have s0 : (r != 0).toNat = 0 ↔ r = 0 := by
    by_cases h0 : r = 0 <;> simp [h0]
  generalize (r != 0).toNat = s at sb s0
  have ld : (2 * q + s) / (2 * (2 * G)) = Q := by
    rw [← Nat.div_div_eq_div_mul, show (2 * q + s) / 2 = q by omega, hQ]
  have lm : (2 * q + s) % (2 * (2 * G)) = 2 * R + s := by
    have e := Nat.div_add_mod (2 * q + s) (2 * (2 * G))
    rw [ld] at e
    have e2 : 2 * (2 * G) * Q = 2 * (2 * G * Q) := by rw [Nat.mul_assoc]
    rw [e2] at e
    generalize 2 * G * Q = z at hqq e
    omega
  unfold cutQ
  rw [ld, lm, dd, dm]
  have k1 : decide (2 * (2 * G) < 2 * (2 * R + s)) = decide (n * (2 * G) < 2 * (n * R + r)) := by
    refine decide_eq_decide.mpr ?_
    rcases Nat.lt_trichotomy R G with hlt | heq | hgt
    · have : n * (R + 1) ≤ n * G := Nat.mul_le_mul_left n hlt
      rw [Nat.mul_add, Nat.mul_one] at this
      have e : n * (2 * G) = 2 * (n * G) := by rw [← Nat.mul_assoc, Nat.mul_comm n 2, Nat.mul_assoc]
      rw [e]
      constructor <;> intro hh <;> omega
    · subst heq
      have e : n * (2 * R) = 2 * (n * R) := by rw [← Nat.mul_assoc, Nat.mul_comm n 2, Nat.mul_assoc]
      rw [e]
      constructor <;> intro hh
      · have : s ≠ 0 := by omega
        have : r ≠ 0 := fun h => this (s0.mpr h)
        omega
      · have : r ≠ 0 := by omega
        have : s ≠ 0 := fun h => this (s0.mp h)
        omega
    · have : n * (G + 1) ≤ n * R := Nat.mul_le_mul_left n hgt
      rw [Nat.mul_add, Nat.mul_one] at this
      have e : n * (2 * G) = 2 * (n * G) := by rw [← Nat.mul_assoc, Nat.mul_comm n 2, Nat.mul_assoc]
      rw [e]
      constructor <;> intro hh <;> omega
  have k2 : decide (2 * (2 * G) = 2 * (2 * R + s)) = decide (n * (2 * G) = 2 * (n * R + r)) := by
    refine decide_eq_decide.mpr ?_
    have e : n * (2 * G) = 2 * (n * G) := by rw [← Nat.mul_assoc, Nat.mul_comm n 2, Nat.mul_assoc]
    rw [e]
    rcases Nat.lt_trichotomy R G with hlt | heq | hgt
    · have : n * (R + 1) ≤ n * G := Nat.mul_le_mul_left n hlt
      rw [Nat.mul_add, Nat.mul_one] at this
      constructor <;> intro hh <;> omega
    · subst heq
      constructor <;> intro hh
      · have : s = 0 := by omega
        have := s0.mp this
        omega
      · have : r = 0 := by omega
        have := s0.mpr this
        omega
    · have : n * (G + 1) ≤ n * R := Nat.mul_le_mul_left n hgt
      rw [Nat.mul_add, Nat.mul_one] at this
      constructor <;> intro hh <;> omega
  rw [k1, k2]
/-- 'r' is the word nearest to p / q * 2 ^ -K. -/
def Rounds (K p q r : Nat) : Prop := ∃ l : Nat, p < 2 ^ 53 * (q * 2 ^ (l + (K - 1074))) ∧ (l = 0 ∨ 2 ^ 52 * (q * 2 ^ (l + (K - 1074))) ≤ p) ∧ r = min (l * 4503599627370496 + cutQ p (q * 2 ^ (l + (K - 1074)))) 9218868437227405312
theorem ac1 (a b c d : Nat) : a * (b * c) * d = (b * d) * (a * c) := by ac_rfl
theorem ac2 (a b c d : Nat) : a * (b * c) * d = (d * b) * (a * c) := by ac_rfl
theorem Rounds.mono {K p q r p' q' r' : Nat} (hq : 0 < q) (hq' : 0 < q') (h : Rounds K p q r) (h' : Rounds K p' q' r') (hle : p * q' ≤ p' * q) : r ≤ r' := by
  obtain ⟨l, h1, h2, rfl⟩ := h
  obtain ⟨l', h1', h2', rfl⟩ := h'
  have hp : ∀ x, 0 < 2 ^ (x + (K - 1074)) := fun x => Nat.two_pow_pos _
  rcases Nat.lt_trichotomy l l' with hl | heq | hg
  · have a : cutQ p (q * 2 ^ (l + (K - 1074))) ≤ 2 ^ 53 := cutQ_lt (Nat.mul_pos hq (hp _)) h1
    have b : 4503599627370496 ≤ cutQ p' (q' * 2 ^ (l' + (K - 1074))) := cutQ_up (Nat.mul_pos hq' (hp _)) (h2'.resolve_left (by omega))
    generalize cutQ p (q * 2 ^ (l + (K - 1074))) = x at a
    generalize cutQ p' (q' * 2 ^ (l' + (K - 1074))) = y at b
    clear h1 h2 h1' h2' hp hle
    omega
  · subst heq
    have a : cutQ p (q * 2 ^ (l + (K - 1074))) ≤ cutQ p' (q' * 2 ^ (l + (K - 1074))) := by
      refine cutQ_mono (Nat.mul_pos hq (hp _)) (Nat.mul_pos hq' (hp _)) ?_
      rw [← Nat.mul_assoc, ← Nat.mul_assoc]
      exact Nat.mul_le_mul_right _ hle
    clear h1 h2 h1' h2' hp hle
    omega
  · exfalso
    have c := h2.resolve_left (by omega)
    have c1 : 2 ^ 52 * (q * 2 ^ (l + (K - 1074))) * q' ≤ p * q' := Nat.mul_le_mul_right _ c
    have c2 : p' * q < 2 ^ 53 * (q' * 2 ^ (l' + (K - 1074))) * q := Nat.mul_lt_mul_of_pos_right h1' hq
    have c3 : 2 ^ 52 * (q * 2 ^ (l + (K - 1074))) * q' < 2 ^ 53 * (q' * 2 ^ (l' + (K - 1074))) * q := Nat.lt_of_le_of_lt c1 (Nat.lt_of_le_of_lt hle c2)
    have e1 : 2 ^ 52 * (q * 2 ^ (l + (K - 1074))) * q' = (q * q') * (2 ^ 52 * 2 ^ (l + (K - 1074))) := ac1 _ _ _ _
    have e2 : 2 ^ 53 * (q' * 2 ^ (l' + (K - 1074))) * q = (q * q') * (2 ^ 53 * 2 ^ (l' + (K - 1074))) := ac2 _ _ _ _
    rw [e1, e2, ← Nat.pow_add, ← Nat.pow_add] at c3
    have c4 := Nat.lt_of_mul_lt_mul_left c3
    have c5 := (Nat.pow_lt_pow_iff_right (by omega : 1 < 2)).mp c4
    omega
theorem cut_eq (n drop : Nat) (hn : 0 < n) : Ieee.Toward.even.cut false n drop = cutQ n (2 ^ drop) := by
  have e : Ieee.Toward.even.cut false n drop = cutQ n (2 ^ min drop (n.log2 + 2)) := by
    unfold Ieee.Toward.cut cutQ
    dsimp only
    rw [Nat.shiftLeft_eq, Nat.one_mul]
    congr 2
  rw [e]
  rcases Nat.le_total drop (n.log2 + 2) with h | h
  · rw [Nat.min_eq_left h]
  · rw [Nat.min_eq_right h]
    have hl : n < 2 ^ (n.log2 + 1) := Nat.lt_log2_self
    have small : ∀ k, n.log2 + 2 ≤ k → cutQ n (2 ^ k) = 0 := by
      intro k hk
      have h1 : 2 ^ (n.log2 + 2) ≤ 2 ^ k := Nat.pow_le_pow_right (by omega) hk
      rw [Nat.pow_succ] at h1
      have h2 : 2 * n < 2 ^ k := by omega
      have d0 : n / 2 ^ k = 0 := Nat.div_eq_of_lt (by omega)
      have m0 : n % 2 ^ k = n := Nat.mod_eq_of_lt (by omega)
      unfold cutQ
      rw [d0, m0]
      have : decide (2 ^ k < 2 * n) = false := by simp; omega
      simp [this]
    rw [small _ (Nat.le_refl _), small _ h]
/-- What is written of a whole number times a power of two is the word nearest to it. -/
theorem nearest_rounds {S : Nat} {pl : Int} {K g : Nat} (hS : 0 < S) (hK : 1074 ≤ K) (hg : pl + K = g) : Rounds K (S * 2 ^ g) 1 (F64.nearest false S pl) := by
  have hS' : ¬ S = 0 := by omega
  have hlo := Nat.log2_self_le hS'
  have hhi : S < 2 ^ (S.log2 + 1) := Nat.lt_log2_self
  generalize hlast : max (pl + S.log2 - (52 : Nat)) (-1074 : Int) = last
  obtain ⟨l, hl⟩ : ∃ l : Nat, last = -1074 + l := ⟨(last + 1074).toNat, by omega⟩
  have e : F64.nearest false S pl = min ((last - (-1074)).toNat * 4503599627370496 + Ieee.Toward.even.cut false (S <<< (pl - last).toNat) (last - pl).toNat) 9218868437227405312 := by
    unfold Ieee.Format.nearest
    rw [if_neg hS']
    dsimp only
    rw [fb_eq, lp_eq, bin_eq, inf_eq, hlast]
    simp only [Ieee.Format.word, Bool.false_eq_true, if_false]
  rw [e, Nat.shiftLeft_eq, cut_eq _ _ (Nat.mul_pos hS (Nat.two_pow_pos _)), show (last - (-1074)).toNat = l by omega]
  clear e
  refine ⟨l, ?_, ?_, ?_⟩
  · have : g + (S.log2 + 1) ≤ 53 + (l + (K - 1074)) := by omega
    rw [Nat.one_mul, ← Nat.pow_add]
    refine Nat.lt_of_lt_of_le (Nat.mul_lt_mul_of_pos_right hhi (Nat.two_pow_pos _)) ?_
    rw [← Nat.pow_add]
    exact Nat.pow_le_pow_right (by omega) (by omega)
  · rcases Nat.eq_zero_or_pos l with h0 | h0
    · exact Or.inl h0
    · right
      have : 52 + (l + (K - 1074)) = S.log2 + g := by omega
      rw [Nat.one_mul, ← Nat.pow_add, this, Nat.pow_add]
      exact Nat.mul_le_mul_right _ hlo
  · have : cutQ (S * 2 ^ (pl - last).toNat) (2 ^ (last - pl).toNat) = cutQ (S * 2 ^ g) (1 * 2 ^ (l + (K - 1074))) := by
      rw [Nat.one_mul]
      rcases Int.le_total pl last with hc | hc
      · have e1 : (pl - last).toNat = 0 := by omega
        have e2 : l + (K - 1074) = (last - pl).toNat + g := by omega
        rw [e1, e2, Nat.pow_zero, Nat.mul_one, Nat.pow_add, cutQ_scale _ _ _ (Nat.two_pow_pos _)]
      · have e1 : (last - pl).toNat = 0 := by omega
        have e2 : g = (pl - last).toNat + (l + (K - 1074)) := by omega
        rw [e1, e2, Nat.pow_zero, Nat.pow_add, ← Nat.mul_assoc]
        have := cutQ_scale (S * 2 ^ (pl - last).toNat) 1 (2 ^ (l + (K - 1074))) (Nat.two_pow_pos _)
        rw [Nat.one_mul] at this
        exact this.symm
    rw [this]
end Go.Proofs.Ytbmkjcgbnddgdaa.P
