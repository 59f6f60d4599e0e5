/- iceboxref17.bare: a list without its last user's entries that end it and are gone; and what iceboxref17.seen tells, in plain words. -/
import Derived.Test.YtanlecnnfoapeaaPx7
import Derived.Test.YtanlecnnfoapeaaHseen
namespace Go.Proofs.Ytanlecnnfoapeaa.P
open Go.RowKit Go.Proofs.YtanlecnnfoapeaaW.PrintWords Go.Proofs.YtanlecnnfoapeaaW.PrintLast Go.Proofs.YtanlecnnfoapeaaW.PrintMore
set_option linter.unusedVariables false
def bareN (u : ByteArray) (xs : List S34) : Nat → Nat
  | 0 => 0
  | n + 1 => if (rd_T34 xs (n : Nat)).f0.f0.toList = u.toList ∧ (rd_T34 xs (n : Nat)).f0.f2 = 2 then bareN u xs n else n + 1
def bareOf (xs : List S34) : Nat := if xs.length = 0 then 0 else bareN (rd_T34 xs ((xs.length - 1 : Nat) : Int)).f0.f0 xs xs.length
theorem bareN_le (u : ByteArray) (xs : List S34) : ∀ n, bareN u xs n ≤ n
  | 0 => Nat.le_refl _
  | n + 1 => by
    unfold bareN
    split
    · exact Nat.le_succ_of_le (bareN_le u xs n)
    · exact Nat.le_refl _
theorem bareOf_le (xs : List S34) : bareOf xs ≤ xs.length := by
  unfold bareOf
  split
  · omega
  · exact bareN_le _ _ _
def lenOf : Value → Nat
  | .slice _ n _ => n
  | _ => 0
theorem ret_slice {A : Option Addr} {n m c : Nat} (h : n = m) : Ending.returned (.slice A n c) = .returned (.slice A m c) := by rw [h]
set_option maxHeartbeats 400000 in
theorem bare_calls (A : Option Addr) (c : Nat) (xs : List S34) (w : World) (hr : Kd.C k34 w A xs.length xs) (hc : xs.length ≤ c) :
    Calls Try.prog 26 #[.slice A xs.length c] w fun e w' => e = .returned (.slice A (bareOf xs) c) ∧ w = w' := by
  have hm : xs.length ≤ 9223372036854775807 := hr.2.1
  have HR := Aside0.mk hr
  clear hr
  by_cases h0 : xs.length = 0
  · have h0' : ((xs.length : Int) == 0) = true := by simp [h0]
    have HB : Aside0 (bareOf xs = xs.length) := ⟨by unfold bareOf; rw [if_pos h0, h0]⟩
    have H0 := Aside0.mk h0
    clear h0
    go_enter Try.func26, Try.ntmps26
    go_wp2
    go_ret
    exact ⟨ret_slice HB.out.symm, rfl⟩
  · have hl1 : (0 : Int) ≤ (xs.length : Int) - 1 := by omega
    have hl2 : (xs.length : Int) - 1 < (xs.length : Int) := by omega
    have e1 : ((xs.length - 1 : Nat) : Int) = (xs.length : Int) - 1 := by omega
    have e2 : ((xs.length : Int) - 1).toNat = xs.length - 1 := by omega
    have HW : Aside0 (wrap64 ((xs.length : Int) - 1) = (xs.length : Int) - 1) := ⟨by unfold wrap64; omega⟩
    obtain ⟨u, hu⟩ : ∃ u, u = (rd_T34 xs ((xs.length - 1 : Nat) : Int)).f0.f0 := ⟨_, rfl⟩
    have HB : Aside0 (bareOf xs = bareN u xs xs.length) := ⟨by unfold bareOf; rw [if_neg h0, ← hu]⟩
    obtain ⟨ad, rfl, c0, c1, c2, c3⟩ := at_T34 HR.out ((xs.length - 1 : Nat) : Int) (by omega) (by omega)
    rw [← hu] at c0
    simp only [Int.toNat_natCast] at c0
    clear hu e1 c1 c2 c3
    have h0' : ((xs.length : Int) == 0) = false := by simpa using h0
    have HE2 := Aside0.mk e2
    have hpos : 0 < xs.length := by omega
    clear h0
    go_enter Try.func26, Try.ntmps26
    go_wp2
    clear h0' c0 e2 hl1 hl2
    go_loop [0] (fun s => ∃ m : Nat, m ≤ xs.length ∧ s = .slice (some ad) m c ∧ Aside0 (bareN u xs m = bareN u xs xs.length)) (fun s => lenOf s)
    case atStart => exact ⟨xs.length, Nat.le_refl _, rfl, ⟨rfl⟩⟩
    case round =>
      obtain ⟨m, hmx, rfl, HM⟩ := hrel
      cases m with
      | zero =>
        have hd : decide ((0 : Int) < 0) = false := by decide
        have hd2 : decide (0 < 0) = false := by decide
        go_wp2
        go_ret
        exact ⟨ret_slice (by rw [HB.out, ← HM.out]; rfl), rfl⟩
      | succ q =>
        obtain ⟨ad', e0, c0, c1, c2, c3⟩ := at_T34 HR.out (q : Int) (by omega) (by omega)
        obtain rfl : ad = ad' := by injection e0
        simp only [Int.toNat_natCast] at c0 c1 c2 c3
        have hpq : 0 < q + 1 := by omega
        have hw1 : ((q + 1 : Nat) : Int) - 1 = (q : Int) := by omega
        have hq0 : (0 : Int) ≤ (q : Int) := by omega
        have hq1 : (q : Int) < ((q + 1 : Nat) : Int) := by omega
        by_cases hs : (rd_T34 xs (q : Int)).f0.f0.toList = u.toList
        · have hs' : ((rd_T34 xs (q : Int)).f0.f0.toList == u.toList) = true := beq_iff_eq.mpr hs
          by_cases hk : (rd_T34 xs (q : Int)).f0.f2 = 2
          · have hk' : ((rd_T34 xs (q : Int)).f0.f2 == 2) = true := beq_iff_eq.mpr hk
            have HN : Aside0 (bareN u xs q = bareN u xs xs.length) := ⟨by rw [← HM.out, bareN, if_pos ⟨hs, hk⟩]⟩
            clear hs hk
            go_wp2
            go_round
            case rel => exact ⟨q, by omega, rfl, HN⟩
            case measure => simp [lenOf]
          · have hk' : ((rd_T34 xs (q : Int)).f0.f2 == 2) = false := beq_eq_false_iff_ne.mpr hk
            have HN : Aside0 (q + 1 = bareN u xs xs.length) := ⟨by rw [← HM.out, bareN, if_neg (fun h => hk h.2)]⟩
            clear hs hk
            go_wp2
            go_ret
            exact ⟨ret_slice (by rw [HB.out, ← HN.out]), rfl⟩
        · have hs' : ((rd_T34 xs (q : Int)).f0.f0.toList == u.toList) = false := beq_eq_false_iff_ne.mpr hs
          have HN : Aside0 (q + 1 = bareN u xs xs.length) := ⟨by rw [← HM.out, bareN, if_neg (fun h => hs h.1)]⟩
          clear hs
          go_wp2
          go_ret
          exact ⟨ret_slice (by rw [HB.out, ← HN.out]), rfl⟩
theorem wrap_pred (i : Nat) (h0 : 0 < i) (h : i ≤ 9223372036854775807) : wrap64 ((i : Int) - 1) = ((i - 1 : Nat) : Int) := by unfold wrap64; omega
theorem wrap_succ (i : Nat) (h : i < 9223372036854775807) : wrap64 ((i : Int) + 1) = ((i + 1 : Nat) : Int) := by unfold wrap64; omega
/-- Is entry i the first of its user's that somebody sees? -/
def newUser (l : List S34) (i : Nat) : Bool := i == 0 || !((rd_T34 l ((i - 1 : Nat) : Int)).f0.f0.toList == (rd_T34 l (i : Int)).f0.f0.toList)
def seenB (l : List S34) (i : Nat) (snaps : List Int) : Bool := newUser l i || snaps.any (fun s => decide ((rd_T34 l (i : Int)).f0.f1 ≤ s) && decide ((rd_T34 l ((i - 1 : Nat) : Int)).f0.f1 > s))
theorem seen_l1 (l : List S34) (i : Nat) (snaps : List Int) (hi : i < l.length) (h0 : 0 < i) (hl : l.length ≤ 9223372036854775807) (hs : snaps.length ≤ 9223372036854775807) : ∀ (d k n : Nat), snaps.length - n = d → n ≤ snaps.length → d < k →
    iceboxref17_seen.l1 k l (i : Int) snaps (n : Int) = some ((snaps.drop n).any (fun s => decide ((rd_T34 l (i : Int)).f0.f1 ≤ s) && decide ((rd_T34 l ((i - 1 : Nat) : Int)).f0.f1 > s))) := by
  intro d
  induction d with
  | zero =>
    intro k n hd hn hk
    obtain ⟨k, rfl⟩ : ∃ m, k = m + 1 := ⟨k - 1, by omega⟩
    rw [iceboxref17_seen.l1, if_neg (by omega), List.drop_of_length_le (by omega)]
    rfl
  | succ d ih =>
    intro k n hd hn hk
    obtain ⟨k, rfl⟩ : ∃ m, k = m + 1 := ⟨k - 1, by omega⟩
    have hlt : n < snaps.length := by omega
    have hr : rd snaps (n : Int) = snaps[n] := by simp [rd, List.getD_eq_getElem?_getD, hlt]
    have hih := ih k (n + 1) (by omega) (by omega) (by omega)
    rw [iceboxref17_seen.l1, if_pos (by omega), if_pos (by omega), if_pos (by omega), if_pos (by omega), wrap_pred i h0 (by omega), wrap_succ n (by omega), hih, hr]
    rw [List.drop_eq_getElem_cons hlt, List.any_cons]
    by_cases h1 : (rd_T34 l (i : Int)).f0.f1 ≤ snaps[n]
    · rw [if_pos h1, if_pos (by omega), if_pos (by omega)]
      by_cases h2 : (rd_T34 l ((i - 1 : Nat) : Int)).f0.f1 > snaps[n]
      · rw [if_pos h2]
        simp [h1, h2]
      · rw [if_neg h2]
        simp [h2]
    · rw [if_neg h1]
      simp [h1]
theorem seen_l0 (l : List S34) (i : Nat) (snaps : List Int) (hi : i < l.length) (h0 : 0 < i) (hl : l.length ≤ 9223372036854775807) (hs : snaps.length ≤ 9223372036854775807) : ∀ (n k : Nat), n < i → n + snaps.length + 3 ≤ k →
    iceboxref17_seen.l0 k l (i : Int) snaps (n : Int) = some (snaps.any (fun s => decide ((rd_T34 l (i : Int)).f0.f1 ≤ s) && decide ((rd_T34 l ((i - 1 : Nat) : Int)).f0.f1 > s))) := by
  have hj : ∀ (k n : Nat), n < i → snaps.length + 2 ≤ k → iceboxref17_seen.j1 k l (i : Int) snaps (n : Int) = some (snaps.any (fun s => decide ((rd_T34 l (i : Int)).f0.f1 ≤ s) && decide ((rd_T34 l ((i - 1 : Nat) : Int)).f0.f1 > s))) := by
    intro k n hn hk
    obtain ⟨k, rfl⟩ : ∃ m, k = m + 1 := ⟨k - 1, by omega⟩
    rw [iceboxref17_seen.j1, if_neg (by omega)]
    exact seen_l1 l i snaps hi h0 hl hs snaps.length k 0 rfl (by omega) (by omega)
  intro n
  induction n with
  | zero =>
    intro k hn hk
    obtain ⟨k, rfl⟩ : ∃ m, k = m + 1 := ⟨k - 1, by omega⟩
    rw [iceboxref17_seen.l0, if_neg (by omega)]
    exact hj k 0 hn (by omega)
  | succ n ih =>
    intro k hn hk
    obtain ⟨k, rfl⟩ : ∃ m, k = m + 1 := ⟨k - 1, by omega⟩
    rw [iceboxref17_seen.l0, if_pos (by omega), wrap_pred (n + 1) (by omega) (by omega), Nat.add_sub_cancel, if_pos (by omega), if_pos (by omega), if_pos (by omega), if_pos (by omega)]
    split
    · exact ih k (by omega) (by omega)
    · exact hj k (n + 1) hn (by omega)
theorem seen_f (l : List S34) (i : Nat) (snaps : List Int) (hi : i < l.length) (hl : l.length ≤ 9223372036854775807) (hs : snaps.length ≤ 9223372036854775807) : iceboxref17_seen.f (i + snaps.length + 5) l (i : Int) snaps = some (seenB l i snaps) := by
  unfold iceboxref17_seen.f seenB newUser
  rcases Nat.eq_zero_or_pos i with h | h
  · subst h
    rw [iceboxref17_seen.l0, if_neg (by omega), iceboxref17_seen.j1, if_pos rfl]
    simp
  · rw [iceboxref17_seen.l0, if_pos (by omega), wrap_pred i h (by omega), if_pos (by omega), if_pos (by omega), if_pos (by omega), if_pos (by omega)]
    by_cases he : (rd_T34 l ((i - 1 : Nat) : Int)).f0.f0.toList = (rd_T34 l (i : Int)).f0.f0.toList
    · rw [if_pos he, seen_l0 l i snaps hi h hl hs (i - 1) _ (by omega) (by omega)]
      have : (i == 0) = false := by simp; omega
      rw [this, he]
      simp
    · rw [if_neg he, iceboxref17_seen.j1, if_pos rfl]
      simp [he]
end Go.Proofs.Ytanlecnnfoapeaa.P
