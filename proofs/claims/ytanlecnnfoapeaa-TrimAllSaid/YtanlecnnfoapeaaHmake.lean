/- iceboxlaw12.Make: entries in order, by numbers of a byte each: its contract by hand, in the print's form. Conditions: at most 1000 numbers, each from 0 to 255. -/
import Derived.Test.YtanlecnnfoapeaaHadd
namespace Go.Proofs.Ytanlecnnfoapeaa.P
open Go.RowKit Go.Proofs.YtanlecnnfoapeaaW.PrintWords Go.Proofs.YtanlecnnfoapeaaW.PrintLast Go.Proofs.YtanlecnnfoapeaaW.PrintMore
set_option linter.unusedVariables false
theorem strOf_size (xs : List Int) : (strOfNums xs).size = xs.length := by simp [strOfNums, ByteArray.size]
theorem digits_some : ∀ (k : Nat) (n : Int) (s : ByteArray), 0 ≤ n → n ≤ 9223372036854775807 → n < 10 ^ (k + 1) → s.size + k + 1 ≤ 1000 → ∃ r, iceboxref1_Digits.l0 (k + 1) n s = some r ∧ r.size ≤ s.size + k + 1
  | 0, n, s, h0, hn, h1, h2 => by
    have : ¬ n ≥ 10 := by omega
    refine ⟨strOfNums [(wrap64 (48 + n)) % 256] ++ s, ?_, ?_⟩
    · simp only [iceboxref1_Digits.l0]
      rw [if_neg this]
      simp only [Option.bind_some]
      rw [if_pos (by rw [strOf_size]; simp; omega)]
    · rw [ByteArray.size_append, strOf_size]; simp; omega
  | k + 1, n, s, h0, hn, h1, h2 => by
    by_cases h : n ≥ 10
    · have hw : wrap64 (Int.tdiv n 10) = n / 10 := by
        rw [Int.tdiv_eq_ediv_of_nonneg h0]
        unfold wrap64
        omega
      obtain ⟨r, hr, hs⟩ := digits_some k (n / 10) (strOfNums [(wrap64 (48 + (Int.tmod n 10))) % 256] ++ s) (by omega) (by omega) (by rw [Int.pow_succ] at h1; omega) (by rw [ByteArray.size_append, strOf_size]; simp; omega)
      refine ⟨r, ?_, ?_⟩
      · rw [iceboxref1_Digits.l0]
        rw [if_pos h]
        simp only [Option.bind_some]
        rw [if_pos (by rw [strOf_size]; simp; omega), hw]
        exact hr
      · rw [ByteArray.size_append, strOf_size] at hs
        simp at hs
        omega
    · refine ⟨strOfNums [(wrap64 (48 + n)) % 256] ++ s, ?_, ?_⟩
      · rw [iceboxref1_Digits.l0]
        rw [if_neg h]
        simp only [Option.bind_some]
        rw [if_pos (by rw [strOf_size]; simp; omega)]
      · rw [ByteArray.size_append, strOf_size]; simp; omega
def digs (n : Int) : ByteArray := (iceboxref1_Digits.f 4 n).getD ⟨#[]⟩
theorem digs_f (n : Int) (h0 : 0 ≤ n) (h1 : n ≤ 255) : iceboxref1_Digits.f 4 n = some (digs n) := by
  obtain ⟨r, hr, _⟩ := digits_some 3 n ⟨#[]⟩ h0 (by omega) (by simp; omega) (by decide)
  have : iceboxref1_Digits.f 4 n = some r := hr
  unfold digs
  rw [this]
  rfl
theorem digs_size (n : Int) (h0 : 0 ≤ n) (h1 : n ≤ 255) : (digs n).size ≤ 4 := by
  obtain ⟨r, hr, hs⟩ := digits_some 3 n ⟨#[]⟩ h0 (by omega) (by simp; omega) (by decide)
  have : iceboxref1_Digits.f 4 n = some r := hr
  unfold digs
  rw [this]
  have h0 : (⟨#[]⟩ : ByteArray).size = 0 := rfl
  show r.size ≤ 4
  omega
def entryOf (a1 : Int) (i : Nat) (n : Int) : S34 := ⟨⟨(⟨#[107, 101, 121]⟩ : ByteArray) ++ digs (n % (3 + a1 % 40)), 1 + (i : Int), if n % 7 = 0 then 2 else 1⟩, if n % 7 = 0 then ⟨#[]⟩ else digs n⟩
def makeUpto (a1 : Int) (l0 : List Int) : Nat → List S34
  | 0 => []
  | k + 1 => insE (makeUpto a1 l0 k) (entryOf a1 k (rd l0 (k : Nat)))
theorem posE_le (l : List S34) (e : S34) : posE l e ≤ l.length := by
  unfold posE
  exact List.Sublist.length_le (List.takeWhile_sublist _)
theorem insE_length (l : List S34) (e : S34) : (insE l e).length = l.length + 1 := by
  have := posE_le l e
  simp [insE]
  omega
theorem insE_mem {l : List S34} {e x : S34} : x ∈ insE l e ↔ x = e ∨ x ∈ l := by
  unfold insE
  rw [List.mem_append, List.mem_cons]
  have hm : x ∈ l ↔ x ∈ l.take (posE l e) ∨ x ∈ l.drop (posE l e) := by
    rw [← List.mem_append, List.take_append_drop]
  rw [hm]
  constructor
  · rintro (h | h | h)
    · exact .inr (.inl h)
    · exact .inl h
    · exact .inr (.inr h)
  · rintro (h | h | h)
    · exact .inr (.inl h)
    · exact .inl h
    · exact .inr (.inr h)
theorem makeUpto_length (a1 : Int) (l0 : List Int) : ∀ k, (makeUpto a1 l0 k).length = k
  | 0 => rfl
  | k + 1 => by rw [makeUpto, insE_length, makeUpto_length]
theorem makeUpto_seq (a1 : Int) (l0 : List Int) : ∀ k x, x ∈ makeUpto a1 l0 k → 1 ≤ x.f0.f1 ∧ x.f0.f1 ≤ k
  | 0, x, h => by simp [makeUpto] at h
  | k + 1, x, h => by
    rw [makeUpto, insE_mem] at h
    rcases h with rfl | h
    · simp [entryOf]; omega
    · have := makeUpto_seq a1 l0 k x h
      omega
theorem add_calls2 (u : ByteArray) (q kd : Int) (val : ByteArray) (B g : Nat) (v : Value) (L : List S34) (w : World) (hg : w.heap[g]? = some (.cells #[v] 49 (0, 0))) (hL : Kd.R k34 34 w B (fun b => b ≠ g) v L) (hB : B ≤ g) (hlen : L.length < 100000)
    (hmay : iceboxref1_MayEntry.f u q kd val = some true) (hne : ∀ x ∈ L, x.f0.f1 ≠ q) :
    Calls Try.prog 21 #[.pointer (some ⟨g, 0, none⟩), .agg #[.string u, .int .i64 q, .int .i64 kd, .string val]] w fun en w' => ∃ v', en = .returned (.bool true) ∧ w'.heap[g]? = some (.cells #[v'] 49 (0, 0)) ∧ Kd.R k34 34 w' B (fun b => b ≠ g) v' (insE L ⟨⟨u, q, kd⟩, val⟩) ∧ Below B w w' :=
  add_calls B g v L ⟨⟨u, q, kd⟩, val⟩ w hg hL hB hlen hmay hne
def iceboxlaw12_Make.f (l0 : List Int) (a1 : Int) : Option (List S34) := if l0.length ≤ 1000 ∧ (∀ x ∈ l0, 0 ≤ x ∧ x ≤ 255) ∧ 0 ≤ a1 ∧ a1 ≤ 255 then some (makeUpto a1 l0 l0.length) else none
theorem may_entryOf (a1 : Int) (i : Nat) (n : Int) (h0 : 0 ≤ n) (h1 : n ≤ 255) (h2 : 0 ≤ a1) (h3 : a1 ≤ 255) (hi : i ≤ 1000) : iceboxref1_MayEntry.f (entryOf a1 i n).f0.f0 (entryOf a1 i n).f0.f1 (entryOf a1 i n).f0.f2 (entryOf a1 i n).f1 = some true := by
  have e1 : n % (3 + a1 % 40) < 3 + a1 % 40 := Int.emod_lt_of_pos _ (by omega)
  have e0 : 0 ≤ n % (3 + a1 % 40) := Int.emod_nonneg _ (by omega)
  have hs := digs_size (n % (3 + a1 % 40)) e0 (by omega)
  have hs2 := digs_size n h0 h1
  unfold iceboxref1_MayEntry.f iceboxref1_MayKey.f iceboxref1_Number.f entryOf
  simp only []
  have h64 : ((((⟨#[107, 101, 121]⟩ : ByteArray) ++ digs (n % (3 + a1 % 40))).size : Nat) : Int) ≤ 64 := by
    rw [ByteArray.size_append]
    have : (⟨#[107, 101, 121]⟩ : ByteArray).size = 3 := rfl
    omega
  rw [if_pos h64, if_pos (show (1 + (i : Int)) ≥ 0 by omega)]
  simp only [Option.bind_some]
  rw [if_pos (decide_eq_true (by omega))]
  by_cases h7 : n % 7 = 0
  · simp [h7]
    decide
  · simp [h7]
    omega
set_option maxHeartbeats 800000 in
theorem iceboxlaw12_Make.calls (A0 : Option Addr) (c0 : Nat) (l0 : List Int) (a1 : Int) (r : List S34) (w : World) (hr0 : Kd.C (Kd.int .u8) w A0 l0.length l0) (hc0 : l0.length ≤ c0) (h : iceboxlaw12_Make.f l0 a1 = some r) :
    Calls Try.prog 10 #[.slice A0 l0.length c0, .int .u8 a1] w fun e w' => ∃ v0_ : Value, e = .returned (v0_) ∧ Kd.R k34 34 w' w.heap.size (fun _ => True) v0_ r ∧ Below w.heap.size w w' := by
  unfold iceboxlaw12_Make.f at h
  split at h
  case isFalse => cases h
  case isTrue hn =>
  obtain ⟨hn0, hn1, hn2, hn3⟩ := hn
  injection h with h
  have HN := Aside0.mk hn1
  have H := Aside0.mk h
  have HR := Aside0.mk hr0
  clear hn1 h hr0
  have hu34 := Try.underlying34
  have hu32 := Try.underlying32
  have hu49 := Try.underlying49
  go_enter Try.func10, Try.ntmps10
  go_wp2
  go_loopw [6] (fun i wr => ∃ k : Nat, k ≤ l0.length ∧ i = .int .i64 k ∧ Aside0 (∃ v, wr.heap[w.heap.size]? = some (.cells #[v] 49 (0, 0)) ∧ Kd.R k34 34 wr w.heap.size (fun b => b ≠ w.heap.size) v (makeUpto a1 l0 k)) ∧ Aside0 (Below w.heap.size w wr)) (fun i _ => l0.length - (intOf i).toNat)
  case atStart => exact ⟨0, Nat.zero_le _, rfl, ⟨_, blk_new _ _, Kd.R_nil _ _ _ _ _⟩, ⟨(Below.refl _ _).alloc (Nat.le_refl _) _⟩⟩
  case round =>
    obtain ⟨k, hk, rfl, HV, HW⟩ := hrel
    by_cases hlt : k < l0.length
    · obtain ⟨ad, rfl, h0⟩ := Kd.at_int (Kd.C_below HR.out HW.out) (k : Int) (by omega) (by omega)
      simp only [Int.toNat_natCast] at h0
      obtain ⟨n, hq⟩ : ∃ n, n = rd l0 (k : Int) := ⟨_, rfl⟩
      rw [← hq] at h0
      have HQ := Aside0.mk hq
      have hmem := HN.out n (by rw [hq]; simp [rd, List.getD_eq_getElem?_getD, hlt])
      obtain ⟨n0, n1⟩ := hmem
      clear hq
      have e1 : n % (3 + a1 % 40) < 3 + a1 % 40 := Int.emod_lt_of_pos _ (by omega)
      have e0 : 0 ≤ n % (3 + a1 % 40) := Int.emod_nonneg _ (by omega)
      have HD1 := Aside0.mk (digs_f (n % (3 + a1 % 40)) e0 (by omega))
      have HD2 := Aside0.mk (digs_f n n0 n1)
      have hsz1 := digs_size (n % (3 + a1 % 40)) e0 (by omega)
      have hne : ¬ (3 + a1 % 40 = 0) := by omega
      obtain ⟨v, hv1, hv2⟩ := HV.out
      have HV1 := Aside0.mk hv1
      have HV2 := Aside0.mk hv2
      clear hv1 hv2 HV
      have HSZ := Aside0.mk HW.out.size
      have HMU : Aside0 (makeUpto a1 l0 (k + 1) = insE (makeUpto a1 l0 k) (entryOf a1 k n)) := ⟨by rw [makeUpto, ← HQ.out]⟩
      have HMAY := Aside0.mk (may_entryOf a1 k n n0 n1 hn2 hn3 (by omega))
      by_cases h7 : n % 7 = 0
      case' pos =>
        have HE : Aside0 (entryOf a1 k n = ⟨⟨(⟨#[107, 101, 121]⟩ : ByteArray) ++ digs (n % (3 + a1 % 40)), 1 + (k : Int), 2⟩, ⟨#[]⟩⟩) := ⟨by unfold entryOf; rw [if_pos h7, if_pos h7]⟩
      case' neg =>
        have HE : Aside0 (entryOf a1 k n = ⟨⟨(⟨#[107, 101, 121]⟩ : ByteArray) ++ digs (n % (3 + a1 % 40)), 1 + (k : Int), 1⟩, digs n⟩) := ⟨by unfold entryOf; rw [if_neg h7, if_neg h7]⟩
        have h7' : (n % 7 == 0) = false := beq_eq_false_iff_ne.mpr h7
      all_goals
        rw [HE.out] at HMU HMAY
        go_wp2_with (first | (go_at_call 20; (with_reducible refine (iceboxref1_Digits.calls 4 _ _ _ HD1.out).mono ?_); rintro en w2 ⟨rfl, hb2⟩) | (go_at_call 20; (with_reducible refine (iceboxref1_Digits.calls 4 _ _ _ HD2.out).mono ?_); rintro en w3 ⟨rfl, hb3⟩) | (go_at_call 21; (with_reducible refine (add_calls2 _ _ _ _ w.heap.size w.heap.size v (makeUpto a1 l0 k) _ (blk_alloc (blk_below (blk_below HV1.out hb2) hb3) _) (Kd.R_alloc (Kd.R_below (Kd.R_below HV2.out hb2) hb3) _) (Nat.le_refl _) (by rw [makeUpto_length]; omega) HMAY.out (fun x hx => by have := makeUpto_seq a1 l0 k x hx; omega)).mono ?_); rintro en w4 ⟨v4, rfl, hg4, hr4, hb4⟩; have HG4 := Aside0.mk hg4; have HR4 := Aside0.mk hr4; have HB4 := Aside0.mk ((((HW.out.trans (hb2.mono HW.out.size)).trans (hb3.mono (by have := HW.out.size; have := hb2.size; omega))).alloc (by have := HW.out.size; have := hb2.size; have := hb3.size; omega) _).trans hb4); clear hg4 hr4 hb4 hb2 hb3))
        go_roundw
        case rel => exact ⟨k + 1, by omega, by go_num, ⟨_, HG4.out, by rw [HMU.out]; exact HR4.out⟩, HB4⟩
        case measure => simp [intOf]; omega
    · obtain rfl : k = l0.length := by omega
      obtain ⟨v, hv1, hv2⟩ := HV.out
      rw [H.out] at hv2
      obtain ⟨A, c, rfl⟩ := Kd.R_slice hv2
      have hc : wr.cell? ⟨w.heap.size, 0, none⟩ = some (.slice A r.length c) := (blk_cell hv1 0).trans rfl
      have HR2 := Aside0.mk hv2
      clear HV hv1 hv2
      go_wp2
      go_ret
      exact ⟨_, rfl, Kd.R_mono HR2.out (fun _ _ => trivial), HW.out⟩
end Go.Proofs.Ytanlecnnfoapeaa.P
