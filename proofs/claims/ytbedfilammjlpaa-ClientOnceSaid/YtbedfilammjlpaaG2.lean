/- What is a name: both texts ask the same. -/
import Derived.Test.YtbedfilammjlpaaG0
import Derived.Test.YtbedfilammjlpaaPx2
import Derived.Test.YtbedfilammjlpaaPx3
namespace Go.Proofs.Ytbedfilammjlpaa.P
open Go.RowKit Go.Proofs.YtbedfilammjlpaaW.PrintWords Go.Proofs.YtbedfilammjlpaaW.PrintMore
set_option linter.unusedVariables false
theorem nameB_iff (c : UInt8) : nameB c = true ↔ (97 ≤ (c.toNat : Int) ∧ (c.toNat : Int) ≤ 122) ∨ (48 ≤ (c.toNat : Int) ∧ (c.toNat : Int) ≤ 57) ∨ (c.toNat : Int) = 45 ∨ (c.toNat : Int) = 46 := by
  unfold nameB
  simp only [Bool.or_eq_true, Bool.and_eq_true, decide_eq_true_eq, UInt8.le_iff_toNat_le, beq_iff_eq, ← UInt8.toNat_inj]
  have e1 : (97 : UInt8).toNat = 97 := rfl
  have e2 : (122 : UInt8).toNat = 122 := rfl
  have e3 : (48 : UInt8).toNat = 48 := rfl
  have e4 : (57 : UInt8).toNat = 57 := rfl
  have e5 : (45 : UInt8).toNat = 45 := rfl
  have e6 : (46 : UInt8).toNat = 46 := rfl
  rw [e1, e2, e3, e4, e5, e6]
  omega
theorem drop_all (s : ByteArray) (i : Nat) (hi : i < s.size) : ∃ c : UInt8, bt s (i : Int) = (c.toNat : Int) ∧ (s.data.toList.drop i).all nameB = (nameB c && (s.data.toList.drop (i + 1)).all nameB) := by
  have hl : i < s.data.toList.length := by rw [data_length]; exact hi
  refine ⟨s.data.toList[i], ?_, by rw [List.drop_eq_getElem_cons hl, List.all_cons]⟩
  have : i = (i : Int).toNat := by omega
  unfold bt
  rw [dif_pos (by simpa using hi)]
  simp
  rfl
theorem wrap_up {i : Int} {n : Nat} (h0 : 0 ≤ i) (h : i < (n : Int)) (hn : n ≤ 9223372036854775807) : wrap64 (i + 1) = i + 1 := by
  unfold wrap64
  omega
theorem dNamed_loop (s : ByteArray) (hn : s.size ≤ 9223372036854775807) (d : Nat) : ∀ (k i : Nat), i + d = s.size → d < k → disk_Named.l0 k s (s.size : Int) (i : Int) = some ((s.data.toList.drop i).all nameB) := by
  induction d with
  | zero =>
    intro k i hd hk
    obtain ⟨k, rfl⟩ : ∃ m, k = m + 1 := ⟨k - 1, by omega⟩
    simp only [disk_Named.l0]
    rw [if_neg (by omega), List.drop_eq_nil_of_le (by rw [data_length]; omega)]
    rfl
  | succ d ih =>
    intro k i hd hk
    obtain ⟨k, rfl⟩ : ∃ m, k = m + 1 := ⟨k - 1, by omega⟩
    obtain ⟨c, hc, ha⟩ := drop_all s i (by omega)
    have hw := wrap_up (i := (i : Int)) (n := s.size) (by omega) (by omega) hn
    have hi := ih k (i + 1) (by omega) (by omega)
    have hi' : disk_Named.l0 k s (s.size : Int) ((i : Int) + 1) = some ((s.data.toList.drop (i + 1)).all nameB) := hi
    simp only [disk_Named.l0]
    rw [if_pos (by omega), if_pos (by omega), if_pos (by omega), hw, hi', hc, ha]
    have hb := nameB_iff c
    by_cases hn : nameB c = true
    · have h2 := hb.1 hn
      rw [hn, Bool.true_and]
      repeat' first
        | rfl
        | (exfalso; omega)
        | split
    · have h2 : ¬ _ := fun h => hn (hb.2 h)
      rw [Bool.not_eq_true] at hn
      rw [hn, Bool.false_and]
      repeat' first
        | rfl
        | (exfalso; omega)
        | split
theorem dNamed_is (s : ByteArray) (hn : s.size ≤ 9223372036854775807) : ∃ k, disk_Named.f k s = some (named s) := by
  refine ⟨s.size + 2, ?_⟩
  unfold disk_Named.f named
  by_cases h1 : (s.size : Int) < 1
  · rw [if_pos h1]
    simp only [disk_Named.j0]
    rw [if_pos trivial, decide_eq_false (show ¬ 1 ≤ s.size by omega)]
    simp
  · rw [if_neg h1]
    simp only [disk_Named.j0]
    by_cases h2 : (s.size : Int) > 40
    · rw [decide_eq_true h2, if_pos rfl, decide_eq_false (show ¬ s.size ≤ 40 by omega)]
      simp
    · rw [decide_eq_false h2, if_neg (by simp), decide_eq_true (show s.size ≤ 40 by omega), decide_eq_true (show 1 ≤ s.size by omega)]
      have := dNamed_loop s hn s.size (s.size + 1) 0 (by omega) (by omega)
      simp only [Int.ofNat_zero, List.drop_zero] at this
      rw [this]
      simp
theorem rNamed_loop (s : ByteArray) (hn : s.size ≤ 9223372036854775807) (d : Nat) : ∀ (k i : Nat), i + d = s.size → d < k → iceboxref4_Named.l0 k s (i : Int) = some ((s.data.toList.drop i).all nameB && decide (1 ≤ s.size) && decide (s.size ≤ 40)) := by
  induction d with
  | zero =>
    intro k i hd hk
    obtain ⟨k, rfl⟩ : ∃ m, k = m + 1 := ⟨k - 1, by omega⟩
    simp only [iceboxref4_Named.l0]
    rw [if_neg (by omega), List.drop_eq_nil_of_le (by rw [data_length]; omega)]
    by_cases h : 1 ≤ s.size
    · rw [if_pos (by omega)]
      simp [h]
      omega
    · rw [if_neg (by omega)]
      simp [h]
  | succ d ih =>
    intro k i hd hk
    obtain ⟨k, rfl⟩ : ∃ m, k = m + 1 := ⟨k - 1, by omega⟩
    obtain ⟨c, hc, ha⟩ := drop_all s i (by omega)
    have hw := wrap_up (i := (i : Int)) (n := s.size) (by omega) (by omega) hn
    have hi := ih k (i + 1) (by omega) (by omega)
    have hi' : iceboxref4_Named.l0 k s ((i : Int) + 1) = some ((s.data.toList.drop (i + 1)).all nameB && decide (1 ≤ s.size) && decide (s.size ≤ 40)) := hi
    simp only [iceboxref4_Named.l0]
    rw [if_pos (by omega), if_pos (by omega), hw, hi', hc, ha]
    have hb := nameB_iff c
    by_cases hn : nameB c = true
    · have h2 := hb.1 hn
      rw [hn, Bool.true_and]
      repeat' first
        | rfl
        | (exfalso; omega)
        | split
    · have h2 : ¬ _ := fun h => hn (hb.2 h)
      rw [Bool.not_eq_true] at hn
      rw [hn, Bool.false_and, Bool.false_and, Bool.false_and]
      repeat' first
        | rfl
        | (exfalso; omega)
        | split
theorem rNamed_is (s : ByteArray) (hn : s.size ≤ 9223372036854775807) : ∃ k, iceboxref4_Named.f k s = some (named s) := by
  refine ⟨s.size + 1, ?_⟩
  unfold iceboxref4_Named.f named
  have := rNamed_loop s hn s.size (s.size + 1) 0 (by omega) (by omega)
  rw [List.drop_zero] at this
  exact this
theorem dNamed_calls (s : ByteArray) (hs : s.size ≤ maxLen) (w : World) : Calls Try.prog 39 #[.string s] w fun e w' => e = .returned (.bool (named s)) ∧ Drawn0 w w' := by
  obtain ⟨k, hk⟩ := dNamed_is s (by unfold maxLen at hs; omega)
  exact (disk_Named.calls k s _ w hk).mono fun e w' h => by
    obtain ⟨h1, h2⟩ := h
    exact ⟨h1, h2⟩
theorem rNamed_calls (s : ByteArray) (hs : s.size ≤ maxLen) (w : World) : Calls Try.prog 65 #[.string s] w fun e w' => e = .returned (.bool (named s)) ∧ Drawn0 w w' := by
  obtain ⟨k, hk⟩ := rNamed_is s (by unfold maxLen at hs; omega)
  exact (iceboxref4_Named.calls k s _ w hk).mono fun e w' h => by
    obtain ⟨h1, h2⟩ := h
    exact ⟨h1, h2⟩
theorem told_calls (a b : Int) (w : World) : Calls Try.prog 67 #[.int .i64 a, .int .i64 b] w fun e w' => e = .returned (.int .i64 (toldF a b)) ∧ Drawn0 w w' := by
  refine (iceboxref4_told.calls a b (toldF a b) w ?_).mono fun e w' h => ?_
  · unfold iceboxref4_told.f toldF
    repeat' first | rfl | split
  · exact h
/-! ### the lists that the laws compare -/
theorem texts_loop (l r : List ByteArray) (hl : l.length = r.length) (hn : l.length ≤ 9223372036854775807) (d : Nat) : ∀ (k i : Nat), i + d = l.length → d < k → l.drop i = r.drop i → iceboxref1_Texts.l0 k l r (i : Int) = some true := by
  induction d with
  | zero =>
    intro k i hd hk _
    obtain ⟨k, rfl⟩ : ∃ m, k = m + 1 := ⟨k - 1, by omega⟩
    simp only [iceboxref1_Texts.l0]
    rw [if_neg (by omega)]
  | succ d ih =>
    intro k i hd hk he
    obtain ⟨k, rfl⟩ : ∃ m, k = m + 1 := ⟨k - 1, by omega⟩
    have hw := wrap_up (i := (i : Int)) (n := l.length) (by omega) (by omega) hn
    have h1 : i < l.length := by omega
    have h2 : i < r.length := by omega
    rw [List.drop_eq_getElem_cons h1, List.drop_eq_getElem_cons h2] at he
    injection he with e1 e2
    simp only [iceboxref1_Texts.l0]
    rw [if_pos (by omega), if_pos (by omega), if_pos (by omega), hw, if_pos (by simp [rdOf, List.getElem?_eq_getElem h1, List.getElem?_eq_getElem h2, e1])]
    exact ih k (i + 1) (by omega) (by omega) e2
theorem texts_same (l : List ByteArray) (hn : l.length ≤ 9223372036854775807) : ∃ k, iceboxref1_Texts.f k l l = some true := by
  refine ⟨l.length + 1, ?_⟩
  unfold iceboxref1_Texts.f
  rw [if_pos rfl]
  exact texts_loop l l rfl hn l.length (l.length + 1) 0 (by omega) (by omega) rfl
theorem files_loop (l : List S58) (hn : l.length ≤ 9223372036854775807) (d : Nat) : ∀ (k i : Nat), i + d = l.length → d < k → iceboxref4_SameFiles.l0 k l l (i : Int) = some true := by
  induction d with
  | zero =>
    intro k i hd hk
    obtain ⟨k, rfl⟩ : ∃ m, k = m + 1 := ⟨k - 1, by omega⟩
    simp only [iceboxref4_SameFiles.l0]
    rw [if_neg (by omega)]
  | succ d ih =>
    intro k i hd hk
    obtain ⟨k, rfl⟩ : ∃ m, k = m + 1 := ⟨k - 1, by omega⟩
    have hw := wrap_up (i := (i : Int)) (n := l.length) (by omega) (by omega) hn
    simp only [iceboxref4_SameFiles.l0]
    rw [if_pos (by omega), if_pos (by omega), if_pos (by omega), hw, if_neg (by simp)]
    exact ih k (i + 1) (by omega) (by omega)
theorem files_same (l : List S58) (hn : l.length ≤ 9223372036854775807) : ∃ k, iceboxref4_SameFiles.f k l l = some true := by
  refine ⟨l.length + 1, ?_⟩
  unfold iceboxref4_SameFiles.f
  rw [if_pos rfl]
  exact files_loop l hn l.length (l.length + 1) 0 (by omega) (by omega)
end Go.Proofs.Ytbedfilammjlpaa.P
