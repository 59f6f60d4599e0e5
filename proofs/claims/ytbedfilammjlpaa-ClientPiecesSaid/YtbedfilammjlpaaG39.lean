/- ClientPieces: the walk. -/
import Derived.Test.YtbedfilammjlpaaG37
namespace Go.Proofs.Ytbedfilammjlpaa.P
open Go.RowKit Go.Proofs.YtbedfilammjlpaaW.PrintWords Go.Proofs.YtbedfilammjlpaaW.PrintMore Go.Maps Go.WideMaps
set_option linter.unusedVariables false
theorem str_app (a b : List Int) : strOfNums a ++ strOfNums b = strOfNums (a ++ b) := by
  apply bytes_eq
  simp [strOfNums, ByteArray.append_eq, ByteArray.data_append]
theorem get_in (s d : ByteArray) (c at_ n : Int) (h0 : 0 ≤ at_) (h1 : at_ ≤ (d.size : Int)) (h2 : 0 ≤ n) : getF (oneO s d [] c) s at_ n = (cutF (bytesOf d) at_ n, 0, oneO s d [] (wrap64 (c + 1))) := by
  have he : getE [(s, d)] s at_ n = 0 := by
    unfold getE
    rw [find_one]
    dsimp only
    rw [if_neg (by omega), if_neg (by omega), if_neg (by omega)]
  have h : toldF (oneO s d [] c).out (getE (oneO s d [] c).l s at_ n) = 0 := by
    show toldF 0 (getE [(s, d)] s at_ n) = 0
    rw [he]; rfl
  rw [getF_tells h]
  show (cutF (bytesOf ((findO [(s, d)] s).getD ByteArray.empty)) at_ n, 0, _) = _
  rw [find_one, Option.getD_some]
  rfl
theorem piece_in (s d : ByteArray) (c at_ n : Int) (h0 : 0 ≤ at_) (h1 : at_ ≤ (d.size : Int)) (h2 : 0 ≤ n) : ∃ c', pieceF (oneO s d [] c) s at_ n = (cutF (bytesOf d) at_ n, 0, oneO s d [] c') :=
  piece_tries s d at_ n _ 0 (by decide) (fun c => get_in s d c at_ n h0 h1 h2) [] 3 c (fun _ h => absurd h (by simp)) (by simp)
theorem piece_off (s d : ByteArray) (c at_ n : Int) (h1 : (d.size : Int) < at_) : ∃ c', pieceF (oneO s d [] c) s at_ n = ([], 1, oneO s d [] c') := by
  refine piece_tries s d at_ n _ 1 (by decide) (fun c => ?_) [] 3 c (fun _ h => absurd h (by simp)) (by simp)
  have he : getE [(s, d)] s at_ n = 1 := by
    unfold getE
    rw [find_one]
    dsimp only
    rw [if_neg (by omega), if_pos (by omega)]
  have h : toldF (oneO s d [] c).out (getE (oneO s d [] c).l s at_ n) = 1 := by
    show toldF 0 (getE [(s, d)] s at_ n) = 1
    rw [he]; rfl
  rw [getF_not (by rw [h]; decide), h]; rfl
theorem piece_none (s t d : ByteArray) (ht : s ≠ t) (c at_ n : Int) : ∃ c', pieceF (oneO s d [] c) t at_ n = ([], 2, oneO s d [] c') := by
  have hf : findO [(s, d)] t = none := by rw [findO_cons, if_neg ht]; rfl
  have he : getE [(s, d)] t at_ n = 2 := by unfold getE; rw [hf]
  have h : toldF (oneO s d [] c).out (getE (oneO s d [] c).l t at_ n) = 2 := by
    show toldF 0 (getE [(s, d)] t at_ n) = 2
    rw [he]; rfl
  refine ⟨wrap64 (c + 1), ?_⟩
  unfold pieceF
  have e : getF (oneO s d [] c) t at_ n = ([], 2, oneO s d [] (wrap64 (c + 1))) := by rw [getF_not (by rw [h]; decide), h]; rfl
  rw [tries_done (f := fun st => getF st t at_ n) (by rw [e]; simp), e]
theorem take_cut (xs : List Int) (k n : Nat) (hk : k ≤ xs.length) : xs.take k ++ cutF xs (k : Int) (n : Int) = xs.take (k + n) := by
  unfold cutF mn
  have e : ((k : Int) + if (xs.length : Int) - (k : Int) < (n : Int) then (xs.length : Int) - (k : Int) else (n : Int)).toNat = min xs.length (k + n) := by split <;> omega
  rw [e, Int.toNat_natCast]
  have h2 : xs.take (k + n) = xs.take (min xs.length (k + n)) := by
    by_cases hc : k + n ≤ xs.length
    · rw [Nat.min_eq_right hc]
    · rw [Nat.min_eq_left (by omega), List.take_of_length_le (by omega), List.take_of_length_le (Nat.le_refl _)]
  rw [h2]
  have h3 : xs.take k = (xs.take (min xs.length (k + n))).take k := by rw [List.take_take, Nat.min_eq_left (by omega)]
  rw [h3, List.take_append_drop]
theorem cut_len (xs : List Int) (a n : Int) : (cutF xs a n).length ≤ xs.length := by
  unfold cutF
  rw [List.length_drop, List.length_take]
  omega
section
variable (W : World) (A : Option Addr) (c1 : Nat) (xs : List Int) (sz : Int)
set_option maxRecDepth 100000 in
theorem clientPieces_great (hg : 400 < (xs.length : Int)) : Calls Try.prog 6 #[.slice A xs.length c1, .int .u8 sz] W fun e w' => e = .returned (.bool true) ∧ Below W.heap.size W w' := by
  go_enter Try.func6, Try.ntmps6
  go_wp2_with fail
  refine (awake6_calls _).mono ?_
  rintro _ w1 ⟨rfl, hb⟩
  go_wp2_with fail
  go_ret
  exact ⟨rfl, hb⟩
set_option maxRecDepth 100000 in
theorem clientPieces_some (ha : Kd.C (Kd.int .u8) W A xs.length xs) (hab : Bts xs) (h1 : xs.length ≤ 400) (hb : 0 ≤ sz ∧ sz ≤ 255) : Calls Try.prog 6 #[.slice A xs.length c1, .int .u8 sz] W fun e w' => e = .returned (.bool true) ∧ Below W.heap.size W w' := by
  have HA := Aside0.mk ha
  have HAB := Aside0.mk hab
  obtain ⟨n, en, hn1, hn2⟩ : ∃ n : Nat, wrap64 (1 + wrap64 sz) = (n : Int) ∧ 1 ≤ n ∧ n ≤ 256 := ⟨(1 + sz).toNat, by unfold wrap64; omega, by omega, by omega⟩
  clear ha hab hb
  go_enter Try.func6, Try.ntmps6
  go_wp2_with fail
  refine (lp_new _).mono ?_
  rintro _ w1 ⟨g, m, rfl, h⟩
  have H1 : Aside0 (LawP W w1 g m 0 (noO [] 0)) := ⟨h⟩
  clear h
  go_wp2_with fail
  obtain ⟨k1, hu⟩ := up_no nmO (strOfNums xs) named_o (by rw [size_strOfNums]; omega) (str_bytes HAB.out) [] 0 bad_nil (by decide)
  refine (lp_up H1.out nmO (by decide) A c1 xs (by omega) HAB.out (by decide) (H1.out.row HA.out)).mono ?_
  rw [show (upF (noO [] 0) nmO (strOfNums xs)).1 = 0 by rw [hu], show (upF (noO [] 0) nmO (strOfNums xs)).2 = oneO nmO (strOfNums xs) [] k1 by rw [hu]]
  rintro _ w2 ⟨rfl, h, _⟩
  have H2 := Aside0.mk h
  clear h hu
  go_wp2_with fail
  rw [en]
  go_loopw [7, 8] (fun a i wr => ∃ (k : Nat) (c : Int), k ≤ 1000 ∧ a = .string (strOfNums (xs.take k)) ∧ i = .int .i64 k ∧ Aside0 (LawP W wr g m 4 (oneO nmO (strOfNums xs) [] c))) (fun _ i _ => xs.length - (intOf i).toNat)
  case atStart => exact ⟨0, k1, by omega, rfl, rfl, H2⟩
  case round =>
    clear H2
    obtain ⟨k, c, hk, rfl, rfl, HK⟩ := hrel
    by_cases hlt : k < xs.length
    · obtain ⟨c', hp⟩ := piece_in nmO (strOfNums xs) c (k : Int) (n : Int) (by omega) (by rw [size_strOfNums]; omega) (by omega)
      rw [bytesOf_strOfNums HAB.out] at hp
      go_wp2_with fail
      refine (lp_piece HK.out nmO (by decide) (k : Int) (n : Int)).mono ?_
      rw [hp]
      rintro _ w3 ⟨A3, c3, rfl, _, hl, h, _⟩
      have H3 := Aside0.mk h
      have hcv := Kd.C_string (P := Try.prog) (src := 22) (dst := 9) (c := c3) Try.underlying22 Try.underlying5 Try.underlying9 hl.now
      have hsz : ¬ 9223372036854775807 < (strOfNums (xs.take k)).size + (strOfNums (cutF xs (k : Int) (n : Int))).size := by
        rw [size_strOfNums, size_strOfNums, List.length_take]
        have := cut_len xs (k : Int) (n : Int)
        omega
      clear h hl hp
      go_wp2_with fail
      refine (num2_calls _ _).mono ?_
      rintro _ _ ⟨rfl, rfl⟩
      go_wp2_with fail
      go_roundw
      case rel => exact ⟨k + n, c', by omega, by rw [← take_cut xs k n (by omega), ← str_app], by go_num, H3⟩
      case measure => simp [intOf]; omega
    · obtain ⟨c', hp⟩ := piece_off nmO (strOfNums xs) c ((xs.length : Int) + 1) 1 (by rw [size_strOfNums]; omega)
      have hall : strOfNums (xs.take k) = strOfNums xs := by rw [List.take_of_length_le (by omega)]
      rw [hall]
      go_wp2_with fail
      refine (lp_piece HK.out nmO (by decide) ((xs.length : Int) + 1) 1).mono ?_
      rw [hp]
      rintro _ w3 ⟨A3, c3, rfl, _, _, h, _⟩
      have H3 := Aside0.mk h
      clear h hp hall
      obtain ⟨c4, hp⟩ := piece_none nmO nmP (strOfNums xs) (by decide) c' 0 1
      go_wp2_with fail
      refine (lp_piece H3.out nmP (by decide) 0 1).mono ?_
      rw [hp]
      rintro _ w4 ⟨A4, c4, rfl, _, _, h, _⟩
      have H4 := Aside0.mk h
      have hcv := Kd.C_string (P := Try.prog) (src := 22) (dst := 9) (c := c1) Try.underlying22 Try.underlying5 Try.underlying9 (Kd.C_below HA.out H4.out.bel)
      clear h hp
      go_wp2_with fail
      refine (num2_calls _ _).mono ?_
      rintro _ _ ⟨rfl, rfl⟩
      go_wp2_with fail
      refine (num2_calls _ _).mono ?_
      rintro _ _ ⟨rfl, rfl⟩
      go_wp2_with fail
      refine (lp_awake6 H4.out).mono ?_
      rintro _ w5 ⟨rfl, h⟩
      have H5 := Aside0.mk h
      clear h hcv
      go_wp2_with fail
      go_ret
      exact ⟨rfl, H5.out.bel⟩
theorem clientPieces_all (ha : Kd.C (Kd.int .u8) W A xs.length xs) (hab : Bts xs) (hb : 0 ≤ sz ∧ sz ≤ 255) : Calls Try.prog 6 #[.slice A xs.length c1, .int .u8 sz] W fun e w' => e = .returned (.bool true) ∧ Below W.heap.size W w' := by
  by_cases h : xs.length ≤ 400
  · exact clientPieces_some W A c1 xs sz ha hab h hb
  · exact clientPieces_great W A c1 xs sz (by omega)
end
end Go.Proofs.Ytbedfilammjlpaa.P
