/- ClientOther: the walk. -/
import Derived.Test.YtbedfilammjlpaaG35
import Derived.Test.YtbedfilammjlpaaG17
namespace Go.Proofs.Ytbedfilammjlpaa.P
open Go.RowKit Go.Proofs.YtbedfilammjlpaaW.PrintWords Go.Proofs.YtbedfilammjlpaaW.PrintMore Go.Maps Go.WideMaps
set_option linter.unusedVariables false
theorem bad_nil : Bad [] := fun _ h => absurd h (by simp)
section
variable (W : World) (A B : Option Addr) (c1 c2 : Nat) (xs bs : List Int)
theorem other_guard {la lb : Nat} (h : ¬ (la ≤ 300 ∧ lb ≤ 300)) : (300 < (la : Int)) ∨ (¬ 300 < (la : Int) ∧ 300 < (lb : Int)) := by omega
set_option maxRecDepth 100000 in
theorem clientOther_great (hg : ¬ (xs.length ≤ 300 ∧ bs.length ≤ 300)) : Calls Try.prog 5 #[.slice A xs.length c1, .slice B bs.length c2] W fun e w' => e = .returned (.bool true) ∧ Below W.heap.size W w' := by
  rcases other_guard hg with q1 | ⟨q1, q2⟩
  all_goals
    clear hg
    go_enter Try.func5, Try.ntmps5
    go_wp2_with fail
    refine (awake6_calls _).mono ?_
    rintro _ w1 ⟨rfl, hb⟩
    go_wp2_with fail
    go_ret
    exact ⟨rfl, hb⟩
set_option maxRecDepth 100000 in
theorem clientOther_some (ha : Kd.C (Kd.int .u8) W A xs.length xs) (hb : Kd.C (Kd.int .u8) W B bs.length bs) (hab : Bts xs) (hbb : Bts bs) (h1 : xs.length ≤ 300) (h2 : bs.length ≤ 300) : Calls Try.prog 5 #[.slice A xs.length c1, .slice B bs.length c2] W fun e w' => e = .returned (.bool true) ∧ Below W.heap.size W w' := by
  have HA := Aside0.mk ha
  have HB := Aside0.mk hb
  have HAB := Aside0.mk hab
  have HBB := Aside0.mk hbb
  clear ha hb hab hbb
  go_enter Try.func5, Try.ntmps5
  go_wp2_with fail
  refine (lp_new _).mono ?_
  rintro _ w1 ⟨g, m, rfl, h⟩
  have H1 : Aside0 (LawP W w1 g m 0 (noO [] 0)) := ⟨h⟩
  clear h
  go_wp2_with fail
  obtain ⟨k1, hu⟩ := up_no nmO (strOfNums xs) named_o (by rw [size_strOfNums]; omega) (str_bytes HAB.out) [] 0 bad_nil (by decide)
  refine (lp_up H1.out nmO (by decide) A c1 xs (by omega) HAB.out (by decide) (H1.out.row HA.out)).mono ?_
  rw [hu]
  rintro _ w2 ⟨rfl, h, _⟩
  have H2 := Aside0.mk h
  clear h hu
  go_wp2_with fail
  obtain ⟨k2, hu⟩ := up_one nmO (strOfNums xs) (strOfNums bs) named_o (by rw [size_strOfNums]; omega) [] k1 bad_nil (by decide)
  rw [str_bytes HAB.out] at hu
  refine (lp_up H2.out nmO (by decide) B c2 bs (by omega) HBB.out (by decide) (H2.out.row HB.out)).mono ?_
  rw [hu]
  rintro _ w3 ⟨rfl, h, _⟩
  have H3 := Aside0.mk h
  clear h hu
  obtain ⟨k3, hp⟩ := piece_one nmO (strOfNums xs) 1048576 (by rw [size_strOfNums]; omega) [] k2 bad_nil (by decide)
  rw [bytesOf_strOfNums HAB.out] at hp
  have HP := Aside0.mk hp
  clear hp
  by_cases he : strOfNums xs = strOfNums bs
  · rw [if_pos he]
    have HE := Aside0.mk he
    clear he
    go_wp2_with fail
    refine (lp_down H3.out nmO (by decide)).mono ?_
    rw [HP.out]
    rintro _ w4 ⟨A4, c4, rfl, _, hl, h, _⟩
    have H4 := Aside0.mk h
    have hcv1 := Kd.C_string (P := Try.prog) (src := 22) (dst := 9) (c := c1) Try.underlying22 Try.underlying5 Try.underlying9 (Kd.C_below HA.out H4.out.bel)
    have hcv2 := Kd.C_string (P := Try.prog) (src := 22) (dst := 9) (c := c2) Try.underlying22 Try.underlying5 Try.underlying9 (Kd.C_below HB.out H4.out.bel)
    have hcv3 := Kd.C_string (P := Try.prog) (src := 22) (dst := 9) (c := c4) Try.underlying22 Try.underlying5 Try.underlying9 hl.now
    rw [← HE.out] at hcv2
    clear h hl
    go_wp2_with fail
    refine (num2_calls _ _).mono ?_
    rintro _ _ ⟨rfl, rfl⟩
    go_wp2_with fail
    refine (num2_calls _ _).mono ?_
    rintro _ _ ⟨rfl, rfl⟩
    go_wp2_with fail
    refine (num2_calls _ _).mono ?_
    rintro _ _ ⟨rfl, rfl⟩
    go_wp2_with fail
    refine (lp_awake6 H4.out).mono ?_
    rintro _ w9 ⟨rfl, h⟩
    have H9 := Aside0.mk h
    clear h hcv1 hcv2 hcv3
    go_wp2_with fail
    go_ret
    exact ⟨rfl, H9.out.bel⟩
  · rw [if_neg he]
    have hb : ((strOfNums xs).toList == (strOfNums bs).toList) = false := file_ne he
    clear he
    go_wp2_with fail
    refine (lp_down H3.out nmO (by decide)).mono ?_
    rw [HP.out]
    rintro _ w4 ⟨A4, c4, rfl, _, hl, h, _⟩
    have H4 := Aside0.mk h
    have hcv1 := Kd.C_string (P := Try.prog) (src := 22) (dst := 9) (c := c1) Try.underlying22 Try.underlying5 Try.underlying9 (Kd.C_below HA.out H4.out.bel)
    have hcv2 := Kd.C_string (P := Try.prog) (src := 22) (dst := 9) (c := c2) Try.underlying22 Try.underlying5 Try.underlying9 (Kd.C_below HB.out H4.out.bel)
    have hcv3 := Kd.C_string (P := Try.prog) (src := 22) (dst := 9) (c := c4) Try.underlying22 Try.underlying5 Try.underlying9 hl.now
    clear h hl
    go_wp2_with fail
    refine (num2_calls _ _).mono ?_
    rintro _ _ ⟨rfl, rfl⟩
    go_wp2_with fail
    refine (num2_calls _ _).mono ?_
    rintro _ _ ⟨rfl, rfl⟩
    go_wp2_with fail
    refine (num2_calls _ _).mono ?_
    rintro _ _ ⟨rfl, rfl⟩
    go_wp2_with fail
    refine (num2_calls _ _).mono ?_
    rintro _ _ ⟨rfl, rfl⟩
    go_wp2_with fail
    refine (lp_awake6 H4.out).mono ?_
    rintro _ w9 ⟨rfl, h⟩
    have H9 := Aside0.mk h
    clear h hcv1 hcv2 hcv3
    go_wp2_with fail
    go_ret
    exact ⟨rfl, H9.out.bel⟩
theorem clientOther_all (ha : Kd.C (Kd.int .u8) W A xs.length xs) (hb : Kd.C (Kd.int .u8) W B bs.length bs) (hab : Bts xs) (hbb : Bts bs) : Calls Try.prog 5 #[.slice A xs.length c1, .slice B bs.length c2] W fun e w' => e = .returned (.bool true) ∧ Below W.heap.size W w' := by
  by_cases h : xs.length ≤ 300 ∧ bs.length ≤ 300
  · exact clientOther_some W A B c1 c2 xs bs ha hb hab hbb h.1 h.2
  · exact clientOther_great W A B c1 c2 xs bs h
end
end Go.Proofs.Ytbedfilammjlpaa.P
