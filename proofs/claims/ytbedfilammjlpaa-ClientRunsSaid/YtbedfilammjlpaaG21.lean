/- FarKeeps: the walk. -/
import Derived.Test.YtbedfilammjlpaaG19
namespace Go.Proofs.Ytbedfilammjlpaa.P
open Go.RowKit Go.Proofs.YtbedfilammjlpaaW.PrintWords Go.Proofs.YtbedfilammjlpaaW.PrintMore Go.Maps Go.WideMaps
set_option linter.unusedVariables false
theorem put_one_any (s d d' : ByteArray) (hn : named s = true) (nx : List Int) (c : Int) : (putF (oneO s d nx c) s d').2 = oneO s d nx.tail (wrap64 (c + 1)) := by rw [putF_taken hn (find_one s d)]; rfl
theorem get_one0 (s d : ByteArray) (c n : Int) (hd : (d.size : Int) ≤ n) : getF (oneO s d [] c) s 0 n = (bytesOf d, 0, oneO s d [] (wrap64 (c + 1))) := by
  have he : getE [(s, d)] s 0 n = 0 := by
    unfold getE
    rw [find_one]
    dsimp only
    rw [if_neg (by omega), if_neg (by omega), if_neg (by omega)]
  have h : toldF (oneO s d [] c).out (getE (oneO s d [] c).l s 0 n) = 0 := by
    show toldF 0 (getE [(s, d)] s 0 n) = 0
    rw [he]; rfl
  rw [getF_tells h]
  show (cutF (bytesOf ((findO [(s, d)] s).getD ByteArray.empty)) 0 n, 0, _) = _
  rw [find_one, Option.getD_some]
  have hc : cutF (bytesOf d) 0 n = bytesOf d := by
    unfold cutF mn
    rw [bytesOf_length]
    have : ((0 : Int) + if (d.size : Int) - 0 < n then (d.size : Int) - 0 else n).toNat = d.size := by split <;> omega
    rw [this, List.take_of_length_le (by rw [bytesOf_length]; omega)]
    simp
  rw [hc]; rfl
theorem get_no0 (s : ByteArray) (c at_ n : Int) : getF (noO [] c) s at_ n = ([], 2, noO [] (wrap64 (c + 1))) := by
  rw [getF_not (by show toldF 0 2 ≠ 0; decide)]; rfl
theorem drop_one0 (s d : ByteArray) (c : Int) : dropF (oneO s d [] c) s = (0, noO [] (wrap64 (c + 1))) := by
  have e : dropE [(s, d)] s = 0 := by unfold dropE; rw [find_one]; rfl
  have e2 : dropO [(s, d)] s = [] := by rw [dropO_cons, if_pos rfl]
  rw [dropF_else (st := oneO s d [] c) (by show (0 : Int) ≠ 1; decide)]
  show (toldF 0 (dropE [(s, d)] s), if dropE [(s, d)] s = 0 then _ else _) = _
  rw [e, if_pos rfl]
  show (toldF 0 0, FS.mk (dropO [(s, d)] s) _ _) = _
  rw [e2]; rfl
section
variable {W w w' : World} {g m N : Nat} {st st' : FS}
theorem lps_drop (h : LawP W w g m N st) (s : ByteArray) (hs : s.size ≤ maxLen) :
    Calls Try.prog 17 #[.pointer (some ⟨g, 0, none⟩), .string s] w fun e w' => e = .returned (.int .i64 (dropF st s).1) ∧ LawP W w' g m N (dropF st s).2 ∧ Stp (GM g m) w w' :=
  (drop_calls h.far s hs).mono fun e w' ⟨h1, h2, h3⟩ => ⟨h1, h.step h2 h3, h3⟩
theorem lps_get (h : LawP W w g m N st) (s : ByteArray) (hs : s.size ≤ maxLen) (at_ n : Int) :
    Calls Try.prog 21 #[.pointer (some ⟨g, 0, none⟩), .string s, .int .i64 at_, .int .i64 n] w fun e w' => ∃ A c, e = .returned (.tuple #[.slice A (getF st s at_ n).1.length c, .int .i64 (getF st s at_ n).2.1]) ∧ (getF st s at_ n).1.length ≤ c ∧ Lives w' (GM g m) (Kd.int .u8) A (getF st s at_ n).1 ∧ LawP W w' g m N (getF st s at_ n).2.2 ∧ Stp (GM g m) w w' :=
  (get_calls h.far s hs at_ n).mono fun e w' ⟨A, c, h1, h2, h3, h4, h5⟩ => ⟨A, c, h1, h2, h3, h.step h4 h5, h5⟩
end
section
variable (W : World) (A B C : Option Addr) (c1 c2 c3 : Nat) (xs bs os : List Int)
theorem keeps_guard {la lb lo : Nat} (h : ¬ (la ≤ 300 ∧ lb ≤ 300 ∧ lo ≤ 20)) : (300 < (la : Int)) ∨ (¬ 300 < (la : Int) ∧ 300 < (lb : Int)) ∨ (¬ 300 < (la : Int) ∧ ¬ 300 < (lb : Int) ∧ 20 < (lo : Int)) := by omega
set_option maxRecDepth 100000 in
theorem farKeeps_great (hg : ¬ (xs.length ≤ 300 ∧ bs.length ≤ 300 ∧ os.length ≤ 20)) : Calls Try.prog 4 #[.slice A xs.length c1, .slice B bs.length c2, .slice C os.length c3] W fun e w' => e = .returned (.bool true) ∧ Below W.heap.size W w' := by
  rcases keeps_guard hg with q1 | ⟨q1, q2⟩ | ⟨q1, q2, q3⟩
  all_goals
    clear hg
    go_enter Try.func4, Try.ntmps4
    go_wp2_with fail
    refine (awake5_calls _).mono ?_
    rintro _ w1 ⟨rfl, hb⟩
    go_wp2_with fail
    go_ret
    exact ⟨rfl, hb⟩
set_option maxRecDepth 100000 in
theorem farKeeps_some (ha : Kd.C (Kd.int .u8) W A xs.length xs) (hb : Kd.C (Kd.int .u8) W B bs.length bs) (ho : Kd.C (Kd.int .i64) W C os.length os) (hab : Bts xs) (hbb : Bts bs) (h1 : xs.length ≤ 300) (h2 : bs.length ≤ 300) (h3 : os.length ≤ 20) : Calls Try.prog 4 #[.slice A xs.length c1, .slice B bs.length c2, .slice C os.length c3] W fun e w' => e = .returned (.bool true) ∧ Below W.heap.size W w' := by
  have HA := Aside0.mk ha
  have HB := Aside0.mk hb
  have HO := Aside0.mk ho
  have HAB := Aside0.mk hab
  have HBB := Aside0.mk hbb
  clear ha hb ho hab hbb
  go_enter Try.func4, Try.ntmps4
  go_wp2_with fail
  refine (lp_new _).mono ?_
  rintro _ w1 ⟨g, m, rfl, h⟩
  have H1 := Aside0.mk h
  clear h
  go_wp2_with fail
  refine (lp_put H1.out nmO (by decide) A c1 xs (by omega) HAB.out (by decide) HA.out).mono ?_
  rw [show FS.none = noO [] 0 from rfl, put_no0 _ _ named_o]
  rintro _ w2 ⟨rfl, h⟩
  have H2 := Aside0.mk h
  clear h
  go_wp2_with fail
  refine (lp_next H2.out C c3 os (H2.out.row HO.out) (by omega)).mono ?_
  rw [show FS.mk (oneO nmO (strOfNums xs) [] (wrap64 (0 + 1))).l os (oneO nmO (strOfNums xs) [] (wrap64 (0 + 1))).calls = oneO nmO (strOfNums xs) os (wrap64 (0 + 1)) from rfl]
  rintro _ w3 ⟨rfl, h⟩
  have H3 := Aside0.mk h
  clear h
  go_wp2_with fail
  go_loopw [9] (fun i wr => ∃ (k : Nat) (nx : List Int) (c : Int), k ≤ 10 ∧ i = .int .i64 k ∧ Aside0 (LawP W wr g m (1 + k) (oneO nmO (strOfNums xs) nx c))) (fun i _ => 10 - (intOf i).toNat)
  case atStart => exact ⟨0, os, _, by omega, rfl, H3⟩
  case round =>
    obtain ⟨k, nx, c, hk, rfl, HK⟩ := hrel
    by_cases hlt : k < 10
    · go_wp2_with fail
      refine (lp_put HK.out nmO (by decide) B c2 bs (by omega) HBB.out (by omega) HB.out).mono ?_
      rw [put_one_any _ _ _ named_o]
      rintro _ w4 ⟨rfl, h⟩
      have H4 := Aside0.mk h
      clear h
      go_wp2_with fail
      go_roundw
      case rel => exact ⟨k + 1, _, _, by omega, by go_num, H4⟩
      case measure => simp [intOf]; omega
    · obtain rfl : k = 10 := by omega
      go_wp2_with fail
      refine (lp_next HK.out none 0 [] (Lives.nil _ _ _) (by decide)).mono ?_
      rw [show FS.mk (oneO nmO (strOfNums xs) nx c).l [] (oneO nmO (strOfNums xs) nx c).calls = oneO nmO (strOfNums xs) [] c from rfl]
      rintro _ w4 ⟨rfl, h⟩
      have H4 := Aside0.mk h
      clear h HK
      go_wp2_with fail
      refine (lp_put H4.out nmO (by decide) B c2 bs (by omega) HBB.out (by decide) HB.out).mono ?_
      rw [put_one0 _ _ _ named_o]
      rintro _ w5 ⟨rfl, h⟩
      have H5 := Aside0.mk h
      clear h
      go_wp2_with fail
      refine (lps_get H5.out nmO (by decide) 0 1000).mono ?_
      rw [get_one0 _ _ _ _ (by rw [size_strOfNums]; omega), bytesOf_strOfNums HAB.out]
      rintro _ w6 ⟨A6, c6, rfl, _, hl6, h, _⟩
      have H6 := Aside0.mk h
      have HL6 := Aside0.mk hl6
      clear h hl6
      go_wp2_with fail
      refine (lps_drop H6.out nmO (by decide)).mono ?_
      rw [drop_one0]
      rintro _ w7 ⟨rfl, h, hs⟩
      have H7 := Aside0.mk h
      have HL7 := Aside0.mk (HL6.out.step hs.kept)
      clear h hs
      go_wp2_with fail
      refine (lps_get H7.out nmO (by decide) 0 1000).mono ?_
      rw [get_no0]
      rintro _ w8 ⟨A8, c8, rfl, _, _, h, hs⟩
      have H8 := Aside0.mk h
      have hcv1 := Kd.C_string (P := Try.prog) (src := 22) (dst := 9) (c := c6) Try.underlying22 Try.underlying5 Try.underlying9 (HL7.out.step hs.kept).now
      have hcv2 := Kd.C_string (P := Try.prog) (src := 22) (dst := 9) (c := c1) Try.underlying22 Try.underlying5 Try.underlying9 (Kd.C_below HA.out H8.out.bel)
      clear h hs
      go_wp2_with fail
      refine (num2_calls _ _).mono ?_
      rintro _ _ ⟨rfl, rfl⟩
      go_wp2_with fail
      refine (num2_calls _ _).mono ?_
      rintro _ _ ⟨rfl, rfl⟩
      go_wp2_with fail
      refine (num2_calls _ _).mono ?_
      rintro _ _ ⟨rfl, rfl⟩
      go_wp2_with fail
      refine (num2_calls _ _).mono ?_
      rintro _ _ ⟨rfl, rfl⟩
      go_wp2_with fail
      refine (num2_calls _ _).mono ?_
      rintro _ _ ⟨rfl, rfl⟩
      go_wp2_with fail
      refine (lp_awake5 H8.out).mono ?_
      rintro _ w9 ⟨rfl, h⟩
      have H9 := Aside0.mk h
      clear h hcv1 hcv2
      go_wp2_with fail
      go_ret
      exact ⟨rfl, H9.out.bel⟩
theorem farKeeps_all (ha : Kd.C (Kd.int .u8) W A xs.length xs) (hb : Kd.C (Kd.int .u8) W B bs.length bs) (ho : Kd.C (Kd.int .i64) W C os.length os) (hab : Bts xs) (hbb : Bts bs) : Calls Try.prog 4 #[.slice A xs.length c1, .slice B bs.length c2, .slice C os.length c3] W fun e w' => e = .returned (.bool true) ∧ Below W.heap.size W w' := by
  by_cases h : xs.length ≤ 300 ∧ bs.length ≤ 300 ∧ os.length ≤ 20
  · exact farKeeps_some W A B C c1 c2 c3 xs bs os ha hb ho hab hbb h.1 h.2.1 h.2.2
  · exact farKeeps_great W A B C c1 c2 c3 xs bs os h
end
end Go.Proofs.Ytbedfilammjlpaa.P
