/- FarFails: the walk. -/
import Derived.Test.YtbedfilammjlpaaG19
namespace Go.Proofs.Ytbedfilammjlpaa.P
open Go.RowKit Go.Proofs.YtbedfilammjlpaaW.PrintWords Go.Proofs.YtbedfilammjlpaaW.PrintMore Go.Maps Go.WideMaps
set_option linter.unusedVariables false
section
variable (W : World) (A : Option Addr) (c : Nat) (bs : List Int)
set_option maxRecDepth 100000 in
theorem farFails_great (lies drop : Bool) (hg : 300 < (bs.length : Int)) : Calls Try.prog 3 #[.slice A bs.length c, .bool lies, .bool drop] W fun e w' => e = .returned (.bool true) ∧ Below W.heap.size W w' := by
  go_enter Try.func3, Try.ntmps3
  go_wp2_with fail
  refine (awake5_calls _).mono ?_
  rintro _ w1 ⟨rfl, hb⟩
  go_wp2_with fail
  go_ret
  exact ⟨rfl, hb⟩
set_option maxRecDepth 100000 in
theorem farFails_fp (hr : Kd.C (Kd.int .u8) W A bs.length bs) (hbs : Bts bs) (hl : bs.length ≤ 300) : Calls Try.prog 3 #[.slice A bs.length c, .bool false, .bool false] W fun e w' => e = .returned (.bool true) ∧ Below W.heap.size W w' := by
  have HR := Aside0.mk hr
  have HB := Aside0.mk hbs
  clear hr hbs
  go_enter Try.func3, Try.ntmps3
  go_wp2_with fail
  refine (lp_new _).mono ?_
  rintro _ w1 ⟨g, m, rfl, h⟩
  have H1 := Aside0.mk h
  clear h
  go_wp2_with fail
  refine (lp_lits H1.out [1] (by decide)).mono ?_
  rintro _ w2 ⟨rfl, h⟩
  have H2 := Aside0.mk h
  clear h
  go_wp2_with fail
  refine (lp_put H2.out nmO (by decide) A c bs (by omega) HB.out (by decide) HR.out).mono ?_
  rw [show (FS.mk FS.none.l [1] FS.none.calls) = noO [1] 0 from rfl, put_no _ _ named_o, if_pos rfl, show toldF 1 0 = 8 from rfl]
  rintro _ w3 ⟨rfl, h⟩
  have H3 := Aside0.mk h
  clear h
  go_wp2_with fail
  refine (num2_calls _ _).mono ?_
  rintro _ _ ⟨rfl, rfl⟩
  go_wp2_with fail
  refine (lp_objects H3.out (by decide)).mono ?_
  rintro _ w4 ⟨A9, c9, rfl, _, _, h⟩
  have H4 := Aside0.mk h
  clear h
  go_wp2_with fail
  refine (lp_left H4.out).mono ?_
  rintro _ _ ⟨rfl, rfl⟩
  go_wp2_with fail
  refine (lp_awake5 H4.out).mono ?_
  rintro _ w5 ⟨rfl, h⟩
  have H5 := Aside0.mk h
  clear h
  go_wp2_with fail
  go_ret
  exact ⟨rfl, H5.out.bel⟩
set_option maxRecDepth 100000 in
theorem farFails_fd (hr : Kd.C (Kd.int .u8) W A bs.length bs) (hbs : Bts bs) (hl : bs.length ≤ 300) : Calls Try.prog 3 #[.slice A bs.length c, .bool false, .bool true] W fun e w' => e = .returned (.bool true) ∧ Below W.heap.size W w' := by
  have HR := Aside0.mk hr
  have HB := Aside0.mk hbs
  clear hr hbs
  go_enter Try.func3, Try.ntmps3
  go_wp2_with fail
  refine (lp_new _).mono ?_
  rintro _ w1 ⟨g, m, rfl, h⟩
  have H1 := Aside0.mk h
  clear h
  go_wp2_with fail
  refine (lp_put H1.out nmO (by decide) A c bs (by omega) HB.out (by decide) HR.out).mono ?_
  rw [show FS.none = noO [] 0 from rfl, put_no0 _ _ named_o]
  rintro _ w2 ⟨rfl, h⟩
  have H2 := Aside0.mk h
  clear h
  go_wp2_with fail
  refine (lp_lits H2.out [1] (by decide)).mono ?_
  rintro _ w3 ⟨rfl, h⟩
  have H3 := Aside0.mk h
  clear h
  go_wp2_with fail
  refine (lp_drop H3.out nmO (by decide)).mono ?_
  rw [show (FS.mk (oneO nmO (strOfNums bs) [] (wrap64 (0 + 1))).l [1] (oneO nmO (strOfNums bs) [] (wrap64 (0 + 1))).calls) = oneO nmO (strOfNums bs) [1] (wrap64 (0 + 1)) from rfl, drop_one, if_pos rfl, show toldF 1 0 = 8 from rfl]
  rintro _ w4 ⟨rfl, h⟩
  have H4 := Aside0.mk h
  clear h
  go_wp2_with fail
  refine (num2_calls _ _).mono ?_
  rintro _ _ ⟨rfl, rfl⟩
  go_wp2_with fail
  refine (lp_objects H4.out (by decide)).mono ?_
  rintro _ w5 ⟨A9, c9, rfl, _, _, h⟩
  have H5 := Aside0.mk h
  clear h
  go_wp2_with fail
  refine (lp_left H5.out).mono ?_
  rintro _ _ ⟨rfl, rfl⟩
  go_wp2_with fail
  refine (lp_awake5 H5.out).mono ?_
  rintro _ w6 ⟨rfl, h⟩
  have H6 := Aside0.mk h
  clear h
  go_wp2_with fail
  go_ret
  exact ⟨rfl, H6.out.bel⟩
set_option maxRecDepth 100000 in
theorem farFails_lp (hr : Kd.C (Kd.int .u8) W A bs.length bs) (hbs : Bts bs) (hl : bs.length ≤ 300) : Calls Try.prog 3 #[.slice A bs.length c, .bool true, .bool false] W fun e w' => e = .returned (.bool true) ∧ Below W.heap.size W w' := by
  have HR := Aside0.mk hr
  have HB := Aside0.mk hbs
  clear hr hbs
  go_enter Try.func3, Try.ntmps3
  go_wp2_with fail
  refine (lp_new _).mono ?_
  rintro _ w1 ⟨g, m, rfl, h⟩
  have H1 := Aside0.mk h
  clear h
  go_wp2_with fail
  refine (lp_lits H1.out [2] (by decide)).mono ?_
  rintro _ w2 ⟨rfl, h⟩
  have H2 := Aside0.mk h
  clear h
  go_wp2_with fail
  refine (lp_put H2.out nmO (by decide) A c bs (by omega) HB.out (by decide) HR.out).mono ?_
  rw [show (FS.mk FS.none.l [2] FS.none.calls) = noO [2] 0 from rfl, put_no _ _ named_o, if_neg (by decide), show toldF 2 0 = 8 from rfl]
  rintro _ w3 ⟨rfl, h⟩
  have H3 := Aside0.mk h
  clear h
  go_wp2_with fail
  refine (num2_calls _ _).mono ?_
  rintro _ _ ⟨rfl, rfl⟩
  go_wp2_with fail
  refine (lp_objects H3.out (by decide)).mono ?_
  rintro _ w4 ⟨A9, c9, rfl, _, _, h⟩
  have H4 := Aside0.mk h
  clear h
  go_wp2_with fail
  refine (lp_left H4.out).mono ?_
  rintro _ _ ⟨rfl, rfl⟩
  go_wp2_with fail
  refine (lp_awake5 H4.out).mono ?_
  rintro _ w5 ⟨rfl, h⟩
  have H5 := Aside0.mk h
  clear h
  go_wp2_with fail
  go_ret
  exact ⟨rfl, H5.out.bel⟩
set_option maxRecDepth 100000 in
theorem farFails_ld (hr : Kd.C (Kd.int .u8) W A bs.length bs) (hbs : Bts bs) (hl : bs.length ≤ 300) : Calls Try.prog 3 #[.slice A bs.length c, .bool true, .bool true] W fun e w' => e = .returned (.bool true) ∧ Below W.heap.size W w' := by
  have HR := Aside0.mk hr
  have HB := Aside0.mk hbs
  clear hr hbs
  go_enter Try.func3, Try.ntmps3
  go_wp2_with fail
  refine (lp_new _).mono ?_
  rintro _ w1 ⟨g, m, rfl, h⟩
  have H1 := Aside0.mk h
  clear h
  go_wp2_with fail
  refine (lp_put H1.out nmO (by decide) A c bs (by omega) HB.out (by decide) HR.out).mono ?_
  rw [show FS.none = noO [] 0 from rfl, put_no0 _ _ named_o]
  rintro _ w2 ⟨rfl, h⟩
  have H2 := Aside0.mk h
  clear h
  go_wp2_with fail
  refine (lp_lits H2.out [2] (by decide)).mono ?_
  rintro _ w3 ⟨rfl, h⟩
  have H3 := Aside0.mk h
  clear h
  go_wp2_with fail
  refine (lp_drop H3.out nmO (by decide)).mono ?_
  rw [show (FS.mk (oneO nmO (strOfNums bs) [] (wrap64 (0 + 1))).l [2] (oneO nmO (strOfNums bs) [] (wrap64 (0 + 1))).calls) = oneO nmO (strOfNums bs) [2] (wrap64 (0 + 1)) from rfl, drop_one, if_neg (by decide), show toldF 2 0 = 8 from rfl]
  rintro _ w4 ⟨rfl, h⟩
  have H4 := Aside0.mk h
  clear h
  go_wp2_with fail
  refine (num2_calls _ _).mono ?_
  rintro _ _ ⟨rfl, rfl⟩
  go_wp2_with fail
  refine (lp_objects H4.out (by decide)).mono ?_
  rintro _ w5 ⟨A9, c9, rfl, _, _, h⟩
  have H5 := Aside0.mk h
  clear h
  go_wp2_with fail
  refine (lp_left H5.out).mono ?_
  rintro _ _ ⟨rfl, rfl⟩
  go_wp2_with fail
  refine (lp_awake5 H5.out).mono ?_
  rintro _ w6 ⟨rfl, h⟩
  have H6 := Aside0.mk h
  clear h
  go_wp2_with fail
  go_ret
  exact ⟨rfl, H6.out.bel⟩
theorem farFails_all (lies drop : Bool) (hr : Kd.C (Kd.int .u8) W A bs.length bs) (hbs : Bts bs) : Calls Try.prog 3 #[.slice A bs.length c, .bool lies, .bool drop] W fun e w' => e = .returned (.bool true) ∧ Below W.heap.size W w' := by
  by_cases hl : bs.length ≤ 300
  · cases lies <;> cases drop
    · exact farFails_fp W A c bs hr hbs hl
    · exact farFails_fd W A c bs hr hbs hl
    · exact farFails_lp W A c bs hr hbs hl
    · exact farFails_ld W A c bs hr hbs hl
  · exact farFails_great W A c bs lies drop (by omega)
end
end Go.Proofs.Ytbedfilammjlpaa.P
