/- ClientGives: the walk. -/
import Derived.Test.YtbedfilammjlpaaG37
import Derived.Test.YtbedfilammjlpaaG17
import Derived.BigQuiet
namespace Go.Proofs.Ytbedfilammjlpaa.P
open Go.RowKit Go.Proofs.YtbedfilammjlpaaW.PrintWords Go.Proofs.YtbedfilammjlpaaW.PrintMore Go.Maps Go.WideMaps
set_option linter.unusedVariables false
theorem gives_f (s d : ByteArray) (hn : named s = true) : upF (noO [1, 1, 1, 1] 0) s d = (8, noO [] 4) := by
  have p : ∀ nx c, putF (noO (1 :: nx) c) s d = (8, noO nx (wrap64 (c + 1))) := fun nx c => by rw [put_no s d hn, if_pos rfl]; rfl
  have h : putsF (noO [1, 1, 1, 1] 0) s d = ((), 8, noO [] 4) := by
    unfold putsF
    rw [tries_again (f := fun st => ((), putF st s d)) (by rw [p]), p, tries_again (f := fun st => ((), putF st s d)) (by rw [p]), p, tries_again (f := fun st => ((), putF st s d)) (by rw [p]), p, tries_again (f := fun st => ((), putF st s d)) (by rw [p]), p]
    show ((), (8 : Int), _) = _
    rw [show (wrap64 (wrap64 (wrap64 (wrap64 (0 + 1) + 1) + 1) + 1)) = 4 by decide +kernel]
  rw [upF_else (by rw [h]; simp), h]
theorem gives_l (s d : ByteArray) (hn : named s = true) : upF (noO [2, 2, 2, 2] 0) s d = (8, oneO s d [] 4) := by
  have p0 : ∀ nx c, putF (noO (2 :: nx) c) s d = (8, oneO s d nx (wrap64 (c + 1))) := fun nx c => by rw [put_no s d hn, if_neg (by decide)]; rfl
  have p : ∀ nx c, putF (oneO s d (2 :: nx) c) s d = (8, oneO s d nx (wrap64 (c + 1))) := fun nx c => by rw [put_one s d d hn]; rfl
  have h : putsF (noO [2, 2, 2, 2] 0) s d = ((), 8, oneO s d [] 4) := by
    unfold putsF
    rw [tries_again (f := fun st => ((), putF st s d)) (by rw [p0]), p0, tries_again (f := fun st => ((), putF st s d)) (by rw [p]), p, tries_again (f := fun st => ((), putF st s d)) (by rw [p]), p, tries_again (f := fun st => ((), putF st s d)) (by rw [p]), p]
    show ((), (8 : Int), _) = _
    rw [show (wrap64 (wrap64 (wrap64 (wrap64 (0 + 1) + 1) + 1) + 1)) = 4 by decide +kernel]
  rw [upF_else (by rw [h]; simp), h]
theorem get_bad (l : Obs) (o : Int) (nx : List Int) (c : Int) (s : ByteArray) (a n : Int) (hb : Bad (o :: nx)) : getF ⟨l, o :: nx, c⟩ s a n = ([], 8, ⟨l, nx, wrap64 (c + 1)⟩) := by
  have e := bad_told hb (getE l s a n)
  rw [getF_not (show toldF (FS.mk l (o :: nx) c).out (getE l s a n) ≠ 0 by show toldF o _ ≠ 0; rw [e]; decide)]
  show ([], toldF o _, _) = _
  rw [e]; rfl
theorem piece_gives (l : Obs) (o : Int) (ho : o = 1 ∨ o = 2) (c : Int) (s : ByteArray) (a n : Int) : ∃ c', pieceF ⟨l, [o, o, o, o, 0], c⟩ s a n = ([], 8, ⟨l, [0], c'⟩) := by
  have p : ∀ nx c, getF ⟨l, o :: nx, c⟩ s a n = ([], 8, ⟨l, nx, wrap64 (c + 1)⟩) := fun nx c => by
    have hb : Bad [o] := fun q hq => by simp at hq; subst hq; exact ho
    have e := bad_told hb (getE l s a n)
    rw [getF_not (show toldF (FS.mk l (o :: nx) c).out (getE l s a n) ≠ 0 by show toldF o _ ≠ 0; rw [e]; decide)]
    show ([], toldF o _, _) = _
    rw [e]; rfl
  refine ⟨wrap64 (wrap64 (wrap64 (wrap64 (c + 1) + 1) + 1) + 1), ?_⟩
  unfold pieceF
  rw [tries_again (f := fun st => getF st s a n) (by rw [p]), p, tries_again (f := fun st => getF st s a n) (by rw [p]), p, tries_again (f := fun st => getF st s a n) (by rw [p]), p, tries_again (f := fun st => getF st s a n) (by rw [p]), p]
  rfl
section
variable (W : World) (A : Option Addr) (c : Nat) (bs : List Int)
set_option maxRecDepth 100000 in
theorem clientGives_great (lies : Bool) (hg : 300 < (bs.length : Int)) : Calls Try.prog 9 #[.slice A bs.length c, .bool lies] W fun e w' => e = .returned (.bool true) ∧ Below W.heap.size W w' := by
  go_enter Try.func9, Try.ntmps9
  go_wp2_with fail
  refine (awake6_calls _).mono ?_
  rintro _ w1 ⟨rfl, hb⟩
  go_wp2_with fail
  go_ret
  exact ⟨rfl, hb⟩
set_option maxRecDepth 100000 in
theorem clientGives_f (hr : Kd.C (Kd.int .u8) W A bs.length bs) (hbs : Bts bs) (hl : bs.length ≤ 300) : Calls Try.prog 9 #[.slice A bs.length c, .bool false] W fun e w' => e = .returned (.bool true) ∧ Below W.heap.size W w' := by
  have HR := Aside0.mk hr
  have HB := Aside0.mk hbs
  clear hr hbs
  go_enter Try.func9, Try.ntmps9
  go_wp2_with fail
  refine (lp_new _).mono ?_
  rintro _ w1 ⟨g, m, rfl, h⟩
  have H1 := Aside0.mk h
  clear h
  go_wp2_with fail
  refine (lp_lits H1.out [1, 1, 1, 1] (by decide)).mono ?_
  rintro _ w2 ⟨rfl, h⟩
  have H2 : Aside0 (LawP W w2 g m 0 (noO [1, 1, 1, 1] 0)) := ⟨h⟩
  clear h
  go_wp2_with fail
  refine (lp_up H2.out nmO (by decide) A c bs (by omega) HB.out (by decide) (H2.out.row HR.out)).mono ?_
  rw [show (upF (noO [1, 1, 1, 1] 0) nmO (strOfNums bs)).1 = 8 by rw [gives_f _ _ named_o], show (upF (noO [1, 1, 1, 1] 0) nmO (strOfNums bs)).2 = noO [] 4 by rw [gives_f _ _ named_o]]
  rintro _ w3 ⟨rfl, h, _⟩
  have H3 := Aside0.mk h
  clear h
  go_wp2_with fail
  refine (lp_calls H3.out).mono ?_
  rw [show (noO [] 4).calls = 4 from rfl]
  rintro _ _ ⟨rfl, rfl⟩
  go_wp2_with fail
  refine (lps_objects H3.out (by decide)).mono ?_
  rw [show (noO [] 4).l.length = 0 from rfl]
  rintro _ w4 ⟨A9, c9, rfl, _, hl9, h, _⟩
  have H4 := Aside0.mk h
  clear h hl9
  go_wp2_with fail
  go_quiet ((go_at_call 18; refine Calls.quiet_of_same (num_calls _ _)))
  have H5 : Aside0 (LawP W (w4.drewN nq) g m 4 (noO [] 4)) := ⟨H4.out.step (H4.out.far.drewN nq) ((Stp.refl _ _).drewN nq)⟩
  generalize w4.drewN nq = w5 at H5 ⊢
  go_wp2_with fail
  refine (lp_lits H5.out [1, 1, 1, 1, 0] (by decide)).mono ?_
  rintro _ w6 ⟨rfl, h⟩
  have H6 := Aside0.mk h
  clear h
  go_wp2_with fail
  obtain ⟨c7, hp⟩ := piece_gives (noO [] 4).l 1 (.inl rfl) (noO [] 4).calls nmO 0 1048576
  refine (lp_down H6.out nmO (by decide)).mono ?_
  rw [hp]
  rintro _ w7 ⟨A7, c7, rfl, _, _, h, _⟩
  have H7 := Aside0.mk h
  clear h hp
  go_wp2_with fail
  refine (num2_calls _ _).mono ?_
  rintro _ _ ⟨rfl, rfl⟩
  go_wp2_with fail
  refine (lp_left H7.out).mono ?_
  rintro _ _ ⟨rfl, rfl⟩
  go_wp2_with fail
  refine (lp_awake6 H7.out).mono ?_
  rintro _ w8 ⟨rfl, h⟩
  have H8 := Aside0.mk h
  clear h
  go_wp2_with fail
  go_ret
  exact ⟨rfl, H8.out.bel⟩
set_option maxRecDepth 100000 in
theorem clientGives_l (hr : Kd.C (Kd.int .u8) W A bs.length bs) (hbs : Bts bs) (hl : bs.length ≤ 300) : Calls Try.prog 9 #[.slice A bs.length c, .bool true] W fun e w' => e = .returned (.bool true) ∧ Below W.heap.size W w' := by
  have HR := Aside0.mk hr
  have HB := Aside0.mk hbs
  clear hr hbs
  go_enter Try.func9, Try.ntmps9
  go_wp2_with fail
  refine (lp_new _).mono ?_
  rintro _ w1 ⟨g, m, rfl, h⟩
  have H1 := Aside0.mk h
  clear h
  go_wp2_with fail
  refine (lp_lits H1.out [2, 2, 2, 2] (by decide)).mono ?_
  rintro _ w2 ⟨rfl, h⟩
  have H2 : Aside0 (LawP W w2 g m 0 (noO [2, 2, 2, 2] 0)) := ⟨h⟩
  clear h
  go_wp2_with fail
  refine (lp_up H2.out nmO (by decide) A c bs (by omega) HB.out (by decide) (H2.out.row HR.out)).mono ?_
  rw [show (upF (noO [2, 2, 2, 2] 0) nmO (strOfNums bs)).1 = 8 by rw [gives_l _ _ named_o], show (upF (noO [2, 2, 2, 2] 0) nmO (strOfNums bs)).2 = oneO nmO (strOfNums bs) [] 4 by rw [gives_l _ _ named_o]]
  rintro _ w3 ⟨rfl, h, _⟩
  have H3 := Aside0.mk h
  clear h
  go_wp2_with fail
  refine (lp_calls H3.out).mono ?_
  rw [show (oneO nmO (strOfNums bs) [] 4).calls = 4 from rfl]
  rintro _ _ ⟨rfl, rfl⟩
  go_wp2_with fail
  refine (lps_objects H3.out (by decide)).mono ?_
  rw [show (oneO nmO (strOfNums bs) [] 4).l.length = 1 from rfl]
  rintro _ w4 ⟨A9, c9, rfl, _, hl9, h, _⟩
  have H4 := Aside0.mk h
  obtain ⟨ad, e9, d1, d2, _⟩ := file_at (l := (oneO nmO (strOfNums bs) [] 4).l) hl9.now 0 (by show 0 < 1; omega)
  subst e9
  have e0 : ad.add (0 * 3) = ad := by unfold Addr.add; simp
  rw [e0] at d1 d2
  have d1' : w4.cell? ad = some (.string nmO) := d1
  have d2' : w4.cell? ⟨ad.block, ad.off + 1, none⟩ = some (.string (strOfNums bs)) := d2
  have hno : nmO.toList = [111] := by rw [ByteArray.toList_eq]; rfl
  have hcv : ∀ j, (convert 22 9 (.slice A bs.length c)).run Try.prog (w4.drewN j) = .ok (.string (strOfNums bs)) (w4.drewN j) := fun j => Kd.C_string (P := Try.prog) (src := 22) (dst := 9) (c := c) Try.underlying22 Try.underlying5 Try.underlying9 ((H4.out.row HR.out) _ ((Kept.refl _ _).drewN j))
  clear d1 d2 e0
  clear h hl9
  go_wp2_with fail
  go_quiet ((go_at_call 18; refine Calls.quiet_of_same (num_calls _ _)))
  have H5 : Aside0 (LawP W (w4.drewN nq) g m 4 (oneO nmO (strOfNums bs) [] 4)) := ⟨H4.out.step (H4.out.far.drewN nq) ((Stp.refl _ _).drewN nq)⟩
  generalize w4.drewN nq = w5 at H5 ⊢
  go_wp2_with fail
  refine (lp_lits H5.out [2, 2, 2, 2, 0] (by decide)).mono ?_
  rintro _ w6 ⟨rfl, h⟩
  have H6 := Aside0.mk h
  clear h
  go_wp2_with fail
  obtain ⟨c7, hp⟩ := piece_gives (oneO nmO (strOfNums bs) [] 4).l 2 (.inr rfl) (oneO nmO (strOfNums bs) [] 4).calls nmO 0 1048576
  refine (lp_down H6.out nmO (by decide)).mono ?_
  rw [hp]
  rintro _ w7 ⟨A7, c7, rfl, _, _, h, _⟩
  have H7 := Aside0.mk h
  clear h hp
  go_wp2_with fail
  refine (num2_calls _ _).mono ?_
  rintro _ _ ⟨rfl, rfl⟩
  go_wp2_with fail
  refine (lp_left H7.out).mono ?_
  rintro _ _ ⟨rfl, rfl⟩
  go_wp2_with fail
  refine (lp_awake6 H7.out).mono ?_
  rintro _ w8 ⟨rfl, h⟩
  have H8 := Aside0.mk h
  clear h
  go_wp2_with fail
  go_ret
  exact ⟨rfl, H8.out.bel⟩
theorem clientGives_all (lies : Bool) (hr : Kd.C (Kd.int .u8) W A bs.length bs) (hbs : Bts bs) : Calls Try.prog 9 #[.slice A bs.length c, .bool lies] W fun e w' => e = .returned (.bool true) ∧ Below W.heap.size W w' := by
  by_cases h : bs.length ≤ 300
  · cases lies
    · exact clientGives_f W A c bs hr hbs h
    · exact clientGives_l W A c bs hr hbs h
  · exact clientGives_great W A c bs lies (by omega)
end
end Go.Proofs.Ytbedfilammjlpaa.P
