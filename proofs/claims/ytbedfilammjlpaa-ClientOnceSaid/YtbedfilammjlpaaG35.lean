/- The client within a law; the document's example; the client without a store. -/
import Derived.Test.YtbedfilammjlpaaG33
import Derived.Test.YtbedfilammjlpaaG21
namespace Go.Proofs.Ytbedfilammjlpaa.P
open Go.RowKit Go.Proofs.YtbedfilammjlpaaW.PrintWords Go.Proofs.YtbedfilammjlpaaW.PrintMore Go.Maps Go.WideMaps
set_option linter.unusedVariables false
section
variable {W w w' : World} {g m N : Nat} {st st' : FS}
theorem lp_up (h : LawP W w g m N st) (s : ByteArray) (hs : s.size ≤ maxLen) (A : Option Addr) (c : Nat) (bs : List Int) (hlen : bs.length ≤ 1048576) (hbs : Bts bs) (hn : N + 4 ≤ 1000000) (hr : Lives w (GM g m) (Kd.int .u8) A bs) :
    Calls Try.prog 23 #[.pointer (some ⟨g, 0, none⟩), .string s, .slice A bs.length c] w fun e w' => e = .returned (.int .i64 (upF st s (strOfNums bs)).1) ∧ LawP W w' g m (N + 4) (upF st s (strOfNums bs)).2 ∧ Stp (GM g m) w w' :=
  (cUp_calls h.far s hs A c bs hlen hbs hn hr).mono fun e w' ⟨h1, h2, h3⟩ => ⟨h1, h.step h2 h3, h3⟩
theorem lp_piece (h : LawP W w g m N st) (s : ByteArray) (hs : s.size ≤ maxLen) (at_ n : Int) :
    Calls Try.prog 25 #[.pointer (some ⟨g, 0, none⟩), .string s, .int .i64 at_, .int .i64 n] w fun e w' => ∃ A c, e = .returned (.tuple #[.slice A (pieceF st s at_ n).1.length c, .int .i64 (pieceF st s at_ n).2.1]) ∧ (pieceF st s at_ n).1.length ≤ c ∧ Lives w' (GM g m) (Kd.int .u8) A (pieceF st s at_ n).1 ∧ LawP W w' g m N (pieceF st s at_ n).2.2 ∧ Stp (GM g m) w w' :=
  (cPiece_calls h.far s hs at_ n).mono fun e w' ⟨A, c, h1, h2, h3, h4, h5⟩ => ⟨A, c, h1, h2, h3, h.step h4 h5, h5⟩
theorem lp_down (h : LawP W w g m N st) (s : ByteArray) (hs : s.size ≤ maxLen) :
    Calls Try.prog 24 #[.pointer (some ⟨g, 0, none⟩), .string s] w fun e w' => ∃ A c, e = .returned (.tuple #[.slice A (pieceF st s 0 1048576).1.length c, .int .i64 (pieceF st s 0 1048576).2.1]) ∧ (pieceF st s 0 1048576).1.length ≤ c ∧ Lives w' (GM g m) (Kd.int .u8) A (pieceF st s 0 1048576).1 ∧ LawP W w' g m N (pieceF st s 0 1048576).2.2 ∧ Stp (GM g m) w w' :=
  (cDown_calls h.far s hs).mono fun e w' ⟨A, c, h1, h2, h3, h4, h5⟩ => ⟨A, c, h1, h2, h3, h.step h4 h5, h5⟩
theorem lp_names (h : LawP W w g m N st) (hN : N ≤ 1000000) : Calls Try.prog 34 #[.pointer (some ⟨g, 0, none⟩)] w fun e w' => ∃ A c, e = .returned (.tuple #[.slice A (namesF st).1.length c, .int .i64 (namesF st).2.1]) ∧ (namesF st).1.length ≤ c ∧ Lives w' (GM g m) Kd.string A (namesF st).1 ∧ LawP W w' g m N (namesF st).2.2 ∧ Stp (GM g m) w w' :=
  (cNames_calls h.far hN).mono fun e w' ⟨A, c, h1, h2, h3, h4, h5⟩ => ⟨A, c, h1, h2, h3, h.step h4 h5, h5⟩
theorem lp_cdrop (h : LawP W w g m N st) (s : ByteArray) (hs : s.size ≤ maxLen) :
    Calls Try.prog 35 #[.pointer (some ⟨g, 0, none⟩), .string s] w fun e w' => e = .returned (.int .i64 (cdropF st s).1) ∧ LawP W w' g m N (cdropF st s).2 ∧ Stp (GM g m) w w' :=
  (cDrop_calls h.far s hs).mono fun e w' ⟨h1, h2, h3⟩ => ⟨h1, h.step h2 h3, h3⟩
theorem lps_next (h : LawP W w g m N st) (A : Option Addr) (c : Nat) (l : List Int) (hr : Lives w (GM g m) (Kd.int .i64) A l) (hl : l.length ≤ 1048576) :
    Calls Try.prog 16 #[.pointer (some ⟨g, 0, none⟩), .slice A l.length c] w fun e w' => e = .returned (.tuple #[]) ∧ LawP W w' g m N ⟨st.l, l, st.calls⟩ ∧ Stp (GM g m) w w' :=
  (next_calls h.far A c l hr.now hl).mono fun e w' ⟨h1, h2, h3⟩ => ⟨h1, h.step h2 (gm_g h3), gm_g h3⟩
theorem lps_objects (h : LawP W w g m N st) (hN : N ≤ 1000000) : Calls Try.prog 19 #[.pointer (some ⟨g, 0, none⟩)] w fun e w' => ∃ A c, e = .returned (.slice A st.l.length c) ∧ st.l.length ≤ c ∧ Lives w' (GM g m) k58 A (st.l.map fileOf) ∧ LawP W w' g m N st ∧ Stp (GM g m) w w' := by
  refine (objects_calls h.far hN).mono fun e w' he => ?_
  obtain ⟨v, rfl, hv, hb⟩ := he
  obtain ⟨A, c, rfl, h1, h2⟩ := Lives.new hv h.far.bd
  rw [List.length_map] at h1 ⊢
  exact ⟨A, c, rfl, h1, h2, h.below hb, Stp.of_below hb _⟩
end
/-! ### where what befalls the calls is but failures and lies, and at most three -/
def Bad (nx : List Int) : Prop := ∀ o ∈ nx, o = 1 ∨ o = 2
theorem bad_tail {o : Int} {nx : List Int} (h : Bad (o :: nx)) : Bad nx := fun p hp => h p (List.mem_cons_of_mem _ hp)
theorem bad_told {o : Int} {nx : List Int} (h : Bad (o :: nx)) (e : Int) : toldF o e = 8 := by
  unfold toldF
  rcases h o List.mem_cons_self with e | e
  · rw [if_pos e]
  · rw [if_neg (by omega), if_pos e]
theorem puts_one (s d d' : ByteArray) (hn : named s = true) : ∀ (nx : List Int) (k : Nat) (c : Int), Bad nx → nx.length ≤ k → ∃ c', triesF () (fun st => ((), putF st s d')) (k + 1) (oneO s d nx c) = ((), 3, oneO s d [] c')
  | [], k, c, _, _ => ⟨wrap64 (c + 1), by
    have e : putF (oneO s d [] c) s d' = (3, oneO s d [] (wrap64 (c + 1))) := put_one0 s d d' hn c
    rw [tries_done (f := fun st => ((), putF st s d')) (show (putF (oneO s d [] c) s d').1 ≠ 8 by rw [e]; simp)]
    show ((), putF (oneO s d [] c) s d') = _
    rw [e]⟩
  | o :: nx, 0, c, _, h => absurd h (by simp)
  | o :: nx, k + 1, c, hb, h => by
    have e : putF (oneO s d (o :: nx) c) s d' = (8, oneO s d nx (wrap64 (c + 1))) := by rw [put_one s d d' hn, bad_told hb]
    rw [tries_again (f := fun st => ((), putF st s d')) (show (putF (oneO s d (o :: nx) c) s d').1 = 8 by rw [e]), e]
    exact puts_one s d d' hn nx k _ (bad_tail hb) (by simpa using h)
theorem puts_no (s d : ByteArray) (hn : named s = true) : ∀ (nx : List Int) (k : Nat) (c : Int), Bad nx → nx.length ≤ k → ∃ z c', (z = 0 ∨ z = 3) ∧ triesF () (fun st => ((), putF st s d)) (k + 1) (noO nx c) = ((), z, oneO s d [] c')
  | [], k, c, _, _ => ⟨0, wrap64 (c + 1), .inl rfl, by
    have e : putF (noO [] c) s d = (0, oneO s d [] (wrap64 (c + 1))) := put_no0 s d hn c
    rw [tries_done (f := fun st => ((), putF st s d)) (show (putF (noO [] c) s d).1 ≠ 8 by rw [e]; simp)]
    show ((), putF (noO [] c) s d) = _
    rw [e]⟩
  | o :: nx, 0, c, _, h => absurd h (by simp)
  | o :: nx, k + 1, c, hb, h => by
    have e : putF (noO (o :: nx) c) s d = (8, if o = 1 then noO nx (wrap64 (c + 1)) else oneO s d nx (wrap64 (c + 1))) := by rw [put_no s d hn, bad_told hb]
    rw [tries_again (f := fun st => ((), putF st s d)) (show (putF (noO (o :: nx) c) s d).1 = 8 by rw [e]), e]
    by_cases ho : o = 1
    · rw [if_pos ho]
      exact puts_no s d hn nx k _ (bad_tail hb) (by simpa using h)
    · rw [if_neg ho]
      obtain ⟨c', h2⟩ := puts_one s d d hn nx k (wrap64 (c + 1)) (bad_tail hb) (by simpa using h)
      exact ⟨3, c', .inr rfl, h2⟩
theorem get_one (s d : ByteArray) (o : Int) (nx : List Int) (c at_ n : Int) (hb : Bad (o :: nx)) : getF (oneO s d (o :: nx) c) s at_ n = ([], 8, oneO s d nx (wrap64 (c + 1))) := by
  have e := bad_told hb (getE (oneO s d (o :: nx) c).l s at_ n)
  rw [getF_not (show toldF (oneO s d (o :: nx) c).out (getE (oneO s d (o :: nx) c).l s at_ n) ≠ 0 by show toldF o _ ≠ 0; rw [e]; decide)]
  show ([], toldF o _, _) = _
  rw [e]; rfl
theorem piece_tries (s d : ByteArray) (at_ n : Int) (ys : List Int) (z : Int) (hz : z ≠ 8) (hg : ∀ c, getF (oneO s d [] c) s at_ n = (ys, z, oneO s d [] (wrap64 (c + 1)))) : ∀ (nx : List Int) (k : Nat) (c : Int), Bad nx → nx.length ≤ k → ∃ c', triesF [] (fun st => getF st s at_ n) (k + 1) (oneO s d nx c) = (ys, z, oneO s d [] c')
  | [], k, c, _, _ => ⟨wrap64 (c + 1), by rw [tries_done (f := fun st => getF st s at_ n) (by rw [hg]; exact hz), hg]⟩
  | o :: nx, 0, c, _, h => absurd h (by simp)
  | o :: nx, k + 1, c, hb, h => by
    rw [tries_again (f := fun st => getF st s at_ n) (by rw [get_one s d o nx c at_ n hb]), get_one s d o nx c at_ n hb]
    exact piece_tries s d at_ n ys z hz hg nx k _ (bad_tail hb) (by simpa using h)
theorem piece_one (s d : ByteArray) (n : Int) (hd : (d.size : Int) ≤ n) (nx : List Int) (c : Int) (hb : Bad nx) (hl : nx.length ≤ 3) : ∃ c', pieceF (oneO s d nx c) s 0 n = (bytesOf d, 0, oneO s d [] c') :=
  piece_tries s d 0 n _ 0 (by decide) (fun c => get_one0 s d c n hd) nx 3 c hb hl
theorem up_one (s d d' : ByteArray) (hn : named s = true) (hd : d.size ≤ 1048576) (nx : List Int) (c : Int) (hb : Bad nx) (hl : nx.length ≤ 3) : ∃ c', upF (oneO s d nx c) s d' = (if strOfNums (bytesOf d) = d' then 0 else 3, oneO s d [] c') := by
  obtain ⟨c1, h1⟩ := puts_one s d d' hn nx 3 c hb hl
  have e : putsF (oneO s d nx c) s d' = ((), 3, oneO s d [] c1) := h1
  obtain ⟨c2, h2⟩ := piece_one s d 1048576 (by omega) [] c1 (fun _ h => absurd h (by simp)) (by simp)
  refine ⟨c2, ?_⟩
  rw [upF_three (by rw [e]), e]
  dsimp only
  rw [h2]
  dsimp only
  rw [if_pos rfl]
theorem up_no (s d : ByteArray) (hn : named s = true) (hd : d.size ≤ 1048576) (hbo : strOfNums (bytesOf d) = d) (nx : List Int) (c : Int) (hb : Bad nx) (hl : nx.length ≤ 3) : ∃ c', upF (noO nx c) s d = (0, oneO s d [] c') := by
  obtain ⟨z, c1, hz, h1⟩ := puts_no s d hn nx 3 c hb hl
  have e : putsF (noO nx c) s d = ((), z, oneO s d [] c1) := h1
  rcases hz with rfl | rfl
  · refine ⟨c1, ?_⟩
    rw [upF_else (by rw [e]; simp), e]
  · obtain ⟨c2, h2⟩ := piece_one s d 1048576 (by omega) [] c1 (fun _ h => absurd h (by simp)) (by simp)
    refine ⟨c2, ?_⟩
    rw [upF_three (by rw [e]), e]
    dsimp only
    rw [h2]
    dsimp only
    rw [if_pos rfl, if_pos hbo]
theorem names_tries (s d : ByteArray) : ∀ (nx : List Int) (k : Nat) (c : Int), Bad nx → nx.length ≤ k → ∃ c', triesF [] listF (k + 1) (oneO s d nx c) = ([s], 0, oneO s d [] c')
  | [], k, c, _, _ => ⟨wrap64 (c + 1), by rw [tries_done (f := listF) (by show toldF 0 0 ≠ 8; decide)]; rfl⟩
  | o :: nx, 0, c, _, h => absurd h (by simp)
  | o :: nx, k + 1, c, hb, h => by
    have e : listF (oneO s d (o :: nx) c) = ([], 8, oneO s d nx (wrap64 (c + 1))) := by
      unfold listF
      rw [show (oneO s d (o :: nx) c).out = o from rfl, bad_told hb]; rfl
    rw [tries_again (f := listF) (by rw [e]), e]
    exact names_tries s d nx k _ (bad_tail hb) (by simpa using h)
theorem names_one (s d : ByteArray) (nx : List Int) (c : Int) (hb : Bad nx) (hl : nx.length ≤ 3) : ∃ c', namesF (oneO s d nx c) = ([s], 0, oneO s d [] c') := names_tries s d nx 3 c hb hl
theorem drop_no (s : ByteArray) (nx : List Int) (c : Int) : dropF (noO nx c) s = (toldF (nx.headD 0) 2, noO nx.tail (wrap64 (c + 1))) := by
  by_cases h1 : (noO nx c).out = 1
  · rw [dropF_one h1]
    show _ = (toldF (noO nx c).out 2, _)
    rw [toldF_one h1]; rfl
  · rw [dropF_else h1]; rfl
theorem drops_no (s : ByteArray) : ∀ (nx : List Int) (k : Nat) (c : Int), Bad nx → nx.length ≤ k → ∃ c', triesF () (fun st => ((), dropF st s)) (k + 1) (noO nx c) = ((), 2, noO [] c')
  | [], k, c, _, _ => ⟨wrap64 (c + 1), by
    have e : dropF (noO [] c) s = (2, noO [] (wrap64 (c + 1))) := drop_no s [] c
    rw [tries_done (f := fun st => ((), dropF st s)) (show (dropF (noO [] c) s).1 ≠ 8 by rw [e]; simp)]
    show ((), dropF (noO [] c) s) = _
    rw [e]⟩
  | o :: nx, 0, c, _, h => absurd h (by simp)
  | o :: nx, k + 1, c, hb, h => by
    have e : dropF (noO (o :: nx) c) s = (8, noO nx (wrap64 (c + 1))) := by rw [drop_no s (o :: nx) c]; show (toldF o 2, _) = _; rw [bad_told hb]; rfl
    rw [tries_again (f := fun st => ((), dropF st s)) (show (dropF (noO (o :: nx) c) s).1 = 8 by rw [e]), e]
    exact drops_no s nx k _ (bad_tail hb) (by simpa using h)
theorem drops_one (s d : ByteArray) : ∀ (nx : List Int) (k : Nat) (c : Int), Bad nx → nx.length ≤ k → ∃ z c', (z = 0 ∨ z = 2) ∧ triesF () (fun st => ((), dropF st s)) (k + 1) (oneO s d nx c) = ((), z, noO [] c')
  | [], k, c, _, _ => ⟨0, wrap64 (c + 1), .inl rfl, by
    have e : dropF (oneO s d [] c) s = (0, noO [] (wrap64 (c + 1))) := drop_one0 s d c
    rw [tries_done (f := fun st => ((), dropF st s)) (show (dropF (oneO s d [] c) s).1 ≠ 8 by rw [e]; simp)]
    show ((), dropF (oneO s d [] c) s) = _
    rw [e]⟩
  | o :: nx, 0, c, _, h => absurd h (by simp)
  | o :: nx, k + 1, c, hb, h => by
    have e : dropF (oneO s d (o :: nx) c) s = (8, if o = 1 then oneO s d nx (wrap64 (c + 1)) else noO nx (wrap64 (c + 1))) := by rw [drop_one s d, bad_told hb]
    rw [tries_again (f := fun st => ((), dropF st s)) (show (dropF (oneO s d (o :: nx) c) s).1 = 8 by rw [e]), e]
    by_cases ho : o = 1
    · rw [if_pos ho]
      exact drops_one s d nx k _ (bad_tail hb) (by simpa using h)
    · rw [if_neg ho]
      obtain ⟨c', h2⟩ := drops_no s nx k (wrap64 (c + 1)) (bad_tail hb) (by simpa using h)
      exact ⟨2, c', .inr rfl, h2⟩
theorem cdrop_one (s d : ByteArray) (nx : List Int) (c : Int) (hb : Bad nx) (hl : nx.length ≤ 3) : ∃ c', cdropF (oneO s d nx c) s = (0, noO [] c') := by
  obtain ⟨z, c1, hz, h1⟩ := drops_one s d nx 3 c hb hl
  have e : dropsF (oneO s d nx c) s = ((), z, noO [] c1) := h1
  refine ⟨c1, ?_⟩
  unfold cdropF
  rw [e]
  rcases hz with rfl | rfl <;> rfl
theorem str_bytes {bs : List Int} (h : Bts bs) : strOfNums (bytesOf (strOfNums bs)) = strOfNums bs := by rw [bytesOf_strOfNums h]
set_option maxRecDepth 100000 in
theorem awake6_calls (w : World) : Calls Try.prog 22 #[] w fun e w' => e = .returned (.bool true) ∧ Below w.heap.size w w' := by
  go_enter Try.func22, Try.ntmps22
  go_wp2_with fail
  refine (lp_new _).mono ?_
  rintro _ w1 ⟨g, m, rfl, h⟩
  have H1 := Aside0.mk h
  clear h
  go_wp2_with fail
  refine (lp_lits H1.out [2, 2, 2] (by decide)).mono ?_
  rintro _ w2 ⟨rfl, h⟩
  have H2 : Aside0 (LawP w w2 g m 0 (noO [2, 2, 2] 0)) := ⟨h⟩
  clear h
  have kc := fun (w : World) (C : Array Value) (n c : Nat) => Lib.run_convert_bytes_const (P := Try.prog) w 22 5 C n c Try.underlying22 Try.underlying5
  go_wp2_with fail
  have hb3 : Below w2.heap.size w2 (w2.alloc (.cells #[.int .u8 120] 5 (1, 2))) := (Below.refl _ w2).alloc (Nat.le_refl _) _
  have hl := lits_live w2 5 .u8 [120] (1, 2) (S := GM g m) (gm_lt H2.out.far.lt.1 H2.out.far.lt.2) (by decide)
  have hbt : Bts [120] := fun x hx => by simp at hx; omega
  refine (lp_up (H2.out.below hb3) nmA (by decide) (some ⟨w2.heap.size, 0, Option.none⟩) 1 [120] (by decide) hbt (by decide) hl).mono ?_
  obtain ⟨c', hu⟩ := up_no nmA (strOfNums [120]) named_a (by decide) (str_bytes hbt) [2, 2, 2] 0 (fun o ho => by simp at ho; omega) (by decide)
  rw [hu]
  rintro _ w3 ⟨rfl, h, _⟩
  have H3 := Aside0.mk h
  clear h hu hl hb3 kc
  go_wp2_with fail
  refine (num2_calls _ _).mono ?_
  rintro _ _ ⟨rfl, rfl⟩
  go_wp2_with fail
  refine (lp_objects H3.out (by decide)).mono ?_
  rintro _ w4 ⟨A4, c4, rfl, _, _, h⟩
  have H4 := Aside0.mk h
  clear h
  go_wp2_with fail
  go_ret
  exact ⟨rfl, H4.out.bel⟩
theorem lp_awake6 {W w : World} {g m N : Nat} {st : FS} (h : LawP W w g m N st) : Calls Try.prog 22 #[] w fun e w' => e = .returned (.bool true) ∧ LawP W w' g m N st := (awake6_calls w).mono fun e w' ⟨h1, h2⟩ => ⟨h1, h.below h2⟩
end Go.Proofs.Ytbedfilammjlpaa.P
