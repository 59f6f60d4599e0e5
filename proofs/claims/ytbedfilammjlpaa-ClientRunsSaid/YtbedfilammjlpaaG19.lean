/- A store within a law: what is called on it tells what the plain functions say, and nothing from before the law has turned. -/
import Derived.Test.YtbedfilammjlpaaG18
namespace Go.Proofs.Ytbedfilammjlpaa.P
open Go.RowKit Go.Proofs.YtbedfilammjlpaaW.PrintWords Go.Proofs.YtbedfilammjlpaaW.PrintMore Go.Maps Go.WideMaps
set_option linter.unusedVariables false
/-- W: the world in which the law began. -/
structure LawP (W w : World) (g m N : Nat) (st : FS) : Prop where
  far : FarP w (GM g m) g m N st
  bel : Below W.heap.size W w
  hg : W.heap.size ≤ g
  hm : W.heap.size ≤ m
section
variable {W w w' : World} {g m N : Nat} {st st' : FS}
theorem LawP.old (h : LawP W w g m N st) : ∀ k, GM g m k → W.heap.size ≤ k := fun k hk => by
  have h1 := h.hg
  have h2 := h.hm
  rcases hk with e | e <;> omega
theorem LawP.step (h : LawP W w g m N st) {N' : Nat} (hF : FarP w' (GM g m) g m N' st') (hs : Stp (GM g m) w w') : LawP W w' g m N' st' :=
  ⟨hF, h.bel.trans (hs.toBelow h.bel.size h.old), h.hg, h.hm⟩
theorem LawP.below (h : LawP W w g m N st) (hb : Below w.heap.size w w') : LawP W w' g m N st := h.step (h.far.below hb) (Stp.of_below hb _)
theorem LawP.row (h : LawP W w g m N st) {k : IntKind} {A : Option Addr} {xs : List Int} (hr : Kd.C (Kd.int k) W A xs.length xs) : Lives w (GM g m) (Kd.int k) A xs := Lives.came (Kd.heap_int k) hr h.bel h.old
theorem lp_new (w : World) : Calls Try.prog 14 #[] w fun e w' => ∃ g m, e = .returned (.pointer (some ⟨g, 0, none⟩)) ∧ LawP w w' g m 0 FS.none := by
  refine (newFar_calls w).mono fun e w' he => ?_
  obtain ⟨g, m, rfl, hg, hm, hgm, hF, hb⟩ := he
  exact ⟨g, m, rfl, hF (GM g m) (fun k hk => hk.elim .inl (fun e => .inr (.inl e))) (.inl rfl) (.inr rfl), hb, hg, hm⟩
/-- A law's New in the midst: W is the law's world. -/
theorem lp_new_at {W w : World} (hb0 : Below W.heap.size W w) : Calls Try.prog 14 #[] w fun e w' => ∃ g m, e = .returned (.pointer (some ⟨g, 0, none⟩)) ∧ LawP W w' g m 0 FS.none := by
  refine (lp_new w).mono fun e w' he => ?_
  obtain ⟨g, m, rfl, h⟩ := he
  have h1 := hb0.size
  exact ⟨g, m, rfl, h.far, hb0.trans (h.bel.mono h1), Nat.le_trans h1 h.hg, Nat.le_trans h1 h.hm⟩
theorem lp_put (h : LawP W w g m N st) (s : ByteArray) (hs : s.size ≤ maxLen) (A : Option Addr) (c : Nat) (bs : List Int) (hlen : bs.length ≤ 1048576) (hbs : Bts bs) (hn : N ≤ 1000000) (hr : Kd.C (Kd.int .u8) W A bs.length bs) :
    Calls Try.prog 15 #[.pointer (some ⟨g, 0, none⟩), .string s, .slice A bs.length c] w fun e w' => e = .returned (.int .i64 (putF st s (strOfNums bs)).1) ∧ LawP W w' g m (N + 1) (putF st s (strOfNums bs)).2 :=
  (put_calls h.far s hs A c bs hlen hbs (by unfold maxLen; omega) (h.row hr)).mono fun e w' ⟨h1, h2, h3⟩ => ⟨h1, h.step h2 h3⟩
theorem lp_drop (h : LawP W w g m N st) (s : ByteArray) (hs : s.size ≤ maxLen) :
    Calls Try.prog 17 #[.pointer (some ⟨g, 0, none⟩), .string s] w fun e w' => e = .returned (.int .i64 (dropF st s).1) ∧ LawP W w' g m N (dropF st s).2 :=
  (drop_calls h.far s hs).mono fun e w' ⟨h1, h2, h3⟩ => ⟨h1, h.step h2 h3⟩
theorem lp_get (h : LawP W w g m N st) (s : ByteArray) (hs : s.size ≤ maxLen) (at_ n : Int) :
    Calls Try.prog 21 #[.pointer (some ⟨g, 0, none⟩), .string s, .int .i64 at_, .int .i64 n] w fun e w' => ∃ A c, e = .returned (.tuple #[.slice A (getF st s at_ n).1.length c, .int .i64 (getF st s at_ n).2.1]) ∧ (getF st s at_ n).1.length ≤ c ∧ Lives w' (GM g m) (Kd.int .u8) A (getF st s at_ n).1 ∧ LawP W w' g m N (getF st s at_ n).2.2 :=
  (get_calls h.far s hs at_ n).mono fun e w' ⟨A, c, h1, h2, h3, h4, h5⟩ => ⟨A, c, h1, h2, h3, h.step h4 h5⟩
theorem lp_next (h : LawP W w g m N st) (A : Option Addr) (c : Nat) (l : List Int) (hr : Lives w (GM g m) (Kd.int .i64) A l) (hl : l.length ≤ 1048576) :
    Calls Try.prog 16 #[.pointer (some ⟨g, 0, none⟩), .slice A l.length c] w fun e w' => e = .returned (.tuple #[]) ∧ LawP W w' g m N ⟨st.l, l, st.calls⟩ :=
  (next_calls h.far A c l hr.now hl).mono fun e w' ⟨h1, h2, h3⟩ => ⟨h1, h.step h2 (gm_g h3)⟩
/-- Next of a literal. -/
theorem lp_lits (h : LawP W w g m N st) (xs : List Int) (hl : xs.length ≤ 1048576) :
    Calls Try.prog 16 #[.pointer (some ⟨g, 0, none⟩), .slice (some ⟨w.heap.size, 0, none⟩) xs.length xs.length] (w.alloc (.cells (nums .i64 xs).toArray 3)) fun e w' => e = .returned (.tuple #[]) ∧ LawP W w' g m N ⟨st.l, xs, st.calls⟩ := by
  have hb : Below w.heap.size w (w.alloc (.cells (nums .i64 xs).toArray 3)) := (Below.refl _ w).alloc (Nat.le_refl _) _
  exact lp_next (h.below hb) _ _ xs (lits_live w 3 .i64 xs (0, 0) (gm_lt h.far.lt.1 h.far.lt.2) (by omega)) hl
theorem lp_objects (h : LawP W w g m N st) (hN : N ≤ 1000000) : Calls Try.prog 19 #[.pointer (some ⟨g, 0, none⟩)] w fun e w' => ∃ A c, e = .returned (.slice A st.l.length c) ∧ st.l.length ≤ c ∧ Lives w' (GM g m) k58 A (st.l.map fileOf) ∧ LawP W w' g m N st := by
  refine (objects_calls h.far hN).mono fun e w' he => ?_
  obtain ⟨v, rfl, hv, hb⟩ := he
  obtain ⟨A, c, rfl, h1, h2⟩ := Lives.new hv h.far.bd
  rw [List.length_map] at h1 ⊢
  exact ⟨A, c, rfl, h1, h2, h.below hb⟩
theorem lp_list (h : LawP W w g m N st) (hN : N ≤ 1000000) : Calls Try.prog 33 #[.pointer (some ⟨g, 0, none⟩)] w fun e w' => ∃ A c, e = .returned (.tuple #[.slice A (listF st).1.length c, .int .i64 (listF st).2.1]) ∧ (listF st).1.length ≤ c ∧ Lives w' (GM g m) Kd.string A (listF st).1 ∧ LawP W w' g m N (listF st).2.2 :=
  (list_calls h.far hN).mono fun e w' ⟨A, c, h1, h2, h3, h4, h5⟩ => ⟨A, c, h1, h2, h3, h.step h4 h5⟩
theorem lp_left (h : LawP W w g m N st) : Calls Try.prog 20 #[.pointer (some ⟨g, 0, none⟩)] w fun e w' => e = .returned (.int .i64 st.nx.length) ∧ w = w' := (left_calls h.far).mono fun e w' ⟨h1, h2⟩ => ⟨h1, h2.symm⟩
theorem lp_calls (h : LawP W w g m N st) : Calls Try.prog 30 #[.pointer (some ⟨g, 0, none⟩)] w fun e w' => e = .returned (.int .i64 st.calls) ∧ w = w' := (callsOf_calls h.far).mono fun e w' ⟨h1, h2⟩ => ⟨h1, h2.symm⟩
theorem lp_awake5 (h : LawP W w g m N st) : Calls Try.prog 13 #[] w fun e w' => e = .returned (.bool true) ∧ LawP W w' g m N st := (awake5_calls w).mono fun e w' ⟨h1, h2⟩ => ⟨h1, h.below h2⟩
end
/-! ### what the plain functions come to, where a store has one object -/
def oneO (s d : ByteArray) (nx : List Int) (c : Int) : FS := ⟨[(s, d)], nx, c⟩
def noO (nx : List Int) (c : Int) : FS := ⟨[], nx, c⟩
theorem find_one (s d : ByteArray) : findO [(s, d)] s = some d := by rw [findO_cons, if_pos rfl]
theorem put_no (s d : ByteArray) (hn : named s = true) (o : Int) (nx : List Int) (c : Int) : putF (noO (o :: nx) c) s d = (toldF o 0, if o = 1 then noO nx (wrap64 (c + 1)) else oneO s d nx (wrap64 (c + 1))) := putF_free hn rfl
theorem put_no0 (s d : ByteArray) (hn : named s = true) (c : Int) : putF (noO [] c) s d = (0, oneO s d [] (wrap64 (c + 1))) := putF_free hn rfl
theorem put_one (s d d' : ByteArray) (hn : named s = true) (o : Int) (nx : List Int) (c : Int) : putF (oneO s d (o :: nx) c) s d' = (toldF o 3, oneO s d nx (wrap64 (c + 1))) := putF_taken hn (find_one s d)
theorem put_one0 (s d d' : ByteArray) (hn : named s = true) (c : Int) : putF (oneO s d [] c) s d' = (3, oneO s d [] (wrap64 (c + 1))) := putF_taken hn (find_one s d)
theorem drop_one (s d : ByteArray) (o : Int) (nx : List Int) (c : Int) : dropF (oneO s d (o :: nx) c) s = (toldF o 0, if o = 1 then oneO s d nx (wrap64 (c + 1)) else noO nx (wrap64 (c + 1))) := by
  have e : dropE [(s, d)] s = 0 := (by unfold dropE; rw [find_one]; rfl)
  have e2 : dropO [(s, d)] s = [] := by rw [dropO_cons, if_pos rfl]
  by_cases ho : o = 1
  · subst ho
    rw [dropF_one (st := oneO s d (1 :: nx) c) rfl]; rfl
  · rw [dropF_else (st := oneO s d (o :: nx) c) ho, if_neg ho]
    show (toldF o (dropE [(s, d)] s), if dropE [(s, d)] s = 0 then _ else _) = _
    rw [e, if_pos rfl]
    show (toldF o 0, FS.mk (dropO [(s, d)] s) _ _) = _
    rw [e2]; rfl
end Go.Proofs.Ytbedfilammjlpaa.P
