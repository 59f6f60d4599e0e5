/- tried: a call that is made again till it tells something else than 8. The client's calls: each tried till it tells something else than 8. The client: Piece, Down, Names, Drop, Up. The client: Down, Names, Drop, Up. -/
import Derived.Test.YtbedfilammjlpaaG10
import Derived.Test.YtbedfilammjlpaaHshelf
namespace Go.Proofs.Ytbedfilammjlpaa.P
open Go.RowKit Go.Proofs.YtbedfilammjlpaaW.PrintWords Go.Proofs.YtbedfilammjlpaaW.PrintMore Go.Maps Go.WideMaps
set_option linter.unusedVariables false
theorem enters46 (caps : Array Value) : Enters 46 caps := fun w => by go_simp
theorem enters48 (caps : Array Value) : Enters 48 caps := fun w => by go_simp
theorem enters56 (caps : Array Value) : Enters 56 caps := fun w => by go_simp
theorem enters57 (caps : Array Value) : Enters 57 caps := fun w => by go_simp
set_option maxRecDepth 100000 in
theorem tried_calls (K : Nat) (caps : Array Value) (hK : Enters K caps) (Inv : Nat → World → Prop) (Q : Int → World → Prop)
    (hdo : ∀ i W, i < 4 → Inv i W → Calls Try.prog K caps W fun e w' => ∃ code, e = .returned (.int .i64 code) ∧ (code ≠ 8 → Q code w') ∧ (code = 8 → Inv (i + 1) w')) (w : World) (h0 : Inv 0 w) :
    Calls Try.prog 45 #[.func (.func K) #[] caps] w fun e w' => ∃ code, e = .returned (.int .i64 code) ∧ (code ≠ 8 → Q code w') ∧ (code = 8 → Inv 4 w') := by
  have HD := Aside0.mk hdo
  have H0 := Aside0.mk h0
  clear hdo h0
  unfold Enters at hK
  go_enter Try.func45, Try.ntmps45
  go_wp2_with fail
  repeat ((first | (with_reducible refine scope_body ?_) | go_step3); try (go_wp2_with fail))
  go_loopw [3, 4] (fun e i wr => ∃ k : Nat, k ≤ 4 ∧ e = .int .i64 8 ∧ i = .int .i64 k ∧ Aside0 (Inv k wr)) (fun _ i _ => 4 - (intOf i).toNat)
  case atStart => exact ⟨0, by omega, rfl, rfl, H0⟩
  case round =>
    clear H0
    obtain ⟨k, hk, rfl, rfl, HI⟩ := hrel
    by_cases hlt : k < 4
    · go_wp2_with fail
      repeat ((first | (with_reducible refine scope_body ?_) | go_step3); try (go_wp2_with fail))
      refine (HD.out k wr hlt HI.out).mono ?_
      rintro _ w1 ⟨code, rfl, hq, hi⟩
      have HQ := Aside0.mk hq
      have HJ := Aside0.mk hi
      clear hq hi
      by_cases hc : code = 8
      · subst hc
        go_wp2_with fail
        repeat ((first | (with_reducible refine scope_body ?_) | go_step3); try (go_wp2_with fail))
        go_roundw
        case rel => exact ⟨k + 1, by omega, rfl, by go_num, ⟨HJ.out trivial⟩⟩
        case measure => simp [intOf]; omega
      · have hz : (code != 8) = true := by simpa using hc
        have HC := Aside0.mk hc
        clear hc
        go_wp2_with fail
        repeat ((first | (with_reducible refine scope_body ?_) | go_step3); try (go_wp2_with fail))
        go_ret
        exact ⟨_, rfl, HQ.out, fun e => absurd e HC.out⟩
    · obtain rfl : k = 4 := by omega
      go_wp2_with fail
      repeat ((first | (with_reducible refine scope_body ?_) | go_step3); try (go_wp2_with fail))
      go_ret
      exact ⟨_, rfl, fun e => absurd rfl e, fun _ => HI.out⟩
end Go.Proofs.Ytbedfilammjlpaa.P
namespace Go.Proofs.Ytbedfilammjlpaa.P
open Go.RowKit Go.Proofs.YtbedfilammjlpaaW.PrintWords Go.Proofs.YtbedfilammjlpaaW.PrintMore Go.Maps Go.WideMaps
set_option linter.unusedVariables false
theorem tries_again {α : Type} {z : α} {f : FS → α × Int × FS} {k : Nat} {st : FS} (h : (f st).2.1 = 8) : triesF z f (k + 1) st = triesF z f k (f st).2.2 := by show (if _ then _ else _) = _; rw [if_pos h]
theorem tries_done {α : Type} {z : α} {f : FS → α × Int × FS} {k : Nat} {st : FS} (h : (f st).2.1 ≠ 8) : triesF z f (k + 1) st = f st := by show (if _ then _ else _) = _; rw [if_neg h]
/-- What tried tells of a closure that tells f: P the state after so many calls, R what a call leaves of its first answer. -/
theorem tried_tells {α : Type} (z : α) (f : FS → α × Int × FS) (K : Nat) (caps : Array Value) (hK : Enters K caps) (P : Nat → FS → World → Prop) (R : α → World → Prop) (hz : ∀ s, (f s).2.1 = 8 → (f s).1 = z) (hm : ∀ i s W, i ≤ 4 → P i s W → P 4 s W)
    (hdo : ∀ i s W, i < 4 → P i s W → Calls Try.prog K caps W fun e w' => e = .returned (.int .i64 (f s).2.1) ∧ P (i + 1) (f s).2.2 w' ∧ R (f s).1 w') (st : FS) (w : World) (h0 : P 0 st w) :
    Calls Try.prog 45 #[.func (.func K) #[] caps] w fun e w' => e = .returned (.int .i64 (triesF z f 4 st).2.1) ∧ P 4 (triesF z f 4 st).2.2 w' ∧ R (triesF z f 4 st).1 w' := by
  refine (tried_calls K caps hK (fun i W => ∃ s, triesF z f 4 st = triesF z f (4 - i) s ∧ P i s W ∧ (1 ≤ i → R z W)) (fun code w' => code = (triesF z f 4 st).2.1 ∧ P 4 (triesF z f 4 st).2.2 w' ∧ R (triesF z f 4 st).1 w') ?_ w ⟨st, rfl, h0, fun h => absurd h (by omega)⟩).mono ?_
  · rintro i W hi ⟨s, he, hp, _⟩
    refine (hdo i s W hi hp).mono ?_
    rintro _ w' ⟨rfl, h1, h2⟩
    have e4 : 4 - i = (4 - (i + 1)) + 1 := by omega
    refine ⟨_, rfl, fun hc => ?_, fun hc => ⟨_, ?_, h1, fun _ => ?_⟩⟩
    · rw [he, e4, tries_done hc]
      exact ⟨rfl, hm (i + 1) _ _ (by omega) h1, h2⟩
    · rw [he, e4, tries_again hc]
    · rw [← hz s hc]; exact h2
  · rintro _ w' ⟨code, rfl, h1, h2⟩
    by_cases hc : code = 8
    · obtain ⟨s, he, hp, hr⟩ := h2 hc
      have e0 : triesF z f 4 st = (z, 8, s) := he
      rw [e0, hc]
      exact ⟨rfl, hp, hr (by omega)⟩
    · obtain ⟨e, hp, hr⟩ := h1 hc
      rw [e]
      exact ⟨rfl, hp, hr⟩
section
variable {w : World} {S : Nat → Prop} {g m N : Nat} {st : FS}
theorem getF_eight {s : ByteArray} {at_ n : Int} (st : FS) (h : (getF st s at_ n).2.1 = 8) : (getF st s at_ n).1 = [] := by
  have e : toldF st.out (getE st.l s at_ n) = 8 := h
  have : toldF st.out (getE st.l s at_ n) ≠ 0 := by rw [e]; decide
  rw [getF_not this]
theorem listF_eight (st : FS) (h : (listF st).2.1 = 8) : (listF st).1 = [] := by
  have e : toldF st.out 0 = 8 := h
  unfold listF
  rw [e]; rfl
set_option maxRecDepth 100000 in
/-- Drop's closure. -/
theorem dropK_calls (h : FarP w S g m N st) (pf ps : Nat) (s : ByteArray) (hs : s.size ≤ maxLen) (cf : w.cell? ⟨pf, 0, none⟩ = some (.pointer (some ⟨g, 0, none⟩))) (cs : w.cell? ⟨ps, 0, none⟩ = some (.string s)) :
    Calls Try.prog 57 #[.pointer (some ⟨pf, 0, none⟩), .pointer (some ⟨ps, 0, none⟩)] w fun e w' => e = .returned (.int .i64 (dropF st s).1) ∧ FarP w' S g m N (dropF st s).2 ∧ Stp (GM g m) w w' := by
  have HS := Aside0.mk h
  clear h
  go_enter Try.func57, Try.ntmps57
  go_wp2_with fail
  refine (drop_calls HS.out s hs).mono ?_
  rintro _ w1 ⟨rfl, h1, h2⟩
  have H1 := Aside0.mk h1
  have H2 := Aside0.mk h2
  clear h1 h2
  go_wp2_with fail
  go_ret
  exact ⟨rfl, H1.out, H2.out⟩
set_option maxRecDepth 100000 in
/-- Up's closure. -/
theorem upK_calls (h : FarP w S g m N st) (pf ps pb : Nat) (s : ByteArray) (hs : s.size ≤ maxLen) (A : Option Addr) (c : Nat) (bs : List Int) (hlen : bs.length ≤ 1048576) (hbs : Bts bs) (hn : N < maxLen) (hr : Lives w (GM g m) (Kd.int .u8) A bs)
    (cf : w.cell? ⟨pf, 0, none⟩ = some (.pointer (some ⟨g, 0, none⟩))) (cs : w.cell? ⟨ps, 0, none⟩ = some (.string s)) (cb : w.cell? ⟨pb, 0, none⟩ = some (.slice A bs.length c)) :
    Calls Try.prog 46 #[.pointer (some ⟨pf, 0, none⟩), .pointer (some ⟨ps, 0, none⟩), .pointer (some ⟨pb, 0, none⟩)] w fun e w' => e = .returned (.int .i64 (putF st s (strOfNums bs)).1) ∧ FarP w' S g m (N + 1) (putF st s (strOfNums bs)).2 ∧ Stp (GM g m) w w' := by
  have HS := Aside0.mk h
  have HR := Aside0.mk hr
  clear h hr
  go_enter Try.func46, Try.ntmps46
  go_wp2_with fail
  refine (put_calls HS.out s hs A c bs hlen hbs hn HR.out).mono ?_
  rintro _ w1 ⟨rfl, h1, h2⟩
  have H1 := Aside0.mk h1
  have H2 := Aside0.mk h2
  clear h1 h2
  go_wp2_with fail
  go_ret
  exact ⟨rfl, H1.out, H2.out⟩
set_option maxRecDepth 100000 in
/-- Piece's closure. -/
theorem pieceK_calls (h : FarP w S g m N st) (pf ps pa pn po : Nat) (s : ByteArray) (hs : s.size ≤ maxLen) (at_ n : Int) (v0 : Value) (hpo : S po) (hpg : po ≠ g)
    (cf : w.cell? ⟨pf, 0, none⟩ = some (.pointer (some ⟨g, 0, none⟩))) (cs : w.cell? ⟨ps, 0, none⟩ = some (.string s)) (ca : w.cell? ⟨pa, 0, none⟩ = some (.int .i64 at_)) (cn : w.cell? ⟨pn, 0, none⟩ = some (.int .i64 n)) (co : w.cell? ⟨po, 0, none⟩ = some v0) (fo : w.frozen? ⟨po, 0, none⟩ = false) :
    Calls Try.prog 48 #[.pointer (some ⟨pf, 0, none⟩), .pointer (some ⟨ps, 0, none⟩), .pointer (some ⟨pa, 0, none⟩), .pointer (some ⟨pn, 0, none⟩), .pointer (some ⟨po, 0, none⟩)] w fun e w' => e = .returned (.int .i64 (getF st s at_ n).2.1) ∧ Got w' S po (getF st s at_ n).1 ∧ w'.frozen? ⟨po, 0, none⟩ = false ∧ FarP w' S g m N (getF st s at_ n).2.2 ∧ Stp (fun k => GM g m k ∨ k = po) w w' := by
  have HS := Aside0.mk h
  have hpm : po ≠ m := h.cell_ne co
  have hplt : po < w.heap.size := h.bd po hpo
  clear h
  go_enter Try.func48, Try.ntmps48
  go_wp2_with fail
  refine (get_calls HS.out s hs at_ n).mono ?_
  rintro _ w1 ⟨A, c, rfl, hc, hl, h1, h2⟩
  have H1 := Aside0.mk h1
  have H2 := Aside0.mk h2
  have HL := Aside0.mk hl
  have ngm : ¬ GM g m po := fun h => h.elim hpg hpm
  have co1 : w1.cell? ⟨po, 0, none⟩ = some v0 := h2.cell co ngm
  have fo1 : w1.frozen? ⟨po, 0, none⟩ = false := (World.frozen?_of_block (w := w) (h2.kept.2 po hplt ngm)).trans fo
  clear h1 h2 hl ngm
  go_wp2_with fail
  go_ret
  have hst : Stp (fun k => k = po) w1 (w1.setCell ⟨po, 0, none⟩ (.slice A (getF st s at_ n).1.length c)) := (Stp.refl (fun k => k = po) w1).setCell (p := ⟨po, 0, none⟩) (.inl rfl) _
  exact ⟨rfl, ⟨A, c, World.cell?_setCell_same' _ _ _ (by rw [co1]; rfl), hc, HL.out.step (hst.kept.mono (fun k e => e ▸ hpo))⟩, (by rw [World.frozen?_setCell]; exact fo1), H1.out.other hst.kept (fun k e => e ▸ hpo) (fun e => hpg e.symm) (fun e => hpm e.symm), (H2.out.mono (S2 := fun k => GM g m k ∨ k = po) (fun k h => .inl h)).trans (hst.mono (fun k e => .inr e))⟩
/-- What the closure of Names leaves. -/
structure Gots (w' : World) (S : Nat → Prop) (po : Nat) (ys : List ByteArray) : Prop where
  out : ∃ A c, w'.cell? ⟨po, 0, none⟩ = some (.slice A ys.length c) ∧ ys.length ≤ c ∧ Lives w' S Kd.string A ys
set_option maxRecDepth 100000 in
/-- Names' closure. -/
theorem namesK_calls (h : FarP w S g m N st) (hN : N ≤ 1000000) (pf po : Nat) (v0 : Value) (hpo : S po) (hpg : po ≠ g)
    (cf : w.cell? ⟨pf, 0, none⟩ = some (.pointer (some ⟨g, 0, none⟩))) (co : w.cell? ⟨po, 0, none⟩ = some v0) (fo : w.frozen? ⟨po, 0, none⟩ = false) :
    Calls Try.prog 56 #[.pointer (some ⟨pf, 0, none⟩), .pointer (some ⟨po, 0, none⟩)] w fun e w' => e = .returned (.int .i64 (listF st).2.1) ∧ Gots w' S po (listF st).1 ∧ w'.frozen? ⟨po, 0, none⟩ = false ∧ FarP w' S g m N (listF st).2.2 ∧ Stp (fun k => GM g m k ∨ k = po) w w' := by
  have HS := Aside0.mk h
  have hpm : po ≠ m := h.cell_ne co
  have hplt : po < w.heap.size := h.bd po hpo
  clear h
  go_enter Try.func56, Try.ntmps56
  go_wp2_with fail
  refine (list_calls HS.out hN).mono ?_
  rintro _ w1 ⟨A, c, rfl, hc, hl, h1, h2⟩
  have H1 := Aside0.mk h1
  have H2 := Aside0.mk h2
  have HL := Aside0.mk hl
  have ngm : ¬ GM g m po := fun h => h.elim hpg hpm
  have co1 : w1.cell? ⟨po, 0, none⟩ = some v0 := h2.cell co ngm
  have fo1 : w1.frozen? ⟨po, 0, none⟩ = false := (World.frozen?_of_block (w := w) (h2.kept.2 po hplt ngm)).trans fo
  clear h1 h2 hl ngm
  go_wp2_with fail
  go_ret
  have hst : Stp (fun k => k = po) w1 (w1.setCell ⟨po, 0, none⟩ (.slice A (listF st).1.length c)) := (Stp.refl (fun k => k = po) w1).setCell (p := ⟨po, 0, none⟩) (.inl rfl) _
  exact ⟨rfl, ⟨A, c, World.cell?_setCell_same' _ _ _ (by rw [co1]; rfl), hc, HL.out.step (hst.kept.mono (fun k e => e ▸ hpo))⟩, (by rw [World.frozen?_setCell]; exact fo1), H1.out.other hst.kept (fun k e => e ▸ hpo) (fun e => hpg e.symm) (fun e => hpm e.symm), (H2.out.mono (S2 := fun k => GM g m k ∨ k = po) (fun k h => .inl h)).trans (hst.mono (fun k e => .inr e))⟩
end
end Go.Proofs.Ytbedfilammjlpaa.P
namespace Go.Proofs.Ytbedfilammjlpaa.P
open Go.RowKit Go.Proofs.YtbedfilammjlpaaW.PrintWords Go.Proofs.YtbedfilammjlpaaW.PrintMore Go.Maps Go.WideMaps
set_option linter.unusedVariables false
section
variable {w : World} {S : Nat → Prop} {g m N : Nat} {st : FS}
theorem gm_old (h : FarP w S g m N st) {p : Nat} (hp : w.heap.size ≤ p) : ¬ GM g m p := fun e => by
  obtain ⟨h1, h2⟩ := h.lt
  rcases e with e | e <;> omega
set_option maxRecDepth 100000 in
theorem cPiece_calls (h : FarP w S g m N st) (s : ByteArray) (hs : s.size ≤ maxLen) (at_ n : Int) :
    Calls Try.prog 25 #[.pointer (some ⟨g, 0, none⟩), .string s, .int .i64 at_, .int .i64 n] w fun e w' => ∃ A c, e = .returned (.tuple #[.slice A (pieceF st s at_ n).1.length c, .int .i64 (pieceF st s at_ n).2.1]) ∧ (pieceF st s at_ n).1.length ≤ c ∧ Lives w' S (Kd.int .u8) A (pieceF st s at_ n).1 ∧ FarP w' S g m N (pieceF st s at_ n).2.2 ∧ Stp (GM g m) w w' := by
  have HS := Aside0.mk h
  have hno : ∀ p, w.heap.size ≤ p → ¬ GM g m p := fun p hp => gm_old h hp
  have hlt := h.lt
  have hsg := h.sg
  have hsm := h.sm
  have hbd := h.bd
  clear h
  go_enter Try.func25, Try.ntmps25
  go_wp2_with fail
  generalize hw5 : ((((w.alloc (.cells #[.pointer (some ⟨g, 0, none⟩)] 24)).alloc (.cells #[.string s] 9)).alloc (.cells #[.int .i64 at_] 3)).alloc (.cells #[.int .i64 n] 3)).alloc (.cells #[.slice none 0 0] 22) = w5
  have hb : Below w.heap.size w w5 := by
    rw [← hw5]
    exact (((((Below.refl _ w).alloc (Nat.le_refl _) _).alloc (by simp) _).alloc (by simp; omega) _).alloc (by simp; omega) _).alloc (by simp; omega) _
  have hsz : w5.heap.size = w.heap.size + 5 := by rw [← hw5]; simp
  have cf : w5.cell? ⟨w.heap.size, 0, none⟩ = some (.pointer (some ⟨g, 0, none⟩)) := by subst hw5; go_simp
  have cs : w5.cell? ⟨w.heap.size + 1, 0, none⟩ = some (.string s) := by subst hw5; go_simp
  have ca : w5.cell? ⟨w.heap.size + 1 + 1, 0, none⟩ = some (.int .i64 at_) := by subst hw5; go_simp
  have cn : w5.cell? ⟨w.heap.size + 1 + 1 + 1, 0, none⟩ = some (.int .i64 n) := by subst hw5; go_simp
  have co : w5.cell? ⟨w.heap.size + 1 + 1 + 1 + 1, 0, none⟩ = some (.slice none 0 0) := by subst hw5; go_simp
  have fo : w5.frozen? ⟨w.heap.size + 1 + 1 + 1 + 1, 0, none⟩ = false := by subst hw5; go_simp
  clear hw5
  generalize hpo : w.heap.size + 1 + 1 + 1 + 1 = po at *
  have hF : FarP w5 (fun k => S k ∨ k = po) g m N st := HS.out.wide (Stp.of_below hb _) (fun k hk => hk.elim .inl (fun e => .inr (by omega))) (fun k hk => hk.elim (fun h => by have := hbd k h; omega) (fun e => by omega)) (fun k hk => .inl hk)
  have hpg : po ≠ g := by omega
  have hpm : po ≠ m := by omega
  refine (tried_tells (α := List Int) [] (fun s0 => getF s0 s at_ n) 48 _ (enters48 _) (fun _ s0 W => FarP W (fun k => S k ∨ k = po) g m N s0 ∧ Stp (fun k => GM g m k ∨ k = po) w5 W ∧ (∃ v0, W.cell? ⟨po, 0, none⟩ = some v0) ∧ W.frozen? ⟨po, 0, none⟩ = false) (fun ys W => Got W (fun k => S k ∨ k = po) po ys) (fun s0 h8 => getF_eight s0 h8) (fun i s0 W _ h => h) ?_ st w5 ⟨hF, Stp.refl _ _, ⟨_, co⟩, fo⟩).mono ?_
  · rintro i s0 W _ ⟨hW, ht, ⟨v0, c0⟩, f0⟩
    have hne : ∀ p, w.heap.size ≤ p → p < po → ¬ (GM g m p ∨ p = po) := fun p h1 h2 h3 => h3.elim (hno p h1) (fun e => by omega)
    refine (pieceK_calls hW _ _ _ _ _ s hs at_ n v0 (.inr rfl) hpg (ht.cell cf (hne _ (Nat.le_refl _) (by show w.heap.size < po; omega))) (ht.cell cs (hne _ (by show _ ≤ w.heap.size + 1; omega) (by show w.heap.size + 1 < _; omega))) (ht.cell ca (hne _ (by show _ ≤ w.heap.size + 1 + 1; omega) (by show w.heap.size + 1 + 1 < _; omega))) (ht.cell cn (hne _ (by show _ ≤ w.heap.size + 1 + 1 + 1; omega) (by show w.heap.size + 1 + 1 + 1 < _; omega))) c0 f0).mono ?_
    · rintro e w' ⟨rfl, h1, hf, h2, h3⟩
      obtain ⟨A, c, h4, _, _⟩ := h1.out
      exact ⟨rfl, ⟨h2, ht.trans h3, ⟨_, h4⟩, hf⟩, h1⟩
  · rw [show triesF [] (fun s0 => getF s0 s at_ n) 4 st = pieceF st s at_ n from rfl]
    rintro e w' ⟨rfl, ⟨h1, h2, _, _⟩, ⟨A, c, h3, h4, h5⟩⟩
    have H1 := Aside0.mk h1
    have H2 := Aside0.mk h2
    have H5 := Aside0.mk h5
    clear h1 h2 h5 hF cf cs ca cn co fo
    go_wp2_with fail
    go_ret2
    refine ⟨A, c, rfl, h4, H5.out.less (fun k hk => .inl (.inl hk)), H1.out.narrow (fun k hk => .inl hk) hsg hsm, ?_⟩
    exact (Stp.of_below hb (GM g m)).then_ H2.out (fun k hk => hk.elim .inl (fun e => .inr (by omega)))
end
end Go.Proofs.Ytbedfilammjlpaa.P
namespace Go.Proofs.Ytbedfilammjlpaa.P
open Go.RowKit Go.Proofs.YtbedfilammjlpaaW.PrintWords Go.Proofs.YtbedfilammjlpaaW.PrintMore Go.Maps Go.WideMaps
set_option linter.unusedVariables false
section
variable {w : World} {S : Nat → Prop} {g m N : Nat} {st : FS}
set_option maxRecDepth 100000 in
theorem cDown_calls (h : FarP w S g m N st) (s : ByteArray) (hs : s.size ≤ maxLen) :
    Calls Try.prog 24 #[.pointer (some ⟨g, 0, none⟩), .string s] w fun e w' => ∃ A c, e = .returned (.tuple #[.slice A (pieceF st s 0 1048576).1.length c, .int .i64 (pieceF st s 0 1048576).2.1]) ∧ (pieceF st s 0 1048576).1.length ≤ c ∧ Lives w' S (Kd.int .u8) A (pieceF st s 0 1048576).1 ∧ FarP w' S g m N (pieceF st s 0 1048576).2.2 ∧ Stp (GM g m) w w' := by
  have HS := Aside0.mk h
  clear h
  go_enter Try.func24, Try.ntmps24
  go_wp2_with fail
  refine (cPiece_calls HS.out s hs 0 1048576).mono ?_
  rintro _ w1 ⟨A, c, rfl, h1, h2, h3, h4⟩
  have H2 := Aside0.mk h2
  have H3 := Aside0.mk h3
  have H4 := Aside0.mk h4
  clear h2 h3 h4
  go_wp2_with fail
  go_ret2
  exact ⟨A, c, rfl, h1, H2.out, H3.out, H4.out⟩
set_option maxRecDepth 100000 in
theorem cNames_calls (h : FarP w S g m N st) (hN : N ≤ 1000000) :
    Calls Try.prog 34 #[.pointer (some ⟨g, 0, none⟩)] w fun e w' => ∃ A c, e = .returned (.tuple #[.slice A (namesF st).1.length c, .int .i64 (namesF st).2.1]) ∧ (namesF st).1.length ≤ c ∧ Lives w' S Kd.string A (namesF st).1 ∧ FarP w' S g m N (namesF st).2.2 ∧ Stp (GM g m) w w' := by
  have HS := Aside0.mk h
  have hno : ∀ p, w.heap.size ≤ p → ¬ GM g m p := fun p hp => gm_old h hp
  have hlt := h.lt
  have hsg := h.sg
  have hsm := h.sm
  have hbd := h.bd
  clear h
  go_enter Try.func34, Try.ntmps34
  go_wp2_with fail
  generalize hw5 : (w.alloc (.cells #[.pointer (some ⟨g, 0, none⟩)] 24)).alloc (.cells #[.slice none 0 0] 53) = w5
  have hb : Below w.heap.size w w5 := by
    rw [← hw5]
    exact ((Below.refl _ w).alloc (Nat.le_refl _) _).alloc (by simp) _
  have hsz : w5.heap.size = w.heap.size + 2 := by rw [← hw5]; simp
  have cf : w5.cell? ⟨w.heap.size, 0, none⟩ = some (.pointer (some ⟨g, 0, none⟩)) := by subst hw5; go_simp
  have co : w5.cell? ⟨w.heap.size + 1, 0, none⟩ = some (.slice none 0 0) := by subst hw5; go_simp
  have fo : w5.frozen? ⟨w.heap.size + 1, 0, none⟩ = false := by subst hw5; go_simp
  clear hw5
  generalize hpo : w.heap.size + 1 = po at *
  have hF : FarP w5 (fun k => S k ∨ k = po) g m N st := HS.out.wide (Stp.of_below hb _) (fun k hk => hk.elim .inl (fun e => .inr (by omega))) (fun k hk => hk.elim (fun h => by have := hbd k h; omega) (fun e => by omega)) (fun k hk => .inl hk)
  have hpg : po ≠ g := by omega
  refine (tried_tells (α := List ByteArray) [] listF 56 _ (enters56 _) (fun _ s0 W => FarP W (fun k => S k ∨ k = po) g m N s0 ∧ Stp (fun k => GM g m k ∨ k = po) w5 W ∧ (∃ v0, W.cell? ⟨po, 0, none⟩ = some v0) ∧ W.frozen? ⟨po, 0, none⟩ = false) (fun ys W => Gots W (fun k => S k ∨ k = po) po ys) (fun s0 h8 => listF_eight s0 h8) (fun i s0 W _ h => h) ?_ st w5 ⟨hF, Stp.refl _ _, ⟨_, co⟩, fo⟩).mono ?_
  · rintro i s0 W _ ⟨hW, ht, ⟨v0, c0⟩, f0⟩
    have hne : ∀ p, w.heap.size ≤ p → p < po → ¬ (GM g m p ∨ p = po) := fun p h1 h2 h3 => h3.elim (hno p h1) (fun e => by omega)
    refine (namesK_calls hW hN _ _ v0 (.inr rfl) hpg (ht.cell cf (hne _ (Nat.le_refl _) (by show w.heap.size < po; omega))) c0 f0).mono ?_
    · rintro e w' ⟨rfl, h1, hf, h2, h3⟩
      obtain ⟨A, c, h4, _, _⟩ := h1.out
      exact ⟨rfl, ⟨h2, ht.trans h3, ⟨_, h4⟩, hf⟩, h1⟩
  · rw [show triesF [] listF 4 st = namesF st from rfl]
    rintro e w' ⟨rfl, ⟨h1, h2, _, _⟩, ⟨A, c, h3, h4, h5⟩⟩
    have H1 := Aside0.mk h1
    have H2 := Aside0.mk h2
    have H5 := Aside0.mk h5
    clear h1 h2 h5 hF cf co fo
    go_wp2_with fail
    go_ret2
    refine ⟨A, c, rfl, h4, H5.out.less (fun k hk => .inl (.inl hk)), H1.out.narrow (fun k hk => .inl hk) hsg hsm, ?_⟩
    exact (Stp.of_below hb (GM g m)).then_ H2.out (fun k hk => hk.elim .inl (fun e => .inr (by omega)))
set_option maxRecDepth 100000 in
theorem cDrop_calls (h : FarP w S g m N st) (s : ByteArray) (hs : s.size ≤ maxLen) :
    Calls Try.prog 35 #[.pointer (some ⟨g, 0, none⟩), .string s] w fun e w' => e = .returned (.int .i64 (cdropF st s).1) ∧ FarP w' S g m N (cdropF st s).2 ∧ Stp (GM g m) w w' := by
  have HS := Aside0.mk h
  have hno : ∀ p, w.heap.size ≤ p → ¬ GM g m p := fun p hp => gm_old h hp
  clear h
  go_enter Try.func35, Try.ntmps35
  go_wp2_with fail
  generalize hw5 : (w.alloc (.cells #[.pointer (some ⟨g, 0, none⟩)] 24)).alloc (.cells #[.string s] 9) = w5
  have hb : Below w.heap.size w w5 := by
    rw [← hw5]
    exact ((Below.refl _ w).alloc (Nat.le_refl _) _).alloc (by simp) _
  have cf : w5.cell? ⟨w.heap.size, 0, none⟩ = some (.pointer (some ⟨g, 0, none⟩)) := by subst hw5; go_simp
  have cs : w5.cell? ⟨w.heap.size + 1, 0, none⟩ = some (.string s) := by subst hw5; go_simp
  clear hw5
  refine (tried_tells (α := Unit) () (fun s0 => ((), dropF s0 s)) 57 _ (enters57 _) (fun _ s0 W => FarP W S g m N s0 ∧ Stp (GM g m) w5 W) (fun _ _ => True) (fun s0 h8 => rfl) (fun i s0 W _ h => h) ?_ st w5 ⟨HS.out.below hb, Stp.refl _ _⟩).mono ?_
  · rintro i s0 W _ ⟨hW, ht⟩
    refine (dropK_calls hW _ _ s hs (ht.cell cf (hno _ (Nat.le_refl _))) (ht.cell cs (hno _ (Nat.le_succ _)))).mono ?_
    rintro e w' ⟨rfl, h1, h2⟩
    exact ⟨rfl, ⟨h1, ht.trans h2⟩, trivial⟩
  · rw [show triesF () (fun s0 => ((), dropF s0 s)) 4 st = dropsF st s from rfl]
    rintro e w' ⟨rfl, ⟨h1, h2⟩, _⟩
    have H1 := Aside0.mk h1
    have H2 := Aside0.mk h2
    have cf' := h2.cell cf (hno _ (Nat.le_refl _))
    have HE : Aside0 (cdropF st s = (if (dropsF st s).2.1 = 2 then 0 else (dropsF st s).2.1, (dropsF st s).2.2)) := ⟨rfl⟩
    clear h1 h2 cf cs
    by_cases hz : (dropsF st s).2.1 = 2
    · rw [hz] at HE ⊢
      clear hz
      go_wp2_with fail
      go_ret
      rw [HE.out]
      exact ⟨rfl, H1.out, (Stp.of_below hb _).trans H2.out⟩
    · rw [if_neg hz] at HE
      generalize (dropsF st s).2.1 = z at hz HE ⊢
      have hz' : (z == 2) = false := by simpa using hz
      clear hz
      go_wp2_with fail
      go_ret
      rw [HE.out]
      exact ⟨rfl, H1.out, (Stp.of_below hb _).trans H2.out⟩
theorem bytes_eq_iff (xs ys : List Int) : (Lib.bytesOf xs == Lib.bytesOf ys) = decide (strOfNums xs = strOfNums ys) := by
  by_cases h : strOfNums xs = strOfNums ys
  · have e : Lib.bytesOf xs = Lib.bytesOf ys := by
      have := congrArg (fun t : ByteArray => t.data.toList) h
      simpa [strOfNums_data, Lib.bytesOf] using this
    rw [e, decide_eq_true h]; simp
  · rw [decide_eq_false h, beq_eq_false_iff_ne]
    intro e
    exact h (bytes_eq e)
theorem upF_three {st : FS} {s d : ByteArray} (h : (putsF st s d).2.1 = 3) : upF st s d = (if (pieceF (putsF st s d).2.2 s 0 1048576).2.1 = 0 then (if strOfNums (pieceF (putsF st s d).2.2 s 0 1048576).1 = d then 0 else 3) else (pieceF (putsF st s d).2.2 s 0 1048576).2.1, (pieceF (putsF st s d).2.2 s 0 1048576).2.2) := by unfold upF; rw [if_pos h]
theorem upF_else {st : FS} {s d : ByteArray} (h : (putsF st s d).2.1 ≠ 3) : upF st s d = ((putsF st s d).2.1, (putsF st s d).2.2) := by unfold upF; rw [if_neg h]
set_option maxRecDepth 100000 in
theorem cUp_calls (h : FarP w S g m N st) (s : ByteArray) (hs : s.size ≤ maxLen) (A : Option Addr) (c : Nat) (bs : List Int) (hlen : bs.length ≤ 1048576) (hbs : Bts bs) (hn : N + 4 ≤ 1000000) (hr : Lives w (GM g m) (Kd.int .u8) A bs) :
    Calls Try.prog 23 #[.pointer (some ⟨g, 0, none⟩), .string s, .slice A bs.length c] w fun e w' => e = .returned (.int .i64 (upF st s (strOfNums bs)).1) ∧ FarP w' S g m (N + 4) (upF st s (strOfNums bs)).2 ∧ Stp (GM g m) w w' := by
  have HS := Aside0.mk h
  have HR := Aside0.mk hr
  have hno : ∀ p, w.heap.size ≤ p → ¬ GM g m p := fun p hp => gm_old h hp
  clear h hr
  go_enter Try.func23, Try.ntmps23
  go_wp2_with fail
  generalize hw5 : ((w.alloc (.cells #[.pointer (some ⟨g, 0, none⟩)] 24)).alloc (.cells #[.string s] 9)).alloc (.cells #[.slice A bs.length c] 22) = w5
  have hb : Below w.heap.size w w5 := by
    rw [← hw5]
    exact (((Below.refl _ w).alloc (Nat.le_refl _) _).alloc (by simp) _).alloc (by simp; omega) _
  have cf : w5.cell? ⟨w.heap.size, 0, none⟩ = some (.pointer (some ⟨g, 0, none⟩)) := by subst hw5; go_simp
  have cs : w5.cell? ⟨w.heap.size + 1, 0, none⟩ = some (.string s) := by subst hw5; go_simp
  have cb : w5.cell? ⟨w.heap.size + 1 + 1, 0, none⟩ = some (.slice A bs.length c) := by subst hw5; go_simp
  clear hw5
  refine (tried_tells (α := Unit) () (fun s0 => ((), putF s0 s (strOfNums bs))) 46 _ (enters46 _) (fun i s0 W => FarP W S g m (N + i) s0 ∧ Stp (GM g m) w5 W) (fun _ _ => True) (fun s0 h8 => rfl) (fun i s0 W hi h => ⟨h.1.more (by omega), h.2⟩) ?_ st w5 ⟨HS.out.below hb, Stp.refl _ _⟩).mono ?_
  · rintro i s0 W hi ⟨hW, ht⟩
    refine (upK_calls hW _ _ _ s hs A c bs hlen hbs (by unfold maxLen; omega) (HR.out.step ((Stp.of_below hb _).trans ht).kept) (ht.cell cf (hno _ (Nat.le_refl _))) (ht.cell cs (hno _ (Nat.le_succ _))) (ht.cell cb (hno _ (by show w.heap.size ≤ w.heap.size + 1 + 1; omega)))).mono ?_
    rintro e w' ⟨rfl, h1, h2⟩
    exact ⟨rfl, ⟨h1, ht.trans h2⟩, trivial⟩
  · rw [show triesF () (fun s0 => ((), putF s0 s (strOfNums bs))) 4 st = putsF st s (strOfNums bs) from rfl]
    rintro e w' ⟨rfl, ⟨h1, h2⟩, _⟩
    have H1 := Aside0.mk h1
    have H2 := Aside0.mk ((Stp.of_below hb _).trans h2)
    have cf' := h2.cell cf (hno _ (Nat.le_refl _))
    have cs' := h2.cell cs (hno _ (Nat.le_succ _))
    have cb' := h2.cell cb (hno _ (by show w.heap.size ≤ w.heap.size + 1 + 1; omega))
    clear h1 h2 cf cs cb
    have hup : ∀ {v : Value} {p : Nat} {w2 : World}, w.heap.size ≤ p → w'.cell? ⟨p, 0, none⟩ = some v → Stp (GM g m) w' w2 → w2.cell? ⟨p, 0, none⟩ = some v := fun hp hc hst => hst.cell hc (hno _ hp)
    by_cases hz : (putsF st s (strOfNums bs)).2.1 = 3
    · have HE := Aside0.mk (upF_three hz)
      rw [hz]
      generalize (putsF st s (strOfNums bs)).2.2 = st2 at H1 HE
      clear hz
      go_wp2_with fail
      refine (cDown_calls H1.out s hs).mono ?_
      rintro _ w2 ⟨A2, c2, rfl, hc2, hl2, h3, h4⟩
      have H3 := Aside0.mk h3
      have H4 := Aside0.mk (H2.out.trans h4)
      have HL := Aside0.mk hl2
      have cb2 := hup (by omega) cb' h4
      clear hl2 h3 h4 hup
      generalize (pieceF st2 s 0 1048576).1 = got at HL HE hc2 ⊢
      generalize (pieceF st2 s 0 1048576).2.2 = st3 at H3 HE
      by_cases h0 : (pieceF st2 s 0 1048576).2.1 = 0
      · rw [if_pos h0] at HE
        rw [h0]
        clear h0
        have k1 := Kd.C_string (P := Try.prog) (src := 22) (dst := 9) (c := c2) Try.underlying22 Try.underlying5 Try.underlying9 HL.out.now
        have k2 := Kd.C_string (P := Try.prog) (src := 22) (dst := 9) (c := c) Try.underlying22 Try.underlying5 Try.underlying9 (HR.out.step H4.out.kept).now
        have K := Aside0.mk (Try.bytes_Equal _ _ _ _ w2 k1 k2)
        clear k1 k2
        go_wp2_with fail
        refine K.out.mono ?_
        rw [bytes_eq_iff]
        by_cases he : strOfNums got = strOfNums bs
        · rw [if_pos he] at HE
          rw [decide_eq_true he]
          rintro _ _ ⟨rfl, rfl⟩
          clear he K
          go_wp2_with fail
          go_ret
          rw [HE.out]
          exact ⟨rfl, H3.out, H4.out⟩
        · rw [if_neg he] at HE
          rw [decide_eq_false he]
          rintro _ _ ⟨rfl, rfl⟩
          clear he K
          go_wp2_with fail
          go_ret
          rw [HE.out]
          exact ⟨rfl, H3.out, H4.out⟩
      · rw [if_neg h0] at HE
        generalize (pieceF st2 s 0 1048576).2.1 = z at h0 HE ⊢
        have hz' : (z != 0) = true := by simpa using h0
        clear h0
        go_wp2_with fail
        go_ret
        rw [HE.out]
        exact ⟨rfl, H3.out, H4.out⟩
    · have HE := Aside0.mk (upF_else hz)
      generalize (putsF st s (strOfNums bs)).2.2 = st2 at H1 HE
      generalize (putsF st s (strOfNums bs)).2.1 = z at hz HE ⊢
      have hz' : (z != 3) = true := by simpa using hz
      clear hz hup
      go_wp2_with fail
      go_ret
      rw [HE.out]
      exact ⟨rfl, H1.out, H2.out⟩
end
end Go.Proofs.Ytbedfilammjlpaa.P
