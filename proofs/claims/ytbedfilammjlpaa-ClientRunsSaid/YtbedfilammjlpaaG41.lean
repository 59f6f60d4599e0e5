/- The client's calls on both stores beside each other. -/
import Derived.Test.YtbedfilammjlpaaG23
import Derived.Test.YtbedfilammjlpaaG34
import Derived.Test.YtbedfilammjlpaaG35
namespace Go.Proofs.Ytbedfilammjlpaa.P
open Go.RowKit Go.Proofs.YtbedfilammjlpaaW.PrintWords Go.Proofs.YtbedfilammjlpaaW.PrintMore Go.Maps Go.WideMaps
set_option linter.unusedVariables false
theorem tries_nx {α : Type} {z : α} {f : FS → α × Int × FS} (hf : ∀ s, (f s).2.2.nx.length ≤ s.nx.length) : ∀ (k : Nat) (st : FS), (triesF z f k st).2.2.nx.length ≤ st.nx.length
  | 0, st => Nat.le_refl _
  | k + 1, st => by
    by_cases hc : (f st).2.1 = 8
    · rw [tries_again hc]; exact Nat.le_trans (tries_nx hf k _) (hf st)
    · rw [tries_done hc]; exact hf st
theorem getF_nx (st : FS) (s : ByteArray) (at_ n : Int) : (getF st s at_ n).2.2.nx.length ≤ st.nx.length := took_nx st
theorem pieceF_nx (st : FS) (s : ByteArray) (at_ n : Int) : (pieceF st s at_ n).2.2.nx.length ≤ st.nx.length := tries_nx (f := fun st => getF st s at_ n) (fun s0 => took_nx s0) 4 st
theorem namesF_nx (st : FS) : (namesF st).2.2.nx.length ≤ st.nx.length := tries_nx (f := listF) (fun s0 => took_nx s0) 4 st
theorem putsF_nx (st : FS) (s d : ByteArray) : (putsF st s d).2.2.nx.length ≤ st.nx.length := tries_nx (f := fun st => ((), putF st s d)) (fun s0 => putF_nx s0 s d) 4 st
theorem dropsF_nx (st : FS) (s : ByteArray) : (dropsF st s).2.2.nx.length ≤ st.nx.length := tries_nx (f := fun st => ((), dropF st s)) (fun s0 => dropF_nx s0 s) 4 st
theorem cdropF_nx (st : FS) (s : ByteArray) : (cdropF st s).2.nx.length ≤ st.nx.length := dropsF_nx st s
theorem upF_nx (st : FS) (s d : ByteArray) : (upF st s d).2.nx.length ≤ st.nx.length := by
  by_cases h : (putsF st s d).2.1 = 3
  · rw [upF_three h]; exact Nat.le_trans (pieceF_nx _ _ _ _) (putsF_nx st s d)
  · rw [upF_else h]; exact putsF_nx st s d
section
variable {W w w' : World} {g m h N1 N2 N3 : Nat} {s1 s2 s3 : FS}
theorem tf_up (t : Two W w g m h N1 N2 s1 s2) (s : ByteArray) (hs : s.size ≤ maxLen) (A : Option Addr) (c : Nat) (bs : List Int) (hlen : bs.length ≤ 1048576) (hbs : Bts bs) (hn : N1 + 4 ≤ 1000000) (hr : Kd.C (Kd.int .u8) W A bs.length bs) :
    Calls Try.prog 23 #[.pointer (some ⟨g, 0, none⟩), .string s, .slice A bs.length c] w fun e w' => e = .returned (.int .i64 (upF s1 s (strOfNums bs)).1) ∧ Two W w' g m h (N1 + 4) N2 (upF s1 s (strOfNums bs)).2 s2 ∧ Stp (GMH g m h) w w' :=
  (cUp_calls t.far s hs A c bs hlen hbs hn (t.rowF hr)).mono fun e w' ⟨h1, h2, h3⟩ => ⟨h1, t.stepF h2 h3, gmh_gm h3⟩
theorem tf_piece (t : Two W w g m h N1 N2 s1 s2) (s : ByteArray) (hs : s.size ≤ maxLen) (at_ n : Int) :
    Calls Try.prog 25 #[.pointer (some ⟨g, 0, none⟩), .string s, .int .i64 at_, .int .i64 n] w fun e w' => ∃ A c, e = .returned (.tuple #[.slice A (pieceF s1 s at_ n).1.length c, .int .i64 (pieceF s1 s at_ n).2.1]) ∧ Lives w' (GMH g m h) (Kd.int .u8) A (pieceF s1 s at_ n).1 ∧ Two W w' g m h N1 N2 (pieceF s1 s at_ n).2.2 s2 ∧ Stp (GMH g m h) w w' :=
  (cPiece_calls t.far s hs at_ n).mono fun e w' ⟨A, c, h1, h2, h3, h4, h5⟩ => ⟨A, c, h1, h3, t.stepF h4 h5, gmh_gm h5⟩
theorem tf_down (t : Two W w g m h N1 N2 s1 s2) (s : ByteArray) (hs : s.size ≤ maxLen) :
    Calls Try.prog 24 #[.pointer (some ⟨g, 0, none⟩), .string s] w fun e w' => ∃ A c, e = .returned (.tuple #[.slice A (pieceF s1 s 0 1048576).1.length c, .int .i64 (pieceF s1 s 0 1048576).2.1]) ∧ Lives w' (GMH g m h) (Kd.int .u8) A (pieceF s1 s 0 1048576).1 ∧ Two W w' g m h N1 N2 (pieceF s1 s 0 1048576).2.2 s2 ∧ Stp (GMH g m h) w w' :=
  (cDown_calls t.far s hs).mono fun e w' ⟨A, c, h1, h2, h3, h4, h5⟩ => ⟨A, c, h1, h3, t.stepF h4 h5, gmh_gm h5⟩
theorem tf_names (t : Two W w g m h N1 N2 s1 s2) (hN : N1 ≤ 1000000) : Calls Try.prog 34 #[.pointer (some ⟨g, 0, none⟩)] w fun e w' => ∃ A c, e = .returned (.tuple #[.slice A (namesF s1).1.length c, .int .i64 (namesF s1).2.1]) ∧ (namesF s1).1.length ≤ c ∧ Lives w' (GMH g m h) Kd.string A (namesF s1).1 ∧ Two W w' g m h N1 N2 (namesF s1).2.2 s2 ∧ Stp (GMH g m h) w w' :=
  (cNames_calls t.far hN).mono fun e w' ⟨A, c, h1, h2, h3, h4, h5⟩ => ⟨A, c, h1, h2, h3, t.stepF h4 h5, gmh_gm h5⟩
theorem tf_cdrop (t : Two W w g m h N1 N2 s1 s2) (s : ByteArray) (hs : s.size ≤ maxLen) :
    Calls Try.prog 35 #[.pointer (some ⟨g, 0, none⟩), .string s] w fun e w' => e = .returned (.int .i64 (cdropF s1 s).1) ∧ Two W w' g m h N1 N2 (cdropF s1 s).2 s2 ∧ Stp (GMH g m h) w w' :=
  (cDrop_calls t.far s hs).mono fun e w' ⟨h1, h2, h3⟩ => ⟨h1, t.stepF h2 h3, gmh_gm h3⟩
theorem tr_up (t : Two W w g m h N1 N2 s1 s2) (s : ByteArray) (hs : s.size ≤ maxLen) (A : Option Addr) (c : Nat) (bs : List Int) (hlen : bs.length ≤ 1048576) (hn : N2 + 4 ≤ 1000000) (hr : Kd.C (Kd.int .u8) W A bs.length bs) (hsz : ∀ p ∈ s2.l, p.2.size ≤ 1048576) :
    Calls Try.prog 58 #[.pointer (some ⟨h, 0, none⟩), .string s, .slice A bs.length c] w fun e w' => e = .returned (.int .i64 (upF s2 s (strOfNums bs)).1) ∧ Two W w' g m h N1 (N2 + 4) s1 (upF s2 s (strOfNums bs)).2 ∧ Stp (GMH g m h) w w' :=
  (rUp_calls t.ref hsz s hs A c bs hlen hn (t.rowR hr)).mono fun e w' ⟨h1, h2, h3⟩ => ⟨h1, t.stepR h2 h3, gmh_h h3⟩
theorem tr_piece (t : Two W w g m h N1 N2 s1 s2) (s : ByteArray) (at_ n : Int) (hsz : ∀ p ∈ s2.l, p.2.size ≤ 1048576) :
    Calls Try.prog 60 #[.pointer (some ⟨h, 0, none⟩), .string s, .int .i64 at_, .int .i64 n] w fun e w' => ∃ A c, e = .returned (.tuple #[.slice A (pieceF s2 s at_ n).1.length c, .int .i64 (pieceF s2 s at_ n).2.1]) ∧ Lives w' (GMH g m h) (Kd.int .u8) A (pieceF s2 s at_ n).1 ∧ Two W w' g m h N1 N2 s1 (pieceF s2 s at_ n).2.2 ∧ Stp (GMH g m h) w w' :=
  (rPiece_calls t.ref s at_ n hsz).mono fun e w' ⟨A, c, h1, h2, h3, h4, h5⟩ => ⟨A, c, h1, h3, t.stepR h4 h5, gmh_h h5⟩
theorem tr_down (t : Two W w g m h N1 N2 s1 s2) (s : ByteArray) (hsz : ∀ p ∈ s2.l, p.2.size ≤ 1048576) :
    Calls Try.prog 59 #[.pointer (some ⟨h, 0, none⟩), .string s] w fun e w' => ∃ A c, e = .returned (.tuple #[.slice A (pieceF s2 s 0 1048576).1.length c, .int .i64 (pieceF s2 s 0 1048576).2.1]) ∧ Lives w' (GMH g m h) (Kd.int .u8) A (pieceF s2 s 0 1048576).1 ∧ Two W w' g m h N1 N2 s1 (pieceF s2 s 0 1048576).2.2 ∧ Stp (GMH g m h) w w' :=
  (rDown_calls t.ref s hsz).mono fun e w' ⟨A, c, h1, h2, h3, h4, h5⟩ => ⟨A, c, h1, h3, t.stepR h4 h5, gmh_h h5⟩
theorem tr_names (t : Two W w g m h N1 N2 s1 s2) (hN : N2 ≤ 1000000) : Calls Try.prog 61 #[.pointer (some ⟨h, 0, none⟩)] w fun e w' => ∃ A c, e = .returned (.tuple #[.slice A (namesF s2).1.length c, .int .i64 (namesF s2).2.1]) ∧ (namesF s2).1.length ≤ c ∧ Lives w' (GMH g m h) Kd.string A (namesF s2).1 ∧ Two W w' g m h N1 N2 s1 (namesF s2).2.2 ∧ Stp (GMH g m h) w w' :=
  (rNames_calls t.ref hN).mono fun e w' ⟨A, c, h1, h2, h3, h4, h5⟩ => ⟨A, c, h1, h2, h3, t.stepR h4 h5, gmh_h h5⟩
theorem tr_cdrop (t : Two W w g m h N1 N2 s1 s2) (hn : N2 ≤ 1000000) (s : ByteArray) :
    Calls Try.prog 62 #[.pointer (some ⟨h, 0, none⟩), .string s] w fun e w' => e = .returned (.int .i64 (cdropF s2 s).1) ∧ Two W w' g m h N1 N2 s1 (cdropF s2 s).2 ∧ Stp (GMH g m h) w w' :=
  (rDrop_calls t.ref hn s).mono fun e w' ⟨h1, h2, h3⟩ => ⟨h1, t.stepR h2 h3, gmh_h h3⟩
end
end Go.Proofs.Ytbedfilammjlpaa.P
