/- The document's client: Up, Down, Piece, Names, Drop. -/
import Derived.Test.YtbedfilammjlpaaG33
import Derived.Test.YtbedfilammjlpaaG17
namespace Go.Proofs.Ytbedfilammjlpaa.P
open Go.RowKit Go.Proofs.YtbedfilammjlpaaW.PrintWords Go.Proofs.YtbedfilammjlpaaW.PrintMore Go.Maps Go.WideMaps
set_option linter.unusedVariables false
/-- No object is great. -/
def Small (st : FS) : Prop := ∀ p ∈ st.l, p.2.size ≤ 1048576
theorem small_took {st : FS} (h : Small st) : Small st.took := h
theorem small_put {st : FS} {s d : ByteArray} (h : Small st) (hd : d.size ≤ 1048576) : Small (putF st s d).2 := by
  unfold putF
  split
  · exact h
  · dsimp only
    split
    · intro p hp
      rcases mem_ins hp with e | e
      · rw [e]; exact hd
      · exact h p e
    · exact h
theorem small_tries {α : Type} {z : α} {f : FS → α × Int × FS} (hf : ∀ s, Small s → Small (f s).2.2) : ∀ (k : Nat) (st : FS), Small st → Small (triesF z f k st).2.2
  | 0, st, h => h
  | k + 1, st, h => by
    by_cases hc : (f st).2.1 = 8
    · rw [tries_again hc]; exact small_tries hf k _ (hf st h)
    · rw [tries_done hc]; exact hf st h
theorem small_puts {st : FS} {s d : ByteArray} (h : Small st) (hd : d.size ≤ 1048576) : Small (putsF st s d).2.2 := small_tries (f := fun st => ((), putF st s d)) (fun s0 h => small_put h hd) 4 st h
theorem small_piece {st : FS} {s : ByteArray} {at_ n : Int} (h : Small st) : Small (pieceF st s at_ n).2.2 := small_tries (f := fun st => getF st s at_ n) (fun s0 h => h) 4 st h
section
variable {w : World} {S : Nat → Prop} {h N : Nat} {st : FS}
set_option maxRecDepth 100000 in
theorem rPiece_calls (r : RefP w S h N st) (s : ByteArray) (at_ n : Int) (hsz : Small st) :
    Calls Try.prog 60 #[.pointer (some ⟨h, 0, none⟩), .string s, .int .i64 at_, .int .i64 n] w fun e w' => ∃ A c, e = .returned (.tuple #[.slice A (pieceF st s at_ n).1.length c, .int .i64 (pieceF st s at_ n).2.1]) ∧ (pieceF st s at_ n).1.length ≤ c ∧ Lives w' S (Kd.int .u8) A (pieceF st s at_ n).1 ∧ RefP w' S h N (pieceF st s at_ n).2.2 ∧ Stp (fun k => k = h) w w' := by
  have HR := Aside0.mk r
  have HZ := Aside0.mk hsz
  clear r hsz
  go_enter Try.func60, Try.ntmps60
  go_wp2_with fail
  go_loopw [10] (fun i wr => ∃ (k : Nat) (s0 : FS), k ≤ 4 ∧ i = .int .i64 k ∧ Aside0 (pieceF st s at_ n = triesF [] (fun st => getF st s at_ n) (4 - k) s0 ∧ RefP wr S h N s0 ∧ Stp (fun k => k = h) w wr ∧ Small s0)) (fun i _ => 4 - (intOf i).toNat)
  case atStart => exact ⟨0, st, by omega, rfl, ⟨rfl, HR.out, Stp.refl _ _, HZ.out⟩⟩
  case round =>
    obtain ⟨k, s0, hk, rfl, HI⟩ := hrel
    by_cases hlt : k < 4
    · go_wp2_with fail
      refine (refGet_calls HI.out.2.1 s at_ n HI.out.2.2.2).mono ?_
      rintro _ w1 ⟨A, c, rfl, hc, hl, h1, h2⟩
      have H1 := Aside0.mk h1
      have H2 := Aside0.mk h2
      have HL := Aside0.mk hl
      have e4 : 4 - k = (4 - (k + 1)) + 1 := by omega
      clear h1 h2 hl
      by_cases h8 : (getF s0 s at_ n).2.1 = 8
      · have HE : Aside0 (pieceF st s at_ n = triesF [] (fun st => getF st s at_ n) (4 - (k + 1)) (getF s0 s at_ n).2.2) := ⟨by rw [HI.out.1, e4, tries_again (f := fun st => getF st s at_ n) h8]⟩
        rw [h8]
        clear h8
        go_wp2_with fail
        go_roundw
        case rel => exact ⟨k + 1, _, by omega, by go_num, ⟨HE.out, H1.out, HI.out.2.2.1.trans H2.out, HI.out.2.2.2⟩⟩
        case measure => simp [intOf]; omega
      · have HE : Aside0 (pieceF st s at_ n = getF s0 s at_ n) := ⟨by rw [HI.out.1, e4, tries_done (f := fun st => getF st s at_ n) h8]⟩
        rw [← HE.out] at h8 hc HL H1 ⊢
        generalize hzz : (pieceF st s at_ n).2.1 = z at h8 ⊢
        have HZZ := Aside0.mk hzz
        have hz : (z != 8) = true := by simpa using h8
        clear h8 hzz
        go_wp2_with fail
        go_ret2
        rw [HZZ.out]
        exact ⟨A, c, rfl, hc, HL.out, H1.out, HI.out.2.2.1.trans H2.out⟩
    · obtain rfl : k = 4 := by omega
      go_wp2_with fail
      go_ret2
      have e0 : pieceF st s at_ n = ([], 8, s0) := HI.out.1
      rw [e0]
      exact ⟨none, 0, rfl, Nat.le_refl _, Lives.nil _ _ _, HI.out.2.1, HI.out.2.2.1⟩
set_option maxRecDepth 100000 in
theorem rDown_calls (r : RefP w S h N st) (s : ByteArray) (hsz : Small st) :
    Calls Try.prog 59 #[.pointer (some ⟨h, 0, none⟩), .string s] w fun e w' => ∃ A c, e = .returned (.tuple #[.slice A (pieceF st s 0 1048576).1.length c, .int .i64 (pieceF st s 0 1048576).2.1]) ∧ (pieceF st s 0 1048576).1.length ≤ c ∧ Lives w' S (Kd.int .u8) A (pieceF st s 0 1048576).1 ∧ RefP w' S h N (pieceF st s 0 1048576).2.2 ∧ Stp (fun k => k = h) w w' := by
  have HR := Aside0.mk r
  have HZ := Aside0.mk hsz
  clear r hsz
  go_enter Try.func59, Try.ntmps59
  go_wp2_with fail
  refine (rPiece_calls HR.out s 0 1048576 HZ.out).mono ?_
  rintro _ w1 ⟨A, c, rfl, h1, h2, h3, h4⟩
  have H2 := Aside0.mk h2
  have H3 := Aside0.mk h3
  have H4 := Aside0.mk h4
  clear h2 h3 h4
  go_wp2_with fail
  go_ret2
  exact ⟨A, c, rfl, h1, H2.out, H3.out, H4.out⟩
set_option maxRecDepth 100000 in
theorem rNames_calls (r : RefP w S h N st) (hN : N ≤ 1000000) :
    Calls Try.prog 61 #[.pointer (some ⟨h, 0, none⟩)] w fun e w' => ∃ A c, e = .returned (.tuple #[.slice A (namesF st).1.length c, .int .i64 (namesF st).2.1]) ∧ (namesF st).1.length ≤ c ∧ Lives w' S Kd.string A (namesF st).1 ∧ RefP w' S h N (namesF st).2.2 ∧ Stp (fun k => k = h) w w' := by
  have HR := Aside0.mk r
  clear r
  go_enter Try.func61, Try.ntmps61
  go_wp2_with fail
  go_loopw [4] (fun i wr => ∃ (k : Nat) (s0 : FS), k ≤ 4 ∧ i = .int .i64 k ∧ Aside0 (namesF st = triesF [] listF (4 - k) s0 ∧ RefP wr S h N s0 ∧ Stp (fun k => k = h) w wr)) (fun i _ => 4 - (intOf i).toNat)
  case atStart => exact ⟨0, st, by omega, rfl, ⟨rfl, HR.out, Stp.refl _ _⟩⟩
  case round =>
    obtain ⟨k, s0, hk, rfl, HI⟩ := hrel
    by_cases hlt : k < 4
    · go_wp2_with fail
      refine (refList_calls HI.out.2.1 hN).mono ?_
      rintro _ w1 ⟨A, c, rfl, hc, hl, h1, h2⟩
      have H1 := Aside0.mk h1
      have H2 := Aside0.mk h2
      have HL := Aside0.mk hl
      have e4 : 4 - k = (4 - (k + 1)) + 1 := by omega
      clear h1 h2 hl
      by_cases h8 : (listF s0).2.1 = 8
      · have HE : Aside0 (namesF st = triesF [] listF (4 - (k + 1)) (listF s0).2.2) := ⟨by rw [HI.out.1, e4, tries_again (f := listF) h8]⟩
        rw [h8]
        clear h8
        go_wp2_with fail
        go_roundw
        case rel => exact ⟨k + 1, _, by omega, by go_num, ⟨HE.out, H1.out, HI.out.2.2.trans H2.out⟩⟩
        case measure => simp [intOf]; omega
      · have HE : Aside0 (namesF st = listF s0) := ⟨by rw [HI.out.1, e4, tries_done (f := listF) h8]⟩
        rw [← HE.out] at h8 hc HL H1 ⊢
        generalize hzz : (namesF st).2.1 = z at h8 ⊢
        have HZZ := Aside0.mk hzz
        have hz : (z != 8) = true := by simpa using h8
        clear h8 hzz
        go_wp2_with fail
        go_ret2
        rw [HZZ.out]
        exact ⟨A, c, rfl, hc, HL.out, H1.out, HI.out.2.2.trans H2.out⟩
    · obtain rfl : k = 4 := by omega
      go_wp2_with fail
      go_ret2
      have e0 : namesF st = ([], 8, s0) := HI.out.1
      rw [e0]
      exact ⟨none, 0, rfl, Nat.le_refl _, Lives.nil _ _ _, HI.out.2.1, HI.out.2.2⟩
set_option maxRecDepth 100000 in
theorem rDrop_calls (r : RefP w S h N st) (hN : N ≤ 1000000) (s : ByteArray) :
    Calls Try.prog 62 #[.pointer (some ⟨h, 0, none⟩), .string s] w fun e w' => e = .returned (.int .i64 (cdropF st s).1) ∧ RefP w' S h N (cdropF st s).2 ∧ Stp (fun k => k = h) w w' := by
  have HR := Aside0.mk r
  have HC : Aside0 (cdropF st s = (if (dropsF st s).2.1 = 2 then 0 else (dropsF st s).2.1, (dropsF st s).2.2)) := ⟨rfl⟩
  clear r
  go_enter Try.func62, Try.ntmps62
  go_wp2_with fail
  go_loopw [5] (fun i wr => ∃ (k : Nat) (s0 : FS), k ≤ 4 ∧ i = .int .i64 k ∧ Aside0 (dropsF st s = triesF () (fun st => ((), dropF st s)) (4 - k) s0 ∧ RefP wr S h N s0 ∧ Stp (fun k => k = h) w wr)) (fun i _ => 4 - (intOf i).toNat)
  case atStart => exact ⟨0, st, by omega, rfl, ⟨rfl, HR.out, Stp.refl _ _⟩⟩
  case round =>
    obtain ⟨k, s0, hk, rfl, HI⟩ := hrel
    by_cases hlt : k < 4
    · go_wp2_with fail
      refine (refDrop_calls HI.out.2.1 hN s).mono ?_
      rintro _ w1 ⟨rfl, h1, h2⟩
      have H1 := Aside0.mk h1
      have H2 := Aside0.mk h2
      have e4 : 4 - k = (4 - (k + 1)) + 1 := by omega
      clear h1 h2
      by_cases h8 : (dropF s0 s).1 = 8
      · have HE : Aside0 (dropsF st s = triesF () (fun st => ((), dropF st s)) (4 - (k + 1)) (dropF s0 s).2) := ⟨by rw [HI.out.1, e4, tries_again (f := fun st => ((), dropF st s)) h8]⟩
        rw [h8]
        clear h8
        go_wp2_with fail
        go_roundw
        case rel => exact ⟨k + 1, _, by omega, by go_num, ⟨HE.out, H1.out, HI.out.2.2.trans H2.out⟩⟩
        case measure => simp [intOf]; omega
      · have HE : Aside0 (dropsF st s = ((), dropF s0 s)) := ⟨by rw [HI.out.1, e4, tries_done (f := fun st => ((), dropF st s)) h8]⟩
        rw [HE.out] at HC
        by_cases h2 : (dropF s0 s).1 = 2
        · rw [if_pos h2] at HC
          rw [h2]
          clear h8 h2
          go_wp2_with fail
          go_ret
          rw [HC.out]
          exact ⟨rfl, H1.out, HI.out.2.2.trans H2.out⟩
        · rw [if_neg h2] at HC
          generalize (dropF s0 s).1 = z at h2 h8 HC ⊢
          have hz2 : (z == 2) = false := by simpa using h2
          have hz8 : (z == 8) = false := by simpa using h8
          clear h8 h2
          go_wp2_with fail
          go_ret
          rw [HC.out]
          exact ⟨rfl, H1.out, HI.out.2.2.trans H2.out⟩
    · obtain rfl : k = 4 := by omega
      go_wp2_with fail
      go_ret
      have e0 : dropsF st s = ((), 8, s0) := HI.out.1
      rw [HC.out, e0]
      exact ⟨rfl, HI.out.2.1, HI.out.2.2⟩
set_option maxRecDepth 100000 in
theorem rUp_calls (r : RefP w S h N st) (hsz : Small st) (s : ByteArray) (hs : s.size ≤ maxLen) (A : Option Addr) (c : Nat) (bs : List Int) (hlen : bs.length ≤ 1048576) (hn : N + 4 ≤ 1000000) (hr : Lives w (fun k => k = h) (Kd.int .u8) A bs) :
    Calls Try.prog 58 #[.pointer (some ⟨h, 0, none⟩), .string s, .slice A bs.length c] w fun e w' => e = .returned (.int .i64 (upF st s (strOfNums bs)).1) ∧ RefP w' S h (N + 4) (upF st s (strOfNums bs)).2 ∧ Stp (fun k => k = h) w w' := by
  have HR := Aside0.mk r
  have HZ := Aside0.mk hsz
  have HB := Aside0.mk hr
  clear r hsz hr
  go_enter Try.func58, Try.ntmps58
  go_wp2_with fail
  go_loopw [7, 8] (fun e i wr => ∃ (k : Nat) (s0 : FS) (z : Int), k ≤ 4 ∧ e = .int .i64 z ∧ i = .int .i64 k ∧ Aside0 ((z = 8 → putsF st s (strOfNums bs) = triesF () (fun st => ((), putF st s (strOfNums bs))) (4 - k) s0) ∧ (z ≠ 8 → putsF st s (strOfNums bs) = ((), z, s0)) ∧ RefP wr S h (N + k) s0 ∧ Stp (fun k => k = h) w wr ∧ Small s0)) (fun _ i _ => 4 - (intOf i).toNat)
  case atStart => exact ⟨0, st, 8, by omega, rfl, rfl, ⟨fun _ => rfl, fun e => absurd rfl e, HR.out, Stp.refl _ _, HZ.out⟩⟩
  case round =>
    obtain ⟨k, s0, z, hk, rfl, rfl, HI⟩ := hrel
    by_cases hgo : k < 4 ∧ z = 8
    · obtain ⟨hlt, rfl⟩ := hgo
      go_wp2_with fail
      refine (refPut_calls HI.out.2.2.1 (by omega) s hs A c bs hlen (HB.out.step HI.out.2.2.2.1.kept)).mono ?_
      rintro _ w1 ⟨rfl, h1, h2⟩
      have H1 := Aside0.mk h1
      have H2 := Aside0.mk h2
      have e4 : 4 - k = (4 - (k + 1)) + 1 := by omega
      clear h1 h2
      go_wp2_with fail
      go_roundw
      case rel =>
        refine ⟨k + 1, _, _, by omega, rfl, by go_num, ⟨fun h8 => ?_, fun h8 => ?_, H1.out, HI.out.2.2.2.1.trans H2.out, small_put HI.out.2.2.2.2 (by rw [size_strOfNums]; exact hlen)⟩⟩
        · rw [HI.out.1 trivial, e4, tries_again (f := fun st => ((), putF st s (strOfNums bs))) h8]
        · rw [HI.out.1 trivial, e4, tries_done (f := fun st => ((), putF st s (strOfNums bs))) h8]
      case measure => simp [intOf]; omega
    · have hend : putsF st s (strOfNums bs) = ((), z, s0) := by
        by_cases h8 : z = 8
        · obtain rfl : k = 4 := by
            by_cases h4 : k < 4
            · exact absurd ⟨h4, h8⟩ hgo
            · omega
          rw [HI.out.1 h8, h8]; rfl
        · exact HI.out.2.1 h8
      have H1 : Aside0 (RefP wr S h (N + 4) s0) := ⟨HI.out.2.2.1.more (by omega)⟩
      have H2 := Aside0.mk HI.out.2.2.2.1
      have HZ0 := Aside0.mk HI.out.2.2.2.2
      have hq : (k < 4 ∧ z ≠ 8) ∨ k = 4 := by
        by_cases h4 : k < 4
        · exact .inl ⟨h4, fun h8 => hgo ⟨h4, h8⟩⟩
        · exact .inr (by omega)
      clear hgo HI
      by_cases h3 : z = 3
      · have HE := Aside0.mk (upF_three (st := st) (s := s) (d := strOfNums bs) (by rw [hend]; exact h3))
        rw [show (putsF st s (strOfNums bs)).2.2 = s0 by rw [hend]] at HE
        subst h3
        clear hend
        rcases hq with ⟨q1, q2⟩ | rfl
        all_goals
          go_wp2_with fail
          refine (rDown_calls H1.out s HZ0.out).mono ?_
          rintro _ w2 ⟨A2, c2, rfl, hc2, hl2, h3, h4⟩
          have H3 := Aside0.mk h3
          have H4 := Aside0.mk (H2.out.trans h4)
          have HL := Aside0.mk hl2
          clear hl2 h3 h4
          generalize (pieceF s0 s 0 1048576).1 = got at HL HE hc2 ⊢
          generalize (pieceF s0 s 0 1048576).2.2 = st3 at H3 HE
          by_cases h0 : (pieceF s0 s 0 1048576).2.1 = 0
          · rw [if_pos h0] at HE
            rw [h0]
            clear h0
            have k1 := Kd.C_string (P := Try.prog) (src := 22) (dst := 9) (c := c2) Try.underlying22 Try.underlying5 Try.underlying9 HL.out.now
            have k2 := Kd.C_string (P := Try.prog) (src := 22) (dst := 9) (c := c) Try.underlying22 Try.underlying5 Try.underlying9 (HB.out.step H4.out.kept).now
            by_cases he : strOfNums got = strOfNums bs
            · rw [if_pos he] at HE
              rw [he] at k1
              clear he
              go_wp2_with fail
              go_ret
              rw [HE.out]
              exact ⟨rfl, H3.out, H4.out⟩
            · rw [if_neg he] at HE
              have hb : ((strOfNums got).toList == (strOfNums bs).toList) = false := file_ne he
              clear he
              go_wp2_with fail
              go_ret
              rw [HE.out]
              exact ⟨rfl, H3.out, H4.out⟩
          · rw [if_neg h0] at HE
            generalize (pieceF s0 s 0 1048576).2.1 = z at h0 HE ⊢
            have hz' : (z != 0) = true := by simpa using h0
            clear h0
            go_wp2_with fail
            go_ret
            rw [HE.out]
            exact ⟨rfl, H3.out, H4.out⟩
      · have HE := Aside0.mk (upF_else (st := st) (s := s) (d := strOfNums bs) (by rw [hend]; exact h3))
        rw [hend] at HE
        have hz' : (z != 3) = true := by simpa using h3
        clear hend h3
        rcases hq with ⟨q1, q2⟩ | rfl
        · have hz8 : (z == 8) = false := by simpa using q2
          clear q2
          go_wp2_with fail
          go_ret
          rw [HE.out]
          exact ⟨rfl, H1.out, H2.out⟩
        · go_wp2_with fail
          go_ret
          rw [HE.out]
          exact ⟨rfl, H1.out, H2.out⟩
end
end Go.Proofs.Ytbedfilammjlpaa.P
