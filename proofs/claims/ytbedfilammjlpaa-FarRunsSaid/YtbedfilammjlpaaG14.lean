/- The document's far store: Get. -/
import Derived.Test.YtbedfilammjlpaaG13
namespace Go.Proofs.Ytbedfilammjlpaa.P
open Go.RowKit Go.Proofs.YtbedfilammjlpaaW.PrintWords Go.Proofs.YtbedfilammjlpaaW.PrintMore Go.Maps Go.WideMaps
set_option linter.unusedVariables false
theorem part_is (l : List Int) (a n : Int) (hl : l.length ≤ 1048576) (h0 : 0 ≤ a) (h1 : a ≤ l.length) (h2 : 0 ≤ n) : iceboxref4_part.f l a n = some (cutF l a n) := by
  have hw1 : wrap64 ((l.length : Int) - a) = (l.length : Int) - a := by unfold wrap64; omega
  have hm : 0 ≤ mn n ((l.length : Int) - a) ∧ mn n ((l.length : Int) - a) ≤ (l.length : Int) - a := by unfold mn; split <;> omega
  have hw2 : wrap64 (a + mn n ((l.length : Int) - a)) = a + mn n ((l.length : Int) - a) := by unfold wrap64; omega
  unfold iceboxref4_part.f
  simp only [Option.bind_some]
  rw [hw1, hw2, if_pos h0, if_pos (by omega), if_pos (by omega), if_pos ?_]
  · unfold cutF
    simp
  · rw [List.length_nil, List.length_drop, List.length_take]
    omega
theorem part_calls (d : ByteArray) (a n : Int) (A : Option Addr) (c : Nat) (w : World) (hC : Kd.C (Kd.int .u8) w A (bytesOf d).length (bytesOf d)) (hc : d.size ≤ c) (hl : d.size ≤ 1048576) (h0 : 0 ≤ a) (h1 : a ≤ d.size) (h2 : 0 ≤ n) :
    Calls Try.prog 68 #[.slice A d.size c, .int .i64 a, .int .i64 n] w fun e w' => ∃ v, e = .returned v ∧ Kd.R (Kd.int .u8) 5 w' w.heap.size (fun _ => True) v (cutF (bytesOf d) a n) ∧ Below w.heap.size w w' := by
  have hlen := bytesOf_length d
  have := iceboxref4_part.calls A c (bytesOf d) a n (cutF (bytesOf d) a n) w hC (by omega) (part_is _ _ _ (by omega) h0 (by omega) h2)
  rw [hlen] at this
  exact this
section
variable {w w' : World} {S S2 : Nat → Prop} {h N : Nat} {st : FS}
theorem told_ne {out e : Int} (h : e ≠ 0) : toldF out e ≠ 0 := fun h2 => h (told_zero h2)
theorem ne_tests {z : Int} (h : z ≠ 0) : (z == 0) = false ∧ (z != 0) = true := by
  constructor <;> simpa using h
set_option maxRecDepth 100000 in
theorem refGet_none (r : RefP w S h N st) (s : ByteArray) (at_ n : Int) (hf : findO st.l s = none) : Calls Try.prog 51 #[.pointer (some ⟨h, 0, none⟩), .string s, .int .i64 at_, .int .i64 n] w fun e w' => e = .returned (.tuple #[.slice none 0 0, .int .i64 (toldF st.out 2)]) ∧ RefP w' S h N st.took ∧ Stp (fun k => k = h) w w' := by
  have HR := Aside0.mk r
  have HI : Aside0 (idxI st.took.l s = -1) := ⟨by unfold idxI; rw [FS.took_l, idxO_none hf]⟩
  clear r hf
  go_enter Try.func51, Try.ntmps51
  go_wp2_with fail
  refine (take_calls HR.out).mono ?_
  rintro _ w1 ⟨rfl, hr1, hs1⟩
  have HR1 := Aside0.mk hr1
  have HS1 := Aside0.mk hs1
  clear hr1 hs1
  go_wp2_with fail
  refine (at_calls HR1.out s).mono ?_
  rw [HI.out]
  rintro _ _ ⟨rfl, rfl⟩
  go_wp2_with fail
  refine (told_calls _ 2 _).mono ?_
  rintro _ w2 ⟨rfl, hd⟩
  have HD := Aside0.mk hd
  clear hd
  obtain ⟨b1, b2⟩ := ne_tests (told_ne (out := st.out) (e := 2) (by decide))
  go_wp2_with fail
  refine (told_calls _ 2 _).mono ?_
  rintro _ w3 ⟨rfl, hd⟩
  have HD2 := Aside0.mk hd
  clear hd
  go_wp2_with fail
  go_ret2
  exact ⟨rfl, (HR1.out.drawn HD.out).drawn HD2.out, (HS1.out.drawn HD.out).drawn HD2.out⟩
set_option maxRecDepth 100000 in
theorem refGet_arg (r : RefP w S h N st) (s : ByteArray) (at_ n : Int) {d : ByteArray} (hf : findO st.l s = some d) (hds : d.size ≤ 1048576) (hbad : at_ < 0 ∨ (d.size : Int) < at_ ∨ n < 0) : Calls Try.prog 51 #[.pointer (some ⟨h, 0, none⟩), .string s, .int .i64 at_, .int .i64 n] w fun e w' => e = .returned (.tuple #[.slice none 0 0, .int .i64 (toldF st.out 1)]) ∧ RefP w' S h N st.took ∧ Stp (fun k => k = h) w w' := by
  have HR := Aside0.mk r
  obtain ⟨i, hi, hil, he, _, _⟩ := idxO_some hf
  have HI : Aside0 (idxI st.took.l s = (i : Int)) := ⟨by unfold idxI; rw [FS.took_l, hi]⟩
  have HE := Aside0.mk he
  clear r hf hi he
  have key : ∀ (b1 : at_ < 0 ∨ ¬ at_ < 0 ∧ (d.size : Int) < at_ ∨ (¬ at_ < 0 ∧ ¬ (d.size : Int) < at_ ∧ n < 0)), Calls Try.prog 51 #[.pointer (some ⟨h, 0, none⟩), .string s, .int .i64 at_, .int .i64 n] w fun e w' => e = .returned (.tuple #[.slice none 0 0, .int .i64 (toldF st.out 1)]) ∧ RefP w' S h N st.took ∧ Stp (fun k => k = h) w w' := by
    intro b
    rcases b with q1 | ⟨q1, q2⟩ | ⟨q1, q2, q3⟩
    all_goals
      clear hbad
      go_enter Try.func51, Try.ntmps51
      go_wp2_with fail
      refine (take_calls HR.out).mono ?_
      rintro _ w1 ⟨rfl, hr1, hs1⟩
      have HR1 := Aside0.mk hr1
      have HS1 := Aside0.mk hs1
      clear hr1 hs1
      go_wp2_with fail
      refine (at_calls HR1.out s).mono ?_
      rw [HI.out]
      rintro _ _ ⟨rfl, rfl⟩
      obtain ⟨A, c, c0, hlc, hl0⟩ := HR1.out.rows
      obtain ⟨ad, e, d1, d2, d3⟩ := file_at hl0.now i hil
      have HE1 : Aside0 (st.took.l[i] = (s, d)) := ⟨HE.out⟩
      rw [HE1.out] at d1 d2
      subst e
      clear hl0 d3 d1
      have hil' : i < st.took.l.length := hil
      go_wp2_with fail
      refine (told_calls _ 1 _).mono ?_
      rintro _ w2 ⟨rfl, hd⟩
      have HD := Aside0.mk hd
      clear hd
      obtain ⟨b1, b2⟩ := ne_tests (told_ne (out := st.out) (e := 1) (by decide))
      go_wp2_with fail
      refine (told_calls _ 1 _).mono ?_
      rintro _ w3 ⟨rfl, hd⟩
      have HD2 := Aside0.mk hd
      clear hd
      go_wp2_with fail
      go_ret2
      exact ⟨rfl, (HR1.out.drawn HD.out).drawn HD2.out, (HS1.out.drawn HD.out).drawn HD2.out⟩
  exact key (by omega)
set_option maxRecDepth 100000 in
theorem refGet_ok (r : RefP w S h N st) (s : ByteArray) (at_ n : Int) {d : ByteArray} (hf : findO st.l s = some d) (hds : d.size ≤ 1048576) (q1 : ¬ at_ < 0) (q2 : ¬ (d.size : Int) < at_) (q3 : ¬ n < 0) (R : List Int) (hRR : Aside0 (R = if toldF st.out 0 = 0 then cutF (bytesOf d) at_ n else [])) : Calls Try.prog 51 #[.pointer (some ⟨h, 0, none⟩), .string s, .int .i64 at_, .int .i64 n] w fun e w' => ∃ A c, e = .returned (.tuple #[.slice A R.length c, .int .i64 (toldF st.out 0)]) ∧ R.length ≤ c ∧ Lives w' S (Kd.int .u8) A R ∧ RefP w' S h N st.took ∧ Stp (fun k => k = h) w w' := by
  have HR := Aside0.mk r
  obtain ⟨i, hi, hil, he, _, _⟩ := idxO_some hf
  have HI : Aside0 (idxI st.took.l s = (i : Int)) := ⟨by unfold idxI; rw [FS.took_l, hi]⟩
  have HE := Aside0.mk he
  clear r hf hi he
  go_enter Try.func51, Try.ntmps51
  go_wp2_with fail
  refine (take_calls HR.out).mono ?_
  rintro _ w1 ⟨rfl, hr1, hs1⟩
  have HR1 := Aside0.mk hr1
  have HS1 := Aside0.mk hs1
  clear hr1 hs1
  go_wp2_with fail
  refine (at_calls HR1.out s).mono ?_
  rw [HI.out]
  rintro _ _ ⟨rfl, rfl⟩
  obtain ⟨A, c, c0, hlc, hl0⟩ := HR1.out.rows
  obtain ⟨ad, e, d1, d2, d3⟩ := file_at hl0.now i hil
  have HE1 : Aside0 (st.took.l[i] = (s, d)) := ⟨HE.out⟩
  rw [HE1.out] at d1 d2
  subst e
  clear hl0 d3 d1
  have hil' : i < st.took.l.length := hil
  go_wp2_with fail
  refine (told_calls _ 0 _).mono ?_
  rintro _ w2 ⟨rfl, hd⟩
  have hr2 := HR1.out.drawn hd
  have HR2 := Aside0.mk hr2
  have HS2 := Aside0.mk (HS1.out.drawn hd)
  obtain ⟨A, c, c0', hlc', hl0⟩ := hr2.rows
  obtain ⟨ad', e, d1', d2', d3'⟩ := file_at hl0.now i hil
  rw [HE1.out] at d1' d2'
  subst e
  clear hl0 d3' d1' hd hr2
  by_cases hz : toldF st.out 0 = 0
  · rw [hz]
    have HZ := Aside0.mk hz
    clear hz
    have kb := fun W => print_bytes (P := Try.prog) 9 22 5 Try.underlying9 Try.underlying22 Try.underlying5 d W
    go_wp2_with fail
    have hbr := bytes_reads w2 5 d (by omega)
    have hbb := bytes_below (Below.refl w2.heap.size w2) (Nat.le_refl _) 5 d
    refine (part_calls d at_ n _ _ _ (Kd.C_of_reads (h1 := fun _ => rfl) (d := (0 : Int)) ?_) (grownCap_ge _ _ _ _) hds (by omega) (by omega) (by omega)).mono ?_
    · rw [bytesOf_length]; exact hbr
    rintro _ w3 ⟨v, rfl, hv, hb3⟩
    have HV := Aside0.mk hv
    have HB3 := Aside0.mk (hbb.trans (hb3.mono hbb.size))
    obtain ⟨A3, c3, hA3⟩ := Kd.R_slice hv
    subst hA3
    clear hv hb3 hbb hbr kb
    go_wp2_with fail
    go_ret2
    have hR9 := hRR.out
    rw [if_pos HZ.out] at hR9
    subst hR9
    obtain ⟨A4, c4, e4, h5, h6⟩ := Lives.new HV.out (fun k hk => Nat.lt_of_lt_of_le (HR2.out.bd k hk) (by rw [Lib.bytesWorld_size]; omega))
    injection e4 with e4 _ e5
    subst e4; subst e5
    exact ⟨A3, c3, by rw [HZ.out]; rfl, h5, h6, HR2.out.below HB3.out, HS2.out.below HB3.out⟩
  · have HN := Aside0.mk hz
    obtain ⟨b1, b2⟩ := ne_tests hz
    clear hz
    go_wp2_with fail
    refine (told_calls _ 0 _).mono ?_
    rintro _ w3 ⟨rfl, hd⟩
    have HD2 := Aside0.mk hd
    clear hd
    go_wp2_with fail
    go_ret2
    have hR9 := hRR.out
    rw [if_neg HN.out] at hR9
    subst hR9
    exact ⟨none, 0, rfl, Nat.le_refl _, Lives.nil _ _ _, HR2.out.drawn HD2.out, HS2.out.drawn HD2.out⟩
/-- Get: what it tells and leaves. -/
theorem refGet_calls (r : RefP w S h N st) (s : ByteArray) (at_ n : Int) (hsz : ∀ p ∈ st.l, p.2.size ≤ 1048576) :
    Calls Try.prog 51 #[.pointer (some ⟨h, 0, none⟩), .string s, .int .i64 at_, .int .i64 n] w fun e w' => ∃ A c, e = .returned (.tuple #[.slice A (getF st s at_ n).1.length c, .int .i64 (getF st s at_ n).2.1]) ∧ (getF st s at_ n).1.length ≤ c ∧ Lives w' S (Kd.int .u8) A (getF st s at_ n).1 ∧ RefP w' S h N (getF st s at_ n).2.2 ∧ Stp (fun k => k = h) w w' := by
  cases hh : findO st.l s with
  | none =>
    have e2 : getE st.l s at_ n = 2 := by unfold getE; rw [hh]
    have hg := getF_not (st := st) (s := s) (at_ := at_) (n := n) (by rw [e2]; exact told_ne (by decide))
    rw [hg, e2]
    exact (refGet_none r s at_ n hh).mono fun e w' ⟨h1, h2, h3⟩ => ⟨none, 0, h1, Nat.le_refl _, Lives.nil _ _ _, h2, h3⟩
  | some d =>
    have hds : d.size ≤ 1048576 := hsz _ (findO_mem hh)
    by_cases hbad : at_ < 0 ∨ (d.size : Int) < at_ ∨ n < 0
    · have e1 : getE st.l s at_ n = 1 := by
        unfold getE
        rw [hh]
        dsimp only
        by_cases b1 : at_ < 0
        · rw [if_pos b1]
        · rw [if_neg b1]
          by_cases b2 : (d.size : Int) < at_
          · rw [if_pos b2]
          · rw [if_neg b2, if_pos (by omega)]
      have hg := getF_not (st := st) (s := s) (at_ := at_) (n := n) (by rw [e1]; exact told_ne (by decide))
      rw [hg, e1]
      exact (refGet_arg r s at_ n hh hds hbad).mono fun e w' ⟨h1, h2, h3⟩ => ⟨none, 0, h1, Nat.le_refl _, Lives.nil _ _ _, h2, h3⟩
    · have e0 : getE st.l s at_ n = 0 := by
        unfold getE
        rw [hh]
        dsimp only
        rw [if_neg (by omega), if_neg (by omega), if_neg (by omega)]
      have hg : getF st s at_ n = (if toldF st.out 0 = 0 then cutF (bytesOf d) at_ n else [], toldF st.out 0, st.took) := by
        unfold getF
        rw [e0, hh]
        rfl
      rw [hg]
      exact refGet_ok r s at_ n hh hds (by omega) (by omega) (by omega) _ ⟨rfl⟩
end
end Go.Proofs.Ytbedfilammjlpaa.P
