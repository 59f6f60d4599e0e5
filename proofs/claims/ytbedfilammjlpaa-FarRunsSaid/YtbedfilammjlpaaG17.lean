/- The document's far store: Put, where it is done. -/
import Derived.Test.YtbedfilammjlpaaG16
namespace Go.Proofs.Ytbedfilammjlpaa.P
open Go.RowKit Go.Proofs.YtbedfilammjlpaaW.PrintWords Go.Proofs.YtbedfilammjlpaaW.PrintMore Go.Maps Go.WideMaps
set_option linter.unusedVariables false
section
variable {w w' : World} {S S2 : Nat → Prop} {h N : Nat} {st : FS}
theorem file_ne {t s : ByteArray} (hne : t ≠ s) : (t.toList == s.toList) = false := by
  rw [beq_eq_false_iff_ne]
  intro h2
  rw [ByteArray.toList_eq, ByteArray.toList_eq] at h2
  exact hne (bytes_eq h2)
theorem file_hi {t s : ByteArray} (hl : low s t) : (t.toList == s.toList) = false ∧ Op.bytesLess t.toList s.toList = false :=
  ⟨file_ne (fun e => low_irrefl s (by rw [e] at hl; exact hl)), by rw [low_bytes]; exact decide_eq_false (fun h2 => low_irrefl _ (low_trans hl h2))⟩
theorem file_lo {t s : ByteArray} (hne : t ≠ s) (hl : ¬ low s t) : (t.toList == s.toList) = false ∧ Op.bytesLess t.toList s.toList = true :=
  ⟨file_ne hne, by
    rw [low_bytes]
    rcases low_tri t s with c | c | c
    · exact decide_eq_true c
    · exact absurd c hne
    · exact absurd c hl⟩
/-- The new row is laid into the store. -/
theorem put_ends {w2 W : World} {stt : FS} (r : RefP w2 S h N stt) (hb : Below w2.heap.size w2 W) {s d : ByteArray} {A5 : Option Addr} {c5 n : Nat} {X : Obs} (hX : X = insO stt.l s d) (hf : findO stt.l s = none) (hn : n = X.length) (hv : Kd.R k58 58 W w2.heap.size (fun _ => True) (.slice A5 n c5) (X.map fileOf)) :
    RefP (W.setCell ⟨h, 0, none⟩ (.slice A5 n c5)) S h (N + 1) (stt.put s d) ∧ Stp (fun k => k = h) w2 (W.setCell ⟨h, 0, none⟩ (.slice A5 n c5)) := by
  have hst : Stp (fun k => k = h) W (W.setCell ⟨h, 0, none⟩ (.slice A5 n c5)) := (Stp.refl (fun k => k = h) W).setCell (p := ⟨h, 0, none⟩) (.inl rfl) _
  have hk := hst.kept.mono (S' := S) (fun k e => e ▸ r.sh)
  have hl : n = (X.map fileOf).length := by rw [List.length_map]; exact hn
  rw [hl] at hv hst hk ⊢
  obtain ⟨A6, c6, e6, hc6, hl6⟩ := Lives.new hv r.bd
  injection e6 with e6 _ e7
  subst e6; subst e7
  obtain ⟨A9, c9, A8, c8, hb9, h91, h92, h93, h94⟩ := (r.below hb).cell
  have hfew : (insO stt.l s d).length ≤ N + 1 := by rw [length_ins]; have := r.few; omega
  subst hX
  exact ⟨(r.below hb).writes (l := insO stt.l s d) hst.kept (blk_put hb9 0 _ rfl) hc6 (hl6.step hk) h93 (h94.step hk) hfew (rising_ins r.ris hf), (Stp.of_below hb _).trans hst⟩
set_option maxRecDepth 100000 in
set_option maxHeartbeats 2000000 in
theorem refPut_done (r : RefP w S h N st) (hNN : N ≤ 1000000) (s : ByteArray) (hs : s.size ≤ maxLen) (A : Option Addr) (c : Nat) (bs : List Int) (hlen : bs.length ≤ 1048576) (hr : Lives w (fun k => k = h) (Kd.int .u8) A bs) (hN : named s = true) (hf : findO st.l s = none) (ho : st.out ≠ 1) : Calls Try.prog 50 #[.pointer (some ⟨h, 0, none⟩), .string s, .slice A bs.length c] w fun e w' => e = .returned (.int .i64 (toldF st.out 0)) ∧ RefP w' S h (N + 1) (st.took.put s (strOfNums bs)) ∧ Stp (fun k => k = h) w w' := by
  have HR := Aside0.mk r
  have HI : Aside0 (idxI st.took.l s = -1) := ⟨by unfold idxI; rw [FS.took_l, idxO_none hf]⟩
  have HF := Aside0.mk hf
  obtain ⟨b1, b2⟩ : (st.out == 1) = false ∧ (st.out != 1) = true := by constructor <;> simpa using ho
  have HL := Aside0.mk hr
  clear r hf ho hr
  go_enter Try.func50, Try.ntmps50
  go_wp2_with fail
  refine (take_calls HR.out).mono ?_
  rintro _ w1 ⟨rfl, hr1, hs1⟩
  have HR1 := Aside0.mk hr1
  have HS1 := Aside0.mk hs1
  clear hr1 hs1
  go_wp2_with fail
  refine (rNamed_calls s hs _).mono ?_
  rw [hN]
  rintro _ w2 ⟨rfl, hd⟩
  have HR2 := Aside0.mk (HR1.out.drawn hd)
  have HS2 := Aside0.mk (HS1.out.drawn hd)
  clear hd HR1 HS1
  go_wp2_with fail
  refine (at_calls HR2.out s).mono ?_
  rw [HI.out]
  rintro _ _ ⟨rfl, rfl⟩
  obtain ⟨A1, c1, c0, hlc, hl0⟩ := HR2.out.rows
  have HFF : Aside0 (findO st.took.l s = none) := ⟨HF.out⟩
  have HLL := Aside0.mk hl0
  have hh2 := HR2.out.lt
  have hll : st.took.l.length ≤ 1000000 := by have := HR2.out.few; omega
  have HLB := Aside0.mk (HL.out.step HS2.out.kept)
  clear hl0
  go_wp2_with fail
  have hbr : (bs.length : Int) ≤ 1048576 := by omega
  go_loopw [9, 10, 11] (fun v b i wr => ∃ k : Nat, k ≤ st.took.l.length ∧ i = .int .i64 k ∧ b = .bool (insTo (st.took.l.take k) s (strOfNums bs)).2 ∧ Kd.R k58 58 wr w2.heap.size (fun _ => True) v ((insTo (st.took.l.take k) s (strOfNums bs)).1.map fileOf) ∧ Below w2.heap.size w2 wr) (fun _ _ i _ => st.took.l.length - (intOf i).toNat)
  case atStart => exact ⟨0, Nat.zero_le _, rfl, rfl, Kd.R_nil _ _ _ _ _, Below.refl _ _⟩
  case round =>
    obtain ⟨k, hk, rfl, rfl, hR, hbel⟩ := hrel
    have hql := insTo_len s (strOfNums bs) (st.took.l.take k) ([], false)
    have hq0 : (st.took.l.take k).foldl (insStep s (strOfNums bs)) ([], false) = insTo (st.took.l.take k) s (strOfNums bs) := rfl
    rw [hq0, List.length_nil, List.length_take] at hql
    clear hq0
    have c0r : wr.cell? ⟨h, 0, none⟩ = some (.slice A1 st.took.l.length c1) := keep_cell hbel c0
    by_cases hlt : k < st.took.l.length
    · have HSN := Aside0.mk (insTo_snoc st.took.l s (strOfNums bs) k hlt)
      have hne := findO_none.1 HFF.out _ (List.getElem_mem hlt)
      obtain ⟨ad, e, d1, d2, d3⟩ := file_at HLL.out.now k hlt
      subst e
      generalize st.took.l[k] = q at d1 d2 HSN hne
      obtain ⟨nm, dd⟩ := q
      have e1 : wr.cell? _ = _ := keep_cell hbel d1
      have e2 : wr.cell? _ = _ := keep_cell hbel d2
      have e3 : wr.cell? _ = _ := keep_cell hbel d3
      generalize insTo (st.took.l.take k) s (strOfNums bs) = q at hR HSN hql ⊢
      obtain ⟨acc, bb⟩ := q
      have HRR := Aside0.mk hR
      have hal : (acc.map fileOf).length ≤ 4000000 := by rw [List.length_map]; dsimp only at hql; omega
      have HD1 := Aside0.mk d1
      have HD2 := Aside0.mk d2
      have HD3 := Aside0.mk d3
      clear hR hql d1 d2 d3
      cases bb with
      | true =>
        have HT : Aside0 (insTo (st.took.l.take (k + 1)) s (strOfNums bs) = (acc ++ [(nm, dd)], true)) := ⟨by rw [HSN.out]; unfold insStep; rw [if_neg (by simp)]⟩
        go_wp2_with (at_builtin; refine Kd.R_append k58 (w0 := w2) w2.heap.size rfl (.tmp 66) (.tmp 74) 32 58 (.agg #[.string ⟨#[]⟩, .string ⟨#[]⟩, .int .i64 0]) 40 rfl Try.underlying32 info58 rfl (by decide) (by omega) _ (acc.map fileOf) (fileOf (nm, dd)) [.string nm, .string dd, .int .i64 0] (fun _ => True) (fun _ => False) rfl (by first | (go_simp; done) | (go_simp; rfl)) (k58_mkM _ _ _ (fileOf (nm, dd))) (fun _ hk => hk.elim) (fun _ _ => trivial) HRR.out hbel hbel.size ?aL ?_; (case aL => first | omega | (simp only [List.length_append, List.length_singleton]; omega)); intro v1 w3 hR1 hb1 hg1 hat1; clear hg1 hat1; have HV1 := Aside0.mk hR1; clear hR1)
        go_roundw
        case rel => exact ⟨k + 1, by omega, by go_num, by rw [HT.out], by rw [HT.out, List.map_append]; exact HV1.out, hb1⟩
        case measure => simp [intOf]; omega
      | false =>
        by_cases hlow : low s nm
        · have HT : Aside0 (insTo (st.took.l.take (k + 1)) s (strOfNums bs) = (acc ++ [(s, strOfNums bs)] ++ [(nm, dd)], true)) := ⟨by rw [HSN.out]; unfold insStep; rw [if_pos ⟨rfl, hlow⟩]⟩
          obtain ⟨b3, b4⟩ := file_hi hlow
          have hk2 : Kept w2 wr (fun k => k = h) := Kept.of_below hbel _
          have hconv := Kd.C_string (P := Try.prog) (src := 22) (dst := 9) (c := c) Try.underlying22 Try.underlying5 Try.underlying9 ((HLB.out.step hk2).now)
          clear hlow hk2
          go_wp2_with (first | (at_builtin; refine Kd.R_append k58 (w0 := w2) w2.heap.size rfl (.tmp 59) (.tmp 64) 32 58 (.agg #[.string ⟨#[]⟩, .string ⟨#[]⟩, .int .i64 0]) 40 rfl Try.underlying32 info58 rfl (by decide) (by omega) _ (acc.map fileOf) (fileOf (s, strOfNums bs)) [.string s, .string (strOfNums bs), .int .i64 0] (fun _ => True) (fun _ => False) rfl (by first | (go_simp; done) | (go_simp; rfl)) (k58_mkM _ _ _ (fileOf (s, strOfNums bs))) (fun _ hk => hk.elim) (fun _ _ => trivial) HRR.out hbel hbel.size ?aL ?_; (case aL => first | omega | (simp only [List.length_append, List.length_singleton]; omega)); intro v1 w3 hR1 hb1 hg1 hat1; clear hg1 hat1; have HV1 := Aside0.mk hR1; clear hR1; have HB1 := Aside0.mk hb1; have f1 : w3.cell? _ = _ := keep_cell hb1 HD1.out; have f2 : w3.cell? _ = _ := keep_cell hb1 HD2.out; have f3 : w3.cell? _ = _ := keep_cell hb1 HD3.out; have c0s : w3.cell? ⟨h, 0, none⟩ = some (.slice (some ad) st.took.l.length c1) := keep_cell hb1 c0) | (at_builtin; refine Kd.R_append k58 (w0 := w2) w2.heap.size rfl (.tmp 66) (.tmp 74) 32 58 (.agg #[.string ⟨#[]⟩, .string ⟨#[]⟩, .int .i64 0]) 40 rfl Try.underlying32 info58 rfl (by decide) (by omega) v1 (acc.map fileOf ++ [fileOf (s, strOfNums bs)]) (fileOf (nm, dd)) [.string nm, .string dd, .int .i64 0] (fun _ => True) (fun _ => False) rfl (by first | (go_simp; done) | (go_simp; rfl)) (k58_mkM _ _ _ (fileOf (nm, dd))) (fun _ hk => hk.elim) (fun _ _ => trivial) HV1.out HB1.out HB1.out.size ?aM ?_; (case aM => first | omega | (simp only [List.length_append, List.length_singleton]; omega)); intro v2 w4 hR2 hb2 hg2 hat2; clear hg2 hat2; have HV2 := Aside0.mk hR2; clear hR2))
          go_roundw
          case rel => exact ⟨k + 1, by omega, by go_num, by rw [HT.out], by rw [HT.out, List.map_append, List.map_append]; exact HV2.out, hb2⟩
          case measure => simp [intOf]; omega
        · have HT : Aside0 (insTo (st.took.l.take (k + 1)) s (strOfNums bs) = (acc ++ [(nm, dd)], false)) := ⟨by rw [HSN.out]; unfold insStep; rw [if_neg (fun h2 => hlow h2.2)]⟩
          obtain ⟨b3, b4⟩ := file_lo hne hlow
          clear hlow
          go_wp2_with (at_builtin; refine Kd.R_append k58 (w0 := w2) w2.heap.size rfl (.tmp 66) (.tmp 74) 32 58 (.agg #[.string ⟨#[]⟩, .string ⟨#[]⟩, .int .i64 0]) 40 rfl Try.underlying32 info58 rfl (by decide) (by omega) _ (acc.map fileOf) (fileOf (nm, dd)) [.string nm, .string dd, .int .i64 0] (fun _ => True) (fun _ => False) rfl (by first | (go_simp; done) | (go_simp; rfl)) (k58_mkM _ _ _ (fileOf (nm, dd))) (fun _ hk => hk.elim) (fun _ _ => trivial) HRR.out hbel hbel.size ?aL ?_; (case aL => first | omega | (simp only [List.length_append, List.length_singleton]; omega)); intro v1 w3 hR1 hb1 hg1 hat1; clear hg1 hat1; have HV1 := Aside0.mk hR1; clear hR1)
          go_roundw
          case rel => exact ⟨k + 1, by omega, by go_num, by rw [HT.out], by rw [HT.out, List.map_append]; exact HV1.out, hb1⟩
          case measure => simp [intOf]; omega
    · obtain rfl : k = st.took.l.length := by omega
      have HE := Aside0.mk (insTo_end st.took.l s (strOfNums bs))
      rw [List.take_length] at hR hql ⊢
      generalize insTo st.took.l s (strOfNums bs) = q at hR HE hql ⊢
      obtain ⟨acc, bb⟩ := q
      have HRR := Aside0.mk hR
      have hal : (acc.map fileOf).length ≤ 4000000 := by rw [List.length_map]; dsimp only at hql; omega
      clear hR hql
      cases bb with
      | true =>
        have f3 := far_ref_frozen (HR2.out.below hbel)
        obtain ⟨A5, c5, hA5⟩ := Kd.R_slice HRR.out
        rw [List.length_map] at hA5
        subst hA5
        have HX := Aside0.mk (put_ends HR2.out hbel (X := acc) HE.out HFF.out rfl HRR.out)
        go_wp2_with fail
        refine (told_calls _ 0 _).mono ?_
        rintro _ w5 ⟨rfl, hd⟩
        have HD := Aside0.mk hd
        clear hd
        go_wp2_with fail
        go_ret
        exact ⟨rfl, HX.out.1.drawn HD.out, (HS2.out.trans HX.out.2).drawn HD.out⟩
      | false =>
        have hk2 : Kept w2 wr (fun k => k = h) := Kept.of_below hbel _
        have hconv := Kd.C_string (P := Try.prog) (src := 22) (dst := 9) (c := c) Try.underlying22 Try.underlying5 Try.underlying9 ((HLB.out.step hk2).now)
        clear hk2
        go_wp2_with (at_builtin; refine Kd.R_append k58 (w0 := w2) w2.heap.size rfl (.tmp 78) (.tmp 83) 32 58 (.agg #[.string ⟨#[]⟩, .string ⟨#[]⟩, .int .i64 0]) 40 rfl Try.underlying32 info58 rfl (by decide) (by omega) _ (acc.map fileOf) (fileOf (s, strOfNums bs)) [.string s, .string (strOfNums bs), .int .i64 0] (fun _ => True) (fun _ => False) rfl (by first | (go_simp; done) | (go_simp; rfl)) (k58_mkM _ _ _ (fileOf (s, strOfNums bs))) (fun _ hk => hk.elim) (fun _ _ => trivial) HRR.out hbel hbel.size ?aL ?_; (case aL => first | omega | (simp only [List.length_append, List.length_singleton]; omega)); intro v1 w3 hR1 hb1 hg1 hat1; clear hg1 hat1; have HV1 := Aside0.mk hR1; clear hR1; have HB1 := Aside0.mk hb1; have c0s : w3.cell? ⟨h, 0, none⟩ = some (.slice A1 st.took.l.length c1) := keep_cell hb1 c0; have f3 := far_ref_frozen (HR2.out.below hb1); obtain ⟨A5, c5, hA5⟩ := Kd.R_slice HV1.out; subst hA5)
        have HX := Aside0.mk (put_ends HR2.out HB1.out (X := acc ++ [(s, strOfNums bs)]) (n := acc.length + 1) HE.out HFF.out (by simp) (by have h5 := HV1.out; simpa using h5))
        refine (told_calls _ 0 _).mono ?_
        rintro _ w5 ⟨rfl, hd⟩
        have HD := Aside0.mk hd
        clear hd
        go_wp2_with fail
        go_ret
        exact ⟨rfl, HX.out.1.drawn HD.out, (HS2.out.trans HX.out.2).drawn HD.out⟩
/-- Put: what it tells and leaves. -/
theorem refPut_calls (r : RefP w S h N st) (hNN : N ≤ 1000000) (s : ByteArray) (hs : s.size ≤ maxLen) (A : Option Addr) (c : Nat) (bs : List Int) (hlen : bs.length ≤ 1048576) (hr : Lives w (fun k => k = h) (Kd.int .u8) A bs) : Calls Try.prog 50 #[.pointer (some ⟨h, 0, none⟩), .string s, .slice A bs.length c] w fun e w' => e = .returned (.int .i64 (putF st s (strOfNums bs)).1) ∧ RefP w' S h (N + 1) (putF st s (strOfNums bs)).2 ∧ Stp (fun k => k = h) w w' := by
  cases hN : named s with
  | false =>
    have e : putF st s (strOfNums bs) = (toldF st.out 1, st.took) := by
      unfold putF
      rw [putE_named hN]
      by_cases ho : st.out = 1
      · rw [if_pos ho]
      · rw [if_neg ho, if_neg (by decide)]
    rw [e]
    exact (refPut_unnamed r s hs _ hN).mono fun e w' ⟨h1, h2, h3⟩ => ⟨h1, h2.more (Nat.le_succ _), h3⟩
  | true =>
    cases hf : findO st.l s with
    | some d =>
      have e3 : putE st.l s = 3 := by unfold putE; rw [hN, hf]; rfl
      have e : putF st s (strOfNums bs) = (toldF st.out 3, st.took) := by
        unfold putF
        rw [e3]
        by_cases ho : st.out = 1
        · rw [if_pos ho]
        · rw [if_neg ho, if_neg (by decide)]
      rw [e]
      exact (refPut_have r s hs A c bs.length hlen hN hf).mono fun e w' ⟨h1, h2, h3⟩ => ⟨h1, h2.more (Nat.le_succ _), h3⟩
    | none =>
      have e0 : putE st.l s = 0 := by unfold putE; rw [hN, hf]; rfl
      by_cases ho : st.out = 1
      · rw [putF_one ho]
        exact (refPut_fails r s hs A c bs.length hlen hN hf ho).mono fun e w' ⟨h1, h2, h3⟩ => ⟨h1, h2.more (Nat.le_succ _), h3⟩
      · rw [putF_else ho, e0, if_pos rfl]
        exact refPut_done r hNN s hs A c bs hlen hr hN hf ho
end
end Go.Proofs.Ytbedfilammjlpaa.P
