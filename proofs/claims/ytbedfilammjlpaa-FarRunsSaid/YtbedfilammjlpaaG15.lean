/- The document's far store: Drop. -/
import Derived.Test.YtbedfilammjlpaaG14
namespace Go.Proofs.Ytbedfilammjlpaa.P
open Go.RowKit Go.Proofs.YtbedfilammjlpaaW.PrintWords Go.Proofs.YtbedfilammjlpaaW.PrintMore Go.Maps Go.WideMaps
set_option linter.unusedVariables false
theorem cut_low (A : Option Addr) (n c i : Nat) (hi : i ≤ n) (hc : n ≤ c) : ∀ W : World, (Instr.slice 32 (.slice A n c) none (some (.int .i64 (i : Int))) none).run Try.prog W = .ok (.slice A i c) W := by
  intro W
  obtain ⟨i0, hi0, _, hz1, _⟩ := info_parts info58
  have hel : Try.prog.elem 32 = 58 := by simp [Program.elem, Try.underlying32]
  have hu : Try.prog.underlying 32 = some (.slice (Try.prog.elem 32)) := by rw [hel]; exact Try.underlying32
  rw [run_slice_h W 32 A n c hu .i64 (i : Int) (by omega) (by omega), hel]
  simp [sizeOf, typeInfo, hi0, hz1, sliced, Result.andThen]
  intro h
  cases A with
  | none => rfl
  | some a => simp [Addr.add]
theorem cut_high (A : Option Addr) (n c i : Nat) (hi : i < n) (hc : n ≤ c) : ∃ A2 : Option Addr, (∀ W : World, (Instr.slice 32 (.slice A n c) (some (.int .i64 ((i : Int) + 1))) none none).run Try.prog W = .ok (.slice A2 (n - (i + 1)) (c - (i + 1))) W) ∧ ∀ (w : World) (xs : List S58), xs.length = n → Kd.C k58 w A n xs → Kd.C k58 w A2 (n - (i + 1)) (xs.drop (i + 1)) := by
  obtain ⟨i0, hi0, _, hz1, _⟩ := info_parts info58
  refine ⟨if c = i + 1 then A else A.map (·.add ((i + 1) * 3)), fun W => ?_, fun w xs hx hC => ?_⟩
  · have hel : Try.prog.elem 32 = 58 := by simp [Program.elem, Try.underlying32]
    have hu : Try.prog.underlying 32 = some (.slice (Try.prog.elem 32)) := by rw [hel]; exact Try.underlying32
    have ht : ((i : Int) + 1).toNat = i + 1 := by omega
    rw [run_slice_l W 32 A n c hu .i64 ((i : Int) + 1) (by omega) (by omega), hel]
    simp [sizeOf, typeInfo, hi0, hz1, sliced, Result.andThen, ht]
  · subst hx
    have := Kd.C_drop (m := i + 1) (c := c) hC (by omega) hc
    rw [List.length_drop] at this
    exact this
theorem C_low {w : World} {A : Option Addr} {xs : List S58} {n i : Nat} (hx : xs.length = n) (h : Kd.C k58 w A n xs) (hi : i ≤ n) : Kd.C k58 w A i (xs.take i) := by
  subst hx
  have := Kd.C_take (m := i) h hi
  rw [List.length_take, Nat.min_eq_left hi] at this
  exact this
section
variable {w w' : World} {S S2 : Nat → Prop} {h N : Nat} {st : FS}
theorem far_ref_frozen (r : RefP w S h N st) : w.frozen? ⟨h, 0, none⟩ = false := by
  obtain ⟨A, c, A2, c2, hb, _⟩ := r.cell
  exact blk_frozen hb 0
theorem dropE_none {l : Obs} {s : ByteArray} (hf : findO l s = none) : dropE l s = 2 := by unfold dropE; rw [hf]; rfl
theorem dropE_some {l : Obs} {s d : ByteArray} (hf : findO l s = some d) : dropE l s = 0 := by unfold dropE; rw [hf]; rfl
set_option maxRecDepth 100000 in
theorem refDrop_none (r : RefP w S h N st) (s : ByteArray) (hf : findO st.l s = none) : Calls Try.prog 54 #[.pointer (some ⟨h, 0, none⟩), .string s] w fun e w' => e = .returned (.int .i64 (toldF st.out 2)) ∧ RefP w' S h N st.took ∧ Stp (fun k => k = h) w w' := by
  have HR := Aside0.mk r
  have HI : Aside0 (idxI st.took.l s = -1) := ⟨by unfold idxI; rw [FS.took_l, idxO_none hf]⟩
  clear r hf
  go_enter Try.func54, Try.ntmps54
  go_wp2_with fail
  refine (take_calls HR.out).mono ?_
  rintro _ w1 ⟨rfl, hr1, hs1⟩
  have HR1 := Aside0.mk hr1
  have HS1 := Aside0.mk hs1
  clear hr1 hs1
  go_wp2_with fail
  refine (at_calls HR1.out s).mono ?_
  rw [HI.out]
  rintro _ _ ⟨rfl, rfl⟩
  go_wp2_with fail
  refine (told_calls _ 2 _).mono ?_
  rintro _ w2 ⟨rfl, hd⟩
  have HD := Aside0.mk hd
  clear hd
  go_wp2_with fail
  go_ret
  exact ⟨rfl, HR1.out.drawn HD.out, HS1.out.drawn HD.out⟩
set_option maxRecDepth 100000 in
theorem refDrop_fails (r : RefP w S h N st) (s : ByteArray) {d : ByteArray} (hf : findO st.l s = some d) (ho : st.out = 1) : Calls Try.prog 54 #[.pointer (some ⟨h, 0, none⟩), .string s] w fun e w' => e = .returned (.int .i64 8) ∧ RefP w' S h N st.took ∧ Stp (fun k => k = h) w w' := by
  have HR := Aside0.mk r
  obtain ⟨i, hi, hil, he, _, _⟩ := idxO_some hf
  have HI : Aside0 (idxI st.took.l s = (i : Int)) := ⟨by unfold idxI; rw [FS.took_l, hi]⟩
  clear r hf hi he
  have HO := Aside0.mk ho
  clear ho
  go_enter Try.func54, Try.ntmps54
  go_wp2_with fail
  refine (take_calls HR.out).mono ?_
  rw [HO.out]
  rintro _ w1 ⟨rfl, hr1, hs1⟩
  have HR1 := Aside0.mk hr1
  have HS1 := Aside0.mk hs1
  clear hr1 hs1
  go_wp2_with fail
  refine (at_calls HR1.out s).mono ?_
  rw [HI.out]
  rintro _ _ ⟨rfl, rfl⟩
  go_wp2_with fail
  refine (told_calls 1 0 _).mono ?_
  rintro _ w2 ⟨rfl, hd⟩
  have HD := Aside0.mk hd
  clear hd
  go_wp2_with fail
  go_ret
  exact ⟨by rw [toldF_one rfl]; rfl, HR1.out.drawn HD.out, HS1.out.drawn HD.out⟩
set_option maxRecDepth 100000 in
theorem refDrop_done (r : RefP w S h N st) (hN : N ≤ 1000000) (s : ByteArray) {d : ByteArray} (hf : findO st.l s = some d) (ho : st.out ≠ 1) : Calls Try.prog 54 #[.pointer (some ⟨h, 0, none⟩), .string s] w fun e w' => e = .returned (.int .i64 (toldF st.out 0)) ∧ RefP w' S h N (st.took.del s) ∧ Stp (fun k => k = h) w w' := by
  have HR := Aside0.mk r
  obtain ⟨i, hi, hil, he, _, hdr⟩ := idxO_some hf
  have HI : Aside0 (idxI st.took.l s = (i : Int)) := ⟨by unfold idxI; rw [FS.took_l, hi]⟩
  have HDR := Aside0.mk hdr
  obtain ⟨b1, b2⟩ : (st.out == 1) = false ∧ (st.out != 1) = true := by constructor <;> simpa using ho
  clear r hf hi he hdr ho
  go_enter Try.func54, Try.ntmps54
  go_wp2_with fail
  refine (take_calls HR.out).mono ?_
  rintro _ w1 ⟨rfl, hr1, hs1⟩
  have HR1 := Aside0.mk hr1
  have HS1 := Aside0.mk hs1
  clear hr1 hs1
  go_wp2_with fail
  refine (at_calls HR1.out s).mono ?_
  rw [HI.out]
  rintro _ _ ⟨rfl, rfl⟩
  have hlen : (st.took.l.map fileOf).length = st.l.length := by rw [List.length_map]; rfl
  have hll : st.l.length ≤ 1000000 := by have := HR1.out.few; rw [FS.took_l] at this; omega
  obtain ⟨A, c, c0, hlc, hl0⟩ := HR1.out.rows
  rw [FS.took_l] at c0 hlc
  have hh1 := HR1.out.lt
  have HL0 := Aside0.mk hl0
  have hcut1 := cut_low A st.l.length c i (by omega) hlc
  obtain ⟨A2, hcut2, hC2⟩ := cut_high A st.l.length c i hil hlc
  have HC2 := Aside0.mk hC2
  have hb1 : Below w1.heap.size w1 (w1.alloc (.cells #[] 58)) := (Below.refl _ w1).alloc (Nat.le_refl _) _
  have c1 : (w1.alloc (.cells #[] 58)).cell? ⟨h, 0, none⟩ = some (.slice A st.l.length c) := keep_cell hb1 c0
  have HCa : Aside0 (Kd.C k58 w1 A st.l.length (st.took.l.map fileOf)) := ⟨by have h2 := hl0.now; rw [hlen] at h2; exact h2⟩
  have HLE := Aside0.mk hlen
  have C0 := Aside0.mk c0
  clear hl0 hC2 c0 hlen
  go_wp2_with (first | (at_builtin; refine Kd.R_append_rows k58 (Rr := k58.K (w1.alloc (.cells #[] 58))) (w0 := w1) w1.heap.size rfl (.tmp 19) (.tmp 25) 32 58 (.agg #[.string ⟨#[]⟩, .string ⟨#[]⟩, .int .i64 0]) 40 rfl Try.underlying32 info58 rfl (by decide) (by omega) _ [] ((st.took.l.map fileOf).take i) A i c (fun _ => True) (fun _ => False) rfl rfl (R_empty k58 58 w1) (C_low HLE.out (Kd.C_below HCa.out hb1) (by omega)) k58_remade (fun _ hk => hk.elim) (fun _ _ => trivial) hb1 hb1.size ?aL ?_; (case aL => simp only [List.length_nil]; omega); intro v1 w2 hR1 hb2 hg1 hat1; have HV1 := Aside0.mk hR1; have HB2 := Aside0.mk hb2; clear hR1 hg1 hat1; have c2 : w2.cell? ⟨h, 0, none⟩ = some (.slice A st.l.length c) := keep_cell hb2 C0.out) | (at_builtin; refine Kd.R_append_rows k58 (Rr := k58.K w2) (w0 := w1) w1.heap.size rfl (.tmp 28) (.tmp 35) 32 58 (.agg #[.string ⟨#[]⟩, .string ⟨#[]⟩, .int .i64 0]) 40 rfl Try.underlying32 info58 rfl (by decide) (by omega) v1 ((st.took.l.map fileOf).take i) ((st.took.l.map fileOf).drop (i + 1)) A2 (st.l.length - (i + 1)) (c - (i + 1)) (fun _ => True) (fun _ => False) rfl rfl HV1.out (HC2.out _ _ HLE.out (Kd.C_below HCa.out HB2.out)) k58_remade (fun _ hk => hk.elim) (fun _ _ => trivial) HB2.out HB2.out.size ?aM ?_; (case aM => rw [List.length_take]; omega); intro v2 w3 hR2 hb3 hg2 hat2; have HV2 := Aside0.mk hR2; have HB3 := Aside0.mk hb3; clear hR2 hg2 hat2; have c3 : w3.cell? ⟨h, 0, none⟩ = some (.slice A st.l.length c) := keep_cell hb3 C0.out; have f3 : w3.frozen? ⟨h, 0, none⟩ = false := far_ref_frozen (HR1.out.below hb3); obtain ⟨A5, c5, hA5⟩ := Kd.R_slice HV2.out; subst hA5))
  have eX : ((dropO st.l s).map fileOf) = (st.took.l.map fileOf).take i ++ (st.took.l.map fileOf).drop (i + 1) := by
    rw [HDR.out, List.map_append, List.map_take, List.map_drop]; rfl
  have hlX : min i (List.length st.took.l) + (List.length st.took.l - (i + 1)) = ((dropO st.l s).map fileOf).length := by
    rw [eX, List.length_append, List.length_take, List.length_drop, List.length_map]
  have hv2 := HV2.out
  rw [← eX] at hv2
  obtain ⟨A6, c6, e6, hc6, hl6⟩ := Lives.new hv2 (HR1.out.bd)
  injection e6 with e6 _ e7
  subst e6; subst e7
  rw [hlX]
  have HL6 := Aside0.mk hl6
  obtain ⟨A9, c9, A8, c8, hb9, h91, h92, h93, h94⟩ := (HR1.out.below HB3.out).cell
  have HB9 := Aside0.mk hb9
  have H94 := Aside0.mk h94
  clear hv2 hl6 hb9 h92 h94 eX hlX
  refine (told_calls _ 0 _).mono ?_
  rintro _ w5 ⟨rfl, hd⟩
  have HD := Aside0.mk hd
  clear hd
  go_wp2_with fail
  go_ret
  have hst : Stp (fun k => k = h) w3 (w3.setCell ⟨h, 0, none⟩ (.slice A5 ((dropO st.l s).map fileOf).length c5)) := (Stp.refl (fun k => k = h) w3).setCell (p := ⟨h, 0, none⟩) (.inl rfl) _
  have hk := hst.kept.mono (S' := S) (fun k e => e ▸ HR1.out.sh)
  have hlX : (dropO st.l s).length ≤ N := Nat.le_trans (dropO_sub st.l s).length_le HR.out.few
  have hfin := (HR1.out.below HB3.out).writes (l := dropO st.l s) hst.kept (blk_put HB9.out 0 _ rfl) hc6 (HL6.out.step hk) h93 (H94.out.step hk) hlX (rising_drop HR.out.ris)
  exact ⟨rfl, hfin.drawn HD.out, ((HS1.out.below HB3.out).trans hst).drawn HD.out⟩
/-- Drop: what it tells and leaves. -/
theorem refDrop_calls (r : RefP w S h N st) (hN : N ≤ 1000000) (s : ByteArray) : Calls Try.prog 54 #[.pointer (some ⟨h, 0, none⟩), .string s] w fun e w' => e = .returned (.int .i64 (dropF st s).1) ∧ RefP w' S h N (dropF st s).2 ∧ Stp (fun k => k = h) w w' := by
  cases hf : findO st.l s with
  | none =>
    have e : dropF st s = (toldF st.out 2, st.took) := by
      unfold dropF
      rw [dropE_none hf]
      by_cases ho : st.out = 1
      · rw [if_pos ho]
      · rw [if_neg ho, if_neg (by decide)]
    rw [e]
    exact refDrop_none r s hf
  | some d =>
    by_cases ho : st.out = 1
    · rw [dropF_one ho]
      exact refDrop_fails r s hf ho
    · rw [dropF_else ho, dropE_some hf, if_pos rfl]
      exact refDrop_done r hN s hf ho
end
end Go.Proofs.Ytbedfilammjlpaa.P
