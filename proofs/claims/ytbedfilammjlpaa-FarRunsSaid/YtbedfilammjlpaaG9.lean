/- List, Objects, Copy of a far store. -/
import Derived.Test.YtbedfilammjlpaaG8
namespace Go.Proofs.Ytbedfilammjlpaa.P
open Go.RowKit Go.Proofs.YtbedfilammjlpaaW.PrintWords Go.Proofs.YtbedfilammjlpaaW.PrintMore Go.Maps Go.WideMaps Go.Sort
set_option linter.unusedVariables false
section
variable {w : World} {S : Nat → Prop} {g m N : Nat} {st : FS}
theorem listF_tells (h : toldF st.out 0 = 0) : listF st = (st.l.map (·.1), 0, st.took) := by unfold listF; rw [h, if_pos rfl]
theorem listF_not (h : toldF st.out 0 ≠ 0) : listF st = ([], toldF st.out 0, st.took) := by unfold listF; rw [if_neg h]
set_option maxRecDepth 100000 in
theorem list_calls (h : FarP w S g m N st) (hN : N ≤ 1000000) :
    Calls Try.prog 33 #[.pointer (some ⟨g, 0, none⟩)] w fun e w' => ∃ A c, e = .returned (.tuple #[.slice A (listF st).1.length c, .int .i64 (listF st).2.1]) ∧ (listF st).1.length ≤ c ∧ Lives w' S Kd.string A (listF st).1 ∧ FarP w' S g m N (listF st).2.2 ∧ Stp (GM g m) w w' := by
  have HS := Aside0.mk h
  clear h
  have he := enters55
  go_enter Try.func33, Try.ntmps33
  go_wp2_with fail
  refine (called_calls HS.out 55 _ (he _) (fun code w' => code = 0 ∧ FarP w' S g m N st.took ∧ Stp (GM g m) w w') ?_).mono ?_
  · intro W hW ht
    refine (list1_calls _).mono ?_
    rintro e w' ⟨rfl, rfl⟩
    exact ⟨_, rfl, rfl, hW, gm_g ht⟩
  · rintro e w' (⟨h1, rfl, h2, h3⟩ | ⟨h1, code, rfl, rfl, h2, h3⟩)
    · have HF := Aside0.mk h2
      have HT := Aside0.mk h3
      have HO := Aside0.mk h1
      clear h2 h3 h1
      go_wp2_with fail
      go_ret2
      have hz : toldF st.out 0 ≠ 0 := by rw [toldF_one HO.out]; decide
      rw [listF_not hz, toldF_one HO.out]
      exact ⟨none, 0, rfl, Nat.le_refl _, Lives.nil _ _ _, HF.out, gm_g HT.out⟩
    · have HF := Aside0.mk h2
      have HT := Aside0.mk h3
      by_cases hz : toldF st.out 0 = 0
      · have HZ := Aside0.mk hz
        rw [hz]
        clear h2 h3 h1 hz
        go_wp2_with (go_at_call 43; (with_reducible refine (names_calls HF.out hN).mono ?_); rintro e w1 ⟨v, rfl, hv, hb⟩; have HV := Aside0.mk hv; have HB := Aside0.mk hb; clear hv hb; obtain ⟨A2, c2, hA2⟩ := Kd.R_slice HV.out; subst hA2)
        go_ret2
        rw [listF_tells HZ.out]
        obtain ⟨A3, c3, e3, h4, h5⟩ := Lives.new HV.out HF.out.bd
        injection e3 with e3 _ e4
        subst e3; subst e4
        exact ⟨A2, c2, by simp only [List.length_map]; rfl, h4, h5, HF.out.below HB.out, HT.out.below HB.out⟩
      · have HN := Aside0.mk (listF_not hz)
        generalize toldF st.out 0 = z at hz HN ⊢
        have hz' : (z == 0) = false := by simpa using hz
        have hz2 : (z != 0) = true := by simpa using hz
        clear h2 h3 h1 hz
        go_wp2_with fail
        go_ret2
        rw [HN.out]
        exact ⟨none, 0, rfl, Nat.le_refl _, Lives.nil _ _ _, HF.out, HT.out⟩
/-- An object as the list of files has it. -/
def fileOf (p : ByteArray × ByteArray) : S58 := ⟨p.1, p.2, 0⟩
/-- The look-up without 'ok'. -/
theorem FarP.look (h : FarP w S g m N st) (s : ByteArray) (hs : s.size ≤ maxLen) {d : ByteArray} (hf : findO st.l s = some d) :
    ∃ A xs c, xs.length ≤ c ∧ xs.length ≤ 1048576 ∧ Bts xs ∧ Lives w S (Kd.int .u8) A xs ∧ strOfNums xs = d ∧ (Instr.lookup 68 (.map (some m)) (.string s) false).run Try.prog w = .ok (.slice A xs.length c) w := by
  obtain ⟨D, ho, ht⟩ := h.map
  obtain ⟨v, ps, h1, h2⟩ := World.ownsMap.lookup ho law Try.underlying68 (zeroE _) (zd := .held (.slice none 0 0)) (zp := []) rfl (keyOf_string_mk Try.underlying9 hs)
  have h3 := rawR_inv h2
  obtain ⟨A, xs, c, k1, k2, k3, k4, k5, k6⟩ := ht.val s d hf
  rw [k1] at h3
  obtain rfl := DataW.held.inj h3
  exact ⟨A, xs, c, k2, k3, k4, k5, k6, h1⟩
theorem FarP.name_le (h : FarP w S g m N st) : ∀ p ∈ st.l, p.1.size ≤ maxLen := by
  intro p hp
  obtain ⟨D, ho, ht⟩ := h.map
  obtain ⟨i, hi, rfl⟩ := List.getElem_of_mem hp
  have h1 := ht.has (st.l[i]).1
  rw [findO_get h.ris i hi] at h1
  obtain ⟨es, rfl, hk⟩ := ho.keysOf
  rw [Maps.has_eq] at h1
  have h2 : es.any (fun p => p.1.sameKey (sl (st.l[i]).1)) = true := h1
  obtain ⟨q, hq, hs⟩ := List.any_eq_true.1 h2
  obtain ⟨v, hv⟩ := hk q hq
  obtain ⟨x, _, hx, hl⟩ := Maps.keyOf_str Try.underlying9 hv
  rw [hx] at hs
  have e : x = (st.l[i]).1.data.toList := by simpa [Lit.sameKey, sl] using hs
  rw [e, data_length] at hl
  exact hl
/-- The objects seen so far. -/
theorem take_snoc {α : Type} (l : List α) (k : Nat) (h : k < l.length) : l.take (k + 1) = l.take k ++ [l[k]] := List.take_succ_eq_append_getElem h
theorem info58 : (Try.prog.info? 58).map (fun i => (i.zero, i.size, i.bytes)) = some (some (.agg #[.string ⟨#[]⟩, .string ⟨#[]⟩, .int .i64 0]), 3, 40) := by kernel_rfl
set_option maxRecDepth 100000 in
set_option maxHeartbeats 1000000 in
theorem objects_calls (h : FarP w S g m N st) (hN : N ≤ 1000000) :
    Calls Try.prog 19 #[.pointer (some ⟨g, 0, none⟩)] w fun e w' => ∃ v, e = .returned v ∧ Kd.R k58 58 w' w.heap.size (fun _ => True) v (st.l.map fileOf) ∧ Below w.heap.size w w' := by
  have HS := Aside0.mk h
  clear h
  go_enter Try.func19, Try.ntmps19
  go_wp2_with (go_at_call 43; (with_reducible refine (names_calls HS.out hN).mono ?_); rintro e w1 ⟨v, rfl, hv, hb⟩; have HV := Aside0.mk hv; have HB := Aside0.mk hb; clear hv hb; obtain ⟨A2, c2, hA2⟩ := Kd.R_slice HV.out; subst hA2)
  have hF1 := HS.out.below HB.out
  have hlN : st.l.length ≤ 9223372036854775807 := by have := (Lives.new HV.out HS.out.bd).choose_spec.choose_spec.2.2.now.2.1; simpa using this
  go_loopw [3, 11] (fun v i wr => ∃ k : Nat, k ≤ st.l.length ∧ i = .int .i64 k ∧ Kd.R k58 58 wr w1.heap.size (fun _ => True) v ((st.l.take k).map fileOf) ∧ Below w1.heap.size w1 wr) (fun _ i _ => st.l.length - (intOf i).toNat)
  case atStart => exact ⟨0, Nat.zero_le _, rfl, Kd.R_nil _ _ _ _ _, Below.refl _ _⟩
  case round =>
    obtain ⟨k, hk, rfl, hR, hbel⟩ := hrel
    by_cases hlt : k < st.l.length
    · have hFw := hF1.below hbel
      have hC := Kd.C_below (Kd.R_reads' HV.out).2.2 hbel
      obtain ⟨ad, e, hcell⟩ := Kd.at_string hC (k : Int) (by omega) (by simp only [List.length_map]; omega)
      have hfind := findO_get hFw.ris k hlt
      have hsz := hFw.name_le _ (List.getElem_mem hlt)
      have htk := take_snoc st.l k hlt
      have hnm : rdOf ByteArray.empty (st.l.map (·.1)) (k : Int) = (st.l[k]).1 := by
        unfold rdOf
        simp [List.getD_eq_getElem?_getD, hlt]
      rw [hnm] at hcell
      generalize st.l[k] = q at hcell hfind hsz htk
      obtain ⟨nm, dd⟩ := q
      obtain ⟨A, xs, c, hxc, _, _, hlv, hstr, hrun⟩ := hFw.look nm hsz hfind
      have hconv := Kd.C_string (P := Try.prog) (src := 22) (dst := 9) (c := c) Try.underlying22 Try.underlying5 Try.underlying9 hlv.now
      rw [hstr] at hconv
      obtain ⟨A0, c0, hb, _, _⟩ := hFw.cell
      have c1 : wr.cell? ⟨g, 0, none⟩ = some (.map (some m)) := blk_cell hb 0
      have HTK := Aside0.mk htk
      have HRR := Aside0.mk hR
      clear hstr hlv hnm hfind htk hC hR hb
      subst e
      have hln : st.l.length ≤ 1000000 := Nat.le_trans hFw.length_le hN
      have hlk : ((st.l.take k).map fileOf).length ≤ 1000000 := by rw [List.length_map, List.length_take]; omega
      simp only [Int.toNat_natCast] at hcell
      go_wp2_with (at_builtin; refine Kd.R_append k58 (w0 := w1) w1.heap.size rfl (.tmp 15) (.tmp 25) 32 58 (.agg #[.string ⟨#[]⟩, .string ⟨#[]⟩, .int .i64 0]) 40 rfl Try.underlying32 info58 rfl (by decide) (by omega) _ ((st.l.take k).map fileOf) (fileOf (nm, dd)) [.string nm, .string dd, .int .i64 0] (fun _ => True) (fun _ => False) rfl (by first | (go_simp; done) | (go_simp; rfl)) (k58_mkM _ _ _ (fileOf (nm, dd))) (fun _ hk => hk.elim) (fun _ _ => trivial) HRR.out hbel hbel.size ?aL ?_; (case aL => omega); intro v1 w2 hR1 hb1 hg1 hat1; clear hg1 hat1; have HR1 := Aside0.mk hR1; clear hR1)
      go_roundw
      case rel => exact ⟨k + 1, by omega, by go_num, by rw [HTK.out, List.map_append]; exact HR1.out, hb1⟩
      case measure => simp [intOf]; omega
    · obtain rfl : k = st.l.length := by omega
      have HRR := Aside0.mk hR
      clear hR
      go_wp2
      go_ret
      refine ⟨_, rfl, ?_, (HB.out).trans (hbel.mono HB.out.size)⟩
      have := HRR.out
      rw [List.take_length] at this
      exact Kd.R_lower this HB.out.size
end
end Go.Proofs.Ytbedfilammjlpaa.P
