/- The closure of Get, where there is an object and the place is in it. -/
import Derived.Test.YtbedfilammjlpaaG3
namespace Go.Proofs.Ytbedfilammjlpaa.P
open Go.RowKit Go.Proofs.YtbedfilammjlpaaW.PrintWords Go.Proofs.YtbedfilammjlpaaW.PrintMore Go.Maps Go.WideMaps
set_option linter.unusedVariables false
attribute [local go_sem] max2_int min2_int max_two min_two max_three min_three max_four min_four
section
variable {w : World} {S : Nat → Prop} {g m N : Nat} {st : FS}
/-- More blocks that may be written: new ones. -/
theorem FarP.wide (h : FarP w S g m N st) {w' : World} {S2 : Nat → Prop} (hk : Stp (fun _ => False) w w') (hs : ∀ k, S2 k → S k ∨ w.heap.size ≤ k) (hbd : ∀ k, S2 k → k < w'.heap.size) (hsub : ∀ k, S k → S2 k) : FarP w' S2 g m N st := by
  obtain ⟨A, c, hb, hc, hl⟩ := h.cell
  obtain ⟨D, ho, ht⟩ := h.map
  have hkS := hk.kept.mono (S' := S) (fun _ h => h.elim)
  exact ⟨hbd, hsub g h.sg, hsub m h.sm, ⟨A, c, (hk.kept.2 g h.lt.1 (fun h => h)).trans hb, hc, hl.move hkS hs⟩, ⟨D, owns_block ho (hk.kept.2 m h.lt.2 (fun h => h)), ht.has, fun s d hf => by
    obtain ⟨A, xs, c, h1, h2, h3, h4, h5, h6⟩ := ht.val s d hf
    exact ⟨A, xs, c, h1, h2, h3, h4, h5.move hkS hs, h6⟩⟩, h.ris⟩
theorem FarP.narrow (h : FarP w S g m N st) {S2 : Nat → Prop} (hs : ∀ k, S2 k → S k) (hg : S2 g) (hm : S2 m) : FarP w S2 g m N st := by
  obtain ⟨A, c, hb, hc, hl⟩ := h.cell
  obtain ⟨D, ho, ht⟩ := h.map
  exact ⟨fun k hk => h.bd k (hs k hk), hg, hm, ⟨A, c, hb, hc, hl.less (fun k hk => .inl (hs k hk))⟩, ⟨D, ho, ht.has, fun s d hf => by
    obtain ⟨A, xs, c, h1, h2, h3, h4, h5, h6⟩ := ht.val s d hf
    exact ⟨A, xs, c, h1, h2, h3, h4, h5.less (fun k hk => .inl (hs k hk)), h6⟩⟩, h.ris⟩
/-- What the closure of Get leaves: the cut in the captured cell. -/
structure Got (w' : World) (S : Nat → Prop) (po : Nat) (ys : List Int) : Prop where
  out : ∃ A c, w'.cell? ⟨po, 0, none⟩ = some (.slice A ys.length c) ∧ ys.length ≤ c ∧ Lives w' S (Kd.int .u8) A ys
theorem got_store {w1 : World} {po base : Nat} {v v0 : Value} {ys : List Int} (hv : Kd.R (Kd.int .u8) 5 w1 base (fun _ => True) v ys) (hS : ∀ k, S k → k < base) (hpo : po < base) (hc : w1.cell? ⟨po, 0, none⟩ = some v0) : Got (w1.setCell ⟨po, 0, none⟩ v) S po ys := by
  have h2 : Kd.R (Kd.int .u8) 5 (w1.setCell ⟨po, 0, none⟩ v) base (fun _ => True) v ys := Kd.R_mono (Kd.R_far (p := ⟨po, 0, none⟩) (Kd.R_bound hv) (fun k hk e => by have := hk.2.1; have e' : k = po := e; omega) v) (fun _ _ => trivial)
  obtain ⟨A, c, e, h3, h4⟩ := Lives.new h2 hS
  subst e
  exact ⟨A, c, World.cell?_setCell_same' _ _ _ (by rw [hc]; rfl), h3, h4⟩
set_option maxRecDepth 100000 in
theorem get1_ok (h : FarP w S g m N st) (pf ps pa pn po : Nat) (s : ByteArray) (hs : s.size ≤ maxLen) (at_ n : Int) (v0 : Value) (hpo : S po) (hpg : po ≠ g)
    (cf : w.cell? ⟨pf, 0, none⟩ = some (.pointer (some ⟨g, 0, none⟩))) (cs : w.cell? ⟨ps, 0, none⟩ = some (.string s)) (ca : w.cell? ⟨pa, 0, none⟩ = some (.int .i64 at_)) (cn : w.cell? ⟨pn, 0, none⟩ = some (.int .i64 n)) (co : w.cell? ⟨po, 0, none⟩ = some v0) (fo : w.frozen? ⟨po, 0, none⟩ = false) {d : ByteArray} (hh : findO st.l s = some d) (h0 : 0 ≤ at_) (h1 : at_ ≤ (d.size : Int)) (h2 : 0 ≤ n) :
    Calls Try.prog 44 #[.pointer (some ⟨pf, 0, none⟩), .pointer (some ⟨ps, 0, none⟩), .pointer (some ⟨pa, 0, none⟩), .pointer (some ⟨pn, 0, none⟩), .pointer (some ⟨po, 0, none⟩)] w fun e w' => e = .returned (.int .i64 0) ∧ Got w' S po (cutF (bytesOf d) at_ n) ∧ FarP w' S g m N st ∧ Stp (fun k => k = po) w w' := by
  obtain ⟨A1, xs, c1', h3, h4, hbt, hl, he, hlook⟩ := h.look_some s hs hh
  have hxs : bytesOf d = xs := by rw [← he, bytesOf_strOfNums hbt]
  have hsz : d.size = xs.length := by rw [← he, size_strOfNums]
  rw [hsz] at h1
  rw [hxs]
  have HS := Aside0.mk h
  obtain ⟨A0, c0, hb, _, _⟩ := h.cell
  have c1 : w.cell? ⟨g, 0, none⟩ = some (.map (some m)) := blk_cell hb 0
  have hpm : po ≠ m := h.cell_ne co
  have hplt : po < w.heap.size := h.bd po hpo
  clear hb h hh he hsz hxs hbt
  have HL := Aside0.mk hl
  clear hl
  obtain ⟨i0, hi, _, hz1, _⟩ := info_parts info5
  have key : ∀ B : Int, at_ ≤ B → B ≤ xs.length → ∃ A' ys c', ys = (xs.take B.toNat).drop at_.toNat ∧ ys.length ≤ 1048576 ∧ (∀ W : World, (Instr.slice 22 (.slice A1 xs.length c1') (some (.int .i64 at_)) (some (.int .i64 B)) none).run Try.prog W = .ok (.slice A' ys.length c') W) ∧ ∀ W, Kept w W S → Kd.C (Kd.int .u8) W A' ys.length ys := by
    intro B hB1 hB2
    obtain ⟨A', hcut, hA, hC⟩ := print_mid_of (P := Try.prog) (Value.int .u8) 0 22 5 .i64 .i64 Try.underlying22 hi hz1 A1 c1' xs at_ B h0 hB1 hB2 h3
    refine ⟨A', _, _, rfl, ?_, hcut, fun W hW => Kd.C_of_reads (h1 := fun _ => rfl) (hA W (Kd.reads_of_C (HL.out W hW)))⟩
    rw [List.length_drop, List.length_take]
    omega
  by_cases b1 : (xs.length : Int) - at_ < n
  · obtain ⟨A', ys, c', hys, hyl, hcut, hC⟩ := key (at_ + ((xs.length : Int) - at_)) (by omega) (by omega)
    have hcf : cutF xs at_ n = ys := by unfold cutF mn; rw [if_pos b1, hys]
    rw [hcf]
    have HC := Aside0.mk hC
    clear hC hcf hys key
    go_enter Try.func44, Try.ntmps44
    go_wp2
    go_quiet (fail)
    go_wp2_with (go_at_call 40; (with_reducible refine (cloneB_calls A' c' ys _ (HC.out _ ((Kept.refl w S).drewN _)) hyl).mono ?_); rintro _ w1 ⟨v1, rfl, hv1, hbel⟩; have HV := Aside0.mk hv1; clear hv1; have co1 : w1.cell? ⟨po, 0, none⟩ = some v0 := keep_cell hbel co; have fo1 : w1.frozen? ⟨po, 0, none⟩ = false := (hbel.frozen (p := ⟨po, 0, none⟩) hplt).trans fo; obtain ⟨A2, c2, hA2⟩ := Kd.R_slice HV.out; subst hA2)
    go_ret
    have hst : Stp (fun k => k = po) w1 (w1.setCell ⟨po, 0, none⟩ (.slice A2 ys.length c2)) := (Stp.refl (fun k => k = po) w1).setCell (p := ⟨po, 0, none⟩) (.inl rfl) _
    exact ⟨rfl, got_store HV.out HS.out.bd hplt co1, (HS.out.below (w' := w1) ⟨hbel.os, hbel.tape, hbel.output, hbel.size, hbel.block⟩).other hst.kept (fun k e => e ▸ hpo) (fun e => hpg e.symm) (fun e => hpm e.symm), (Stp.of_below (w := w) (w1 := w1) ⟨hbel.os, hbel.tape, hbel.output, hbel.size, hbel.block⟩ _).trans hst⟩
  · obtain ⟨A', ys, c', hys, hyl, hcut, hC⟩ := key (at_ + n) (by omega) (by omega)
    have hcf : cutF xs at_ n = ys := by unfold cutF mn; rw [if_neg b1, hys]
    rw [hcf]
    have HC := Aside0.mk hC
    clear hC hcf hys key
    go_enter Try.func44, Try.ntmps44
    go_wp2
    go_quiet (fail)
    go_wp2_with (go_at_call 40; (with_reducible refine (cloneB_calls A' c' ys _ (HC.out _ ((Kept.refl w S).drewN _)) hyl).mono ?_); rintro _ w1 ⟨v1, rfl, hv1, hbel⟩; have HV := Aside0.mk hv1; clear hv1; have co1 : w1.cell? ⟨po, 0, none⟩ = some v0 := keep_cell hbel co; have fo1 : w1.frozen? ⟨po, 0, none⟩ = false := (hbel.frozen (p := ⟨po, 0, none⟩) hplt).trans fo; obtain ⟨A2, c2, hA2⟩ := Kd.R_slice HV.out; subst hA2)
    go_ret
    have hst : Stp (fun k => k = po) w1 (w1.setCell ⟨po, 0, none⟩ (.slice A2 ys.length c2)) := (Stp.refl (fun k => k = po) w1).setCell (p := ⟨po, 0, none⟩) (.inl rfl) _
    exact ⟨rfl, got_store HV.out HS.out.bd hplt co1, (HS.out.below (w' := w1) ⟨hbel.os, hbel.tape, hbel.output, hbel.size, hbel.block⟩).other hst.kept (fun k e => e ▸ hpo) (fun e => hpg e.symm) (fun e => hpm e.symm), (Stp.of_below (w := w) (w1 := w1) ⟨hbel.os, hbel.tape, hbel.output, hbel.size, hbel.block⟩ _).trans hst⟩
/-- The closure of Get. -/
theorem get1_calls (h : FarP w S g m N st) (pf ps pa pn po : Nat) (s : ByteArray) (hs : s.size ≤ maxLen) (at_ n : Int) (v0 : Value) (hpo : S po) (hpg : po ≠ g)
    (cf : w.cell? ⟨pf, 0, none⟩ = some (.pointer (some ⟨g, 0, none⟩))) (cs : w.cell? ⟨ps, 0, none⟩ = some (.string s)) (ca : w.cell? ⟨pa, 0, none⟩ = some (.int .i64 at_)) (cn : w.cell? ⟨pn, 0, none⟩ = some (.int .i64 n)) (co : w.cell? ⟨po, 0, none⟩ = some v0) (fo : w.frozen? ⟨po, 0, none⟩ = false) :
    Calls Try.prog 44 #[.pointer (some ⟨pf, 0, none⟩), .pointer (some ⟨ps, 0, none⟩), .pointer (some ⟨pa, 0, none⟩), .pointer (some ⟨pn, 0, none⟩), .pointer (some ⟨po, 0, none⟩)] w fun e w' => e = .returned (.int .i64 (getE st.l s at_ n)) ∧ (getE st.l s at_ n = 0 → Got w' S po (cutF (bytesOf ((findO st.l s).getD ByteArray.empty)) at_ n)) ∧ FarP w' S g m N st ∧ Stp (fun k => k = po) w w' := by
  cases hh : findO st.l s with
  | none =>
    have e2 : getE st.l s at_ n = 2 := by unfold getE; rw [hh]
    rw [e2]
    refine (get1_none h pf ps pa pn po s hs cf cs hh).mono fun e w' he => ?_
    obtain ⟨rfl, hd⟩ := he
    exact ⟨rfl, fun h => absurd h (by decide), h.drawn hd, drawn_step hd _⟩
  | some d =>
    by_cases hbad : at_ < 0 ∨ (d.size : Int) < at_ ∨ n < 0
    · have e1 : getE st.l s at_ n = 1 := by
        unfold getE
        rw [hh]
        dsimp only
        by_cases b1 : at_ < 0
        · rw [if_pos b1]
        · rw [if_neg b1]
          by_cases b2 : (d.size : Int) < at_
          · rw [if_pos b2]
          · rw [if_neg b2, if_pos (by omega)]
      rw [e1]
      refine (get1_arg h pf ps pa pn po s hs at_ n cf cs ca cn hh hbad).mono fun e w' he => ?_
      obtain ⟨rfl, hd⟩ := he
      exact ⟨rfl, fun h => absurd h (by decide), h.drawn hd, drawn_step hd _⟩
    · have e0 : getE st.l s at_ n = 0 := by
        unfold getE
        rw [hh]
        dsimp only
        rw [if_neg (by omega), if_neg (by omega), if_neg (by omega)]
      rw [e0]
      refine (get1_ok h pf ps pa pn po s hs at_ n v0 hpo hpg cf cs ca cn co fo hh (by omega) (by omega) (by omega)).mono fun e w' he => ?_
      obtain ⟨rfl, h1, h2, h3⟩ := he
      exact ⟨rfl, fun _ => h1, h2, h3⟩
end
end Go.Proofs.Ytbedfilammjlpaa.P
