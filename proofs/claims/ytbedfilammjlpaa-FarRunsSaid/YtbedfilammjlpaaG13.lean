/- The document's far store: List, Get. -/
import Derived.Test.YtbedfilammjlpaaG12
namespace Go.Proofs.Ytbedfilammjlpaa.P
open Go.RowKit Go.Proofs.YtbedfilammjlpaaW.PrintWords Go.Proofs.YtbedfilammjlpaaW.PrintMore Go.Maps Go.WideMaps
set_option linter.unusedVariables false
section
variable {w w' : World} {S S2 : Nat → Prop} {h N : Nat} {st : FS}
/-- What the calls below need of a store's row. -/
theorem RefP.rows (r : RefP w S h N st) : ∃ A c, w.cell? ⟨h, 0, none⟩ = some (.slice A st.l.length c) ∧ st.l.length ≤ c ∧ Lives w S k58 A (st.l.map fileOf) := by
  obtain ⟨A, c, A2, c2, hb, h1, h2, _, _⟩ := r.cell
  rw [List.length_map] at h1
  exact ⟨A, c, by rw [← List.length_map (f := fileOf)]; exact blk_cell hb 0, h1, h2⟩
set_option maxRecDepth 100000 in
set_option maxHeartbeats 1000000 in
theorem refList_calls (r : RefP w S h N st) (hN : N ≤ 1000000) : Calls Try.prog 52 #[.pointer (some ⟨h, 0, none⟩)] w fun e w' => ∃ A c, e = .returned (.tuple #[.slice A (listF st).1.length c, .int .i64 (listF st).2.1]) ∧ (listF st).1.length ≤ c ∧ Lives w' S Kd.string A (listF st).1 ∧ RefP w' S h N (listF st).2.2 ∧ Stp (fun k => k = h) w w' := by
  have HR := Aside0.mk r
  clear r
  go_enter Try.func52, Try.ntmps52
  go_wp2_with fail
  refine (take_calls HR.out).mono ?_
  rintro _ w1 ⟨rfl, hr1, hs1⟩
  have HR1 := Aside0.mk hr1
  have HS1 := Aside0.mk hs1
  clear hr1 hs1
  go_wp2_with fail
  refine (told_calls _ 0 _).mono ?_
  rintro _ w2 ⟨rfl, hd⟩
  have HR2 := Aside0.mk (HR1.out.drawn hd)
  have HS2 := Aside0.mk (HS1.out.drawn hd)
  clear hd
  by_cases hz : toldF st.out 0 = 0
  · have HZ := Aside0.mk (listF_tells hz)
    rw [hz]
    clear hz HR1 HS1
    go_wp2_with fail
    obtain ⟨A, c, c0, hlc, hl0⟩ := HR2.out.rows
    have HL := Aside0.mk hl0
    have hln : st.l.length ≤ 1000000 := by have := HR2.out.few; rw [FS.took_l] at this; omega
    rw [FS.took_l] at c0 hlc HL
    have hh2 : h < w2.heap.size := HR2.out.lt
    clear hl0
    go_loopw [5, 6] (fun v i wr => ∃ k : Nat, k ≤ st.l.length ∧ i = .int .i64 k ∧ Kd.R Kd.string 9 wr w2.heap.size (fun _ => True) v ((st.l.take k).map (·.1)) ∧ Below w2.heap.size w2 wr) (fun _ i _ => st.l.length - (intOf i).toNat)
    case atStart => exact ⟨0, Nat.zero_le _, rfl, Kd.R_nil _ _ _ _ _, Below.refl _ _⟩
    case round =>
      obtain ⟨k, hk, rfl, hR, hbel⟩ := hrel
      have HRR := Aside0.mk hR
      clear hR
      have c0r : wr.cell? ⟨h, 0, none⟩ = some (.slice A st.l.length c) := keep_cell hbel c0
      by_cases hlt : k < st.l.length
      · obtain ⟨ad, e, d1, d2, d3⟩ := file_at (Kd.C_below HL.out.now hbel) k hlt
        subst e
        clear d2 d3
        have HTK := Aside0.mk (take_snoc st.l k hlt)
        have hlk : ((st.l.take k).map (·.1)).length ≤ 1000000 := by rw [List.length_map, List.length_take]; omega
        generalize st.l[k] = q at d1 HTK
        obtain ⟨nm, dd⟩ := q
        go_wp2_with (at_builtin; refine Kd.R_append Kd.string (w0 := w2) w2.heap.size rfl (.tmp 22) (.tmp 31) 53 9 (.string ⟨#[]⟩) 16 rfl Try.underlying53 info9 rfl (by decide) (by omega) _ ((st.l.take k).map (fun p : ByteArray × ByteArray => p.1)) nm [.string nm] (fun _ => True) (fun _ => False) rfl (by first | (go_simp; done) | (go_simp; rfl)) rfl (fun _ hk => hk.elim) (fun _ _ => trivial) HRR.out hbel hbel.size ?aL ?_; (case aL => omega); intro v1 w3 hR1 hb1 hg1 hat1; clear hg1 hat1; have HR1 := Aside0.mk hR1; clear hR1)
        go_roundw
        case rel => exact ⟨k + 1, by omega, by go_num, by rw [HTK.out, List.map_append]; exact HR1.out, hb1⟩
        case measure => simp [intOf]; omega
      · obtain rfl : k = st.l.length := by omega
        go_wp2_with fail
        go_ret2
        have h3 := HRR.out
        rw [List.take_length] at h3
        obtain ⟨A3, c3, rfl, h4, h5⟩ := Lives.new h3 HR2.out.bd
        rw [HZ.out]
        exact ⟨A3, c3, rfl, h4, h5, HR2.out.below hbel, HS2.out.below hbel⟩
  · have HN := Aside0.mk (listF_not hz)
    generalize toldF st.out 0 = z at hz HN ⊢
    have hz' : (z == 0) = false := by simpa using hz
    have hz2 : (z != 0) = true := by simpa using hz
    clear hz HR1 HS1
    go_wp2_with fail
    go_ret2
    rw [HN.out]
    exact ⟨none, 0, rfl, Nat.le_refl _, Lives.nil _ _ _, HR2.out, HS2.out⟩
end
end Go.Proofs.Ytbedfilammjlpaa.P
