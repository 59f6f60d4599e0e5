/- The document's far store in memory; its outcome taken; the place of a name. -/
import Derived.Test.YtbedfilammjlpaaG9
namespace Go.Proofs.Ytbedfilammjlpaa.P
open Go.RowKit Go.Proofs.YtbedfilammjlpaaW.PrintWords Go.Proofs.YtbedfilammjlpaaW.PrintMore Go.Maps Go.WideMaps
set_option linter.unusedVariables false
/-- Block h is the document's store: all is as st says. -/
structure RefP (w : World) (S : Nat → Prop) (h N : Nat) (st : FS) : Prop where
  bd : ∀ k, S k → k < w.heap.size
  sh : S h
  cell : ∃ A c A2 c2, w.heap[h]? = some (.cells #[.slice A (st.l.map fileOf).length c, .slice A2 st.nx.length c2, .int .i64 st.calls] 47 (0, 0)) ∧ (st.l.map fileOf).length ≤ c ∧ Lives w S k58 A (st.l.map fileOf) ∧ st.nx.length ≤ c2 ∧ Lives w S (Kd.int .i64) A2 st.nx
  few : st.l.length ≤ N
  ris : Rising st.l
section
variable {w w' : World} {S S2 : Nat → Prop} {h N : Nat} {st : FS}
theorem RefP.lt (r : RefP w S h N st) : h < w.heap.size := r.bd h r.sh
theorem RefP.other (r : RefP w S h N st) (hk : Kept w w' S2) (hs : ∀ k, S2 k → S k) (hh : ¬ S2 h) : RefP w' S h N st := by
  have hk' := hk.mono hs
  obtain ⟨A, c, A2, c2, h1, h2, h3, h4, h5⟩ := r.cell
  exact ⟨fun k hk2 => Nat.lt_of_lt_of_le (r.bd k hk2) hk.1, r.sh, ⟨A, c, A2, c2, (hk.2 h r.lt hh).trans h1, h2, h3.step hk', h4, h5.step hk'⟩, r.few, r.ris⟩
theorem RefP.none_ (r : RefP w S h N st) (hk : Stp (fun _ => False) w w') : RefP w' S h N st := r.other hk.kept (fun _ h => h.elim) (fun h => h)
theorem RefP.below (r : RefP w S h N st) (hb : Below w.heap.size w w') : RefP w' S h N st := r.none_ (Stp.of_below hb _)
theorem RefP.drawn (r : RefP w S h N st) (k : Drawn0 w w') : RefP w' S h N st := r.below k.below
theorem RefP.more (r : RefP w S h N st) {N' : Nat} (hN : N ≤ N') : RefP w S h N' st := ⟨r.bd, r.sh, r.cell, Nat.le_trans r.few hN, r.ris⟩
/-- S may be another one, if it has but new blocks more. -/
theorem RefP.wide (r : RefP w S h N st) (hk : Kept w w' S) (he : w'.heap[h]? = w.heap[h]?) (hs : ∀ k, S2 k → S k ∨ w.heap.size ≤ k) (hbd : ∀ k, S2 k → k < w'.heap.size) (hh : S2 h) : RefP w' S2 h N st := by
  obtain ⟨A, c, A2, c2, h1, h2, h3, h4, h5⟩ := r.cell
  exact ⟨hbd, hh, ⟨A, c, A2, c2, he.trans h1, h2, h3.move hk hs, h4, h5.move hk hs⟩, r.few, r.ris⟩
/-- A row that lives lies in no block that may be written. -/
theorem lives_ne {q : IntKind} {ad : Addr} {x : Int} {xs : List Int} (hl : Lives w S (Kd.int q) (some ad) (x :: xs)) (k : Nat) (hk : S k) : ad.block ≠ k := by
  rintro rfl
  have hb : ad.block < w.heap.size := by
    obtain ⟨ad', e, hc⟩ := Kd.at_int hl.now 0 (by omega) (by simp)
    injection e with e
    subst e
    have e0 : ad.add (0 : Int).toNat = ad := by unfold Addr.add; simp
    rw [e0] at hc
    exact World.block_lt_of_cell? w _ hc
  have e0 : ad.add (0 : Int).toNat = ad := by unfold Addr.add; simp
  obtain ⟨ad', e, hc⟩ := Kd.at_int hl.now 0 (by omega) (by simp)
  injection e with e
  subst e
  rw [e0] at hc
  have hk2 : Kept w (w.setCell ad (.bool true)) S := (Kept.refl w S).setCell (.inl hk) _
  obtain ⟨ad', e, hc2⟩ := Kd.at_int (hl _ hk2) 0 (by omega) (by simp)
  injection e with e
  subst e
  rw [e0, World.cell?_setCell_same' _ _ _ (by rw [hc]; rfl)] at hc2
  cases hc2
theorem RefP.writes (r : RefP w S h N st) {A A2 : Option Addr} {c c2 : Nat} {l : Obs} {nx : List Int} {calls : Int} {W : World} (hk : Kept w W (fun k => k = h)) (hc : W.heap[h]? = some (.cells #[.slice A (l.map fileOf).length c, .slice A2 nx.length c2, .int .i64 calls] 47 (0, 0)))
    (h1 : (l.map fileOf).length ≤ c) (h2 : Lives W S k58 A (l.map fileOf)) (h3 : nx.length ≤ c2) (h4 : Lives W S (Kd.int .i64) A2 nx) {N' : Nat} (h5 : l.length ≤ N') (h6 : Rising l) : RefP W S h N' ⟨l, nx, calls⟩ :=
  ⟨fun k hk2 => Nat.lt_of_lt_of_le (r.bd k hk2) hk.1, r.sh, ⟨A, c, A2, c2, hc, h1, h2, h3, h4⟩, h5, h6⟩
theorem refLeft_calls (r : RefP w S h N st) : Calls Try.prog 32 #[.pointer (some ⟨h, 0, none⟩)] w fun e w' => e = .returned (.int .i64 st.nx.length) ∧ w' = w := by
  obtain ⟨A, c, A2, c2, hb, _, _, _, hl⟩ := r.cell
  have c1 := (blk_cell hb 1).trans rfl
  have hm : st.nx.length ≤ 9223372036854775807 := hl.now.2.1
  clear hl r hb
  go_enter Try.func32, Try.ntmps32
  go_wp2
  go_ret
  exact ⟨rfl, rfl⟩
theorem refCalls_calls (r : RefP w S h N st) : Calls Try.prog 31 #[.pointer (some ⟨h, 0, none⟩)] w fun e w' => e = .returned (.int .i64 st.calls) ∧ w' = w := by
  obtain ⟨A, c, A2, c2, hb, _, _, _, hl⟩ := r.cell
  have c1 := (blk_cell hb 2).trans rfl
  clear hl r hb
  go_enter Try.func31, Try.ntmps31
  go_wp2
  go_ret
  exact ⟨rfl, rfl⟩
set_option maxRecDepth 100000 in
theorem take_none (r : RefP w S h N st) (hnx : st.nx = []) : Calls Try.prog 64 #[.pointer (some ⟨h, 0, none⟩)] w fun e w' => e = .returned (.int .i64 0) ∧ RefP w' S h N st.took ∧ Stp (fun k => k = h) w w' := by
  have HR := Aside0.mk r
  obtain ⟨l, nx, calls⟩ := st
  cases hnx
  obtain ⟨A, c, A2, c2, hb, h1, h2, h3, hl⟩ := r.cell
  have c1 : w.cell? ⟨h, 1, none⟩ = some (.slice A2 0 c2) := blk_cell hb 1
  have c2' : w.cell? ⟨h, 2, none⟩ = some (.int .i64 calls) := blk_cell hb 2
  have f2 := blk_frozen hb 2
  have HB := Aside0.mk hb
  have H2 := Aside0.mk h2
  have HL := Aside0.mk hl
  clear hb h2 hl r
  go_enter Try.func64, Try.ntmps64
  go_wp2
  go_ret
  have hst : Stp (fun k => k = h) w (w.setCell ⟨h, 2, none⟩ (.int .i64 (wrap64 (calls + 1)))) := (Stp.refl (fun k => k = h) w).setCell (p := ⟨h, 2, none⟩) (.inl rfl) _
  have hk := hst.kept.mono (S' := S) (fun k e => e ▸ HR.out.sh)
  exact ⟨rfl, HR.out.writes hst.kept (blk_put HB.out 2 _ rfl) h1 (H2.out.step hk) h3 (HL.out.step hk) HR.out.few HR.out.ris, hst⟩
set_option maxRecDepth 100000 in
theorem take_some (r : RefP w S h N st) {o : Int} {rest : List Int} (hnx : st.nx = o :: rest) : Calls Try.prog 64 #[.pointer (some ⟨h, 0, none⟩)] w fun e w' => e = .returned (.int .i64 o) ∧ RefP w' S h N st.took ∧ Stp (fun k => k = h) w w' := by
  have HR := Aside0.mk r
  obtain ⟨l, nx, calls⟩ := st
  subst hnx
  obtain ⟨A, c, A2, c2, hb, h1, h2, h3, hl⟩ := r.cell
  have hmx : rest.length + 1 ≤ 9223372036854775807 := hl.now.2.1
  have hc' : rest.length + 1 ≤ c2 := h3
  obtain ⟨ad, rfl, hcell⟩ := Kd.at_int hl.now 0 (by omega) (by simp)
  have hne := lives_ne hl h r.sh
  have e0 : ad.add (0 : Int).toNat = ad := by unfold Addr.add; simp
  rw [e0] at hcell
  obtain ⟨i0, hi, _, hz1, _⟩ := info_parts info3
  obtain ⟨A', hcut, hA⟩ := print_cut (P := Try.prog) 29 3 .i64 Try.underlying29 hi hz1 (some ad) (rest.length + 1) c2 1 (by omega)
  have c1 : w.cell? ⟨h, 1, none⟩ = some (.slice (some ad) (rest.length + 1) c2) := blk_cell hb 1
  have c2' : w.cell? ⟨h, 2, none⟩ = some (.int .i64 calls) := blk_cell hb 2
  have f2 := blk_frozen hb 2
  have f1 := blk_frozen hb 1
  have ca : (w.setCell ⟨h, 2, none⟩ (.int .i64 (wrap64 (calls + 1)))).cell? ad = some (.int .i64 o) := (World.cell?_setCell_far w ⟨h, 2, none⟩ ad _ (fun e => hne e.symm)).trans hcell
  have HB := Aside0.mk hb
  have H2 := Aside0.mk h2
  have HL := Aside0.mk hl
  have HA := Aside0.mk hA
  clear hb h2 hl r hA hne e0
  have hcut2 : ∀ W : World, (Instr.slice 29 (.slice (some ad) (rest.length + 1) c2) (some (.int .i64 1)) none none).run Try.prog W = .ok (.slice A' rest.length (c2 - 1)) W := fun W => hcut W
  clear hcut
  go_enter Try.func64, Try.ntmps64
  go_wp2
  go_ret
  have hst : Stp (fun k => k = h) w (w.setCell ⟨h, 2, none⟩ (.int .i64 (wrap64 (calls + 1)))) := (Stp.refl (fun k => k = h) w).setCell (p := ⟨h, 2, none⟩) (.inl rfl) _
  have hst2 : Stp (fun k => k = h) w ((w.setCell ⟨h, 2, none⟩ (.int .i64 (wrap64 (calls + 1)))).setCell ⟨h, 1, none⟩ (.slice A' rest.length (c2 - 1))) := hst.setCell (p := ⟨h, 1, none⟩) (.inl rfl) _
  have hk := hst2.kept.mono (S' := S) (fun k e => e ▸ HR.out.sh)
  refine ⟨rfl, HR.out.writes (nx := rest) hst2.kept (blk_put (blk_put HB.out 2 _ rfl) 1 _ rfl) h1 (H2.out.step hk) (by omega) (fun W' hk2 => ?_) HR.out.few HR.out.ris, hst2⟩
  exact Kd.C_of_reads (h1 := fun _ => rfl) (d := (0 : Int)) (HA.out W' .i64 (o :: rest) hc' (Kd.reads_of_C (d := (0 : Int)) (HL.out.step hk W' hk2)))
theorem take_calls (r : RefP w S h N st) : Calls Try.prog 64 #[.pointer (some ⟨h, 0, none⟩)] w fun e w' => e = .returned (.int .i64 st.out) ∧ RefP w' S h N st.took ∧ Stp (fun k => k = h) w w' := by
  cases hnx : st.nx with
  | nil =>
    have ho : st.out = 0 := by unfold FS.out; rw [hnx]; rfl
    rw [ho]
    exact take_none r hnx
  | cons o rest =>
    have ho : st.out = o := by unfold FS.out; rw [hnx]; rfl
    rw [ho]
    exact take_some r hnx
end
end Go.Proofs.Ytbedfilammjlpaa.P
