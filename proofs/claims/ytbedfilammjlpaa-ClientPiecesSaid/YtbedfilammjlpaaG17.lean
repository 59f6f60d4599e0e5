/- The document's far store in memory; its outcome taken; the place of a name. The document's far store: the place of a name, Objects, List, Get. The document's far store: List, Get. The document's far store: Get. The document's far store: Drop. The document's far store: Put. The document's far store: Put, where it is done. -/
import Derived.Test.YtbedfilammjlpaaG10
namespace Go.Proofs.Ytbedfilammjlpaa.P
open Go.RowKit Go.Proofs.YtbedfilammjlpaaW.PrintWords Go.Proofs.YtbedfilammjlpaaW.PrintMore Go.Maps Go.WideMaps
set_option linter.unusedVariables false
/-- Block h is the document's store: all is as st says. -/
structure RefP (w : World) (S : Nat → Prop) (h N : Nat) (st : FS) : Prop where
  bd : ∀ k, S k → k < w.heap.size
  sh : S h
  cell : ∃ A c A2 c2, w.heap[h]? = some (.cells #[.slice A (st.l.map fileOf).length c, .slice A2 st.nx.length c2, .int .i64 st.calls] 47 (0, 0)) ∧ (st.l.map fileOf).length ≤ c ∧ Lives w S k58 A (st.l.map fileOf) ∧ st.nx.length ≤ c2 ∧ Lives w S (Kd.int .i64) A2 st.nx
  few : st.l.length ≤ N
  ris : Rising st.l
section
variable {w w' : World} {S S2 : Nat → Prop} {h N : Nat} {st : FS}
theorem RefP.lt (r : RefP w S h N st) : h < w.heap.size := r.bd h r.sh
theorem RefP.other (r : RefP w S h N st) (hk : Kept w w' S2) (hs : ∀ k, S2 k → S k) (hh : ¬ S2 h) : RefP w' S h N st := by
  have hk' := hk.mono hs
  obtain ⟨A, c, A2, c2, h1, h2, h3, h4, h5⟩ := r.cell
  exact ⟨fun k hk2 => Nat.lt_of_lt_of_le (r.bd k hk2) hk.1, r.sh, ⟨A, c, A2, c2, (hk.2 h r.lt hh).trans h1, h2, h3.step hk', h4, h5.step hk'⟩, r.few, r.ris⟩
theorem RefP.none_ (r : RefP w S h N st) (hk : Stp (fun _ => False) w w') : RefP w' S h N st := r.other hk.kept (fun _ h => h.elim) (fun h => h)
theorem RefP.below (r : RefP w S h N st) (hb : Below w.heap.size w w') : RefP w' S h N st := r.none_ (Stp.of_below hb _)
theorem RefP.drawn (r : RefP w S h N st) (k : Drawn0 w w') : RefP w' S h N st := r.below k.below
theorem RefP.more (r : RefP w S h N st) {N' : Nat} (hN : N ≤ N') : RefP w S h N' st := ⟨r.bd, r.sh, r.cell, Nat.le_trans r.few hN, r.ris⟩
/-- S may be another one, if it has but new blocks more. -/
theorem RefP.wide (r : RefP w S h N st) (hk : Kept w w' S) (he : w'.heap[h]? = w.heap[h]?) (hs : ∀ k, S2 k → S k ∨ w.heap.size ≤ k) (hbd : ∀ k, S2 k → k < w'.heap.size) (hh : S2 h) : RefP w' S2 h N st := by
  obtain ⟨A, c, A2, c2, h1, h2, h3, h4, h5⟩ := r.cell
  exact ⟨hbd, hh, ⟨A, c, A2, c2, he.trans h1, h2, h3.move hk hs, h4, h5.move hk hs⟩, r.few, r.ris⟩
/-- A row that lives lies in no block that may be written. -/
theorem lives_ne {q : IntKind} {ad : Addr} {x : Int} {xs : List Int} (hl : Lives w S (Kd.int q) (some ad) (x :: xs)) (k : Nat) (hk : S k) : ad.block ≠ k := by
  rintro rfl
  have hb : ad.block < w.heap.size := by
    obtain ⟨ad', e, hc⟩ := Kd.at_int hl.now 0 (by omega) (by simp)
    injection e with e
    subst e
    have e0 : ad.add (0 : Int).toNat = ad := by unfold Addr.add; simp
    rw [e0] at hc
    exact World.block_lt_of_cell? w _ hc
  have e0 : ad.add (0 : Int).toNat = ad := by unfold Addr.add; simp
  obtain ⟨ad', e, hc⟩ := Kd.at_int hl.now 0 (by omega) (by simp)
  injection e with e
  subst e
  rw [e0] at hc
  have hk2 : Kept w (w.setCell ad (.bool true)) S := (Kept.refl w S).setCell (.inl hk) _
  obtain ⟨ad', e, hc2⟩ := Kd.at_int (hl _ hk2) 0 (by omega) (by simp)
  injection e with e
  subst e
  rw [e0, World.cell?_setCell_same' _ _ _ (by rw [hc]; rfl)] at hc2
  cases hc2
theorem RefP.writes (r : RefP w S h N st) {A A2 : Option Addr} {c c2 : Nat} {l : Obs} {nx : List Int} {calls : Int} {W : World} (hk : Kept w W (fun k => k = h)) (hc : W.heap[h]? = some (.cells #[.slice A (l.map fileOf).length c, .slice A2 nx.length c2, .int .i64 calls] 47 (0, 0)))
    (h1 : (l.map fileOf).length ≤ c) (h2 : Lives W S k58 A (l.map fileOf)) (h3 : nx.length ≤ c2) (h4 : Lives W S (Kd.int .i64) A2 nx) {N' : Nat} (h5 : l.length ≤ N') (h6 : Rising l) : RefP W S h N' ⟨l, nx, calls⟩ :=
  ⟨fun k hk2 => Nat.lt_of_lt_of_le (r.bd k hk2) hk.1, r.sh, ⟨A, c, A2, c2, hc, h1, h2, h3, h4⟩, h5, h6⟩
theorem refLeft_calls (r : RefP w S h N st) : Calls Try.prog 32 #[.pointer (some ⟨h, 0, none⟩)] w fun e w' => e = .returned (.int .i64 st.nx.length) ∧ w' = w := by
  obtain ⟨A, c, A2, c2, hb, _, _, _, hl⟩ := r.cell
  have c1 := (blk_cell hb 1).trans rfl
  have hm : st.nx.length ≤ 9223372036854775807 := hl.now.2.1
  clear hl r hb
  go_enter Try.func32, Try.ntmps32
  go_wp2
  go_ret
  exact ⟨rfl, rfl⟩
theorem refCalls_calls (r : RefP w S h N st) : Calls Try.prog 31 #[.pointer (some ⟨h, 0, none⟩)] w fun e w' => e = .returned (.int .i64 st.calls) ∧ w' = w := by
  obtain ⟨A, c, A2, c2, hb, _, _, _, hl⟩ := r.cell
  have c1 := (blk_cell hb 2).trans rfl
  clear hl r hb
  go_enter Try.func31, Try.ntmps31
  go_wp2
  go_ret
  exact ⟨rfl, rfl⟩
set_option maxRecDepth 100000 in
theorem take_none (r : RefP w S h N st) (hnx : st.nx = []) : Calls Try.prog 64 #[.pointer (some ⟨h, 0, none⟩)] w fun e w' => e = .returned (.int .i64 0) ∧ RefP w' S h N st.took ∧ Stp (fun k => k = h) w w' := by
  have HR := Aside0.mk r
  obtain ⟨l, nx, calls⟩ := st
  cases hnx
  obtain ⟨A, c, A2, c2, hb, h1, h2, h3, hl⟩ := r.cell
  have c1 : w.cell? ⟨h, 1, none⟩ = some (.slice A2 0 c2) := blk_cell hb 1
  have c2' : w.cell? ⟨h, 2, none⟩ = some (.int .i64 calls) := blk_cell hb 2
  have f2 := blk_frozen hb 2
  have HB := Aside0.mk hb
  have H2 := Aside0.mk h2
  have HL := Aside0.mk hl
  clear hb h2 hl r
  go_enter Try.func64, Try.ntmps64
  go_wp2
  go_ret
  have hst : Stp (fun k => k = h) w (w.setCell ⟨h, 2, none⟩ (.int .i64 (wrap64 (calls + 1)))) := (Stp.refl (fun k => k = h) w).setCell (p := ⟨h, 2, none⟩) (.inl rfl) _
  have hk := hst.kept.mono (S' := S) (fun k e => e ▸ HR.out.sh)
  exact ⟨rfl, HR.out.writes hst.kept (blk_put HB.out 2 _ rfl) h1 (H2.out.step hk) h3 (HL.out.step hk) HR.out.few HR.out.ris, hst⟩
set_option maxRecDepth 100000 in
theorem take_some (r : RefP w S h N st) {o : Int} {rest : List Int} (hnx : st.nx = o :: rest) : Calls Try.prog 64 #[.pointer (some ⟨h, 0, none⟩)] w fun e w' => e = .returned (.int .i64 o) ∧ RefP w' S h N st.took ∧ Stp (fun k => k = h) w w' := by
  have HR := Aside0.mk r
  obtain ⟨l, nx, calls⟩ := st
  subst hnx
  obtain ⟨A, c, A2, c2, hb, h1, h2, h3, hl⟩ := r.cell
  have hmx : rest.length + 1 ≤ 9223372036854775807 := hl.now.2.1
  have hc' : rest.length + 1 ≤ c2 := h3
  obtain ⟨ad, rfl, hcell⟩ := Kd.at_int hl.now 0 (by omega) (by simp)
  have hne := lives_ne hl h r.sh
  have e0 : ad.add (0 : Int).toNat = ad := by unfold Addr.add; simp
  rw [e0] at hcell
  obtain ⟨i0, hi, _, hz1, _⟩ := info_parts info3
  obtain ⟨A', hcut, hA⟩ := print_cut (P := Try.prog) 29 3 .i64 Try.underlying29 hi hz1 (some ad) (rest.length + 1) c2 1 (by omega)
  have c1 : w.cell? ⟨h, 1, none⟩ = some (.slice (some ad) (rest.length + 1) c2) := blk_cell hb 1
  have c2' : w.cell? ⟨h, 2, none⟩ = some (.int .i64 calls) := blk_cell hb 2
  have f2 := blk_frozen hb 2
  have f1 := blk_frozen hb 1
  have ca : (w.setCell ⟨h, 2, none⟩ (.int .i64 (wrap64 (calls + 1)))).cell? ad = some (.int .i64 o) := (World.cell?_setCell_far w ⟨h, 2, none⟩ ad _ (fun e => hne e.symm)).trans hcell
  have HB := Aside0.mk hb
  have H2 := Aside0.mk h2
  have HL := Aside0.mk hl
  have HA := Aside0.mk hA
  clear hb h2 hl r hA hne e0
  have hcut2 : ∀ W : World, (Instr.slice 29 (.slice (some ad) (rest.length + 1) c2) (some (.int .i64 1)) none none).run Try.prog W = .ok (.slice A' rest.length (c2 - 1)) W := fun W => hcut W
  clear hcut
  go_enter Try.func64, Try.ntmps64
  go_wp2
  go_ret
  have hst : Stp (fun k => k = h) w (w.setCell ⟨h, 2, none⟩ (.int .i64 (wrap64 (calls + 1)))) := (Stp.refl (fun k => k = h) w).setCell (p := ⟨h, 2, none⟩) (.inl rfl) _
  have hst2 : Stp (fun k => k = h) w ((w.setCell ⟨h, 2, none⟩ (.int .i64 (wrap64 (calls + 1)))).setCell ⟨h, 1, none⟩ (.slice A' rest.length (c2 - 1))) := hst.setCell (p := ⟨h, 1, none⟩) (.inl rfl) _
  have hk := hst2.kept.mono (S' := S) (fun k e => e ▸ HR.out.sh)
  refine ⟨rfl, HR.out.writes (nx := rest) hst2.kept (blk_put (blk_put HB.out 2 _ rfl) 1 _ rfl) h1 (H2.out.step hk) (by omega) (fun W' hk2 => ?_) HR.out.few HR.out.ris, hst2⟩
  exact Kd.C_of_reads (h1 := fun _ => rfl) (d := (0 : Int)) (HA.out W' .i64 (o :: rest) hc' (Kd.reads_of_C (d := (0 : Int)) (HL.out.step hk W' hk2)))
theorem take_calls (r : RefP w S h N st) : Calls Try.prog 64 #[.pointer (some ⟨h, 0, none⟩)] w fun e w' => e = .returned (.int .i64 st.out) ∧ RefP w' S h N st.took ∧ Stp (fun k => k = h) w w' := by
  cases hnx : st.nx with
  | nil =>
    have ho : st.out = 0 := by unfold FS.out; rw [hnx]; rfl
    rw [ho]
    exact take_none r hnx
  | cons o rest =>
    have ho : st.out = o := by unfold FS.out; rw [hnx]; rfl
    rw [ho]
    exact take_some r hnx
end
end Go.Proofs.Ytbedfilammjlpaa.P
namespace Go.Proofs.Ytbedfilammjlpaa.P
open Go.RowKit Go.Proofs.YtbedfilammjlpaaW.PrintWords Go.Proofs.YtbedfilammjlpaaW.PrintMore Go.Maps Go.WideMaps
set_option linter.unusedVariables false
/-- The place of a name, -1 where there is none. -/
def idxI (l : Obs) (s : ByteArray) : Int := match idxO l s with
  | some i => (i : Int)
  | none => -1
theorem idxI_at {l : Obs} {s : ByteArray} {k : Nat} (hk : k < l.length) (hb : ∀ j (hj : j < k), (l[j]'(Nat.lt_trans hj hk)).1 ≠ s) (he : (l[k]).1 = s) : idxI l s = (k : Int) := by
  have : idxO l s = some k := by
    unfold idxO
    rw [List.findIdx?_eq_some_iff_getElem]
    exact ⟨hk, by simpa using he, fun j hj => by simpa using hb j hj⟩
  unfold idxI
  rw [this]
theorem idxI_end {l : Obs} {s : ByteArray} (hb : ∀ j (hj : j < l.length), (l[j]).1 ≠ s) : idxI l s = -1 := by
  have : idxO l s = none := idxO_none (findO_none.2 fun p hp => by
    obtain ⟨j, hj, rfl⟩ := List.getElem_of_mem hp
    exact hb j hj)
  unfold idxI
  rw [this]
section
variable {w w' : World} {S S2 : Nat → Prop} {h N : Nat} {st : FS}
/-- An object of the row. -/
theorem file_at {A : Option Addr} {l : Obs} (hC : Kd.C k58 w A (l.map fileOf).length (l.map fileOf)) (k : Nat) (hk : k < l.length) : ∃ ad, A = some ad ∧ w.cell? (ad.add (k * 3)) = some (.string (l[k]).1) ∧ w.cell? ⟨(ad.add (k * 3)).block, (ad.add (k * 3)).off + 1, none⟩ = some (.string (l[k]).2) ∧ w.cell? ⟨(ad.add (k * 3)).block, (ad.add (k * 3)).off + 1 + 1, none⟩ = some (.int .i64 0) := by
  obtain ⟨ad, e, h1, h2, h3⟩ := at_T58 hC (k : Int) (by omega) (by rw [List.length_map]; omega)
  have hr : rd_T58 (l.map fileOf) (k : Int) = fileOf l[k] := by
    unfold rd_T58
    simp [List.getD_eq_getElem?_getD, hk]
  rw [hr] at h1 h2 h3
  exact ⟨ad, e, h1, h2, h3⟩
set_option maxRecDepth 100000 in
theorem at_calls (r : RefP w S h N st) (s : ByteArray) : Calls Try.prog 66 #[.pointer (some ⟨h, 0, none⟩), .string s] w fun e w' => e = .returned (.int .i64 (idxI st.l s)) ∧ w = w' := by
  obtain ⟨A, c, A2, c2, hb, h1, h2, _, _⟩ := r.cell
  have c0 : w.cell? ⟨h, 0, none⟩ = some (.slice A (st.l.map fileOf).length c) := blk_cell hb 0
  have hC := Aside0.mk h2.now
  have hm : (st.l.map fileOf).length ≤ 9223372036854775807 := h2.now.2.1
  rw [List.length_map] at c0 hm
  clear h2 hb r h1
  generalize st.l = l at c0 hm hC
  go_enter Try.func66, Try.ntmps66
  go_wp2
  go_loop [5] (fun i => ∃ k : Nat, k ≤ l.length ∧ i = .int .i64 k ∧ ∀ j (hj : j < k) (hl : j < l.length), (l[j]).1 ≠ s) (fun i => l.length - (intOf i).toNat)
  case atStart => exact ⟨0, Nat.zero_le _, rfl, fun j hj => absurd hj (by omega)⟩
  case round =>
    obtain ⟨k, hk, rfl, hbf⟩ := hrel
    have HBF := Aside0.mk hbf
    clear hbf
    by_cases hlt : k < l.length
    · obtain ⟨ad, e, d1, d2, d3⟩ := file_at hC.out k hlt
      subst e
      clear d2 d3
      by_cases he : (l[k]).1 = s
      · have HI := Aside0.mk (idxI_at (s := s) hlt (fun j hj => HBF.out j hj _) he)
        rw [he] at d1
        clear he
        go_wp2
        go_ret
        rw [HI.out]
        exact ⟨rfl, rfl⟩
      · have HN := Aside0.mk he
        generalize (l[k]).1 = t at d1 he
        have hb : (t.toList == s.toList) = false := by
          rw [beq_eq_false_iff_ne]
          intro h2
          rw [ByteArray.toList_eq, ByteArray.toList_eq] at h2
          exact he (bytes_eq h2)
        clear he
        go_wp2
        go_round
        case rel =>
          refine ⟨k + 1, by omega, by go_num, fun j hj hl => ?_⟩
          by_cases e : j = k
          · subst e; exact HN.out
          · exact HBF.out j (by omega) hl
        case measure => simp [intOf]; omega
    · obtain rfl : k = l.length := by omega
      go_wp2
      go_ret
      rw [idxI_end (fun j hj => HBF.out j hj hj)]
      exact ⟨rfl, rfl⟩
theorem k58_remade {W : World} {w0 : World} {base : Nat} (x : S58) (cs : List Value) (h : k58.K w0 x cs) : k58.M W base (fun _ => False) x cs := by
  obtain rfl := k58_open h
  exact k58_mkM _ _ _ x
/-- An empty literal. -/
theorem R_empty {α : Type} (d : Kd α) (e : Nat) (w : World) : d.R e (w.alloc (.cells #[] e)) w.heap.size (fun _ => True) (.slice (some ⟨w.heap.size, 0, none⟩) 0 0) [] :=
  ⟨fun _ _ => trivial, [], World.ownsRow_made w #[] 0 (Nat.le_refl _) (Nat.zero_le _) (by simp), Reps.none _ _⟩
/-- Objects: a row of its own. -/
theorem refObjects_calls (r : RefP w S h N st) (hN : N ≤ 1000000) : Calls Try.prog 29 #[.pointer (some ⟨h, 0, none⟩)] w fun e w' => ∃ v, e = .returned v ∧ Kd.R k58 58 w' w.heap.size (fun _ => True) v (st.l.map fileOf) ∧ Below w.heap.size w w' := by
  obtain ⟨A, c, A2, c2, hb, h1, h2, _, _⟩ := r.cell
  have hlt := r.lt
  have c0 : w.cell? ⟨h, 0, none⟩ = some (.slice A (st.l.map fileOf).length c) := blk_cell hb 0
  have hb1 : Below w.heap.size w (w.alloc (.cells #[] 58)) := (Below.refl _ w).alloc (Nat.le_refl _) _
  have c1 : (w.alloc (.cells #[] 58)).cell? ⟨h, 0, none⟩ = some (.slice A (st.l.map fileOf).length c) := keep_cell hb1 c0
  have hC := Aside0.mk (Kd.C_below h2.now hb1)
  have hln : (st.l.map fileOf).length ≤ 1000000 := by rw [List.length_map]; have := r.few; omega
  clear h2 hb r h1 c0
  generalize st.l.map fileOf = L at c1 hC hln ⊢
  go_enter Try.func29, Try.ntmps29
  go_wp2_with (at_builtin; refine Kd.R_append_rows k58 (Rr := k58.K (w.alloc (.cells #[] 58))) (w0 := w) w.heap.size rfl (.tmp 3) (.tmp 7) 32 58 (.agg #[.string ⟨#[]⟩, .string ⟨#[]⟩, .int .i64 0]) 40 rfl Try.underlying32 info58 rfl (by decide) (by omega) _ [] L A _ c (fun _ => True) (fun _ => False) rfl rfl (R_empty k58 58 w) hC.out k58_remade (fun _ hk => hk.elim) (fun _ _ => trivial) hb1 hb1.size ?aL ?_; (case aL => simp only [List.length_nil]; omega); intro v1 w1 hR1 hb2 hg1 hat1)
  go_ret
  exact ⟨_, rfl, hR1, hb2⟩
theorem refNext_calls (r : RefP w S h N st) (A : Option Addr) (c : Nat) (l : List Int) (hr : Kd.C (Kd.int .i64) w A l.length l) (hl : l.length ≤ 1048576) :
    Calls Try.prog 49 #[.pointer (some ⟨h, 0, none⟩), .slice A l.length c] w fun e w' => e = .returned (.tuple #[]) ∧ RefP w' S h N ⟨st.l, l, st.calls⟩ ∧ Stp (fun k => k = h) w w' := by
  have HR := Aside0.mk r
  have hlt := r.lt
  have hb1 : Below w.heap.size w (w.alloc (.cells #[] 3)) := (Below.refl _ w).alloc (Nat.le_refl _) _
  have hC := Aside0.mk (Kd.C_below hr hb1)
  clear hr r
  go_enter Try.func49, Try.ntmps49
  go_wp2_with (at_builtin; refine Kd.R_append_rows (Kd.int .i64) (Rr := (Kd.int .i64).K (w.alloc (.cells #[] 3))) (w0 := w) w.heap.size rfl (.tmp 5) (.tmp 6) 29 3 (.int .i64 0) 8 rfl Try.underlying29 info3 rfl (by decide) (by omega) _ [] l A _ c (fun _ => True) (fun _ => False) rfl rfl (R_empty (Kd.int .i64) 3 w) hC.out (fun _ _ hk => hk) (fun _ hk => hk.elim) (fun _ _ => trivial) hb1 hb1.size ?aL ?_; (case aL => simp only [List.length_nil]; omega); intro v1 w1 hR1 hb2 hg1 hat1; obtain ⟨A1, c1, rfl, hc1, hl1⟩ := Lives.new hR1 HR.out.bd; have HL := Aside0.mk hl1; obtain ⟨A9, c9, A8, c8, hb9, h91, h92, h93, h94⟩ := (HR.out.below hb2).cell; have HB9 := Aside0.mk hb9; have H92 := Aside0.mk h92; have d1 : w1.cell? ⟨h, 1, none⟩ = some (.slice A8 st.nx.length c8) := blk_cell hb9 1; have f1 := blk_frozen hb9 1; clear hl1 hR1 hg1 hat1 h94 h92 hb9)
  go_end0
  have hst : Stp (fun k => k = h) w1 (w1.setCell ⟨h, 1, none⟩ (.slice A1 l.length c1)) := (Stp.refl (fun k => k = h) w1).setCell (p := ⟨h, 1, none⟩) (.inl rfl) _
  have hk := hst.kept.mono (S' := S) (fun k e => e ▸ HR.out.sh)
  exact ⟨rfl, (HR.out.below hb2).writes hst.kept (blk_put HB9.out 1 _ rfl) h91 (H92.out.step hk) hc1 (HL.out.step hk) HR.out.few HR.out.ris, (Stp.of_below hb2 _).trans hst⟩
end
end Go.Proofs.Ytbedfilammjlpaa.P
namespace Go.Proofs.Ytbedfilammjlpaa.P
open Go.RowKit Go.Proofs.YtbedfilammjlpaaW.PrintWords Go.Proofs.YtbedfilammjlpaaW.PrintMore Go.Maps Go.WideMaps
set_option linter.unusedVariables false
section
variable {w w' : World} {S S2 : Nat → Prop} {h N : Nat} {st : FS}
/-- What the calls below need of a store's row. -/
theorem RefP.rows (r : RefP w S h N st) : ∃ A c, w.cell? ⟨h, 0, none⟩ = some (.slice A st.l.length c) ∧ st.l.length ≤ c ∧ Lives w S k58 A (st.l.map fileOf) := by
  obtain ⟨A, c, A2, c2, hb, h1, h2, _, _⟩ := r.cell
  rw [List.length_map] at h1
  exact ⟨A, c, by rw [← List.length_map (f := fileOf)]; exact blk_cell hb 0, h1, h2⟩
set_option maxRecDepth 100000 in
set_option maxHeartbeats 1000000 in
theorem refList_calls (r : RefP w S h N st) (hN : N ≤ 1000000) : Calls Try.prog 52 #[.pointer (some ⟨h, 0, none⟩)] w fun e w' => ∃ A c, e = .returned (.tuple #[.slice A (listF st).1.length c, .int .i64 (listF st).2.1]) ∧ (listF st).1.length ≤ c ∧ Lives w' S Kd.string A (listF st).1 ∧ RefP w' S h N (listF st).2.2 ∧ Stp (fun k => k = h) w w' := by
  have HR := Aside0.mk r
  clear r
  go_enter Try.func52, Try.ntmps52
  go_wp2_with fail
  refine (take_calls HR.out).mono ?_
  rintro _ w1 ⟨rfl, hr1, hs1⟩
  have HR1 := Aside0.mk hr1
  have HS1 := Aside0.mk hs1
  clear hr1 hs1
  go_wp2_with fail
  refine (told_calls _ 0 _).mono ?_
  rintro _ w2 ⟨rfl, hd⟩
  have HR2 := Aside0.mk (HR1.out.drawn hd)
  have HS2 := Aside0.mk (HS1.out.drawn hd)
  clear hd
  by_cases hz : toldF st.out 0 = 0
  · have HZ := Aside0.mk (listF_tells hz)
    rw [hz]
    clear hz HR1 HS1
    go_wp2_with fail
    obtain ⟨A, c, c0, hlc, hl0⟩ := HR2.out.rows
    have HL := Aside0.mk hl0
    have hln : st.l.length ≤ 1000000 := by have := HR2.out.few; rw [FS.took_l] at this; omega
    rw [FS.took_l] at c0 hlc HL
    have hh2 : h < w2.heap.size := HR2.out.lt
    clear hl0
    go_loopw [5, 6] (fun v i wr => ∃ k : Nat, k ≤ st.l.length ∧ i = .int .i64 k ∧ Kd.R Kd.string 9 wr w2.heap.size (fun _ => True) v ((st.l.take k).map (·.1)) ∧ Below w2.heap.size w2 wr) (fun _ i _ => st.l.length - (intOf i).toNat)
    case atStart => exact ⟨0, Nat.zero_le _, rfl, Kd.R_nil _ _ _ _ _, Below.refl _ _⟩
    case round =>
      obtain ⟨k, hk, rfl, hR, hbel⟩ := hrel
      have HRR := Aside0.mk hR
      clear hR
      have c0r : wr.cell? ⟨h, 0, none⟩ = some (.slice A st.l.length c) := keep_cell hbel c0
      by_cases hlt : k < st.l.length
      · obtain ⟨ad, e, d1, d2, d3⟩ := file_at (Kd.C_below HL.out.now hbel) k hlt
        subst e
        clear d2 d3
        have HTK := Aside0.mk (take_snoc st.l k hlt)
        have hlk : ((st.l.take k).map (·.1)).length ≤ 1000000 := by rw [List.length_map, List.length_take]; omega
        generalize st.l[k] = q at d1 HTK
        obtain ⟨nm, dd⟩ := q
        go_wp2_with (at_builtin; refine Kd.R_append Kd.string (w0 := w2) w2.heap.size rfl (.tmp 22) (.tmp 31) 53 9 (.string ⟨#[]⟩) 16 rfl Try.underlying53 info9 rfl (by decide) (by omega) _ ((st.l.take k).map (fun p : ByteArray × ByteArray => p.1)) nm [.string nm] (fun _ => True) (fun _ => False) rfl (by first | (go_simp; done) | (go_simp; rfl)) rfl (fun _ hk => hk.elim) (fun _ _ => trivial) HRR.out hbel hbel.size ?aL ?_; (case aL => omega); intro v1 w3 hR1 hb1 hg1 hat1; clear hg1 hat1; have HR1 := Aside0.mk hR1; clear hR1)
        go_roundw
        case rel => exact ⟨k + 1, by omega, by go_num, by rw [HTK.out, List.map_append]; exact HR1.out, hb1⟩
        case measure => simp [intOf]; omega
      · obtain rfl : k = st.l.length := by omega
        go_wp2_with fail
        go_ret2
        have h3 := HRR.out
        rw [List.take_length] at h3
        obtain ⟨A3, c3, rfl, h4, h5⟩ := Lives.new h3 HR2.out.bd
        rw [HZ.out]
        exact ⟨A3, c3, rfl, h4, h5, HR2.out.below hbel, HS2.out.below hbel⟩
  · have HN := Aside0.mk (listF_not hz)
    generalize toldF st.out 0 = z at hz HN ⊢
    have hz' : (z == 0) = false := by simpa using hz
    have hz2 : (z != 0) = true := by simpa using hz
    clear hz HR1 HS1
    go_wp2_with fail
    go_ret2
    rw [HN.out]
    exact ⟨none, 0, rfl, Nat.le_refl _, Lives.nil _ _ _, HR2.out, HS2.out⟩
end
end Go.Proofs.Ytbedfilammjlpaa.P
namespace Go.Proofs.Ytbedfilammjlpaa.P
open Go.RowKit Go.Proofs.YtbedfilammjlpaaW.PrintWords Go.Proofs.YtbedfilammjlpaaW.PrintMore Go.Maps Go.WideMaps
set_option linter.unusedVariables false
theorem part_is (l : List Int) (a n : Int) (hl : l.length ≤ 1048576) (h0 : 0 ≤ a) (h1 : a ≤ l.length) (h2 : 0 ≤ n) : iceboxref4_part.f l a n = some (cutF l a n) := by
  have hw1 : wrap64 ((l.length : Int) - a) = (l.length : Int) - a := by unfold wrap64; omega
  have hm : 0 ≤ mn n ((l.length : Int) - a) ∧ mn n ((l.length : Int) - a) ≤ (l.length : Int) - a := by unfold mn; split <;> omega
  have hw2 : wrap64 (a + mn n ((l.length : Int) - a)) = a + mn n ((l.length : Int) - a) := by unfold wrap64; omega
  unfold iceboxref4_part.f
  simp only [Option.bind_some]
  rw [hw1, hw2, if_pos h0, if_pos (by omega), if_pos (by omega), if_pos ?_]
  · unfold cutF
    simp
  · rw [List.length_nil, List.length_drop, List.length_take]
    omega
theorem part_calls (d : ByteArray) (a n : Int) (A : Option Addr) (c : Nat) (w : World) (hC : Kd.C (Kd.int .u8) w A (bytesOf d).length (bytesOf d)) (hc : d.size ≤ c) (hl : d.size ≤ 1048576) (h0 : 0 ≤ a) (h1 : a ≤ d.size) (h2 : 0 ≤ n) :
    Calls Try.prog 68 #[.slice A d.size c, .int .i64 a, .int .i64 n] w fun e w' => ∃ v, e = .returned v ∧ Kd.R (Kd.int .u8) 5 w' w.heap.size (fun _ => True) v (cutF (bytesOf d) a n) ∧ Below w.heap.size w w' := by
  have hlen := bytesOf_length d
  have := iceboxref4_part.calls A c (bytesOf d) a n (cutF (bytesOf d) a n) w hC (by omega) (part_is _ _ _ (by omega) h0 (by omega) h2)
  rw [hlen] at this
  exact this
section
variable {w w' : World} {S S2 : Nat → Prop} {h N : Nat} {st : FS}
theorem told_ne {out e : Int} (h : e ≠ 0) : toldF out e ≠ 0 := fun h2 => h (told_zero h2)
theorem ne_tests {z : Int} (h : z ≠ 0) : (z == 0) = false ∧ (z != 0) = true := by
  constructor <;> simpa using h
set_option maxRecDepth 100000 in
theorem refGet_none (r : RefP w S h N st) (s : ByteArray) (at_ n : Int) (hf : findO st.l s = none) : Calls Try.prog 51 #[.pointer (some ⟨h, 0, none⟩), .string s, .int .i64 at_, .int .i64 n] w fun e w' => e = .returned (.tuple #[.slice none 0 0, .int .i64 (toldF st.out 2)]) ∧ RefP w' S h N st.took ∧ Stp (fun k => k = h) w w' := by
  have HR := Aside0.mk r
  have HI : Aside0 (idxI st.took.l s = -1) := ⟨by unfold idxI; rw [FS.took_l, idxO_none hf]⟩
  clear r hf
  go_enter Try.func51, Try.ntmps51
  go_wp2_with fail
  refine (take_calls HR.out).mono ?_
  rintro _ w1 ⟨rfl, hr1, hs1⟩
  have HR1 := Aside0.mk hr1
  have HS1 := Aside0.mk hs1
  clear hr1 hs1
  go_wp2_with fail
  refine (at_calls HR1.out s).mono ?_
  rw [HI.out]
  rintro _ _ ⟨rfl, rfl⟩
  go_wp2_with fail
  refine (told_calls _ 2 _).mono ?_
  rintro _ w2 ⟨rfl, hd⟩
  have HD := Aside0.mk hd
  clear hd
  obtain ⟨b1, b2⟩ := ne_tests (told_ne (out := st.out) (e := 2) (by decide))
  go_wp2_with fail
  refine (told_calls _ 2 _).mono ?_
  rintro _ w3 ⟨rfl, hd⟩
  have HD2 := Aside0.mk hd
  clear hd
  go_wp2_with fail
  go_ret2
  exact ⟨rfl, (HR1.out.drawn HD.out).drawn HD2.out, (HS1.out.drawn HD.out).drawn HD2.out⟩
set_option maxRecDepth 100000 in
theorem refGet_arg (r : RefP w S h N st) (s : ByteArray) (at_ n : Int) {d : ByteArray} (hf : findO st.l s = some d) (hds : d.size ≤ 1048576) (hbad : at_ < 0 ∨ (d.size : Int) < at_ ∨ n < 0) : Calls Try.prog 51 #[.pointer (some ⟨h, 0, none⟩), .string s, .int .i64 at_, .int .i64 n] w fun e w' => e = .returned (.tuple #[.slice none 0 0, .int .i64 (toldF st.out 1)]) ∧ RefP w' S h N st.took ∧ Stp (fun k => k = h) w w' := by
  have HR := Aside0.mk r
  obtain ⟨i, hi, hil, he, _, _⟩ := idxO_some hf
  have HI : Aside0 (idxI st.took.l s = (i : Int)) := ⟨by unfold idxI; rw [FS.took_l, hi]⟩
  have HE := Aside0.mk he
  clear r hf hi he
  have key : ∀ (b1 : at_ < 0 ∨ ¬ at_ < 0 ∧ (d.size : Int) < at_ ∨ (¬ at_ < 0 ∧ ¬ (d.size : Int) < at_ ∧ n < 0)), Calls Try.prog 51 #[.pointer (some ⟨h, 0, none⟩), .string s, .int .i64 at_, .int .i64 n] w fun e w' => e = .returned (.tuple #[.slice none 0 0, .int .i64 (toldF st.out 1)]) ∧ RefP w' S h N st.took ∧ Stp (fun k => k = h) w w' := by
    intro b
    rcases b with q1 | ⟨q1, q2⟩ | ⟨q1, q2, q3⟩
    all_goals
      clear hbad
      go_enter Try.func51, Try.ntmps51
      go_wp2_with fail
      refine (take_calls HR.out).mono ?_
      rintro _ w1 ⟨rfl, hr1, hs1⟩
      have HR1 := Aside0.mk hr1
      have HS1 := Aside0.mk hs1
      clear hr1 hs1
      go_wp2_with fail
      refine (at_calls HR1.out s).mono ?_
      rw [HI.out]
      rintro _ _ ⟨rfl, rfl⟩
      obtain ⟨A, c, c0, hlc, hl0⟩ := HR1.out.rows
      obtain ⟨ad, e, d1, d2, d3⟩ := file_at hl0.now i hil
      have HE1 : Aside0 (st.took.l[i] = (s, d)) := ⟨HE.out⟩
      rw [HE1.out] at d1 d2
      subst e
      clear hl0 d3 d1
      have hil' : i < st.took.l.length := hil
      go_wp2_with fail
      refine (told_calls _ 1 _).mono ?_
      rintro _ w2 ⟨rfl, hd⟩
      have HD := Aside0.mk hd
      clear hd
      obtain ⟨b1, b2⟩ := ne_tests (told_ne (out := st.out) (e := 1) (by decide))
      go_wp2_with fail
      refine (told_calls _ 1 _).mono ?_
      rintro _ w3 ⟨rfl, hd⟩
      have HD2 := Aside0.mk hd
      clear hd
      go_wp2_with fail
      go_ret2
      exact ⟨rfl, (HR1.out.drawn HD.out).drawn HD2.out, (HS1.out.drawn HD.out).drawn HD2.out⟩
  exact key (by omega)
set_option maxRecDepth 100000 in
theorem refGet_ok (r : RefP w S h N st) (s : ByteArray) (at_ n : Int) {d : ByteArray} (hf : findO st.l s = some d) (hds : d.size ≤ 1048576) (q1 : ¬ at_ < 0) (q2 : ¬ (d.size : Int) < at_) (q3 : ¬ n < 0) (R : List Int) (hRR : Aside0 (R = if toldF st.out 0 = 0 then cutF (bytesOf d) at_ n else [])) : Calls Try.prog 51 #[.pointer (some ⟨h, 0, none⟩), .string s, .int .i64 at_, .int .i64 n] w fun e w' => ∃ A c, e = .returned (.tuple #[.slice A R.length c, .int .i64 (toldF st.out 0)]) ∧ R.length ≤ c ∧ Lives w' S (Kd.int .u8) A R ∧ RefP w' S h N st.took ∧ Stp (fun k => k = h) w w' := by
  have HR := Aside0.mk r
  obtain ⟨i, hi, hil, he, _, _⟩ := idxO_some hf
  have HI : Aside0 (idxI st.took.l s = (i : Int)) := ⟨by unfold idxI; rw [FS.took_l, hi]⟩
  have HE := Aside0.mk he
  clear r hf hi he
  go_enter Try.func51, Try.ntmps51
  go_wp2_with fail
  refine (take_calls HR.out).mono ?_
  rintro _ w1 ⟨rfl, hr1, hs1⟩
  have HR1 := Aside0.mk hr1
  have HS1 := Aside0.mk hs1
  clear hr1 hs1
  go_wp2_with fail
  refine (at_calls HR1.out s).mono ?_
  rw [HI.out]
  rintro _ _ ⟨rfl, rfl⟩
  obtain ⟨A, c, c0, hlc, hl0⟩ := HR1.out.rows
  obtain ⟨ad, e, d1, d2, d3⟩ := file_at hl0.now i hil
  have HE1 : Aside0 (st.took.l[i] = (s, d)) := ⟨HE.out⟩
  rw [HE1.out] at d1 d2
  subst e
  clear hl0 d3 d1
  have hil' : i < st.took.l.length := hil
  go_wp2_with fail
  refine (told_calls _ 0 _).mono ?_
  rintro _ w2 ⟨rfl, hd⟩
  have hr2 := HR1.out.drawn hd
  have HR2 := Aside0.mk hr2
  have HS2 := Aside0.mk (HS1.out.drawn hd)
  obtain ⟨A, c, c0', hlc', hl0⟩ := hr2.rows
  obtain ⟨ad', e, d1', d2', d3'⟩ := file_at hl0.now i hil
  rw [HE1.out] at d1' d2'
  subst e
  clear hl0 d3' d1' hd hr2
  by_cases hz : toldF st.out 0 = 0
  · rw [hz]
    have HZ := Aside0.mk hz
    clear hz
    have kb := fun W => print_bytes (P := Try.prog) 9 22 5 Try.underlying9 Try.underlying22 Try.underlying5 d W
    go_wp2_with fail
    have hbr := bytes_reads w2 5 d (by omega)
    have hbb := bytes_below (Below.refl w2.heap.size w2) (Nat.le_refl _) 5 d
    refine (part_calls d at_ n _ _ _ (Kd.C_of_reads (h1 := fun _ => rfl) (d := (0 : Int)) ?_) (grownCap_ge _ _ _ _) hds (by omega) (by omega) (by omega)).mono ?_
    · rw [bytesOf_length]; exact hbr
    rintro _ w3 ⟨v, rfl, hv, hb3⟩
    have HV := Aside0.mk hv
    have HB3 := Aside0.mk (hbb.trans (hb3.mono hbb.size))
    obtain ⟨A3, c3, hA3⟩ := Kd.R_slice hv
    subst hA3
    clear hv hb3 hbb hbr kb
    go_wp2_with fail
    go_ret2
    have hR9 := hRR.out
    rw [if_pos HZ.out] at hR9
    subst hR9
    obtain ⟨A4, c4, e4, h5, h6⟩ := Lives.new HV.out (fun k hk => Nat.lt_of_lt_of_le (HR2.out.bd k hk) (by rw [Lib.bytesWorld_size]; omega))
    injection e4 with e4 _ e5
    subst e4; subst e5
    exact ⟨A3, c3, by rw [HZ.out]; rfl, h5, h6, HR2.out.below HB3.out, HS2.out.below HB3.out⟩
  · have HN := Aside0.mk hz
    obtain ⟨b1, b2⟩ := ne_tests hz
    clear hz
    go_wp2_with fail
    refine (told_calls _ 0 _).mono ?_
    rintro _ w3 ⟨rfl, hd⟩
    have HD2 := Aside0.mk hd
    clear hd
    go_wp2_with fail
    go_ret2
    have hR9 := hRR.out
    rw [if_neg HN.out] at hR9
    subst hR9
    exact ⟨none, 0, rfl, Nat.le_refl _, Lives.nil _ _ _, HR2.out.drawn HD2.out, HS2.out.drawn HD2.out⟩
/-- Get: what it tells and leaves. -/
theorem refGet_calls (r : RefP w S h N st) (s : ByteArray) (at_ n : Int) (hsz : ∀ p ∈ st.l, p.2.size ≤ 1048576) :
    Calls Try.prog 51 #[.pointer (some ⟨h, 0, none⟩), .string s, .int .i64 at_, .int .i64 n] w fun e w' => ∃ A c, e = .returned (.tuple #[.slice A (getF st s at_ n).1.length c, .int .i64 (getF st s at_ n).2.1]) ∧ (getF st s at_ n).1.length ≤ c ∧ Lives w' S (Kd.int .u8) A (getF st s at_ n).1 ∧ RefP w' S h N (getF st s at_ n).2.2 ∧ Stp (fun k => k = h) w w' := by
  cases hh : findO st.l s with
  | none =>
    have e2 : getE st.l s at_ n = 2 := by unfold getE; rw [hh]
    have hg := getF_not (st := st) (s := s) (at_ := at_) (n := n) (by rw [e2]; exact told_ne (by decide))
    rw [hg, e2]
    exact (refGet_none r s at_ n hh).mono fun e w' ⟨h1, h2, h3⟩ => ⟨none, 0, h1, Nat.le_refl _, Lives.nil _ _ _, h2, h3⟩
  | some d =>
    have hds : d.size ≤ 1048576 := hsz _ (findO_mem hh)
    by_cases hbad : at_ < 0 ∨ (d.size : Int) < at_ ∨ n < 0
    · have e1 : getE st.l s at_ n = 1 := by
        unfold getE
        rw [hh]
        dsimp only
        by_cases b1 : at_ < 0
        · rw [if_pos b1]
        · rw [if_neg b1]
          by_cases b2 : (d.size : Int) < at_
          · rw [if_pos b2]
          · rw [if_neg b2, if_pos (by omega)]
      have hg := getF_not (st := st) (s := s) (at_ := at_) (n := n) (by rw [e1]; exact told_ne (by decide))
      rw [hg, e1]
      exact (refGet_arg r s at_ n hh hds hbad).mono fun e w' ⟨h1, h2, h3⟩ => ⟨none, 0, h1, Nat.le_refl _, Lives.nil _ _ _, h2, h3⟩
    · have e0 : getE st.l s at_ n = 0 := by
        unfold getE
        rw [hh]
        dsimp only
        rw [if_neg (by omega), if_neg (by omega), if_neg (by omega)]
      have hg : getF st s at_ n = (if toldF st.out 0 = 0 then cutF (bytesOf d) at_ n else [], toldF st.out 0, st.took) := by
        unfold getF
        rw [e0, hh]
        rfl
      rw [hg]
      exact refGet_ok r s at_ n hh hds (by omega) (by omega) (by omega) _ ⟨rfl⟩
end
end Go.Proofs.Ytbedfilammjlpaa.P
namespace Go.Proofs.Ytbedfilammjlpaa.P
open Go.RowKit Go.Proofs.YtbedfilammjlpaaW.PrintWords Go.Proofs.YtbedfilammjlpaaW.PrintMore Go.Maps Go.WideMaps
set_option linter.unusedVariables false
theorem cut_low (A : Option Addr) (n c i : Nat) (hi : i ≤ n) (hc : n ≤ c) : ∀ W : World, (Instr.slice 32 (.slice A n c) none (some (.int .i64 (i : Int))) none).run Try.prog W = .ok (.slice A i c) W := by
  intro W
  obtain ⟨i0, hi0, _, hz1, _⟩ := info_parts info58
  have hel : Try.prog.elem 32 = 58 := by simp [Program.elem, Try.underlying32]
  have hu : Try.prog.underlying 32 = some (.slice (Try.prog.elem 32)) := by rw [hel]; exact Try.underlying32
  rw [run_slice_h W 32 A n c hu .i64 (i : Int) (by omega) (by omega), hel]
  simp [sizeOf, typeInfo, hi0, hz1, sliced, Result.andThen]
  intro h
  cases A with
  | none => rfl
  | some a => simp [Addr.add]
theorem cut_high (A : Option Addr) (n c i : Nat) (hi : i < n) (hc : n ≤ c) : ∃ A2 : Option Addr, (∀ W : World, (Instr.slice 32 (.slice A n c) (some (.int .i64 ((i : Int) + 1))) none none).run Try.prog W = .ok (.slice A2 (n - (i + 1)) (c - (i + 1))) W) ∧ ∀ (w : World) (xs : List S58), xs.length = n → Kd.C k58 w A n xs → Kd.C k58 w A2 (n - (i + 1)) (xs.drop (i + 1)) := by
  obtain ⟨i0, hi0, _, hz1, _⟩ := info_parts info58
  refine ⟨if c = i + 1 then A else A.map (·.add ((i + 1) * 3)), fun W => ?_, fun w xs hx hC => ?_⟩
  · have hel : Try.prog.elem 32 = 58 := by simp [Program.elem, Try.underlying32]
    have hu : Try.prog.underlying 32 = some (.slice (Try.prog.elem 32)) := by rw [hel]; exact Try.underlying32
    have ht : ((i : Int) + 1).toNat = i + 1 := by omega
    rw [run_slice_l W 32 A n c hu .i64 ((i : Int) + 1) (by omega) (by omega), hel]
    simp [sizeOf, typeInfo, hi0, hz1, sliced, Result.andThen, ht]
  · subst hx
    have := Kd.C_drop (m := i + 1) (c := c) hC (by omega) hc
    rw [List.length_drop] at this
    exact this
theorem C_low {w : World} {A : Option Addr} {xs : List S58} {n i : Nat} (hx : xs.length = n) (h : Kd.C k58 w A n xs) (hi : i ≤ n) : Kd.C k58 w A i (xs.take i) := by
  subst hx
  have := Kd.C_take (m := i) h hi
  rw [List.length_take, Nat.min_eq_left hi] at this
  exact this
section
variable {w w' : World} {S S2 : Nat → Prop} {h N : Nat} {st : FS}
theorem far_ref_frozen (r : RefP w S h N st) : w.frozen? ⟨h, 0, none⟩ = false := by
  obtain ⟨A, c, A2, c2, hb, _⟩ := r.cell
  exact blk_frozen hb 0
theorem dropE_none {l : Obs} {s : ByteArray} (hf : findO l s = none) : dropE l s = 2 := by unfold dropE; rw [hf]; rfl
theorem dropE_some {l : Obs} {s d : ByteArray} (hf : findO l s = some d) : dropE l s = 0 := by unfold dropE; rw [hf]; rfl
set_option maxRecDepth 100000 in
theorem refDrop_none (r : RefP w S h N st) (s : ByteArray) (hf : findO st.l s = none) : Calls Try.prog 54 #[.pointer (some ⟨h, 0, none⟩), .string s] w fun e w' => e = .returned (.int .i64 (toldF st.out 2)) ∧ RefP w' S h N st.took ∧ Stp (fun k => k = h) w w' := by
  have HR := Aside0.mk r
  have HI : Aside0 (idxI st.took.l s = -1) := ⟨by unfold idxI; rw [FS.took_l, idxO_none hf]⟩
  clear r hf
  go_enter Try.func54, Try.ntmps54
  go_wp2_with fail
  refine (take_calls HR.out).mono ?_
  rintro _ w1 ⟨rfl, hr1, hs1⟩
  have HR1 := Aside0.mk hr1
  have HS1 := Aside0.mk hs1
  clear hr1 hs1
  go_wp2_with fail
  refine (at_calls HR1.out s).mono ?_
  rw [HI.out]
  rintro _ _ ⟨rfl, rfl⟩
  go_wp2_with fail
  refine (told_calls _ 2 _).mono ?_
  rintro _ w2 ⟨rfl, hd⟩
  have HD := Aside0.mk hd
  clear hd
  go_wp2_with fail
  go_ret
  exact ⟨rfl, HR1.out.drawn HD.out, HS1.out.drawn HD.out⟩
set_option maxRecDepth 100000 in
theorem refDrop_fails (r : RefP w S h N st) (s : ByteArray) {d : ByteArray} (hf : findO st.l s = some d) (ho : st.out = 1) : Calls Try.prog 54 #[.pointer (some ⟨h, 0, none⟩), .string s] w fun e w' => e = .returned (.int .i64 8) ∧ RefP w' S h N st.took ∧ Stp (fun k => k = h) w w' := by
  have HR := Aside0.mk r
  obtain ⟨i, hi, hil, he, _, _⟩ := idxO_some hf
  have HI : Aside0 (idxI st.took.l s = (i : Int)) := ⟨by unfold idxI; rw [FS.took_l, hi]⟩
  clear r hf hi he
  have HO := Aside0.mk ho
  clear ho
  go_enter Try.func54, Try.ntmps54
  go_wp2_with fail
  refine (take_calls HR.out).mono ?_
  rw [HO.out]
  rintro _ w1 ⟨rfl, hr1, hs1⟩
  have HR1 := Aside0.mk hr1
  have HS1 := Aside0.mk hs1
  clear hr1 hs1
  go_wp2_with fail
  refine (at_calls HR1.out s).mono ?_
  rw [HI.out]
  rintro _ _ ⟨rfl, rfl⟩
  go_wp2_with fail
  refine (told_calls 1 0 _).mono ?_
  rintro _ w2 ⟨rfl, hd⟩
  have HD := Aside0.mk hd
  clear hd
  go_wp2_with fail
  go_ret
  exact ⟨by rw [toldF_one rfl]; rfl, HR1.out.drawn HD.out, HS1.out.drawn HD.out⟩
set_option maxRecDepth 100000 in
theorem refDrop_done (r : RefP w S h N st) (hN : N ≤ 1000000) (s : ByteArray) {d : ByteArray} (hf : findO st.l s = some d) (ho : st.out ≠ 1) : Calls Try.prog 54 #[.pointer (some ⟨h, 0, none⟩), .string s] w fun e w' => e = .returned (.int .i64 (toldF st.out 0)) ∧ RefP w' S h N (st.took.del s) ∧ Stp (fun k => k = h) w w' := by
  have HR := Aside0.mk r
  obtain ⟨i, hi, hil, he, _, hdr⟩ := idxO_some hf
  have HI : Aside0 (idxI st.took.l s = (i : Int)) := ⟨by unfold idxI; rw [FS.took_l, hi]⟩
  have HDR := Aside0.mk hdr
  obtain ⟨b1, b2⟩ : (st.out == 1) = false ∧ (st.out != 1) = true := by constructor <;> simpa using ho
  clear r hf hi he hdr ho
  go_enter Try.func54, Try.ntmps54
  go_wp2_with fail
  refine (take_calls HR.out).mono ?_
  rintro _ w1 ⟨rfl, hr1, hs1⟩
  have HR1 := Aside0.mk hr1
  have HS1 := Aside0.mk hs1
  clear hr1 hs1
  go_wp2_with fail
  refine (at_calls HR1.out s).mono ?_
  rw [HI.out]
  rintro _ _ ⟨rfl, rfl⟩
  have hlen : (st.took.l.map fileOf).length = st.l.length := by rw [List.length_map]; rfl
  have hll : st.l.length ≤ 1000000 := by have := HR1.out.few; rw [FS.took_l] at this; omega
  obtain ⟨A, c, c0, hlc, hl0⟩ := HR1.out.rows
  rw [FS.took_l] at c0 hlc
  have hh1 := HR1.out.lt
  have HL0 := Aside0.mk hl0
  have hcut1 := cut_low A st.l.length c i (by omega) hlc
  obtain ⟨A2, hcut2, hC2⟩ := cut_high A st.l.length c i hil hlc
  have HC2 := Aside0.mk hC2
  have hb1 : Below w1.heap.size w1 (w1.alloc (.cells #[] 58)) := (Below.refl _ w1).alloc (Nat.le_refl _) _
  have c1 : (w1.alloc (.cells #[] 58)).cell? ⟨h, 0, none⟩ = some (.slice A st.l.length c) := keep_cell hb1 c0
  have HCa : Aside0 (Kd.C k58 w1 A st.l.length (st.took.l.map fileOf)) := ⟨by have h2 := hl0.now; rw [hlen] at h2; exact h2⟩
  have HLE := Aside0.mk hlen
  have C0 := Aside0.mk c0
  clear hl0 hC2 c0 hlen
  go_wp2_with (first | (at_builtin; refine Kd.R_append_rows k58 (Rr := k58.K (w1.alloc (.cells #[] 58))) (w0 := w1) w1.heap.size rfl (.tmp 19) (.tmp 25) 32 58 (.agg #[.string ⟨#[]⟩, .string ⟨#[]⟩, .int .i64 0]) 40 rfl Try.underlying32 info58 rfl (by decide) (by omega) _ [] ((st.took.l.map fileOf).take i) A i c (fun _ => True) (fun _ => False) rfl rfl (R_empty k58 58 w1) (C_low HLE.out (Kd.C_below HCa.out hb1) (by omega)) k58_remade (fun _ hk => hk.elim) (fun _ _ => trivial) hb1 hb1.size ?aL ?_; (case aL => simp only [List.length_nil]; omega); intro v1 w2 hR1 hb2 hg1 hat1; have HV1 := Aside0.mk hR1; have HB2 := Aside0.mk hb2; clear hR1 hg1 hat1; have c2 : w2.cell? ⟨h, 0, none⟩ = some (.slice A st.l.length c) := keep_cell hb2 C0.out) | (at_builtin; refine Kd.R_append_rows k58 (Rr := k58.K w2) (w0 := w1) w1.heap.size rfl (.tmp 28) (.tmp 35) 32 58 (.agg #[.string ⟨#[]⟩, .string ⟨#[]⟩, .int .i64 0]) 40 rfl Try.underlying32 info58 rfl (by decide) (by omega) v1 ((st.took.l.map fileOf).take i) ((st.took.l.map fileOf).drop (i + 1)) A2 (st.l.length - (i + 1)) (c - (i + 1)) (fun _ => True) (fun _ => False) rfl rfl HV1.out (HC2.out _ _ HLE.out (Kd.C_below HCa.out HB2.out)) k58_remade (fun _ hk => hk.elim) (fun _ _ => trivial) HB2.out HB2.out.size ?aM ?_; (case aM => rw [List.length_take]; omega); intro v2 w3 hR2 hb3 hg2 hat2; have HV2 := Aside0.mk hR2; have HB3 := Aside0.mk hb3; clear hR2 hg2 hat2; have c3 : w3.cell? ⟨h, 0, none⟩ = some (.slice A st.l.length c) := keep_cell hb3 C0.out; have f3 : w3.frozen? ⟨h, 0, none⟩ = false := far_ref_frozen (HR1.out.below hb3); obtain ⟨A5, c5, hA5⟩ := Kd.R_slice HV2.out; subst hA5))
  have eX : ((dropO st.l s).map fileOf) = (st.took.l.map fileOf).take i ++ (st.took.l.map fileOf).drop (i + 1) := by
    rw [HDR.out, List.map_append, List.map_take, List.map_drop]; rfl
  have hlX : min i (List.length st.took.l) + (List.length st.took.l - (i + 1)) = ((dropO st.l s).map fileOf).length := by
    rw [eX, List.length_append, List.length_take, List.length_drop, List.length_map]
  have hv2 := HV2.out
  rw [← eX] at hv2
  obtain ⟨A6, c6, e6, hc6, hl6⟩ := Lives.new hv2 (HR1.out.bd)
  injection e6 with e6 _ e7
  subst e6; subst e7
  rw [hlX]
  have HL6 := Aside0.mk hl6
  obtain ⟨A9, c9, A8, c8, hb9, h91, h92, h93, h94⟩ := (HR1.out.below HB3.out).cell
  have HB9 := Aside0.mk hb9
  have H94 := Aside0.mk h94
  clear hv2 hl6 hb9 h92 h94 eX hlX
  refine (told_calls _ 0 _).mono ?_
  rintro _ w5 ⟨rfl, hd⟩
  have HD := Aside0.mk hd
  clear hd
  go_wp2_with fail
  go_ret
  have hst : Stp (fun k => k = h) w3 (w3.setCell ⟨h, 0, none⟩ (.slice A5 ((dropO st.l s).map fileOf).length c5)) := (Stp.refl (fun k => k = h) w3).setCell (p := ⟨h, 0, none⟩) (.inl rfl) _
  have hk := hst.kept.mono (S' := S) (fun k e => e ▸ HR1.out.sh)
  have hlX : (dropO st.l s).length ≤ N := Nat.le_trans (dropO_sub st.l s).length_le HR.out.few
  have hfin := (HR1.out.below HB3.out).writes (l := dropO st.l s) hst.kept (blk_put HB9.out 0 _ rfl) hc6 (HL6.out.step hk) h93 (H94.out.step hk) hlX (rising_drop HR.out.ris)
  exact ⟨rfl, hfin.drawn HD.out, ((HS1.out.below HB3.out).trans hst).drawn HD.out⟩
/-- Drop: what it tells and leaves. -/
theorem refDrop_calls (r : RefP w S h N st) (hN : N ≤ 1000000) (s : ByteArray) : Calls Try.prog 54 #[.pointer (some ⟨h, 0, none⟩), .string s] w fun e w' => e = .returned (.int .i64 (dropF st s).1) ∧ RefP w' S h N (dropF st s).2 ∧ Stp (fun k => k = h) w w' := by
  cases hf : findO st.l s with
  | none =>
    have e : dropF st s = (toldF st.out 2, st.took) := by
      unfold dropF
      rw [dropE_none hf]
      by_cases ho : st.out = 1
      · rw [if_pos ho]
      · rw [if_neg ho, if_neg (by decide)]
    rw [e]
    exact refDrop_none r s hf
  | some d =>
    by_cases ho : st.out = 1
    · rw [dropF_one ho]
      exact refDrop_fails r s hf ho
    · rw [dropF_else ho, dropE_some hf, if_pos rfl]
      exact refDrop_done r hN s hf ho
end
end Go.Proofs.Ytbedfilammjlpaa.P
namespace Go.Proofs.Ytbedfilammjlpaa.P
open Go.RowKit Go.Proofs.YtbedfilammjlpaaW.PrintWords Go.Proofs.YtbedfilammjlpaaW.PrintMore Go.Maps Go.WideMaps
set_option linter.unusedVariables false
/-- One round of Put's loop. -/
def insStep (s d : ByteArray) (q : Obs × Bool) (p : ByteArray × ByteArray) : Obs × Bool := if q.2 = false ∧ low s p.1 then (q.1 ++ [(s, d)] ++ [p], true) else (q.1 ++ [p], q.2)
def insTo (l : Obs) (s d : ByteArray) : Obs × Bool := l.foldl (insStep s d) ([], false)
def insEnd (s d : ByteArray) (q : Obs × Bool) : Obs := if q.2 then q.1 else q.1 ++ [(s, d)]
theorem insTo_true (s d : ByteArray) : ∀ (l acc : Obs), l.foldl (insStep s d) (acc, true) = (acc ++ l, true)
  | [], acc => by simp
  | p :: l, acc => by
    rw [List.foldl_cons]
    have : insStep s d (acc, true) p = (acc ++ [p], true) := by unfold insStep; rw [if_neg (by simp)]
    rw [this, insTo_true s d l]
    simp
theorem insTo_false (s d : ByteArray) : ∀ (l acc : Obs), insEnd s d (l.foldl (insStep s d) (acc, false)) = acc ++ insO l s d
  | [], acc => by simp [insEnd, insO]
  | p :: l, acc => by
    rw [List.foldl_cons, insO]
    by_cases h : low s p.1
    · have : insStep s d (acc, false) p = (acc ++ [(s, d)] ++ [p], true) := by unfold insStep; rw [if_pos ⟨rfl, h⟩]
      rw [this, insTo_true, if_pos h]
      simp [insEnd]
    · have : insStep s d (acc, false) p = (acc ++ [p], false) := by unfold insStep; rw [if_neg (fun h2 => h h2.2)]
      rw [this, insTo_false s d l, if_neg h]
      simp
theorem insTo_end (l : Obs) (s d : ByteArray) : insEnd s d (insTo l s d) = insO l s d := by
  unfold insTo
  rw [insTo_false]
  simp
theorem insTo_snoc (l : Obs) (s d : ByteArray) (k : Nat) (hk : k < l.length) : insTo (l.take (k + 1)) s d = insStep s d (insTo (l.take k) s d) l[k] := by
  unfold insTo
  rw [take_snoc l k hk, List.foldl_append]
  rfl
theorem insTo_len (s d : ByteArray) : ∀ (l : Obs) (q : Obs × Bool), (l.foldl (insStep s d) q).1.length ≤ q.1.length + 2 * l.length
  | [], q => by simp
  | p :: l, q => by
    rw [List.foldl_cons]
    have h1 := insTo_len s d l (insStep s d q p)
    have h2 : (insStep s d q p).1.length ≤ q.1.length + 2 := by unfold insStep; split <;> simp
    rw [List.length_cons]
    omega
section
variable {w w' : World} {S S2 : Nat → Prop} {h N : Nat} {st : FS}
set_option maxRecDepth 100000 in
theorem refPut_unnamed (r : RefP w S h N st) (s : ByteArray) (hs : s.size ≤ maxLen) (v : Value) (hN : named s = false) : Calls Try.prog 50 #[.pointer (some ⟨h, 0, none⟩), .string s, v] w fun e w' => e = .returned (.int .i64 (toldF st.out 1)) ∧ RefP w' S h N st.took ∧ Stp (fun k => k = h) w w' := by
  have HR := Aside0.mk r
  clear r
  go_enter Try.func50, Try.ntmps50
  go_wp2_with fail
  refine (take_calls HR.out).mono ?_
  rintro _ w1 ⟨rfl, hr1, hs1⟩
  have HR1 := Aside0.mk hr1
  have HS1 := Aside0.mk hs1
  clear hr1 hs1
  go_wp2_with fail
  refine (rNamed_calls s hs _).mono ?_
  rw [hN]
  rintro _ w2 ⟨rfl, hd⟩
  have HR2 := Aside0.mk (HR1.out.drawn hd)
  have HS2 := Aside0.mk (HS1.out.drawn hd)
  clear hd
  go_wp2_with fail
  refine (told_calls _ 1 _).mono ?_
  rintro _ w3 ⟨rfl, hd⟩
  have HD := Aside0.mk hd
  clear hd
  go_wp2_with fail
  go_ret
  exact ⟨rfl, HR2.out.drawn HD.out, HS2.out.drawn HD.out⟩
set_option maxRecDepth 100000 in
theorem refPut_have (r : RefP w S h N st) (s : ByteArray) (hs : s.size ≤ maxLen) (A : Option Addr) (c len : Nat) (hlen : len ≤ 1048576) (hN : named s = true) {d : ByteArray} (hf : findO st.l s = some d) : Calls Try.prog 50 #[.pointer (some ⟨h, 0, none⟩), .string s, .slice A len c] w fun e w' => e = .returned (.int .i64 (toldF st.out 3)) ∧ RefP w' S h N st.took ∧ Stp (fun k => k = h) w w' := by
  have HR := Aside0.mk r
  obtain ⟨i, hi, hil, he, _, _⟩ := idxO_some hf
  have HI : Aside0 (idxI st.took.l s = (i : Int)) := ⟨by unfold idxI; rw [FS.took_l, hi]⟩
  clear r hi he hf
  go_enter Try.func50, Try.ntmps50
  go_wp2_with fail
  refine (take_calls HR.out).mono ?_
  rintro _ w1 ⟨rfl, hr1, hs1⟩
  have HR1 := Aside0.mk hr1
  have HS1 := Aside0.mk hs1
  clear hr1 hs1
  go_wp2_with fail
  refine (rNamed_calls s hs _).mono ?_
  rw [hN]
  rintro _ w2 ⟨rfl, hd⟩
  have HR2 := Aside0.mk (HR1.out.drawn hd)
  have HS2 := Aside0.mk (HS1.out.drawn hd)
  clear hd
  go_wp2_with fail
  refine (at_calls HR2.out s).mono ?_
  rw [HI.out]
  rintro _ _ ⟨rfl, rfl⟩
  go_wp2_with fail
  refine (told_calls _ 3 _).mono ?_
  rintro _ w3 ⟨rfl, hd⟩
  have HD := Aside0.mk hd
  clear hd
  go_wp2_with fail
  go_ret
  exact ⟨rfl, HR2.out.drawn HD.out, HS2.out.drawn HD.out⟩
set_option maxRecDepth 100000 in
theorem refPut_fails (r : RefP w S h N st) (s : ByteArray) (hs : s.size ≤ maxLen) (A : Option Addr) (c len : Nat) (hlen : len ≤ 1048576) (hN : named s = true) (hf : findO st.l s = none) (ho : st.out = 1) : Calls Try.prog 50 #[.pointer (some ⟨h, 0, none⟩), .string s, .slice A len c] w fun e w' => e = .returned (.int .i64 8) ∧ RefP w' S h N st.took ∧ Stp (fun k => k = h) w w' := by
  have HR := Aside0.mk r
  have HI : Aside0 (idxI st.took.l s = -1) := ⟨by unfold idxI; rw [FS.took_l, idxO_none hf]⟩
  have HO := Aside0.mk ho
  clear r hf ho
  go_enter Try.func50, Try.ntmps50
  go_wp2_with fail
  refine (take_calls HR.out).mono ?_
  rw [HO.out]
  rintro _ w1 ⟨rfl, hr1, hs1⟩
  have HR1 := Aside0.mk hr1
  have HS1 := Aside0.mk hs1
  clear hr1 hs1
  go_wp2_with fail
  refine (rNamed_calls s hs _).mono ?_
  rw [hN]
  rintro _ w2 ⟨rfl, hd⟩
  have HR2 := Aside0.mk (HR1.out.drawn hd)
  have HS2 := Aside0.mk (HS1.out.drawn hd)
  clear hd
  go_wp2_with fail
  refine (at_calls HR2.out s).mono ?_
  rw [HI.out]
  rintro _ _ ⟨rfl, rfl⟩
  go_wp2_with fail
  refine (told_calls 1 0 _).mono ?_
  rintro _ w3 ⟨rfl, hd⟩
  have HD := Aside0.mk hd
  clear hd
  go_wp2_with fail
  go_ret
  exact ⟨by rw [toldF_one rfl]; rfl, HR2.out.drawn HD.out, HS2.out.drawn HD.out⟩
end
end Go.Proofs.Ytbedfilammjlpaa.P
namespace Go.Proofs.Ytbedfilammjlpaa.P
open Go.RowKit Go.Proofs.YtbedfilammjlpaaW.PrintWords Go.Proofs.YtbedfilammjlpaaW.PrintMore Go.Maps Go.WideMaps
set_option linter.unusedVariables false
section
variable {w w' : World} {S S2 : Nat → Prop} {h N : Nat} {st : FS}
theorem file_ne {t s : ByteArray} (hne : t ≠ s) : (t.toList == s.toList) = false := by
  rw [beq_eq_false_iff_ne]
  intro h2
  rw [ByteArray.toList_eq, ByteArray.toList_eq] at h2
  exact hne (bytes_eq h2)
theorem file_hi {t s : ByteArray} (hl : low s t) : (t.toList == s.toList) = false ∧ Op.bytesLess t.toList s.toList = false :=
  ⟨file_ne (fun e => low_irrefl s (by rw [e] at hl; exact hl)), by rw [low_bytes]; exact decide_eq_false (fun h2 => low_irrefl _ (low_trans hl h2))⟩
theorem file_lo {t s : ByteArray} (hne : t ≠ s) (hl : ¬ low s t) : (t.toList == s.toList) = false ∧ Op.bytesLess t.toList s.toList = true :=
  ⟨file_ne hne, by
    rw [low_bytes]
    rcases low_tri t s with c | c | c
    · exact decide_eq_true c
    · exact absurd c hne
    · exact absurd c hl⟩
/-- The new row is laid into the store. -/
theorem put_ends {w2 W : World} {stt : FS} (r : RefP w2 S h N stt) (hb : Below w2.heap.size w2 W) {s d : ByteArray} {A5 : Option Addr} {c5 n : Nat} {X : Obs} (hX : X = insO stt.l s d) (hf : findO stt.l s = none) (hn : n = X.length) (hv : Kd.R k58 58 W w2.heap.size (fun _ => True) (.slice A5 n c5) (X.map fileOf)) :
    RefP (W.setCell ⟨h, 0, none⟩ (.slice A5 n c5)) S h (N + 1) (stt.put s d) ∧ Stp (fun k => k = h) w2 (W.setCell ⟨h, 0, none⟩ (.slice A5 n c5)) := by
  have hst : Stp (fun k => k = h) W (W.setCell ⟨h, 0, none⟩ (.slice A5 n c5)) := (Stp.refl (fun k => k = h) W).setCell (p := ⟨h, 0, none⟩) (.inl rfl) _
  have hk := hst.kept.mono (S' := S) (fun k e => e ▸ r.sh)
  have hl : n = (X.map fileOf).length := by rw [List.length_map]; exact hn
  rw [hl] at hv hst hk ⊢
  obtain ⟨A6, c6, e6, hc6, hl6⟩ := Lives.new hv r.bd
  injection e6 with e6 _ e7
  subst e6; subst e7
  obtain ⟨A9, c9, A8, c8, hb9, h91, h92, h93, h94⟩ := (r.below hb).cell
  have hfew : (insO stt.l s d).length ≤ N + 1 := by rw [length_ins]; have := r.few; omega
  subst hX
  exact ⟨(r.below hb).writes (l := insO stt.l s d) hst.kept (blk_put hb9 0 _ rfl) hc6 (hl6.step hk) h93 (h94.step hk) hfew (rising_ins r.ris hf), (Stp.of_below hb _).trans hst⟩
set_option maxRecDepth 100000 in
set_option maxHeartbeats 2000000 in
theorem refPut_done (r : RefP w S h N st) (hNN : N ≤ 1000000) (s : ByteArray) (hs : s.size ≤ maxLen) (A : Option Addr) (c : Nat) (bs : List Int) (hlen : bs.length ≤ 1048576) (hr : Lives w (fun k => k = h) (Kd.int .u8) A bs) (hN : named s = true) (hf : findO st.l s = none) (ho : st.out ≠ 1) : Calls Try.prog 50 #[.pointer (some ⟨h, 0, none⟩), .string s, .slice A bs.length c] w fun e w' => e = .returned (.int .i64 (toldF st.out 0)) ∧ RefP w' S h (N + 1) (st.took.put s (strOfNums bs)) ∧ Stp (fun k => k = h) w w' := by
  have HR := Aside0.mk r
  have HI : Aside0 (idxI st.took.l s = -1) := ⟨by unfold idxI; rw [FS.took_l, idxO_none hf]⟩
  have HF := Aside0.mk hf
  obtain ⟨b1, b2⟩ : (st.out == 1) = false ∧ (st.out != 1) = true := by constructor <;> simpa using ho
  have HL := Aside0.mk hr
  clear r hf ho hr
  go_enter Try.func50, Try.ntmps50
  go_wp2_with fail
  refine (take_calls HR.out).mono ?_
  rintro _ w1 ⟨rfl, hr1, hs1⟩
  have HR1 := Aside0.mk hr1
  have HS1 := Aside0.mk hs1
  clear hr1 hs1
  go_wp2_with fail
  refine (rNamed_calls s hs _).mono ?_
  rw [hN]
  rintro _ w2 ⟨rfl, hd⟩
  have HR2 := Aside0.mk (HR1.out.drawn hd)
  have HS2 := Aside0.mk (HS1.out.drawn hd)
  clear hd HR1 HS1
  go_wp2_with fail
  refine (at_calls HR2.out s).mono ?_
  rw [HI.out]
  rintro _ _ ⟨rfl, rfl⟩
  obtain ⟨A1, c1, c0, hlc, hl0⟩ := HR2.out.rows
  have HFF : Aside0 (findO st.took.l s = none) := ⟨HF.out⟩
  have HLL := Aside0.mk hl0
  have hh2 := HR2.out.lt
  have hll : st.took.l.length ≤ 1000000 := by have := HR2.out.few; omega
  have HLB := Aside0.mk (HL.out.step HS2.out.kept)
  clear hl0
  go_wp2_with fail
  have hbr : (bs.length : Int) ≤ 1048576 := by omega
  go_loopw [9, 10, 11] (fun v b i wr => ∃ k : Nat, k ≤ st.took.l.length ∧ i = .int .i64 k ∧ b = .bool (insTo (st.took.l.take k) s (strOfNums bs)).2 ∧ Kd.R k58 58 wr w2.heap.size (fun _ => True) v ((insTo (st.took.l.take k) s (strOfNums bs)).1.map fileOf) ∧ Below w2.heap.size w2 wr) (fun _ _ i _ => st.took.l.length - (intOf i).toNat)
  case atStart => exact ⟨0, Nat.zero_le _, rfl, rfl, Kd.R_nil _ _ _ _ _, Below.refl _ _⟩
  case round =>
    obtain ⟨k, hk, rfl, rfl, hR, hbel⟩ := hrel
    have hql := insTo_len s (strOfNums bs) (st.took.l.take k) ([], false)
    have hq0 : (st.took.l.take k).foldl (insStep s (strOfNums bs)) ([], false) = insTo (st.took.l.take k) s (strOfNums bs) := rfl
    rw [hq0, List.length_nil, List.length_take] at hql
    clear hq0
    have c0r : wr.cell? ⟨h, 0, none⟩ = some (.slice A1 st.took.l.length c1) := keep_cell hbel c0
    by_cases hlt : k < st.took.l.length
    · have HSN := Aside0.mk (insTo_snoc st.took.l s (strOfNums bs) k hlt)
      have hne := findO_none.1 HFF.out _ (List.getElem_mem hlt)
      obtain ⟨ad, e, d1, d2, d3⟩ := file_at HLL.out.now k hlt
      subst e
      generalize st.took.l[k] = q at d1 d2 HSN hne
      obtain ⟨nm, dd⟩ := q
      have e1 : wr.cell? _ = _ := keep_cell hbel d1
      have e2 : wr.cell? _ = _ := keep_cell hbel d2
      have e3 : wr.cell? _ = _ := keep_cell hbel d3
      generalize insTo (st.took.l.take k) s (strOfNums bs) = q at hR HSN hql ⊢
      obtain ⟨acc, bb⟩ := q
      have HRR := Aside0.mk hR
      have hal : (acc.map fileOf).length ≤ 4000000 := by rw [List.length_map]; dsimp only at hql; omega
      have HD1 := Aside0.mk d1
      have HD2 := Aside0.mk d2
      have HD3 := Aside0.mk d3
      clear hR hql d1 d2 d3
      cases bb with
      | true =>
        have HT : Aside0 (insTo (st.took.l.take (k + 1)) s (strOfNums bs) = (acc ++ [(nm, dd)], true)) := ⟨by rw [HSN.out]; unfold insStep; rw [if_neg (by simp)]⟩
        go_wp2_with (at_builtin; refine Kd.R_append k58 (w0 := w2) w2.heap.size rfl (.tmp 66) (.tmp 74) 32 58 (.agg #[.string ⟨#[]⟩, .string ⟨#[]⟩, .int .i64 0]) 40 rfl Try.underlying32 info58 rfl (by decide) (by omega) _ (acc.map fileOf) (fileOf (nm, dd)) [.string nm, .string dd, .int .i64 0] (fun _ => True) (fun _ => False) rfl (by first | (go_simp; done) | (go_simp; rfl)) (k58_mkM _ _ _ (fileOf (nm, dd))) (fun _ hk => hk.elim) (fun _ _ => trivial) HRR.out hbel hbel.size ?aL ?_; (case aL => first | omega | (simp only [List.length_append, List.length_singleton]; omega)); intro v1 w3 hR1 hb1 hg1 hat1; clear hg1 hat1; have HV1 := Aside0.mk hR1; clear hR1)
        go_roundw
        case rel => exact ⟨k + 1, by omega, by go_num, by rw [HT.out], by rw [HT.out, List.map_append]; exact HV1.out, hb1⟩
        case measure => simp [intOf]; omega
      | false =>
        by_cases hlow : low s nm
        · have HT : Aside0 (insTo (st.took.l.take (k + 1)) s (strOfNums bs) = (acc ++ [(s, strOfNums bs)] ++ [(nm, dd)], true)) := ⟨by rw [HSN.out]; unfold insStep; rw [if_pos ⟨rfl, hlow⟩]⟩
          obtain ⟨b3, b4⟩ := file_hi hlow
          have hk2 : Kept w2 wr (fun k => k = h) := Kept.of_below hbel _
          have hconv := Kd.C_string (P := Try.prog) (src := 22) (dst := 9) (c := c) Try.underlying22 Try.underlying5 Try.underlying9 ((HLB.out.step hk2).now)
          clear hlow hk2
          go_wp2_with (first | (at_builtin; refine Kd.R_append k58 (w0 := w2) w2.heap.size rfl (.tmp 59) (.tmp 64) 32 58 (.agg #[.string ⟨#[]⟩, .string ⟨#[]⟩, .int .i64 0]) 40 rfl Try.underlying32 info58 rfl (by decide) (by omega) _ (acc.map fileOf) (fileOf (s, strOfNums bs)) [.string s, .string (strOfNums bs), .int .i64 0] (fun _ => True) (fun _ => False) rfl (by first | (go_simp; done) | (go_simp; rfl)) (k58_mkM _ _ _ (fileOf (s, strOfNums bs))) (fun _ hk => hk.elim) (fun _ _ => trivial) HRR.out hbel hbel.size ?aL ?_; (case aL => first | omega | (simp only [List.length_append, List.length_singleton]; omega)); intro v1 w3 hR1 hb1 hg1 hat1; clear hg1 hat1; have HV1 := Aside0.mk hR1; clear hR1; have HB1 := Aside0.mk hb1; have f1 : w3.cell? _ = _ := keep_cell hb1 HD1.out; have f2 : w3.cell? _ = _ := keep_cell hb1 HD2.out; have f3 : w3.cell? _ = _ := keep_cell hb1 HD3.out; have c0s : w3.cell? ⟨h, 0, none⟩ = some (.slice (some ad) st.took.l.length c1) := keep_cell hb1 c0) | (at_builtin; refine Kd.R_append k58 (w0 := w2) w2.heap.size rfl (.tmp 66) (.tmp 74) 32 58 (.agg #[.string ⟨#[]⟩, .string ⟨#[]⟩, .int .i64 0]) 40 rfl Try.underlying32 info58 rfl (by decide) (by omega) v1 (acc.map fileOf ++ [fileOf (s, strOfNums bs)]) (fileOf (nm, dd)) [.string nm, .string dd, .int .i64 0] (fun _ => True) (fun _ => False) rfl (by first | (go_simp; done) | (go_simp; rfl)) (k58_mkM _ _ _ (fileOf (nm, dd))) (fun _ hk => hk.elim) (fun _ _ => trivial) HV1.out HB1.out HB1.out.size ?aM ?_; (case aM => first | omega | (simp only [List.length_append, List.length_singleton]; omega)); intro v2 w4 hR2 hb2 hg2 hat2; clear hg2 hat2; have HV2 := Aside0.mk hR2; clear hR2))
          go_roundw
          case rel => exact ⟨k + 1, by omega, by go_num, by rw [HT.out], by rw [HT.out, List.map_append, List.map_append]; exact HV2.out, hb2⟩
          case measure => simp [intOf]; omega
        · have HT : Aside0 (insTo (st.took.l.take (k + 1)) s (strOfNums bs) = (acc ++ [(nm, dd)], false)) := ⟨by rw [HSN.out]; unfold insStep; rw [if_neg (fun h2 => hlow h2.2)]⟩
          obtain ⟨b3, b4⟩ := file_lo hne hlow
          clear hlow
          go_wp2_with (at_builtin; refine Kd.R_append k58 (w0 := w2) w2.heap.size rfl (.tmp 66) (.tmp 74) 32 58 (.agg #[.string ⟨#[]⟩, .string ⟨#[]⟩, .int .i64 0]) 40 rfl Try.underlying32 info58 rfl (by decide) (by omega) _ (acc.map fileOf) (fileOf (nm, dd)) [.string nm, .string dd, .int .i64 0] (fun _ => True) (fun _ => False) rfl (by first | (go_simp; done) | (go_simp; rfl)) (k58_mkM _ _ _ (fileOf (nm, dd))) (fun _ hk => hk.elim) (fun _ _ => trivial) HRR.out hbel hbel.size ?aL ?_; (case aL => first | omega | (simp only [List.length_append, List.length_singleton]; omega)); intro v1 w3 hR1 hb1 hg1 hat1; clear hg1 hat1; have HV1 := Aside0.mk hR1; clear hR1)
          go_roundw
          case rel => exact ⟨k + 1, by omega, by go_num, by rw [HT.out], by rw [HT.out, List.map_append]; exact HV1.out, hb1⟩
          case measure => simp [intOf]; omega
    · obtain rfl : k = st.took.l.length := by omega
      have HE := Aside0.mk (insTo_end st.took.l s (strOfNums bs))
      rw [List.take_length] at hR hql ⊢
      generalize insTo st.took.l s (strOfNums bs) = q at hR HE hql ⊢
      obtain ⟨acc, bb⟩ := q
      have HRR := Aside0.mk hR
      have hal : (acc.map fileOf).length ≤ 4000000 := by rw [List.length_map]; dsimp only at hql; omega
      clear hR hql
      cases bb with
      | true =>
        have f3 := far_ref_frozen (HR2.out.below hbel)
        obtain ⟨A5, c5, hA5⟩ := Kd.R_slice HRR.out
        rw [List.length_map] at hA5
        subst hA5
        have HX := Aside0.mk (put_ends HR2.out hbel (X := acc) HE.out HFF.out rfl HRR.out)
        go_wp2_with fail
        refine (told_calls _ 0 _).mono ?_
        rintro _ w5 ⟨rfl, hd⟩
        have HD := Aside0.mk hd
        clear hd
        go_wp2_with fail
        go_ret
        exact ⟨rfl, HX.out.1.drawn HD.out, (HS2.out.trans HX.out.2).drawn HD.out⟩
      | false =>
        have hk2 : Kept w2 wr (fun k => k = h) := Kept.of_below hbel _
        have hconv := Kd.C_string (P := Try.prog) (src := 22) (dst := 9) (c := c) Try.underlying22 Try.underlying5 Try.underlying9 ((HLB.out.step hk2).now)
        clear hk2
        go_wp2_with (at_builtin; refine Kd.R_append k58 (w0 := w2) w2.heap.size rfl (.tmp 78) (.tmp 83) 32 58 (.agg #[.string ⟨#[]⟩, .string ⟨#[]⟩, .int .i64 0]) 40 rfl Try.underlying32 info58 rfl (by decide) (by omega) _ (acc.map fileOf) (fileOf (s, strOfNums bs)) [.string s, .string (strOfNums bs), .int .i64 0] (fun _ => True) (fun _ => False) rfl (by first | (go_simp; done) | (go_simp; rfl)) (k58_mkM _ _ _ (fileOf (s, strOfNums bs))) (fun _ hk => hk.elim) (fun _ _ => trivial) HRR.out hbel hbel.size ?aL ?_; (case aL => first | omega | (simp only [List.length_append, List.length_singleton]; omega)); intro v1 w3 hR1 hb1 hg1 hat1; clear hg1 hat1; have HV1 := Aside0.mk hR1; clear hR1; have HB1 := Aside0.mk hb1; have c0s : w3.cell? ⟨h, 0, none⟩ = some (.slice A1 st.took.l.length c1) := keep_cell hb1 c0; have f3 := far_ref_frozen (HR2.out.below hb1); obtain ⟨A5, c5, hA5⟩ := Kd.R_slice HV1.out; subst hA5)
        have HX := Aside0.mk (put_ends HR2.out HB1.out (X := acc ++ [(s, strOfNums bs)]) (n := acc.length + 1) HE.out HFF.out (by simp) (by have h5 := HV1.out; simpa using h5))
        refine (told_calls _ 0 _).mono ?_
        rintro _ w5 ⟨rfl, hd⟩
        have HD := Aside0.mk hd
        clear hd
        go_wp2_with fail
        go_ret
        exact ⟨rfl, HX.out.1.drawn HD.out, (HS2.out.trans HX.out.2).drawn HD.out⟩
/-- Put: what it tells and leaves. -/
theorem refPut_calls (r : RefP w S h N st) (hNN : N ≤ 1000000) (s : ByteArray) (hs : s.size ≤ maxLen) (A : Option Addr) (c : Nat) (bs : List Int) (hlen : bs.length ≤ 1048576) (hr : Lives w (fun k => k = h) (Kd.int .u8) A bs) : Calls Try.prog 50 #[.pointer (some ⟨h, 0, none⟩), .string s, .slice A bs.length c] w fun e w' => e = .returned (.int .i64 (putF st s (strOfNums bs)).1) ∧ RefP w' S h (N + 1) (putF st s (strOfNums bs)).2 ∧ Stp (fun k => k = h) w w' := by
  cases hN : named s with
  | false =>
    have e : putF st s (strOfNums bs) = (toldF st.out 1, st.took) := by
      unfold putF
      rw [putE_named hN]
      by_cases ho : st.out = 1
      · rw [if_pos ho]
      · rw [if_neg ho, if_neg (by decide)]
    rw [e]
    exact (refPut_unnamed r s hs _ hN).mono fun e w' ⟨h1, h2, h3⟩ => ⟨h1, h2.more (Nat.le_succ _), h3⟩
  | true =>
    cases hf : findO st.l s with
    | some d =>
      have e3 : putE st.l s = 3 := by unfold putE; rw [hN, hf]; rfl
      have e : putF st s (strOfNums bs) = (toldF st.out 3, st.took) := by
        unfold putF
        rw [e3]
        by_cases ho : st.out = 1
        · rw [if_pos ho]
        · rw [if_neg ho, if_neg (by decide)]
      rw [e]
      exact (refPut_have r s hs A c bs.length hlen hN hf).mono fun e w' ⟨h1, h2, h3⟩ => ⟨h1, h2.more (Nat.le_succ _), h3⟩
    | none =>
      have e0 : putE st.l s = 0 := by unfold putE; rw [hN, hf]; rfl
      by_cases ho : st.out = 1
      · rw [putF_one ho]
        exact (refPut_fails r s hs A c bs.length hlen hN hf ho).mono fun e w' ⟨h1, h2, h3⟩ => ⟨h1, h2.more (Nat.le_succ _), h3⟩
      · rw [putF_else ho, e0, if_pos rfl]
        exact refPut_done r hNN s hs A c bs hlen hr hN hf ho
end
end Go.Proofs.Ytbedfilammjlpaa.P
