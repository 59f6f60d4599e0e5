/- The document's far store: the place of a name, Objects, List, Get. -/
import Derived.Test.YtbedfilammjlpaaG11
namespace Go.Proofs.Ytbedfilammjlpaa.P
open Go.RowKit Go.Proofs.YtbedfilammjlpaaW.PrintWords Go.Proofs.YtbedfilammjlpaaW.PrintMore Go.Maps Go.WideMaps
set_option linter.unusedVariables false
/-- The place of a name, -1 where there is none. -/
def idxI (l : Obs) (s : ByteArray) : Int := match idxO l s with
  | some i => (i : Int)
  | none => -1
theorem idxI_at {l : Obs} {s : ByteArray} {k : Nat} (hk : k < l.length) (hb : ∀ j (hj : j < k), (l[j]'(Nat.lt_trans hj hk)).1 ≠ s) (he : (l[k]).1 = s) : idxI l s = (k : Int) := by
  have : idxO l s = some k := by
    unfold idxO
    rw [List.findIdx?_eq_some_iff_getElem]
    exact ⟨hk, by simpa using he, fun j hj => by simpa using hb j hj⟩
  unfold idxI
  rw [this]
theorem idxI_end {l : Obs} {s : ByteArray} (hb : ∀ j (hj : j < l.length), (l[j]).1 ≠ s) : idxI l s = -1 := by
  have : idxO l s = none := idxO_none (findO_none.2 fun p hp => by
    obtain ⟨j, hj, rfl⟩ := List.getElem_of_mem hp
    exact hb j hj)
  unfold idxI
  rw [this]
section
variable {w w' : World} {S S2 : Nat → Prop} {h N : Nat} {st : FS}
/-- An object of the row. -/
theorem file_at {A : Option Addr} {l : Obs} (hC : Kd.C k58 w A (l.map fileOf).length (l.map fileOf)) (k : Nat) (hk : k < l.length) : ∃ ad, A = some ad ∧ w.cell? (ad.add (k * 3)) = some (.string (l[k]).1) ∧ w.cell? ⟨(ad.add (k * 3)).block, (ad.add (k * 3)).off + 1, none⟩ = some (.string (l[k]).2) ∧ w.cell? ⟨(ad.add (k * 3)).block, (ad.add (k * 3)).off + 1 + 1, none⟩ = some (.int .i64 0) := by
  obtain ⟨ad, e, h1, h2, h3⟩ := at_T58 hC (k : Int) (by omega) (by rw [List.length_map]; omega)
  have hr : rd_T58 (l.map fileOf) (k : Int) = fileOf l[k] := by
    unfold rd_T58
    simp [List.getD_eq_getElem?_getD, hk]
  rw [hr] at h1 h2 h3
  exact ⟨ad, e, h1, h2, h3⟩
set_option maxRecDepth 100000 in
theorem at_calls (r : RefP w S h N st) (s : ByteArray) : Calls Try.prog 66 #[.pointer (some ⟨h, 0, none⟩), .string s] w fun e w' => e = .returned (.int .i64 (idxI st.l s)) ∧ w = w' := by
  obtain ⟨A, c, A2, c2, hb, h1, h2, _, _⟩ := r.cell
  have c0 : w.cell? ⟨h, 0, none⟩ = some (.slice A (st.l.map fileOf).length c) := blk_cell hb 0
  have hC := Aside0.mk h2.now
  have hm : (st.l.map fileOf).length ≤ 9223372036854775807 := h2.now.2.1
  rw [List.length_map] at c0 hm
  clear h2 hb r h1
  generalize st.l = l at c0 hm hC
  go_enter Try.func66, Try.ntmps66
  go_wp2
  go_loop [5] (fun i => ∃ k : Nat, k ≤ l.length ∧ i = .int .i64 k ∧ ∀ j (hj : j < k) (hl : j < l.length), (l[j]).1 ≠ s) (fun i => l.length - (intOf i).toNat)
  case atStart => exact ⟨0, Nat.zero_le _, rfl, fun j hj => absurd hj (by omega)⟩
  case round =>
    obtain ⟨k, hk, rfl, hbf⟩ := hrel
    have HBF := Aside0.mk hbf
    clear hbf
    by_cases hlt : k < l.length
    · obtain ⟨ad, e, d1, d2, d3⟩ := file_at hC.out k hlt
      subst e
      clear d2 d3
      by_cases he : (l[k]).1 = s
      · have HI := Aside0.mk (idxI_at (s := s) hlt (fun j hj => HBF.out j hj _) he)
        rw [he] at d1
        clear he
        go_wp2
        go_ret
        rw [HI.out]
        exact ⟨rfl, rfl⟩
      · have HN := Aside0.mk he
        generalize (l[k]).1 = t at d1 he
        have hb : (t.toList == s.toList) = false := by
          rw [beq_eq_false_iff_ne]
          intro h2
          rw [ByteArray.toList_eq, ByteArray.toList_eq] at h2
          exact he (bytes_eq h2)
        clear he
        go_wp2
        go_round
        case rel =>
          refine ⟨k + 1, by omega, by go_num, fun j hj hl => ?_⟩
          by_cases e : j = k
          · subst e; exact HN.out
          · exact HBF.out j (by omega) hl
        case measure => simp [intOf]; omega
    · obtain rfl : k = l.length := by omega
      go_wp2
      go_ret
      rw [idxI_end (fun j hj => HBF.out j hj hj)]
      exact ⟨rfl, rfl⟩
theorem k58_remade {W : World} {w0 : World} {base : Nat} (x : S58) (cs : List Value) (h : k58.K w0 x cs) : k58.M W base (fun _ => False) x cs := by
  obtain rfl := k58_open h
  exact k58_mkM _ _ _ x
/-- An empty literal. -/
theorem R_empty {α : Type} (d : Kd α) (e : Nat) (w : World) : d.R e (w.alloc (.cells #[] e)) w.heap.size (fun _ => True) (.slice (some ⟨w.heap.size, 0, none⟩) 0 0) [] :=
  ⟨fun _ _ => trivial, [], World.ownsRow_made w #[] 0 (Nat.le_refl _) (Nat.zero_le _) (by simp), Reps.none _ _⟩
/-- Objects: a row of its own. -/
theorem refObjects_calls (r : RefP w S h N st) (hN : N ≤ 1000000) : Calls Try.prog 29 #[.pointer (some ⟨h, 0, none⟩)] w fun e w' => ∃ v, e = .returned v ∧ Kd.R k58 58 w' w.heap.size (fun _ => True) v (st.l.map fileOf) ∧ Below w.heap.size w w' := by
  obtain ⟨A, c, A2, c2, hb, h1, h2, _, _⟩ := r.cell
  have hlt := r.lt
  have c0 : w.cell? ⟨h, 0, none⟩ = some (.slice A (st.l.map fileOf).length c) := blk_cell hb 0
  have hb1 : Below w.heap.size w (w.alloc (.cells #[] 58)) := (Below.refl _ w).alloc (Nat.le_refl _) _
  have c1 : (w.alloc (.cells #[] 58)).cell? ⟨h, 0, none⟩ = some (.slice A (st.l.map fileOf).length c) := keep_cell hb1 c0
  have hC := Aside0.mk (Kd.C_below h2.now hb1)
  have hln : (st.l.map fileOf).length ≤ 1000000 := by rw [List.length_map]; have := r.few; omega
  clear h2 hb r h1 c0
  generalize st.l.map fileOf = L at c1 hC hln ⊢
  go_enter Try.func29, Try.ntmps29
  go_wp2_with (at_builtin; refine Kd.R_append_rows k58 (Rr := k58.K (w.alloc (.cells #[] 58))) (w0 := w) w.heap.size rfl (.tmp 3) (.tmp 7) 32 58 (.agg #[.string ⟨#[]⟩, .string ⟨#[]⟩, .int .i64 0]) 40 rfl Try.underlying32 info58 rfl (by decide) (by omega) _ [] L A _ c (fun _ => True) (fun _ => False) rfl rfl (R_empty k58 58 w) hC.out k58_remade (fun _ hk => hk.elim) (fun _ _ => trivial) hb1 hb1.size ?aL ?_; (case aL => simp only [List.length_nil]; omega); intro v1 w1 hR1 hb2 hg1 hat1)
  go_ret
  exact ⟨_, rfl, hR1, hb2⟩
theorem refNext_calls (r : RefP w S h N st) (A : Option Addr) (c : Nat) (l : List Int) (hr : Kd.C (Kd.int .i64) w A l.length l) (hl : l.length ≤ 1048576) :
    Calls Try.prog 49 #[.pointer (some ⟨h, 0, none⟩), .slice A l.length c] w fun e w' => e = .returned (.tuple #[]) ∧ RefP w' S h N ⟨st.l, l, st.calls⟩ ∧ Stp (fun k => k = h) w w' := by
  have HR := Aside0.mk r
  have hlt := r.lt
  have hb1 : Below w.heap.size w (w.alloc (.cells #[] 3)) := (Below.refl _ w).alloc (Nat.le_refl _) _
  have hC := Aside0.mk (Kd.C_below hr hb1)
  clear hr r
  go_enter Try.func49, Try.ntmps49
  go_wp2_with (at_builtin; refine Kd.R_append_rows (Kd.int .i64) (Rr := (Kd.int .i64).K (w.alloc (.cells #[] 3))) (w0 := w) w.heap.size rfl (.tmp 5) (.tmp 6) 29 3 (.int .i64 0) 8 rfl Try.underlying29 info3 rfl (by decide) (by omega) _ [] l A _ c (fun _ => True) (fun _ => False) rfl rfl (R_empty (Kd.int .i64) 3 w) hC.out (fun _ _ hk => hk) (fun _ hk => hk.elim) (fun _ _ => trivial) hb1 hb1.size ?aL ?_; (case aL => simp only [List.length_nil]; omega); intro v1 w1 hR1 hb2 hg1 hat1; obtain ⟨A1, c1, rfl, hc1, hl1⟩ := Lives.new hR1 HR.out.bd; have HL := Aside0.mk hl1; obtain ⟨A9, c9, A8, c8, hb9, h91, h92, h93, h94⟩ := (HR.out.below hb2).cell; have HB9 := Aside0.mk hb9; have H92 := Aside0.mk h92; have d1 : w1.cell? ⟨h, 1, none⟩ = some (.slice A8 st.nx.length c8) := blk_cell hb9 1; have f1 := blk_frozen hb9 1; clear hl1 hR1 hg1 hat1 h94 h92 hb9)
  go_end0
  have hst : Stp (fun k => k = h) w1 (w1.setCell ⟨h, 1, none⟩ (.slice A1 l.length c1)) := (Stp.refl (fun k => k = h) w1).setCell (p := ⟨h, 1, none⟩) (.inl rfl) _
  have hk := hst.kept.mono (S' := S) (fun k e => e ▸ HR.out.sh)
  exact ⟨rfl, (HR.out.below hb2).writes hst.kept (blk_put HB9.out 1 _ rfl) h91 (H92.out.step hk) hc1 (HL.out.step hk) HR.out.few HR.out.ris, (Stp.of_below hb2 _).trans hst⟩
end
end Go.Proofs.Ytbedfilammjlpaa.P
