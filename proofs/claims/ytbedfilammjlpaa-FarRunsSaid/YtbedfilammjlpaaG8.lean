/- The names of a far store, rising: the map is gone through in whatever order, and sorted. -/
import Derived.Test.YtbedfilammjlpaaG7
import Derived.Test.YtbedfilammjlpaaHshelf
import Derived.Sort.KeysCollected
import Derived.Sort.OwnSorted
import Derived.Maps.RangeWalk
import Derived.Deep.DeepMust
namespace Go.Proofs.Ytbedfilammjlpaa.P
open Go.RowKit Go.Proofs.YtbedfilammjlpaaW.PrintWords Go.Proofs.YtbedfilammjlpaaW.PrintMore Go.Maps Go.WideMaps Go.Sort
set_option linter.unusedVariables false
theorem info9 : (Try.prog.info? 9).map (fun i => (i.zero, i.size, i.bytes)) = some (some (.string ⟨#[]⟩), 1, 16) := by kernel_rfl
theorem invStr : ∀ key kl, keyOf Try.prog 9 key = some kl → ∃ x, key = encStr x := fun key kl hk => by obtain ⟨x, hx, _⟩ := Maps.keyOf_str Try.underlying9 hk; exact ⟨x, hx⟩
theorem invRaw : ∀ (v : Value) (y : DataW Value × List MemPlace), rawR v = some y → ∃ c : Value, v = id c := fun v y _ => ⟨v, rfl⟩
section
variable {w : World} {S : Nat → Prop} {g m N : Nat} {st : FS}
theorem mem_names {D : DataW Value} {l : Obs} (ht : Ties w S D l) (hr : Rising l) (x : List UInt8) : (x ∈ l.map fun p => p.1.data.toList) ↔ Maps.has D (.string x) = true := by
  have hx : Maps.has D (.string x) = (findO l ⟨x.toArray⟩).isSome := by
    have := ht.has ⟨x.toArray⟩
    simpa [sl] using this
  rw [hx]
  constructor
  · intro h
    obtain ⟨p, hp, e⟩ := List.mem_map.1 h
    obtain ⟨i, hi, rfl⟩ := List.getElem_of_mem hp
    have h2 := findO_get hr i hi
    have e2 : (⟨x.toArray⟩ : ByteArray) = (l[i]).1 := bytes_eq (by simp [e])
    rw [e2, h2]; rfl
  · intro h
    obtain ⟨d, hd⟩ := Option.isSome_iff_exists.1 h
    exact List.mem_map.2 ⟨_, findO_mem hd, by simp⟩
theorem names_nodup {l : Obs} (hr : Rising l) : (l.map fun p => p.1.data.toList).Nodup := List.pairwise_map.2 (hr.imp fun {a b} h e => low_ne h (bytes_eq e))
/-- What was collected of a store's names. -/
theorem keys_perm {D : DataW Value} {l : Obs} {left : Lit → Bool} {ss : List (List UInt8)} (ht : Ties w S D l) (hr : Rising l) (hC : Collected D left ss) (hl : ∀ kl, left kl = false) : ss.Perm (l.map fun p => p.1.data.toList) := by
  refine (List.perm_ext_iff_of_nodup hC.1 (names_nodup hr)).2 fun x => ?_
  rw [hC.2 x, hl, mem_names ht hr]
  simp
/-- No more objects than the map may have entries. -/
theorem FarP.length_le (h : FarP w S g m N st) : st.l.length ≤ N := by
  obtain ⟨D, ho, ht⟩ := h.map
  obtain ⟨es, hD, hpw, _⟩ := ho.entries law
  obtain ⟨es', hD', hko⟩ := ho.keysOf
  obtain rfl : es = es' := by rw [hD] at hD'; simpa using hD'
  have hs := ho.size_le
  subst hD
  have hp := perm_strKeys hpw (fun p hp => by obtain ⟨v, hv⟩ := hko p hp; obtain ⟨x, _, hx, _⟩ := Maps.keyOf_str Try.underlying9 hv; exact ⟨x, hx⟩) (names_nodup h.ris) (mem_names ht h.ris)
  have := hp.length_eq
  have e : (strKeys (.map es : DataW Value)).length = es.length := by simp [strKeys]
  rw [List.length_map, e] at this
  rw [this]
  exact hs
set_option maxRecDepth 100000 in
set_option maxHeartbeats 1000000 in
theorem names_calls (h : FarP w S g m N st) (hN : N ≤ 1000000) :
    Calls Try.prog 43 #[.pointer (some ⟨g, 0, none⟩)] w fun e w' => ∃ v, e = .returned v ∧ Kd.R Kd.string 9 w' w.heap.size (fun _ => True) v (st.l.map (·.1)) ∧ Below w.heap.size w w' := by
  obtain ⟨i0, hi, hz0, hz1, hz2⟩ := info_parts info9
  obtain ⟨D, ho, ht⟩ := h.map
  have hmax : Maps.size D ≤ 1000000 := Nat.le_trans ho.size_le hN
  obtain ⟨A0, c0, hb, _, _⟩ := h.cell
  have c1 : w.cell? ⟨g, 0, none⟩ = some (.map (some m)) := blk_cell hb 0
  have hml := h.lt.2
  have HT := Aside0.mk ht
  have HR := Aside0.mk h.ris
  clear hb h ht
  go_enter Try.func43, Try.ntmps43
  go_wp2_with (at_range; refine wpList_range_own _ rfl _ 68 rfl 9 22 law Try.underlying68 _ m N D rfl ho ?_; intro w0 hrg0 hg0 hs0)
  go_frame
  go_loopw [3] (fun v wr => ∃ (left : Lit → Bool) (cnt : Nat) (ss : List (List UInt8)), wr.ranges Try.prog 9 rawR m w.heap.size N D left cnt ∧ ss.length + cnt ≤ Maps.size D ∧
      wr.ownsRow w.heap.size 9 1 v ss.length (ss.map encStr) ∧ Collected D left ss ∧ Below w.heap.size w wr)
    (fun _ wr => wr.rangeLeft m w.heap.size)
  case atStart =>
    exact ⟨_, _, [], hrg0, by simp, own_nil _ _ _ _, Collected.start D, (Below.refl _ _).grown hg0 (Nat.le_refl _) (fun j hj => by cases hj)⟩
  case round =>
    obtain ⟨left, cnt, ss, hrg, hcs, hrow, hC, hnx⟩ := hrel
    go_wp2_with (at_next; refine wpList_next_ranges _ rfl _ rfl 9 law rawR encStr id invStr invRaw m w.heap.size N _ _ _ rfl hrg ?_ ?_)
    · intro hc0 hl0
      have hperm := keys_perm HT.out HR.out hC hl0
      have HS := Aside0.mk (names_sorted HR.out hperm)
      have HL := Aside0.mk (hperm.length_eq)
      have HX := Aside0.mk hnx
      have hls0 : ss.length ≤ 1000000 := by omega
      clear hperm hC hrg hcs hnx
      rcases hrow.2 with ⟨hnil, hn0⟩ | ⟨g2, cap, cur, hv2, hbase, hb2, h1, h2, h3, h4⟩
      · subst hnil
        have HE := Aside0.mk hn0
        clear hrow hn0
        go_wp2_with (go_at_call 63; (with_reducible refine (Try.slices_Sort_string_none none 0 _).mono ?_); rintro e w' ⟨rfl, rfl⟩)
        go_ret
        have hl : st.l.map (·.1) = [] := List.eq_nil_of_length_eq_zero (by have := HL.out; rw [HE.out, List.length_map] at this; rw [List.length_map]; exact this.symm)
        rw [hl]
        exact ⟨_, rfl, Kd.R_nil _ _ _ _ _, HX.out⟩
      · subst hv2
        have hH : Holds encStr wr g2 0 ss.toArray := holds_of_block hb2 (by simpa using h4)
        have hgl : g2 < wr.heap.size := (Array.getElem?_eq_some_iff.1 hb2).1
        have hls : ss.length < 4611686018427387904 := by omega
        have hc := Aside0.mk (Try.slices_Sort_string g2 0 cap ss wr hH hgl hls)
        have HB := Aside0.mk hb2
        clear hrow hH h4 hb2
        go_wp2_with (go_at_call 63; (with_reducible refine hc.out.mono ?_); rintro e w' ⟨rfl, nn, os, rfl⟩)
        go_ret
        have hown := ownsRow_sorted (n := nn) (os := os) (ts := ss.mergeSort fun x y => decide (x ≤ y)) (by simp) hbase HB.out h1 h2 h3
        have he : (ss.mergeSort fun x y => decide (x ≤ y)).map encStr = encs Value.string (st.l.map (·.1)) := by
          rw [HS.out]
          simp [encs, encStr]
        have hlen : ss.length = (st.l.map (·.1)).length := by have := HL.out; rw [List.length_map] at this ⊢; exact this
        rw [he] at hown
        generalize hs2 : (ss.mergeSort fun x y => decide (x ≤ y)) = srt at hown ⊢
        refine ⟨_, rfl, Kd.R_of_own (h1 := fun _ => rfl) ?_ (fun _ _ => trivial), HX.out.grown (grownBy_sorted _) HX.out.size (fun j hj => by cases hj; exact hbase)⟩
        rw [← hlen]
        exact hown
    · intro x c kl yd yp w2 cnt2 hkey hlk hv hat hrg2 hlt hg2 hs2 hen
      obtain ⟨x', ex, rfl, _⟩ := Maps.keyOf_str Try.underlying9 hkey
      obtain rfl : x = x' := encStr_inj ex
      have hrow2 := hrow.kept hg2 (Or.inr (row_ne_iter hrow hrg).symm)
      clear hs2
      go_wp2_with (at_builtin; refine wpList_append_own _ rfl _ _ 53 rfl w.heap.size 9 i0 (.string ⟨#[]⟩) 1 16 Try.underlying53 hi hz0 hz1 hz2 rfl (by decide) _ _ _ rfl (hrow2.alloc _) ⟨w2.heap.size, 0, none⟩ 1 1 [encStr x] rfl rfl (cell_one_new _ _ _) (by simp [Value.oneCell', encStr]) (by unfold maxLen at *; omega) (by omega) (by have := hnx.size; have := hg2.size; simp; omega) ?_; intro v' w3 hown' hg3 hnil3; go_frame)
      have hrg3 := (hrg2.alloc _).kept hg3 (row_ne_low hrow2 hml) (row_ne_iter hrow2 hrg2)
      go_roundw
      case rel =>
        refine ⟨_, cnt2, ss ++ [x], hrg3, by simp; omega, by simpa using hown', hC.step hlk hat, ?_⟩
        exact ((hnx.grown hg2 hnx.size (fun j hj => by cases hj; exact Nat.le_refl _)).alloc (by have := hnx.size; have := hg2.size; omega) _).grown hg3 (by have := hnx.size; have := hg2.size; simp; omega) (fun j hj => (hrow2.lt j hj).1)
      case measure => rw [hrg3.left_eq, hrg.left_eq]; exact hlt
end
end Go.Proofs.Ytbedfilammjlpaa.P
