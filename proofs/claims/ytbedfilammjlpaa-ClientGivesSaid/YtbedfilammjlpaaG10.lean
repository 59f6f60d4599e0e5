/- Get of a far store: what it tells and leaves. The names of a far store, rising: the map is gone through in whatever order, and sorted. List, Objects, Copy of a far store. Copy of a far store: another one that is the same. -/
import Derived.Test.YtbedfilammjlpaaG6
import Derived.Test.YtbedfilammjlpaaHshelf
import Derived.Sort.KeysCollected
import Derived.Sort.OwnSorted
import Derived.Maps.RangeWalk
import Derived.Deep.DeepMust
namespace Go.Proofs.Ytbedfilammjlpaa.P
open Go.RowKit Go.Proofs.YtbedfilammjlpaaW.PrintWords Go.Proofs.YtbedfilammjlpaaW.PrintMore Go.Maps Go.WideMaps
set_option linter.unusedVariables false
section
variable {w : World} {S : Nat → Prop} {g m N : Nat} {st : FS}
theorem getF_tells {s : ByteArray} {at_ n : Int} (h : toldF st.out (getE st.l s at_ n) = 0) : getF st s at_ n = (cutF (bytesOf ((findO st.l s).getD ByteArray.empty)) at_ n, 0, st.took) := by unfold getF; rw [h, if_pos rfl]
theorem getF_not {s : ByteArray} {at_ n : Int} (h : toldF st.out (getE st.l s at_ n) ≠ 0) : getF st s at_ n = ([], toldF st.out (getE st.l s at_ n), st.took) := by unfold getF; rw [if_neg h]
theorem told_zero {out e : Int} (h : toldF out e = 0) : e = 0 := by
  unfold toldF at h
  split at h
  · cases h
  · split at h
    · cases h
    · exact h
set_option maxRecDepth 100000 in
theorem get_calls (h : FarP w S g m N st) (s : ByteArray) (hs : s.size ≤ maxLen) (at_ n : Int) :
    Calls Try.prog 21 #[.pointer (some ⟨g, 0, none⟩), .string s, .int .i64 at_, .int .i64 n] w fun e w' => ∃ A c, e = .returned (.tuple #[.slice A (getF st s at_ n).1.length c, .int .i64 (getF st s at_ n).2.1]) ∧ (getF st s at_ n).1.length ≤ c ∧ Lives w' S (Kd.int .u8) A (getF st s at_ n).1 ∧ FarP w' S g m N (getF st s at_ n).2.2 ∧ Stp (GM g m) w w' := by
  have HS := Aside0.mk h
  have hg := h.lt.1
  have hsg := h.sg
  have hsm := h.sm
  have hbd := h.bd
  clear h
  have he := enters44
  go_enter Try.func21, Try.ntmps21
  go_wp2_with fail
  generalize hw5 : ((((w.alloc (.cells #[.pointer (some ⟨g, 0, none⟩)] 24)).alloc (.cells #[.string s] 9)).alloc (.cells #[.int .i64 at_] 3)).alloc (.cells #[.int .i64 n] 3)).alloc (.cells #[.slice none 0 0] 22) = w5
  have hb : Below w.heap.size w w5 := by
    rw [← hw5]
    exact (((((Below.refl _ w).alloc (Nat.le_refl _) _).alloc (by simp) _).alloc (by simp; omega) _).alloc (by simp; omega) _).alloc (by simp; omega) _
  have hsz : w5.heap.size = w.heap.size + 5 := by rw [← hw5]; simp
  have cf : w5.cell? ⟨w.heap.size, 0, none⟩ = some (.pointer (some ⟨g, 0, none⟩)) := by subst hw5; go_simp
  have cs : w5.cell? ⟨w.heap.size + 1, 0, none⟩ = some (.string s) := by subst hw5; go_simp
  have ca : w5.cell? ⟨w.heap.size + 1 + 1, 0, none⟩ = some (.int .i64 at_) := by subst hw5; go_simp
  have cn : w5.cell? ⟨w.heap.size + 1 + 1 + 1, 0, none⟩ = some (.int .i64 n) := by subst hw5; go_simp
  have co : w5.cell? ⟨w.heap.size + 1 + 1 + 1 + 1, 0, none⟩ = some (.slice none 0 0) := by subst hw5; go_simp
  have fo : w5.frozen? ⟨w.heap.size + 1 + 1 + 1 + 1, 0, none⟩ = false := by subst hw5; go_simp
  clear hw5
  have hF : FarP w5 (fun k => S k ∨ k = w.heap.size + 1 + 1 + 1 + 1) g m N st := HS.out.wide (Stp.of_below hb _) (fun k hk => hk.elim .inl (fun e => .inr (by omega))) (fun k hk => hk.elim (fun h => by have := hbd k h; omega) (fun e => by omega)) (fun k hk => .inl hk)
  have end1 : ∀ {w' : World}, FarP w' (fun k => S k ∨ k = w.heap.size + 1 + 1 + 1 + 1) g m N st.took → FarP w' S g m N st.took := fun h => h.narrow (fun k hk => .inl hk) hsg hsm
  refine (called_calls hF 44 _ (he _) (fun code w' => code = getE st.l s at_ n ∧ (code = 0 → Got w' (fun k => S k ∨ k = w.heap.size + 1 + 1 + 1 + 1) (w.heap.size + 1 + 1 + 1 + 1) (cutF (bytesOf ((findO st.l s).getD ByteArray.empty)) at_ n)) ∧ FarP w' (fun k => S k ∨ k = w.heap.size + 1 + 1 + 1 + 1) g m N st.took ∧ Stp (GM g m) w w') ?_).mono ?_
  · intro W hW ht
    have ht' : Stp (GM g m) w W := (Stp.of_below hb _).trans (gm_g ht)
    have hne : ∀ {p : Nat}, w.heap.size ≤ p → p ≠ g := fun h e => by omega
    refine (get1_calls hW _ _ _ _ _ s hs at_ n (.slice none 0 0) (.inr rfl) (hne (by omega)) (boxed hb ht hg (Nat.le_refl _) cf) (boxed hb ht hg (by omega) cs) (boxed hb ht hg (by omega) ca) (boxed hb ht hg (by omega) cn) (boxed hb ht hg (by omega) co) ?_).mono ?_
    · have hlt : w.heap.size + 1 + 1 + 1 + 1 < w5.heap.size := by omega
      have := ht.kept.2 _ hlt (hne (p := w.heap.size + 1 + 1 + 1 + 1) (by omega))
      rw [World.frozen?_of_block (w := w5) this]
      exact fo
    · rintro e w' ⟨rfl, h1, h2, h3⟩
      exact ⟨_, rfl, rfl, h1, h2, ht'.then_ h3 (fun k e => .inr (by omega))⟩
  · rintro e w' (⟨h1, rfl, h2, h3⟩ | ⟨h1, code, rfl, rfl, hG, h2, h3⟩)
    · have HF := Aside0.mk (end1 h2)
      have HT := Aside0.mk h3
      have HO := Aside0.mk h1
      clear h2 h3 h1 hF end1
      go_wp2_with fail
      go_ret2
      have hz : toldF st.out (getE st.l s at_ n) ≠ 0 := by rw [toldF_one HO.out]; decide
      rw [getF_not hz, toldF_one HO.out]
      exact ⟨none, 0, rfl, Nat.le_refl _, Lives.nil _ _ _, HF.out, (Stp.of_below hb _).trans (gm_g HT.out)⟩
    · have HF := Aside0.mk (end1 h2)
      have HT := Aside0.mk h3
      by_cases hz : toldF st.out (getE st.l s at_ n) = 0
      · obtain ⟨A2, c2, h4, h5, h6⟩ := (hG (told_zero hz)).out
        have HL := Aside0.mk (h6.less (S2 := S) (fun k hk => .inl (.inl hk)))
        have HZ := Aside0.mk hz
        rw [hz]
        clear h2 h3 h1 hF end1 hG h6 hz
        go_wp2_with fail
        go_ret2
        rw [getF_tells HZ.out]
        exact ⟨A2, c2, rfl, h5, HL.out, HF.out, HT.out⟩
      · have HN := Aside0.mk (getF_not hz)
        generalize toldF st.out (getE st.l s at_ n) = z at hz HN ⊢
        have hz' : (z == 0) = false := by simpa using hz
        have hz2 : (z != 0) = true := by simpa using hz
        clear h2 h3 h1 hF end1 hG hz
        go_wp2_with fail
        go_ret2
        rw [HN.out]
        exact ⟨none, 0, rfl, Nat.le_refl _, Lives.nil _ _ _, HF.out, HT.out⟩
end
end Go.Proofs.Ytbedfilammjlpaa.P
namespace Go.Proofs.Ytbedfilammjlpaa.P
open Go.RowKit Go.Proofs.YtbedfilammjlpaaW.PrintWords Go.Proofs.YtbedfilammjlpaaW.PrintMore Go.Maps Go.WideMaps Go.Sort
set_option linter.unusedVariables false
theorem info9 : (Try.prog.info? 9).map (fun i => (i.zero, i.size, i.bytes)) = some (some (.string ⟨#[]⟩), 1, 16) := by kernel_rfl
theorem invStr : ∀ key kl, keyOf Try.prog 9 key = some kl → ∃ x, key = encStr x := fun key kl hk => by obtain ⟨x, hx, _⟩ := Maps.keyOf_str Try.underlying9 hk; exact ⟨x, hx⟩
theorem invRaw : ∀ (v : Value) (y : DataW Value × List MemPlace), rawR v = some y → ∃ c : Value, v = id c := fun v y _ => ⟨v, rfl⟩
section
variable {w : World} {S : Nat → Prop} {g m N : Nat} {st : FS}
theorem mem_names {D : DataW Value} {l : Obs} (ht : Ties w S D l) (hr : Rising l) (x : List UInt8) : (x ∈ l.map fun p => p.1.data.toList) ↔ Maps.has D (.string x) = true := by
  have hx : Maps.has D (.string x) = (findO l ⟨x.toArray⟩).isSome := by
    have := ht.has ⟨x.toArray⟩
    simpa [sl] using this
  rw [hx]
  constructor
  · intro h
    obtain ⟨p, hp, e⟩ := List.mem_map.1 h
    obtain ⟨i, hi, rfl⟩ := List.getElem_of_mem hp
    have h2 := findO_get hr i hi
    have e2 : (⟨x.toArray⟩ : ByteArray) = (l[i]).1 := bytes_eq (by simp [e])
    rw [e2, h2]; rfl
  · intro h
    obtain ⟨d, hd⟩ := Option.isSome_iff_exists.1 h
    exact List.mem_map.2 ⟨_, findO_mem hd, by simp⟩
theorem names_nodup {l : Obs} (hr : Rising l) : (l.map fun p => p.1.data.toList).Nodup := List.pairwise_map.2 (hr.imp fun {a b} h e => low_ne h (bytes_eq e))
/-- What was collected of a store's names. -/
theorem keys_perm {D : DataW Value} {l : Obs} {left : Lit → Bool} {ss : List (List UInt8)} (ht : Ties w S D l) (hr : Rising l) (hC : Collected D left ss) (hl : ∀ kl, left kl = false) : ss.Perm (l.map fun p => p.1.data.toList) := by
  refine (List.perm_ext_iff_of_nodup hC.1 (names_nodup hr)).2 fun x => ?_
  rw [hC.2 x, hl, mem_names ht hr]
  simp
/-- No more objects than the map may have entries. -/
theorem FarP.length_le (h : FarP w S g m N st) : st.l.length ≤ N := by
  obtain ⟨D, ho, ht⟩ := h.map
  obtain ⟨es, hD, hpw, _⟩ := ho.entries law
  obtain ⟨es', hD', hko⟩ := ho.keysOf
  obtain rfl : es = es' := by rw [hD] at hD'; simpa using hD'
  have hs := ho.size_le
  subst hD
  have hp := perm_strKeys hpw (fun p hp => by obtain ⟨v, hv⟩ := hko p hp; obtain ⟨x, _, hx, _⟩ := Maps.keyOf_str Try.underlying9 hv; exact ⟨x, hx⟩) (names_nodup h.ris) (mem_names ht h.ris)
  have := hp.length_eq
  have e : (strKeys (.map es : DataW Value)).length = es.length := by simp [strKeys]
  rw [List.length_map, e] at this
  rw [this]
  exact hs
set_option maxRecDepth 100000 in
set_option maxHeartbeats 1000000 in
theorem names_calls (h : FarP w S g m N st) (hN : N ≤ 1000000) :
    Calls Try.prog 43 #[.pointer (some ⟨g, 0, none⟩)] w fun e w' => ∃ v, e = .returned v ∧ Kd.R Kd.string 9 w' w.heap.size (fun _ => True) v (st.l.map (·.1)) ∧ Below w.heap.size w w' := by
  obtain ⟨i0, hi, hz0, hz1, hz2⟩ := info_parts info9
  obtain ⟨D, ho, ht⟩ := h.map
  have hmax : Maps.size D ≤ 1000000 := Nat.le_trans ho.size_le hN
  obtain ⟨A0, c0, hb, _, _⟩ := h.cell
  have c1 : w.cell? ⟨g, 0, none⟩ = some (.map (some m)) := blk_cell hb 0
  have hml := h.lt.2
  have HT := Aside0.mk ht
  have HR := Aside0.mk h.ris
  clear hb h ht
  go_enter Try.func43, Try.ntmps43
  go_wp2_with (at_range; refine wpList_range_own _ rfl _ 68 rfl 9 22 law Try.underlying68 _ m N D rfl ho ?_; intro w0 hrg0 hg0 hs0)
  go_frame
  go_loopw [3] (fun v wr => ∃ (left : Lit → Bool) (cnt : Nat) (ss : List (List UInt8)), wr.ranges Try.prog 9 rawR m w.heap.size N D left cnt ∧ ss.length + cnt ≤ Maps.size D ∧
      wr.ownsRow w.heap.size 9 1 v ss.length (ss.map encStr) ∧ Collected D left ss ∧ Below w.heap.size w wr)
    (fun _ wr => wr.rangeLeft m w.heap.size)
  case atStart =>
    exact ⟨_, _, [], hrg0, by simp, own_nil _ _ _ _, Collected.start D, (Below.refl _ _).grown hg0 (Nat.le_refl _) (fun j hj => by cases hj)⟩
  case round =>
    obtain ⟨left, cnt, ss, hrg, hcs, hrow, hC, hnx⟩ := hrel
    go_wp2_with (at_next; refine wpList_next_ranges _ rfl _ rfl 9 law rawR encStr id invStr invRaw m w.heap.size N _ _ _ rfl hrg ?_ ?_)
    · intro hc0 hl0
      have hperm := keys_perm HT.out HR.out hC hl0
      have HS := Aside0.mk (names_sorted HR.out hperm)
      have HL := Aside0.mk (hperm.length_eq)
      have HX := Aside0.mk hnx
      have hls0 : ss.length ≤ 1000000 := by omega
      clear hperm hC hrg hcs hnx
      rcases hrow.2 with ⟨hnil, hn0⟩ | ⟨g2, cap, cur, hv2, hbase, hb2, h1, h2, h3, h4⟩
      · subst hnil
        have HE := Aside0.mk hn0
        clear hrow hn0
        go_wp2_with (go_at_call 63; (with_reducible refine (Try.slices_Sort_string_none none 0 _).mono ?_); rintro e w' ⟨rfl, rfl⟩)
        go_ret
        have hl : st.l.map (·.1) = [] := List.eq_nil_of_length_eq_zero (by have := HL.out; rw [HE.out, List.length_map] at this; rw [List.length_map]; exact this.symm)
        rw [hl]
        exact ⟨_, rfl, Kd.R_nil _ _ _ _ _, HX.out⟩
      · subst hv2
        have hH : Holds encStr wr g2 0 ss.toArray := holds_of_block hb2 (by simpa using h4)
        have hgl : g2 < wr.heap.size := (Array.getElem?_eq_some_iff.1 hb2).1
        have hls : ss.length < 4611686018427387904 := by omega
        have hc := Aside0.mk (Try.slices_Sort_string g2 0 cap ss wr hH hgl hls)
        have HB := Aside0.mk hb2
        clear hrow hH h4 hb2
        go_wp2_with (go_at_call 63; (with_reducible refine hc.out.mono ?_); rintro e w' ⟨rfl, nn, os, rfl⟩)
        go_ret
        have hown := ownsRow_sorted (n := nn) (os := os) (ts := ss.mergeSort fun x y => decide (x ≤ y)) (by simp) hbase HB.out h1 h2 h3
        have he : (ss.mergeSort fun x y => decide (x ≤ y)).map encStr = encs Value.string (st.l.map (·.1)) := by
          rw [HS.out]
          simp [encs, encStr]
        have hlen : ss.length = (st.l.map (·.1)).length := by have := HL.out; rw [List.length_map] at this ⊢; exact this
        rw [he] at hown
        generalize hs2 : (ss.mergeSort fun x y => decide (x ≤ y)) = srt at hown ⊢
        refine ⟨_, rfl, Kd.R_of_own (h1 := fun _ => rfl) ?_ (fun _ _ => trivial), HX.out.grown (grownBy_sorted _) HX.out.size (fun j hj => by cases hj; exact hbase)⟩
        rw [← hlen]
        exact hown
    · intro x c kl yd yp w2 cnt2 hkey hlk hv hat hrg2 hlt hg2 hs2 hen
      obtain ⟨x', ex, rfl, _⟩ := Maps.keyOf_str Try.underlying9 hkey
      obtain rfl : x = x' := encStr_inj ex
      have hrow2 := hrow.kept hg2 (Or.inr (row_ne_iter hrow hrg).symm)
      clear hs2
      go_wp2_with (at_builtin; refine wpList_append_own _ rfl _ _ 53 rfl w.heap.size 9 i0 (.string ⟨#[]⟩) 1 16 Try.underlying53 hi hz0 hz1 hz2 rfl (by decide) _ _ _ rfl (hrow2.alloc _) ⟨w2.heap.size, 0, none⟩ 1 1 [encStr x] rfl rfl (cell_one_new _ _ _) (by simp [Value.oneCell', encStr]) (by unfold maxLen at *; omega) (by omega) (by have := hnx.size; have := hg2.size; simp; omega) ?_; intro v' w3 hown' hg3 hnil3; go_frame)
      have hrg3 := (hrg2.alloc _).kept hg3 (row_ne_low hrow2 hml) (row_ne_iter hrow2 hrg2)
      go_roundw
      case rel =>
        refine ⟨_, cnt2, ss ++ [x], hrg3, by simp; omega, by simpa using hown', hC.step hlk hat, ?_⟩
        exact ((hnx.grown hg2 hnx.size (fun j hj => by cases hj; exact Nat.le_refl _)).alloc (by have := hnx.size; have := hg2.size; omega) _).grown hg3 (by have := hnx.size; have := hg2.size; simp; omega) (fun j hj => (hrow2.lt j hj).1)
      case measure => rw [hrg3.left_eq, hrg.left_eq]; exact hlt
end
end Go.Proofs.Ytbedfilammjlpaa.P
namespace Go.Proofs.Ytbedfilammjlpaa.P
open Go.RowKit Go.Proofs.YtbedfilammjlpaaW.PrintWords Go.Proofs.YtbedfilammjlpaaW.PrintMore Go.Maps Go.WideMaps Go.Sort
set_option linter.unusedVariables false
section
variable {w : World} {S : Nat → Prop} {g m N : Nat} {st : FS}
theorem listF_tells (h : toldF st.out 0 = 0) : listF st = (st.l.map (·.1), 0, st.took) := by unfold listF; rw [h, if_pos rfl]
theorem listF_not (h : toldF st.out 0 ≠ 0) : listF st = ([], toldF st.out 0, st.took) := by unfold listF; rw [if_neg h]
set_option maxRecDepth 100000 in
theorem list_calls (h : FarP w S g m N st) (hN : N ≤ 1000000) :
    Calls Try.prog 33 #[.pointer (some ⟨g, 0, none⟩)] w fun e w' => ∃ A c, e = .returned (.tuple #[.slice A (listF st).1.length c, .int .i64 (listF st).2.1]) ∧ (listF st).1.length ≤ c ∧ Lives w' S Kd.string A (listF st).1 ∧ FarP w' S g m N (listF st).2.2 ∧ Stp (GM g m) w w' := by
  have HS := Aside0.mk h
  clear h
  have he := enters55
  go_enter Try.func33, Try.ntmps33
  go_wp2_with fail
  refine (called_calls HS.out 55 _ (he _) (fun code w' => code = 0 ∧ FarP w' S g m N st.took ∧ Stp (GM g m) w w') ?_).mono ?_
  · intro W hW ht
    refine (list1_calls _).mono ?_
    rintro e w' ⟨rfl, rfl⟩
    exact ⟨_, rfl, rfl, hW, gm_g ht⟩
  · rintro e w' (⟨h1, rfl, h2, h3⟩ | ⟨h1, code, rfl, rfl, h2, h3⟩)
    · have HF := Aside0.mk h2
      have HT := Aside0.mk h3
      have HO := Aside0.mk h1
      clear h2 h3 h1
      go_wp2_with fail
      go_ret2
      have hz : toldF st.out 0 ≠ 0 := by rw [toldF_one HO.out]; decide
      rw [listF_not hz, toldF_one HO.out]
      exact ⟨none, 0, rfl, Nat.le_refl _, Lives.nil _ _ _, HF.out, gm_g HT.out⟩
    · have HF := Aside0.mk h2
      have HT := Aside0.mk h3
      by_cases hz : toldF st.out 0 = 0
      · have HZ := Aside0.mk hz
        rw [hz]
        clear h2 h3 h1 hz
        go_wp2_with (go_at_call 43; (with_reducible refine (names_calls HF.out hN).mono ?_); rintro e w1 ⟨v, rfl, hv, hb⟩; have HV := Aside0.mk hv; have HB := Aside0.mk hb; clear hv hb; obtain ⟨A2, c2, hA2⟩ := Kd.R_slice HV.out; subst hA2)
        go_ret2
        rw [listF_tells HZ.out]
        obtain ⟨A3, c3, e3, h4, h5⟩ := Lives.new HV.out HF.out.bd
        injection e3 with e3 _ e4
        subst e3; subst e4
        exact ⟨A2, c2, by simp only [List.length_map]; rfl, h4, h5, HF.out.below HB.out, HT.out.below HB.out⟩
      · have HN := Aside0.mk (listF_not hz)
        generalize toldF st.out 0 = z at hz HN ⊢
        have hz' : (z == 0) = false := by simpa using hz
        have hz2 : (z != 0) = true := by simpa using hz
        clear h2 h3 h1 hz
        go_wp2_with fail
        go_ret2
        rw [HN.out]
        exact ⟨none, 0, rfl, Nat.le_refl _, Lives.nil _ _ _, HF.out, HT.out⟩
/-- An object as the list of files has it. -/
def fileOf (p : ByteArray × ByteArray) : S58 := ⟨p.1, p.2, 0⟩
/-- The look-up without 'ok'. -/
theorem FarP.look (h : FarP w S g m N st) (s : ByteArray) (hs : s.size ≤ maxLen) {d : ByteArray} (hf : findO st.l s = some d) :
    ∃ A xs c, xs.length ≤ c ∧ xs.length ≤ 1048576 ∧ Bts xs ∧ Lives w S (Kd.int .u8) A xs ∧ strOfNums xs = d ∧ (Instr.lookup 68 (.map (some m)) (.string s) false).run Try.prog w = .ok (.slice A xs.length c) w := by
  obtain ⟨D, ho, ht⟩ := h.map
  obtain ⟨v, ps, h1, h2⟩ := World.ownsMap.lookup ho law Try.underlying68 (zeroE _) (zd := .held (.slice none 0 0)) (zp := []) rfl (keyOf_string_mk Try.underlying9 hs)
  have h3 := rawR_inv h2
  obtain ⟨A, xs, c, k1, k2, k3, k4, k5, k6⟩ := ht.val s d hf
  rw [k1] at h3
  obtain rfl := DataW.held.inj h3
  exact ⟨A, xs, c, k2, k3, k4, k5, k6, h1⟩
theorem FarP.name_le (h : FarP w S g m N st) : ∀ p ∈ st.l, p.1.size ≤ maxLen := by
  intro p hp
  obtain ⟨D, ho, ht⟩ := h.map
  obtain ⟨i, hi, rfl⟩ := List.getElem_of_mem hp
  have h1 := ht.has (st.l[i]).1
  rw [findO_get h.ris i hi] at h1
  obtain ⟨es, rfl, hk⟩ := ho.keysOf
  rw [Maps.has_eq] at h1
  have h2 : es.any (fun p => p.1.sameKey (sl (st.l[i]).1)) = true := h1
  obtain ⟨q, hq, hs⟩ := List.any_eq_true.1 h2
  obtain ⟨v, hv⟩ := hk q hq
  obtain ⟨x, _, hx, hl⟩ := Maps.keyOf_str Try.underlying9 hv
  rw [hx] at hs
  have e : x = (st.l[i]).1.data.toList := by simpa [Lit.sameKey, sl] using hs
  rw [e, data_length] at hl
  exact hl
/-- The objects seen so far. -/
theorem take_snoc {α : Type} (l : List α) (k : Nat) (h : k < l.length) : l.take (k + 1) = l.take k ++ [l[k]] := List.take_succ_eq_append_getElem h
theorem info58 : (Try.prog.info? 58).map (fun i => (i.zero, i.size, i.bytes)) = some (some (.agg #[.string ⟨#[]⟩, .string ⟨#[]⟩, .int .i64 0]), 3, 40) := by kernel_rfl
set_option maxRecDepth 100000 in
set_option maxHeartbeats 1000000 in
theorem objects_calls (h : FarP w S g m N st) (hN : N ≤ 1000000) :
    Calls Try.prog 19 #[.pointer (some ⟨g, 0, none⟩)] w fun e w' => ∃ v, e = .returned v ∧ Kd.R k58 58 w' w.heap.size (fun _ => True) v (st.l.map fileOf) ∧ Below w.heap.size w w' := by
  have HS := Aside0.mk h
  clear h
  go_enter Try.func19, Try.ntmps19
  go_wp2_with (go_at_call 43; (with_reducible refine (names_calls HS.out hN).mono ?_); rintro e w1 ⟨v, rfl, hv, hb⟩; have HV := Aside0.mk hv; have HB := Aside0.mk hb; clear hv hb; obtain ⟨A2, c2, hA2⟩ := Kd.R_slice HV.out; subst hA2)
  have hF1 := HS.out.below HB.out
  have hlN : st.l.length ≤ 9223372036854775807 := by have := (Lives.new HV.out HS.out.bd).choose_spec.choose_spec.2.2.now.2.1; simpa using this
  go_loopw [3, 11] (fun v i wr => ∃ k : Nat, k ≤ st.l.length ∧ i = .int .i64 k ∧ Kd.R k58 58 wr w1.heap.size (fun _ => True) v ((st.l.take k).map fileOf) ∧ Below w1.heap.size w1 wr) (fun _ i _ => st.l.length - (intOf i).toNat)
  case atStart => exact ⟨0, Nat.zero_le _, rfl, Kd.R_nil _ _ _ _ _, Below.refl _ _⟩
  case round =>
    obtain ⟨k, hk, rfl, hR, hbel⟩ := hrel
    by_cases hlt : k < st.l.length
    · have hFw := hF1.below hbel
      have hC := Kd.C_below (Kd.R_reads' HV.out).2.2 hbel
      obtain ⟨ad, e, hcell⟩ := Kd.at_string hC (k : Int) (by omega) (by simp only [List.length_map]; omega)
      have hfind := findO_get hFw.ris k hlt
      have hsz := hFw.name_le _ (List.getElem_mem hlt)
      have htk := take_snoc st.l k hlt
      have hnm : rdOf ByteArray.empty (st.l.map (·.1)) (k : Int) = (st.l[k]).1 := by
        unfold rdOf
        simp [List.getD_eq_getElem?_getD, hlt]
      rw [hnm] at hcell
      generalize st.l[k] = q at hcell hfind hsz htk
      obtain ⟨nm, dd⟩ := q
      obtain ⟨A, xs, c, hxc, _, _, hlv, hstr, hrun⟩ := hFw.look nm hsz hfind
      have hconv := Kd.C_string (P := Try.prog) (src := 22) (dst := 9) (c := c) Try.underlying22 Try.underlying5 Try.underlying9 hlv.now
      rw [hstr] at hconv
      obtain ⟨A0, c0, hb, _, _⟩ := hFw.cell
      have c1 : wr.cell? ⟨g, 0, none⟩ = some (.map (some m)) := blk_cell hb 0
      have HTK := Aside0.mk htk
      have HRR := Aside0.mk hR
      clear hstr hlv hnm hfind htk hC hR hb
      subst e
      have hln : st.l.length ≤ 1000000 := Nat.le_trans hFw.length_le hN
      have hlk : ((st.l.take k).map fileOf).length ≤ 1000000 := by rw [List.length_map, List.length_take]; omega
      simp only [Int.toNat_natCast] at hcell
      go_wp2_with (at_builtin; refine Kd.R_append k58 (w0 := w1) w1.heap.size rfl (.tmp 15) (.tmp 25) 32 58 (.agg #[.string ⟨#[]⟩, .string ⟨#[]⟩, .int .i64 0]) 40 rfl Try.underlying32 info58 rfl (by decide) (by omega) _ ((st.l.take k).map fileOf) (fileOf (nm, dd)) [.string nm, .string dd, .int .i64 0] (fun _ => True) (fun _ => False) rfl (by first | (go_simp; done) | (go_simp; rfl)) (k58_mkM _ _ _ (fileOf (nm, dd))) (fun _ hk => hk.elim) (fun _ _ => trivial) HRR.out hbel hbel.size ?aL ?_; (case aL => omega); intro v1 w2 hR1 hb1 hg1 hat1; clear hg1 hat1; have HR1 := Aside0.mk hR1; clear hR1)
      go_roundw
      case rel => exact ⟨k + 1, by omega, by go_num, by rw [HTK.out, List.map_append]; exact HR1.out, hb1⟩
      case measure => simp [intOf]; omega
    · obtain rfl : k = st.l.length := by omega
      have HRR := Aside0.mk hR
      clear hR
      go_wp2
      go_ret
      refine ⟨_, rfl, ?_, (HB.out).trans (hbel.mono HB.out.size)⟩
      have := HRR.out
      rw [List.take_length] at this
      exact Kd.R_lower this HB.out.size
end
end Go.Proofs.Ytbedfilammjlpaa.P
namespace Go.Proofs.Ytbedfilammjlpaa.P
open Go.RowKit Go.Proofs.YtbedfilammjlpaaW.PrintWords Go.Proofs.YtbedfilammjlpaaW.PrintMore Go.Maps Go.WideMaps Go.Sort
set_option linter.unusedVariables false
section
variable {w : World} {S : Nat → Prop} {g m N : Nat} {st : FS}
/-- A new store without objects, as Copy lays it. -/
structure Fresh (w W : World) (g' m' : Nat) (nx : List Int) (calls : Int) : Prop where
  cell : ∃ A c, W.heap[g']? = some (.cells #[.map (some m'), .slice A nx.length c, .int .i64 calls] 70 (0, 0)) ∧ nx.length ≤ c ∧ (∀ S2 : Nat → Prop, (∀ k, S2 k → k = g' ∨ k = m' ∨ k < w.heap.size) → Lives W S2 (Kd.int .i64) A nx)
  own : W.ownsMap Try.prog 9 rawR m' 0 (.map [])
  bel : Below w.heap.size w W
  gn : w.heap.size ≤ g'
  mn : w.heap.size ≤ m'
  ne : g' ≠ m'
  glt : g' < W.heap.size
  mlt : m' < W.heap.size
theorem row_lives {w1 W : World} {base e : Nat} {A : Option Addr} {c : Nat} {q : IntKind} {xs : List Int} (hv : Kd.R (Kd.int q) e w1 base (fun _ => True) (.slice A xs.length c) xs) (hb : Below w1.heap.size w1 W) {S2 : Nat → Prop} (hS : ∀ k, S2 k → k < base ∨ w1.heap.size ≤ k) : Lives W S2 (Kd.int q) A xs := by
  have h2 := Kd.R_below (Kd.R_bound hv) hb
  exact Kd.C_kept_own h2 (fun k hk hs => by have h3 := hk.2.1; have h4 := hk.2.2.1; rcases hS k hs with h5 | h5 <;> omega)
theorem fresh1 {w w1 : World} {A : Option Addr} {c : Nat} {nx : List Int} {calls : Int} (hbel : Below (w.alloc (.map #[] 0)).drew.heap.size (w.alloc (.map #[] 0)).drew w1) (hv : Kd.R (Kd.int .i64) 3 w1 (w.alloc (.map #[] 0)).drew.heap.size (fun _ => True) (.slice A nx.length c) nx) :
    Fresh w (w1.alloc (.cells #[.map (some w.heap.size), .slice A nx.length c, .int .i64 calls] 70)) w1.heap.size w.heap.size nx calls := by
  have hs : (w.alloc (.map #[] 0)).drew.heap.size = w.heap.size + 1 := by simp
  have hsz := hbel.size
  rw [hs] at hsz
  have hb1 : Below w1.heap.size w1 (w1.alloc (.cells #[.map (some w.heap.size), .slice A nx.length c, .int .i64 calls] 70)) := (Below.refl _ w1).alloc (Nat.le_refl _) _
  refine ⟨⟨A, c, heap_alloc_new _ _, (Kd.R_reads' hv).2.1, fun S2 h2 => row_lives hv hb1 (fun k hk => ?_)⟩, ?_, ?_, by omega, Nat.le_refl _, by omega, by simp, by simp; omega⟩
  · rw [hs]
    rcases h2 k hk with h | h | h <;> omega
  · refine owns_block (w := (w.alloc (.map #[] 0)).drew) (World.ownsMap_made w Try.prog 9 rawR) ?_
    exact (hb1.block _ (by omega)).trans (hbel.block _ (by rw [hs]; omega))
  · exact (((Below.refl _ w).alloc (Nat.le_refl _) (.map #[] 0)).drew.trans (hbel.mono (by rw [hs]; omega))).trans (hb1.mono (by omega))
theorem fresh2 {w w1 : World} {A : Option Addr} {c : Nat} {nx : List Int} {calls : Int} (hbel : Below w.drew.heap.size w.drew w1) (hv : Kd.R (Kd.int .i64) 3 w1 w.drew.heap.size (fun _ => True) (.slice A nx.length c) nx) :
    Fresh w ((w1.alloc (.map #[] 0)).alloc (.cells #[.map (some w1.heap.size), .slice A nx.length c, .int .i64 calls] 70)) (w1.heap.size + 1) w1.heap.size nx calls := by
  have hsz : w.heap.size ≤ w1.heap.size := hbel.size
  have hb1 : Below w1.heap.size w1 (w1.alloc (.map #[] 0)) := (Below.refl _ w1).alloc (Nat.le_refl _) _
  have hb2 : Below w1.heap.size w1 ((w1.alloc (.map #[] 0)).alloc (.cells #[.map (some w1.heap.size), .slice A nx.length c, .int .i64 calls] 70)) := hb1.alloc (by simp) _
  have hg : (w1.alloc (.map #[] 0)).heap.size = w1.heap.size + 1 := by simp
  refine ⟨⟨A, c, by rw [← hg]; exact heap_alloc_new _ _, (Kd.R_reads' hv).2.1, fun S2 h2 => row_lives hv hb2 (fun k hk => ?_)⟩, (World.ownsMap_made w1 Try.prog 9 rawR).alloc _, ?_, by omega, hsz, by omega, by simp, by simp; omega⟩
  · rcases h2 k hk with h | h | h
    · exact .inr (by omega)
    · exact .inr (by omega)
    · exact .inl h
  · exact ((Below.refl _ w).drew.trans hbel).trans (hb2.mono hsz)
/-- The copy's datum has just those objects of l that are no longer to come. -/
structure PTies (w : World) (Z : Nat → Prop) (D : DataW Value) (l : Obs) (left : Lit → Bool) : Prop where
  has : ∀ s : ByteArray, Maps.has D (sl s) = ((findO l s).isSome && !left (sl s))
  val : ∀ s d, findO l s = some d → left (sl s) = false → ∃ A xs c, (∀ z, D.atKey (sl s) z = .held (.slice A xs.length c)) ∧ xs.length ≤ c ∧ xs.length ≤ 1048576 ∧ Bts xs ∧ Lives w Z (Kd.int .u8) A xs ∧ strOfNums xs = d
theorem PTies.start {w W : World} {S Z : Nat → Prop} {D : DataW Value} {l : Obs} (ht : Ties W S D l) : PTies w Z (.map []) l (Maps.has D) :=
  ⟨fun s => by rw [ht.has]; cases (findO l s).isSome <;> rfl, fun s d hf hl => by rw [ht.has, hf] at hl; cases hl⟩
theorem PTies.step {w w' : World} {Z : Nat → Prop} {D : DataW Value} {l : Obs} {left : Lit → Bool} (h : PTies w Z D l left) (hk : Kept w w' Z) : PTies w' Z D l left :=
  ⟨h.has, fun s d hf hl => by
    obtain ⟨A, xs, c, h1, h2, h3, h4, h5, h6⟩ := h.val s d hf hl
    exact ⟨A, xs, c, h1, h2, h3, h4, h5.step hk, h6⟩⟩
theorem PTies.put {w : World} {Z : Nat → Prop} {D : DataW Value} {l : Obs} {left : Lit → Bool} (h : PTies w Z D l left) (hD : Maps.IsMap D) {nm d : ByteArray} (hf : findO l nm = some d) {A : Option Addr} {xs : List Int} {c : Nat} (h2 : xs.length ≤ c) (h3 : xs.length ≤ 1048576) (h4 : Bts xs) (h5 : Lives w Z (Kd.int .u8) A xs) (h6 : strOfNums xs = d) :
    PTies w Z (D.put (sl nm) (.held (.slice A xs.length c))) l (fun z => left z && !z.sameKey (sl nm)) := by
  refine ⟨fun s => ?_, fun s d' hf' hl => ?_⟩
  · by_cases e : nm = s
    · subst e
      rw [has_put_same hD (sl_key nm), hf]
      simp [Lit.sameKey, sl]
    · have e2 : sl s ≠ sl nm := fun e3 => e (sl_inj e3.symm)
      rw [has_put_other e2, h.has]
      rw [Maps.sameKey_ne e2]
      simp
  · by_cases e : nm = s
    · subst e
      rw [hf] at hf'
      exact ⟨A, xs, c, fun z => atKey_put_same hD (sl_key nm) _ z, h2, h3, h4, h5, by injection hf' with hf'; rw [h6, hf']⟩
    · have e2 : sl s ≠ sl nm := fun e3 => e (sl_inj e3.symm)
      have hl' : left (sl s) = false := by
        have h7 : (left (sl s) && !(sl s).sameKey (sl nm)) = false := hl
        rw [Maps.sameKey_ne e2] at h7
        simpa using h7
      obtain ⟨A2, xs2, c2, k1, k2, k3, k4, k5, k6⟩ := h.val s d' hf' hl'
      exact ⟨A2, xs2, c2, fun z => by rw [atKey_put_other e2]; exact k1 z, k2, k3, k4, k5, k6⟩
theorem PTies.done {w : World} {Z : Nat → Prop} {D : DataW Value} {l : Obs} {left : Lit → Bool} (h : PTies w Z D l left) (hl : ∀ kl, left kl = false) : Ties w Z D l :=
  ⟨fun s => by rw [h.has, hl]; simp, fun s d hf => h.val s d hf (hl _)⟩
/-- A copy in the making. -/
structure Copying (w wr : World) (g' m' r N cnt nOut : Nat) (st : FS) (D Dout : DataW Value) (left : Lit → Bool) : Prop where
  cell : ∃ A c, wr.heap[g']? = some (.cells #[.map (some m'), .slice A st.nx.length c, .int .i64 st.calls] 70 (0, 0)) ∧ st.nx.length ≤ c ∧ Lives wr (fun k => k = g' ∨ k = m' ∨ k = r ∨ k < w.heap.size) (Kd.int .i64) A st.nx
  own : wr.ownsMap Try.prog 9 rawR m' nOut Dout
  pt : PTies wr (fun k => k = g' ∨ k = m' ∨ k = r ∨ k < w.heap.size) Dout st.l left
  bel : Below w.heap.size w wr
  few : nOut + cnt ≤ N
  gn : w.heap.size ≤ g'
  mn : w.heap.size ≤ m'
  ne : g' ≠ m'
  glt : g' < wr.heap.size
  mlt : m' < wr.heap.size
  rlt : r < wr.heap.size
  rne : r ≠ g' ∧ r ≠ m'
  rn : w.heap.size ≤ r
theorem Copying.start {w W w0 W2 : World} {g' m' N : Nat} {st : FS} {S : Nat → Prop} {D : DataW Value} (h : Fresh w W g' m' st.nx st.calls) (ht : Ties W2 S D st.l) (hg : W.grownBy w0 none) (hs : w0.heap.size = W.heap.size + 1) (hN : Maps.size D ≤ N) : Copying w w0 g' m' W.heap.size N (Maps.size D) 0 st D (.map []) (Maps.has D) := by
  have hk : ∀ i, i < W.heap.size → w0.heap[i]? = W.heap[i]? := fun i hi => hg.block i hi (by simp)
  have hglt := h.glt
  have hmlt := h.mlt
  obtain ⟨A, c, h1, h2, h3⟩ := h.cell
  refine ⟨⟨A, c, (hk _ h.glt).trans h1, h2, ?_⟩, owns_block h.own (hk _ h.mlt), PTies.start ht, h.bel.grown hg h.bel.size (fun k hk => by cases hk), by omega, h.gn, h.mn, h.ne, by omega, by omega, by omega, ⟨by omega, by omega⟩, h.bel.size⟩
  refine Lives.move (h3 (fun k => k = g' ∨ k = m' ∨ k < w.heap.size) (fun k hk => hk)) ⟨hg.size, fun i hi _ => hk i hi⟩ (fun k hk => ?_)
  rcases hk with e | e | e | e
  · exact .inl (.inl e)
  · exact .inl (.inr (.inl e))
  · exact .inr (by omega)
  · exact .inl (.inr (.inr e))
/-- Other blocks of Z have turned, or new ones came. -/
theorem Copying.turned {w wr w2 : World} {g' m' r N cnt nOut : Nat} {st : FS} {D Dout : DataW Value} {left : Lit → Bool} (h : Copying w wr g' m' r N cnt nOut st D Dout left) {row : Option Nat} (hg : wr.grownBy w2 row) (hr : row = none ∨ row = some r) : Copying w w2 g' m' r N cnt nOut st D Dout left := by
  have hne : ∀ k, k ≠ r → some k ≠ row := by
    rintro k hk e
    rcases hr with e2 | e2
    · rw [e2] at e; cases e
    · rw [e2] at e; injection e with e; exact hk e
  have hk : Kept wr w2 (fun k => k = g' ∨ k = m' ∨ k = r ∨ k < w.heap.size) := ⟨hg.size, fun i hi hn => hg.block i hi (hne i (fun e => hn (.inr (.inr (.inl e)))))⟩
  obtain ⟨A, c, h1, h2, h3⟩ := h.cell
  have hsz := hg.size
  exact ⟨⟨A, c, (hg.block _ h.glt (hne _ (fun e => h.rne.1 e.symm))).trans h1, h2, h3.step hk⟩, owns_block h.own (hg.block _ h.mlt (hne _ (fun e => h.rne.2 e.symm))), h.pt.step hk, h.bel.grown hg h.bel.size (fun k e => by
    rcases hr with e2 | e2
    · rw [e2] at e; cases e
    · rw [e2] at e; injection e with e; have := h.rn; omega), h.few, h.gn, h.mn, h.ne, Nat.lt_of_lt_of_le h.glt hsz, Nat.lt_of_lt_of_le h.mlt hsz, Nat.lt_of_lt_of_le h.rlt hsz, h.rne, h.rn⟩
/-- An object has been copied. -/
theorem Copying.put {w wr w2 : World} {g' m' r N cnt cnt2 nOut : Nat} {st : FS} {D Dout : DataW Value} {left : Lit → Bool} (h : Copying w wr g' m' r N cnt nOut st D Dout left) (hc : cnt2 < cnt) {nm d : ByteArray} (hf : findO st.l nm = some d) {A : Option Addr} {xs : List Int} {c : Nat} (h2 : xs.length ≤ c) (h3 : xs.length ≤ 1048576) (h4 : Bts xs) (h5 : Lives wr (fun k => k = g' ∨ k = m' ∨ k = r ∨ k < w.heap.size) (Kd.int .u8) A xs) (h6 : strOfNums xs = d)
    (ho : w2.ownsMap Try.prog 9 rawR m' (nOut + 1) (Dout.put (sl nm) (.held (.slice A xs.length c)))) (ht : wr.mapTurned w2 m') :
    Copying w w2 g' m' r N cnt2 (nOut + 1) st D (Dout.put (sl nm) (.held (.slice A xs.length c))) (fun z => left z && !z.sameKey (sl nm)) := by
  have hst := Stp.of_turn ht
  have hk : Kept wr w2 (fun k => k = g' ∨ k = m' ∨ k = r ∨ k < w.heap.size) := hst.kept.mono (fun k e => .inr (.inl e))
  obtain ⟨A1, c1, k1, k2, k3⟩ := h.cell
  have hsz := hk.1
  have hf2 := h.few
  exact ⟨⟨A1, c1, (hst.kept.2 _ h.glt h.ne).trans k1, k2, k3.step hk⟩, ho, (h.pt.put h.own.isMap hf h2 h3 h4 h5 h6).step hk, h.bel.grown ht.grown h.bel.size (fun k e => by injection e with e; have := h.mn; omega), by omega, h.gn, h.mn, h.ne, Nat.lt_of_lt_of_le h.glt hsz, Nat.lt_of_lt_of_le h.mlt hsz, Nat.lt_of_lt_of_le h.rlt hsz, h.rne, h.rn⟩
theorem Copying.done {w wr : World} {g' m' r N cnt nOut : Nat} {st : FS} {D Dout : DataW Value} {left : Lit → Bool} (h : Copying w wr g' m' r N cnt nOut st D Dout left) (hris : Rising st.l) (hl : ∀ kl, left kl = false) (S2 : Nat → Prop) (hS : ∀ k, S2 k → k = g' ∨ k = m' ∨ k < w.heap.size) (hg : S2 g') (hm : S2 m') : FarP wr S2 g' m' N st := by
  have hF : FarP wr (fun k => k = g' ∨ k = m' ∨ k = r ∨ k < w.heap.size) g' m' N st := by
    have hf := h.few
    refine ⟨fun k hk => ?_, .inl rfl, .inr (.inl rfl), h.cell, ⟨Dout, h.own.mono (by omega), h.pt.done hl⟩, hris⟩
    have := h.bel.size
    have h1 := h.glt
    have h2 := h.mlt
    have h3 := h.rlt
    rcases hk with e | e | e | e <;> omega
  refine hF.narrow (fun k hk => ?_) hg hm
  rcases hS k hk with e | e | e
  · exact .inl e
  · exact .inr (.inl e)
  · exact .inr (.inr (.inr e))
theorem keep_turn2 {w w' : World} {m' n : Nat} {D : DataW Value} (h : Aside0 (w.ownsMap Try.prog 9 rawR m' n D)) (ht : w.mapTurned w' m') {p : Addr} {v : Value} (hc : w.cell? p = some v) : w'.cell? p = some v := by
  have hne : p.block ≠ m' := by
    rintro rfl
    obtain ⟨es, clock, hb, _⟩ := h.out
    simp [World.cell?, hb] at hc
  exact (Stp.of_turn ht).cell hc hne
set_option maxRecDepth 100000 in
set_option maxHeartbeats 1000000 in
theorem copy_calls (h : FarP w S g m N st) (hN : N ≤ 1000000) (hx : st.nx.length ≤ 1048576) :
    Calls Try.prog 26 #[.pointer (some ⟨g, 0, none⟩)] w fun e w' => ∃ g' m', e = .returned (.pointer (some ⟨g', 0, none⟩)) ∧ w.heap.size ≤ g' ∧ w.heap.size ≤ m' ∧ (∀ S2 : Nat → Prop, (∀ k, S2 k → k = g' ∨ k = m' ∨ k < w.heap.size) → S2 g' → S2 m' → FarP w' S2 g' m' N st) ∧ Below w.heap.size w w' := by
  have HS := Aside0.mk h
  obtain ⟨A0, c0, hb, hc0, hl⟩ := h.cell
  have c1 : w.cell? ⟨g, 0, none⟩ = some (.map (some m)) := blk_cell hb 0
  have c2 : w.cell? ⟨g, 1, none⟩ = some (.slice A0 st.nx.length c0) := blk_cell hb 1
  have c3 : w.cell? ⟨g, 2, none⟩ = some (.int .i64 st.calls) := blk_cell hb 2
  have HL := Aside0.mk hl
  clear hb hl h
  have hmm := @run_makeMap Try.prog
  go_enter Try.func26, Try.ntmps26
  go_wp2_with fail
  have d2 : (w.alloc (.map #[] 0)).drew.cell? ⟨g, 1, none⟩ = some (.slice A0 st.nx.length c0) := keep_cell (((Below.refl _ w).alloc (Nat.le_refl _) _).drew) c2
  have d3 : (w.alloc (.map #[] 0)).drew.cell? ⟨g, 2, none⟩ = some (.int .i64 st.calls) := keep_cell (((Below.refl _ w).alloc (Nat.le_refl _) _).drew) c3
  go_region_held3 (fun w' => w'.cell? ⟨g, 1, none⟩ = some (.slice A0 st.nx.length c0) ∧ w'.cell? ⟨g, 2, none⟩ = some (.int .i64 st.calls))
    (first | exact ⟨c2, c3⟩ | exact ⟨d2, d3⟩ | exact ⟨keep_cell hbel d2, keep_cell hbel d3⟩ | exact ⟨keep_cell hbel (W := w.drew) c2, keep_cell hbel (W := w.drew) c3⟩ | go_keep)
    (first | (go_at_call 41; (with_reducible refine (cloneI_calls A0 c0 st.nx w.drew (Kd.C_below HL.out.now (Below.refl _ w).drew) hx).mono ?_); rintro _ w1 ⟨v1, rfl, hv1, hbel⟩; have HV := Aside0.mk hv1; clear hv1; obtain ⟨A1, c1', hA1⟩ := Kd.R_slice HV.out; subst hA1) | (go_at_call 41; (with_reducible refine (cloneI_calls A0 c0 st.nx _ (Kd.C_below HL.out.now (((Below.refl _ w).alloc (Nat.le_refl _) _).drew)) hx).mono ?_); rintro _ w1 ⟨v1, rfl, hv1, hbel⟩; have HV := Aside0.mk hv1; clear hv1; obtain ⟨A1, c1', hA1⟩ := Kd.R_slice HV.out; subst hA1))
  all_goals first
    | (obtain ⟨m', hm⟩ : ∃ m', w.heap.size = m' := ⟨_, rfl⟩
       obtain ⟨g', hg⟩ : ∃ g', w1.heap.size = g' := ⟨_, rfl⟩
       obtain ⟨W, hW⟩ : ∃ W, w1.alloc (.cells #[.map (some w.heap.size), .slice A1 st.nx.length c1', .int .i64 st.calls] 70) = W := ⟨_, rfl⟩
       have HF : Aside0 (Fresh w W g' m' st.nx st.calls) := ⟨by rw [← hW, ← hg, ← hm]; exact fresh1 hbel HV.out⟩
       rw [hW, hg, hm]
       clear hW hg hm HV hbel)
    | (obtain ⟨m', hm⟩ : ∃ m', w1.heap.size = m' := ⟨_, rfl⟩
       obtain ⟨g', hg⟩ : ∃ g', w1.heap.size + 1 = g' := ⟨_, rfl⟩
       obtain ⟨W, hW⟩ : ∃ W, (w1.alloc (.map #[] 0)).alloc (.cells #[.map (some w1.heap.size), .slice A1 st.nx.length c1', .int .i64 st.calls] 70) = W := ⟨_, rfl⟩
       have HF : Aside0 (Fresh w W g' m' st.nx st.calls) := ⟨by rw [← hW, ← hg, ← hm]; exact fresh2 hbel HV.out⟩
       rw [hW, hg, hm]
       clear hW hg hm HV hbel)
  all_goals
    have c1W : W.cell? ⟨g, 0, none⟩ = some (.map (some m)) := keep_cell HF.out.bel c1
    obtain ⟨D, ho0, ht⟩ := HS.out.map
    have HT := Aside0.mk ht
    have HR := Aside0.mk HS.out.ris
    have hmW' : m < w.heap.size := HS.out.lt.2
    have ho := owns_block ho0 (HF.out.bel.block m hmW')
    have hsD : Maps.size D ≤ N := ho.size_le
    clear c1 c2 c3 d2 d3 ht ho0 hmm
    go_wp2_with (at_range; refine wpList_range_own _ rfl _ 68 rfl 9 22 law Try.underlying68 _ m N D rfl ho ?_; intro w0 hrg0 hg0 hs0; have HC := Aside0.mk (Copying.start HF.out HT.out hg0 hs0 hsD); clear hs0)
    go_frame
    go_loopw [4] (fun _ wr => ∃ (left : Lit → Bool) (cnt nOut : Nat) (Dout : DataW Value), wr.ranges Try.prog 9 rawR m W.heap.size N D left cnt ∧ Copying w wr g' m' W.heap.size N cnt nOut st D Dout left)
      (fun _ wr => wr.rangeLeft m W.heap.size)
    case atStart => exact ⟨_, _, _, _, hrg0, HC.out⟩
    case round =>
      obtain ⟨left, cnt, nOut, Dout, hrg, hcp⟩ := hrel
      have HCP := Aside0.mk hcp
      clear hcp
      go_wp2_with (at_next; refine wpList_next_ranges _ rfl _ rfl 9 law rawR encStr id invStr invRaw m W.heap.size N _ _ _ rfl hrg ?_ ?_)
      · intro hc0 hl0
        have HL0 := Aside0.mk hl0
        clear hl0 hrg
        go_wp2
        go_ret
        exact ⟨g', m', rfl, HCP.out.gn, HCP.out.mn, fun S2 h1 h2 h3 => HCP.out.done HR.out HL0.out S2 h1 h2 h3, HCP.out.bel⟩
      · intro x c kl yd yp w2 cnt2 hkey hlk hv hat hrg2 hlt hg2 hs2 hen
        obtain ⟨x', ex, rfl, hxl⟩ := Maps.keyOf_str Try.underlying9 hkey
        obtain rfl : x = x' := encStr_inj ex
        obtain ⟨nm, rfl⟩ : ∃ nm : ByteArray, x = nm.data.toList := ⟨⟨x.toArray⟩, by simp⟩
        have hmk : encStr nm.data.toList = Value.string nm := by simp [encStr]
        rw [hmk] at hen ⊢
        have hns : nm.size ≤ maxLen := by rw [data_length] at hxl; exact hxl
        have hhas := HT.out.has nm
        rw [Maps.has_true_of_atKey hat] at hhas
        obtain ⟨d, hd⟩ := Option.isSome_iff_exists.1 hhas.symm
        obtain ⟨A2, xs, c2, k1, k2, k3, k4, k5, k6⟩ := HT.out.val nm d hd
        have hyd : yd = .held c := by
          have h1 : some (DataW.held c, ([] : List MemPlace)) = some (yd, yp) := hv
          injection h1 with h1
          injection h1 with h1 _
          exact h1.symm
        have hc1 : DataW.held c = .held (.slice A2 xs.length c2) := by rw [← hyd, ← hat (.nil), ← k1 (.nil)]
        obtain rfl : c = .slice A2 xs.length c2 := DataW.held.inj hc1
        have HCP2 := Aside0.mk (HCP.out.turned hg2 (.inr rfl))
        have HX := Aside0.mk (Kd.C_below k5.now HCP2.out.bel)
        have HD := Aside0.mk hd
        have HS6 := Aside0.mk k6
        have HRG := Aside0.mk hrg2
        have hnO : nOut < maxLen := by have := HCP.out.few; unfold maxLen; omega
        obtain ⟨A9, c9, hb9, _, _⟩ := HCP2.out.cell
        have cg : w2.cell? ⟨g', 0, none⟩ = some (.map (some m')) := blk_cell hb9 0
        have hZ : ∀ k, (k = g' ∨ k = m' ∨ k = W.heap.size ∨ k < w.heap.size) → k < w2.heap.size := fun k hk => by
          have h1 := HCP2.out.glt
          have h2 := HCP2.out.mlt
          have h3 := HCP2.out.rlt
          have h4 := HCP2.out.bel.size
          rcases hk with e | e | e | e <;> omega
        have HZ := Aside0.mk hZ
        clear hs2 hkey hlk hv hat ex hxl hhas k1 k5 k6 hyd hc1 hd hrg2 hmk hb9 hZ
        go_wp2_with fail
        go_region_held3 (fun w' => w'.cell? ⟨g', 0, none⟩ = some (.map (some m'))) (first | exact cg | exact keep_cell (W := w2.drew) hbel cg | exact keep_turn2 HO hturn (keep_cell (W := w2.drew) hbel cg) | go_keep) (first | (go_at_call 40; (with_reducible refine (cloneB_calls A2 c2 xs w2.drew (Kd.C_below HX.out (Below.refl _ w2).drew) k3).mono ?_); rintro _ w3 ⟨v3, rfl, hv3, hbel⟩; obtain ⟨A3, c3', rfl, hc3, hl3⟩ := Lives.new hv3 HZ.out; have HL3 := Aside0.mk hl3; have HCP3 := Aside0.mk (HCP2.out.turned (grown_of_below (w := w2) (w1 := w3) ⟨hbel.os, hbel.tape, hbel.output, hbel.size, hbel.block⟩ none) (.inl rfl)); clear hl3 hv3; obtain ⟨w4, hrun, ho4, hturn⟩ := World.ownsMap.store HCP3.out.own law Try.underlying68 hnO (keyOf_string_mk Try.underlying9 hns) (val := .slice A3 xs.length c3') (d := .held (.slice A3 xs.length c3')) (ps := []) rfl; have HO := Aside0.mk HCP3.out.own; have HO4 := Aside0.mk ho4; clear ho4))
        have hgr1 : w2.grownBy w3 none := grown_of_below (w := w2) (w1 := w3) ⟨hbel.os, hbel.tape, hbel.output, hbel.size, hbel.block⟩ none
        have hmn : m < m' := by have := HCP2.out.mn; omega
        have hrm : W.heap.size ≠ m' := HCP2.out.rne.2
        have HRG3 := Aside0.mk (HRG.out.kept hgr1 (by simp) (by simp))
        have HRG4 := Aside0.mk (HRG3.out.kept hturn.grown (fun e => by injection e with e; omega) (fun e => by injection e with e; exact hrm e))
        have HCP4 := Aside0.mk (HCP3.out.put hlt HD.out hc3 k3 k4 HL3.out HS6.out HO4.out hturn)
        go_wp2_with fail
        go_roundw
        case rel => exact ⟨_, cnt2, nOut + 1, _, HRG4.out, HCP4.out⟩
        case measure => rw [HRG4.out.left_eq, hrg.left_eq]; exact hlt
end
end Go.Proofs.Ytbedfilammjlpaa.P
