/- trim.seen: which of one user's entries somebody sees: its contract by hand, in the print's form, out of contracts of its closure and of slices.IndexFunc at it. Condition: the list is not empty, and shorter than 2932031007402. -/
import Derived.Test.YtanlecnnfoapeaaHscope
import Derived.Test.YtanlecnnfoapeaaPx0
namespace Go.Proofs.Ytanlecnnfoapeaa.P
open Go.RowKit Go.Proofs.YtanlecnnfoapeaaW.PrintWords Go.Proofs.YtanlecnnfoapeaaW.PrintLast Go.Proofs.YtanlecnnfoapeaaW.PrintMore
set_option linter.unusedVariables false
def ev (x : S34) : Value := .agg #[.string x.f0.f0, .int .i64 x.f0.f1, .int .i64 x.f0.f2, .string x.f1]
theorem seen1_calls (x : S34) (s : Int) (b : Addr) (w : World) (hb : w.cell? b = some (.int .i64 s)) :
    Calls Try.prog 30 #[ev x, .pointer (some b)] w fun e w' => e = .returned (.bool (decide (x.f0.f1 ≤ s))) ∧ Below w.heap.size w w' := by
  have hu34 := Try.underlying34
  have hu32 := Try.underlying32
  have hlt := World.block_lt_of_cell? w _ hb
  unfold ev
  go_enter Try.func30, Try.ntmps30
  go_wp2
  go_ret
  exact ⟨rfl, (Below.refl _ _).alloc (Nat.le_refl _) _⟩
def firstLe (l : List S34) (s : Int) : Option Nat := l.findIdx? (fun e => decide (e.f0.f1 ≤ s))
def idxOf (o : Option Nat) : Int := match o with
  | some i => i
  | none => -1
theorem firstLe_at {l : List S34} {s : Int} {k : Nat} (hk : k < l.length) (hb : ∀ j, j < k → s < (rd_T34 l (j : Nat)).f0.f1) (h : (rd_T34 l (k : Nat)).f0.f1 ≤ s) : firstLe l s = some k := by
  unfold firstLe
  rw [List.findIdx?_eq_some_iff_getElem]
  have e : ∀ j (hj : j < l.length), rd_T34 l (j : Nat) = l[j] := fun j hj => by simp [rd_T34, List.getD_eq_getElem?_getD, hj]
  refine ⟨hk, by rw [e k hk] at h; simpa using h, fun j hj => ?_⟩
  have := hb j hj
  rw [e j (by omega)] at this
  simpa using this
theorem firstLe_none {l : List S34} {s : Int} (hb : ∀ j, j < l.length → s < (rd_T34 l (j : Nat)).f0.f1) : firstLe l s = none := by
  unfold firstLe
  rw [List.findIdx?_eq_none_iff]
  intro x hx
  obtain ⟨j, hj, rfl⟩ := List.getElem_of_mem hx
  have := hb j hj
  have e : rd_T34 l (j : Nat) = l[j] := by simp [rd_T34, List.getD_eq_getElem?_getD, hj]
  rw [e] at this
  simpa using this
theorem ret_int {k : IntKind} {a b : Int} (h : a = b) : Ending.returned (.int k a) = .returned (.int k b) := by rw [h]
set_option maxHeartbeats 400000 in
theorem index_calls (A0 : Option Addr) (c0 : Nat) (l0 : List S34) (s : Int) (b : Addr) (w : World) (hr0 : Kd.C k34 w A0 l0.length l0) (hb : w.cell? b = some (.int .i64 s)) :
    Calls Try.prog 29 #[.slice A0 l0.length c0, .func (.func 30) #[] #[.pointer (some b)]] w fun e w' => e = .returned (.int .i64 (idxOf (firstLe l0 s))) ∧ Below w.heap.size w w' := by
  have hlt := World.block_lt_of_cell? w _ hb
  have hm : l0.length ≤ 9223372036854775807 := hr0.2.1
  have HR0 := Aside0.mk hr0
  have HB := Aside0.mk hb
  clear hr0 hb
  go_enter Try.func29, Try.ntmps29
  go_wp2
  go_loopw [8] (fun i wr => ∃ k : Nat, k ≤ l0.length ∧ i = .int .i64 k ∧ Aside0 (∀ j, j < k → s < (rd_T34 l0 (j : Nat)).f0.f1) ∧ Aside0 (Below w.heap.size w wr)) (fun i _ => l0.length - (intOf i).toNat)
  case atStart => exact ⟨0, Nat.zero_le _, rfl, ⟨fun j hj => by omega⟩, ⟨Below.refl _ _⟩⟩
  case round =>
    obtain ⟨k, hk, rfl, HN, HW⟩ := hrel
    by_cases hlt : k < l0.length
    · obtain ⟨ad, rfl, h0, h1, h2, h3⟩ := at_T34 (Kd.C_below HR0.out HW.out) (k : Int) (by omega) (by omega)
      simp only [Int.toNat_natCast] at h0 h1 h2 h3
      have hb : wr.cell? b = some (.int .i64 s) := (HW.out.cell (by assumption)).trans HB.out
      go_wp2_with (go_at_call 30; refine (seen1_calls (rd_T34 l0 (k : Int)) s b _ (by assumption)).mono ?_; rintro e w' ⟨rfl, hw⟩)
      · go_ret
        have hle : (rd_T34 l0 (k : Int)).f0.f1 ≤ s := by assumption
        exact ⟨ret_int (by rw [firstLe_at hlt HN.out hle]; rfl), HW.out.trans (hw.mono HW.out.size)⟩
      · go_roundw
        have hgt : s < (rd_T34 l0 (k : Int)).f0.f1 := by assumption
        case rel => exact ⟨k + 1, by omega, by go_num, ⟨fun j hj => by
          rcases Nat.lt_or_ge j k with h | h
          · exact HN.out j h
          · obtain rfl : j = k := by omega
            omega⟩, ⟨HW.out.trans (hw.mono HW.out.size)⟩⟩
        case measure => simp [intOf]; omega
    · obtain rfl : k = l0.length := by omega
      go_wp2
      go_ret
      exact ⟨ret_int (by rw [firstLe_none HN.out]; rfl), HW.out⟩
theorem R_head {α : Type} {d : Kd α} {e : Nat} {w : World} {base : Nat} {ok : Nat → Prop} {v : Value} {xs : List α} (h : d.R e w base ok v xs) (hn : 0 < xs.length) : ∃ g cap, v = .slice (some ⟨g, 0, none⟩) xs.length cap ∧ base ≤ g := by
  obtain ⟨_, inner, ho, _⟩ := h
  rcases ho.2 with ⟨_, h2⟩ | ⟨g, cap, cur, hv, hg, _⟩
  · omega
  · exact ⟨g, cap, hv, hg⟩
theorem index_some (A0 : Option Addr) (c0 : Nat) (l0 : List S34) (s : Int) (b : Addr) (w : World) (i : Nat) (hi : firstLe l0 s = some i) (hr0 : Kd.C k34 w A0 l0.length l0) (hb : w.cell? b = some (.int .i64 s)) :
    Calls Try.prog 29 #[.slice A0 l0.length c0, .func (.func 30) #[] #[.pointer (some b)]] w fun e w' => e = .returned (.int .i64 (i : Int)) ∧ Below w.heap.size w w' := by
  have := index_calls A0 c0 l0 s b w hr0 hb
  rw [hi] at this
  exact this
theorem index_none (A0 : Option Addr) (c0 : Nat) (l0 : List S34) (s : Int) (b : Addr) (w : World) (hi : firstLe l0 s = none) (hr0 : Kd.C k34 w A0 l0.length l0) (hb : w.cell? b = some (.int .i64 s)) :
    Calls Try.prog 29 #[.slice A0 l0.length c0, .func (.func 30) #[] #[.pointer (some b)]] w fun e w' => e = .returned (.int .i64 (-1)) ∧ Below w.heap.size w w' := by
  have := index_calls A0 c0 l0 s b w hr0 hb
  rw [hi] at this
  exact this
def markOne (l : List S34) (k : List Bool) (s : Int) : List Bool := match firstLe l s with
  | some i => k.set i true
  | none => k
def marks (l : List S34) (snaps : List Int) : List Bool := snaps.foldl (markOne l) ((List.replicate l.length false).set 0 true)
theorem markOne_length (l : List S34) (k : List Bool) (s : Int) : (markOne l k s).length = k.length := by
  unfold markOne
  split <;> simp
theorem marks_length (l : List S34) (snaps : List Int) : (marks l snaps).length = l.length := by
  unfold marks
  suffices ∀ (k : List Bool), (snaps.foldl (markOne l) k).length = k.length by rw [this]; simp
  induction snaps with
  | nil => intro k; rfl
  | cons s r ih => intro k; rw [List.foldl_cons, ih, markOne_length]
theorem firstLe_lt {l : List S34} {s : Int} {i : Nat} (h : firstLe l s = some i) : i < l.length := by
  unfold firstLe at h
  rw [List.findIdx?_eq_some_iff_getElem] at h
  exact h.1
theorem marks_snoc (l : List S34) (snaps : List Int) (s : Int) : marks l (snaps ++ [s]) = markOne l (marks l snaps) s := by
  simp [marks]
def pick : List S34 → List Bool → List S34
  | e :: l, b :: k => if b then e :: pick l k else pick l k
  | _, _ => []
theorem take_rd (l : List Int) (k : Nat) (h : k < l.length) : l.take (k + 1) = l.take k ++ [rd l (k : Nat)] := by
  rw [List.take_succ_eq_append_getElem h]
  simp [rd, List.getD_eq_getElem?_getD, h]
theorem pick_append (a b : List S34) (x y : List Bool) (h : a.length = x.length) : pick (a ++ b) (x ++ y) = pick a x ++ pick b y := by
  induction a generalizing x with
  | nil =>
    cases x with
    | nil => simp [pick]
    | cons c x => simp at h
  | cons e a ih =>
    cases x with
    | nil => simp at h
    | cons c x =>
      simp only [List.length_cons, Nat.add_right_cancel_iff] at h
      cases c <;> simp [pick, ih x h]
theorem pick_snoc (l : List S34) (ks : List Bool) (k : Nat) (h : k < l.length) (hk : ks.length = l.length) : pick (l.take (k + 1)) (ks.take (k + 1)) = pick (l.take k) (ks.take k) ++ (if ks.getD k false then [rd_T34 l (k : Nat)] else []) := by
  have h2 : k < ks.length := by omega
  rw [List.take_succ_eq_append_getElem h, List.take_succ_eq_append_getElem h2, pick_append _ _ _ _ (by simp [hk])]
  congr 1
  have e1 : rd_T34 l (k : Nat) = l[k] := by simp [rd_T34, List.getD_eq_getElem?_getD, h]
  have e2 : ks.getD k false = ks[k] := by simp [List.getD_eq_getElem?_getD, h2]
  rw [e1, e2]
  cases ks[k] <;> simp [pick]
theorem pick_length (l : List S34) (ks : List Bool) : (pick l ks).length ≤ l.length := by
  induction l generalizing ks with
  | nil => cases ks <;> simp [pick]
  | cons e l ih =>
    cases ks with
    | nil => simp [pick]
    | cons b ks =>
      have := ih ks
      cases b <;> simp [pick] <;> omega
theorem Rb_only {W : World} {e base g n cap : Nat} {ok : Nat → Prop} {xs : List Bool} (h : Kd.bool.R e W base ok (.slice (some ⟨g, 0, none⟩) n cap) xs) : Kd.bool.R e W base (fun b => b = g) (.slice (some ⟨g, 0, none⟩) n cap) xs :=
  ⟨fun k hk => by simpa [Value.ownBlock] using hk.symm, h.2⟩
def trim_seen.f (l0 : List S34) (l1 : List Int) : Option (List S34) := if 0 < l0.length ∧ l0.length < 2932031007402 then some (pick l0 (marks l0 l1)) else none
theorem Rb_cell {W : World} {e base g n cap : Nat} {ok : Nat → Prop} {xs : List Bool} (h : Kd.bool.R e W base ok (.slice (some ⟨g, 0, none⟩) n cap) xs) (i : Nat) (hi : i < xs.length) : W.cell? ⟨g, i, none⟩ = some (.bool (xs.getD i false)) ∧ W.frozen? ⟨g, i, none⟩ = false := by
  obtain rfl : n = xs.length := (Kd.R_reads' h).1
  have := Kd.R_cell (enc := Value.bool) (h1 := fun _ => rfl) false h (i : Int) (by omega) (by omega)
  simpa [rdOf] using this
theorem Rb_put {W : World} {e base g n cap : Nat} {ok : Nat → Prop} {xs : List Bool} (h : Kd.bool.R e W base ok (.slice (some ⟨g, 0, none⟩) n cap) xs) (i : Nat) (x : Bool) : Kd.bool.R e (W.setCell ⟨g, i, none⟩ (.bool x)) base ok (.slice (some ⟨g, 0, none⟩) n cap) (xs.set i x) := by
  have := Kd.R_putn (enc := Value.bool) (h1 := fun _ => rfl) h (i : Int) x
  rw [Int.toNat_natCast] at this
  exact this
theorem info4 : (Try.prog.info? 4).map (fun i => (i.zero, i.size, i.bytes)) = some (some (.bool false), 1, 1) := by kernel_rfl
set_option maxHeartbeats 800000 in
theorem trim_seen.calls (A0 : Option Addr) (c0 : Nat) (l0 : List S34) (A1 : Option Addr) (c1 : Nat) (l1 : List Int) (r : List S34) (w : World) (hr0 : Kd.C k34 w A0 l0.length l0) (hc0 : l0.length ≤ c0) (hr1 : Kd.C (Kd.int .i64) w A1 l1.length l1) (hc1 : l1.length ≤ c1) (h : trim_seen.f l0 l1 = some r) :
    Calls Try.prog 23 #[.slice A0 l0.length c0, .slice A1 l1.length c1] w fun e w' => ∃ v0_ : Value, e = .returned (v0_) ∧ Kd.R k34 34 w' w.heap.size (fun _ => True) v0_ r ∧ Below w.heap.size w w' := by
  unfold trim_seen.f at h
  split at h
  case isFalse => cases h
  case isTrue hn =>
  obtain ⟨hn0, hn1⟩ := hn
  injection h with h
  have hu34 := Try.underlying34
  have hu32 := Try.underlying32
  have hm0 : l0.length ≤ 9223372036854775807 := hr0.2.1
  have hm1 : l1.length ≤ 9223372036854775807 := hr1.2.1
  have HR0 := Aside0.mk hr0
  have HR1 := Aside0.mk hr1
  have H := Aside0.mk h
  have HK0 := Aside0.mk hn0
  clear hr0 hr1 h
  go_enter Try.func23, Try.ntmps23
  go_wp2_with ((with_reducible refine gate_dst (N := 14) rfl ?_); go_loud (refine Kd.R_make Kd.bool (w0 := w) w.heap.size 4 rfl (N := 14) rfl 58 _ _ rfl (l0.length : Int) rfl rfl Try.underlying58 (.bool false) 1 info4 rfl (by decide) (by omega) false (ok := fun _ => True) (okp := fun _ => True) rfl (fun _ hk => hk) trivial (by omega) (by simp; omega) (Below.refl _ _) (Nat.le_refl _) ?_; intro v1 w1 hv1 hb1 hg1 hnew1; clear hg1 hnew1; obtain ⟨g, cap, rfl, hg⟩ := R_head hv1 (by simpa using hn0); have HV := Aside0.mk hv1; have HB := Aside0.mk hb1; clear hv1 hb1; have hg' := Aside0.mk hg; clear hg; simp only [Int.toNat_natCast, List.length_replicate] at HV ⊢; have hcf0 := Rb_cell HV.out 0 (by simpa using hn0); have hcf1 := hcf0.1; have hcf2 := hcf0.2; clear hcf0))
  clear hcf1 hcf2
  have HV1 := Aside0.mk (Rb_put HV.out 0 true)
  have HB1 := Aside0.mk (HB.out.setCell (p := ⟨g, 0, none⟩) hg'.out (.bool true))
  clear HV HB
  generalize w1.setCell ⟨g, 0, none⟩ (.bool true) = w2 at HV1 HB1 ⊢
  go_loopw [19] (fun i wr => ∃ k : Nat, k ≤ l1.length ∧ i = .int .i64 k ∧ Aside0 (Kd.bool.R 4 wr w.heap.size (fun _ => True) (.slice (some ⟨g, 0, none⟩) l0.length cap) (marks l0 (l1.take k))) ∧ Aside0 (Below w.heap.size w wr)) (fun i _ => l1.length - (intOf i).toNat)
  case atStart => exact ⟨0, Nat.zero_le _, rfl, by simpa [marks] using HV1, HB1⟩
  case round =>
    obtain ⟨k, hk, rfl, HV, HW⟩ := hrel
    clear HV1 HB1
    by_cases hlt : k < l1.length
    · obtain ⟨ad, rfl, h0⟩ := Kd.at_int (Kd.C_below HR1.out HW.out) (k : Int) (by omega) (by omega)
      simp only [Int.toNat_natCast] at h0
      have hmf : ∀ (fn : Fn) (first cap : Array Value) (w : World), (Instr.makeFunc fn first cap).run Try.prog w = .ok (.func fn first cap) w := fun _ _ _ _ => rfl
      have HM := Aside0.mk (marks_snoc l0 (l1.take k) (rd l1 (k : Int)))
      rw [← take_rd l1 k hlt] at HM
      have HC0 := Aside0.mk (Kd.C_below HR0.out HW.out)
      rcases hfl : firstLe l0 (rd l1 (k : Int)) with _ | i
      · have HF := Aside0.mk hfl
        clear hfl
        go_wp2_with (go_at_call 29; refine (index_none _ _ l0 _ _ _ HF.out (by exact Kd.C_alloc HC0.out _) (by go_simp)).mono ?_; rintro e w3 ⟨rfl, hw⟩)
        go_roundw
        case rel => exact ⟨k + 1, by omega, by go_num, ⟨by rw [HM.out]; unfold markOne; rw [HF.out]; exact Kd.R_below (Kd.R_alloc HV.out _) hw⟩, ⟨(HW.out.alloc HW.out.size _).trans (hw.mono (by have := HW.out.size; simp; omega))⟩⟩
        case measure => simp [intOf]; omega
      · have HF := Aside0.mk hfl
        have hil := firstLe_lt hfl
        clear hfl
        go_wp2_with (go_at_call 29; refine (index_some _ _ l0 _ _ _ i HF.out (by exact Kd.C_alloc HC0.out _) (by go_simp)).mono ?_; rintro e w3 ⟨rfl, hw⟩; have HV3 := Aside0.mk (Kd.R_below (Kd.R_alloc HV.out _) hw); have HW3 := Aside0.mk ((HW.out.alloc HW.out.size _).trans (hw.mono (by have := HW.out.size; simp; omega))); clear hw; have hcf0 := Rb_cell HV3.out i (by rw [marks_length]; exact hil); have hcf1 := hcf0.1; have hcf2 := hcf0.2; clear hcf0)
        go_roundw
        case rel => exact ⟨k + 1, by omega, by go_num, ⟨by rw [HM.out]; unfold markOne; rw [HF.out]; exact Rb_put HV3.out i true⟩, ⟨HW3.out.setCell (p := ⟨g, i, none⟩) hg'.out _⟩⟩
        case measure => simp [intOf]; omega
    · obtain rfl : k = l1.length := by omega
      rw [List.take_length] at HV
      have HP := Aside0.mk hc0
      clear hc0
      go_wp2
      replace HV := Aside0.mk (Rb_only HV.out)
      go_loopw [9, 34] (fun v i wr => ∃ k : Nat, k ≤ l0.length ∧ i = .int .i64 k ∧ Aside0 (Kd.R k34 34 wr w.heap.size (fun b => b ≠ g) v (pick (l0.take k) ((marks l0 l1).take k))) ∧ Aside0 (Kd.bool.R 4 wr w.heap.size (fun b => b = g) (.slice (some ⟨g, 0, none⟩) l0.length cap) (marks l0 l1)) ∧ Aside0 (Below w.heap.size w wr)) (fun _ i _ => l0.length - (intOf i).toNat)
      case atStart => exact ⟨0, Nat.zero_le _, rfl, ⟨by simp only [List.take_zero, pick]; exact Kd.R_nil _ _ _ _ _⟩, HV, HW⟩
      case round =>
        obtain ⟨k, hk, rfl, HO, HV, HW⟩ := hrel
        by_cases hlt : k < l0.length
        · have HC0 := Aside0.mk (Kd.C_below HR0.out HW.out)
          obtain ⟨ad, rfl, h0, h1, h2, h3⟩ := at_T34 HC0.out (k : Int) (by omega) (by omega)
          simp only [Int.toNat_natCast] at h0 h1 h2 h3
          have hcf0 := Rb_cell HV.out k (by rw [marks_length]; exact hlt)
          have hcf1 := hcf0.1
          have hcf2 := hcf0.2
          clear hcf0
          have hlg : g < wr.heap.size := World.block_lt_of_cell? wr (a := ⟨g, k, none⟩) hcf1
          have HS := Aside0.mk (pick_snoc l0 (marks l0 l1) k hlt (marks_length _ _))
          have HL := Aside0.mk (Nat.le_trans (pick_length (l0.take k) ((marks l0 l1).take k)) (List.length_take_le _ _))
          have HSZ := Aside0.mk HW.out.size
          cases hb : (marks l0 l1).getD k false
          · rw [hb] at hcf1 HS
            clear hb
            go_wp2
            go_roundw
            case rel => exact ⟨k + 1, by omega, by go_num, ⟨by rw [HS.out]; simp only [Bool.false_eq_true, if_false, List.append_nil]; exact Kd.R_alloc HO.out _⟩, ⟨Kd.R_alloc HV.out _⟩, ⟨HW.out.alloc HSZ.out _⟩⟩
            case measure => simp [intOf]; omega
          · rw [hb] at hcf1 HS
            clear hb
            go_wp2_with ((with_reducible refine gate_builtin (b := .append) (xs := #[.tmp 43, .tmp 45]) rfl ?_); at_builtin; refine Kd.R_append k34 (w0 := w) w.heap.size rfl (.tmp 43) (.tmp 45) 24 34 (.agg #[(.string ⟨#[]⟩), (.int .i64 0), (.int .i64 0), (.string ⟨#[]⟩)]) 48 rfl Try.underlying24 info34 rfl (by decide) (by omega) _ (pick (l0.take k) ((marks l0 l1).take k)) (rd_T34 l0 (k : Int)) _ (fun b => b ≠ g) (fun _ => False) rfl (by simp [Act.eval]) (k34_mkM _ _ _ _) (fun _ h => h.elim) (fun b hb => by simp at hb; omega) (Kd.R_alloc HO.out _) (HW.out.alloc HSZ.out _) (by have := HSZ.out; simp; omega) (by have := HL.out; omega) ?_; intro v1 w1 ho hb hg hat; have HO1 := Aside0.mk ho; have HB1 := Aside0.mk hb; have HV1 := Aside0.mk (Kd.R_grown (Kd.R_alloc HV.out _) hg (fun b hb he => by subst hb; exact HO.out.1 _ he.symm rfl)); clear ho hb hg hat)
            go_roundw
            case rel => exact ⟨k + 1, by omega, by go_num, ⟨by rw [HS.out]; simp only [if_true]; exact HO1.out⟩, HV1, HB1⟩
            case measure => simp [intOf]; omega
        · obtain rfl : k = l0.length := by omega
          have e1 : (marks l0 l1).take l0.length = marks l0 l1 := List.take_of_length_le (by rw [marks_length]; exact Nat.le_refl _)
          rw [e1, List.take_length, H.out] at HO
          clear e1
          go_wp2
          go_ret
          exact ⟨_, rfl, Kd.R_mono HO.out (fun _ _ => trivial), HW.out⟩
end Go.Proofs.Ytanlecnnfoapeaa.P
