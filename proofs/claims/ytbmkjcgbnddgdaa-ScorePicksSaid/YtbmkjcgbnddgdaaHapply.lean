/- Apply of an edit that drops nothing: whatever it tells, its tables are of the version or of the edit. -/
import Derived.Test.YtbmkjcgbnddgdaaHwith
namespace Go.Proofs.Ytbmkjcgbnddgdaa.P
open Go.RowKit Go.Proofs.YtbmkjcgbnddgdaaW.PrintWords Go.Proofs.YtbmkjcgbnddgdaaW.PrintLast Go.Proofs.YtbmkjcgbnddgdaaW.PrintMore
set_option linter.unusedVariables false
/-- A row that is read as long as of the old blocks only those of S are written. -/
def Lives {α : Type} (w : World) (S : Nat → Prop) (d : Kd α) (A : Option Addr) (xs : List α) : Prop := ∀ W', Kept w W' S → d.C W' A xs.length xs
section
variable {α : Type} {d : Kd α} {w W : World} {S S2 : Nat → Prop} {A : Option Addr} {xs : List α}
theorem Lives.now (h : Lives w S d A xs) : d.C w A xs.length xs := h w (Kept.refl w S)
theorem Lives.step (h : Lives w S d A xs) (hk : Kept w W S) : Lives W S d A xs := Kd.C_kept_step h hk
theorem Lives.below (h : Lives w S d A xs) (hb : Below w.heap.size w W) : Lives W S d A xs := h.step (Kept.of_below hb S)
theorem Lives.less (h : Lives w S d A xs) (hs : ∀ k, S2 k → S k ∨ w.heap.size ≤ k) : Lives w S2 d A xs := fun W' hk => h W' ((Kept.refl w S).then_ hk hs)
theorem Lives.nil (w : World) (S : Nat → Prop) (d : Kd α) : Lives w S d none ([] : List α) := fun W' _ => Kd.C_nil d W'
theorem Lives.new {e base : Nat} {v : Value} (h : d.R e w base (fun _ => True) v xs) (hS : ∀ k, S k → k < base) : ∃ A c, v = .slice A xs.length c ∧ xs.length ≤ c ∧ Lives w S d A xs := by
  obtain ⟨A, c, rfl⟩ := Kd.R_slice h
  have h2 := Kd.R_bound h
  exact ⟨A, c, rfl, (Kd.R_reads' h).2.1, Kd.C_kept_own h2 (fun k hk hs => by have := hS k hs; omega)⟩
theorem Lives.came {w0 : World} (hd : Kd.Heap d) (h : d.C w0 A xs.length xs) (hb : Below w0.heap.size w0 w) (hS : ∀ k, S k → w0.heap.size ≤ k) : Lives w S d A xs := Kd.C_kept_came hd h hb hS
end
/-- What Apply tells. -/
structure AppP (w : World) (xs ys : List S38) (e : Ending) (w' : World) : Prop where
  out : ∃ a b c d A k zs code, e = .returned (.tuple #[.agg #[.int .i64 a, .int .i64 b, .int .i64 c, .int .i64 d, .slice A zs.length k], .int .i64 code]) ∧ zs.length ≤ k ∧ (∀ S : Nat → Prop, (∀ k, S k → k < w.heap.size) → Lives w' S k38 A zs) ∧ (∀ z ∈ zs, z ∈ xs ∨ z ∈ ys) ∧ zs.length ≤ xs.length + ys.length
  bel : Below w.heap.size w w'
theorem AppP.none {w w' : World} {xs ys : List S38} (n : Int) (hb : Below w.heap.size w w') : AppP w xs ys (.returned (.tuple #[.agg #[.int .i64 0, .int .i64 0, .int .i64 0, .int .i64 0, .slice Option.none 0 0], .int .i64 n])) w' :=
  ⟨⟨0, 0, 0, 0, Option.none, 0, [], n, rfl, Nat.le_refl _, fun S _ => Lives.nil _ _ _, fun z hz => absurd hz (by simp), Nat.zero_le _⟩, hb⟩
theorem heap_at {w : World} {o : Obj} {k : Nat} (hk : k < w.heap.size) : (w.alloc o).heap[k]? = w.heap[k]? := by
  have hb : Below w.heap.size w (w.alloc o) := (Below.refl _ w).alloc (Nat.le_refl _) _
  exact hb.block k hk
theorem heap_new_at {w : World} {o : Obj} {n : Nat} (h : w.heap.size = n) : (w.alloc o).heap[n]? = some o := by rw [← h]; exact heap_alloc_new _ _
set_option maxRecDepth 100000 in
set_option maxHeartbeats 4000000 in
theorem apply_any (a b c d : Int) (A : Option Addr) (k : Nat) (xs : List S38) (e0 e1 e2 e3 : Int) (B : Option Addr) (kb : Nat) (ys : List S38) (w : World) (hr : Kd.C k38 w A xs.length xs) (hk : xs.length ≤ k) (hl : xs.length ≤ 100000) (hrb : Kd.C k38 w B ys.length ys) (hkb : ys.length ≤ kb) (hlb : ys.length ≤ 100000) :
    Calls Try.prog 27 #[verV a b c d A xs.length k, editV e0 e1 e2 e3 B ys.length kb] w (AppP w xs ys) := by
  have HR := Aside0.mk hr
  have HRB := Aside0.mk hrb
  clear hr hrb
  unfold verV editV
  go_enter Try.func27, Try.ntmps27
  go_upto_region 1 with fail
  generalize hw0 : ((w.alloc (.cells #[.int .i64 a, .int .i64 b, .int .i64 c, .int .i64 d, .slice A xs.length k] 34)).alloc (.cells #[.int .i64 e0, .int .i64 e1, .int .i64 e2, .int .i64 e3, .slice B ys.length kb, .slice none 0 0] 57)).alloc (.cells #[.int .i64 0, .int .i64 0, .int .i64 0, .int .i64 0, .slice none 0 0] 34) = w0
  have hb0 : Below w.heap.size w w0 := by rw [← hw0]; exact (((Below.refl _ w).alloc (Nat.le_refl _) _).alloc (by simp) _).alloc (by simp; omega) _
  have hp2 : w0.heap[w.heap.size]? = some (.cells #[.int .i64 a, .int .i64 b, .int .i64 c, .int .i64 d, .slice A xs.length k] 34 (0, 0)) := by
    rw [← hw0, heap_at (by simp; omega), heap_at (by simp)]; exact heap_new_at rfl
  have hp3 : w0.heap[w.heap.size + 1]? = some (.cells #[.int .i64 e0, .int .i64 e1, .int .i64 e2, .int .i64 e3, .slice B ys.length kb, .slice none 0 0] 57 (0, 0)) := by
    rw [← hw0, heap_at (by simp)]; exact heap_new_at (by simp)
  have hp4 : w0.heap[w.heap.size + 1 + 1]? = some (.cells #[.int .i64 0, .int .i64 0, .int .i64 0, .int .i64 0, .slice none 0 0] 34 (0, 0)) := by
    rw [← hw0]; exact heap_new_at (by simp)
  clear hw0
  have v0 : w0.cell? ⟨w.heap.size, 0, none⟩ = some (.int .i64 a) := (blk_cell hp2 0).trans rfl
  have v1 : w0.cell? ⟨w.heap.size, 1, none⟩ = some (.int .i64 b) := (blk_cell hp2 1).trans rfl
  have v2 : w0.cell? ⟨w.heap.size, 2, none⟩ = some (.int .i64 c) := (blk_cell hp2 2).trans rfl
  have v3 : w0.cell? ⟨w.heap.size, 3, none⟩ = some (.int .i64 d) := (blk_cell hp2 3).trans rfl
  have v4 : w0.cell? ⟨w.heap.size, 4, none⟩ = some (.slice A xs.length k) := (blk_cell hp2 4).trans rfl
  have u0 : w0.cell? ⟨w.heap.size + 1, 0, none⟩ = some (.int .i64 e0) := (blk_cell hp3 0).trans rfl
  have u1 : w0.cell? ⟨w.heap.size + 1, 1, none⟩ = some (.int .i64 e1) := (blk_cell hp3 1).trans rfl
  have u2 : w0.cell? ⟨w.heap.size + 1, 2, none⟩ = some (.int .i64 e2) := (blk_cell hp3 2).trans rfl
  have u3 : w0.cell? ⟨w.heap.size + 1, 3, none⟩ = some (.int .i64 e3) := (blk_cell hp3 3).trans rfl
  have u4 : w0.cell? ⟨w.heap.size + 1, 4, none⟩ = some (.slice B ys.length kb) := (blk_cell hp3 4).trans rfl
  have u5 : w0.cell? ⟨w.heap.size + 1, 5, none⟩ = some (.slice none 0 0) := (blk_cell hp3 5).trans rfl
  have hs0 : w.heap.size + 1 + 1 < w0.heap.size := World.block_lt_of_cell? w0 ⟨w.heap.size + 1 + 1, 0, none⟩ (blk_cell hp4 0)
  go_cut [12] (fun v12 wc => ∃ q : Bool, v12 = .bool q ∧ Aside0 (Below w0.heap.size w0 wc))
  case first =>
    go_wp2_with (first | (go_at_call 29; refine (may_any a b c d A k xs w0 (Kd.C_below HR.out hb0) hk).mono ?_; rintro _ wx ⟨⟨q, rfl⟩, hbx⟩; have HX := Aside0.mk hbx; have x0 := keep_cell hbx u0; have x1 := keep_cell hbx u1; have x2 := keep_cell hbx u2; have x3 := keep_cell hbx u3; have x4 := keep_cell hbx u4; have x5 := keep_cell hbx u5; clear hbx; cases q) | (go_at_call 30; refine (mayEdit_any e0 e1 e2 e3 B kb ys _ (Kd.C_below HRB.out (hb0.trans (HX.out.mono hb0.size))) hkb).mono ?_; rintro _ wy ⟨⟨q, rfl⟩, hby⟩; have HY : Aside0 (Below w0.heap.size w0 wy) := ⟨HX.out.trans (hby.mono HX.out.size)⟩; clear hby; clear HX; have HX := HY; clear HY; cases q))
    all_goals
      go_meet
      case rel => exact ⟨_, rfl, HX⟩
  case rest =>
    obtain ⟨q, rfl, HB⟩ := hcut
    have x0 := keep_cell HB.out v0
    have x1 := keep_cell HB.out v1
    have x2 := keep_cell HB.out v2
    have x3 := keep_cell HB.out v3
    have x4 := keep_cell HB.out v4
    have y0 := keep_cell HB.out u0
    have y1 := keep_cell HB.out u1
    have y2 := keep_cell HB.out u2
    have y3 := keep_cell HB.out u3
    have hz := (HB.out.block _ hs0).trans hp4
    have z0 : wc.cell? ⟨w.heap.size + 1 + 1, 0, none⟩ = some (.int .i64 0) := (blk_cell hz 0).trans rfl
    have f0 := blk_frozen hz 0
    have z1 : wc.cell? ⟨w.heap.size + 1 + 1, 1, none⟩ = some (.int .i64 0) := (blk_cell hz 1).trans rfl
    have f1 := blk_frozen hz 1
    have z2 : wc.cell? ⟨w.heap.size + 1 + 1, 2, none⟩ = some (.int .i64 0) := (blk_cell hz 2).trans rfl
    have f2 := blk_frozen hz 2
    have z3 : wc.cell? ⟨w.heap.size + 1 + 1, 3, none⟩ = some (.int .i64 0) := (blk_cell hz 3).trans rfl
    have f3 := blk_frozen hz 3
    have z4 : wc.cell? ⟨w.heap.size + 1 + 1, 4, none⟩ = some (.slice none 0 0) := (blk_cell hz 4).trans rfl
    have f4 := blk_frozen hz 4
    have HZ := Aside0.mk hz
    clear hz
    have hle : w.heap.size ≤ w.heap.size + 1 + 1 := by omega
    have HW : Aside0 (Below w.heap.size w wc) := ⟨hb0.trans (HB.out.mono hb0.size)⟩
    cases q with
    | true =>
      go_wp2_with fail
      refine bodyPost_ret (results_ct rfl _ _ (w.heap.size + 1 + 1) 34 #[.int .i64 0, .int .i64 0, .int .i64 0, .int .i64 0, .slice none 0 0] (0, 0) _ rfl (blk_put (blk_put (blk_put (blk_put (blk_put HZ.out 0 _ rfl) 1 _ rfl) 2 _ rfl) 3 _ rfl) 4 _ rfl) Try.underlying34 rfl (by kernel_rfl)) rfl ?_
      exact AppP.none _ (((((HW.out.setCell (p := ⟨(w.heap.size + 1 + 1), 0, none⟩) hle _).setCell (p := ⟨(w.heap.size + 1 + 1), 1, none⟩) hle _).setCell (p := ⟨(w.heap.size + 1 + 1), 2, none⟩) hle _).setCell (p := ⟨(w.heap.size + 1 + 1), 3, none⟩) hle _).setCell (p := ⟨(w.heap.size + 1 + 1), 4, none⟩) hle _)
    | false =>
      go_upto_region 3 with fail
      go_cut [22] (fun v22 wd => ∃ q : Bool, v22 = .bool q ∧ wc = wd)
      case first =>
        go_wp2_with fail
        all_goals
          go_meet
          case rel => exact ⟨_, rfl, rfl⟩
      case rest =>
        obtain ⟨q, rfl, rfl⟩ := hcut
        cases q with
        | true =>
          go_wp2_with fail
          refine bodyPost_ret (results_ct rfl _ _ (w.heap.size + 1 + 1) 34 #[.int .i64 0, .int .i64 0, .int .i64 0, .int .i64 0, .slice none 0 0] (0, 0) _ rfl (blk_put (blk_put (blk_put (blk_put (blk_put HZ.out 0 _ rfl) 1 _ rfl) 2 _ rfl) 3 _ rfl) 4 _ rfl) Try.underlying34 rfl (by kernel_rfl)) rfl ?_
          exact AppP.none _ (((((HW.out.setCell (p := ⟨(w.heap.size + 1 + 1), 0, none⟩) hle _).setCell (p := ⟨(w.heap.size + 1 + 1), 1, none⟩) hle _).setCell (p := ⟨(w.heap.size + 1 + 1), 2, none⟩) hle _).setCell (p := ⟨(w.heap.size + 1 + 1), 3, none⟩) hle _).setCell (p := ⟨(w.heap.size + 1 + 1), 4, none⟩) hle _)
        | false =>
          have hb1 : Below wc.heap.size wc (wc.alloc (.cells #[] 38)) := (Below.refl _ wc).alloc (Nat.le_refl _) _
          have x4' := keep_cell hb1 x4
          go_wp2_with (at_builtin; refine Kd.R_append_rows k38 (Rr := k38.K (wc.alloc (.cells #[] 38))) (w0 := wc) wc.heap.size rfl (.tmp 50) (.tmp 52) 32 38 zero38 80 rfl Try.underlying32 info38 rfl (by decide) (by omega) _ [] xs A _ k (fun _ => True) (fun _ => False) rfl rfl (R_empty k38 38 wc) (Kd.C_below HR.out (HW.out.trans (hb1.mono HW.out.size))) k38_remade (fun _ hk => hk.elim) (fun _ _ => trivial) hb1 hb1.size ?aL ?_; (case aL => simp only [List.length_nil]; omega); intro v1 w2 hR1 hb2 hg1 hat1; clear hg1 hat1; have HV1 := Aside0.mk hR1; have HB2 : Aside0 (Below w0.heap.size w0 w2) := ⟨HB.out.trans (hb2.mono HB.out.size)⟩; clear hR1 hb2)
          have hV1 := HV1.out
          rw [List.nil_append] at hV1
          obtain ⟨A6, c6, e6, hc6, hl6⟩ := Lives.new (S := fun k => k < w0.heap.size) hV1 (fun k hk => Nat.lt_of_lt_of_le hk HB.out.size)
          subst e6
          have HL6 : Aside0 (Lives w2 (fun k => k < w0.heap.size) k38 A6 xs) := ⟨hl6⟩
          have HC6 : Aside0 (xs.length ≤ c6) := ⟨hc6⟩
          have y5 := keep_cell HB2.out u5
          clear hl6 hc6 HV1 hV1 x0 x1 x2 x3 x4 x4' y0 y1 y2 y3 z0 z1 z2 z3 z4 f0 f1 f2 f3 f4 HZ hb1
          go_loopw [6, 7] (fun v6 i wr => v6 = .slice A6 xs.length c6 ∧ i = .int .i64 0 ∧ w2 = wr) (fun _ i _ => 0)
          case atStart => exact ⟨rfl, rfl, rfl⟩
          case round =>
            obtain ⟨rfl, rfl, rfl⟩ := hrel
            go_wp2_with fail
            clear y5
            go_loopw [6, 10] (fun v6 i wr => ∃ (j : Nat) (zs : List S38) (A6 : Option Addr) (c6 : Nat), j ≤ ys.length ∧ i = .int .i64 j ∧ v6 = .slice A6 zs.length c6 ∧ zs.length ≤ c6 ∧ zs.length ≤ xs.length + j ∧ Aside0 (Lives wr (fun k => k < w0.heap.size) k38 A6 zs) ∧ Aside0 (Below w0.heap.size w0 wr) ∧ Aside0 (∀ z ∈ zs, z ∈ xs ∨ z ∈ ys)) (fun _ i _ => ys.length - (intOf i).toNat)
            case atStart => exact ⟨0, xs, A6, c6, Nat.zero_le _, rfl, rfl, HC6.out, Nat.le_refl _, HL6, HB2, ⟨fun z hz => .inl hz⟩⟩
            case round =>
              clear HL6 HC6 HB2
              obtain ⟨j, zs, A7, c7, hj, rfl, rfl, hc7, hn7, HL7, HB7, HM7⟩ := hrel
              have HW7 : Aside0 (Below w.heap.size w wr) := ⟨hb0.trans (HB7.out.mono hb0.size)⟩
              have y4 := keep_cell HB7.out u4
              have hz := (HB7.out.block _ hs0).trans hp4
              have z0 : wr.cell? ⟨w.heap.size + 1 + 1, 0, none⟩ = some (.int .i64 0) := (blk_cell hz 0).trans rfl
              have f0 := blk_frozen hz 0
              have z1 : wr.cell? ⟨w.heap.size + 1 + 1, 1, none⟩ = some (.int .i64 0) := (blk_cell hz 1).trans rfl
              have f1 := blk_frozen hz 1
              have z2 : wr.cell? ⟨w.heap.size + 1 + 1, 2, none⟩ = some (.int .i64 0) := (blk_cell hz 2).trans rfl
              have f2 := blk_frozen hz 2
              have z3 : wr.cell? ⟨w.heap.size + 1 + 1, 3, none⟩ = some (.int .i64 0) := (blk_cell hz 3).trans rfl
              have f3 := blk_frozen hz 3
              have z4 : wr.cell? ⟨w.heap.size + 1 + 1, 4, none⟩ = some (.slice none 0 0) := (blk_cell hz 4).trans rfl
              have f4 := blk_frozen hz 4
              have HZ := Aside0.mk hz
              clear hz
              by_cases hlt : j < ys.length
              · obtain ⟨ad, t, e, et, h0, h1, h2, h3, h4, h5, h6, h7, h8⟩ := t38_at (Kd.C_below HRB.out HW7.out) j hlt
                subst e
                have HT : Aside0 (t ∈ ys) := ⟨by
                  rw [et]; unfold rd_T38
                  rw [List.getD_eq_getElem?_getD, Int.toNat_natCast, List.getElem?_eq_getElem hlt, Option.getD_some]
                  exact List.getElem_mem hlt⟩
                clear et
                go_wp2_with fail
                refine (place_any A7 c7 zs t.f0 wr HL7.out.now).mono ?_
                rintro _ _ ⟨⟨q, rfl⟩, rfl⟩
                by_cases hq : q ≥ 0
                · clear h0 h1 h2 h3 h4 h5 h6 h7 h8
                  go_wp2_with fail
                  refine bodyPost_ret (results_ct rfl _ _ (w.heap.size + 1 + 1) 34 #[.int .i64 0, .int .i64 0, .int .i64 0, .int .i64 0, .slice none 0 0] (0, 0) _ rfl (blk_put (blk_put (blk_put (blk_put (blk_put HZ.out 0 _ rfl) 1 _ rfl) 2 _ rfl) 3 _ rfl) 4 _ rfl) Try.underlying34 rfl (by kernel_rfl)) rfl ?_
                  exact AppP.none _ (((((HW7.out.setCell (p := ⟨(w.heap.size + 1 + 1), 0, none⟩) hle _).setCell (p := ⟨(w.heap.size + 1 + 1), 1, none⟩) hle _).setCell (p := ⟨(w.heap.size + 1 + 1), 2, none⟩) hle _).setCell (p := ⟨(w.heap.size + 1 + 1), 3, none⟩) hle _).setCell (p := ⟨(w.heap.size + 1 + 1), 4, none⟩) hle _)
                · go_wp2_with fail
                  refine (with_any A7 c7 zs t wr HL7.out.now hc7 (by omega)).mono ?_
                  rintro _ w8 ⟨v8, zs8, B8, rfl, hB8, hR8, hP8, hb8⟩
                  obtain ⟨A8, c8, e8, hc8, hl8⟩ := Lives.new (S := fun k => k < w0.heap.size) hR8 (fun k hk => Nat.lt_of_lt_of_le hk (Nat.le_trans HB7.out.size hB8))
                  subst e8
                  have HL8 := Aside0.mk hl8
                  have HP8 := Aside0.mk hP8
                  have HB8 : Aside0 (Below w0.heap.size w0 w8) := ⟨HB7.out.trans (hb8.mono HB7.out.size)⟩
                  have hn8 : zs8.length = zs.length + 1 := hP8.2
                  clear hl8 hP8 hR8 hb8 z0 z1 z2 z3 z4 f0 f1 f2 f3 f4 h0 h1 h2 h3 h4 h5 h6 h7 h8
                  go_wp2_with fail
                  go_roundw
                  case rel => exact ⟨j + 1, zs8, A8, c8, by omega, by go_num, (by rw [hn8]), hc8, by omega, HL8, HB8, ⟨fun z hz => (HP8.out.1 z hz).elim (fun h => HM7.out z h) (fun h => .inr (h ▸ HT.out))⟩⟩
                  case measure => simp [intOf]; omega
              · have y0 := keep_cell HB7.out u0
                have y1 := keep_cell HB7.out u1
                have y2 := keep_cell HB7.out u2
                have y3 := keep_cell HB7.out u3
                go_upto_region 21 with fail
                clear HZ z0 z1 z2 z3 z4 f0 f1 f2 f3 f4
                generalize hw9 : wr.alloc (.cells #[.int .i64 e0, .int .i64 e1, .int .i64 e2, .int .i64 e3, .slice A7 zs.length c7] 34) = w9
                have hb9 : Below wr.heap.size wr w9 := by rw [← hw9]; exact (Below.refl _ wr).alloc (Nat.le_refl _) _
                have q0 : w9.cell? ⟨wr.heap.size, 0, none⟩ = some (.int .i64 e0) := by rw [← hw9]; exact (blk_cell (heap_alloc_new _ _) 0).trans rfl
                have q1 : w9.cell? ⟨wr.heap.size, 1, none⟩ = some (.int .i64 e1) := by rw [← hw9]; exact (blk_cell (heap_alloc_new _ _) 1).trans rfl
                have q2 : w9.cell? ⟨wr.heap.size, 2, none⟩ = some (.int .i64 e2) := by rw [← hw9]; exact (blk_cell (heap_alloc_new _ _) 2).trans rfl
                have q3 : w9.cell? ⟨wr.heap.size, 3, none⟩ = some (.int .i64 e3) := by rw [← hw9]; exact (blk_cell (heap_alloc_new _ _) 3).trans rfl
                have q4 : w9.cell? ⟨wr.heap.size, 4, none⟩ = some (.slice A7 zs.length c7) := by rw [← hw9]; exact (blk_cell (heap_alloc_new _ _) 4).trans rfl
                have HB9 : Aside0 (Below w0.heap.size w0 w9) := ⟨HB7.out.trans (hb9.mono HB7.out.size)⟩
                have HW9 : Aside0 (Below w.heap.size w w9) := ⟨HW7.out.trans (hb9.mono HW7.out.size)⟩
                have HL9 := Aside0.mk (HL7.out.below hb9)
                clear hw9 hb9 y0 y1 y2 y3 y4
                by_cases hg : 256 < (zs.length : Int)
                · have hz := (HB9.out.block _ hs0).trans hp4
                  have z0 : w9.cell? ⟨w.heap.size + 1 + 1, 0, none⟩ = some (.int .i64 0) := (blk_cell hz 0).trans rfl
                  have f0 := blk_frozen hz 0
                  have z1 : w9.cell? ⟨w.heap.size + 1 + 1, 1, none⟩ = some (.int .i64 0) := (blk_cell hz 1).trans rfl
                  have f1 := blk_frozen hz 1
                  have z2 : w9.cell? ⟨w.heap.size + 1 + 1, 2, none⟩ = some (.int .i64 0) := (blk_cell hz 2).trans rfl
                  have f2 := blk_frozen hz 2
                  have z3 : w9.cell? ⟨w.heap.size + 1 + 1, 3, none⟩ = some (.int .i64 0) := (blk_cell hz 3).trans rfl
                  have f3 := blk_frozen hz 3
                  have z4 : w9.cell? ⟨w.heap.size + 1 + 1, 4, none⟩ = some (.slice none 0 0) := (blk_cell hz 4).trans rfl
                  have f4 := blk_frozen hz 4
                  have HZ := Aside0.mk hz
                  clear hz
                  go_wp2_with fail
                  refine bodyPost_ret (results_ct rfl _ _ (w.heap.size + 1 + 1) 34 #[.int .i64 0, .int .i64 0, .int .i64 0, .int .i64 0, .slice none 0 0] (0, 0) _ rfl (blk_put (blk_put (blk_put (blk_put (blk_put HZ.out 0 _ rfl) 1 _ rfl) 2 _ rfl) 3 _ rfl) 4 _ rfl) Try.underlying34 rfl (by kernel_rfl)) rfl ?_
                  exact AppP.none _ (((((HW9.out.setCell (p := ⟨(w.heap.size + 1 + 1), 0, none⟩) hle _).setCell (p := ⟨(w.heap.size + 1 + 1), 1, none⟩) hle _).setCell (p := ⟨(w.heap.size + 1 + 1), 2, none⟩) hle _).setCell (p := ⟨(w.heap.size + 1 + 1), 3, none⟩) hle _).setCell (p := ⟨(w.heap.size + 1 + 1), 4, none⟩) hle _)
                · go_wp2_with fail
                  refine (may_any e0 e1 e2 e3 A7 c7 zs w9 HL9.out.now hc7).mono ?_
                  rintro _ w10 ⟨⟨q, rfl⟩, hb10⟩
                  have HB10 : Aside0 (Below w0.heap.size w0 w10) := ⟨HB9.out.trans (hb10.mono HB9.out.size)⟩
                  have HW10 : Aside0 (Below w.heap.size w w10) := ⟨HW9.out.trans (hb10.mono HW9.out.size)⟩
                  have HL10 := Aside0.mk (HL9.out.below hb10)
                  have s0 := keep_cell hb10 q0
                  have s1 := keep_cell hb10 q1
                  have s2 := keep_cell hb10 q2
                  have s3 := keep_cell hb10 q3
                  have s4 := keep_cell hb10 q4
                  clear hb10 q0 q1 q2 q3 q4
                  have hz := (HB10.out.block _ hs0).trans hp4
                  have z0 : w10.cell? ⟨w.heap.size + 1 + 1, 0, none⟩ = some (.int .i64 0) := (blk_cell hz 0).trans rfl
                  have f0 := blk_frozen hz 0
                  have z1 : w10.cell? ⟨w.heap.size + 1 + 1, 1, none⟩ = some (.int .i64 0) := (blk_cell hz 1).trans rfl
                  have f1 := blk_frozen hz 1
                  have z2 : w10.cell? ⟨w.heap.size + 1 + 1, 2, none⟩ = some (.int .i64 0) := (blk_cell hz 2).trans rfl
                  have f2 := blk_frozen hz 2
                  have z3 : w10.cell? ⟨w.heap.size + 1 + 1, 3, none⟩ = some (.int .i64 0) := (blk_cell hz 3).trans rfl
                  have f3 := blk_frozen hz 3
                  have z4 : w10.cell? ⟨w.heap.size + 1 + 1, 4, none⟩ = some (.slice none 0 0) := (blk_cell hz 4).trans rfl
                  have f4 := blk_frozen hz 4
                  have HZ := Aside0.mk hz
                  clear hz
                  cases q with
                  | false =>
                    go_wp2_with fail
                    refine bodyPost_ret (results_ct rfl _ _ (w.heap.size + 1 + 1) 34 #[.int .i64 0, .int .i64 0, .int .i64 0, .int .i64 0, .slice none 0 0] (0, 0) _ rfl (blk_put (blk_put (blk_put (blk_put (blk_put HZ.out 0 _ rfl) 1 _ rfl) 2 _ rfl) 3 _ rfl) 4 _ rfl) Try.underlying34 rfl (by kernel_rfl)) rfl ?_
                    exact AppP.none _ (((((HW10.out.setCell (p := ⟨(w.heap.size + 1 + 1), 0, none⟩) hle _).setCell (p := ⟨(w.heap.size + 1 + 1), 1, none⟩) hle _).setCell (p := ⟨(w.heap.size + 1 + 1), 2, none⟩) hle _).setCell (p := ⟨(w.heap.size + 1 + 1), 3, none⟩) hle _).setCell (p := ⟨(w.heap.size + 1 + 1), 4, none⟩) hle _)
                  | true =>
                    go_wp2_with fail
                    refine bodyPost_ret (results_ct rfl _ _ (w.heap.size + 1 + 1) 34 #[.int .i64 e0, .int .i64 e1, .int .i64 e2, .int .i64 e3, .slice A7 zs.length c7] (0, 0) _ rfl (blk_put (blk_put (blk_put (blk_put (blk_put HZ.out 0 _ rfl) 1 _ rfl) 2 _ rfl) 3 _ rfl) 4 _ rfl) Try.underlying34 rfl (by kernel_rfl)) rfl ?_
                    refine ⟨⟨e0, e1, e2, e3, A7, c7, zs, 0, rfl, hc7, fun S hS => ?_, HM7.out, by omega⟩, ((((HW10.out.setCell (p := ⟨(w.heap.size + 1 + 1), 0, none⟩) hle _).setCell (p := ⟨(w.heap.size + 1 + 1), 1, none⟩) hle _).setCell (p := ⟨(w.heap.size + 1 + 1), 2, none⟩) hle _).setCell (p := ⟨(w.heap.size + 1 + 1), 3, none⟩) hle _).setCell (p := ⟨(w.heap.size + 1 + 1), 4, none⟩) hle _⟩
                    have hk0 := (((((Kept.refl w10 (fun k => k < w0.heap.size)).setCell (p := ⟨(w.heap.size + 1 + 1), 0, none⟩) (.inl hs0) (.int .i64 e0)).setCell (p := ⟨(w.heap.size + 1 + 1), 1, none⟩) (.inl hs0) (.int .i64 e1)).setCell (p := ⟨(w.heap.size + 1 + 1), 2, none⟩) (.inl hs0) (.int .i64 e2)).setCell (p := ⟨(w.heap.size + 1 + 1), 3, none⟩) (.inl hs0) (.int .i64 e3)).setCell (p := ⟨(w.heap.size + 1 + 1), 4, none⟩) (.inl hs0) (.slice A7 zs.length c7)
                    exact (HL10.out.step hk0).less (fun k hk => .inl (Nat.lt_of_lt_of_le (hS k hk) hb0.size))
end Go.Proofs.Ytbmkjcgbnddgdaa.P
