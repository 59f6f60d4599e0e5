/- ScoreMade: of versions made by numbers, with targets at the edges, both picks are the same: the walk. -/
import Derived.Test.YtbmkjcgbnddgdaaHmade
import Derived.Test.YtbmkjcgbnddgdaaHpick
namespace Go.Proofs.Ytbmkjcgbnddgdaa.P
open Go.RowKit Go.Proofs.YtbmkjcgbnddgdaaW.PrintWords Go.Proofs.YtbmkjcgbnddgdaaW.PrintLast Go.Proofs.YtbmkjcgbnddgdaaW.PrintMore
set_option linter.unusedVariables false
theorem info23 : (Try.prog.info? 23).map (fun i => (i.zero, i.size, i.bytes)) = some (some (.float .f64 0), 1, 8) := by kernel_rfl
def edgesF : List Nat := [9221120237041090561, 9218868437227405312, 18442240474082181120, 0, 9223372036854775808, 1, 4607182418800017408, 4636737291354636288, 4652007308841189376, 4741671816366391296, 13837309855095848960]
theorem edges_row {w : World} {g : Nat} (h : w.heap[g]? = some (.cells (edgesF.map (Value.float .f64)).toArray 23 (0, 0))) : Kd.C kF64 w (some ⟨g, 0, none⟩) 11 edgesF := by
  refine ⟨rfl, by decide, fun _ => ⟨_, rfl, fun j p hj => ⟨[.float .f64 p], rfl, rfl, fun i u hu => ?_⟩⟩⟩
  have hc := blk_cell h j
  match i, hu with
  | 0, hu =>
    obtain rfl : Value.float .f64 p = u := by simpa using hu
    have e : (Addr.add ⟨g, 0, none⟩ (j * kF64.sz + 0)) = ⟨g, j, none⟩ := by
      show Addr.add ⟨g, 0, none⟩ (j * 1 + 0) = _
      rw [Nat.mul_one, Nat.add_zero]; unfold Addr.add; simp; intro e; exact e.symm
    rw [e, hc]
    simp [hj]
  | i + 1, hu => simp at hu
theorem add_at (g i : Nat) : Addr.add ⟨g, 0, none⟩ i = ⟨g, i, none⟩ := by
  unfold Addr.add; simp; intro e; exact e.symm
/-- Two picks of one version. -/
theorem picks_any (a b c d : Int) (xs : List S38) (ts : List Nat) (hl : xs.length ≤ 20) : ∃ k r1 r2, score_Pick.f k a b c d xs ts = some (r1, r2) ∧ iceboxref17_Pick.f k a b c d xs ts = some (r1, r2) := by
  obtain ⟨⟨r1, r2⟩, h1, h2⟩ := picks_ev a b c d xs ts (by omega)
  obtain ⟨k1, h1⟩ := h1
  obtain ⟨k2, h2⟩ := h2
  exact ⟨max k1 k2, r1, r2, h1 _ (by omega), h2 _ (by omega)⟩
set_option maxRecDepth 100000 in
set_option maxHeartbeats 8000000 in
theorem scoreMade_any (A : Option Addr) (c : Nat) (ns : List Int) (A1 : Option Addr) (c1 : Nat) (ts : List Int) (w : World) (hr : Kd.C (Kd.int .u8) w A ns.length ns) (hb : Byts ns) (hr1 : Kd.C (Kd.int .u8) w A1 ts.length ts) (hb1 : Byts ts) :
    Calls Try.prog 6 #[.slice A ns.length c, .slice A1 ts.length c1] w fun e w' => e = .returned (.bool true) ∧ Below w.heap.size w w' := by
  have HR := Aside0.mk hr
  have HBY := Aside0.mk hb
  have HR1 := Aside0.mk hr1
  have HBY1 := Aside0.mk hb1
  clear hr hb hr1 hb1
  go_enter Try.func6, Try.ntmps6
  go_upto_region 2 with (go_at_call 19; refine (made_any A c ns w HR.out HBY.out).mono ?_; rintro _ w1 ⟨a, b, cc, d, B, k, zs, rfl, hk, hn, ho, hl, hb⟩)
  generalize hw2 : w1.alloc (.cells #[.int .i64 a, .int .i64 b, .int .i64 cc, .int .i64 d, .slice B zs.length k] 34) = w2
  have hb2 : Below w1.heap.size w1 w2 := by rw [← hw2]; exact bal (Below.refl _ _)
  have hp2 : w2.heap[w1.heap.size]? = some (.cells #[.int .i64 a, .int .i64 b, .int .i64 cc, .int .i64 d, .slice B zs.length k] 34 (0, 0)) := by rw [← hw2]; exact heap_alloc_new _ _
  have HB2 : Aside0 (Below w.heap.size w w2) := ⟨bt hb hb2⟩
  have HL2 : Aside0 (Kd.C k38 w2 B zs.length zs) := ⟨(hl.below hb2).now⟩
  have HP2 := Aside0.mk hp2
  clear hl ho hb hb2 hp2 hw2
  go_upto_region 3 with (first | (go_at_call 10; (with_reducible refine (nan_calls _).mono ?_); rintro _ w9 ⟨rfl, h9⟩; obtain rfl := h9.symm) | (go_at_call 11; (with_reducible refine (inf_calls _).mono ?_); rintro _ w9 ⟨rfl, h9⟩; obtain rfl := h9.symm) | (go_at_call 11; (with_reducible refine (minf_calls _).mono ?_); rintro _ w9 ⟨rfl, h9⟩; obtain rfl := h9.symm) | (go_at_call 13; (with_reducible refine (copysign_calls _).mono ?_); rintro _ w9 ⟨rfl, h9⟩; obtain rfl := h9.symm))
  generalize hw3 : w2.alloc (.cells #[.float .f64 9221120237041090561, .float .f64 9218868437227405312, .float .f64 18442240474082181120, .float .f64 0, .float .f64 9223372036854775808, .float .f64 1, .float .f64 4607182418800017408, .float .f64 4636737291354636288, .float .f64 4652007308841189376, .float .f64 4741671816366391296, .float .f64 13837309855095848960] 23) = w3
  have hb3 : Below w2.heap.size w2 w3 := by rw [← hw3]; exact bal (Below.refl _ _)
  have hp3 : w3.heap[w2.heap.size]? = some (.cells (edgesF.map (Value.float .f64)).toArray 23 (0, 0)) := by rw [← hw3]; exact heap_alloc_new _ _
  have HE3 : Aside0 (Kd.C kF64 w3 (some ⟨w2.heap.size, 0, none⟩) 11 edgesF) := ⟨edges_row hp3⟩
  have HB3 := Aside0.mk hb3
  clear hb3 hp3 hw3
  go_wp2_with fail
  go_loopw [7, 8] (fun v7 i wr => ∃ (j : Nat) (fl : List Nat), j ≤ ts.length ∧ j ≤ 5 ∧ fl.length = j ∧ i = .int .i64 j ∧ Aside0 (Kd.R kF64 23 wr w3.heap.size (fun _ => True) v7 fl ∧ Below w3.heap.size w3 wr)) (fun _ i _ => 10 - (intOf i).toNat)
  case atStart => exact ⟨0, [], Nat.zero_le _, Nat.zero_le _, rfl, rfl, ⟨Kd.R_nil _ _ _ _ _, Below.refl _ _⟩⟩
  case round =>
    obtain ⟨j, fl, hj, hj5, hfl, rfl, HI⟩ := hrel
    by_cases hin : j < ts.length ∧ j < 5
    · obtain ⟨hin1, hin2⟩ := hin
      have hBr : Below w.heap.size w wr := HB2.out.trans ((HB3.out.mono HB2.out.size).trans (HI.out.2.mono (Nat.le_trans HB2.out.size HB3.out.size)))
      obtain ⟨ad, b0, e, d0, p0, r0⟩ := byte_at (Kd.C_below HR1.out hBr) HBY1.out j hin1 rfl
      subst e
      have s0 : IntKind.i64.wrap b0 = b0 := IntWalk.i64_in _ (by omega)
      have m0 : (0 : Int) ≤ b0 % 11 := by omega
      have m1 : b0 % 11 < 11 := by omega
      obtain ⟨ad2, e2, f0⟩ := at_F64 (Kd.C_below HE3.out HI.out.2) (b0 % 11) m0 m1
      injection e2 with e2
      subst e2
      generalize rdOf (0 : Nat) edgesF (b0 % 11) = x at f0
      rw [add_at] at f0
      have l0 : (j : Int) < (ts.length : Int) := by omega
      have l5 : (j : Int) < 5 := by omega
      clear hBr
      go_wp2_with (at_builtin; refine Kd.R_append kF64 (w0 := w3) w3.heap.size rfl (.tmp 30) (.tmp 42) 35 23 (.float .f64 0) 8 rfl Try.underlying35 info23 rfl (by decide) (by omega) _ fl x [.float .f64 x] (fun _ => True) (fun k => k ≠ k ∧ False) rfl (by first | (go_simp; done) | (go_simp; rfl)) rfl (fun _ hk => hk.2.elim) (fun _ _ => trivial) HI.out.1 HI.out.2 HI.out.2.size ?aM ?_; (case aM => omega); intro v2 w4 hR2 hb3 hg2 hat2; clear hg2 hat2; have HV2 := Aside0.mk hR2; clear hR2; have HB4 := Aside0.mk hb3; clear hb3)
      have sj : IntKind.i64.wrap ((j : Int) + 1) = ((j + 1 : Nat) : Int) := IntWalk.i64_in _ (by omega)
      go_roundw
      case rel => exact ⟨j + 1, fl ++ [x], by omega, by omega, by rw [List.length_append, hfl]; rfl, by go_num, ⟨HV2.out, HB4.out⟩⟩
      case measure => simp [intOf]; omega
    · subst hfl
      have HL3 : Aside0 (Kd.C k38 wr B zs.length zs) := ⟨Kd.C_below (Kd.C_below HL2.out HB3.out) (HI.out.2)⟩
      have hb3 : Below w2.heap.size w2 wr := bt HB3.out HI.out.2
      have hp3 := (hb3.block _ (blk_lt HP2.out)).trans HP2.out
      have x0 : wr.cell? ⟨w1.heap.size, 0, none⟩ = some (.int .i64 a) := (blk_cell hp3 0).trans rfl
      have x1 : wr.cell? ⟨w1.heap.size, 1, none⟩ = some (.int .i64 b) := (blk_cell hp3 1).trans rfl
      have x2 : wr.cell? ⟨w1.heap.size, 2, none⟩ = some (.int .i64 cc) := (blk_cell hp3 2).trans rfl
      have x3 : wr.cell? ⟨w1.heap.size, 3, none⟩ = some (.int .i64 d) := (blk_cell hp3 3).trans rfl
      have x4 : wr.cell? ⟨w1.heap.size, 4, none⟩ = some (.slice B zs.length k) := (blk_cell hp3 4).trans rfl
      obtain ⟨A7, c7, e7, hc7, hl7⟩ := Lives.new (S := fun _ => False) HI.out.1 (fun k hk => hk.elim)
      subst e7
      have HC7 := Aside0.mk hl7.now
      have HBW : Aside0 (Below w.heap.size w wr) := ⟨HB2.out.trans (hb3.mono HB2.out.size)⟩
      obtain ⟨kk, r1, r2, hp1, hp2⟩ := picks_any a b cc d zs fl hn
      clear hl7 hb3 hp3 HI HP2 HB3 HE3
      have hgo : ¬ (fl.length : Int) < (ts.length : Int) ∨ ((fl.length : Int) < (ts.length : Int) ∧ ¬ (fl.length : Int) < 5) := by omega
      rcases hgo with hgo | ⟨hgo, hgo5⟩ <;>
      · go_wp2_with (first | (go_at_call 16; (with_reducible refine (score_Pick.calls kk a b cc d B k zs A7 c7 fl r1 r2 _ HL3.out hk HC7.out hc7 hp1).mono ?_); rintro _ w5 ⟨rfl, hb5⟩; have HB5 := Aside0.mk hb5; have y0 := keep_cell hb5 x0; have y1 := keep_cell hb5 x1; have y2 := keep_cell hb5 x2; have y3 := keep_cell hb5 x3; have y4 := keep_cell hb5 x4; clear x0 x1 x2 x3 x4 hb5) | (go_at_call 17; (with_reducible refine (iceboxref17_Pick.calls kk a b cc d B k zs A7 c7 fl r1 r2 _ (Kd.C_below HL3.out HB5.out) hk (Kd.C_below HC7.out HB5.out) hc7 hp2).mono ?_); rintro _ w6 ⟨rfl, hb6⟩; have HB6 := Aside0.mk hb6; clear hb6) | (go_at_call 14; (with_reducible refine (awake0_calls _).mono ?_); rintro _ w9 ⟨rfl, h9⟩; obtain rfl := h9.symm))
        go_ret
        exact ⟨rfl, HBW.out.trans ((bt HB5.out HB6.out).mono HBW.out.size)⟩
end Go.Proofs.Ytbmkjcgbnddgdaa.P
