/- May: yes or no. -/
import Derived.Test.YtbmkjcgbnddgdaaHmay
namespace Go.Proofs.Ytbmkjcgbnddgdaa.P
open Go.RowKit Go.Proofs.YtbmkjcgbnddgdaaW.PrintWords Go.Proofs.YtbmkjcgbnddgdaaW.PrintLast Go.Proofs.YtbmkjcgbnddgdaaW.PrintMore
set_option linter.unusedVariables false
attribute [local go_sem] str_geq str_leq str_gtr
/-- A table of a row, its cells. -/
theorem t38_at {w : World} {A : Option Addr} {n : Nat} {xs : List S38} (h : Kd.C k38 w A n xs) (i : Nat) (h1 : i < n) : ∃ (ad : Addr) (t : S38), A = some ad ∧ t = rd_T38 xs (i : Int) ∧ w.cell? (ad.add (i * 9)) = some (.int .i64 t.f0) ∧ w.cell? ⟨(ad.add (i * 9)).block, (ad.add (i * 9)).off + 1, none⟩ = some (.int .i64 t.f1) ∧ w.cell? ⟨(ad.add (i * 9)).block, (ad.add (i * 9)).off + 2, none⟩ = some (.int .i64 t.f2) ∧
    w.cell? ⟨(ad.add (i * 9)).block, (ad.add (i * 9)).off + 3, none⟩ = some (.string t.f3) ∧ w.cell? ⟨(ad.add (i * 9)).block, (ad.add (i * 9)).off + 4, none⟩ = some (.string t.f4) ∧ w.cell? ⟨(ad.add (i * 9)).block, (ad.add (i * 9)).off + 5, none⟩ = some (.int .i64 t.f5) ∧ w.cell? ⟨(ad.add (i * 9)).block, (ad.add (i * 9)).off + 6, none⟩ = some (.int .i64 t.f6) ∧
    w.cell? ⟨(ad.add (i * 9)).block, (ad.add (i * 9)).off + 7, none⟩ = some (.bool t.f7) ∧ w.cell? ⟨(ad.add (i * 9)).block, (ad.add (i * 9)).off + 8, none⟩ = some (.bool t.f8) := by
  obtain ⟨ad, e, h0, h1, h2, h3, h4, h5, h6, h7, h8⟩ := at_T38 h (i : Int) (by omega) (by omega)
  exact ⟨ad, _, e, rfl, h0, h1, h2, h3, h4, h5, h6, h7, h8⟩
/-- A version's value. -/
def verV (a b c d : Int) (A : Option Addr) (n k : Nat) : Value := .agg #[.int .i64 a, .int .i64 b, .int .i64 c, .int .i64 d, .slice A n k]
set_option maxRecDepth 100000 in
set_option maxHeartbeats 4000000 in
theorem may_any (a b c d : Int) (A : Option Addr) (k : Nat) (xs : List S38) (w : World) (hr : Kd.C k38 w A xs.length xs) (hk : xs.length ≤ k) : Calls Try.prog 29 #[verV a b c d A xs.length k] w fun e w' => IsB e ∧ Below w.heap.size w w' := by
  have HR := Aside0.mk hr
  have hmax : xs.length ≤ 9223372036854775807 := hr.2.1
  clear hr
  unfold verV
  go_enter Try.func29, Try.ntmps29
  go_upto_region 1 with fail
  generalize hw0 : w.alloc (.cells #[.int .i64 a, .int .i64 b, .int .i64 c, .int .i64 d, .slice A xs.length k] 34) = w0
  have hb0 : Below w.heap.size w w0 := by rw [← hw0]; exact (Below.refl _ w).alloc (Nat.le_refl _) _
  have d0 : w0.cell? ⟨w.heap.size, 0, none⟩ = some (.int .i64 a) := by rw [← hw0]; exact (blk_cell (heap_alloc_new _ _) 0).trans rfl
  have d1 : w0.cell? ⟨w.heap.size, 1, none⟩ = some (.int .i64 b) := by rw [← hw0]; exact (blk_cell (heap_alloc_new _ _) 1).trans rfl
  have d2 : w0.cell? ⟨w.heap.size, 2, none⟩ = some (.int .i64 c) := by rw [← hw0]; exact (blk_cell (heap_alloc_new _ _) 2).trans rfl
  have d3 : w0.cell? ⟨w.heap.size, 3, none⟩ = some (.int .i64 d) := by rw [← hw0]; exact (blk_cell (heap_alloc_new _ _) 3).trans rfl
  have d4 : w0.cell? ⟨w.heap.size, 4, none⟩ = some (.slice A xs.length k) := by rw [← hw0]; exact (blk_cell (heap_alloc_new _ _) 4).trans rfl
  clear hw0
  go_cut [34] (fun v34 wc => ∃ q : Bool, v34 = .bool q ∧ w0 = wc)
  case first =>
    go_wp2_with (first | (go_at_call 34; refine (number_any _ _).mono ?_; rintro _ _ ⟨⟨q, rfl⟩, rfl⟩; cases q))
    all_goals
      go_meet
      case rel => exact ⟨_, rfl, rfl⟩
  case rest =>
    obtain ⟨q, rfl, rfl⟩ := hcut
    cases q with
    | true =>
      go_wp2_with fail
      go_ret
      exact ⟨⟨_, rfl⟩, hb0⟩
    | false =>
      go_wp2_with fail
      go_loopw [3] (fun i wr => ∃ j : Nat, j ≤ xs.length ∧ i = .int .i64 j ∧ Aside0 (Below w0.heap.size w0 wr)) (fun i _ => xs.length - (intOf i).toNat)
      case atStart => exact ⟨0, Nat.zero_le _, rfl, ⟨Below.refl _ _⟩⟩
      case round =>
        obtain ⟨j, hj, rfl, HB⟩ := hrel
        have g0 := keep_cell HB.out d0
        have g1 := keep_cell HB.out d1
        have g2 := keep_cell HB.out d2
        have g3 := keep_cell HB.out d3
        have g4 := keep_cell HB.out d4
        have hbw : Below w.heap.size w wr := hb0.trans (HB.out.mono hb0.size)
        have HBW := Aside0.mk hbw
        clear hbw
        by_cases hlt : j < xs.length
        · obtain ⟨ad, t, e, et, h0, h1, h2, h3, h4, h5, h6, h7, h8⟩ := t38_at (Kd.C_below HR.out HBW.out) j hlt
          subst e
          clear et
          go_upto_region 7 with fail
          generalize hw1 : wr.alloc (.cells #[.int .i64 t.f0, .int .i64 t.f1, .int .i64 t.f2, .string t.f3, .string t.f4, .int .i64 t.f5, .int .i64 t.f6, .bool t.f7, .bool t.f8] 38) = w1
          have hb1 : Below wr.heap.size wr w1 := by rw [← hw1]; exact (Below.refl _ wr).alloc (Nat.le_refl _) _
          have c0 : w1.cell? ⟨wr.heap.size, 0, none⟩ = some (.int .i64 t.f0) := by rw [← hw1]; exact (blk_cell (heap_alloc_new _ _) 0).trans rfl
          have c1 : w1.cell? ⟨wr.heap.size, 1, none⟩ = some (.int .i64 t.f1) := by rw [← hw1]; exact (blk_cell (heap_alloc_new _ _) 1).trans rfl
          have c2 : w1.cell? ⟨wr.heap.size, 2, none⟩ = some (.int .i64 t.f2) := by rw [← hw1]; exact (blk_cell (heap_alloc_new _ _) 2).trans rfl
          have c3 : w1.cell? ⟨wr.heap.size, 3, none⟩ = some (.string t.f3) := by rw [← hw1]; exact (blk_cell (heap_alloc_new _ _) 3).trans rfl
          have c4 : w1.cell? ⟨wr.heap.size, 4, none⟩ = some (.string t.f4) := by rw [← hw1]; exact (blk_cell (heap_alloc_new _ _) 4).trans rfl
          have c5 : w1.cell? ⟨wr.heap.size, 5, none⟩ = some (.int .i64 t.f5) := by rw [← hw1]; exact (blk_cell (heap_alloc_new _ _) 5).trans rfl
          have c6 : w1.cell? ⟨wr.heap.size, 6, none⟩ = some (.int .i64 t.f6) := by rw [← hw1]; exact (blk_cell (heap_alloc_new _ _) 6).trans rfl
          have c7 : w1.cell? ⟨wr.heap.size, 7, none⟩ = some (.bool t.f7) := by rw [← hw1]; exact (blk_cell (heap_alloc_new _ _) 7).trans rfl
          have c8 : w1.cell? ⟨wr.heap.size, 8, none⟩ = some (.bool t.f8) := by rw [← hw1]; exact (blk_cell (heap_alloc_new _ _) 8).trans rfl
          have e0 := keep_cell hb1 g0
          have e1 := keep_cell hb1 g1
          have e2 := keep_cell hb1 g2
          have e3 := keep_cell hb1 g3
          have e4 := keep_cell hb1 g4
          have HB1 : Aside0 (Below w0.heap.size w0 w1) := ⟨HB.out.trans (hb1.mono HB.out.size)⟩
          clear hw1 hb1 h0 h1 h2 h3 h4 h5 h6 h7 h8 g0 g1 g2 g3 g4
          go_cut [63] (fun v63 wd => ∃ q : Bool, v63 = .bool q ∧ Aside0 (Below w1.heap.size w1 wd))
          case first =>
            go_wp2_with (first | (go_at_call 35; refine (mayTable_any _ _ _ _ _ _ _ _ _ _).mono ?_; rintro _ wx ⟨⟨q, rfl⟩, hbx⟩; have HX := Aside0.mk hbx; have x0 := keep_cell hbx c0; have x1 := keep_cell hbx c1; have y0 := keep_cell hbx e0; have y1 := keep_cell hbx e1; clear hbx; cases q))
            all_goals
              go_meet
              case rel => exact ⟨_, rfl, HX⟩
          case rest =>
            obtain ⟨q, rfl, HD⟩ := hcut
            cases q with
            | true =>
              go_wp2_with fail
              go_ret
              exact ⟨⟨_, rfl⟩, hb0.trans ((HB1.out.trans (HD.out.mono HB1.out.size)).mono hb0.size)⟩
            | false =>
              go_wp2_with fail
              go_loopw [5] (fun i wr2 => ∃ l : Nat, l ≤ j ∧ i = .int .i64 l ∧ Aside0 (Below w1.heap.size w1 wr2)) (fun i _ => j - (intOf i).toNat)
              case atStart => exact ⟨0, Nat.zero_le _, rfl, HD⟩
              case round =>
                clear HD
                obtain ⟨l, hl, rfl, HD⟩ := hrel
                have x0 := keep_cell HD.out c0
                have x1 := keep_cell HD.out c1
                have x2 := keep_cell HD.out c2
                have x3 := keep_cell HD.out c3
                have x4 := keep_cell HD.out c4
                have x5 := keep_cell HD.out c5
                have x6 := keep_cell HD.out c6
                have x7 := keep_cell HD.out c7
                have x8 := keep_cell HD.out c8
                have y0 := keep_cell HD.out e0
                have y1 := keep_cell HD.out e1
                have y2 := keep_cell HD.out e2
                have y3 := keep_cell HD.out e3
                have y4 := keep_cell HD.out e4
                have HBD : Aside0 (Below w0.heap.size w0 wr) := ⟨HB1.out.trans (HD.out.mono HB1.out.size)⟩
                have HW : Aside0 (Below w.heap.size w wr) := ⟨hb0.trans (HBD.out.mono hb0.size)⟩
                by_cases hlj : l < j
                · obtain ⟨ad2, u, e2, eu, k0, k1, k2, k3, k4, k5, k6, k7, k8⟩ := t38_at (Kd.C_below HR.out HW.out) l (by omega)
                  injection e2 with e2
                  subst e2
                  clear eu
                  go_upto_region 13 with fail
                  generalize hw2 : wr.alloc (.cells #[.int .i64 u.f0, .int .i64 u.f1, .int .i64 u.f2, .string u.f3, .string u.f4, .int .i64 u.f5, .int .i64 u.f6, .bool u.f7, .bool u.f8] 38) = w2
                  have hb2 : Below wr.heap.size wr w2 := by rw [← hw2]; exact (Below.refl _ wr).alloc (Nat.le_refl _) _
                  have q0 : w2.cell? ⟨wr.heap.size, 0, none⟩ = some (.int .i64 u.f0) := by rw [← hw2]; exact (blk_cell (heap_alloc_new _ _) 0).trans rfl
                  have q2 : w2.cell? ⟨wr.heap.size, 2, none⟩ = some (.int .i64 u.f2) := by rw [← hw2]; exact (blk_cell (heap_alloc_new _ _) 2).trans rfl
                  have q3 : w2.cell? ⟨wr.heap.size, 3, none⟩ = some (.string u.f3) := by rw [← hw2]; exact (blk_cell (heap_alloc_new _ _) 3).trans rfl
                  have q4 : w2.cell? ⟨wr.heap.size, 4, none⟩ = some (.string u.f4) := by rw [← hw2]; exact (blk_cell (heap_alloc_new _ _) 4).trans rfl
                  have z0 := keep_cell hb2 x0
                  have z2 := keep_cell hb2 x2
                  have z3 := keep_cell hb2 x3
                  have z4 := keep_cell hb2 x4
                  have HD2 : Aside0 (Below w1.heap.size w1 w2) := ⟨HD.out.trans (hb2.mono HD.out.size)⟩
                  have HW2 : Aside0 (Below w.heap.size w w2) := ⟨HW.out.trans (hb2.mono HW.out.size)⟩
                  clear hw2 hb2 k0 k1 k2 k3 k4 k5 k6 k7 k8 x0 x1 x2 x3 x4 x5 x6 x7 x8 y0 y1 y2 y3 y4 c0 c1 c2 c3 c4 c5 c6 c7 c8 e0 e1 e2 e3 e4
                  go_wp2_with fail
                  all_goals (first | (go_ret; exact ⟨⟨_, rfl⟩, HW2.out⟩) | (go_roundw; (case rel => exact ⟨l + 1, by omega, by go_num, HD2⟩); (case measure => simp [intOf]; omega)) | (exfalso; rename_i h1 h2; simp [undef] at h1; done) | (exfalso; rename_i h1; simp [undef] at h1; done))
                · go_wp2_with fail
                  go_roundw
                  case rel => exact ⟨j + 1, by omega, by go_num, HBD⟩
                  case measure => simp [intOf]; omega
        · go_wp2_with fail
          go_ret
          exact ⟨⟨_, rfl⟩, HBW.out⟩
end Go.Proofs.Ytbmkjcgbnddgdaa.P
