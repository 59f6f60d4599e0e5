/- ScorePicks: the walk. -/
import Derived.Test.YtbmkjcgbnddgdaaHspick0
import Derived.IntWalk
namespace Go.Proofs.Ytbmkjcgbnddgdaa.P
open Go.RowKit Go.Proofs.YtbmkjcgbnddgdaaW.PrintWords Go.Proofs.YtbmkjcgbnddgdaaW.PrintLast Go.Proofs.YtbmkjcgbnddgdaaW.PrintMore
set_option linter.unusedVariables false
set_option linter.unusedSimpArgs false
/-- No bytes, no tables. -/
theorem tables_nil (w : World) : Calls Try.prog 20 #[.slice none 0 0] w fun e w' => e = .returned (.slice none 0 0) ∧ w' = w := by
  go_enter Try.func20, Try.ntmps20
  go_wp2_with fail
  go_loopw [3, 4] (fun v3 i wr => v3 = .slice none 0 0 ∧ i = .int .i64 0 ∧ wr = w) (fun _ i _ => 0)
  case atStart => exact ⟨rfl, rfl, rfl⟩
  case round =>
    obtain ⟨rfl, rfl, rfl⟩ := hrel
    go_wp2_with fail
    go_ret
    exact ⟨rfl, rfl⟩
/-- The sizes of the levels, as a row of six. -/
def szRow (xs : List S38) : Array Value := #[.int .i64 (szF 0 xs), .int .i64 (szF 1 xs), .int .i64 (szF 2 xs), .int .i64 (szF 3 xs), .int .i64 (szF 4 xs), .int .i64 (szF 5 xs)]
theorem szRow_at (xs : List S38) (lv : Int) (h0 : 0 ≤ lv) (h1 : lv < 5) : (szRow xs)[lv.toNat]? = some (.int .i64 (szF lv xs)) := by
  have h : lv = 0 ∨ lv = 1 ∨ lv = 2 ∨ lv = 3 ∨ lv = 4 := by omega
  rcases h with rfl | rfl | rfl | rfl | rfl <;> rfl
theorem szRow_put (xs : List S38) (t : S38) (h0 : 0 ≤ t.f2) (h1 : t.f2 < 5) : (szRow xs).setIfInBounds t.f2.toNat (.int .i64 (wrap64 (szF t.f2 xs + t.f5))) = szRow (xs ++ [t]) := by
  have h : t.f2 = 0 ∨ t.f2 = 1 ∨ t.f2 = 2 ∨ t.f2 = 3 ∨ t.f2 = 4 := by omega
  unfold szRow
  simp only [szF_snoc, stepS]
  rcases h with e | e | e | e | e <;> simp [e]
theorem ord_eq {x y : Nat} (hx : x ≤ 9218868437227405312) (hy : y ≤ 9218868437227405312) : (FloatKind.f64.format.order x y == some .eq) = decide (x = y) := by
  have e : FloatKind.f64.format.order x y = some (compare x y) := order_le hx hy
  rw [e]
  rcases Nat.lt_trichotomy x y with h | h | h
  · rw [Nat.compare_eq_lt.mpr h, decide_eq_false (by omega)]; rfl
  · rw [Nat.compare_eq_eq.mpr h, decide_eq_true h]; rfl
  · rw [Nat.compare_eq_gt.mpr h, decide_eq_false (by omega)]; rfl
theorem cell_of {w : World} {ad : Addr} {n : Nat} {xs : List Nat} (h : Kd.C kF64 w (some ad) n xs) (i : Nat) (hi : i < n) {x : Nat} (hx : xs[i]? = some x) : w.cell? (ad.add i) = some (.float .f64 x) := by
  obtain ⟨_, e0, y0⟩ := at_F64 h (i : Int) (by omega) (by omega)
  injection e0 with e0
  subst e0
  rw [Int.toNat_natCast] at y0
  rw [y0]
  unfold rdOf
  rw [List.getD_eq_getElem?_getD, Int.toNat_natCast, hx, Option.getD_some]
theorem info3 : (Try.prog.info? 3).map (fun i => (i.zero, i.size, i.bytes)) = some (some (.int .i64 0), 1, 8) := by kernel_rfl
theorem make6 (W : World) : (Instr.makeSlice 44 (.int .i64 6) (.int .i64 6)).run Try.prog W = .ok (.slice (some ⟨W.heap.size, 0, none⟩) 6 6) (W.alloc (.cells #[.int .i64 0, .int .i64 0, .int .i64 0, .int .i64 0, .int .i64 0, .int .i64 0] 3)) := by
  have h := print_make_int (P := Try.prog) 44 3 (.int .i64 0) 8 Try.underlying44 info3 rfl (by decide) 6 (by decide) (by decide) W
  have e : madeCells #[.int .i64 0] (Int.toNat 6) = #[.int .i64 0, .int .i64 0, .int .i64 0, .int .i64 0, .int .i64 0, .int .i64 0] := Array.toList_inj.mp (by rw [toList_madeCells_one]; rfl)
  rw [e] at h
  exact h
def picksT12 : Bool × List (List Nat × List Nat) := (true, [([], []), ([], []), ([1], [1]), ([], []), ([2, 3], [2, 3]), ([4], [4]), ([5], [5]), ([], []), ([], []), ([8], [8]), ([], []), ([9, 10], [9, 10]), ([11], [11]), ([12], [12]), ([7, 13], [7, 13]), ([14], [14]), ([], []), ([16], [16]), ([], []), ([17, 18], [17, 18]), ([19], [19]), ([20], [20]), ([15, 21], [15, 21]), ([0, 6, 0, 1, 2, 3, 4, 5, 6, 7, 8, 9, 10, 11, 12, 13, 14, 15, 16, 17, 18, 19, 20, 21, 22], [0, 6]), ([23, 22, 0, 1, 2, 3, 4, 5, 6, 7, 8, 9, 10, 11, 12, 13, 14, 15, 16, 17, 18, 19, 20, 21, 22], [22, 23])])
def picksB12 : List Nat := [0, 0, 2, 0, 14, 30, 62, 0, 0, 256, 0, 1792, 3840, 7936, 16256, 32640, 0, 65536, 0, 458752, 983040, 2031616, 4194176, 8388607, 16777215]
theorem picks_tab12 : rtab .any (opsOf Try.f5 12) = picksT12 := by kernel_rfl
theorem picks_bits12 : waitsOk picksT12.2 picksB12 = true := by kernel_rfl
set_option maxRecDepth 100000 in
set_option maxHeartbeats 8000000 in
theorem scorePicks_great (A : Option Addr) (c : Nat) (ns : List Int) (A1 : Option Addr) (c1 : Nat) (ts : List Nat) (w : World) (hlen : 8 < ts.length) :
    Calls Try.prog 5 #[.slice A ns.length c, .slice A1 ts.length c1] w fun e w' => e = .returned (.bool true) ∧ Below w.heap.size w w' := by
  have l8 : (8 : Int) < (ts.length : Int) := by omega
  go_enter Try.func5, Try.ntmps5
  go_wp2_with (go_at_call 14; (with_reducible refine (awake0_calls _).mono ?_); rintro _ w9 ⟨rfl, h9⟩; obtain rfl := h9.symm)
  go_ret
  exact ⟨rfl, Below.refl _ _⟩
set_option maxRecDepth 100000 in
set_option maxHeartbeats 8000000 in
theorem scorePicks_any (A : Option Addr) (c : Nat) (ns : List Int) (A1 : Option Addr) (c1 : Nat) (ts : List Nat) (w : World) (hr : Kd.C (Kd.int .u8) w A ns.length ns) (hb : Byts ns) (hr1 : Kd.C kF64 w A1 ts.length ts) (hc1 : ts.length ≤ c1) (hts : ∀ x ∈ ts, x < 18446744073709551616) :
    Calls Try.prog 5 #[.slice A ns.length c, .slice A1 ts.length c1] w fun e w' => e = .returned (.bool true) ∧ Below w.heap.size w w' := by
  by_cases hlen : 8 < ts.length
  · exact scorePicks_great A c ns A1 c1 ts w hlen
  have l8 : ¬ (8 : Int) < (ts.length : Int) := by omega
  have HR := Aside0.mk hr
  have HBY := Aside0.mk hb
  have HR1 := Aside0.mk hr1
  have HTS := Aside0.mk hts
  clear hr hb hr1 hts hlen
  go_enter Try.func5, Try.ntmps5
  go_upto_region 4 with (go_at_call 19; refine (made_any A c ns w HR.out HBY.out).mono ?_; rintro _ w1 ⟨a, b, cc, d, B, k, zs, rfl, hk, hn, ho, hl, hb⟩)
  generalize hw2 : w1.alloc (.cells #[.int .i64 a, .int .i64 b, .int .i64 cc, .int .i64 d, .slice B zs.length k] 34) = w2
  have hb2 : Below w1.heap.size w1 w2 := by rw [← hw2]; exact bal (Below.refl _ _)
  have hp2 : w2.heap[w1.heap.size]? = some (.cells #[.int .i64 a, .int .i64 b, .int .i64 cc, .int .i64 d, .slice B zs.length k] 34 (0, 0)) := by rw [← hw2]; exact heap_alloc_new _ _
  have HB2 : Aside0 (Below w.heap.size w w2) := ⟨bt hb hb2⟩
  have HL2 : Aside0 (Kd.C k38 w2 B zs.length zs) := ⟨(hl.below hb2).now⟩
  have HR2 : Aside0 (Kd.C kF64 w2 A1 ts.length ts) := ⟨Kd.C_below HR1.out (bt hb hb2)⟩
  have HP2 := Aside0.mk hp2
  have HOK := Aside0.mk ho
  have x0 : w2.cell? ⟨w1.heap.size, 0, none⟩ = some (.int .i64 a) := (blk_cell hp2 0).trans rfl
  have x1 : w2.cell? ⟨w1.heap.size, 1, none⟩ = some (.int .i64 b) := (blk_cell hp2 1).trans rfl
  have x2 : w2.cell? ⟨w1.heap.size, 2, none⟩ = some (.int .i64 cc) := (blk_cell hp2 2).trans rfl
  have x3 : w2.cell? ⟨w1.heap.size, 3, none⟩ = some (.int .i64 d) := (blk_cell hp2 3).trans rfl
  have x4 : w2.cell? ⟨w1.heap.size, 4, none⟩ = some (.slice B zs.length k) := (blk_cell hp2 4).trans rfl
  have hs2 : w1.heap.size < w2.heap.size := blk_lt hp2
  clear hl ho hb hb2 hp2 hw2
  obtain ⟨kk, r1, r2, hpk, hpp⟩ := pick_any a b cc d zs ts hn HTS.out
  have HPP := Aside0.mk hpp
  clear hpp
  have hmk := make6
  go_upto_region 7 with (go_at_call 16; (with_reducible refine (score_Pick.calls kk a b cc d B k zs A1 c1 ts r1 r2 _ HL2.out hk HR2.out hc1 hpk).mono ?_); rintro _ w3 ⟨rfl, hb3⟩; have HB3 := Aside0.mk hb3; clear x0 x1 x2 x3 x4 hb3)
  clear hmk
  generalize hw4 : w3.alloc (.cells #[.int .i64 0, .int .i64 0, .int .i64 0, .int .i64 0, .int .i64 0, .int .i64 0] 3) = w4
  have hb4 : Below w3.heap.size w3 w4 := by rw [← hw4]; exact bal (Below.refl _ _)
  have hp4 : w4.heap[w3.heap.size]? = some (.cells (szRow []) 3 (0, 0)) := by rw [← hw4]; exact heap_alloc_new _ _
  have hgs : w2.heap.size ≤ w3.heap.size := HB3.out.size
  have HB4 : Aside0 (Below w2.heap.size w2 w4) := ⟨bt HB3.out hb4⟩
  have HP4 := Aside0.mk hp4
  clear hb4 hp4 hw4
  go_wp2_with fail
  go_loopw [8, 10] (fun v8 i wr => ∃ j : Nat, j ≤ zs.length ∧ v8 = .int .i64 (ctF (zs.take j)) ∧ i = .int .i64 j ∧ Aside0 (wr.heap[w3.heap.size]? = some (.cells (szRow (zs.take j)) 3 (0, 0)) ∧ Below w2.heap.size w2 wr)) (fun _ i _ => zs.length - (intOf i).toNat)
  case atStart => exact ⟨0, Nat.zero_le _, rfl, rfl, ⟨HP4.out, HB4.out⟩⟩
  case round =>
    clear HP4 HB4
    obtain ⟨j, hj, rfl, rfl, HI⟩ := hrel
    have hv3 := (HI.out.2.block _ hs2).trans HP2.out
    have x4 : wr.cell? ⟨w1.heap.size, 4, none⟩ = some (.slice B zs.length k) := (blk_cell hv3 4).trans rfl
    by_cases hlt : j < zs.length
    · obtain ⟨ad, t, e, et, h0, h1, h2, h3, h4, h5, h6, h7, h8⟩ := t38_at HL2.out j hlt
      subst e
      have hq : (ad.add (j * 9)).block < w2.heap.size := World.block_lt_of_cell? w2 _ h0
      have HT : Aside0 (zs.take (j + 1) = zs.take j ++ [t] ∧ OkT t) := ⟨by rw [et]; exact take_rd zs j hlt, by
        rw [et]; unfold rd_T38
        rw [List.getD_eq_getElem?_getD, Int.toNat_natCast, List.getElem?_eq_getElem hlt, Option.getD_some]
        exact HOK.out _ (List.getElem_mem hlt)⟩
      have k2 := keep_cell HI.out.2 h2
      have k5 := keep_cell HI.out.2 h5
      clear et h0 h1 h2 h3 h4 h5 h6 h7 h8 hv3
      have n0 : (0 : Int) ≤ t.f2 := HT.out.2.1
      have n5 : t.f2 < 6 := by have := HT.out.2.2; omega
      have l0 : (j : Int) < (zs.length : Int) := by omega
      have s0 : wr.cell? ⟨w3.heap.size, t.f2.toNat, none⟩ = some (.int .i64 (szF t.f2 (zs.take j))) := (blk_cell HI.out.1 t.f2.toNat).trans (szRow_at _ _ HT.out.2.1 HT.out.2.2)
      have f0 := blk_frozen HI.out.1 t.f2.toNat
      have s0' : wr.drew.cell? ⟨w3.heap.size, t.f2.toNat, none⟩ = some (.int .i64 (szF t.f2 (zs.take j))) := s0
      have f0' : wr.drew.frozen? ⟨w3.heap.size, t.f2.toNat, none⟩ = false := f0
      have sj : IntKind.i64.wrap ((j : Int) + 1) = ((j + 1 : Nat) : Int) := IntWalk.i64_in _ (by omega)
      have b1 : w1.heap.size ≠ w3.heap.size := by omega
      have b2 : (ad.add (j * 9)).block ≠ w3.heap.size := by omega
      by_cases z : t.f2 = 0
      · have hc : Aside0 (stepC (ctF (zs.take j)) t = wrap64 (ctF (zs.take j) + 1)) := ⟨if_pos z⟩
        go_upto_region 12 with fail
        clear z
        refine start_ (n := 25) (S := fun w' => w'.cell? ⟨w1.heap.size, 4, none⟩ = some (.slice (some ad) zs.length k) ∧ w'.cell? ⟨(ad.add (j * 9)).block, (ad.add (j * 9)).off + 2, none⟩ = some (.int .i64 t.f2) ∧ w'.cell? ⟨(ad.add (j * 9)).block, (ad.add (j * 9)).off + 5, none⟩ = some (.int .i64 t.f5) ∧ w'.cell? ⟨w3.heap.size, t.f2.toNat, none⟩ = some (.int .i64 (szF t.f2 (zs.take j)))) (ds := [24]) #[false, false, false, false, false, false, false, false, false, false, false, false, false, false, false, false, false, false, false, false, false, false, false, false, false] (by kernel_rfl) rfl rfl ⟨x4, k2, k5, s0⟩ (fun hHeld => ?_); refine with_tabW picks_tab12 picks_bits12 (fun HT_ HW_ => ?_)
        clear x4 k2 k5 s0 s0' f0
        generalize hwd : wr.drew = wd at f0' hHeld ⊢
        refine pure_ (i := 0) (N := some 43) (v := ?_) (a' := ?_) #[true, false, false, false, false, false, false, false, false, false, false, false, false, false, false, false, false, false, false, false, false, false, false, false, false] rfl rfl (any_of HT_.out (by kernel_rfl)) (fun _ _ _ h => h) (Or.inl ⟨by rfl, ?_⟩) ?_ ?_
        rotate_left
        · intro w'
          go_simp
          with_reducible rfl
        rotate_left
        · simp only [Act.put, List.setIfInBounds_toArray, List.set_cons_zero, List.set_cons_succ, i64_w, i32_w]
          rfl
        refine pure_ (i := 1) (N := some 44) (v := ?_) (a' := ?_) #[true, true, false, false, false, false, false, false, false, false, false, false, false, false, false, false, false, false, false, false, false, false, false, false, false] rfl rfl (any_of HT_.out (by kernel_rfl)) (fun _ _ _ h => h) (Or.inl ⟨by rfl, ?_⟩) ?_ ?_
        rotate_left
        · intro w'
          go_simp
          with_reducible rfl
        rotate_left
        · simp only [Act.put, List.setIfInBounds_toArray, List.set_cons_zero, List.set_cons_succ, i64_w, i32_w]
          rfl
        refine take_ (i := 2) (N := some 45) (v := ?_) (a' := ?_) #[true, true, true, false, false, false, false, false, false, false, false, false, false, false, false, false, false, false, false, false, false, false, false, false, false] rfl rfl (take_ofW HT_.out HW_.out (by kernel_rfl)) (fun _ _ _ h => h) (Or.inl ⟨by rfl, ?_⟩) hHeld ?_ ?_
        rotate_left
        · rintro w' ⟨s0, s1, s2, s3⟩
          go_simp
          with_reducible rfl
        rotate_left
        · simp only [Act.put, List.setIfInBounds_toArray, List.set_cons_zero, List.set_cons_succ, i64_w, i32_w]
          rfl
        refine pure_ (i := 3) (N := some 46) (v := ?_) (a' := ?_) #[true, true, true, true, false, false, false, false, false, false, false, false, false, false, false, false, false, false, false, false, false, false, false, false, false] rfl rfl (any_of HT_.out (by kernel_rfl)) (fun _ _ _ h => h) (Or.inl ⟨by rfl, ?_⟩) ?_ ?_
        rotate_left
        · intro w'
          go_simp
          with_reducible rfl
        rotate_left
        · simp only [Act.put, List.setIfInBounds_toArray, List.set_cons_zero, List.set_cons_succ, i64_w, i32_w]
          rfl
        refine pure_ (i := 4) (N := some 47) (v := ?_) (a' := ?_) #[true, true, true, true, true, false, false, false, false, false, false, false, false, false, false, false, false, false, false, false, false, false, false, false, false] rfl rfl (any_of HT_.out (by kernel_rfl)) (fun _ _ _ h => h) (Or.inl ⟨by rfl, ?_⟩) ?_ ?_
        rotate_left
        · intro w'
          go_simp
          with_reducible rfl
        rotate_left
        · simp only [Act.put, List.setIfInBounds_toArray, List.set_cons_zero, List.set_cons_succ, i64_w, i32_w]
          rfl
        refine pure_ (i := 5) (N := some 48) (v := ?_) (a' := ?_) #[true, true, true, true, true, true, false, false, false, false, false, false, false, false, false, false, false, false, false, false, false, false, false, false, false] rfl rfl (any_of HT_.out (by kernel_rfl)) (fun _ _ _ h => h) (Or.inl ⟨by rfl, ?_⟩) ?_ ?_
        rotate_left
        · intro w'
          go_simp
          with_reducible rfl
        rotate_left
        · simp only [Act.put, List.setIfInBounds_toArray, List.set_cons_zero, List.set_cons_succ, i64_w, i32_w]
          rfl
        refine take_ (i := 6) (N := some 49) (v := ?_) (a' := ?_) #[true, true, true, true, true, true, true, false, false, false, false, false, false, false, false, false, false, false, false, false, false, false, false, false, false] rfl rfl (take_ofW HT_.out HW_.out (by kernel_rfl)) (fun _ _ _ h => h) (Or.inl ⟨by rfl, ?_⟩) hHeld ?_ ?_
        rotate_left
        · rintro w' ⟨s0, s1, s2, s3⟩
          go_simp
          with_reducible rfl
        rotate_left
        · simp only [Act.put, List.setIfInBounds_toArray, List.set_cons_zero, List.set_cons_succ, i64_w, i32_w]
          rfl
        refine pure_ (i := 7) (N := some 50) (v := ?_) (a' := ?_) #[true, true, true, true, true, true, true, true, false, false, false, false, false, false, false, false, false, false, false, false, false, false, false, false, false] rfl rfl (any_of HT_.out (by kernel_rfl)) (fun _ _ _ h => h) (Or.inl ⟨by rfl, ?_⟩) ?_ ?_
        rotate_left
        · intro w'
          go_simp
          with_reducible rfl
        rotate_left
        · simp only [Act.put, List.setIfInBounds_toArray, List.set_cons_zero, List.set_cons_succ, i64_w, i32_w]
          rfl
        refine pure_ (i := 8) (N := some 51) (v := ?_) (a' := ?_) #[true, true, true, true, true, true, true, true, true, false, false, false, false, false, false, false, false, false, false, false, false, false, false, false, false] rfl rfl (any_of HT_.out (by kernel_rfl)) (fun _ _ _ h => h) (Or.inl ⟨by rfl, ?_⟩) ?_ ?_
        rotate_left
        · intro w'
          go_simp
          with_reducible rfl
        rotate_left
        · simp only [Act.put, List.setIfInBounds_toArray, List.set_cons_zero, List.set_cons_succ, i64_w, i32_w]
          rfl
        refine take_ (i := 9) (N := some 52) (v := ?_) (a' := ?_) #[true, true, true, true, true, true, true, true, true, true, false, false, false, false, false, false, false, false, false, false, false, false, false, false, false] rfl rfl (take_ofW HT_.out HW_.out (by kernel_rfl)) (fun _ _ _ h => h) (Or.inl ⟨by rfl, ?_⟩) hHeld ?_ ?_
        rotate_left
        · rintro w' ⟨s0, s1, s2, s3⟩
          go_simp
          with_reducible rfl
        rotate_left
        · simp only [Act.put, List.setIfInBounds_toArray, List.set_cons_zero, List.set_cons_succ, i64_w, i32_w]
          rfl
        refine pure_ (i := 10) (N := some 53) (v := ?_) (a' := ?_) #[true, true, true, true, true, true, true, true, true, true, true, false, false, false, false, false, false, false, false, false, false, false, false, false, false] rfl rfl (any_of HT_.out (by kernel_rfl)) (fun _ _ _ h => h) (Or.inl ⟨by rfl, ?_⟩) ?_ ?_
        rotate_left
        · intro w'
          go_simp
          with_reducible rfl
        rotate_left
        · simp only [Act.put, List.setIfInBounds_toArray, List.set_cons_zero, List.set_cons_succ, i64_w, i32_w]
          rfl
        refine pure_ (i := 11) (N := some 54) (v := ?_) (a' := ?_) #[true, true, true, true, true, true, true, true, true, true, true, true, false, false, false, false, false, false, false, false, false, false, false, false, false] rfl rfl (any_of HT_.out (by kernel_rfl)) (fun _ _ _ h => h) (Or.inl ⟨by rfl, ?_⟩) ?_ ?_
        rotate_left
        · intro w'
          go_simp
          with_reducible rfl
        rotate_left
        · simp only [Act.put, List.setIfInBounds_toArray, List.set_cons_zero, List.set_cons_succ, i64_w, i32_w]
          rfl
        refine pure_ (i := 12) (N := some 55) (v := ?_) (a' := ?_) #[true, true, true, true, true, true, true, true, true, true, true, true, true, false, false, false, false, false, false, false, false, false, false, false, false] rfl rfl (any_of HT_.out (by kernel_rfl)) (fun _ _ _ h => h) (Or.inl ⟨by rfl, ?_⟩) ?_ ?_
        rotate_left
        · intro w'
          go_simp
          with_reducible rfl
        rotate_left
        · simp only [Act.put, List.setIfInBounds_toArray, List.set_cons_zero, List.set_cons_succ, i64_w, i32_w]
          rfl
        refine take_ (i := 13) (N := some 56) (v := ?_) (a' := ?_) #[true, true, true, true, true, true, true, true, true, true, true, true, true, true, false, false, false, false, false, false, false, false, false, false, false] rfl rfl (take_ofW HT_.out HW_.out (by kernel_rfl)) (fun _ _ _ h => h) (Or.inl ⟨by rfl, ?_⟩) hHeld ?_ ?_
        rotate_left
        · rintro w' ⟨s0, s1, s2, s3⟩
          go_simp
          with_reducible rfl
        rotate_left
        · simp only [Act.put, List.setIfInBounds_toArray, List.set_cons_zero, List.set_cons_succ, i64_w, i32_w]
          rfl
        refine pure_ (i := 14) (N := some 57) (v := ?_) (a' := ?_) #[true, true, true, true, true, true, true, true, true, true, true, true, true, true, true, false, false, false, false, false, false, false, false, false, false] rfl rfl (any_of HT_.out (by kernel_rfl)) (fun _ _ _ h => h) (Or.inl ⟨by rfl, ?_⟩) ?_ ?_
        rotate_left
        · intro w'
          go_simp
          with_reducible rfl
        rotate_left
        · simp only [Act.put, List.setIfInBounds_toArray, List.set_cons_zero, List.set_cons_succ, i64_w, i32_w]
          rfl
        refine take_ (i := 15) (N := some 58) (v := ?_) (a' := ?_) #[true, true, true, true, true, true, true, true, true, true, true, true, true, true, true, true, false, false, false, false, false, false, false, false, false] rfl rfl (take_ofW HT_.out HW_.out (by kernel_rfl)) (fun _ _ _ h => h) (Or.inl ⟨by rfl, ?_⟩) hHeld ?_ ?_
        rotate_left
        · rintro w' ⟨s0, s1, s2, s3⟩
          go_simp
          with_reducible rfl
        rotate_left
        · simp only [Act.put, List.setIfInBounds_toArray, List.set_cons_zero, List.set_cons_succ, i64_w, i32_w]
          rfl
        refine pure_ (i := 16) (N := some 59) (v := ?_) (a' := ?_) #[true, true, true, true, true, true, true, true, true, true, true, true, true, true, true, true, true, false, false, false, false, false, false, false, false] rfl rfl (any_of HT_.out (by kernel_rfl)) (fun _ _ _ h => h) (Or.inl ⟨by rfl, ?_⟩) ?_ ?_
        rotate_left
        · intro w'
          go_simp
          with_reducible rfl
        rotate_left
        · simp only [Act.put, List.setIfInBounds_toArray, List.set_cons_zero, List.set_cons_succ, i64_w, i32_w]
          rfl
        refine take_ (i := 17) (N := some 60) (v := ?_) (a' := ?_) #[true, true, true, true, true, true, true, true, true, true, true, true, true, true, true, true, true, true, false, false, false, false, false, false, false] rfl rfl (take_ofW HT_.out HW_.out (by kernel_rfl)) (fun _ _ _ h => h) (Or.inl ⟨by rfl, ?_⟩) hHeld ?_ ?_
        rotate_left
        · rintro w' ⟨s0, s1, s2, s3⟩
          go_simp
          with_reducible rfl
        rotate_left
        · simp only [Act.put, List.setIfInBounds_toArray, List.set_cons_zero, List.set_cons_succ, i64_w, i32_w]
          rfl
        refine pure_ (i := 18) (N := some 61) (v := ?_) (a' := ?_) #[true, true, true, true, true, true, true, true, true, true, true, true, true, true, true, true, true, true, true, false, false, false, false, false, false] rfl rfl (any_of HT_.out (by kernel_rfl)) (fun _ _ _ h => h) (Or.inl ⟨by rfl, ?_⟩) ?_ ?_
        rotate_left
        · intro w'
          go_simp
          with_reducible rfl
        rotate_left
        · simp only [Act.put, List.setIfInBounds_toArray, List.set_cons_zero, List.set_cons_succ, i64_w, i32_w]
          rfl
        refine pure_ (i := 19) (N := some 62) (v := ?_) (a' := ?_) #[true, true, true, true, true, true, true, true, true, true, true, true, true, true, true, true, true, true, true, true, false, false, false, false, false] rfl rfl (any_of HT_.out (by kernel_rfl)) (fun _ _ _ h => h) (Or.inl ⟨by rfl, ?_⟩) ?_ ?_
        rotate_left
        · intro w'
          go_simp
          with_reducible rfl
        rotate_left
        · simp only [Act.put, List.setIfInBounds_toArray, List.set_cons_zero, List.set_cons_succ, i64_w, i32_w]
          rfl
        refine pure_ (i := 20) (N := some 63) (v := ?_) (a' := ?_) #[true, true, true, true, true, true, true, true, true, true, true, true, true, true, true, true, true, true, true, true, true, false, false, false, false] rfl rfl (any_of HT_.out (by kernel_rfl)) (fun _ _ _ h => h) (Or.inl ⟨by rfl, ?_⟩) ?_ ?_
        rotate_left
        · intro w'
          go_simp
          with_reducible rfl
        rotate_left
        · simp only [Act.put, List.setIfInBounds_toArray, List.set_cons_zero, List.set_cons_succ, i64_w, i32_w]
          rfl
        refine take_ (i := 21) (N := some 64) (v := ?_) (a' := ?_) #[true, true, true, true, true, true, true, true, true, true, true, true, true, true, true, true, true, true, true, true, true, true, false, false, false] rfl rfl (take_ofW HT_.out HW_.out (by kernel_rfl)) (fun _ _ _ h => h) (Or.inl ⟨by rfl, ?_⟩) hHeld ?_ ?_
        rotate_left
        · rintro w' ⟨s0, s1, s2, s3⟩
          go_simp
          with_reducible rfl
        rotate_left
        · simp only [Act.put, List.setIfInBounds_toArray, List.set_cons_zero, List.set_cons_succ, i64_w, i32_w]
          rfl
        refine pure_ (i := 22) (N := some 65) (v := ?_) (a' := ?_) #[true, true, true, true, true, true, true, true, true, true, true, true, true, true, true, true, true, true, true, true, true, true, true, false, false] rfl rfl (any_of HT_.out (by kernel_rfl)) (fun _ _ _ h => h) (Or.inl ⟨by rfl, ?_⟩) ?_ ?_
        rotate_left
        · intro w'
          go_simp
          with_reducible rfl
        rotate_left
        · simp only [Act.put, List.setIfInBounds_toArray, List.set_cons_zero, List.set_cons_succ, i64_w, i32_w]
          rfl
        refine pure_ (i := 23) (N := some 66) (v := ?_) (a' := ?_) #[true, true, true, true, true, true, true, true, true, true, true, true, true, true, true, true, true, true, true, true, true, true, true, true, false] rfl rfl (any_of HT_.out (by kernel_rfl)) (fun _ _ _ h => h) (Or.inl ⟨by rfl, ?_⟩) ?_ ?_
        rotate_left
        · intro w'
          go_simp
          with_reducible rfl
        rotate_left
        · simp only [Act.put, List.setIfInBounds_toArray, List.set_cons_zero, List.set_cons_succ, i64_w, i32_w]
          rfl
        refine last_ (i := 24) (N := none) #[true, true, true, true, true, true, true, true, true, true, true, true, true, true, true, true, true, true, true, true, true, true, true, true, true] rfl rfl (one_of HT_.out (by kernel_rfl)) (by decide) (fun K hK => ?_)
        obtain ⟨s0, s1, s2, s3⟩ := hHeld
        go_simp
        refine hK.out _ _ ?_
        refine done_ (done_of HT_.out (by kernel_rfl)) ?_
        subst hwd
        clear f0' s0 s1 s2 s3
        go_wp2_with fail
        go_roundw
        case rel => exact ⟨j + 1, by omega, by rw [HT.out.1, ctF_snoc, hc.out], by go_num, ⟨by rw [HT.out.1, ← szRow_put _ _ HT.out.2.1 HT.out.2.2, ← IntWalk.i64_left]; exact blk_set HI.out.1 _ _, (HI.out.2.setCell (p := ⟨w3.heap.size, t.f2.toNat, none⟩) hgs _).drew⟩⟩
        case measure => simp [intOf]; omega
      · have hc : Aside0 (stepC (ctF (zs.take j)) t = ctF (zs.take j)) := ⟨if_neg z⟩
        go_upto_region 12 with fail
        clear z
        refine start_ (n := 25) (S := fun w' => w'.cell? ⟨w1.heap.size, 4, none⟩ = some (.slice (some ad) zs.length k) ∧ w'.cell? ⟨(ad.add (j * 9)).block, (ad.add (j * 9)).off + 2, none⟩ = some (.int .i64 t.f2) ∧ w'.cell? ⟨(ad.add (j * 9)).block, (ad.add (j * 9)).off + 5, none⟩ = some (.int .i64 t.f5) ∧ w'.cell? ⟨w3.heap.size, t.f2.toNat, none⟩ = some (.int .i64 (szF t.f2 (zs.take j)))) (ds := [24]) #[false, false, false, false, false, false, false, false, false, false, false, false, false, false, false, false, false, false, false, false, false, false, false, false, false] (by kernel_rfl) rfl rfl ⟨x4, k2, k5, s0⟩ (fun hHeld => ?_); refine with_tabW picks_tab12 picks_bits12 (fun HT_ HW_ => ?_)
        clear x4 k2 k5 s0 s0' f0
        generalize hwd : wr.drew = wd at f0' hHeld ⊢
        refine pure_ (i := 0) (N := some 43) (v := ?_) (a' := ?_) #[true, false, false, false, false, false, false, false, false, false, false, false, false, false, false, false, false, false, false, false, false, false, false, false, false] rfl rfl (any_of HT_.out (by kernel_rfl)) (fun _ _ _ h => h) (Or.inl ⟨by rfl, ?_⟩) ?_ ?_
        rotate_left
        · intro w'
          go_simp
          with_reducible rfl
        rotate_left
        · simp only [Act.put, List.setIfInBounds_toArray, List.set_cons_zero, List.set_cons_succ, i64_w, i32_w]
          rfl
        refine pure_ (i := 1) (N := some 44) (v := ?_) (a' := ?_) #[true, true, false, false, false, false, false, false, false, false, false, false, false, false, false, false, false, false, false, false, false, false, false, false, false] rfl rfl (any_of HT_.out (by kernel_rfl)) (fun _ _ _ h => h) (Or.inl ⟨by rfl, ?_⟩) ?_ ?_
        rotate_left
        · intro w'
          go_simp
          with_reducible rfl
        rotate_left
        · simp only [Act.put, List.setIfInBounds_toArray, List.set_cons_zero, List.set_cons_succ, i64_w, i32_w]
          rfl
        refine take_ (i := 2) (N := some 45) (v := ?_) (a' := ?_) #[true, true, true, false, false, false, false, false, false, false, false, false, false, false, false, false, false, false, false, false, false, false, false, false, false] rfl rfl (take_ofW HT_.out HW_.out (by kernel_rfl)) (fun _ _ _ h => h) (Or.inl ⟨by rfl, ?_⟩) hHeld ?_ ?_
        rotate_left
        · rintro w' ⟨s0, s1, s2, s3⟩
          go_simp
          with_reducible rfl
        rotate_left
        · simp only [Act.put, List.setIfInBounds_toArray, List.set_cons_zero, List.set_cons_succ, i64_w, i32_w]
          rfl
        refine pure_ (i := 3) (N := some 46) (v := ?_) (a' := ?_) #[true, true, true, true, false, false, false, false, false, false, false, false, false, false, false, false, false, false, false, false, false, false, false, false, false] rfl rfl (any_of HT_.out (by kernel_rfl)) (fun _ _ _ h => h) (Or.inl ⟨by rfl, ?_⟩) ?_ ?_
        rotate_left
        · intro w'
          go_simp
          with_reducible rfl
        rotate_left
        · simp only [Act.put, List.setIfInBounds_toArray, List.set_cons_zero, List.set_cons_succ, i64_w, i32_w]
          rfl
        refine pure_ (i := 4) (N := some 47) (v := ?_) (a' := ?_) #[true, true, true, true, true, false, false, false, false, false, false, false, false, false, false, false, false, false, false, false, false, false, false, false, false] rfl rfl (any_of HT_.out (by kernel_rfl)) (fun _ _ _ h => h) (Or.inl ⟨by rfl, ?_⟩) ?_ ?_
        rotate_left
        · intro w'
          go_simp
          with_reducible rfl
        rotate_left
        · simp only [Act.put, List.setIfInBounds_toArray, List.set_cons_zero, List.set_cons_succ, i64_w, i32_w]
          rfl
        refine pure_ (i := 5) (N := some 48) (v := ?_) (a' := ?_) #[true, true, true, true, true, true, false, false, false, false, false, false, false, false, false, false, false, false, false, false, false, false, false, false, false] rfl rfl (any_of HT_.out (by kernel_rfl)) (fun _ _ _ h => h) (Or.inl ⟨by rfl, ?_⟩) ?_ ?_
        rotate_left
        · intro w'
          go_simp
          with_reducible rfl
        rotate_left
        · simp only [Act.put, List.setIfInBounds_toArray, List.set_cons_zero, List.set_cons_succ, i64_w, i32_w]
          rfl
        refine take_ (i := 6) (N := some 49) (v := ?_) (a' := ?_) #[true, true, true, true, true, true, true, false, false, false, false, false, false, false, false, false, false, false, false, false, false, false, false, false, false] rfl rfl (take_ofW HT_.out HW_.out (by kernel_rfl)) (fun _ _ _ h => h) (Or.inl ⟨by rfl, ?_⟩) hHeld ?_ ?_
        rotate_left
        · rintro w' ⟨s0, s1, s2, s3⟩
          go_simp
          with_reducible rfl
        rotate_left
        · simp only [Act.put, List.setIfInBounds_toArray, List.set_cons_zero, List.set_cons_succ, i64_w, i32_w]
          rfl
        refine pure_ (i := 7) (N := some 50) (v := ?_) (a' := ?_) #[true, true, true, true, true, true, true, true, false, false, false, false, false, false, false, false, false, false, false, false, false, false, false, false, false] rfl rfl (any_of HT_.out (by kernel_rfl)) (fun _ _ _ h => h) (Or.inl ⟨by rfl, ?_⟩) ?_ ?_
        rotate_left
        · intro w'
          go_simp
          with_reducible rfl
        rotate_left
        · simp only [Act.put, List.setIfInBounds_toArray, List.set_cons_zero, List.set_cons_succ, i64_w, i32_w]
          rfl
        refine pure_ (i := 8) (N := some 51) (v := ?_) (a' := ?_) #[true, true, true, true, true, true, true, true, true, false, false, false, false, false, false, false, false, false, false, false, false, false, false, false, false] rfl rfl (any_of HT_.out (by kernel_rfl)) (fun _ _ _ h => h) (Or.inl ⟨by rfl, ?_⟩) ?_ ?_
        rotate_left
        · intro w'
          go_simp
          with_reducible rfl
        rotate_left
        · simp only [Act.put, List.setIfInBounds_toArray, List.set_cons_zero, List.set_cons_succ, i64_w, i32_w]
          rfl
        refine take_ (i := 9) (N := some 52) (v := ?_) (a' := ?_) #[true, true, true, true, true, true, true, true, true, true, false, false, false, false, false, false, false, false, false, false, false, false, false, false, false] rfl rfl (take_ofW HT_.out HW_.out (by kernel_rfl)) (fun _ _ _ h => h) (Or.inl ⟨by rfl, ?_⟩) hHeld ?_ ?_
        rotate_left
        · rintro w' ⟨s0, s1, s2, s3⟩
          go_simp
          with_reducible rfl
        rotate_left
        · simp only [Act.put, List.setIfInBounds_toArray, List.set_cons_zero, List.set_cons_succ, i64_w, i32_w]
          rfl
        refine pure_ (i := 10) (N := some 53) (v := ?_) (a' := ?_) #[true, true, true, true, true, true, true, true, true, true, true, false, false, false, false, false, false, false, false, false, false, false, false, false, false] rfl rfl (any_of HT_.out (by kernel_rfl)) (fun _ _ _ h => h) (Or.inl ⟨by rfl, ?_⟩) ?_ ?_
        rotate_left
        · intro w'
          go_simp
          with_reducible rfl
        rotate_left
        · simp only [Act.put, List.setIfInBounds_toArray, List.set_cons_zero, List.set_cons_succ, i64_w, i32_w]
          rfl
        refine pure_ (i := 11) (N := some 54) (v := ?_) (a' := ?_) #[true, true, true, true, true, true, true, true, true, true, true, true, false, false, false, false, false, false, false, false, false, false, false, false, false] rfl rfl (any_of HT_.out (by kernel_rfl)) (fun _ _ _ h => h) (Or.inl ⟨by rfl, ?_⟩) ?_ ?_
        rotate_left
        · intro w'
          go_simp
          with_reducible rfl
        rotate_left
        · simp only [Act.put, List.setIfInBounds_toArray, List.set_cons_zero, List.set_cons_succ, i64_w, i32_w]
          rfl
        refine pure_ (i := 12) (N := some 55) (v := ?_) (a' := ?_) #[true, true, true, true, true, true, true, true, true, true, true, true, true, false, false, false, false, false, false, false, false, false, false, false, false] rfl rfl (any_of HT_.out (by kernel_rfl)) (fun _ _ _ h => h) (Or.inl ⟨by rfl, ?_⟩) ?_ ?_
        rotate_left
        · intro w'
          go_simp
          with_reducible rfl
        rotate_left
        · simp only [Act.put, List.setIfInBounds_toArray, List.set_cons_zero, List.set_cons_succ, i64_w, i32_w]
          rfl
        refine take_ (i := 13) (N := some 56) (v := ?_) (a' := ?_) #[true, true, true, true, true, true, true, true, true, true, true, true, true, true, false, false, false, false, false, false, false, false, false, false, false] rfl rfl (take_ofW HT_.out HW_.out (by kernel_rfl)) (fun _ _ _ h => h) (Or.inl ⟨by rfl, ?_⟩) hHeld ?_ ?_
        rotate_left
        · rintro w' ⟨s0, s1, s2, s3⟩
          go_simp
          with_reducible rfl
        rotate_left
        · simp only [Act.put, List.setIfInBounds_toArray, List.set_cons_zero, List.set_cons_succ, i64_w, i32_w]
          rfl
        refine pure_ (i := 14) (N := some 57) (v := ?_) (a' := ?_) #[true, true, true, true, true, true, true, true, true, true, true, true, true, true, true, false, false, false, false, false, false, false, false, false, false] rfl rfl (any_of HT_.out (by kernel_rfl)) (fun _ _ _ h => h) (Or.inl ⟨by rfl, ?_⟩) ?_ ?_
        rotate_left
        · intro w'
          go_simp
          with_reducible rfl
        rotate_left
        · simp only [Act.put, List.setIfInBounds_toArray, List.set_cons_zero, List.set_cons_succ, i64_w, i32_w]
          rfl
        refine take_ (i := 15) (N := some 58) (v := ?_) (a' := ?_) #[true, true, true, true, true, true, true, true, true, true, true, true, true, true, true, true, false, false, false, false, false, false, false, false, false] rfl rfl (take_ofW HT_.out HW_.out (by kernel_rfl)) (fun _ _ _ h => h) (Or.inl ⟨by rfl, ?_⟩) hHeld ?_ ?_
        rotate_left
        · rintro w' ⟨s0, s1, s2, s3⟩
          go_simp
          with_reducible rfl
        rotate_left
        · simp only [Act.put, List.setIfInBounds_toArray, List.set_cons_zero, List.set_cons_succ, i64_w, i32_w]
          rfl
        refine pure_ (i := 16) (N := some 59) (v := ?_) (a' := ?_) #[true, true, true, true, true, true, true, true, true, true, true, true, true, true, true, true, true, false, false, false, false, false, false, false, false] rfl rfl (any_of HT_.out (by kernel_rfl)) (fun _ _ _ h => h) (Or.inl ⟨by rfl, ?_⟩) ?_ ?_
        rotate_left
        · intro w'
          go_simp
          with_reducible rfl
        rotate_left
        · simp only [Act.put, List.setIfInBounds_toArray, List.set_cons_zero, List.set_cons_succ, i64_w, i32_w]
          rfl
        refine take_ (i := 17) (N := some 60) (v := ?_) (a' := ?_) #[true, true, true, true, true, true, true, true, true, true, true, true, true, true, true, true, true, true, false, false, false, false, false, false, false] rfl rfl (take_ofW HT_.out HW_.out (by kernel_rfl)) (fun _ _ _ h => h) (Or.inl ⟨by rfl, ?_⟩) hHeld ?_ ?_
        rotate_left
        · rintro w' ⟨s0, s1, s2, s3⟩
          go_simp
          with_reducible rfl
        rotate_left
        · simp only [Act.put, List.setIfInBounds_toArray, List.set_cons_zero, List.set_cons_succ, i64_w, i32_w]
          rfl
        refine pure_ (i := 18) (N := some 61) (v := ?_) (a' := ?_) #[true, true, true, true, true, true, true, true, true, true, true, true, true, true, true, true, true, true, true, false, false, false, false, false, false] rfl rfl (any_of HT_.out (by kernel_rfl)) (fun _ _ _ h => h) (Or.inl ⟨by rfl, ?_⟩) ?_ ?_
        rotate_left
        · intro w'
          go_simp
          with_reducible rfl
        rotate_left
        · simp only [Act.put, List.setIfInBounds_toArray, List.set_cons_zero, List.set_cons_succ, i64_w, i32_w]
          rfl
        refine pure_ (i := 19) (N := some 62) (v := ?_) (a' := ?_) #[true, true, true, true, true, true, true, true, true, true, true, true, true, true, true, true, true, true, true, true, false, false, false, false, false] rfl rfl (any_of HT_.out (by kernel_rfl)) (fun _ _ _ h => h) (Or.inl ⟨by rfl, ?_⟩) ?_ ?_
        rotate_left
        · intro w'
          go_simp
          with_reducible rfl
        rotate_left
        · simp only [Act.put, List.setIfInBounds_toArray, List.set_cons_zero, List.set_cons_succ, i64_w, i32_w]
          rfl
        refine pure_ (i := 20) (N := some 63) (v := ?_) (a' := ?_) #[true, true, true, true, true, true, true, true, true, true, true, true, true, true, true, true, true, true, true, true, true, false, false, false, false] rfl rfl (any_of HT_.out (by kernel_rfl)) (fun _ _ _ h => h) (Or.inl ⟨by rfl, ?_⟩) ?_ ?_
        rotate_left
        · intro w'
          go_simp
          with_reducible rfl
        rotate_left
        · simp only [Act.put, List.setIfInBounds_toArray, List.set_cons_zero, List.set_cons_succ, i64_w, i32_w]
          rfl
        refine take_ (i := 21) (N := some 64) (v := ?_) (a' := ?_) #[true, true, true, true, true, true, true, true, true, true, true, true, true, true, true, true, true, true, true, true, true, true, false, false, false] rfl rfl (take_ofW HT_.out HW_.out (by kernel_rfl)) (fun _ _ _ h => h) (Or.inl ⟨by rfl, ?_⟩) hHeld ?_ ?_
        rotate_left
        · rintro w' ⟨s0, s1, s2, s3⟩
          go_simp
          with_reducible rfl
        rotate_left
        · simp only [Act.put, List.setIfInBounds_toArray, List.set_cons_zero, List.set_cons_succ, i64_w, i32_w]
          rfl
        refine pure_ (i := 22) (N := some 65) (v := ?_) (a' := ?_) #[true, true, true, true, true, true, true, true, true, true, true, true, true, true, true, true, true, true, true, true, true, true, true, false, false] rfl rfl (any_of HT_.out (by kernel_rfl)) (fun _ _ _ h => h) (Or.inl ⟨by rfl, ?_⟩) ?_ ?_
        rotate_left
        · intro w'
          go_simp
          with_reducible rfl
        rotate_left
        · simp only [Act.put, List.setIfInBounds_toArray, List.set_cons_zero, List.set_cons_succ, i64_w, i32_w]
          rfl
        refine pure_ (i := 23) (N := some 66) (v := ?_) (a' := ?_) #[true, true, true, true, true, true, true, true, true, true, true, true, true, true, true, true, true, true, true, true, true, true, true, true, false] rfl rfl (any_of HT_.out (by kernel_rfl)) (fun _ _ _ h => h) (Or.inl ⟨by rfl, ?_⟩) ?_ ?_
        rotate_left
        · intro w'
          go_simp
          with_reducible rfl
        rotate_left
        · simp only [Act.put, List.setIfInBounds_toArray, List.set_cons_zero, List.set_cons_succ, i64_w, i32_w]
          rfl
        refine last_ (i := 24) (N := none) #[true, true, true, true, true, true, true, true, true, true, true, true, true, true, true, true, true, true, true, true, true, true, true, true, true] rfl rfl (one_of HT_.out (by kernel_rfl)) (by decide) (fun K hK => ?_)
        obtain ⟨s0, s1, s2, s3⟩ := hHeld
        go_simp
        refine hK.out _ _ ?_
        refine done_ (done_of HT_.out (by kernel_rfl)) ?_
        subst hwd
        clear f0' s0 s1 s2 s3
        go_wp2_with fail
        go_roundw
        case rel => exact ⟨j + 1, by omega, by rw [HT.out.1, ctF_snoc, hc.out], by go_num, ⟨by rw [HT.out.1, ← szRow_put _ _ HT.out.2.1 HT.out.2.2, ← IntWalk.i64_left]; exact blk_set HI.out.1 _ _, (HI.out.2.setCell (p := ⟨w3.heap.size, t.f2.toNat, none⟩) hgs _).drew⟩⟩
        case measure => simp [intOf]; omega
    · have hjz : j = zs.length := by omega
      subst hjz
      rw [List.take_length] at HI ⊢
      clear hj hlt
      rename World => wl
      have HS := Aside0.mk HI.out.1
      have HBL := Aside0.mk HI.out.2
      have c0 : ∀ W, Calls Try.prog 7 #[.int .i64 (ctF zs), .float .f64 4616189618054758400] W fun e W' => e = .returned (.float .f64 (lv0 zs)) ∧ W' = W := fun W => score_calls _ _ W
      clear HI hv3
      go_upto_region 15 with (first | (go_at_call 7; (with_reducible refine (c0 _).mono ?_); rintro _ w9 ⟨rfl, h9⟩; obtain rfl := h9.symm; clear h9) | (at_builtin; refine Kd.R_append kF64 (w0 := wl) wl.heap.size rfl (.tmp 67) (.tmp 70) 35 23 (.float .f64 0) 8 rfl Try.underlying35 info23 rfl (by decide) (by omega) _ [] (lv0 zs) [.float .f64 (lv0 zs)] (fun _ => True) (fun k => k ≠ k ∧ False) rfl (by first | (go_simp; done) | (go_simp; rfl)) rfl (fun _ hk => hk.2.elim) (fun _ _ => trivial) (Kd.R_nil _ _ _ _ _) (Below.refl _ _) (Nat.le_refl _) ?aM ?_; (case aM => simp only [List.length_nil]; omega); intro v11 w6 hR6 hb6 hg6 hat6; clear hg6 hat6; have HV6 := Aside0.mk hR6; clear hR6; have HB6 := Aside0.mk hb6; clear hb6))
      clear c0 x4
      go_wp2_with fail
      go_loopw [11, 12] (fun v11 kq wx => ∃ m : Nat, 1 ≤ m ∧ m ≤ 4 ∧ kq = .int .i64 m ∧ Aside0 (Kd.R kF64 23 wx wl.heap.size (fun _ => True) v11 ([lv0 zs, lvF zs ts 1, lvF zs ts 2, lvF zs ts 3].take m) ∧ Below wl.heap.size wl wx)) (fun _ kq _ => 10 - (intOf kq).toNat)
      case atStart => exact ⟨1, Nat.le_refl _, by omega, rfl, ⟨HV6.out, HB6.out⟩⟩
      case round =>
        clear HV6 HB6
        obtain ⟨m, hm1, hm4, rfl, HI⟩ := hrel
        by_cases hlt : m < 4
        · have hm : m = 1 ∨ m = 2 ∨ m = 3 := by omega
          rcases hm with rfl | rfl | rfl
          · rw [show ((1 : Nat) : Int) = 1 from rfl]
            by_cases hc : 1 ≤ ts.length
            · have lc : (1 : Int) ≤ (ts.length : Int) := by omega
              have lb : (0 : Int) < (ts.length : Int) := by omega
              have sw : IntKind.i64.wrap 0 = 0 := by decide
              have ln : 0 < ts.length := by omega
              obtain ⟨ad1, e1, y1⟩ := at_F64 (Kd.C_below HR2.out HBL.out) 0 (by omega) (by omega)
              subst e1
              have q0 : wl.cell? ⟨w3.heap.size, 1, none⟩ = some (.int .i64 (szF 1 zs)) := (blk_cell HS.out 1).trans rfl
              have q1 : wl.cell? ad1 = some (.float .f64 (rdOf (0 : Nat) ts 0)) := by first | exact y1 | (unfold Addr.add at y1; exact y1)
              have cs : ∀ W, Calls Try.prog 7 #[.int .i64 (szF 1 zs), .float .f64 (rdOf (0 : Nat) ts 0)] W fun e W' => e = .returned (.float .f64 (lvF zs ts 1)) ∧ W' = W := fun W => by
                have h := score_calls (szF 1 zs) (rdOf (0 : Nat) ts 0) W
                rwa [show scoreF (szF 1 zs) (rdOf (0 : Nat) ts 0) = lvF zs ts 1 from (if_pos hc).symm] at h
              generalize rdOf (0 : Nat) ts 0 = X at q1 cs
              generalize szF 1 zs = Z at q0 cs
              clear y1
              have p0 := keep_cell HI.out.2 q0
              have p1 := keep_cell HI.out.2 q1
              go_upto_region 19 with fail
              go_region_held3 (fun w' => w'.cell? ⟨w3.heap.size, 1, none⟩ = some (.int .i64 Z) ∧ w'.cell? ad1 = some (.float .f64 X)) (first | (refine ⟨keep_cell (W := wl) ?_ q0, keep_cell (W := wl) ?_ q1⟩ <;> (repeat (first | with_reducible exact HI.out.2 | with_reducible exact HB7.out | with_reducible refine bal ?_ | with_reducible refine bdr ?_)); done) | go_keep) (first | (go_at_call 7; (with_reducible refine (cs _).mono ?_); rintro _ w9 ⟨rfl, h9⟩; obtain rfl := h9.symm; clear h9) | (refine Kd.R_append_step kF64 (w0 := wl) wl.heap.size (by rfl) (.tmp 80) (.tmp 91) 35 23 (.float .f64 0) 8 rfl Try.underlying35 info23 rfl (by decide) (by omega) _ ([lv0 zs, lvF zs ts 1, lvF zs ts 2, lvF zs ts 3].take 1) (lvF zs ts 1) [.float .f64 (lvF zs ts 1)] (fun _ => True) (fun k => k ≠ k ∧ False) rfl (by first | (go_simp; done) | (go_simp; rfl)) rfl (fun _ hk => hk.2.elim) (fun _ _ => trivial) (Kd.R_below HI.out.1 (Below.refl _ wr).drew) HI.out.2.drew HI.out.2.size (show (1 + 1) * 8 ≤ 140737488355328 by decide) ?_; intro v7 w7 hR7 hb7 hg7 hat7; clear hg7 hat7; have HV7 := Aside0.mk hR7; clear hR7; have HB7 := Aside0.mk hb7; clear hb7))
              clear q0 q1 p0 p1 sw
              go_wp2_with fail
              have sm : IntKind.i64.wrap (1 + 1) = 2 := by decide
              go_roundw
              case rel => exact ⟨2, by omega, by omega, by go_num, ⟨HV7.out, HB7.out⟩⟩
              case measure => simp [intOf]
            · have e0 : lvF zs ts 1 = 0 := if_neg hc
              have lc : ¬ (1 : Int) ≤ (ts.length : Int) := by omega
              go_upto_region 17 with (at_builtin; refine Kd.R_append kF64 (w0 := wl) wl.heap.size rfl (.tmp 93) (.tmp 94) 35 23 (.float .f64 0) 8 rfl Try.underlying35 info23 rfl (by decide) (by omega) _ ([lv0 zs, lvF zs ts 1, lvF zs ts 2, lvF zs ts 3].take 1) 0 [.float .f64 0] (fun _ => True) (fun k => k ≠ k ∧ False) rfl (by first | (go_simp; done) | (go_simp; rfl)) rfl (fun _ hk => hk.2.elim) (fun _ _ => trivial) HI.out.1 HI.out.2 HI.out.2.size (show (1 + 1) * 8 ≤ 140737488355328 by decide) ?_; intro v7 w7 hR7 hb7 hg7 hat7; clear hg7 hat7; have HV7 := Aside0.mk hR7; clear hR7; have HB7 := Aside0.mk hb7; clear hb7)
              go_wp2_with fail
              have sm : IntKind.i64.wrap (1 + 1) = 2 := by decide
              go_roundw
              case rel => exact ⟨2, by omega, by omega, by go_num, ⟨by have h := HV7.out; rw [show [lv0 zs, lvF zs ts 1, lvF zs ts 2, lvF zs ts 3].take 2 = [lv0 zs, lvF zs ts 1, lvF zs ts 2, lvF zs ts 3].take 1 ++ [lvF zs ts 1] from rfl, e0]; exact h, HB7.out⟩⟩
              case measure => simp [intOf]
          · rw [show ((2 : Nat) : Int) = 2 from rfl]
            by_cases hc : 2 ≤ ts.length
            · have lc : (2 : Int) ≤ (ts.length : Int) := by omega
              have lb : (1 : Int) < (ts.length : Int) := by omega
              have sw : IntKind.i64.wrap 1 = 1 := by decide
              have ln : 1 < ts.length := by omega
              obtain ⟨ad1, e1, y1⟩ := at_F64 (Kd.C_below HR2.out HBL.out) 1 (by omega) (by omega)
              subst e1
              have q0 : wl.cell? ⟨w3.heap.size, 2, none⟩ = some (.int .i64 (szF 2 zs)) := (blk_cell HS.out 2).trans rfl
              have q1 : wl.cell? ⟨ad1.block, ad1.off + 1, none⟩ = some (.float .f64 (rdOf (0 : Nat) ts 1)) := by first | exact y1 | (unfold Addr.add at y1; exact y1)
              have cs : ∀ W, Calls Try.prog 7 #[.int .i64 (szF 2 zs), .float .f64 (rdOf (0 : Nat) ts 1)] W fun e W' => e = .returned (.float .f64 (lvF zs ts 2)) ∧ W' = W := fun W => by
                have h := score_calls (szF 2 zs) (rdOf (0 : Nat) ts 1) W
                rwa [show scoreF (szF 2 zs) (rdOf (0 : Nat) ts 1) = lvF zs ts 2 from (if_pos hc).symm] at h
              generalize rdOf (0 : Nat) ts 1 = X at q1 cs
              generalize szF 2 zs = Z at q0 cs
              clear y1
              have p0 := keep_cell HI.out.2 q0
              have p1 := keep_cell HI.out.2 q1
              go_upto_region 19 with fail
              go_region_held3 (fun w' => w'.cell? ⟨w3.heap.size, 2, none⟩ = some (.int .i64 Z) ∧ w'.cell? ⟨ad1.block, ad1.off + 1, none⟩ = some (.float .f64 X)) (first | (refine ⟨keep_cell (W := wl) ?_ q0, keep_cell (W := wl) ?_ q1⟩ <;> (repeat (first | with_reducible exact HI.out.2 | with_reducible exact HB7.out | with_reducible refine bal ?_ | with_reducible refine bdr ?_)); done) | go_keep) (first | (go_at_call 7; (with_reducible refine (cs _).mono ?_); rintro _ w9 ⟨rfl, h9⟩; obtain rfl := h9.symm; clear h9) | (refine Kd.R_append_step kF64 (w0 := wl) wl.heap.size (by rfl) (.tmp 80) (.tmp 91) 35 23 (.float .f64 0) 8 rfl Try.underlying35 info23 rfl (by decide) (by omega) _ ([lv0 zs, lvF zs ts 1, lvF zs ts 2, lvF zs ts 3].take 2) (lvF zs ts 2) [.float .f64 (lvF zs ts 2)] (fun _ => True) (fun k => k ≠ k ∧ False) rfl (by first | (go_simp; done) | (go_simp; rfl)) rfl (fun _ hk => hk.2.elim) (fun _ _ => trivial) (Kd.R_below HI.out.1 (Below.refl _ wr).drew) HI.out.2.drew HI.out.2.size (show (2 + 1) * 8 ≤ 140737488355328 by decide) ?_; intro v7 w7 hR7 hb7 hg7 hat7; clear hg7 hat7; have HV7 := Aside0.mk hR7; clear hR7; have HB7 := Aside0.mk hb7; clear hb7))
              clear q0 q1 p0 p1 sw
              go_wp2_with fail
              have sm : IntKind.i64.wrap (2 + 1) = 3 := by decide
              go_roundw
              case rel => exact ⟨3, by omega, by omega, by go_num, ⟨HV7.out, HB7.out⟩⟩
              case measure => simp [intOf]
            · have e0 : lvF zs ts 2 = 0 := if_neg hc
              have lc : ¬ (2 : Int) ≤ (ts.length : Int) := by omega
              go_upto_region 17 with (at_builtin; refine Kd.R_append kF64 (w0 := wl) wl.heap.size rfl (.tmp 93) (.tmp 94) 35 23 (.float .f64 0) 8 rfl Try.underlying35 info23 rfl (by decide) (by omega) _ ([lv0 zs, lvF zs ts 1, lvF zs ts 2, lvF zs ts 3].take 2) 0 [.float .f64 0] (fun _ => True) (fun k => k ≠ k ∧ False) rfl (by first | (go_simp; done) | (go_simp; rfl)) rfl (fun _ hk => hk.2.elim) (fun _ _ => trivial) HI.out.1 HI.out.2 HI.out.2.size (show (2 + 1) * 8 ≤ 140737488355328 by decide) ?_; intro v7 w7 hR7 hb7 hg7 hat7; clear hg7 hat7; have HV7 := Aside0.mk hR7; clear hR7; have HB7 := Aside0.mk hb7; clear hb7)
              go_wp2_with fail
              have sm : IntKind.i64.wrap (2 + 1) = 3 := by decide
              go_roundw
              case rel => exact ⟨3, by omega, by omega, by go_num, ⟨by have h := HV7.out; rw [show [lv0 zs, lvF zs ts 1, lvF zs ts 2, lvF zs ts 3].take 3 = [lv0 zs, lvF zs ts 1, lvF zs ts 2, lvF zs ts 3].take 2 ++ [lvF zs ts 2] from rfl, e0]; exact h, HB7.out⟩⟩
              case measure => simp [intOf]
          · rw [show ((3 : Nat) : Int) = 3 from rfl]
            by_cases hc : 3 ≤ ts.length
            · have lc : (3 : Int) ≤ (ts.length : Int) := by omega
              have lb : (2 : Int) < (ts.length : Int) := by omega
              have sw : IntKind.i64.wrap 2 = 2 := by decide
              have ln : 2 < ts.length := by omega
              obtain ⟨ad1, e1, y1⟩ := at_F64 (Kd.C_below HR2.out HBL.out) 2 (by omega) (by omega)
              subst e1
              have q0 : wl.cell? ⟨w3.heap.size, 3, none⟩ = some (.int .i64 (szF 3 zs)) := (blk_cell HS.out 3).trans rfl
              have q1 : wl.cell? ⟨ad1.block, ad1.off + 2, none⟩ = some (.float .f64 (rdOf (0 : Nat) ts 2)) := by first | exact y1 | (unfold Addr.add at y1; exact y1)
              have cs : ∀ W, Calls Try.prog 7 #[.int .i64 (szF 3 zs), .float .f64 (rdOf (0 : Nat) ts 2)] W fun e W' => e = .returned (.float .f64 (lvF zs ts 3)) ∧ W' = W := fun W => by
                have h := score_calls (szF 3 zs) (rdOf (0 : Nat) ts 2) W
                rwa [show scoreF (szF 3 zs) (rdOf (0 : Nat) ts 2) = lvF zs ts 3 from (if_pos hc).symm] at h
              generalize rdOf (0 : Nat) ts 2 = X at q1 cs
              generalize szF 3 zs = Z at q0 cs
              clear y1
              have p0 := keep_cell HI.out.2 q0
              have p1 := keep_cell HI.out.2 q1
              go_upto_region 19 with fail
              go_region_held3 (fun w' => w'.cell? ⟨w3.heap.size, 3, none⟩ = some (.int .i64 Z) ∧ w'.cell? ⟨ad1.block, ad1.off + 2, none⟩ = some (.float .f64 X)) (first | (refine ⟨keep_cell (W := wl) ?_ q0, keep_cell (W := wl) ?_ q1⟩ <;> (repeat (first | with_reducible exact HI.out.2 | with_reducible exact HB7.out | with_reducible refine bal ?_ | with_reducible refine bdr ?_)); done) | go_keep) (first | (go_at_call 7; (with_reducible refine (cs _).mono ?_); rintro _ w9 ⟨rfl, h9⟩; obtain rfl := h9.symm; clear h9) | (refine Kd.R_append_step kF64 (w0 := wl) wl.heap.size (by rfl) (.tmp 80) (.tmp 91) 35 23 (.float .f64 0) 8 rfl Try.underlying35 info23 rfl (by decide) (by omega) _ ([lv0 zs, lvF zs ts 1, lvF zs ts 2, lvF zs ts 3].take 3) (lvF zs ts 3) [.float .f64 (lvF zs ts 3)] (fun _ => True) (fun k => k ≠ k ∧ False) rfl (by first | (go_simp; done) | (go_simp; rfl)) rfl (fun _ hk => hk.2.elim) (fun _ _ => trivial) (Kd.R_below HI.out.1 (Below.refl _ wr).drew) HI.out.2.drew HI.out.2.size (show (3 + 1) * 8 ≤ 140737488355328 by decide) ?_; intro v7 w7 hR7 hb7 hg7 hat7; clear hg7 hat7; have HV7 := Aside0.mk hR7; clear hR7; have HB7 := Aside0.mk hb7; clear hb7))
              clear q0 q1 p0 p1 sw
              go_wp2_with fail
              have sm : IntKind.i64.wrap (3 + 1) = 4 := by decide
              go_roundw
              case rel => exact ⟨4, by omega, by omega, by go_num, ⟨HV7.out, HB7.out⟩⟩
              case measure => simp [intOf]
            · have e0 : lvF zs ts 3 = 0 := if_neg hc
              have lc : ¬ (3 : Int) ≤ (ts.length : Int) := by omega
              go_upto_region 17 with (at_builtin; refine Kd.R_append kF64 (w0 := wl) wl.heap.size rfl (.tmp 93) (.tmp 94) 35 23 (.float .f64 0) 8 rfl Try.underlying35 info23 rfl (by decide) (by omega) _ ([lv0 zs, lvF zs ts 1, lvF zs ts 2, lvF zs ts 3].take 3) 0 [.float .f64 0] (fun _ => True) (fun k => k ≠ k ∧ False) rfl (by first | (go_simp; done) | (go_simp; rfl)) rfl (fun _ hk => hk.2.elim) (fun _ _ => trivial) HI.out.1 HI.out.2 HI.out.2.size (show (3 + 1) * 8 ≤ 140737488355328 by decide) ?_; intro v7 w7 hR7 hb7 hg7 hat7; clear hg7 hat7; have HV7 := Aside0.mk hR7; clear hR7; have HB7 := Aside0.mk hb7; clear hb7)
              go_wp2_with fail
              have sm : IntKind.i64.wrap (3 + 1) = 4 := by decide
              go_roundw
              case rel => exact ⟨4, by omega, by omega, by go_num, ⟨by have h := HV7.out; rw [show [lv0 zs, lvF zs ts 1, lvF zs ts 2, lvF zs ts 3].take 4 = [lv0 zs, lvF zs ts 1, lvF zs ts 2, lvF zs ts 3].take 3 ++ [lvF zs ts 3] from rfl, e0]; exact h, HB7.out⟩⟩
              case measure => simp [intOf]
        · have hm : m = 4 := by omega
          subst hm
          clear hm1 hm4 hlt
          obtain ⟨A7, c7, e7, hc7, hl7⟩ := Lives.new (S := fun _ => False) HI.out.1 (fun k hk => hk.elim)
          have e8 : u11 = .slice A7 4 c7 := e7
          have HC7 : Kd.C kF64 wr A7 4 [lv0 zs, lvF zs ts 1, lvF zs ts 2, lvF zs ts 3] := hl7.now
          clear e7 hl7
          subst e8
          have HBW : Aside0 (Below w.heap.size w wr) := ⟨HB2.out.trans ((bt HBL.out (HI.out.2)).mono HB2.out.size)⟩
          obtain ⟨ad7, e9, y0⟩ := at_F64 HC7 0 (by decide) (by decide)
          subst e9
          have HC := Aside0.mk HC7
          have ca : ∀ W, Calls Try.prog 14 #[] W fun e W' => e = .returned (.bool true) ∧ W' = W := awake0_calls
          clear HI HC7 y0 HS HBL HB3 HP2 HL2 HR2 HOK hpk
          rename World => wy
          cases r2 with
          | false =>
            obtain ⟨hr1, hmax⟩ := HPP.out.none rfl
            subst hr1
            have h0 := lv0_le zs
            have h1 := lvF_le (xs := zs) HTS.out 1
            have h2 := lvF_le (xs := zs) HTS.out 2
            have h3 := lvF_le (xs := zs) HTS.out 3
            have ho : FloatKind.f64.format.order (max (max (max (lv0 zs) (lvF zs ts 1)) (lvF zs ts 2)) (lvF zs ts 3)) 4607182418800017408 = some .lt := (order_le (by omega) (by decide)).trans (by rw [Nat.compare_eq_lt.mpr hmax])
            have hmx : ∀ W, (Builtin.max_ #[23, 23, 23, 23] 23 #[.float .f64 (lv0 zs), .float .f64 (lvF zs ts 1), .float .f64 (lvF zs ts 2), .float .f64 (lvF zs ts 3)]).run Try.prog W = .ok (.float .f64 (max (max (max (lv0 zs) (lvF zs ts 1)) (lvF zs ts 2)) (lvF zs ts 3))) W := fun W => max_word h0 h1 h2 h3 _ _ W
            generalize max (max (max (lv0 zs) (lvF zs ts 1)) (lvF zs ts 2)) (lvF zs ts 3) = M at ho hmx
            obtain ⟨_, e0, y0⟩ := at_F64 HC.out 0 (by decide) (by decide)
            obtain ⟨_, e1, y1⟩ := at_F64 HC.out 1 (by decide) (by decide)
            obtain ⟨_, e2, y2⟩ := at_F64 HC.out 2 (by decide) (by decide)
            obtain ⟨_, e3, y3⟩ := at_F64 HC.out 3 (by decide) (by decide)
            injection e0 with e0
            injection e1 with e1
            injection e2 with e2
            injection e3 with e3
            subst e0; subst e1; subst e2; subst e3
            have q0 : wy.cell? ad7 = some (.float .f64 (lv0 zs)) := by first | exact y0 | (unfold Addr.add at y0; exact y0)
            have q1 : wy.cell? ⟨ad7.block, ad7.off + 1, none⟩ = some (.float .f64 (lvF zs ts 1)) := by first | exact y1 | (unfold Addr.add at y1; exact y1)
            have q2 : wy.cell? ⟨ad7.block, ad7.off + 2, none⟩ = some (.float .f64 (lvF zs ts 2)) := by first | exact y2 | (unfold Addr.add at y2; exact y2)
            have q3 : wy.cell? ⟨ad7.block, ad7.off + 3, none⟩ = some (.float .f64 (lvF zs ts 3)) := by first | exact y3 | (unfold Addr.add at y3; exact y3)
            clear h0 h1 h2 h3 y0 y1 y2 y3 hmax
            go_upto_region 22 with fail
            rename_i K9 hK9
            go_region_held3 (fun w' => w'.cell? ad7 = some (.float .f64 (lv0 zs)) ∧ w'.cell? ⟨ad7.block, ad7.off + 1, none⟩ = some (.float .f64 (lvF zs ts 1)) ∧ w'.cell? ⟨ad7.block, ad7.off + 2, none⟩ = some (.float .f64 (lvF zs ts 2)) ∧ w'.cell? ⟨ad7.block, ad7.off + 3, none⟩ = some (.float .f64 (lvF zs ts 3))) (first | (with_reducible exact ⟨q0, q1, q2, q3⟩) | (with_reducible exact ⟨kdr q0, kdr q1, kdr q2, kdr q3⟩) | go_keep) (first | (go_at_call 14; (with_reducible refine (ca _).mono ?_); rintro _ w9 ⟨rfl, h9⟩; obtain rfl := h9.symm; clear h9))
            refine hK9 _ _ ?_
            clear q0 q1 q2 q3
            go_wp2_with fail
            go_ret
            exact ⟨rfl, HBW.out.drew⟩
          | true =>
            obtain ⟨m, la, hr1, hm4, hat, hge, hall⟩ := HPP.out.some rfl
            subst hr1
            have hla : la ≤ 9218868437227405312 := by
              have h0 := lv0_le zs
              have h1 := lvF_le (xs := zs) HTS.out 1
              have h2 := lvF_le (xs := zs) HTS.out 2
              have h3 := lvF_le (xs := zs) HTS.out 3
              have hm : m = 0 ∨ m = 1 ∨ m = 2 ∨ m = 3 := by omega
              rcases hm with rfl | rfl | rfl | rfl <;> (simp at hat; omega)
            have ho : (FloatKind.f64.format.order la 4607182418800017408 == some .lt) = false := by
              rw [ord_lt hla (by decide)]
              exact decide_eq_false (by omega)
            obtain ⟨_, e0, y0⟩ := at_F64 HC.out (m : Int) (by omega) (by omega)
            injection e0 with e0
            subst e0
            have g0 : wy.cell? (ad7.add m) = some (.float .f64 la) := by
              rw [Int.toNat_natCast] at y0
              rw [y0]
              unfold rdOf
              rw [List.getD_eq_getElem?_getD, Int.toNat_natCast, hat, Option.getD_some]
            have n0 : (0 : Int) ≤ (m : Int) := by omega
            have n3 : ¬ (3 : Int) < (m : Int) := by omega
            have n4 : (m : Int) < 4 := by omega
            have HALL := Aside0.mk hall
            have HAT := Aside0.mk hat
            have HGE : Aside0 (la ≤ 9218868437227405312) := ⟨hla⟩
            clear hla y0 hat hge hall
            go_upto_region 25 with fail
            clear g0
            go_wp2_with fail
            go_loopw [13] (fun kq wx => ∃ q : Nat, q ≤ 4 ∧ kq = .int .i64 q ∧ Aside0 (Kd.C kF64 wx (some ad7) 4 [lv0 zs, lvF zs ts 1, lvF zs ts 2, lvF zs ts 3] ∧ Below w.heap.size w wx)) (fun kq _ => 10 - (intOf kq).toNat)
            case atStart => exact ⟨0, by omega, rfl, ⟨HC.out, HBW.out⟩⟩
            case round =>
              obtain ⟨q, hq4, rfl, HCC⟩ := hrel
              by_cases hq : q < 4
              · obtain ⟨lq, hlq⟩ : ∃ lq, [lv0 zs, lvF zs ts 1, lvF zs ts 2, lvF zs ts 3][q]? = some lq := ⟨_, List.getElem?_eq_getElem hq⟩
                have gq := cell_of HCC.out.1 q hq hlq
                have gm := cell_of HCC.out.1 m hm4 HAT.out
                have hle := HALL.out q lq hlq
                have hlq' : lq ≤ 9218868437227405312 := Nat.le_trans hle.1 HGE.out
                have o1 : (FloatKind.f64.format.order lq la == some .gt) = false := by rw [ord_gt hlq' HGE.out]; exact decide_eq_false (by omega)
                have o2 : (FloatKind.f64.format.order lq la == some .eq) = decide (lq = la) := ord_eq hlq' HGE.out
                have p0 : (0 : Int) ≤ (q : Int) := by omega
                have p4 : (q : Int) < 4 := by omega
                have sq : IntKind.i64.wrap ((q : Int) + 1) = ((q + 1 : Nat) : Int) := IntWalk.i64_in _ (by omega)
                by_cases hqm : q < m
                · have hne : decide (lq = la) = false := decide_eq_false (by have := hle.2 hqm; omega)
                  rw [hne] at o2
                  have l1 : (q : Int) < (m : Int) := by omega
                  clear hle hlq hlq' hne
                  go_upto_region 28 with fail
                  go_quiet (fail)
                  clear gq gm
                  go_wp2_with fail
                  go_roundw
                  case rel => exact ⟨q + 1, by omega, by go_num, ⟨Kd.C_below HCC.out.1 (pw_below_drewN (Below.refl _ _) nq), pw_below_drewN HCC.out.2 nq⟩⟩
                  case measure => simp [intOf]; omega
                · have l1 : ¬ (q : Int) < (m : Int) := by omega
                  clear hle hlq hlq' o2
                  go_upto_region 28 with fail
                  go_quiet (fail)
                  clear gq gm
                  go_wp2_with fail
                  go_roundw
                  case rel => exact ⟨q + 1, by omega, by go_num, ⟨Kd.C_below HCC.out.1 (pw_below_drewN (Below.refl _ _) nq), pw_below_drewN HCC.out.2 nq⟩⟩
                  case measure => simp [intOf]; omega
              · have hq5 : ¬ (q : Int) < 4 := by omega
                have tn := tables_nil
                go_wp2_with (first | (go_at_call 20; (with_reducible refine (tn _).mono ?_); rintro _ w9 ⟨rfl, h9⟩; obtain rfl := h9.symm; clear h9) | (go_at_call 14; (with_reducible refine (ca _).mono ?_); rintro _ w9 ⟨rfl, h9⟩; obtain rfl := h9.symm; clear h9))
                go_ret
                exact ⟨rfl, HCC.out.2⟩
end Go.Proofs.Ytbmkjcgbnddgdaa.P
