/- A version made by numbers: some version, with at most twenty tables, each of a level of 0 to 4. -/
import Derived.Test.YtbmkjcgbnddgdaaHmade0
namespace Go.Proofs.Ytbmkjcgbnddgdaa.P
open Go.RowKit Go.Proofs.YtbmkjcgbnddgdaaW.PrintWords Go.Proofs.YtbmkjcgbnddgdaaW.PrintLast Go.Proofs.YtbmkjcgbnddgdaaW.PrintMore
set_option linter.unusedVariables false
/-- What Made tells. -/
def MadeP (w : World) (e : Ending) (w' : World) : Prop :=
  ∃ a b c d B k zs, e = .returned (.agg #[.int .i64 a, .int .i64 b, .int .i64 c, .int .i64 d, .slice B zs.length k]) ∧ zs.length ≤ k ∧ zs.length ≤ 20 ∧ (∀ z ∈ zs, OkT z) ∧ Lives w' (fun k => k < w.heap.size) k38 B zs ∧ Below w.heap.size w w'
set_option maxRecDepth 100000 in
set_option maxHeartbeats 8000000 in
theorem made_any (A : Option Addr) (c : Nat) (ns : List Int) (w : World) (hr : Kd.C (Kd.int .u8) w A ns.length ns) (hb : Byts ns) :
    Calls Try.prog 19 #[.slice A ns.length c] w (MadeP w) := by
  have HR := Aside0.mk hr
  have HBY := Aside0.mk hb
  clear hr hb
  go_enter Try.func19, Try.ntmps19
  go_upto_region 2 with fail
  generalize hw1 : (w.alloc (.cells #[.int .i64 0, .int .i64 0, .int .i64 0, .int .i64 0, .slice none 0 0] 34)).alloc (.cells #[.int .i64 3, .int .i64 1, .int .i64 0, .int .i64 0, .slice none 0 0] 34) = w1
  have hb1 : Below w.heap.size w w1 := by rw [← hw1]; exact bal (bal (Below.refl _ _))
  have hp2 : w1.heap[w.heap.size]? = some (.cells #[.int .i64 0, .int .i64 0, .int .i64 0, .int .i64 0, .slice none 0 0] 34 (0, 0)) := by rw [← hw1]; exact hold (heap_alloc_new _ _)
  have hp3 : w1.heap[w.heap.size + 1]? = some (.cells #[.int .i64 3, .int .i64 1, .int .i64 0, .int .i64 0, .slice none 0 0] 34 (0, 0)) := by rw [← hw1]; exact heap_new_at (by simp)
  have hs1 : w.heap.size + 1 < w1.heap.size := blk_lt hp3
  clear hw1
  have HB1 := Aside0.mk hb1
  have HP2 := Aside0.mk hp2
  have HP3 := Aside0.mk hp3
  clear hb1 hp2 hp3
  go_upto_region 3 with (go_at_call 20; refine (tables_any A c ns w1 (Kd.C_below HR.out HB1.out) HBY.out).mono ?_; rintro _ w2 ⟨v2, ys, rfl, hR2, hok2, hn2, hb2⟩; obtain ⟨A4, c4, e4, hc4, hl4⟩ := Lives.new (S := fun k => k < w1.heap.size) hR2 (fun k hk => hk); subst e4; have HL4 := Aside0.mk hl4; have HOK4 := Aside0.mk hok2; have HB2 := Aside0.mk hb2; clear hR2 hok2 hb2 hl4)
  go_wp2_with fail
  go_loopw [5] (fun i wr => ∃ (j : Nat) (a b cc d : Int) (B : Option Addr) (k : Nat) (zs : List S38), j ≤ ys.length ∧ i = .int .i64 j ∧ Aside0 (wr.heap[w.heap.size]? = some (.cells #[.int .i64 0, .int .i64 0, .int .i64 0, .int .i64 0, .slice none 0 0] 34 (0, 0)) ∧ wr.heap[w.heap.size + 1]? = some (.cells #[.int .i64 a, .int .i64 b, .int .i64 cc, .int .i64 d, .slice B zs.length k] 34 (0, 0)) ∧ zs.length ≤ k ∧ zs.length ≤ j ∧ (∀ z ∈ zs, OkT z) ∧ Lives wr (fun k => k < w1.heap.size) k38 B zs ∧ Lives wr (fun k => k < w1.heap.size) k38 A4 ys ∧ Below w.heap.size w wr ∧ w1.heap.size ≤ wr.heap.size)) (fun i _ => ys.length - (intOf i).toNat)
  case atStart =>
    exact ⟨0, 3, 1, 0, 0, none, 0, [], Nat.zero_le _, rfl, ⟨(HB2.out.block _ (by omega)).trans HP2.out, (HB2.out.block _ hs1).trans HP3.out, Nat.le_refl _, Nat.le_refl _, fun z hz => absurd hz (by simp), Lives.nil _ _ _, HL4.out, HB1.out.trans (HB2.out.mono HB1.out.size), HB2.out.size⟩⟩
  case round =>
    clear HL4 HB2 HP2 HP3
    obtain ⟨j, a, b, cc, d, B, k, zs, hj, rfl, HI⟩ := hrel
    by_cases hlt : j < ys.length
    · obtain ⟨ad, t, e, et, h0, h1, h2, h3, h4, h5, h6, h7, h8⟩ := t38_at HI.out.2.2.2.2.2.2.1.now j hlt
      subst e
      have HT : Aside0 (OkT t) := ⟨by
        rw [et]; unfold rd_T38
        rw [List.getD_eq_getElem?_getD, Int.toNat_natCast, List.getElem?_eq_getElem hlt, Option.getD_some]
        exact HOK4.out _ (List.getElem_mem hlt)⟩
      clear et
      have hv3 := HI.out.2.1
      have l0 : (j : Int) < (ys.length : Int) := by omega
      have HS : F14 (w.heap.size + 1) (ad.add (j * 9)) a b cc d B zs.length k t wr := ⟨blk_cell hv3 0, blk_cell hv3 1, blk_cell hv3 2, blk_cell hv3 3, blk_cell hv3 4, h0, h1, h2, h3, h4, h5, h6, h7, h8⟩
      have hp3 : w.heap.size + 1 < wr.heap.size := blk_lt hv3
      have hq3 : (ad.add (j * 9)).block < wr.heap.size := World.block_lt_of_cell? wr _ h0
      have HSS := Aside0.mk HS
      have HLZ := Aside0.mk HI.out.2.2.2.2.2.1
      have HKZ := Aside0.mk HI.out.2.2.1
      have HNZ : Aside0 (zs.length ≤ 100000) := ⟨by have := HI.out.2.2.2.1; omega⟩
      have HSZ := Aside0.mk HI.out.2.2.2.2.2.2.2.2
      clear h0 h1 h2 h3 h4 h5 h6 h7 h8 hv3
      clear HS
      go_upto_region 6 with fail
      go_cut [6, 7] (fun v6 v7 wd => ∃ (p : Nat) (code : Int), v6 = .pointer (some ⟨p, 0, none⟩) ∧ v7 = .int .i64 code ∧ Aside0 (ResV wr wd (fun k => k < w1.heap.size) zs t p))
      case first =>
        rename_i J9 K9 hJ9 hK9
        go_region_held3 (fun w' => w'.cell? ⟨w.heap.size + 1, 0, none⟩ = some (.int .i64 a) ∧ w'.cell? ⟨w.heap.size + 1, 1, none⟩ = some (.int .i64 b) ∧ w'.cell? ⟨w.heap.size + 1, 2, none⟩ = some (.int .i64 cc) ∧ w'.cell? ⟨w.heap.size + 1, 3, none⟩ = some (.int .i64 d) ∧ w'.cell? ⟨w.heap.size + 1, 4, none⟩ = some (.slice B zs.length k) ∧ w'.cell? (ad.add (j * 9)) = some (.int .i64 t.f0) ∧ w'.cell? ⟨(ad.add (j * 9)).block, (ad.add (j * 9)).off + 1, none⟩ = some (.int .i64 t.f1) ∧ w'.cell? ⟨(ad.add (j * 9)).block, (ad.add (j * 9)).off + 2, none⟩ = some (.int .i64 t.f2) ∧ w'.cell? ⟨(ad.add (j * 9)).block, (ad.add (j * 9)).off + 3, none⟩ = some (.string t.f3) ∧ w'.cell? ⟨(ad.add (j * 9)).block, (ad.add (j * 9)).off + 4, none⟩ = some (.string t.f4) ∧ w'.cell? ⟨(ad.add (j * 9)).block, (ad.add (j * 9)).off + 5, none⟩ = some (.int .i64 t.f5) ∧ w'.cell? ⟨(ad.add (j * 9)).block, (ad.add (j * 9)).off + 6, none⟩ = some (.int .i64 t.f6) ∧ w'.cell? ⟨(ad.add (j * 9)).block, (ad.add (j * 9)).off + 7, none⟩ = some (.bool t.f7) ∧ w'.cell? ⟨(ad.add (j * 9)).block, (ad.add (j * 9)).off + 8, none⟩ = some (.bool t.f8)) (first | (with_reducible exact M8.out) | (with_reducible exact HSS.out) | ((repeat (first | with_reducible exact HSS.out | with_reducible refine F14.al ?_ | with_reducible refine F14.dr ?_)); done) | (with_reducible exact F14.al M8.out) | (with_reducible refine F14.set M8.out ?_ ?_ <;> (first | omega | (simp; omega)); done)) (first | (go_at_call 27; (with_reducible refine (apply_made a b cc d B k zs _ _ t _ (HLZ.out.below ?_).now HKZ.out HNZ.out ?_).mono ?_); (focus ((repeat (first | with_reducible exact Below.refl _ _ | with_reducible refine bal ?_ | with_reducible refine bdr ?_)); done)); (focus ((repeat (first | with_reducible exact heap_alloc_new _ _ | with_reducible refine hdr ?_ | ((with_reducible refine heap_new_at ?_); (focus (simp; done))) | with_reducible refine hold ?_)); done)); rintro _ w8 ⟨⟨a1, b1, c1, d1, B1, k1, ys1, cd, rfl, hk1, hl1, hm1, hn1⟩, hb8⟩; have M8 : Aside0 (F14 (w.heap.size + 1) (ad.add (j * 9)) a b cc d B zs.length k t w8) := ⟨F14.below hb8 (by (repeat (first | with_reducible exact HSS.out | with_reducible refine F14.al ?_ | with_reducible refine F14.dr ?_)))⟩; (try (have hz : w8.heap[wr.heap.size]? = some (.cells #[.int .i64 0, .int .i64 0, .int .i64 0, .int .i64 0, .slice none 0 0] 34 (0, 0)) := (by with_reducible exact hz_A hb8); have z0 := blk_cell hz 0; have f0 := blk_frozen hz 0; have z1 := blk_cell hz 1; have f1 := blk_frozen hz 1; have z2 := blk_cell hz 2; have f2 := blk_frozen hz 2; have z3 := blk_cell hz 3; have f3 := blk_frozen hz 3; have z4 := blk_cell hz 4; have f4 := blk_frozen hz 4)); (try (have hz : w8.heap[wr.heap.size + 1]? = some (.cells #[.int .i64 0, .int .i64 0, .int .i64 0, .int .i64 0, .slice none 0 0] 34 (0, 0)) := (by with_reducible exact hz_B hb8); have z0 := blk_cell hz 0; have f0 := blk_frozen hz 0; have z1 := blk_cell hz 1; have f1 := blk_frozen hz 1; have z2 := blk_cell hz 2; have f2 := blk_frozen hz 2; have z3 := blk_cell hz 3; have f3 := blk_frozen hz 3; have z4 := blk_cell hz 4; have f4 := blk_frozen hz 4)); have HK1 := Aside0.mk hk1; have HL1 : Aside0 (Lives w8 (fun k => k < w1.heap.size) k38 B1 ys1) := ⟨hl1 _ (fun k hk => by have := HSZ.out; simp; omega)⟩; (try (have HL2 : Aside0 (Lives w8 (fun k => k < wr.heap.size + 2) k38 B1 ys1) := ⟨hl1 _ (fun k hk => by simp; omega)⟩)); have HM1 : Aside0 (∀ z ∈ ys1, z ∈ zs ∨ z = t) := ⟨fun z hz => (hm1 z hz).imp id (fun h => List.mem_singleton.1 h)⟩; have HN1 : Aside0 (ys1.length ≤ zs.length + 1) := ⟨hn1⟩; have HBW : Aside0 (Below wr.heap.size wr w8) := ⟨bt (by (repeat (first | with_reducible exact Below.refl _ _ | with_reducible refine bal ?_ | with_reducible refine bdr ?_))) hb8⟩; clear hk1 hl1 hm1 hn1 hb8))
        all_goals
          refine hK9 _ _ (Met.intro (hJ9 _ _ ?_))
          (repeat apply Exists.intro)
          refine ⟨?_, rfl⟩
          first
            | with_reducible exact made_alloc HBW.out HK1.out HN1.out HM1.out HL1.out
            | with_reducible exact made_put hz HBW.out (Nat.le_refl _) (by omega) (fun k hk => by have := HSZ.out; omega) HK1.out HN1.out HM1.out HL2.out
            | with_reducible exact made_put hz HBW.out (by omega) (by omega) (fun k hk => by have := HSZ.out; omega) HK1.out HN1.out HM1.out HL2.out
      case rest =>
        obtain ⟨p, code, rfl, rfl, HP⟩ := hcut
        obtain ⟨a1, b1, c1, d1, B1, k1, zs1, hp, hk1, hn1, hm1, hl1, hle1, hb1⟩ := HP.out
        clear HP
        have y0 : wc.cell? ⟨p, 0, none⟩ = some (.int .i64 a1) := (blk_cell hp 0).trans rfl
        have y1 : wc.cell? ⟨p, 1, none⟩ = some (.int .i64 b1) := (blk_cell hp 1).trans rfl
        have y2 : wc.cell? ⟨p, 2, none⟩ = some (.int .i64 c1) := (blk_cell hp 2).trans rfl
        have y3 : wc.cell? ⟨p, 3, none⟩ = some (.int .i64 d1) := (blk_cell hp 3).trans rfl
        have y4 : wc.cell? ⟨p, 4, none⟩ = some (.slice B1 zs1.length k1) := (blk_cell hp 4).trans rfl
        have hv3 := (hb1.block _ hp3).trans HI.out.2.1
        have hv2 := (hb1.block _ (by omega)).trans HI.out.1
        have x0 : wc.cell? ⟨w.heap.size + 1, 0, none⟩ = some (.int .i64 a) := (blk_cell hv3 0).trans rfl
        have x1 : wc.cell? ⟨w.heap.size + 1, 1, none⟩ = some (.int .i64 b) := (blk_cell hv3 1).trans rfl
        have x2 : wc.cell? ⟨w.heap.size + 1, 2, none⟩ = some (.int .i64 cc) := (blk_cell hv3 2).trans rfl
        have x3 : wc.cell? ⟨w.heap.size + 1, 3, none⟩ = some (.int .i64 d) := (blk_cell hv3 3).trans rfl
        have x4 : wc.cell? ⟨w.heap.size + 1, 4, none⟩ = some (.slice B zs.length k) := (blk_cell hv3 4).trans rfl
        have f0 := blk_frozen hv3 0
        have f1 := blk_frozen hv3 1
        have f2 := blk_frozen hv3 2
        have f3 := blk_frozen hv3 3
        have f4 := blk_frozen hv3 4
        have HV2 := Aside0.mk hv2
        have HV3 := Aside0.mk hv3
        have HP := Aside0.mk hp
        have HM1 := Aside0.mk hm1
        have HL1 := Aside0.mk hl1
        have HB := Aside0.mk hb1
        have HK1 := Aside0.mk hk1
        have HN1 := Aside0.mk hn1
        have HLE := Aside0.mk hle1
        have sj : IntKind.i64.wrap ((j : Int) + 1) = ((j + 1 : Nat) : Int) := IntWalk.i64_in _ (by omega)
        clear hv2 hv3 hp hm1 hl1 hb1 hk1 hn1 hle1 HSS HLZ HKZ HNZ
        by_cases hcode : code = 0
        · subst hcode
          go_wp2_with fail
          clear x0 x1 x2 x3 x4 y0 y1 y2 y3 y4 f0 f1 f2 f3 f4
          go_roundw
          case rel =>
            have hk5 : Kept wc (((((wc.setCell ⟨w.heap.size + 1, 0, none⟩ (.int .i64 a1)).setCell ⟨w.heap.size + 1, 1, none⟩ (.int .i64 b1)).setCell ⟨w.heap.size + 1, 2, none⟩ (.int .i64 c1)).setCell ⟨w.heap.size + 1, 3, none⟩ (.int .i64 d1)).setCell ⟨w.heap.size + 1, 4, none⟩ (.slice B1 zs1.length k1)) (fun k => k = w.heap.size + 1) := kept5 (.inl rfl)
            have hlt2 : w.heap.size < wc.heap.size := blk_lt HV2.out
            exact ⟨j + 1, a1, b1, c1, d1, B1, k1, zs1, by omega, by go_num, ⟨(hk5.2 _ hlt2 (by omega)).trans HV2.out, put5 HV3.out, HK1.out, by have := HN1.out; have := HI.out.2.2.2.1; omega, fun z hz => (HM1.out z hz).elim (HI.out.2.2.2.2.1 z) (fun e => e ▸ HT.out), HL1.out.step (hk5.mono (fun k hk => by omega)), (HI.out.2.2.2.2.2.2.1.below HB.out).step (hk5.mono (fun k hk => by omega)), bel5 (HI.out.2.2.2.2.2.2.2.1.trans (HB.out.mono HI.out.2.2.2.2.2.2.2.1.size)) (by omega), Nat.le_trans HSZ.out (Nat.le_trans HB.out.size hk5.1)⟩⟩
          case measure => simp [intOf]; omega
        · go_wp2_with fail
          clear x0 x1 x2 x3 x4 y0 y1 y2 y3 y4 f0 f1 f2 f3 f4
          go_roundw
          case rel =>
            exact ⟨j + 1, a, b, cc, d, B, k, zs, by omega, by go_num, ⟨HV2.out, HV3.out, HI.out.2.2.1, by have := HI.out.2.2.2.1; omega, HI.out.2.2.2.2.1, HI.out.2.2.2.2.2.1.below HB.out, HI.out.2.2.2.2.2.2.1.below HB.out, HI.out.2.2.2.2.2.2.2.1.trans (HB.out.mono HI.out.2.2.2.2.2.2.2.1.size), Nat.le_trans HSZ.out HB.out.size⟩⟩
          case measure => simp [intOf]; omega
    · have l0 : ¬ (j : Int) < (ys.length : Int) := by omega
      have hv2 := HI.out.1
      have hv3 := HI.out.2.1
      have x0 : wr.cell? ⟨w.heap.size + 1, 0, none⟩ = some (.int .i64 a) := (blk_cell hv3 0).trans rfl
      have x1 : wr.cell? ⟨w.heap.size + 1, 1, none⟩ = some (.int .i64 b) := (blk_cell hv3 1).trans rfl
      have x2 : wr.cell? ⟨w.heap.size + 1, 2, none⟩ = some (.int .i64 cc) := (blk_cell hv3 2).trans rfl
      have x3 : wr.cell? ⟨w.heap.size + 1, 3, none⟩ = some (.int .i64 d) := (blk_cell hv3 3).trans rfl
      have x4 : wr.cell? ⟨w.heap.size + 1, 4, none⟩ = some (.slice B zs.length k) := (blk_cell hv3 4).trans rfl
      have y0 : wr.cell? ⟨w.heap.size, 0, none⟩ = some (.int .i64 0) := (blk_cell hv2 0).trans rfl
      have y1 : wr.cell? ⟨w.heap.size, 1, none⟩ = some (.int .i64 0) := (blk_cell hv2 1).trans rfl
      have y2 : wr.cell? ⟨w.heap.size, 2, none⟩ = some (.int .i64 0) := (blk_cell hv2 2).trans rfl
      have y3 : wr.cell? ⟨w.heap.size, 3, none⟩ = some (.int .i64 0) := (blk_cell hv2 3).trans rfl
      have y4 : wr.cell? ⟨w.heap.size, 4, none⟩ = some (.slice none 0 0) := (blk_cell hv2 4).trans rfl
      have f0 := blk_frozen hv2 0
      have f1 := blk_frozen hv2 1
      have f2 := blk_frozen hv2 2
      have f3 := blk_frozen hv2 3
      have f4 := blk_frozen hv2 4
      have HV2 := Aside0.mk hv2
      clear hv2 hv3
      go_wp2_with fail
      refine bodyPost_ret (results_cell_row rfl _ _ w.heap.size 34 #[.int .i64 a, .int .i64 b, .int .i64 cc, .int .i64 d, .slice B zs.length k] (0, 0) _ rfl (put5 HV2.out) Try.underlying34 rfl (by kernel_rfl)) rfl ?_
      exact ⟨a, b, cc, d, B, k, zs, rfl, HI.out.2.2.1, by have := HI.out.2.2.2.1; omega, HI.out.2.2.2.2.1, (HI.out.2.2.2.2.2.1.step (kept5 (T := fun k => k < w1.heap.size) (.inl (by omega)))).less (fun k hk => .inl (by omega)), bel5 HI.out.2.2.2.2.2.2.2.1 (Nat.le_refl _)⟩
end Go.Proofs.Ytbmkjcgbnddgdaa.P
