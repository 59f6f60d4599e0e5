/- Tables by numbers: at most 20, each with a level of 0 to 4. -/
import Derived.Test.YtbmkjcgbnddgdaaHtabs0
import Derived.IntWalk
namespace Go.Proofs.Ytbmkjcgbnddgdaa.P
open Go.RowKit Go.Proofs.YtbmkjcgbnddgdaaW.PrintWords Go.Proofs.YtbmkjcgbnddgdaaW.PrintLast Go.Proofs.YtbmkjcgbnddgdaaW.PrintMore
set_option linter.unusedVariables false
set_option maxRecDepth 100000 in
set_option maxHeartbeats 8000000 in
theorem tables_any (A : Option Addr) (c : Nat) (ns : List Int) (w : World) (hr : Kd.C (Kd.int .u8) w A ns.length ns) (hb : Byts ns) :
    Calls Try.prog 20 #[.slice A ns.length c] w fun e w' => ∃ v ys, e = .returned v ∧ Kd.R k38 38 w' w.heap.size (fun _ => True) v ys ∧ (∀ t ∈ ys, OkT t) ∧ ys.length ≤ 20 ∧ Below w.heap.size w w' := by
  have HR := Aside0.mk hr
  have HBY := Aside0.mk hb
  have hmax : ns.length ≤ 9223372036854775807 := hr.2.1
  clear hr hb
  go_enter Try.func20, Try.ntmps20
  go_wp2_with fail
  go_loopw [3, 4] (fun v3 i wr => ∃ (j m : Nat) (ys : List S38), j = 3 * m ∧ j ≤ 62 ∧ i = .int .i64 j ∧ Aside0 (Kd.R k38 38 wr w.heap.size (fun _ => True) v3 ys ∧ (∀ t ∈ ys, OkT t) ∧ Below w.heap.size w wr) ∧ ys.length = m ∧ m ≤ 20) (fun _ i _ => 100 - (intOf i).toNat)
  case atStart => exact ⟨0, 0, [], rfl, by omega, rfl, ⟨Kd.R_nil _ _ _ _ _, fun t h => absurd h (by simp), Below.refl _ _⟩, rfl, by omega⟩
  case round =>
    obtain ⟨j, m, ys, hjm, hj, rfl, HI, hys, hm⟩ := hrel
    by_cases hin : j + 2 < ns.length ∧ j < 60
    · obtain ⟨hin1, hin2⟩ := hin
      have hC := Kd.C_below HR.out HI.out.2.2
      obtain ⟨ad, b0, e, d0, p0, r0⟩ := byte_at hC HBY.out j (by omega) rfl
      obtain ⟨ad1, b1, e1, d1, p1, r1⟩ := byte_at hC HBY.out (j + 1) (by omega) rfl
      obtain ⟨ad2, b2, e2, d2, p2, r2⟩ := byte_at hC HBY.out (j + 2) (by omega) rfl
      subst e
      injection e1 with e1
      injection e2 with e2
      subst e1; subst e2
      have g1 : wr.cell? ⟨ad.block, ad.off + (j + 1), none⟩ = some (.int .u8 b1) := by first | exact d1 | (unfold Addr.add at d1; exact d1)
      have g2 : wr.cell? ⟨ad.block, ad.off + (j + 2), none⟩ = some (.int .u8 b2) := by first | exact d2 | (unfold Addr.add at d2; exact d2)
      have D0 := Aside0.mk d0
      have D1 := Aside0.mk d1
      have D2 := Aside0.mk d2
      clear hC
      have s1 : IntKind.i64.wrap ((j : Int) + 1) = (j : Int) + 1 := IntWalk.i64_in _ (by omega)
      have s2 : IntKind.i64.wrap ((j : Int) + 2) = (j : Int) + 2 := IntWalk.i64_in _ (by omega)
      have t1 : ((j : Int) + 1).toNat = j + 1 := by omega
      have t2 : ((j : Int) + 2).toNat = j + 2 := by omega
      have n1 : (0 : Int) ≤ (j : Int) + 1 := by omega
      have n2 : (0 : Int) ≤ (j : Int) + 2 := by omega
      have l0 : (j : Int) < (ns.length : Int) := by omega
      have l1 : (j : Int) + 1 < (ns.length : Int) := by omega
      have l2 : (j : Int) + 2 < (ns.length : Int) := by omega
      have hm19 : m < 20 := by omega
      have HJM : Aside0 (j = 3 * m ∧ ys.length = m) := ⟨⟨hjm, hys⟩⟩
      clear hjm hys
      go_upto_region 5 with fail
      go_cut [5, 6] (fun v5 v6 wc => ∃ lo hi : Int, v5 = .int .i64 lo ∧ v6 = .int .i64 hi ∧ (0 ≤ lo ∧ lo < 37) ∧ (0 ≤ hi ∧ hi < 37) ∧ Aside0 (Below wr.heap.size wr wc))
      case first =>
        go_wp2_with fail
        go_quiet (fail)
        go_wp2_with fail
        go_meet
        case rel => exact ⟨_, _, rfl, rfl, by omega, by omega, ⟨pw_below_drewN (Below.refl _ _) nq⟩⟩
      case rest =>
        obtain ⟨lo, hi, rfl, rfl, hlo, hhi, HC⟩ := hcut
        have HI2 : Aside0 (Kd.R k38 38 wc w.heap.size (fun _ => True) u3 ys ∧ (∀ t ∈ ys, OkT t) ∧ Below w.heap.size w wc) := ⟨Kd.R_below HI.out.1 HC.out, HI.out.2.1, HI.out.2.2.trans (HC.out.mono HI.out.2.2.size)⟩
        have q1 := keep_cell HC.out g1
        have q2 := keep_cell HC.out g2
        have HLO := Aside0.mk hlo
        have HHI := Aside0.mk hhi
        clear HI d0 d1 d2 g1 g2 D0 D1 D2 HC hlo hhi
        have q1' : wc.drew.cell? ⟨ad.block, ad.off + (j + 1), none⟩ = some (.int .u8 b1) := q1
        have q2' : wc.drew.cell? ⟨ad.block, ad.off + (j + 2), none⟩ = some (.int .u8 b2) := q2
        have n0 := Nat.ne_of_lt (World.block_lt_of_cell? wc _ q1)
        go_upto_region 6 with fail
        go_cut [7] (fun v7 wd => ∃ (p : Nat) (t : S38), v7 = .pointer (some ⟨p, 0, none⟩) ∧ Aside0 (wd.heap[p]? = some (tabO t) ∧ OkT t ∧ wc.heap.size ≤ p ∧ Below wc.heap.size wc wd))
        case first =>
          rename_i J9 K9 hJ9 hK9
          go_region_held3 (fun w' => w'.cell? ⟨ad.block, ad.off + (j + 1), none⟩ = some (.int .u8 b1) ∧ w'.cell? ⟨ad.block, ad.off + (j + 2), none⟩ = some (.int .u8 b2)) (first | (with_reducible exact ⟨q1, q2⟩) | (with_reducible exact ⟨k1, k2⟩) | (with_reducible exact ⟨m1, m2⟩) | (with_reducible exact ⟨kal k1, kal k2⟩) | (with_reducible exact ⟨kal m1, kal m2⟩) | (with_reducible exact ⟨kal q1', kal q2'⟩) | (with_reducible exact ⟨kal q1, kal q2⟩) | (with_reducible exact ⟨set9 k1 n8, set9 k2 n8⟩) | (with_reducible exact ⟨set9 m1 n9, set9 m2 n9⟩) | (with_reducible exact ⟨set9 k1 n0, set9 k2 n0⟩) | (with_reducible exact ⟨set9 m1 n0, set9 m2 n0⟩) | go_keep) (first | (go_at_call 28; (with_reducible refine (key_any lo _ HLO.out.1 HLO.out.2).mono ?_); rintro _ w8 ⟨⟨s8, rfl⟩, hb8⟩; have m1 := keep_cell hb8 (p := ⟨ad.block, ad.off + (j + 1), none⟩) (v := .int .u8 b1) (by with_reducible first | exact k1 | exact kal k1 | exact q1' | exact kal q1' | exact kdr (kal q1)); have m2 := keep_cell hb8 (p := ⟨ad.block, ad.off + (j + 2), none⟩) (v := .int .u8 b2) (by with_reducible first | exact k2 | exact kal k2 | exact q2' | exact kal q2' | exact kdr (kal q2)); have n8 := Nat.ne_of_lt (World.block_lt_of_cell? w8 _ m1); (try (have hz := (by first | exact hz_of hb8 | exact hz_ofd hb8); have z0 := blk_cell hz 0; have f0 := blk_frozen hz 0; have z1 := blk_cell hz 1; have f1 := blk_frozen hz 1; have z2 := blk_cell hz 2; have f2 := blk_frozen hz 2; have z3 := blk_cell hz 3; have f3 := blk_frozen hz 3; have z4 := blk_cell hz 4; have f4 := blk_frozen hz 4; have z5 := blk_cell hz 5; have f5 := blk_frozen hz 5; have z6 := blk_cell hz 6; have f6 := blk_frozen hz 6; have z7 := blk_cell hz 7; have f7 := blk_frozen hz 7; have z8 := blk_cell hz 8; have f8 := blk_frozen hz 8)); (try (have hz := hz_step hb8 hz; have z0 := blk_cell hz 0; have f0 := blk_frozen hz 0; have z1 := blk_cell hz 1; have f1 := blk_frozen hz 1; have z2 := blk_cell hz 2; have f2 := blk_frozen hz 2; have z3 := blk_cell hz 3; have f3 := blk_frozen hz 3; have z4 := blk_cell hz 4; have f4 := blk_frozen hz 4; have z5 := blk_cell hz 5; have f5 := blk_frozen hz 5; have z6 := blk_cell hz 6; have f6 := blk_frozen hz 6; have z7 := blk_cell hz 7; have f7 := blk_frozen hz 7; have z8 := blk_cell hz 8; have f8 := blk_frozen hz 8))) | (go_at_call 28; (with_reducible refine (key_any hi _ HHI.out.1 HHI.out.2).mono ?_); rintro _ w9 ⟨⟨s9, rfl⟩, hb9⟩; have k1 := keep_cell hb9 (p := ⟨ad.block, ad.off + (j + 1), none⟩) (v := .int .u8 b1) (by with_reducible first | exact m1 | exact kal m1 | exact q1' | exact kal q1' | exact kdr (kal q1)); have k2 := keep_cell hb9 (p := ⟨ad.block, ad.off + (j + 2), none⟩) (v := .int .u8 b2) (by with_reducible first | exact m2 | exact kal m2 | exact q2' | exact kal q2' | exact kdr (kal q2)); have n9 := Nat.ne_of_lt (World.block_lt_of_cell? w9 _ k1); (try (have hz := (by first | exact hz_of hb9 | exact hz_ofd hb9); have z0 := blk_cell hz 0; have f0 := blk_frozen hz 0; have z1 := blk_cell hz 1; have f1 := blk_frozen hz 1; have z2 := blk_cell hz 2; have f2 := blk_frozen hz 2; have z3 := blk_cell hz 3; have f3 := blk_frozen hz 3; have z4 := blk_cell hz 4; have f4 := blk_frozen hz 4; have z5 := blk_cell hz 5; have f5 := blk_frozen hz 5; have z6 := blk_cell hz 6; have f6 := blk_frozen hz 6; have z7 := blk_cell hz 7; have f7 := blk_frozen hz 7; have z8 := blk_cell hz 8; have f8 := blk_frozen hz 8)); (try (have hz := hz_step hb9 hz; have z0 := blk_cell hz 0; have f0 := blk_frozen hz 0; have z1 := blk_cell hz 1; have f1 := blk_frozen hz 1; have z2 := blk_cell hz 2; have f2 := blk_frozen hz 2; have z3 := blk_cell hz 3; have f3 := blk_frozen hz 3; have z4 := blk_cell hz 4; have f4 := blk_frozen hz 4; have z5 := blk_cell hz 5; have f5 := blk_frozen hz 5; have z6 := blk_cell hz 6; have f6 := blk_frozen hz 6; have z7 := blk_cell hz 7; have f7 := blk_frozen hz 7; have z8 := blk_cell hz 8; have f8 := blk_frozen hz 8))))
          all_goals
            have HBB : Aside0 (Below wc.heap.size wc w9) := ⟨by first | exact bt (bt0 hb8) hb9 | exact bt (bal (bt0 hb8)) hb9 | exact bt (bt (bal (Below.refl _ _)) (bt0 hb8)) hb9⟩
            have HSZ : Aside0 (wc.heap.size ≤ w8.heap.size) := ⟨by first | exact (bt0 hb8).size | exact (bt (bal (Below.refl _ _)) (bt0 hb8)).size⟩
            refine hK9 _ _ (Met.intro (hJ9 _ _ ?_))
            (repeat apply Exists.intro)
            refine ⟨?_, rfl⟩
            first
              | with_reducible exact fin_alloc HBB.out (okl p2 r2)
              | with_reducible exact fin_put hz HBB.out HSZ.out (okl p2 r2)
              | with_reducible exact fin_put hz HBB.out (Nat.le_refl _) (okl p2 r2)
        case rest =>
          rename World => wd
          obtain ⟨p, t, rfl, HP⟩ := hcut
          have hp := HP.out.1
          have hbd := HP.out.2.2.2
          have HOK := Aside0.mk HP.out.2.1
          have HPL := Aside0.mk HP.out.2.2.1
          have g2 := keep_cell hbd q2
          have f7 := blk_frozen hp 7
          have z7 : wd.cell? ⟨p, 7, none⟩ = some (.bool t.f7) := (blk_cell hp 7).trans rfl
          have HPP := Aside0.mk hp
          have HBD := Aside0.mk hbd
          have Q2 := Aside0.mk q2
          clear HP hp hbd q1 q2 q1' q2'
          go_upto_region 7 with fail
          go_cut [] (fun we => ∃ t', Aside0 (we.heap[p]? = some (tabO t') ∧ OkT t' ∧ Below wc.heap.size wc we))
          case first =>
            go_wp2_with fail
            go_meet
            case rel => exact tab7 _ HPP.out HOK.out HPL.out HBD.out
          case rest =>
            clear HPP HOK HBD g2 f7 z7
            obtain ⟨t', HP⟩ := hcut
            rename World => wd1
            have hp := HP.out.1
            have hbd := HP.out.2.2
            have HOK := Aside0.mk HP.out.2.1
            have g2 := keep_cell hbd Q2.out
            have f8 := blk_frozen hp 8
            have z8 : wd1.cell? ⟨p, 8, none⟩ = some (.bool t'.f8) := (blk_cell hp 8).trans rfl
            have HPP := Aside0.mk hp
            have HBD := Aside0.mk hbd
            clear HP hp hbd
            go_upto_region 8 with fail
            go_cut [] (fun we => ∃ t', Aside0 (we.heap[p]? = some (tabO t') ∧ OkT t' ∧ Below wc.heap.size wc we))
            case first =>
              go_wp2_with fail
              go_meet
              case rel => exact tab8 _ HPP.out HOK.out HPL.out HBD.out
            case rest =>
              clear HPP HOK HBD g2 f8 z8
              obtain ⟨t'', HP⟩ := hcut
              rename World => wd2
              have hp := HP.out.1
              have hbd := HP.out.2.2
              have HOK := Aside0.mk HP.out.2.1
              have z0 : wd2.cell? ⟨p, 0, none⟩ = some (.int .i64 t''.f0) := (blk_cell hp 0).trans rfl
              have z1 : wd2.cell? ⟨p, 1, none⟩ = some (.int .i64 t''.f1) := (blk_cell hp 1).trans rfl
              have z2 : wd2.cell? ⟨p, 2, none⟩ = some (.int .i64 t''.f2) := (blk_cell hp 2).trans rfl
              have z3 : wd2.cell? ⟨p, 3, none⟩ = some (.string t''.f3) := (blk_cell hp 3).trans rfl
              have z4 : wd2.cell? ⟨p, 4, none⟩ = some (.string t''.f4) := (blk_cell hp 4).trans rfl
              have z5 : wd2.cell? ⟨p, 5, none⟩ = some (.int .i64 t''.f5) := (blk_cell hp 5).trans rfl
              have z6 : wd2.cell? ⟨p, 6, none⟩ = some (.int .i64 t''.f6) := (blk_cell hp 6).trans rfl
              have z7 : wd2.cell? ⟨p, 7, none⟩ = some (.bool t''.f7) := (blk_cell hp 7).trans rfl
              have z8 : wd2.cell? ⟨p, 8, none⟩ = some (.bool t''.f8) := (blk_cell hp 8).trans rfl
              have HBW : Aside0 (Below w.heap.size w wd2) := ⟨HI2.out.2.2.trans (hbd.mono HI2.out.2.2.size)⟩
              have HRW := Aside0.mk (Kd.R_below HI2.out.1 hbd)
              have HYS := Aside0.mk HI2.out.2.1
              clear HP hp hbd HI2 Q2 HPL
              go_wp2_with (at_builtin; refine Kd.R_append k38 (w0 := w) w.heap.size rfl (.tmp 92) (.tmp 94) 32 38 zero38 80 rfl Try.underlying32 info38 rfl (by decide) (by omega) _ ys t'' [.int .i64 t''.f0, .int .i64 t''.f1, .int .i64 t''.f2, .string t''.f3, .string t''.f4, .int .i64 t''.f5, .int .i64 t''.f6, .bool t''.f7, .bool t''.f8] (fun _ => True) (fun k => k ≠ k ∧ False) rfl (by first | (go_simp; done) | (go_simp; rfl)) (k38_mkM _ _ _ t'') (fun _ hk => hk.2.elim) (fun _ _ => trivial) HRW.out HBW.out HBW.out.size ?aM ?_; (case aM => have := HJM.out.2; omega); intro v2 w3 hR2 hb3 hg2 hat2; clear hg2 hat2; have HV2 := Aside0.mk hR2; clear hR2; have HB3 := Aside0.mk hb3; clear hb3; clear z0 z1 z2 z3 z4 z5 z6 z7 z8)
              have s3 : IntKind.i64.wrap ((j : Int) + 3) = ((j + 3 : Nat) : Int) := IntWalk.i64_in _ (by omega)
              go_roundw
              case rel => exact ⟨j + 3, m + 1, ys ++ [t''], by have := HJM.out.1; omega, by omega, by go_num, ⟨HV2.out, ok_snoc HYS.out HOK.out, HB3.out⟩, by rw [List.length_append, HJM.out.2]; rfl, by omega⟩
              case measure => simp [intOf]; omega
    · by_cases hin1 : j + 2 < ns.length
      · have hin2 : ¬ j < 60 := fun h => hin ⟨hin1, h⟩
        have s2 : IntKind.i64.wrap ((j : Int) + 2) = (j : Int) + 2 := IntWalk.i64_in _ (by omega)
        have l2 : (j : Int) + 2 < (ns.length : Int) := by omega
        have l60 : ¬ (j : Int) < 60 := by omega
        clear hjm
        go_wp2_with fail
        go_ret
        exact ⟨_, rfl, ys, HI.out.1, HI.out.2.1, by omega, HI.out.2.2⟩
      · have s2 : IntKind.i64.wrap ((j : Int) + 2) = (j : Int) + 2 := IntWalk.i64_in _ (by omega)
        have l2 : ¬ (j : Int) + 2 < (ns.length : Int) := by omega
        clear hjm
        go_wp2_with fail
        go_ret
        exact ⟨_, rfl, ys, HI.out.1, HI.out.2.1, by omega, HI.out.2.2⟩
end Go.Proofs.Ytbmkjcgbnddgdaa.P
