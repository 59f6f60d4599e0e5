/- ClientOnce: the walk. -/
import Derived.Test.YtbedfilammjlpaaG37
namespace Go.Proofs.Ytbedfilammjlpaa.P
open Go.RowKit Go.Proofs.YtbedfilammjlpaaW.PrintWords Go.Proofs.YtbedfilammjlpaaW.PrintMore Go.Maps Go.WideMaps
set_option linter.unusedVariables false
theorem lives_take {w : World} {S : Nat → Prop} {A : Option Addr} {l : List Int} {k : Nat} (h : Lives w S (Kd.int .i64) A l) (hk : k ≤ l.length) : Lives w S (Kd.int .i64) A (l.take k) := fun W' hk' => by
  have := Kd.C_take (m := k) (h W' hk') hk
  exact this
theorem out_of {a : Int} (ha : 0 ≤ a ∧ a ≤ 255) : ∃ q, wrap64 (1 + (wrap64 a).tmod 2) = q ∧ (q = 1 ∨ q = 2) := by
  have e : wrap64 a = a := by unfold wrap64; omega
  refine ⟨_, rfl, ?_⟩
  rw [e, Int.tmod_eq_emod_of_nonneg ha.1]
  have : wrap64 (1 + a % 2) = 1 + a % 2 := by unfold wrap64; omega
  omega
theorem few_of {n : Int} (hn : 0 ≤ n ∧ n ≤ 255) : ∃ k : Nat, (wrap64 n).tmod 4 = (k : Int) ∧ k ≤ 3 := by
  have e : wrap64 n = n := by unfold wrap64; omega
  rw [e, Int.tmod_eq_emod_of_nonneg hn.1]
  exact ⟨(n % 4).toNat, by omega, by omega⟩
section
variable (W : World) (A : Option Addr) (c1 : Nat) (xs : List Int) (a b c n : Int)
set_option maxRecDepth 100000 in
theorem clientOnce_great (hg : 300 < (xs.length : Int)) : Calls Try.prog 10 #[.slice A xs.length c1, .int .u8 a, .int .u8 b, .int .u8 c, .int .u8 n] W fun e w' => e = .returned (.bool true) ∧ Below W.heap.size W w' := by
  go_enter Try.func10, Try.ntmps10
  go_wp2_with fail
  refine (awake6_calls _).mono ?_
  rintro _ w1 ⟨rfl, hb⟩
  go_wp2_with fail
  go_ret
  exact ⟨rfl, hb⟩
set_option maxRecDepth 100000 in
theorem clientOnce_some (ha : Kd.C (Kd.int .u8) W A xs.length xs) (hab : Bts xs) (h1 : xs.length ≤ 300) (ba : 0 ≤ a ∧ a ≤ 255) (bb : 0 ≤ b ∧ b ≤ 255) (bc : 0 ≤ c ∧ c ≤ 255) (hn : 0 ≤ n ∧ n ≤ 255) : Calls Try.prog 10 #[.slice A xs.length c1, .int .u8 a, .int .u8 b, .int .u8 c, .int .u8 n] W fun e w' => e = .returned (.bool true) ∧ Below W.heap.size W w' := by
  have HA := Aside0.mk ha
  have HAB := Aside0.mk hab
  obtain ⟨qa, ea, hqa⟩ := out_of ba
  obtain ⟨qb, eb, hqb⟩ := out_of bb
  obtain ⟨qc, ec, hqc⟩ := out_of bc
  obtain ⟨k, ek, hk3⟩ := few_of hn
  have HBD : Aside0 (Bad ([qa, qb, qc].take k)) := ⟨fun o ho => by
    have := List.mem_of_mem_take ho
    simp at this
    omega⟩
  clear ha hab ba bb bc hn hqa hqb hqc
  go_enter Try.func10, Try.ntmps10
  go_wp2_with fail
  refine (lp_new _).mono ?_
  rintro _ w1 ⟨g, m, rfl, h⟩
  have H1 : Aside0 (LawP W w1 g m 0 (noO [] 0)) := ⟨h⟩
  clear h
  go_wp2_with fail
  have hb0 : Below w1.heap.size w1 (w1.alloc (.cells #[.int .i64 qa, .int .i64 qb, .int .i64 qc] 3)) := (Below.refl _ w1).alloc (Nat.le_refl _) _
  have HL0 := Aside0.mk (lives_take (k := k) (lits_live w1 3 .i64 [qa, qb, qc] (0, 0) (gm_lt H1.out.far.lt.1 H1.out.far.lt.2) (by simp)) hk3)
  have hlen : ([qa, qb, qc].take k).length = k := by rw [List.length_take]; exact Nat.min_eq_left hk3
  generalize [qa, qb, qc].take k = nx at HL0 hlen HBD
  subst hlen
  refine (lps_next (H1.out.below hb0) _ 3 nx HL0.out (by omega)).mono ?_
  rintro _ w2 ⟨rfl, h, hs⟩
  have H2 : Aside0 (LawP W w2 g m 0 (noO nx 0)) := ⟨h⟩
  have HL2 := Aside0.mk (HL0.out.step hs.kept)
  clear h hs hb0 HL0
  go_wp2_with fail
  obtain ⟨k1, hu⟩ := up_no nmO (strOfNums xs) named_o (by rw [size_strOfNums]; omega) (str_bytes HAB.out) nx 0 HBD.out hk3
  refine (lp_up H2.out nmO (by decide) A c1 xs (by omega) HAB.out (by decide) (H2.out.row HA.out)).mono ?_
  rw [hu]
  rintro _ w3 ⟨rfl, h, hs⟩
  have H3 := Aside0.mk h
  have HL3 := Aside0.mk (HL2.out.step hs.kept)
  clear h hs hu HL2
  go_wp2_with fail
  refine (lps_next H3.out _ 3 nx HL3.out (by omega)).mono ?_
  rintro _ w4 ⟨rfl, h, hs⟩
  have H4 : Aside0 (LawP W w4 g m 4 (oneO nmO (strOfNums xs) nx k1)) := ⟨h⟩
  have HL4 := Aside0.mk (HL3.out.step hs.kept)
  clear h hs HL3
  go_wp2_with fail
  obtain ⟨k2, hu⟩ := piece_one nmO (strOfNums xs) 1048576 (by rw [size_strOfNums]; omega) nx k1 HBD.out hk3
  rw [bytesOf_strOfNums HAB.out] at hu
  refine (lp_down H4.out nmO (by decide)).mono ?_
  rw [hu]
  rintro _ w5 ⟨A5, c5, rfl, _, hl, h, hs⟩
  have H5 := Aside0.mk h
  have HX5 := Aside0.mk hl
  have HL5 := Aside0.mk (HL4.out.step hs.kept)
  clear h hs hu hl HL4
  go_wp2_with fail
  refine (lps_next H5.out _ 3 nx HL5.out (by omega)).mono ?_
  rintro _ w6 ⟨rfl, h, hs⟩
  have H6 : Aside0 (LawP W w6 g m 4 (oneO nmO (strOfNums xs) nx k2)) := ⟨h⟩
  have HL6 := Aside0.mk (HL5.out.step hs.kept)
  have HX6 := Aside0.mk (HX5.out.step hs.kept)
  clear h hs HL5 HX5
  go_wp2_with fail
  obtain ⟨k3, hu⟩ := up_one nmO (strOfNums xs) (strOfNums xs) named_o (by rw [size_strOfNums]; omega) nx k2 HBD.out hk3
  rw [str_bytes HAB.out, if_pos rfl] at hu
  refine (lp_up H6.out nmO (by decide) A c1 xs (by omega) HAB.out (by decide) (H6.out.row HA.out)).mono ?_
  rw [hu]
  rintro _ w7 ⟨rfl, h, hs⟩
  have H7 := Aside0.mk h
  have HL7 := Aside0.mk (HL6.out.step hs.kept)
  have HX7 := Aside0.mk (HX6.out.step hs.kept)
  clear h hs hu HL6 HX6
  go_wp2_with fail
  refine (lps_next H7.out _ 3 nx HL7.out (by omega)).mono ?_
  rintro _ w8 ⟨rfl, h, hs⟩
  have H8 : Aside0 (LawP W w8 g m 8 (oneO nmO (strOfNums xs) nx k3)) := ⟨h⟩
  have HL8 := Aside0.mk (HL7.out.step hs.kept)
  have HX8 := Aside0.mk (HX7.out.step hs.kept)
  clear h hs HL7 HX7
  go_wp2_with fail
  obtain ⟨k4, hu⟩ := names_one nmO (strOfNums xs) nx k3 HBD.out hk3
  refine (lp_names H8.out (by decide)).mono ?_
  rw [hu]
  rintro _ w9 ⟨A9, c9, rfl, hc9, hl, h, hs⟩
  have H9 := Aside0.mk h
  have HL9 := Aside0.mk (HL8.out.step hs.kept)
  have HX9 := Aside0.mk (HX8.out.step hs.kept)
  have HN9 := Aside0.mk hl
  clear h hs hu hl HL8 HX8
  go_wp2_with fail
  refine (lps_next H9.out _ 3 nx HL9.out (by omega)).mono ?_
  rintro _ w10 ⟨rfl, h, hs⟩
  have H10 : Aside0 (LawP W w10 g m 8 (oneO nmO (strOfNums xs) nx k4)) := ⟨h⟩
  have HX10 := Aside0.mk (HX9.out.step hs.kept)
  have HN10 := Aside0.mk (HN9.out.step hs.kept)
  clear h hs HL9 HX9 HN9
  go_wp2_with fail
  obtain ⟨k5, hu⟩ := cdrop_one nmO (strOfNums xs) nx k4 HBD.out hk3
  refine (lp_cdrop H10.out nmO (by decide)).mono ?_
  rw [hu]
  rintro _ w11 ⟨rfl, h, hs⟩
  have H11 := Aside0.mk h
  have HX11 := Aside0.mk (HX10.out.step hs.kept)
  have HN11 := Aside0.mk (HN10.out.step hs.kept)
  have hcv1 := Kd.C_string (P := Try.prog) (src := 22) (dst := 9) (c := c5) Try.underlying22 Try.underlying5 Try.underlying9 HX11.out.now
  have hcv2 := Kd.C_string (P := Try.prog) (src := 22) (dst := 9) (c := c1) Try.underlying22 Try.underlying5 Try.underlying9 (Kd.C_below HA.out H11.out.bel)
  obtain ⟨ad, e9, cn⟩ : ∃ ad, A9 = some ad ∧ w11.cell? ad = some (.string nmO) := by
    obtain ⟨ad, e1, e2⟩ := Kd.at_string HN11.out.now 0 (by omega) (by simp)
    refine ⟨ad, e1, ?_⟩
    have e0 : ad.add (0 : Int).toNat = ad := by unfold Addr.add; simp
    rw [e0] at e2
    exact e2
  subst e9
  have hno : nmO.toList = [111] := by rw [ByteArray.toList_eq]; rfl
  clear h hs hu HX10 HN10
  go_wp2_with fail
  refine (num2_calls _ _).mono ?_
  rintro _ _ ⟨rfl, rfl⟩
  go_wp2_with fail
  refine (num2_calls _ _).mono ?_
  rintro _ _ ⟨rfl, rfl⟩
  go_wp2_with fail
  refine (num2_calls _ _).mono ?_
  rintro _ _ ⟨rfl, rfl⟩
  go_wp2_with fail
  refine (num2_calls _ _).mono ?_
  rintro _ _ ⟨rfl, rfl⟩
  go_wp2_with fail
  refine (num2_calls _ _).mono ?_
  rintro _ _ ⟨rfl, rfl⟩
  go_wp2_with fail
  refine (lps_objects H11.out (by decide)).mono ?_
  rintro _ w12 ⟨A12, c12, rfl, _, _, h, _⟩
  have H12 := Aside0.mk h
  clear h
  go_wp2_with fail
  refine (lp_awake6 H12.out).mono ?_
  rintro _ w13 ⟨rfl, h⟩
  have H13 := Aside0.mk h
  clear h hcv1 hcv2
  go_wp2_with fail
  go_ret
  exact ⟨rfl, H13.out.bel⟩
theorem clientOnce_all (ha : Kd.C (Kd.int .u8) W A xs.length xs) (hab : Bts xs) (ba : 0 ≤ a ∧ a ≤ 255) (bb : 0 ≤ b ∧ b ≤ 255) (bc : 0 ≤ c ∧ c ≤ 255) (hn : 0 ≤ n ∧ n ≤ 255) : Calls Try.prog 10 #[.slice A xs.length c1, .int .u8 a, .int .u8 b, .int .u8 c, .int .u8 n] W fun e w' => e = .returned (.bool true) ∧ Below W.heap.size W w' := by
  by_cases h : xs.length ≤ 300
  · exact clientOnce_some W A c1 xs a b c n ha hab h ba bb bc hn
  · exact clientOnce_great W A c1 xs a b c n (by omega)
end
end Go.Proofs.Ytbedfilammjlpaa.P
