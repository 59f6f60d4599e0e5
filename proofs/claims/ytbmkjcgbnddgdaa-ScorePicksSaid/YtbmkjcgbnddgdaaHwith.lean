/- with: a table put among the others; in what place, no matter. -/
import Derived.Test.YtbmkjcgbnddgdaaHmedit
import Derived.BigQuiet
namespace Go.Proofs.Ytbmkjcgbnddgdaa.P
open Go.RowKit Go.Proofs.YtbmkjcgbnddgdaaW.PrintWords Go.Proofs.YtbmkjcgbnddgdaaW.PrintLast Go.Proofs.YtbmkjcgbnddgdaaW.PrintMore
set_option linter.unusedVariables false
theorem cut_low38 (A : Option Addr) (n c i : Nat) (hi : i ≤ n) (hc : n ≤ c) : ∀ W : World, (Instr.slice 32 (.slice A n c) none (some (.int .i64 (i : Int))) none).run Try.prog W = .ok (.slice A i c) W := by
  intro W
  obtain ⟨i0, hi0, _, hz1, _⟩ := info_parts info38
  have hel : Try.prog.elem 32 = 38 := by simp [Program.elem, Try.underlying32]
  have hu : Try.prog.underlying 32 = some (.slice (Try.prog.elem 32)) := by rw [hel]; exact Try.underlying32
  rw [run_slice_h W 32 A n c hu .i64 (i : Int) (by omega) (by omega), hel]
  simp [sizeOf, typeInfo, hi0, hz1, sliced, Result.andThen]
  intro h
  cases A with
  | none => rfl
  | some a => simp [Addr.add]
theorem cut_high38 (A : Option Addr) (n c i : Nat) (hi : i ≤ n) (hc : n ≤ c) : ∃ A2 : Option Addr, (∀ W : World, (Instr.slice 32 (.slice A n c) (some (.int .i64 (i : Int))) none none).run Try.prog W = .ok (.slice A2 (n - i) (c - i)) W) ∧ ∀ (w : World) (xs : List S38), xs.length = n → Kd.C k38 w A n xs → Kd.C k38 w A2 (n - i) (xs.drop i) := by
  obtain ⟨i0, hi0, _, hz1, _⟩ := info_parts info38
  refine ⟨if c = i then A else A.map (·.add (i * 9)), fun W => ?_, fun w xs hx hC => ?_⟩
  · have hel : Try.prog.elem 32 = 38 := by simp [Program.elem, Try.underlying32]
    have hu : Try.prog.underlying 32 = some (.slice (Try.prog.elem 32)) := by rw [hel]; exact Try.underlying32
    have ht : ((i : Int)).toNat = i := by omega
    rw [run_slice_l W 32 A n c hu .i64 (i : Int) (by omega) (by omega), hel]
    simp [sizeOf, typeInfo, hi0, hz1, sliced, Result.andThen, ht]
  · subst hx
    have := Kd.C_drop (m := i) (c := c) hC hi hc
    rw [List.length_drop] at this
    exact this
theorem C_low38 {w : World} {A : Option Addr} {xs : List S38} {n i : Nat} (hx : xs.length = n) (h : Kd.C k38 w A n xs) (hi : i ≤ n) : Kd.C k38 w A i (xs.take i) := by
  subst hx
  have := Kd.C_take (m := i) h hi
  rw [List.length_take, Nat.min_eq_left hi] at this
  exact this
theorem k38_remade {W : World} {w0 : World} {base : Nat} (x : S38) (cs : List Value) (h : k38.K w0 x cs) : k38.M W base (fun _ => False) x cs := by
  obtain rfl := k38_open h
  exact k38_mkM _ _ _ x
theorem R_empty {α : Type} (d : Kd α) (e : Nat) (w : World) : d.R e (w.alloc (.cells #[] e)) w.heap.size (fun _ => True) (.slice (some ⟨w.heap.size, 0, none⟩) 0 0) [] :=
  ⟨fun _ _ => trivial, [], World.ownsRow_made w #[] 0 (Nat.le_refl _) (Nat.zero_le _) (by simp), Reps.none _ _⟩
abbrev zero38 : Value := .agg #[.int .i64 0, .int .i64 0, .int .i64 0, .string ⟨#[]⟩, .string ⟨#[]⟩, .int .i64 0, .int .i64 0, .bool false, .bool false]
/-- What 'with' tells: the table in its place. -/
def WithP (xs : List S38) (t : S38) (r : List S38) : Prop := (∀ y ∈ r, y ∈ xs ∨ y = t) ∧ r.length = xs.length + 1
theorem with_end (xs : List S38) (t : S38) (i : Nat) (hi : i ≤ xs.length) : WithP xs t (xs.take i ++ [t] ++ xs.drop i) := by
  refine ⟨fun y hy => ?_, ?_⟩
  · simp only [List.mem_append, List.mem_singleton] at hy
    rcases hy with (h | h) | h
    · exact .inl (List.mem_of_mem_take h)
    · exact .inr h
    · exact .inl (List.mem_of_mem_drop h)
  · simp only [List.length_append, List.length_take, List.length_drop, List.length_singleton]
    omega
set_option maxRecDepth 100000 in
set_option maxHeartbeats 4000000 in
theorem with_any (A : Option Addr) (k : Nat) (xs : List S38) (t : S38) (w : World) (hr : Kd.C k38 w A xs.length xs) (hk : xs.length ≤ k) (hl : xs.length ≤ 1000000) :
    Calls Try.prog 32 #[.slice A xs.length k, .agg #[.int .i64 t.f0, .int .i64 t.f1, .int .i64 t.f2, .string t.f3, .string t.f4, .int .i64 t.f5, .int .i64 t.f6, .bool t.f7, .bool t.f8]] w fun e w' => ∃ v ys B, e = .returned v ∧ w.heap.size ≤ B ∧ Kd.R k38 38 w' B (fun _ => True) v ys ∧ WithP xs t ys ∧ Below w.heap.size w w' := by
  have HR := Aside0.mk hr
  clear hr
  go_enter Try.func32, Try.ntmps32
  go_upto_region 1 with fail
  generalize hw0 : w.alloc (.cells #[.int .i64 t.f0, .int .i64 t.f1, .int .i64 t.f2, .string t.f3, .string t.f4, .int .i64 t.f5, .int .i64 t.f6, .bool t.f7, .bool t.f8] 38) = w0
  have hb0 : Below w.heap.size w w0 := by rw [← hw0]; exact (Below.refl _ w).alloc (Nat.le_refl _) _
  have c0 : w0.cell? ⟨w.heap.size, 0, none⟩ = some (.int .i64 t.f0) := by rw [← hw0]; exact (blk_cell (heap_alloc_new _ _) 0).trans rfl
  have c1 : w0.cell? ⟨w.heap.size, 1, none⟩ = some (.int .i64 t.f1) := by rw [← hw0]; exact (blk_cell (heap_alloc_new _ _) 1).trans rfl
  have c2 : w0.cell? ⟨w.heap.size, 2, none⟩ = some (.int .i64 t.f2) := by rw [← hw0]; exact (blk_cell (heap_alloc_new _ _) 2).trans rfl
  have c3 : w0.cell? ⟨w.heap.size, 3, none⟩ = some (.string t.f3) := by rw [← hw0]; exact (blk_cell (heap_alloc_new _ _) 3).trans rfl
  have c4 : w0.cell? ⟨w.heap.size, 4, none⟩ = some (.string t.f4) := by rw [← hw0]; exact (blk_cell (heap_alloc_new _ _) 4).trans rfl
  have c5 : w0.cell? ⟨w.heap.size, 5, none⟩ = some (.int .i64 t.f5) := by rw [← hw0]; exact (blk_cell (heap_alloc_new _ _) 5).trans rfl
  have c6 : w0.cell? ⟨w.heap.size, 6, none⟩ = some (.int .i64 t.f6) := by rw [← hw0]; exact (blk_cell (heap_alloc_new _ _) 6).trans rfl
  have c7 : w0.cell? ⟨w.heap.size, 7, none⟩ = some (.bool t.f7) := by rw [← hw0]; exact (blk_cell (heap_alloc_new _ _) 7).trans rfl
  have c8 : w0.cell? ⟨w.heap.size, 8, none⟩ = some (.bool t.f8) := by rw [← hw0]; exact (blk_cell (heap_alloc_new _ _) 8).trans rfl
  clear hw0
  go_wp2_with fail
  go_loopw [5] (fun i wr => ∃ j : Nat, j ≤ xs.length ∧ i = .int .i64 j ∧ Aside0 (Below w0.heap.size w0 wr)) (fun i _ => xs.length - (intOf i).toNat)
  case atStart => exact ⟨0, Nat.zero_le _, rfl, ⟨Below.refl _ _⟩⟩
  case round =>
    obtain ⟨j, hj, rfl, HB⟩ := hrel
    have x0 := keep_cell HB.out c0
    have x2 := keep_cell HB.out c2
    have HW : Aside0 (Below w.heap.size w wr) := ⟨hb0.trans (HB.out.mono hb0.size)⟩
    by_cases hlt : j < xs.length
    · obtain ⟨ad, u, e, eu, h0, h1, h2, h3, h4, h5, h6, h7, h8⟩ := t38_at (Kd.C_below HR.out HW.out) j hlt
      subst e
      clear eu h1 h3 h4 h5 h6 h7 h8
      have hlt2 : (j : Int) < (xs.length : Int) := by omega
      have hq : (u.f2 < t.f2 ∨ (decide (u.f2 < t.f2) = false ∧ (u.f2 == t.f2) = true ∧ u.f0 < t.f0)) ∨ ((decide (u.f2 < t.f2) = false ∧ (u.f2 == t.f2) = true ∧ decide (u.f0 < t.f0) = false) ∨ (decide (u.f2 < t.f2) = false ∧ (u.f2 == t.f2) = false)) := by
        by_cases q1 : u.f2 < t.f2
        · exact .inl (.inl q1)
        · by_cases q2 : u.f2 = t.f2
          · by_cases q3 : u.f0 < t.f0
            · exact .inl (.inr ⟨decide_eq_false q1, by simpa using q2, q3⟩)
            · exact .inr (.inl ⟨decide_eq_false q1, by simpa using q2, decide_eq_false q3⟩)
          · exact .inr (.inr ⟨decide_eq_false q1, by simpa using q2⟩)
      rcases hq with hq | hq
      · rcases hq with q1 | ⟨q1, q2, q3⟩
        all_goals
          go_wp2_with fail
          go_quiet (fail)
          go_wp2_with fail
          go_roundw
          case rel => exact ⟨j + 1, by omega, by go_num, ⟨pw_below_drewN HB.out _⟩⟩
          case measure => simp [intOf]; omega
      · rcases hq with ⟨q1, q2, q3⟩ | ⟨q1, q2⟩
        all_goals
          go_wp2_with fail
          go_quiet (fail)
          have HBq : Aside0 (Below w0.heap.size w0 (wr.drewN nq)) := ⟨pw_below_drewN HB.out _⟩
          generalize wr.drewN nq = wq at HBq ⊢
          have HWq : Aside0 (Below w.heap.size w wq) := ⟨hb0.trans (HBq.out.mono hb0.size)⟩
          have hcut1 := cut_low38 (some ad) xs.length k j hj hk
          obtain ⟨A2, hcut2, hC2⟩ := cut_high38 (some ad) xs.length k j hj hk
          have HC2 := Aside0.mk hC2
          have HCa : Aside0 (Kd.C k38 wq (some ad) xs.length xs) := ⟨Kd.C_below HR.out HWq.out⟩
          have hb1 : Below wq.heap.size wq (wq.alloc (.cells #[] 38)) := (Below.refl _ wq).alloc (Nat.le_refl _) _
          clear hC2
          go_wp2_with (first | (at_builtin; refine Kd.R_append_rows k38 (Rr := k38.K (wq.alloc (.cells #[] 38))) (w0 := wq) wq.heap.size rfl (.tmp 43) (.tmp 46) 32 38 zero38 80 rfl Try.underlying32 info38 rfl (by decide) (by omega) _ [] (xs.take j) (some ad) j k (fun _ => True) (fun _ => False) rfl rfl (R_empty k38 38 wq) (C_low38 rfl (Kd.C_below HCa.out hb1) hj) k38_remade (fun _ hk => hk.elim) (fun _ _ => trivial) hb1 hb1.size ?aL ?_; (case aL => simp only [List.length_nil]; omega); intro v1 w2 hR1 hb2 hg1 hat1; have HV1 := Aside0.mk hR1; have HB2 := Aside0.mk hb2; clear hR1 hg1 hat1; have y0 := keep_cell (HBq.out.trans (hb2.mono HBq.out.size)) c0; have y1 := keep_cell (HBq.out.trans (hb2.mono HBq.out.size)) c1; have y2 := keep_cell (HBq.out.trans (hb2.mono HBq.out.size)) c2; have y3 := keep_cell (HBq.out.trans (hb2.mono HBq.out.size)) c3; have y4 := keep_cell (HBq.out.trans (hb2.mono HBq.out.size)) c4; have y5 := keep_cell (HBq.out.trans (hb2.mono HBq.out.size)) c5; have y6 := keep_cell (HBq.out.trans (hb2.mono HBq.out.size)) c6; have y7 := keep_cell (HBq.out.trans (hb2.mono HBq.out.size)) c7; have y8 := keep_cell (HBq.out.trans (hb2.mono HBq.out.size)) c8; clear hb2) | (at_builtin; refine Kd.R_append k38 (w0 := wq) wq.heap.size rfl (.tmp 48) (.tmp 50) 32 38 zero38 80 rfl Try.underlying32 info38 rfl (by decide) (by omega) _ (xs.take j) t [.int .i64 t.f0, .int .i64 t.f1, .int .i64 t.f2, .string t.f3, .string t.f4, .int .i64 t.f5, .int .i64 t.f6, .bool t.f7, .bool t.f8] (fun _ => True) (fun _ => False) rfl (by first | (go_simp; done) | (go_simp; rfl)) (k38_mkM _ _ _ t) (fun _ hk => hk.elim) (fun _ _ => trivial) HV1.out HB2.out HB2.out.size ?aM ?_; (case aM => rw [List.length_take]; omega); intro v2 w3 hR2 hb3 hg2 hat2; clear hg2 hat2; have HV2 := Aside0.mk hR2; clear hR2; have HB3 := Aside0.mk hb3; clear hb3) | (at_builtin; refine Kd.R_append_rows k38 (Rr := k38.K w3) (w0 := wq) wq.heap.size rfl (.tmp 52) (.tmp 55) 32 38 zero38 80 rfl Try.underlying32 info38 rfl (by decide) (by omega) v2 (xs.take j ++ [t]) (xs.drop j) A2 (xs.length - j) (k - j) (fun _ => True) (fun _ => False) rfl rfl HV2.out (HC2.out _ _ rfl (Kd.C_below HCa.out HB3.out)) k38_remade (fun _ hk => hk.elim) (fun _ _ => trivial) HB3.out HB3.out.size ?aN ?_; (case aN => rw [List.length_append, List.length_take, List.length_singleton]; omega); intro v3 w4 hR3 hb4 hg3 hat3; have HV3 := Aside0.mk hR3; have HB4 := Aside0.mk hb4; clear hR3 hg3 hat3 hb4))
          go_ret
          exact ⟨_, _, wq.heap.size, rfl, HWq.out.size, HV3.out, with_end xs t j hj, HWq.out.trans (HB4.out.mono HWq.out.size)⟩
    · have hlt2 : decide ((j : Int) < (xs.length : Int)) = false := decide_eq_false (by omega)
      go_wp2_with fail
      go_quiet (fail)
      have HBq : Aside0 (Below w0.heap.size w0 (wr.drewN nq)) := ⟨pw_below_drewN HB.out _⟩
      generalize wr.drewN nq = wq at HBq ⊢
      have HWq : Aside0 (Below w.heap.size w wq) := ⟨hb0.trans (HBq.out.mono hb0.size)⟩
      have hcut1 := cut_low38 A xs.length k j hj hk
      obtain ⟨A2, hcut2, hC2⟩ := cut_high38 A xs.length k j hj hk
      have HC2 := Aside0.mk hC2
      have HCa : Aside0 (Kd.C k38 wq A xs.length xs) := ⟨Kd.C_below HR.out HWq.out⟩
      have hb1 : Below wq.heap.size wq (wq.alloc (.cells #[] 38)) := (Below.refl _ wq).alloc (Nat.le_refl _) _
      clear hC2
      go_wp2_with (first | (at_builtin; refine Kd.R_append_rows k38 (Rr := k38.K (wq.alloc (.cells #[] 38))) (w0 := wq) wq.heap.size rfl (.tmp 43) (.tmp 46) 32 38 zero38 80 rfl Try.underlying32 info38 rfl (by decide) (by omega) _ [] (xs.take j) A j k (fun _ => True) (fun _ => False) rfl rfl (R_empty k38 38 wq) (C_low38 rfl (Kd.C_below HCa.out hb1) hj) k38_remade (fun _ hk => hk.elim) (fun _ _ => trivial) hb1 hb1.size ?aL ?_; (case aL => simp only [List.length_nil]; omega); intro v1 w2 hR1 hb2 hg1 hat1; have HV1 := Aside0.mk hR1; have HB2 := Aside0.mk hb2; clear hR1 hg1 hat1; have y0 := keep_cell (HBq.out.trans (hb2.mono HBq.out.size)) c0; have y1 := keep_cell (HBq.out.trans (hb2.mono HBq.out.size)) c1; have y2 := keep_cell (HBq.out.trans (hb2.mono HBq.out.size)) c2; have y3 := keep_cell (HBq.out.trans (hb2.mono HBq.out.size)) c3; have y4 := keep_cell (HBq.out.trans (hb2.mono HBq.out.size)) c4; have y5 := keep_cell (HBq.out.trans (hb2.mono HBq.out.size)) c5; have y6 := keep_cell (HBq.out.trans (hb2.mono HBq.out.size)) c6; have y7 := keep_cell (HBq.out.trans (hb2.mono HBq.out.size)) c7; have y8 := keep_cell (HBq.out.trans (hb2.mono HBq.out.size)) c8; clear hb2) | (at_builtin; refine Kd.R_append k38 (w0 := wq) wq.heap.size rfl (.tmp 48) (.tmp 50) 32 38 zero38 80 rfl Try.underlying32 info38 rfl (by decide) (by omega) _ (xs.take j) t [.int .i64 t.f0, .int .i64 t.f1, .int .i64 t.f2, .string t.f3, .string t.f4, .int .i64 t.f5, .int .i64 t.f6, .bool t.f7, .bool t.f8] (fun _ => True) (fun _ => False) rfl (by first | (go_simp; done) | (go_simp; rfl)) (k38_mkM _ _ _ t) (fun _ hk => hk.elim) (fun _ _ => trivial) HV1.out HB2.out HB2.out.size ?aM ?_; (case aM => rw [List.length_take]; omega); intro v2 w3 hR2 hb3 hg2 hat2; clear hg2 hat2; have HV2 := Aside0.mk hR2; clear hR2; have HB3 := Aside0.mk hb3; clear hb3) | (at_builtin; refine Kd.R_append_rows k38 (Rr := k38.K w3) (w0 := wq) wq.heap.size rfl (.tmp 52) (.tmp 55) 32 38 zero38 80 rfl Try.underlying32 info38 rfl (by decide) (by omega) v2 (xs.take j ++ [t]) (xs.drop j) A2 (xs.length - j) (k - j) (fun _ => True) (fun _ => False) rfl rfl HV2.out (HC2.out _ _ rfl (Kd.C_below HCa.out HB3.out)) k38_remade (fun _ hk => hk.elim) (fun _ _ => trivial) HB3.out HB3.out.size ?aN ?_; (case aN => rw [List.length_append, List.length_take, List.length_singleton]; omega); intro v3 w4 hR3 hb4 hg3 hat3; have HV3 := Aside0.mk hR3; have HB4 := Aside0.mk hb4; clear hR3 hg3 hat3 hb4))
      go_ret
      exact ⟨_, _, wq.heap.size, rfl, HWq.out.size, HV3.out, with_end xs t j hj, HWq.out.trans (HB4.out.mono HWq.out.size)⟩
end Go.Proofs.Ytbmkjcgbnddgdaa.P
