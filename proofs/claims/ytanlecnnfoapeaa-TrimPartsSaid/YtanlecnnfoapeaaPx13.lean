-- Printed by a program of this session (wip/over.py) over the kit's printer.
import Derived.Test.YtanlecnnfoapeaaPx0
import Derived.Test.YtanlecnnfoapeaaPx5
import Derived.Test.YtanlecnnfoapeaaPx6
import Derived.Test.YtanlecnnfoapeaaPx8
import Derived.Test.YtanlecnnfoapeaaHmake
import Derived.Test.YtanlecnnfoapeaaHscope
namespace Go.Proofs.Ytanlecnnfoapeaa.P
open Go.RowKit Go.Proofs.YtanlecnnfoapeaaW.PrintWords Go.Proofs.YtanlecnnfoapeaaW.PrintLast Go.Proofs.YtanlecnnfoapeaaW.PrintMore
attribute [local go_sem] max2_int min2_int max_two min_two max_three min_three max_four min_four   -- for this text's walks alone
set_option linter.unusedVariables false
set_option linter.unusedSimpArgs false

attribute [local go_sem] str_geq str_leq str_gtr
/-! ### iceboxlaw23_TrimParts: function 8 -/
mutual
def iceboxlaw23_TrimParts.l0 : Nat → Int → List (S34) → List (List (S34)) → List (S34) → Int → Option (Bool)
  | 0, _, _, _, _, _ => none
  | k + 1, x2, x7, x8, x9, x10 => if x10 < (x8.length : Int) then (if 0 ≤ x10 then (if ((rd_L6 x8 x10).length : Int) = 0 then (iceboxlaw23_TrimParts.j1 k x2 x7 x8 x9 x10 true) else (if x10 < (wrap64 ((x8.length : Int) - 1)) then (iceboxlaw23_TrimParts.j1 k x2 x7 x8 x9 x10 (decide (((rd_L6 x8 x10).length : Int) < (mx 1 (wrap64 (x2)))))) else (iceboxlaw23_TrimParts.j1 k x2 x7 x8 x9 x10 false))) else (none)) else ((iceboxref1_SameEntries.f k x9 x7).bind fun t374 => (if t374 = true then ((iceboxlaw23_awake.f k).bind fun t375 => (some t375)) else (some false)))
def iceboxlaw23_TrimParts.j1 : Nat → Int → List (S34) → List (List (S34)) → List (S34) → Int → Bool → Option (Bool)
  | 0, _, _, _, _, _, _ => none
  | k + 1, x2, x7, x8, x9, x10, x52 => if x52 = true then (some false) else (if (x9.length : Int) > 0 then (if 0 ≤ (wrap64 ((x9.length : Int) - 1)) then (if (wrap64 ((x9.length : Int) - 1)) < (x9.length : Int) then (if 0 ≤ x10 then (if x10 < (x8.length : Int) then (if 0 < ((rd_L6 x8 x10).length : Int) then (iceboxlaw23_TrimParts.j2 k x2 x7 x8 x9 x10 (((rd_T34 x9 (wrap64 ((x9.length : Int) - 1))).f0.f0).toList == ((rd_T34 (rd_L6 x8 x10) 0).f0.f0).toList)) else (none)) else (none)) else (none)) else (none)) else (none)) else (iceboxlaw23_TrimParts.j2 k x2 x7 x8 x9 x10 false))
def iceboxlaw23_TrimParts.j2 : Nat → Int → List (S34) → List (List (S34)) → List (S34) → Int → Bool → Option (Bool)
  | 0, _, _, _, _, _, _ => none
  | k + 1, x2, x7, x8, x9, x10, x74 => if x74 = true then (some false) else (iceboxlaw23_TrimParts.l1 k x2 x7 x8 x9 x10 0)
def iceboxlaw23_TrimParts.l1 : Nat → Int → List (S34) → List (List (S34)) → List (S34) → Int → Int → Option (Bool)
  | 0, _, _, _, _, _, _ => none
  | k + 1, x2, x7, x8, x9, x10, x11 => if 0 ≤ x10 then (if x10 < (x8.length : Int) then (if x11 < ((rd_L6 x8 x10).length : Int) then (if 0 ≤ x11 then (if 0 ≤ (wrap64 (((rd_L6 x8 x10).length : Int) - 1)) then (if (wrap64 (((rd_L6 x8 x10).length : Int) - 1)) < ((rd_L6 x8 x10).length : Int) then (if ((rd_T34 (rd_L6 x8 x10) x11).f0.f0).toList = ((rd_T34 (rd_L6 x8 x10) (wrap64 (((rd_L6 x8 x10).length : Int) - 1))).f0.f0).toList then (if x11 ≥ (mx 1 (wrap64 (x2))) then (some false) else (if x9.length + (rd_L6 x8 x10).length < 2932031007402 then (iceboxlaw23_TrimParts.l0 k x2 x7 x8 (x9 ++ (rd_L6 x8 x10)) (wrap64 (x10 + 1))) else (none))) else (iceboxlaw23_TrimParts.l1 k x2 x7 x8 x9 x10 (wrap64 (x11 + 1)))) else (none)) else (none)) else (none)) else (if x11 ≥ (mx 1 (wrap64 (x2))) then (some false) else (if x9.length + (rd_L6 x8 x10).length < 2932031007402 then (iceboxlaw23_TrimParts.l0 k x2 x7 x8 (x9 ++ (rd_L6 x8 x10)) (wrap64 (x10 + 1))) else (none)))) else (none)) else (none)
end
def iceboxlaw23_TrimParts.f (k : Nat) (l0 : List Int) (a1 : Int) (a2 : Int) : Option (Bool) := if (l0.length : Int) > 100 then ((iceboxlaw23_awake.f k).bind fun t367 => (some t367)) else ((iceboxlaw12_Make.f l0 a1).bind fun t368 => ((trim_Cut.f k t368 (wrap64 (a2))).bind fun t371 => (iceboxlaw23_TrimParts.l0 k a2 t368 t371 ([] : List (S34)) 0)))
theorem iceboxlaw23_TrimParts.mono_l : ∀ k, (∀ y0 y1 y2 y3 y4, LeO (iceboxlaw23_TrimParts.l0 k y0 y1 y2 y3 y4) (iceboxlaw23_TrimParts.l0 (k + 1) y0 y1 y2 y3 y4)) ∧ (∀ y0 y1 y2 y3 y4 y5, LeO (iceboxlaw23_TrimParts.j1 k y0 y1 y2 y3 y4 y5) (iceboxlaw23_TrimParts.j1 (k + 1) y0 y1 y2 y3 y4 y5)) ∧ (∀ y0 y1 y2 y3 y4 y5, LeO (iceboxlaw23_TrimParts.j2 k y0 y1 y2 y3 y4 y5) (iceboxlaw23_TrimParts.j2 (k + 1) y0 y1 y2 y3 y4 y5)) ∧ (∀ y0 y1 y2 y3 y4 y5, LeO (iceboxlaw23_TrimParts.l1 k y0 y1 y2 y3 y4 y5) (iceboxlaw23_TrimParts.l1 (k + 1) y0 y1 y2 y3 y4 y5))
  | 0 => ⟨fun _ _ _ _ _ r h => by simp [iceboxlaw23_TrimParts.l0] at h, fun _ _ _ _ _ _ r h => by simp [iceboxlaw23_TrimParts.j1] at h, fun _ _ _ _ _ _ r h => by simp [iceboxlaw23_TrimParts.j2] at h, fun _ _ _ _ _ _ r h => by simp [iceboxlaw23_TrimParts.l1] at h⟩
  | k + 1 => by
    obtain ⟨ih0, ih1, ih2, ih3⟩ := iceboxlaw23_TrimParts.mono_l k
    refine ⟨?_, ?_, ?_, ?_⟩
    · intro y0 y1 y2 y3 y4
      unfold iceboxlaw23_TrimParts.l0
      repeat' first
      | (with_reducible exact ih0 _ _ _ _ _)
      | (with_reducible exact ih1 _ _ _ _ _ _)
      | (with_reducible exact ih2 _ _ _ _ _ _)
      | (with_reducible exact ih3 _ _ _ _ _ _)
      | (with_reducible exact iceboxlaw23_awake.mono _)
      | (with_reducible exact iceboxref1_SameEntries.mono _ _ _)
      | (with_reducible exact trim_Cut.mono _ _ _)
      | (with_reducible exact LeO.refl _)
      | (with_reducible exact LeO.none _)
      | (with_reducible refine LeO.ite ?_ ?_)
      | (with_reducible refine LeO.bind ?_ (fun _ => ?_))
      | exact ih0 _ _ _ _ _
      | exact ih1 _ _ _ _ _ _
      | exact ih2 _ _ _ _ _ _
      | exact ih3 _ _ _ _ _ _
      | exact iceboxlaw23_awake.mono _
      | exact iceboxref1_SameEntries.mono _ _ _
      | exact trim_Cut.mono _ _ _
      | exact LeO.none _
      | refine LeO.ite ?_ ?_
      | refine LeO.bind ?_ (fun _ => ?_)
    · intro y0 y1 y2 y3 y4 y5
      unfold iceboxlaw23_TrimParts.j1
      repeat' first
      | (with_reducible exact ih0 _ _ _ _ _)
      | (with_reducible exact ih1 _ _ _ _ _ _)
      | (with_reducible exact ih2 _ _ _ _ _ _)
      | (with_reducible exact ih3 _ _ _ _ _ _)
      | (with_reducible exact iceboxlaw23_awake.mono _)
      | (with_reducible exact iceboxref1_SameEntries.mono _ _ _)
      | (with_reducible exact trim_Cut.mono _ _ _)
      | (with_reducible exact LeO.refl _)
      | (with_reducible exact LeO.none _)
      | (with_reducible refine LeO.ite ?_ ?_)
      | (with_reducible refine LeO.bind ?_ (fun _ => ?_))
      | exact ih0 _ _ _ _ _
      | exact ih1 _ _ _ _ _ _
      | exact ih2 _ _ _ _ _ _
      | exact ih3 _ _ _ _ _ _
      | exact iceboxlaw23_awake.mono _
      | exact iceboxref1_SameEntries.mono _ _ _
      | exact trim_Cut.mono _ _ _
      | exact LeO.none _
      | refine LeO.ite ?_ ?_
      | refine LeO.bind ?_ (fun _ => ?_)
    · intro y0 y1 y2 y3 y4 y5
      unfold iceboxlaw23_TrimParts.j2
      repeat' first
      | (with_reducible exact ih0 _ _ _ _ _)
      | (with_reducible exact ih1 _ _ _ _ _ _)
      | (with_reducible exact ih2 _ _ _ _ _ _)
      | (with_reducible exact ih3 _ _ _ _ _ _)
      | (with_reducible exact iceboxlaw23_awake.mono _)
      | (with_reducible exact iceboxref1_SameEntries.mono _ _ _)
      | (with_reducible exact trim_Cut.mono _ _ _)
      | (with_reducible exact LeO.refl _)
      | (with_reducible exact LeO.none _)
      | (with_reducible refine LeO.ite ?_ ?_)
      | (with_reducible refine LeO.bind ?_ (fun _ => ?_))
      | exact ih0 _ _ _ _ _
      | exact ih1 _ _ _ _ _ _
      | exact ih2 _ _ _ _ _ _
      | exact ih3 _ _ _ _ _ _
      | exact iceboxlaw23_awake.mono _
      | exact iceboxref1_SameEntries.mono _ _ _
      | exact trim_Cut.mono _ _ _
      | exact LeO.none _
      | refine LeO.ite ?_ ?_
      | refine LeO.bind ?_ (fun _ => ?_)
    · intro y0 y1 y2 y3 y4 y5
      unfold iceboxlaw23_TrimParts.l1
      repeat' first
      | (with_reducible exact ih0 _ _ _ _ _)
      | (with_reducible exact ih1 _ _ _ _ _ _)
      | (with_reducible exact ih2 _ _ _ _ _ _)
      | (with_reducible exact ih3 _ _ _ _ _ _)
      | (with_reducible exact iceboxlaw23_awake.mono _)
      | (with_reducible exact iceboxref1_SameEntries.mono _ _ _)
      | (with_reducible exact trim_Cut.mono _ _ _)
      | (with_reducible exact LeO.refl _)
      | (with_reducible exact LeO.none _)
      | (with_reducible refine LeO.ite ?_ ?_)
      | (with_reducible refine LeO.bind ?_ (fun _ => ?_))
      | exact ih0 _ _ _ _ _
      | exact ih1 _ _ _ _ _ _
      | exact ih2 _ _ _ _ _ _
      | exact ih3 _ _ _ _ _ _
      | exact iceboxlaw23_awake.mono _
      | exact iceboxref1_SameEntries.mono _ _ _
      | exact trim_Cut.mono _ _ _
      | exact LeO.none _
      | refine LeO.ite ?_ ?_
      | refine LeO.bind ?_ (fun _ => ?_)
theorem iceboxlaw23_TrimParts.mono : ∀ a0 a1 a2 k, LeO (iceboxlaw23_TrimParts.f k a0 a1 a2) (iceboxlaw23_TrimParts.f (k + 1) a0 a1 a2) := by
  intro a0 a1 a2 k
  obtain ⟨ih0, ih1, ih2, ih3⟩ := iceboxlaw23_TrimParts.mono_l k
  unfold iceboxlaw23_TrimParts.f
  repeat' first
      | (with_reducible exact ih0 _ _ _ _ _)
      | (with_reducible exact ih1 _ _ _ _ _ _)
      | (with_reducible exact ih2 _ _ _ _ _ _)
      | (with_reducible exact ih3 _ _ _ _ _ _)
      | (with_reducible exact iceboxlaw23_awake.mono _)
      | (with_reducible exact iceboxref1_SameEntries.mono _ _ _)
      | (with_reducible exact trim_Cut.mono _ _ _)
      | (with_reducible exact LeO.refl _)
      | (with_reducible exact LeO.none _)
      | (with_reducible refine LeO.ite ?_ ?_)
      | (with_reducible refine LeO.bind ?_ (fun _ => ?_))
      | exact ih0 _ _ _ _ _
      | exact ih1 _ _ _ _ _ _
      | exact ih2 _ _ _ _ _ _
      | exact ih3 _ _ _ _ _ _
      | exact iceboxlaw23_awake.mono _
      | exact iceboxref1_SameEntries.mono _ _ _
      | exact trim_Cut.mono _ _ _
      | exact LeO.none _
      | refine LeO.ite ?_ ?_
      | refine LeO.bind ?_ (fun _ => ?_)
set_option maxHeartbeats 8000000 in
set_option maxRecDepth 100000 in
theorem iceboxlaw23_TrimParts.calls (k : Nat) (A0 : Option Addr) (c0 : Nat) (l0 : List Int) (a1 : Int) (a2 : Int) (r : Bool) (w : World) (hr0 : Kd.C (Kd.int .u8) w A0 l0.length l0) (hc0 : l0.length ≤ c0) (h : iceboxlaw23_TrimParts.f k l0 a1 a2 = some r) :
    Calls Try.prog 8 #[.slice A0 l0.length c0, .int .u8 a1, .int .u8 a2] w fun e w' => e = .returned (.bool r) ∧ Below w.heap.size w w' := by
  have HR0 := Aside0.mk hr0
  have HC0 := Aside0.mk hc0
  clear hr0 hc0
  have HB := Aside0.mk (Below.refl w.heap.size w)
  have H : (if (l0.length : Int) > 100 then ((iceboxlaw23_awake.f k).bind fun t367 => (some t367)) else ((iceboxlaw12_Make.f l0 a1).bind fun t368 => ((trim_Cut.f k t368 (wrap64 (a2))).bind fun t371 => (iceboxlaw23_TrimParts.l0 k a2 t368 t371 ([] : List (S34)) 0)))) = some r := h
  clear h
  by_cases c4 : (l0.length : Int) > 100
  · rw [if_pos c4] at H
    have c4b0 : decide (100 < (l0.length : Int)) = true := decide_eq_true c4
    have c4b1 : decide (100 < l0.length) = true := decide_eq_true (by omega)
    clear c4
    replace H := Option.bind_eq_some_iff.mp H
    obtain ⟨t367, A50, H⟩ := H
    replace H : (some t367) = some r := H
    have A5 := Aside0.mk A50
    clear A50
    obtain rfl := Option.some.inj H
    go_enter Try.func8, Try.ntmps8
    go_wp2_with (first | (go_at_call 9; (with_reducible refine (iceboxlaw23_awake.calls k  t367 _ A5.out).mono ?_); rintro e w6 ⟨rfl, hb⟩; have n0_ := Aside0.mk (below_step (by repeat (first | (with_reducible first | exact HB.out | apply below_alloc | apply pw_below_drewN | apply below_drew1) | exact HB.out)) hb); clear HB; have HB := n0_; clear n0_; (try clear hb); (try clear hb2); (try clear hk); (try clear hi)))
    repeat (go_quiet (first | (go_at_call 9; (with_reducible refine (iceboxlaw23_awake.calls k  t367 _ A5.out).mono ?_); rintro e w6 ⟨rfl, hb⟩; have n0_ := Aside0.mk (below_step (by repeat (first | (with_reducible first | exact HB.out | apply below_alloc | apply pw_below_drewN | apply below_drew1) | exact HB.out)) hb); clear HB; have HB := n0_; clear n0_; (try clear hb); (try clear hb2); (try clear hk); (try clear hi))); try go_wp2_with (first | (go_at_call 9; (with_reducible refine (iceboxlaw23_awake.calls k  t367 _ A5.out).mono ?_); rintro e w6 ⟨rfl, hb⟩; have n0_ := Aside0.mk (below_step (by repeat (first | (with_reducible first | exact HB.out | apply below_alloc | apply pw_below_drewN | apply below_drew1) | exact HB.out)) hb); clear HB; have HB := n0_; clear n0_; (try clear hb); (try clear hb2); (try clear hk); (try clear hi))))
    go_ret
    exact ⟨by first | rfl | (simp [errW_none, errW_some] <;> rfl) | (simp [*, errW_none, errW_some] <;> rfl), by repeat (first | (with_reducible first | exact HB.out | apply below_alloc | apply pw_below_drewN | apply below_drew1) | exact HB.out)⟩
  · rw [if_neg c4] at H
    have c4b0 : decide (100 < (l0.length : Int)) = false := decide_eq_false c4
    have c4b1 : decide (100 < l0.length) = false := decide_eq_false (by omega)
    clear c4
    replace H := Option.bind_eq_some_iff.mp H
    obtain ⟨t368, A70, H⟩ := H
    replace H : ((trim_Cut.f k t368 (wrap64 (a2))).bind fun t371 => (iceboxlaw23_TrimParts.l0 k a2 t368 t371 ([] : List (S34)) 0)) = some r := H
    have A7 := Aside0.mk A70
    clear A70
    replace H := Option.bind_eq_some_iff.mp H
    obtain ⟨t371, A80, H⟩ := H
    replace H : (iceboxlaw23_TrimParts.l0 k a2 t368 t371 ([] : List (S34)) 0) = some r := H
    have A8 := Aside0.mk A80
    clear A80
    have H' := Aside0.mk H
    clear H
    go_enter Try.func8, Try.ntmps8
    go_wp2_with (first | (go_at_call 10; (with_reducible refine (iceboxlaw12_Make.calls _ _ l0 a1 t368 _ ?side1 ?side2 A7.out).mono ?_); (case side1 => repeat (first | exact HR0.out | (with_reducible refine Kd.C_alloc ?_ _) | (with_reducible refine Kd.C_drewN ?_ _) | (with_reducible refine Kd.C_drew ?_))); (case side2 => exact HC0.out); rintro e w9 ⟨v369, rfl, ho0, hb⟩; have n0_ := Aside0.mk (Kd.R_lower ho0 (below_size (by repeat (first | (with_reducible first | exact HB.out | apply below_alloc | apply pw_below_drewN | apply below_drew1) | exact HB.out)))); have n1_ := Aside0.mk (below_step (by repeat (first | (with_reducible first | exact HB.out | apply below_alloc | apply pw_below_drewN | apply below_drew1) | exact HB.out)) hb); clear HB; have HO370 := n0_; have HB := n1_; clear n0_ n1_; (try clear hb); (try clear hb2); (try clear hk); (try clear hi); (try clear ho0); obtain ⟨Ao10, co10, eo10⟩ := Kd.R_slice HO370.out; subst eo10) | (go_at_call 17; (with_reducible refine (trim_Cut.calls k _ _ t368 (wrap64 (a2)) t371 _ ?side1 ?side2 A8.out).mono ?_); (case side1 => repeat (first | exact (Kd.R_reads' HO370.out).2.2 | (with_reducible refine Kd.C_alloc ?_ _) | (with_reducible refine Kd.C_drewN ?_ _) | (with_reducible refine Kd.C_drew ?_))); (case side2 => exact (Kd.R_reads' HO370.out).2.1); rintro e w11 ⟨v372, rfl, ho0, hb⟩; have n0_ := Aside0.mk (Kd.R_below (by (with_reducible repeat (first | apply Kd.R_alloc | apply Kd.R_drewN | apply Kd.R_drew)); exact HO370.out) hb); have n1_ := Aside0.mk (Kd.S_lower (Kd.S_new' ho0 (Kd.R_lt (by (with_reducible repeat (first | apply Kd.R_alloc | apply Kd.R_drewN | apply Kd.R_drew)); exact HO370.out))) (below_size (by repeat (first | (with_reducible first | exact HB.out | apply below_alloc | apply pw_below_drewN | apply below_drew1) | exact HB.out)))); have n2_ := Aside0.mk (below_step (by repeat (first | (with_reducible first | exact HB.out | apply below_alloc | apply pw_below_drewN | apply below_drew1) | exact HB.out)) hb); clear HO370; clear HB; have HO370 := n0_; have HO373 := n1_; have HB := n2_; clear n0_ n1_ n2_; (try clear hb); (try clear hb2); (try clear hk); (try clear hi); (try clear ho0)))
    repeat (go_quiet (first | (go_at_call 10; (with_reducible refine (iceboxlaw12_Make.calls _ _ l0 a1 t368 _ ?side1 ?side2 A7.out).mono ?_); (case side1 => repeat (first | exact HR0.out | (with_reducible refine Kd.C_alloc ?_ _) | (with_reducible refine Kd.C_drewN ?_ _) | (with_reducible refine Kd.C_drew ?_))); (case side2 => exact HC0.out); rintro e w9 ⟨v369, rfl, ho0, hb⟩; have n0_ := Aside0.mk (Kd.R_lower ho0 (below_size (by repeat (first | (with_reducible first | exact HB.out | apply below_alloc | apply pw_below_drewN | apply below_drew1) | exact HB.out)))); have n1_ := Aside0.mk (below_step (by repeat (first | (with_reducible first | exact HB.out | apply below_alloc | apply pw_below_drewN | apply below_drew1) | exact HB.out)) hb); clear HB; have HO370 := n0_; have HB := n1_; clear n0_ n1_; (try clear hb); (try clear hb2); (try clear hk); (try clear hi); (try clear ho0); obtain ⟨Ao10, co10, eo10⟩ := Kd.R_slice HO370.out; subst eo10) | (go_at_call 17; (with_reducible refine (trim_Cut.calls k _ _ t368 (wrap64 (a2)) t371 _ ?side1 ?side2 A8.out).mono ?_); (case side1 => repeat (first | exact (Kd.R_reads' HO370.out).2.2 | (with_reducible refine Kd.C_alloc ?_ _) | (with_reducible refine Kd.C_drewN ?_ _) | (with_reducible refine Kd.C_drew ?_))); (case side2 => exact (Kd.R_reads' HO370.out).2.1); rintro e w11 ⟨v372, rfl, ho0, hb⟩; have n0_ := Aside0.mk (Kd.R_below (by (with_reducible repeat (first | apply Kd.R_alloc | apply Kd.R_drewN | apply Kd.R_drew)); exact HO370.out) hb); have n1_ := Aside0.mk (Kd.S_lower (Kd.S_new' ho0 (Kd.R_lt (by (with_reducible repeat (first | apply Kd.R_alloc | apply Kd.R_drewN | apply Kd.R_drew)); exact HO370.out))) (below_size (by repeat (first | (with_reducible first | exact HB.out | apply below_alloc | apply pw_below_drewN | apply below_drew1) | exact HB.out)))); have n2_ := Aside0.mk (below_step (by repeat (first | (with_reducible first | exact HB.out | apply below_alloc | apply pw_below_drewN | apply below_drew1) | exact HB.out)) hb); clear HO370; clear HB; have HO370 := n0_; have HO373 := n1_; have HB := n2_; clear n0_ n1_ n2_; (try clear hb); (try clear hb2); (try clear hk); (try clear hi); (try clear ho0))); try go_wp2_with (first | (go_at_call 10; (with_reducible refine (iceboxlaw12_Make.calls _ _ l0 a1 t368 _ ?side1 ?side2 A7.out).mono ?_); (case side1 => repeat (first | exact HR0.out | (with_reducible refine Kd.C_alloc ?_ _) | (with_reducible refine Kd.C_drewN ?_ _) | (with_reducible refine Kd.C_drew ?_))); (case side2 => exact HC0.out); rintro e w9 ⟨v369, rfl, ho0, hb⟩; have n0_ := Aside0.mk (Kd.R_lower ho0 (below_size (by repeat (first | (with_reducible first | exact HB.out | apply below_alloc | apply pw_below_drewN | apply below_drew1) | exact HB.out)))); have n1_ := Aside0.mk (below_step (by repeat (first | (with_reducible first | exact HB.out | apply below_alloc | apply pw_below_drewN | apply below_drew1) | exact HB.out)) hb); clear HB; have HO370 := n0_; have HB := n1_; clear n0_ n1_; (try clear hb); (try clear hb2); (try clear hk); (try clear hi); (try clear ho0); obtain ⟨Ao10, co10, eo10⟩ := Kd.R_slice HO370.out; subst eo10) | (go_at_call 17; (with_reducible refine (trim_Cut.calls k _ _ t368 (wrap64 (a2)) t371 _ ?side1 ?side2 A8.out).mono ?_); (case side1 => repeat (first | exact (Kd.R_reads' HO370.out).2.2 | (with_reducible refine Kd.C_alloc ?_ _) | (with_reducible refine Kd.C_drewN ?_ _) | (with_reducible refine Kd.C_drew ?_))); (case side2 => exact (Kd.R_reads' HO370.out).2.1); rintro e w11 ⟨v372, rfl, ho0, hb⟩; have n0_ := Aside0.mk (Kd.R_below (by (with_reducible repeat (first | apply Kd.R_alloc | apply Kd.R_drewN | apply Kd.R_drew)); exact HO370.out) hb); have n1_ := Aside0.mk (Kd.S_lower (Kd.S_new' ho0 (Kd.R_lt (by (with_reducible repeat (first | apply Kd.R_alloc | apply Kd.R_drewN | apply Kd.R_drew)); exact HO370.out))) (below_size (by repeat (first | (with_reducible first | exact HB.out | apply below_alloc | apply pw_below_drewN | apply below_drew1) | exact HB.out)))); have n2_ := Aside0.mk (below_step (by repeat (first | (with_reducible first | exact HB.out | apply below_alloc | apply pw_below_drewN | apply below_drew1) | exact HB.out)) hb); clear HO370; clear HB; have HO370 := n0_; have HO373 := n1_; have HB := n2_; clear n0_ n1_ n2_; (try clear hb); (try clear hb2); (try clear hk); (try clear hi); (try clear ho0))))
    go_loopg [9, 10] k (fun kq v9 v10 w' => ∃ (x9_1 : List (S34)) (x10_1 : Int), v10 = .int .i64 x10_1 ∧ Aside0 (iceboxlaw23_TrimParts.l0 kq a2 t368 t371 x9_1 x10_1 = some r) ∧ Aside0 (kq ≤ k) ∧ Aside0 (Kd.R k34 34 w' w.heap.size (fun k_ => some k_ ≠ (v9 : Value).ownBlock) (.slice Ao10 t368.length co10) t368) ∧ Aside0 (Kd.S (Kd.slice 34 k34) 24 w' w.heap.size (fun k_ => some k_ ≠ ((.slice Ao10 t368.length co10) : Value).ownBlock ∧ some k_ ≠ (v9 : Value).ownBlock) v372 t371) ∧ Aside0 (Kd.R k34 34 w' w.heap.size (fun k_ => some k_ ≠ ((.slice Ao10 t368.length co10) : Value).ownBlock) v9 x9_1) ∧ Aside0 (Below w.heap.size w w'))
    case atStart => exact ⟨(([] : List (S34))), (0), (by first | rfl | (simp; done) | (simp [*]; done)), H', ⟨Nat.le_refl _⟩, ⟨by (with_reducible repeat (first | apply Kd.R_alloc | apply Kd.R_drewN | apply Kd.R_drew)); exact Kd.R_mono HO370.out (fun _ hk => (by simp [Value.ownBlock]))⟩, ⟨by (with_reducible repeat (first | apply Kd.S_alloc | apply Kd.S_drewN | apply Kd.S_drew)); exact Kd.S_mono HO373.out (fun _ hk => ⟨hk.2, (by simp [Value.ownBlock])⟩)⟩, ⟨by first | exact Kd.R_nil _ _ _ _ _ | exact Kd.N_nil _ _ _ _ _ | exact Kd.V_nil _ _ _ _ _ | exact Kd.Q_nil _ _ _ _ _ | exact Kd.S_nil _ _ _ _ _⟩, ⟨by repeat (first | (with_reducible first | exact HB.out | apply below_alloc | apply pw_below_drewN | apply below_drew1) | exact HB.out)⟩⟩
    case round =>
      clear H'
      try clear p2
      try clear c4
      try clear c4b0
      try clear c4b1
      try clear p6
      try clear c8
      obtain ⟨x9_1, x10_1, rfl, HA, HK1, HO_7, HO_8, HO_9, HB⟩ := hrel
      cases gk with
      | zero => exact absurd HA.out (by simp [iceboxlaw23_TrimParts.l0])
      | succ k1 =>
        have H := HA.out
        clear HA
        simp only [iceboxlaw23_TrimParts.l0] at H
        by_cases c12 : x10_1 < (t371.length : Int)
        · rw [if_pos c12] at H
          have c12b0 : decide (x10_1 < (t371.length : Int)) = true := decide_eq_true c12
          clear c12
          have HC13 := Aside0.mk H
          clear H
          obtain ⟨Ao14, co14, eo14⟩ := Kd.S_slice HO_8.out
          subst eo14
          go_upto_region 9 with (fail)
          repeat (go_quiet (fail); go_upto_region 9 with (fail))
          go_cut [52] (fun v52 wc => ∃ (kq : Nat) (x52_12 : Bool), v52 = .bool x52_12 ∧ Aside0 (iceboxlaw23_TrimParts.j1 kq a2 t368 t371 x9_1 x10_1 x52_12 = some r) ∧ Aside0 (kq ≤ k1) ∧ Aside0 (Kd.R k34 34 wc w.heap.size (fun k_ => some k_ ≠ (u9 : Value).ownBlock) (.slice Ao10 t368.length co10) t368) ∧ Aside0 (Kd.S (Kd.slice 34 k34) 24 wc w.heap.size (fun k_ => some k_ ≠ ((.slice Ao10 t368.length co10) : Value).ownBlock ∧ some k_ ≠ (u9 : Value).ownBlock) (.slice Ao14 t371.length co14) t371) ∧ Aside0 (Kd.R k34 34 wc w.heap.size (fun k_ => some k_ ≠ ((.slice Ao10 t368.length co10) : Value).ownBlock) u9 x9_1) ∧ Aside0 (Below w.heap.size w wc))
          case first =>
            have H := HC13.out
            clear HC13
            by_cases c15 : 0 ≤ x10_1
            · rw [if_pos c15] at H
              have c15b0 : decide (0 ≤ x10_1) = true := decide_eq_true c15
              clear c15
              (first | rw [c15b0] | (simp only [i64_w, i32_w]; rw [c15b0]) | skip)
              by_cases c16 : ((rd_L6 t371 x10_1).length : Int) = 0
              · rw [if_pos c16] at H
                have c16b0 : (((rd_L6 t371 x10_1).length : Int) == 0) = true := beq_iff_eq.mpr c16
                have c16b1 : (((rd_L6 t371 x10_1).length : Int) != 0) = false := bne_eq_false_iff_eq.mpr c16
                clear c16
                have H' := Aside0.mk H
                clear H
                have p376 : 0 ≤ (x10_1 : Int) := of_decide_eq_true (by first | (with_reducible assumption) | assumption)
                have q376 : x10_1 < (t371.length : Int) := of_decide_eq_true (by first | (with_reducible assumption) | assumption)
                obtain ⟨ad376, A376_0, c376_0, e376, hx376_0, hl376_0, hi376_0⟩ := at_L6 (Kd.S_reads' HO_8.out).2.2 x10_1 p376 q376
                cases e376
                obtain ⟨ce376, hce376, hMe376, hcc376⟩ := Kd.S_get HO_8.out [] x10_1 p376 (by first | exact q376 | exact of_decide_eq_true (by first | (with_reducible assumption) | assumption) | (have e_ := (Kd.S_reads' HO_8.out).1; omega))
                obtain ⟨ve376_0, rfl, ge376_0⟩ := hMe376
                have hv376_0 := hcc376 0 _ rfl
                rw [Nat.add_zero, show ((Kd.slice 34 k34)).sz = 1 from rfl, Nat.mul_one] at hv376_0
                replace hv376_0 := Option.some.inj (hv376_0.symm.trans hx376_0)
                rw [hv376_0] at ge376_0
                have HL376_0 := Aside0.mk (show Kd.R k34 34 _ _ _ _ (rd_L6 t371 x10_1) from ge376_0)
                clear hv376_0 ge376_0
                clear hcc376 hce376
                have HR376_0 := Aside0.mk hi376_0
                have HC376_0 := Aside0.mk hl376_0
                clear hi376_0 hl376_0
                replace p376 := eq_true p376
                replace q376 := eq_true q376
                go_wp2
                repeat (go_quiet (fail); try go_wp2)
                go_meet
                case rel => exact ⟨_, (true), (by first | rfl | (simp; done) | (simp [*]; done)), H', ⟨by have := HK1.out; first | omega | exact Nat.le_refl _⟩, ⟨by (with_reducible repeat (first | apply Kd.R_alloc | apply Kd.R_drewN | apply Kd.R_drew)); exact HO_7.out⟩, ⟨by (with_reducible repeat (first | apply Kd.S_alloc | apply Kd.S_drewN | apply Kd.S_drew)); exact HO_8.out⟩, ⟨by (with_reducible repeat (first | apply Kd.R_alloc | apply Kd.R_drewN | apply Kd.R_drew)); exact HO_9.out⟩, ⟨by repeat (first | (with_reducible first | exact HB.out | apply below_alloc | apply pw_below_drewN | apply below_drew1) | exact HB.out)⟩⟩
              · rw [if_neg c16] at H
                have c16b0 : (((rd_L6 t371 x10_1).length : Int) == 0) = false := beq_eq_false_iff_ne.mpr c16
                have c16b1 : (((rd_L6 t371 x10_1).length : Int) != 0) = true := bne_iff_ne.mpr c16
                have c16b2 : ¬ ((rd_L6 t371 x10_1) = []) := fun h_ => c16 (by rw [h_]; rfl)
                by_cases c17 : x10_1 < (wrap64 ((t371.length : Int) - 1))
                · rw [if_pos c17] at H
                  have c17b0 : decide (x10_1 < (wrap64 ((t371.length : Int) - 1))) = true := decide_eq_true c17
                  clear c17
                  obtain ⟨ji18, hji18⟩ : ∃ j_ : Int, (mx 1 (wrap64 (a2))) = j_ := ⟨_, rfl⟩
                  replace H : (iceboxlaw23_TrimParts.j1 k1 a2 t368 t371 x9_1 x10_1 (decide (((rd_L6 t371 x10_1).length : Int) < (ji18)))) = some r := by first | (rw [hji18] at H; exact H) | (simp only [hji18] at H ⊢; exact H)
                  have hji18_ : (if 1 < (wrap64 (a2)) then (wrap64 (a2)) else 1) = ji18 := hji18
                  have H' := Aside0.mk H
                  clear H
                  have p376 : 0 ≤ (x10_1 : Int) := of_decide_eq_true (by first | (with_reducible assumption) | assumption)
                  have q376 : x10_1 < (t371.length : Int) := of_decide_eq_true (by first | (with_reducible assumption) | assumption)
                  obtain ⟨ad376, A376_0, c376_0, e376, hx376_0, hl376_0, hi376_0⟩ := at_L6 (Kd.S_reads' HO_8.out).2.2 x10_1 p376 q376
                  cases e376
                  obtain ⟨ce376, hce376, hMe376, hcc376⟩ := Kd.S_get HO_8.out [] x10_1 p376 (by first | exact q376 | exact of_decide_eq_true (by first | (with_reducible assumption) | assumption) | (have e_ := (Kd.S_reads' HO_8.out).1; omega))
                  obtain ⟨ve376_0, rfl, ge376_0⟩ := hMe376
                  have hv376_0 := hcc376 0 _ rfl
                  rw [Nat.add_zero, show ((Kd.slice 34 k34)).sz = 1 from rfl, Nat.mul_one] at hv376_0
                  replace hv376_0 := Option.some.inj (hv376_0.symm.trans hx376_0)
                  rw [hv376_0] at ge376_0
                  have HL376_0 := Aside0.mk (show Kd.R k34 34 _ _ _ _ (rd_L6 t371 x10_1) from ge376_0)
                  clear hv376_0 ge376_0
                  clear hcc376 hce376
                  have HR376_0 := Aside0.mk hi376_0
                  have HC376_0 := Aside0.mk hl376_0
                  clear hi376_0 hl376_0
                  replace p376 := eq_true p376
                  replace q376 := eq_true q376
                  have p377 : 0 ≤ (x10_1 : Int) := of_decide_eq_true (by first | (with_reducible assumption) | assumption)
                  have q377 : x10_1 < (t371.length : Int) := of_decide_eq_true (by first | (with_reducible assumption) | assumption)
                  obtain ⟨ad377, A377_0, c377_0, e377, hx377_0, hl377_0, hi377_0⟩ := at_L6 (Kd.S_reads' HO_8.out).2.2 x10_1 p377 q377
                  obtain rfl : ad376 = ad377 := (by injection e377)
                  obtain ⟨ce377, hce377, hMe377, hcc377⟩ := Kd.S_get HO_8.out [] x10_1 p377 (by first | exact q377 | exact of_decide_eq_true (by first | (with_reducible assumption) | assumption) | (have e_ := (Kd.S_reads' HO_8.out).1; omega))
                  obtain ⟨ve377_0, rfl, ge377_0⟩ := hMe377
                  have hv377_0 := hcc377 0 _ rfl
                  rw [Nat.add_zero, show ((Kd.slice 34 k34)).sz = 1 from rfl, Nat.mul_one] at hv377_0
                  replace hv377_0 := Option.some.inj (hv377_0.symm.trans hx377_0)
                  rw [hv377_0] at ge377_0
                  have HL377_0 := Aside0.mk (show Kd.R k34 34 _ _ _ _ (rd_L6 t371 x10_1) from ge377_0)
                  clear hv377_0 ge377_0
                  clear hcc377 hce377
                  have HR377_0 := Aside0.mk hi377_0
                  have HC377_0 := Aside0.mk hl377_0
                  clear hi377_0 hl377_0
                  replace p377 := eq_true p377
                  replace q377 := eq_true q377
                  have ea_ := Option.some.inj (hx376_0.symm.trans hx377_0)
                  injection ea_ with ea_ en_ ec_
                  subst ea_
                  subst ec_
                  clear en_
                  go_wp2
                  repeat (go_quiet (fail); try go_wp2)
                  go_meet
                  case rel => exact ⟨_, (decide (((rd_L6 t371 x10_1).length : Int) < (ji18))), (by first | rfl | (simp; done) | (simp only [← hji18] <;> (first | rfl | simp)) | (simp [*]; done)), H', ⟨by have := HK1.out; first | omega | exact Nat.le_refl _⟩, ⟨by (with_reducible repeat (first | apply Kd.R_alloc | apply Kd.R_drewN | apply Kd.R_drew)); exact HO_7.out⟩, ⟨by (with_reducible repeat (first | apply Kd.S_alloc | apply Kd.S_drewN | apply Kd.S_drew)); exact HO_8.out⟩, ⟨by (with_reducible repeat (first | apply Kd.R_alloc | apply Kd.R_drewN | apply Kd.R_drew)); exact HO_9.out⟩, ⟨by repeat (first | (with_reducible first | exact HB.out | apply below_alloc | apply pw_below_drewN | apply below_drew1) | exact HB.out)⟩⟩
                · rw [if_neg c17] at H
                  have c17b0 : decide (x10_1 < (wrap64 ((t371.length : Int) - 1))) = false := decide_eq_false c17
                  clear c17
                  have H' := Aside0.mk H
                  clear H
                  have p376 : 0 ≤ (x10_1 : Int) := of_decide_eq_true (by first | (with_reducible assumption) | assumption)
                  have q376 : x10_1 < (t371.length : Int) := of_decide_eq_true (by first | (with_reducible assumption) | assumption)
                  obtain ⟨ad376, A376_0, c376_0, e376, hx376_0, hl376_0, hi376_0⟩ := at_L6 (Kd.S_reads' HO_8.out).2.2 x10_1 p376 q376
                  cases e376
                  obtain ⟨ce376, hce376, hMe376, hcc376⟩ := Kd.S_get HO_8.out [] x10_1 p376 (by first | exact q376 | exact of_decide_eq_true (by first | (with_reducible assumption) | assumption) | (have e_ := (Kd.S_reads' HO_8.out).1; omega))
                  obtain ⟨ve376_0, rfl, ge376_0⟩ := hMe376
                  have hv376_0 := hcc376 0 _ rfl
                  rw [Nat.add_zero, show ((Kd.slice 34 k34)).sz = 1 from rfl, Nat.mul_one] at hv376_0
                  replace hv376_0 := Option.some.inj (hv376_0.symm.trans hx376_0)
                  rw [hv376_0] at ge376_0
                  have HL376_0 := Aside0.mk (show Kd.R k34 34 _ _ _ _ (rd_L6 t371 x10_1) from ge376_0)
                  clear hv376_0 ge376_0
                  clear hcc376 hce376
                  have HR376_0 := Aside0.mk hi376_0
                  have HC376_0 := Aside0.mk hl376_0
                  clear hi376_0 hl376_0
                  replace p376 := eq_true p376
                  replace q376 := eq_true q376
                  go_wp2
                  repeat (go_quiet (fail); try go_wp2)
                  go_meet
                  case rel => exact ⟨_, (false), (by first | rfl | (simp; done) | (simp [*]; done)), H', ⟨by have := HK1.out; first | omega | exact Nat.le_refl _⟩, ⟨by (with_reducible repeat (first | apply Kd.R_alloc | apply Kd.R_drewN | apply Kd.R_drew)); exact HO_7.out⟩, ⟨by (with_reducible repeat (first | apply Kd.S_alloc | apply Kd.S_drewN | apply Kd.S_drew)); exact HO_8.out⟩, ⟨by (with_reducible repeat (first | apply Kd.R_alloc | apply Kd.R_drewN | apply Kd.R_drew)); exact HO_9.out⟩, ⟨by repeat (first | (with_reducible first | exact HB.out | apply below_alloc | apply pw_below_drewN | apply below_drew1) | exact HB.out)⟩⟩
            · rw [if_neg c15] at H
              exact absurd H (by simp)
          case rest =>
            clear HC13
            try clear c1
            try clear p2
            try clear c3
            try clear p3
            try clear q3
            try clear hx3
            try clear c4
            try clear c4b0
            try clear c4b1
            try clear p6
            try clear c8
            try clear c12
            try clear c12b0
            try clear c15
            try clear c15b0
            try clear c16
            try clear c16b0
            try clear c16b1
            try clear c16b2
            try clear c17
            try clear c17b0
            try clear hx376_0
            try clear hx377_0
            try clear p2
            try clear p376
            try clear p377
            try clear p6
            try clear q376
            try clear q377
            obtain ⟨kq, x52_12, rfl, HA, HJ12, HO_7, HO_8, HO_9, HB⟩ := hcut
            cases kq with
            | zero => exact absurd HA.out (by simp [iceboxlaw23_TrimParts.j1])
            | succ kj12 =>
              have H := HA.out
              clear HA
              simp only [iceboxlaw23_TrimParts.j1] at H
              by_cases c19 : x52_12 = true
              · subst c19
                have H1 : (some false) = some r := by rw [if_pos rfl] at H; exact H
                clear H
                have H := H1
                clear H1
                obtain rfl := Option.some.inj H
                go_wp2
                repeat (go_quiet (fail); try go_wp2)
                go_ret
                exact ⟨by first | rfl | (simp [errW_none, errW_some] <;> rfl) | (simp [*, errW_none, errW_some] <;> rfl), by repeat (first | (with_reducible first | exact HB.out | apply below_alloc | apply pw_below_drewN | apply below_drew1) | exact HB.out)⟩
              · replace c19 := Bool.eq_false_iff.mpr c19
                subst c19
                have H1 : (if (x9_1.length : Int) > 0 then (if 0 ≤ (wrap64 ((x9_1.length : Int) - 1)) then (if (wrap64 ((x9_1.length : Int) - 1)) < (x9_1.length : Int) then (if 0 ≤ x10_1 then (if x10_1 < (t371.length : Int) then (if 0 < ((rd_L6 t371 x10_1).length : Int) then (iceboxlaw23_TrimParts.j2 kj12 a2 t368 t371 x9_1 x10_1 (((rd_T34 x9_1 (wrap64 ((x9_1.length : Int) - 1))).f0.f0).toList == ((rd_T34 (rd_L6 t371 x10_1) 0).f0.f0).toList)) else (none)) else (none)) else (none)) else (none)) else (none)) else (iceboxlaw23_TrimParts.j2 kj12 a2 t368 t371 x9_1 x10_1 false)) = some r := by rw [if_neg (show ¬ (false = true) by decide)] at H; exact H
                clear H
                have H := H1
                clear H1
                have HC20 := Aside0.mk H
                clear H
                go_upto_region 11 with (fail)
                repeat (go_quiet (fail); go_upto_region 11 with (fail))
                go_cut [74] (fun v74 wc => ∃ (kq : Nat) (x74_19 : Bool), v74 = .bool x74_19 ∧ Aside0 (iceboxlaw23_TrimParts.j2 kq a2 t368 t371 x9_1 x10_1 x74_19 = some r) ∧ Aside0 (kq ≤ kj12) ∧ Aside0 (Kd.R k34 34 wc w.heap.size (fun k_ => some k_ ≠ (u9 : Value).ownBlock) (.slice Ao10 t368.length co10) t368) ∧ Aside0 (Kd.S (Kd.slice 34 k34) 24 wc w.heap.size (fun k_ => some k_ ≠ ((.slice Ao10 t368.length co10) : Value).ownBlock ∧ some k_ ≠ (u9 : Value).ownBlock) (.slice Ao14 t371.length co14) t371) ∧ Aside0 (Kd.R k34 34 wc w.heap.size (fun k_ => some k_ ≠ ((.slice Ao10 t368.length co10) : Value).ownBlock) u9 x9_1) ∧ Aside0 (Below w.heap.size w wc))
                case first =>
                  have H := HC20.out
                  clear HC20
                  by_cases c21 : (x9_1.length : Int) > 0
                  · rw [if_pos c21] at H
                    have c21b0 : decide (0 < (x9_1.length : Int)) = true := decide_eq_true c21
                    have c21b1 : decide (0 < x9_1.length) = true := decide_eq_true (by omega)
                    clear c21
                    (first | rw [c21b0] | (simp only [i64_w, i32_w]; rw [c21b0]) | skip)
                    obtain ⟨ji22, hji22⟩ : ∃ j_ : Int, (wrap64 ((x9_1.length : Int) - 1)) = j_ := ⟨_, rfl⟩
                    replace H : (if 0 ≤ (ji22) then (if (ji22) < (x9_1.length : Int) then (if 0 ≤ x10_1 then (if x10_1 < (t371.length : Int) then (if 0 < ((rd_L6 t371 x10_1).length : Int) then (iceboxlaw23_TrimParts.j2 kj12 a2 t368 t371 x9_1 x10_1 (((rd_T34 x9_1 (ji22)).f0.f0).toList == ((rd_T34 (rd_L6 t371 x10_1) 0).f0.f0).toList)) else (none)) else (none)) else (none)) else (none)) else (none)) = some r := by first | (rw [hji22] at H; exact H) | (simp only [hji22] at H ⊢; exact H)
                    have hji22w : (IntKind.i64.wrap ((x9_1.length : Int) - 1)) = ji22 := (i64_w _).trans hji22
                    by_cases c23 : 0 ≤ (ji22)
                    · rw [if_pos c23] at H
                      have c23b0 : decide (0 ≤ (ji22)) = true := decide_eq_true c23
                      clear c23
                      by_cases c24 : (ji22) < (x9_1.length : Int)
                      · rw [if_pos c24] at H
                        have c24b0 : decide ((ji22) < (x9_1.length : Int)) = true := decide_eq_true c24
                        clear c24
                        by_cases c25 : 0 ≤ x10_1
                        · rw [if_pos c25] at H
                          have c25b0 : decide (0 ≤ x10_1) = true := decide_eq_true c25
                          clear c25
                          by_cases c26 : x10_1 < (t371.length : Int)
                          · rw [if_pos c26] at H
                            have c26b0 : decide (x10_1 < (t371.length : Int)) = true := decide_eq_true c26
                            clear c26
                            by_cases c27 : 0 < ((rd_L6 t371 x10_1).length : Int)
                            · rw [if_pos c27] at H
                              have c27b0 : decide (0 < ((rd_L6 t371 x10_1).length : Int)) = true := decide_eq_true c27
                              have c27b1 : decide (0 < (rd_L6 t371 x10_1).length) = true := decide_eq_true (by omega)
                              clear c27
                              have H' := Aside0.mk H
                              clear H
                              obtain ⟨Ao28, co28, eo28⟩ := Kd.R_slice HO_9.out
                              subst eo28
                              have p378 : 0 ≤ ((ji22) : Int) := of_decide_eq_true (by first | (with_reducible assumption) | assumption)
                              have q378 : (ji22) < (x9_1.length : Int) := of_decide_eq_true (by first | (with_reducible assumption) | assumption)
                              obtain ⟨ad378, e378, hx378_0, hx378_1, hx378_2, hx378_3⟩ := at_T34 (Kd.R_reads' HO_9.out).2.2 (ji22) p378 q378
                              cases e378
                              replace p378 := eq_true p378
                              replace q378 := eq_true q378
                              have p379 : 0 ≤ (x10_1 : Int) := of_decide_eq_true (by first | (with_reducible assumption) | assumption)
                              have q379 : x10_1 < (t371.length : Int) := of_decide_eq_true (by first | (with_reducible assumption) | assumption)
                              obtain ⟨ad379, A379_0, c379_0, e379, hx379_0, hl379_0, hi379_0⟩ := at_L6 (Kd.S_reads' HO_8.out).2.2 x10_1 p379 q379
                              cases e379
                              obtain ⟨ce379, hce379, hMe379, hcc379⟩ := Kd.S_get HO_8.out [] x10_1 p379 (by first | exact q379 | exact of_decide_eq_true (by first | (with_reducible assumption) | assumption) | (have e_ := (Kd.S_reads' HO_8.out).1; omega))
                              obtain ⟨ve379_0, rfl, ge379_0⟩ := hMe379
                              have hv379_0 := hcc379 0 _ rfl
                              rw [Nat.add_zero, show ((Kd.slice 34 k34)).sz = 1 from rfl, Nat.mul_one] at hv379_0
                              replace hv379_0 := Option.some.inj (hv379_0.symm.trans hx379_0)
                              rw [hv379_0] at ge379_0
                              have HL379_0 := Aside0.mk (show Kd.R k34 34 _ _ _ _ (rd_L6 t371 x10_1) from ge379_0)
                              clear hv379_0 ge379_0
                              clear hcc379 hce379
                              have HR379_0 := Aside0.mk hi379_0
                              have HC379_0 := Aside0.mk hl379_0
                              clear hi379_0 hl379_0
                              replace p379 := eq_true p379
                              replace q379 := eq_true q379
                              have p380 : 0 ≤ (0 : Int) := (by omega)
                              have q380 : 0 < ((rd_L6 t371 x10_1).length : Int) := of_decide_eq_true (by first | (with_reducible assumption) | assumption)
                              obtain ⟨ad380, e380, hx380_0, hx380_1, hx380_2, hx380_3⟩ := at_T34 (by repeat (first | (with_reducible exact HR379_0.out) | (with_reducible refine Kd.C_alloc ?_ _) | (with_reducible refine Kd.C_drewN ?_ _) | (with_reducible refine Kd.C_drew ?_) | exact HR379_0.out)) 0 p380 q380
                              cases e380
                              have qi380 : (0 < (rd_L6 t371 x10_1).length) = True := eq_true (by omega)
                              (try rw [show ((0 : Int)).toNat = 0 from rfl] at hx380_0)
                              (try rw [show 0 * 4 = 0 from rfl] at hx380_0)
                              (try rw [Addr.add_zero'] at hx380_0)
                              (try rw [show ((0 : Int)).toNat = 0 from rfl] at hx380_1)
                              (try rw [show 0 * 4 = 0 from rfl] at hx380_1)
                              (try rw [Addr.add_zero'] at hx380_1)
                              (try rw [show ((0 : Int)).toNat = 0 from rfl] at hx380_2)
                              (try rw [show 0 * 4 = 0 from rfl] at hx380_2)
                              (try rw [Addr.add_zero'] at hx380_2)
                              (try rw [show ((0 : Int)).toNat = 0 from rfl] at hx380_3)
                              (try rw [show 0 * 4 = 0 from rfl] at hx380_3)
                              (try rw [Addr.add_zero'] at hx380_3)
                              replace p380 := eq_true p380
                              replace q380 := eq_true q380
                              go_wp2
                              repeat (go_quiet (fail); try go_wp2)
                              go_meet
                              case rel => exact ⟨_, ((((rd_T34 x9_1 (ji22)).f0.f0).toList == ((rd_T34 (rd_L6 t371 x10_1) 0).f0.f0).toList)), (by first | rfl | (simp; done) | (simp only [← hji22] <;> (first | rfl | simp)) | (simp [*]; done)), H', ⟨by have := HK1.out; have := HJ12.out; first | omega | exact Nat.le_refl _⟩, ⟨by (with_reducible repeat (first | apply Kd.R_alloc | apply Kd.R_drewN | apply Kd.R_drew)); exact HO_7.out⟩, ⟨by (with_reducible repeat (first | apply Kd.S_alloc | apply Kd.S_drewN | apply Kd.S_drew)); exact HO_8.out⟩, ⟨by (with_reducible repeat (first | apply Kd.R_alloc | apply Kd.R_drewN | apply Kd.R_drew)); exact HO_9.out⟩, ⟨by repeat (first | (with_reducible first | exact HB.out | apply below_alloc | apply pw_below_drewN | apply below_drew1) | exact HB.out)⟩⟩
                            · rw [if_neg c27] at H
                              exact absurd H (by simp)
                          · rw [if_neg c26] at H
                            exact absurd H (by simp)
                        · rw [if_neg c25] at H
                          exact absurd H (by simp)
                      · rw [if_neg c24] at H
                        exact absurd H (by simp)
                    · rw [if_neg c23] at H
                      exact absurd H (by simp)
                  · rw [if_neg c21] at H
                    have c21b0 : decide (0 < (x9_1.length : Int)) = false := decide_eq_false c21
                    have c21b1 : decide (0 < x9_1.length) = false := decide_eq_false (by omega)
                    clear c21
                    (first | rw [c21b0] | (simp only [i64_w, i32_w]; rw [c21b0]) | skip)
                    have H' := Aside0.mk H
                    clear H
                    obtain ⟨Ao29, co29, eo29⟩ := Kd.R_slice HO_9.out
                    subst eo29
                    go_wp2
                    repeat (go_quiet (fail); try go_wp2)
                    go_meet
                    case rel => exact ⟨_, (false), (by first | rfl | (simp; done) | (simp [*]; done)), H', ⟨by have := HK1.out; have := HJ12.out; first | omega | exact Nat.le_refl _⟩, ⟨by (with_reducible repeat (first | apply Kd.R_alloc | apply Kd.R_drewN | apply Kd.R_drew)); exact HO_7.out⟩, ⟨by (with_reducible repeat (first | apply Kd.S_alloc | apply Kd.S_drewN | apply Kd.S_drew)); exact HO_8.out⟩, ⟨by (with_reducible repeat (first | apply Kd.R_alloc | apply Kd.R_drewN | apply Kd.R_drew)); exact HO_9.out⟩, ⟨by repeat (first | (with_reducible first | exact HB.out | apply below_alloc | apply pw_below_drewN | apply below_drew1) | exact HB.out)⟩⟩
                case rest =>
                  clear HC20
                  try clear c1
                  try clear c2
                  try clear p2
                  try clear c3
                  try clear p3
                  try clear q3
                  try clear hx3
                  try clear qi3
                  try clear c4
                  try clear c4b0
                  try clear c4b1
                  try clear p6
                  try clear c8
                  try clear c12
                  try clear c12b0
                  try clear c15
                  try clear c15b0
                  try clear c16
                  try clear c16b0
                  try clear c16b1
                  try clear c16b2
                  try clear c17
                  try clear c17b0
                  try clear c19
                  try clear c21
                  try clear c21b0
                  try clear c21b1
                  try clear c23
                  try clear c23b0
                  try clear c24
                  try clear c24b0
                  try clear c25
                  try clear c25b0
                  try clear c26
                  try clear c26b0
                  try clear c27
                  try clear c27b0
                  try clear c27b1
                  try clear hx376_0
                  try clear hx377_0
                  try clear hx378_0
                  try clear hx378_1
                  try clear hx378_2
                  try clear hx378_3
                  try clear hx379_0
                  try clear hx380_0
                  try clear hx380_1
                  try clear hx380_2
                  try clear hx380_3
                  try clear p2
                  try clear p3
                  try clear p376
                  try clear p377
                  try clear p378
                  try clear p379
                  try clear p380
                  try clear p6
                  try clear q3
                  try clear q376
                  try clear q377
                  try clear q378
                  try clear q379
                  try clear q380
                  obtain ⟨kq, x74_19, rfl, HA, HJ19, HO_7, HO_8, HO_9, HB⟩ := hcut
                  cases kq with
                  | zero => exact absurd HA.out (by simp [iceboxlaw23_TrimParts.j2])
                  | succ kj19 =>
                    have H := HA.out
                    clear HA
                    simp only [iceboxlaw23_TrimParts.j2] at H
                    by_cases c30 : x74_19 = true
                    · subst c30
                      have H1 : (some false) = some r := by rw [if_pos rfl] at H; exact H
                      clear H
                      have H := H1
                      clear H1
                      obtain rfl := Option.some.inj H
                      go_wp2
                      repeat (go_quiet (fail); try go_wp2)
                      go_ret
                      exact ⟨by first | rfl | (simp [errW_none, errW_some] <;> rfl) | (simp [*, errW_none, errW_some] <;> rfl), by repeat (first | (with_reducible first | exact HB.out | apply below_alloc | apply pw_below_drewN | apply below_drew1) | exact HB.out)⟩
                    · replace c30 := Bool.eq_false_iff.mpr c30
                      subst c30
                      have H1 : (iceboxlaw23_TrimParts.l1 kj19 a2 t368 t371 x9_1 x10_1 0) = some r := by rw [if_neg (show ¬ (false = true) by decide)] at H; exact H
                      clear H
                      have H := H1
                      clear H1
                      have H' := Aside0.mk H
                      clear H
                      go_wp2
                      repeat (go_quiet (fail); try go_wp2)
                      go_loopg [11] kj19 (fun kq v11 w' => ∃ (x11_4 : Int), v11 = .int .i64 x11_4 ∧ Aside0 (iceboxlaw23_TrimParts.l1 kq a2 t368 t371 x9_1 x10_1 x11_4 = some r) ∧ Aside0 (kq ≤ kj19) ∧ Aside0 (Kd.R k34 34 w' w.heap.size (fun k_ => some k_ ≠ (u9 : Value).ownBlock) (.slice Ao10 t368.length co10) t368) ∧ Aside0 (Kd.S (Kd.slice 34 k34) 24 w' w.heap.size (fun k_ => some k_ ≠ ((.slice Ao10 t368.length co10) : Value).ownBlock ∧ some k_ ≠ (u9 : Value).ownBlock) (.slice Ao14 t371.length co14) t371) ∧ Aside0 (Kd.R k34 34 w' w.heap.size (fun k_ => some k_ ≠ ((.slice Ao10 t368.length co10) : Value).ownBlock) u9 x9_1) ∧ Aside0 (Below w.heap.size w w'))
                      case atStart => exact ⟨(0), (by first | rfl | (simp; done) | (simp [*]; done)), H', ⟨Nat.le_refl _⟩, ⟨by (with_reducible repeat (first | apply Kd.R_alloc | apply Kd.R_drewN | apply Kd.R_drew)); exact HO_7.out⟩, ⟨by (with_reducible repeat (first | apply Kd.S_alloc | apply Kd.S_drewN | apply Kd.S_drew)); exact HO_8.out⟩, ⟨by (with_reducible repeat (first | apply Kd.R_alloc | apply Kd.R_drewN | apply Kd.R_drew)); exact HO_9.out⟩, ⟨by repeat (first | (with_reducible first | exact HB.out | apply below_alloc | apply pw_below_drewN | apply below_drew1) | exact HB.out)⟩⟩
                      case round =>
                        clear H'
                        try clear c1
                        try clear c2
                        try clear p2
                        try clear c3
                        try clear p3
                        try clear q3
                        try clear hx3
                        try clear qi3
                        try clear c4
                        try clear c4b0
                        try clear c4b1
                        try clear p6
                        try clear c8
                        try clear c12
                        try clear c12b0
                        try clear c15
                        try clear c15b0
                        try clear c16
                        try clear c16b0
                        try clear c16b1
                        try clear c16b2
                        try clear c17
                        try clear c17b0
                        try clear c19
                        try clear c21
                        try clear c21b0
                        try clear c21b1
                        try clear c23
                        try clear c23b0
                        try clear c24
                        try clear c24b0
                        try clear c25
                        try clear c25b0
                        try clear c26
                        try clear c26b0
                        try clear c27
                        try clear c27b0
                        try clear c27b1
                        try clear c30
                        try clear hx376_0
                        try clear hx377_0
                        try clear hx378_0
                        try clear hx378_1
                        try clear hx378_2
                        try clear hx378_3
                        try clear hx379_0
                        try clear hx380_0
                        try clear hx380_1
                        try clear hx380_2
                        try clear hx380_3
                        try clear p2
                        try clear p3
                        try clear p376
                        try clear p377
                        try clear p378
                        try clear p379
                        try clear p380
                        try clear p6
                        try clear q3
                        try clear q376
                        try clear q377
                        try clear q378
                        try clear q379
                        try clear q380
                        obtain ⟨x11_4, rfl, HA, HK4, HO_7, HO_8, HO_9, HB⟩ := hrel
                        cases gk with
                        | zero => exact absurd HA.out (by simp [iceboxlaw23_TrimParts.l1])
                        | succ k4 =>
                          have H := HA.out
                          clear HA
                          simp only [iceboxlaw23_TrimParts.l1] at H
                          by_cases c31 : 0 ≤ x10_1
                          · rw [if_pos c31] at H
                            have c31b0 : decide (0 ≤ x10_1) = true := decide_eq_true c31
                            clear c31
                            by_cases c32 : x10_1 < (t371.length : Int)
                            · rw [if_pos c32] at H
                              have c32b0 : decide (x10_1 < (t371.length : Int)) = true := decide_eq_true c32
                              clear c32
                              by_cases c33 : x11_4 < ((rd_L6 t371 x10_1).length : Int)
                              · rw [if_pos c33] at H
                                have c33b0 : decide (x11_4 < ((rd_L6 t371 x10_1).length : Int)) = true := decide_eq_true c33
                                clear c33
                                by_cases c34 : 0 ≤ x11_4
                                · rw [if_pos c34] at H
                                  have c34b0 : decide (0 ≤ x11_4) = true := decide_eq_true c34
                                  clear c34
                                  obtain ⟨ji35, hji35⟩ : ∃ j_ : Int, (wrap64 (((rd_L6 t371 x10_1).length : Int) - 1)) = j_ := ⟨_, rfl⟩
                                  replace H : (if 0 ≤ (ji35) then (if (ji35) < ((rd_L6 t371 x10_1).length : Int) then (if ((rd_T34 (rd_L6 t371 x10_1) x11_4).f0.f0).toList = ((rd_T34 (rd_L6 t371 x10_1) (ji35)).f0.f0).toList then (if x11_4 ≥ (mx 1 (wrap64 (a2))) then (some false) else (if x9_1.length + (rd_L6 t371 x10_1).length < 2932031007402 then (iceboxlaw23_TrimParts.l0 k4 a2 t368 t371 (x9_1 ++ (rd_L6 t371 x10_1)) (wrap64 (x10_1 + 1))) else (none))) else (iceboxlaw23_TrimParts.l1 k4 a2 t368 t371 x9_1 x10_1 (wrap64 (x11_4 + 1)))) else (none)) else (none)) = some r := by first | (rw [hji35] at H; exact H) | (simp only [hji35] at H ⊢; exact H)
                                  have hji35w : (IntKind.i64.wrap (((rd_L6 t371 x10_1).length : Int) - 1)) = ji35 := (i64_w _).trans hji35
                                  by_cases c36 : 0 ≤ (ji35)
                                  · rw [if_pos c36] at H
                                    have c36b0 : decide (0 ≤ (ji35)) = true := decide_eq_true c36
                                    clear c36
                                    by_cases c37 : (ji35) < ((rd_L6 t371 x10_1).length : Int)
                                    · rw [if_pos c37] at H
                                      have c37b0 : decide ((ji35) < ((rd_L6 t371 x10_1).length : Int)) = true := decide_eq_true c37
                                      clear c37
                                      by_cases c38 : ((rd_T34 (rd_L6 t371 x10_1) x11_4).f0.f0).toList = ((rd_T34 (rd_L6 t371 x10_1) (ji35)).f0.f0).toList
                                      · rw [if_pos c38] at H
                                        have c38b0 : (((rd_T34 (rd_L6 t371 x10_1) x11_4).f0.f0).toList == ((rd_T34 (rd_L6 t371 x10_1) (ji35)).f0.f0).toList) = true := beq_iff_eq.mpr c38
                                        have c38b1 : (((rd_T34 (rd_L6 t371 x10_1) x11_4).f0.f0).toList != ((rd_T34 (rd_L6 t371 x10_1) (ji35)).f0.f0).toList) = false := bne_eq_false_iff_eq.mpr c38
                                        clear c38
                                        obtain ⟨ji39, hji39⟩ : ∃ j_ : Int, (mx 1 (wrap64 (a2))) = j_ := ⟨_, rfl⟩
                                        replace H : (if x11_4 ≥ (ji39) then (some false) else (if x9_1.length + (rd_L6 t371 x10_1).length < 2932031007402 then (iceboxlaw23_TrimParts.l0 k4 a2 t368 t371 (x9_1 ++ (rd_L6 t371 x10_1)) (wrap64 (x10_1 + 1))) else (none))) = some r := by first | (rw [hji39] at H; exact H) | (simp only [hji39] at H ⊢; exact H)
                                        have hji39_ : (if 1 < (wrap64 (a2)) then (wrap64 (a2)) else 1) = ji39 := hji39
                                        by_cases c40 : x11_4 ≥ (ji39)
                                        · rw [if_pos c40] at H
                                          have c40b0 : decide ((ji39) ≤ x11_4) = true := decide_eq_true c40
                                          clear c40
                                          obtain rfl := Option.some.inj H
                                          have p381 : 0 ≤ (x10_1 : Int) := of_decide_eq_true (by first | (with_reducible assumption) | assumption)
                                          have q381 : x10_1 < (t371.length : Int) := of_decide_eq_true (by first | (with_reducible assumption) | assumption)
                                          obtain ⟨ad381, A381_0, c381_0, e381, hx381_0, hl381_0, hi381_0⟩ := at_L6 (Kd.S_reads' HO_8.out).2.2 x10_1 p381 q381
                                          cases e381
                                          obtain ⟨ce381, hce381, hMe381, hcc381⟩ := Kd.S_get HO_8.out [] x10_1 p381 (by first | exact q381 | exact of_decide_eq_true (by first | (with_reducible assumption) | assumption) | (have e_ := (Kd.S_reads' HO_8.out).1; omega))
                                          obtain ⟨ve381_0, rfl, ge381_0⟩ := hMe381
                                          have hv381_0 := hcc381 0 _ rfl
                                          rw [Nat.add_zero, show ((Kd.slice 34 k34)).sz = 1 from rfl, Nat.mul_one] at hv381_0
                                          replace hv381_0 := Option.some.inj (hv381_0.symm.trans hx381_0)
                                          rw [hv381_0] at ge381_0
                                          have HL381_0 := Aside0.mk (show Kd.R k34 34 _ _ _ _ (rd_L6 t371 x10_1) from ge381_0)
                                          clear hv381_0 ge381_0
                                          clear hcc381 hce381
                                          have HR381_0 := Aside0.mk hi381_0
                                          have HC381_0 := Aside0.mk hl381_0
                                          clear hi381_0 hl381_0
                                          replace p381 := eq_true p381
                                          replace q381 := eq_true q381
                                          have p382 : 0 ≤ (x10_1 : Int) := of_decide_eq_true (by first | (with_reducible assumption) | assumption)
                                          have q382 : x10_1 < (t371.length : Int) := of_decide_eq_true (by first | (with_reducible assumption) | assumption)
                                          obtain ⟨ad382, A382_0, c382_0, e382, hx382_0, hl382_0, hi382_0⟩ := at_L6 (Kd.S_reads' HO_8.out).2.2 x10_1 p382 q382
                                          obtain rfl : ad381 = ad382 := (by injection e382)
                                          obtain ⟨ce382, hce382, hMe382, hcc382⟩ := Kd.S_get HO_8.out [] x10_1 p382 (by first | exact q382 | exact of_decide_eq_true (by first | (with_reducible assumption) | assumption) | (have e_ := (Kd.S_reads' HO_8.out).1; omega))
                                          obtain ⟨ve382_0, rfl, ge382_0⟩ := hMe382
                                          have hv382_0 := hcc382 0 _ rfl
                                          rw [Nat.add_zero, show ((Kd.slice 34 k34)).sz = 1 from rfl, Nat.mul_one] at hv382_0
                                          replace hv382_0 := Option.some.inj (hv382_0.symm.trans hx382_0)
                                          rw [hv382_0] at ge382_0
                                          have HL382_0 := Aside0.mk (show Kd.R k34 34 _ _ _ _ (rd_L6 t371 x10_1) from ge382_0)
                                          clear hv382_0 ge382_0
                                          clear hcc382 hce382
                                          have HR382_0 := Aside0.mk hi382_0
                                          have HC382_0 := Aside0.mk hl382_0
                                          clear hi382_0 hl382_0
                                          replace p382 := eq_true p382
                                          replace q382 := eq_true q382
                                          have ea_ := Option.some.inj (hx381_0.symm.trans hx382_0)
                                          injection ea_ with ea_ en_ ec_
                                          subst ea_
                                          subst ec_
                                          clear en_
                                          have p383 : 0 ≤ (x11_4 : Int) := of_decide_eq_true (by first | (with_reducible assumption) | assumption)
                                          have q383 : x11_4 < ((rd_L6 t371 x10_1).length : Int) := of_decide_eq_true (by first | (with_reducible assumption) | assumption)
                                          obtain ⟨ad383, e383, hx383_0, hx383_1, hx383_2, hx383_3⟩ := at_T34 (by repeat (first | (with_reducible exact HR382_0.out) | (with_reducible refine Kd.C_alloc ?_ _) | (with_reducible refine Kd.C_drewN ?_ _) | (with_reducible refine Kd.C_drew ?_) | exact HR382_0.out)) x11_4 p383 q383
                                          cases e383
                                          replace p383 := eq_true p383
                                          replace q383 := eq_true q383
                                          have p384 : 0 ≤ (x10_1 : Int) := of_decide_eq_true (by first | (with_reducible assumption) | assumption)
                                          have q384 : x10_1 < (t371.length : Int) := of_decide_eq_true (by first | (with_reducible assumption) | assumption)
                                          obtain ⟨ad384, A384_0, c384_0, e384, hx384_0, hl384_0, hi384_0⟩ := at_L6 (Kd.S_reads' HO_8.out).2.2 x10_1 p384 q384
                                          obtain rfl : ad381 = ad384 := (by injection e384)
                                          obtain ⟨ce384, hce384, hMe384, hcc384⟩ := Kd.S_get HO_8.out [] x10_1 p384 (by first | exact q384 | exact of_decide_eq_true (by first | (with_reducible assumption) | assumption) | (have e_ := (Kd.S_reads' HO_8.out).1; omega))
                                          obtain ⟨ve384_0, rfl, ge384_0⟩ := hMe384
                                          have hv384_0 := hcc384 0 _ rfl
                                          rw [Nat.add_zero, show ((Kd.slice 34 k34)).sz = 1 from rfl, Nat.mul_one] at hv384_0
                                          replace hv384_0 := Option.some.inj (hv384_0.symm.trans hx384_0)
                                          rw [hv384_0] at ge384_0
                                          have HL384_0 := Aside0.mk (show Kd.R k34 34 _ _ _ _ (rd_L6 t371 x10_1) from ge384_0)
                                          clear hv384_0 ge384_0
                                          clear hcc384 hce384
                                          have HR384_0 := Aside0.mk hi384_0
                                          have HC384_0 := Aside0.mk hl384_0
                                          clear hi384_0 hl384_0
                                          replace p384 := eq_true p384
                                          replace q384 := eq_true q384
                                          have ea_ := Option.some.inj (hx381_0.symm.trans hx384_0)
                                          injection ea_ with ea_ en_ ec_
                                          subst ea_
                                          subst ec_
                                          clear en_
                                          have p385 : 0 ≤ (x10_1 : Int) := of_decide_eq_true (by first | (with_reducible assumption) | assumption)
                                          have q385 : x10_1 < (t371.length : Int) := of_decide_eq_true (by first | (with_reducible assumption) | assumption)
                                          obtain ⟨ad385, A385_0, c385_0, e385, hx385_0, hl385_0, hi385_0⟩ := at_L6 (Kd.S_reads' HO_8.out).2.2 x10_1 p385 q385
                                          obtain rfl : ad381 = ad385 := (by injection e385)
                                          obtain ⟨ce385, hce385, hMe385, hcc385⟩ := Kd.S_get HO_8.out [] x10_1 p385 (by first | exact q385 | exact of_decide_eq_true (by first | (with_reducible assumption) | assumption) | (have e_ := (Kd.S_reads' HO_8.out).1; omega))
                                          obtain ⟨ve385_0, rfl, ge385_0⟩ := hMe385
                                          have hv385_0 := hcc385 0 _ rfl
                                          rw [Nat.add_zero, show ((Kd.slice 34 k34)).sz = 1 from rfl, Nat.mul_one] at hv385_0
                                          replace hv385_0 := Option.some.inj (hv385_0.symm.trans hx385_0)
                                          rw [hv385_0] at ge385_0
                                          have HL385_0 := Aside0.mk (show Kd.R k34 34 _ _ _ _ (rd_L6 t371 x10_1) from ge385_0)
                                          clear hv385_0 ge385_0
                                          clear hcc385 hce385
                                          have HR385_0 := Aside0.mk hi385_0
                                          have HC385_0 := Aside0.mk hl385_0
                                          clear hi385_0 hl385_0
                                          replace p385 := eq_true p385
                                          replace q385 := eq_true q385
                                          have ea_ := Option.some.inj (hx381_0.symm.trans hx385_0)
                                          injection ea_ with ea_ en_ ec_
                                          subst ea_
                                          subst ec_
                                          clear en_
                                          have p386 : 0 ≤ ((ji35) : Int) := of_decide_eq_true (by first | (with_reducible assumption) | assumption)
                                          have q386 : (ji35) < ((rd_L6 t371 x10_1).length : Int) := of_decide_eq_true (by first | (with_reducible assumption) | assumption)
                                          obtain ⟨ad386, e386, hx386_0, hx386_1, hx386_2, hx386_3⟩ := at_T34 (by repeat (first | (with_reducible exact HR384_0.out) | (with_reducible refine Kd.C_alloc ?_ _) | (with_reducible refine Kd.C_drewN ?_ _) | (with_reducible refine Kd.C_drew ?_) | exact HR384_0.out)) (ji35) p386 q386
                                          cases e386
                                          replace p386 := eq_true p386
                                          replace q386 := eq_true q386
                                          go_wp2
                                          repeat (go_quiet (fail); try go_wp2)
                                          go_ret
                                          exact ⟨by first | rfl | (simp [errW_none, errW_some] <;> rfl) | (simp only [← hji35, ← hji39]; first | rfl | (simp [errW_none, errW_some] <;> rfl)) | (simp [*, errW_none, errW_some] <;> rfl), by repeat (first | (with_reducible first | exact HB.out | apply below_alloc | apply pw_below_drewN | apply below_drew1) | exact HB.out)⟩
                                        · rw [if_neg c40] at H
                                          have c40b0 : decide ((ji39) ≤ x11_4) = false := decide_eq_false c40
                                          clear c40
                                          by_cases c41 : x9_1.length + (rd_L6 t371 x10_1).length < 2932031007402
                                          · rw [if_pos c41] at H
                                            have LMc41 := Aside0.mk c41
                                            clear c41
                                            obtain ⟨y388, hy388⟩ : ∃ y_ : List (S34), y_ = (x9_1 ++ (rd_L6 t371 x10_1)) := ⟨_, rfl⟩
                                            replace H : (iceboxlaw23_TrimParts.l0 k4 a2 t368 t371 y388 (wrap64 (x10_1 + 1))) = some r := by first | (rw [hy388]; with_reducible exact H) | (have H2_ := (Option.bind_some _ _).symm.trans H; rw [hy388]; with_reducible exact H2_) | (have H2_ := (Option.bind_some _ _).symm.trans H; with_reducible exact H2_) | with_reducible exact H | (rw [hy388]; exact H) | exact H
                                            have Ny388 := Aside0.mk hy388
                                            clear hy388
                                            have H' := Aside0.mk H
                                            clear H
                                            have p381 : 0 ≤ (x10_1 : Int) := of_decide_eq_true (by first | (with_reducible assumption) | assumption)
                                            have q381 : x10_1 < (t371.length : Int) := of_decide_eq_true (by first | (with_reducible assumption) | assumption)
                                            obtain ⟨ad381, A381_0, c381_0, e381, hx381_0, hl381_0, hi381_0⟩ := at_L6 (Kd.S_reads' HO_8.out).2.2 x10_1 p381 q381
                                            cases e381
                                            obtain ⟨ce381, hce381, hMe381, hcc381⟩ := Kd.S_get HO_8.out [] x10_1 p381 (by first | exact q381 | exact of_decide_eq_true (by first | (with_reducible assumption) | assumption) | (have e_ := (Kd.S_reads' HO_8.out).1; omega))
                                            obtain ⟨ve381_0, rfl, ge381_0⟩ := hMe381
                                            have hv381_0 := hcc381 0 _ rfl
                                            rw [Nat.add_zero, show ((Kd.slice 34 k34)).sz = 1 from rfl, Nat.mul_one] at hv381_0
                                            replace hv381_0 := Option.some.inj (hv381_0.symm.trans hx381_0)
                                            rw [hv381_0] at ge381_0
                                            have HL381_0 := Aside0.mk (show Kd.R k34 34 _ _ _ _ (rd_L6 t371 x10_1) from ge381_0)
                                            clear hv381_0 ge381_0
                                            clear hcc381 hce381
                                            have HR381_0 := Aside0.mk hi381_0
                                            have HC381_0 := Aside0.mk hl381_0
                                            clear hi381_0 hl381_0
                                            replace p381 := eq_true p381
                                            replace q381 := eq_true q381
                                            have p382 : 0 ≤ (x10_1 : Int) := of_decide_eq_true (by first | (with_reducible assumption) | assumption)
                                            have q382 : x10_1 < (t371.length : Int) := of_decide_eq_true (by first | (with_reducible assumption) | assumption)
                                            obtain ⟨ad382, A382_0, c382_0, e382, hx382_0, hl382_0, hi382_0⟩ := at_L6 (Kd.S_reads' HO_8.out).2.2 x10_1 p382 q382
                                            obtain rfl : ad381 = ad382 := (by injection e382)
                                            obtain ⟨ce382, hce382, hMe382, hcc382⟩ := Kd.S_get HO_8.out [] x10_1 p382 (by first | exact q382 | exact of_decide_eq_true (by first | (with_reducible assumption) | assumption) | (have e_ := (Kd.S_reads' HO_8.out).1; omega))
                                            obtain ⟨ve382_0, rfl, ge382_0⟩ := hMe382
                                            have hv382_0 := hcc382 0 _ rfl
                                            rw [Nat.add_zero, show ((Kd.slice 34 k34)).sz = 1 from rfl, Nat.mul_one] at hv382_0
                                            replace hv382_0 := Option.some.inj (hv382_0.symm.trans hx382_0)
                                            rw [hv382_0] at ge382_0
                                            have HL382_0 := Aside0.mk (show Kd.R k34 34 _ _ _ _ (rd_L6 t371 x10_1) from ge382_0)
                                            clear hv382_0 ge382_0
                                            clear hcc382 hce382
                                            have HR382_0 := Aside0.mk hi382_0
                                            have HC382_0 := Aside0.mk hl382_0
                                            clear hi382_0 hl382_0
                                            replace p382 := eq_true p382
                                            replace q382 := eq_true q382
                                            have ea_ := Option.some.inj (hx381_0.symm.trans hx382_0)
                                            injection ea_ with ea_ en_ ec_
                                            subst ea_
                                            subst ec_
                                            clear en_
                                            have p383 : 0 ≤ (x11_4 : Int) := of_decide_eq_true (by first | (with_reducible assumption) | assumption)
                                            have q383 : x11_4 < ((rd_L6 t371 x10_1).length : Int) := of_decide_eq_true (by first | (with_reducible assumption) | assumption)
                                            obtain ⟨ad383, e383, hx383_0, hx383_1, hx383_2, hx383_3⟩ := at_T34 (by repeat (first | (with_reducible exact HR382_0.out) | (with_reducible refine Kd.C_alloc ?_ _) | (with_reducible refine Kd.C_drewN ?_ _) | (with_reducible refine Kd.C_drew ?_) | exact HR382_0.out)) x11_4 p383 q383
                                            cases e383
                                            replace p383 := eq_true p383
                                            replace q383 := eq_true q383
                                            have p384 : 0 ≤ (x10_1 : Int) := of_decide_eq_true (by first | (with_reducible assumption) | assumption)
                                            have q384 : x10_1 < (t371.length : Int) := of_decide_eq_true (by first | (with_reducible assumption) | assumption)
                                            obtain ⟨ad384, A384_0, c384_0, e384, hx384_0, hl384_0, hi384_0⟩ := at_L6 (Kd.S_reads' HO_8.out).2.2 x10_1 p384 q384
                                            obtain rfl : ad381 = ad384 := (by injection e384)
                                            obtain ⟨ce384, hce384, hMe384, hcc384⟩ := Kd.S_get HO_8.out [] x10_1 p384 (by first | exact q384 | exact of_decide_eq_true (by first | (with_reducible assumption) | assumption) | (have e_ := (Kd.S_reads' HO_8.out).1; omega))
                                            obtain ⟨ve384_0, rfl, ge384_0⟩ := hMe384
                                            have hv384_0 := hcc384 0 _ rfl
                                            rw [Nat.add_zero, show ((Kd.slice 34 k34)).sz = 1 from rfl, Nat.mul_one] at hv384_0
                                            replace hv384_0 := Option.some.inj (hv384_0.symm.trans hx384_0)
                                            rw [hv384_0] at ge384_0
                                            have HL384_0 := Aside0.mk (show Kd.R k34 34 _ _ _ _ (rd_L6 t371 x10_1) from ge384_0)
                                            clear hv384_0 ge384_0
                                            clear hcc384 hce384
                                            have HR384_0 := Aside0.mk hi384_0
                                            have HC384_0 := Aside0.mk hl384_0
                                            clear hi384_0 hl384_0
                                            replace p384 := eq_true p384
                                            replace q384 := eq_true q384
                                            have ea_ := Option.some.inj (hx381_0.symm.trans hx384_0)
                                            injection ea_ with ea_ en_ ec_
                                            subst ea_
                                            subst ec_
                                            clear en_
                                            have p385 : 0 ≤ (x10_1 : Int) := of_decide_eq_true (by first | (with_reducible assumption) | assumption)
                                            have q385 : x10_1 < (t371.length : Int) := of_decide_eq_true (by first | (with_reducible assumption) | assumption)
                                            obtain ⟨ad385, A385_0, c385_0, e385, hx385_0, hl385_0, hi385_0⟩ := at_L6 (Kd.S_reads' HO_8.out).2.2 x10_1 p385 q385
                                            obtain rfl : ad381 = ad385 := (by injection e385)
                                            obtain ⟨ce385, hce385, hMe385, hcc385⟩ := Kd.S_get HO_8.out [] x10_1 p385 (by first | exact q385 | exact of_decide_eq_true (by first | (with_reducible assumption) | assumption) | (have e_ := (Kd.S_reads' HO_8.out).1; omega))
                                            obtain ⟨ve385_0, rfl, ge385_0⟩ := hMe385
                                            have hv385_0 := hcc385 0 _ rfl
                                            rw [Nat.add_zero, show ((Kd.slice 34 k34)).sz = 1 from rfl, Nat.mul_one] at hv385_0
                                            replace hv385_0 := Option.some.inj (hv385_0.symm.trans hx385_0)
                                            rw [hv385_0] at ge385_0
                                            have HL385_0 := Aside0.mk (show Kd.R k34 34 _ _ _ _ (rd_L6 t371 x10_1) from ge385_0)
                                            clear hv385_0 ge385_0
                                            clear hcc385 hce385
                                            have HR385_0 := Aside0.mk hi385_0
                                            have HC385_0 := Aside0.mk hl385_0
                                            clear hi385_0 hl385_0
                                            replace p385 := eq_true p385
                                            replace q385 := eq_true q385
                                            have ea_ := Option.some.inj (hx381_0.symm.trans hx385_0)
                                            injection ea_ with ea_ en_ ec_
                                            subst ea_
                                            subst ec_
                                            clear en_
                                            have p386 : 0 ≤ ((ji35) : Int) := of_decide_eq_true (by first | (with_reducible assumption) | assumption)
                                            have q386 : (ji35) < ((rd_L6 t371 x10_1).length : Int) := of_decide_eq_true (by first | (with_reducible assumption) | assumption)
                                            obtain ⟨ad386, e386, hx386_0, hx386_1, hx386_2, hx386_3⟩ := at_T34 (by repeat (first | (with_reducible exact HR384_0.out) | (with_reducible refine Kd.C_alloc ?_ _) | (with_reducible refine Kd.C_drewN ?_ _) | (with_reducible refine Kd.C_drew ?_) | exact HR384_0.out)) (ji35) p386 q386
                                            cases e386
                                            replace p386 := eq_true p386
                                            replace q386 := eq_true q386
                                            have p387 : 0 ≤ (x10_1 : Int) := of_decide_eq_true (by first | (with_reducible assumption) | assumption)
                                            have q387 : x10_1 < (t371.length : Int) := of_decide_eq_true (by first | (with_reducible assumption) | assumption)
                                            obtain ⟨ad387, A387_0, c387_0, e387, hx387_0, hl387_0, hi387_0⟩ := at_L6 (Kd.S_reads' HO_8.out).2.2 x10_1 p387 q387
                                            obtain rfl : ad381 = ad387 := (by injection e387)
                                            obtain ⟨ce387, hce387, hMe387, hcc387⟩ := Kd.S_get HO_8.out [] x10_1 p387 (by first | exact q387 | exact of_decide_eq_true (by first | (with_reducible assumption) | assumption) | (have e_ := (Kd.S_reads' HO_8.out).1; omega))
                                            obtain ⟨ve387_0, rfl, ge387_0⟩ := hMe387
                                            have hv387_0 := hcc387 0 _ rfl
                                            rw [Nat.add_zero, show ((Kd.slice 34 k34)).sz = 1 from rfl, Nat.mul_one] at hv387_0
                                            replace hv387_0 := Option.some.inj (hv387_0.symm.trans hx387_0)
                                            rw [hv387_0] at ge387_0
                                            have HL387_0 := Aside0.mk (show Kd.R k34 34 _ _ _ _ (rd_L6 t371 x10_1) from ge387_0)
                                            clear hv387_0 ge387_0
                                            clear hcc387 hce387
                                            have HR387_0 := Aside0.mk hi387_0
                                            have HC387_0 := Aside0.mk hl387_0
                                            clear hi387_0 hl387_0
                                            replace p387 := eq_true p387
                                            replace q387 := eq_true q387
                                            have ea_ := Option.some.inj (hx381_0.symm.trans hx387_0)
                                            injection ea_ with ea_ en_ ec_
                                            subst ea_
                                            subst ec_
                                            clear en_
                                            go_wp2_with (first | ((with_reducible refine gate_builtin (b := .append) (xs := #[.tmp 115, .tmp 119]) rfl ?_); (try (refine gate_guard (by rfl) ?_; dsimp only)); at_builtin; refine Kd.R_append_rows k34 (w0 := w) w.heap.size rfl (.tmp 115) (.tmp 119) 24 34 (.agg #[(.string ⟨#[]⟩), (.int .i64 0), (.int .i64 0), (.string ⟨#[]⟩)]) 48 rfl Try.underlying24 info34 rfl (by decide) (by omega) u9 x9_1 (rd_L6 t371 x10_1) _ _ _ (fun k_ => some k_ ≠ (.slice Ao10 t368.length co10 : Value).ownBlock) (fun _ => False) rfl rfl ?aO ?aR (fun _ _ h => h) (fun _ h => h.elim) ?aF ?aB ?aS ?aL ?_; (case aR => repeat (first | exact (by repeat (first | (with_reducible exact HR387_0.out) | (with_reducible refine Kd.C_alloc ?_ _) | (with_reducible refine Kd.C_drewN ?_ _) | (with_reducible refine Kd.C_drew ?_) | exact HR387_0.out)) | (with_reducible refine Kd.C_alloc ?_ _) | (with_reducible refine Kd.C_drewN ?_ _) | (with_reducible refine Kd.C_drew ?_))); (case aB => exact (by repeat (first | (with_reducible first | exact HB.out | apply below_alloc | apply pw_below_drewN | apply below_drew1) | exact HB.out))); (case aF => exact (fun k_ hk => Kd.fresh' (Kd.R_lt (by (with_reducible repeat (first | apply Kd.R_alloc | apply Kd.R_drewN | apply Kd.R_drew)); exact HO_7.out)) k_ hk)); (case aO => exact (by (with_reducible repeat (first | apply Kd.R_alloc | apply Kd.R_drewN | apply Kd.R_drew)); exact HO_9.out)); (case aS => exact (below_size (by repeat (first | (with_reducible first | exact HB.out | apply below_alloc | apply pw_below_drewN | apply below_drew1) | exact HB.out)))); (case aL => have := LMc41.out; omega); intro v389 w42 ho hb hg hat; rw [← Ny388.out] at ho; have n0_ := Aside0.mk (Kd.R_after (ok := (fun _ => True)) (by (with_reducible repeat (first | apply Kd.R_alloc | apply Kd.R_drewN | apply Kd.R_drew)); exact Kd.R_mono HO_7.out (fun _ hk => ⟨trivial, hk⟩)) hg hat); have n1_ := Aside0.mk (Kd.S_after (ok := (fun k_ => some k_ ≠ (.slice Ao10 t368.length co10 : Value).ownBlock)) (by (with_reducible repeat (first | apply Kd.S_alloc | apply Kd.S_drewN | apply Kd.S_drew)); exact HO_8.out) hg hat); have n2_ := Aside0.mk (Kd.R_after (ok := (fun k_ => some k_ ≠ (.slice Ao10 t368.length co10 : Value).ownBlock ∧ some k_ ≠ (.slice (some ad381) t371.length co14 : Value).ownBlock)) (by (with_reducible repeat (first | apply Kd.R_alloc | apply Kd.R_drewN | apply Kd.R_drew)); exact Kd.R_mono HL381_0.out (fun _ hk => ⟨⟨hk.1.1, hk.2⟩, hk.1.2⟩)) hg hat); have n3_ := Aside0.mk (Kd.R_after (ok := (fun k_ => some k_ ≠ (.slice Ao10 t368.length co10 : Value).ownBlock ∧ some k_ ≠ (.slice (some ad381) t371.length co14 : Value).ownBlock)) (by (with_reducible repeat (first | apply Kd.R_alloc | apply Kd.R_drewN | apply Kd.R_drew)); exact Kd.R_mono HL382_0.out (fun _ hk => ⟨⟨hk.1.1, hk.2⟩, hk.1.2⟩)) hg hat); have n4_ := Aside0.mk (Kd.R_after (ok := (fun k_ => some k_ ≠ (.slice Ao10 t368.length co10 : Value).ownBlock ∧ some k_ ≠ (.slice (some ad381) t371.length co14 : Value).ownBlock)) (by (with_reducible repeat (first | apply Kd.R_alloc | apply Kd.R_drewN | apply Kd.R_drew)); exact Kd.R_mono HL384_0.out (fun _ hk => ⟨⟨hk.1.1, hk.2⟩, hk.1.2⟩)) hg hat); have n5_ := Aside0.mk (Kd.R_after (ok := (fun k_ => some k_ ≠ (.slice Ao10 t368.length co10 : Value).ownBlock ∧ some k_ ≠ (.slice (some ad381) t371.length co14 : Value).ownBlock)) (by (with_reducible repeat (first | apply Kd.R_alloc | apply Kd.R_drewN | apply Kd.R_drew)); exact Kd.R_mono HL385_0.out (fun _ hk => ⟨⟨hk.1.1, hk.2⟩, hk.1.2⟩)) hg hat); have n6_ := Aside0.mk (Kd.R_after (ok := (fun k_ => some k_ ≠ (.slice Ao10 t368.length co10 : Value).ownBlock ∧ some k_ ≠ (.slice (some ad381) t371.length co14 : Value).ownBlock)) (by (with_reducible repeat (first | apply Kd.R_alloc | apply Kd.R_drewN | apply Kd.R_drew)); exact Kd.R_mono HL387_0.out (fun _ hk => ⟨⟨hk.1.1, hk.2⟩, hk.1.2⟩)) hg hat); have n7_ := Aside0.mk (hb); have n8_ := Aside0.mk (ho); clear HO_7; clear HO_8; clear HL381_0; clear HL382_0; clear HL384_0; clear HL385_0; clear HL387_0; clear HB; clear HO_9; have HO_7 := n0_; have HO_8 := n1_; have HL381_0 := n2_; have HL382_0 := n3_; have HL384_0 := n4_; have HL385_0 := n5_; have HL387_0 := n6_; have HB := n7_; have HO390 := n8_; clear n0_ n1_ n2_ n3_ n4_ n5_ n6_ n7_ n8_; clear ho hb hg hat))
                                            repeat (go_quiet (first | ((with_reducible refine gate_builtin (b := .append) (xs := #[.tmp 115, .tmp 119]) rfl ?_); (try (refine gate_guard (by rfl) ?_; dsimp only)); at_builtin; refine Kd.R_append_rows k34 (w0 := w) w.heap.size rfl (.tmp 115) (.tmp 119) 24 34 (.agg #[(.string ⟨#[]⟩), (.int .i64 0), (.int .i64 0), (.string ⟨#[]⟩)]) 48 rfl Try.underlying24 info34 rfl (by decide) (by omega) u9 x9_1 (rd_L6 t371 x10_1) _ _ _ (fun k_ => some k_ ≠ (.slice Ao10 t368.length co10 : Value).ownBlock) (fun _ => False) rfl rfl ?aO ?aR (fun _ _ h => h) (fun _ h => h.elim) ?aF ?aB ?aS ?aL ?_; (case aR => repeat (first | exact (by repeat (first | (with_reducible exact HR387_0.out) | (with_reducible refine Kd.C_alloc ?_ _) | (with_reducible refine Kd.C_drewN ?_ _) | (with_reducible refine Kd.C_drew ?_) | exact HR387_0.out)) | (with_reducible refine Kd.C_alloc ?_ _) | (with_reducible refine Kd.C_drewN ?_ _) | (with_reducible refine Kd.C_drew ?_))); (case aB => exact (by repeat (first | (with_reducible first | exact HB.out | apply below_alloc | apply pw_below_drewN | apply below_drew1) | exact HB.out))); (case aF => exact (fun k_ hk => Kd.fresh' (Kd.R_lt (by (with_reducible repeat (first | apply Kd.R_alloc | apply Kd.R_drewN | apply Kd.R_drew)); exact HO_7.out)) k_ hk)); (case aO => exact (by (with_reducible repeat (first | apply Kd.R_alloc | apply Kd.R_drewN | apply Kd.R_drew)); exact HO_9.out)); (case aS => exact (below_size (by repeat (first | (with_reducible first | exact HB.out | apply below_alloc | apply pw_below_drewN | apply below_drew1) | exact HB.out)))); (case aL => have := LMc41.out; omega); intro v389 w42 ho hb hg hat; rw [← Ny388.out] at ho; have n0_ := Aside0.mk (Kd.R_after (ok := (fun _ => True)) (by (with_reducible repeat (first | apply Kd.R_alloc | apply Kd.R_drewN | apply Kd.R_drew)); exact Kd.R_mono HO_7.out (fun _ hk => ⟨trivial, hk⟩)) hg hat); have n1_ := Aside0.mk (Kd.S_after (ok := (fun k_ => some k_ ≠ (.slice Ao10 t368.length co10 : Value).ownBlock)) (by (with_reducible repeat (first | apply Kd.S_alloc | apply Kd.S_drewN | apply Kd.S_drew)); exact HO_8.out) hg hat); have n2_ := Aside0.mk (Kd.R_after (ok := (fun k_ => some k_ ≠ (.slice Ao10 t368.length co10 : Value).ownBlock ∧ some k_ ≠ (.slice (some ad381) t371.length co14 : Value).ownBlock)) (by (with_reducible repeat (first | apply Kd.R_alloc | apply Kd.R_drewN | apply Kd.R_drew)); exact Kd.R_mono HL381_0.out (fun _ hk => ⟨⟨hk.1.1, hk.2⟩, hk.1.2⟩)) hg hat); have n3_ := Aside0.mk (Kd.R_after (ok := (fun k_ => some k_ ≠ (.slice Ao10 t368.length co10 : Value).ownBlock ∧ some k_ ≠ (.slice (some ad381) t371.length co14 : Value).ownBlock)) (by (with_reducible repeat (first | apply Kd.R_alloc | apply Kd.R_drewN | apply Kd.R_drew)); exact Kd.R_mono HL382_0.out (fun _ hk => ⟨⟨hk.1.1, hk.2⟩, hk.1.2⟩)) hg hat); have n4_ := Aside0.mk (Kd.R_after (ok := (fun k_ => some k_ ≠ (.slice Ao10 t368.length co10 : Value).ownBlock ∧ some k_ ≠ (.slice (some ad381) t371.length co14 : Value).ownBlock)) (by (with_reducible repeat (first | apply Kd.R_alloc | apply Kd.R_drewN | apply Kd.R_drew)); exact Kd.R_mono HL384_0.out (fun _ hk => ⟨⟨hk.1.1, hk.2⟩, hk.1.2⟩)) hg hat); have n5_ := Aside0.mk (Kd.R_after (ok := (fun k_ => some k_ ≠ (.slice Ao10 t368.length co10 : Value).ownBlock ∧ some k_ ≠ (.slice (some ad381) t371.length co14 : Value).ownBlock)) (by (with_reducible repeat (first | apply Kd.R_alloc | apply Kd.R_drewN | apply Kd.R_drew)); exact Kd.R_mono HL385_0.out (fun _ hk => ⟨⟨hk.1.1, hk.2⟩, hk.1.2⟩)) hg hat); have n6_ := Aside0.mk (Kd.R_after (ok := (fun k_ => some k_ ≠ (.slice Ao10 t368.length co10 : Value).ownBlock ∧ some k_ ≠ (.slice (some ad381) t371.length co14 : Value).ownBlock)) (by (with_reducible repeat (first | apply Kd.R_alloc | apply Kd.R_drewN | apply Kd.R_drew)); exact Kd.R_mono HL387_0.out (fun _ hk => ⟨⟨hk.1.1, hk.2⟩, hk.1.2⟩)) hg hat); have n7_ := Aside0.mk (hb); have n8_ := Aside0.mk (ho); clear HO_7; clear HO_8; clear HL381_0; clear HL382_0; clear HL384_0; clear HL385_0; clear HL387_0; clear HB; clear HO_9; have HO_7 := n0_; have HO_8 := n1_; have HL381_0 := n2_; have HL382_0 := n3_; have HL384_0 := n4_; have HL385_0 := n5_; have HL387_0 := n6_; have HB := n7_; have HO390 := n8_; clear n0_ n1_ n2_ n3_ n4_ n5_ n6_ n7_ n8_; clear ho hb hg hat)); try go_wp2_with (first | ((with_reducible refine gate_builtin (b := .append) (xs := #[.tmp 115, .tmp 119]) rfl ?_); (try (refine gate_guard (by rfl) ?_; dsimp only)); at_builtin; refine Kd.R_append_rows k34 (w0 := w) w.heap.size rfl (.tmp 115) (.tmp 119) 24 34 (.agg #[(.string ⟨#[]⟩), (.int .i64 0), (.int .i64 0), (.string ⟨#[]⟩)]) 48 rfl Try.underlying24 info34 rfl (by decide) (by omega) u9 x9_1 (rd_L6 t371 x10_1) _ _ _ (fun k_ => some k_ ≠ (.slice Ao10 t368.length co10 : Value).ownBlock) (fun _ => False) rfl rfl ?aO ?aR (fun _ _ h => h) (fun _ h => h.elim) ?aF ?aB ?aS ?aL ?_; (case aR => repeat (first | exact (by repeat (first | (with_reducible exact HR387_0.out) | (with_reducible refine Kd.C_alloc ?_ _) | (with_reducible refine Kd.C_drewN ?_ _) | (with_reducible refine Kd.C_drew ?_) | exact HR387_0.out)) | (with_reducible refine Kd.C_alloc ?_ _) | (with_reducible refine Kd.C_drewN ?_ _) | (with_reducible refine Kd.C_drew ?_))); (case aB => exact (by repeat (first | (with_reducible first | exact HB.out | apply below_alloc | apply pw_below_drewN | apply below_drew1) | exact HB.out))); (case aF => exact (fun k_ hk => Kd.fresh' (Kd.R_lt (by (with_reducible repeat (first | apply Kd.R_alloc | apply Kd.R_drewN | apply Kd.R_drew)); exact HO_7.out)) k_ hk)); (case aO => exact (by (with_reducible repeat (first | apply Kd.R_alloc | apply Kd.R_drewN | apply Kd.R_drew)); exact HO_9.out)); (case aS => exact (below_size (by repeat (first | (with_reducible first | exact HB.out | apply below_alloc | apply pw_below_drewN | apply below_drew1) | exact HB.out)))); (case aL => have := LMc41.out; omega); intro v389 w42 ho hb hg hat; rw [← Ny388.out] at ho; have n0_ := Aside0.mk (Kd.R_after (ok := (fun _ => True)) (by (with_reducible repeat (first | apply Kd.R_alloc | apply Kd.R_drewN | apply Kd.R_drew)); exact Kd.R_mono HO_7.out (fun _ hk => ⟨trivial, hk⟩)) hg hat); have n1_ := Aside0.mk (Kd.S_after (ok := (fun k_ => some k_ ≠ (.slice Ao10 t368.length co10 : Value).ownBlock)) (by (with_reducible repeat (first | apply Kd.S_alloc | apply Kd.S_drewN | apply Kd.S_drew)); exact HO_8.out) hg hat); have n2_ := Aside0.mk (Kd.R_after (ok := (fun k_ => some k_ ≠ (.slice Ao10 t368.length co10 : Value).ownBlock ∧ some k_ ≠ (.slice (some ad381) t371.length co14 : Value).ownBlock)) (by (with_reducible repeat (first | apply Kd.R_alloc | apply Kd.R_drewN | apply Kd.R_drew)); exact Kd.R_mono HL381_0.out (fun _ hk => ⟨⟨hk.1.1, hk.2⟩, hk.1.2⟩)) hg hat); have n3_ := Aside0.mk (Kd.R_after (ok := (fun k_ => some k_ ≠ (.slice Ao10 t368.length co10 : Value).ownBlock ∧ some k_ ≠ (.slice (some ad381) t371.length co14 : Value).ownBlock)) (by (with_reducible repeat (first | apply Kd.R_alloc | apply Kd.R_drewN | apply Kd.R_drew)); exact Kd.R_mono HL382_0.out (fun _ hk => ⟨⟨hk.1.1, hk.2⟩, hk.1.2⟩)) hg hat); have n4_ := Aside0.mk (Kd.R_after (ok := (fun k_ => some k_ ≠ (.slice Ao10 t368.length co10 : Value).ownBlock ∧ some k_ ≠ (.slice (some ad381) t371.length co14 : Value).ownBlock)) (by (with_reducible repeat (first | apply Kd.R_alloc | apply Kd.R_drewN | apply Kd.R_drew)); exact Kd.R_mono HL384_0.out (fun _ hk => ⟨⟨hk.1.1, hk.2⟩, hk.1.2⟩)) hg hat); have n5_ := Aside0.mk (Kd.R_after (ok := (fun k_ => some k_ ≠ (.slice Ao10 t368.length co10 : Value).ownBlock ∧ some k_ ≠ (.slice (some ad381) t371.length co14 : Value).ownBlock)) (by (with_reducible repeat (first | apply Kd.R_alloc | apply Kd.R_drewN | apply Kd.R_drew)); exact Kd.R_mono HL385_0.out (fun _ hk => ⟨⟨hk.1.1, hk.2⟩, hk.1.2⟩)) hg hat); have n6_ := Aside0.mk (Kd.R_after (ok := (fun k_ => some k_ ≠ (.slice Ao10 t368.length co10 : Value).ownBlock ∧ some k_ ≠ (.slice (some ad381) t371.length co14 : Value).ownBlock)) (by (with_reducible repeat (first | apply Kd.R_alloc | apply Kd.R_drewN | apply Kd.R_drew)); exact Kd.R_mono HL387_0.out (fun _ hk => ⟨⟨hk.1.1, hk.2⟩, hk.1.2⟩)) hg hat); have n7_ := Aside0.mk (hb); have n8_ := Aside0.mk (ho); clear HO_7; clear HO_8; clear HL381_0; clear HL382_0; clear HL384_0; clear HL385_0; clear HL387_0; clear HB; clear HO_9; have HO_7 := n0_; have HO_8 := n1_; have HL381_0 := n2_; have HL382_0 := n3_; have HL384_0 := n4_; have HL385_0 := n5_; have HL387_0 := n6_; have HB := n7_; have HO390 := n8_; clear n0_ n1_ n2_ n3_ n4_ n5_ n6_ n7_ n8_; clear ho hb hg hat)))
                                            go_roundg k4
                                            case measure => have := HK1.out; have := HJ12.out; have := HJ19.out; have := HK4.out; omega
                                            case rel => exact ⟨(y388), (wrap64 (x10_1 + 1)), (by first | rfl | (simp; done) | (simp [*]; done)), H', ⟨by have := HK1.out; have := HJ12.out; have := HJ19.out; have := HK4.out; omega⟩, ⟨by (with_reducible repeat (first | apply Kd.R_alloc | apply Kd.R_drewN | apply Kd.R_drew)); exact Kd.R_mono HO_7.out (fun _ hk => hk.2)⟩, ⟨by (with_reducible repeat (first | apply Kd.S_alloc | apply Kd.S_drewN | apply Kd.S_drew)); exact HO_8.out⟩, ⟨by (with_reducible repeat (first | apply Kd.R_alloc | apply Kd.R_drewN | apply Kd.R_drew)); exact HO390.out⟩, ⟨by repeat (first | (with_reducible first | exact HB.out | apply below_alloc | apply pw_below_drewN | apply below_drew1) | exact HB.out)⟩⟩
                                          · rw [if_neg c41] at H
                                            exact absurd H (by simp)
                                      · rw [if_neg c38] at H
                                        have c38b0 : (((rd_T34 (rd_L6 t371 x10_1) x11_4).f0.f0).toList == ((rd_T34 (rd_L6 t371 x10_1) (ji35)).f0.f0).toList) = false := beq_eq_false_iff_ne.mpr c38
                                        have c38b1 : (((rd_T34 (rd_L6 t371 x10_1) x11_4).f0.f0).toList != ((rd_T34 (rd_L6 t371 x10_1) (ji35)).f0.f0).toList) = true := bne_iff_ne.mpr c38
                                        have H' := Aside0.mk H
                                        clear H
                                        have p381 : 0 ≤ (x10_1 : Int) := of_decide_eq_true (by first | (with_reducible assumption) | assumption)
                                        have q381 : x10_1 < (t371.length : Int) := of_decide_eq_true (by first | (with_reducible assumption) | assumption)
                                        obtain ⟨ad381, A381_0, c381_0, e381, hx381_0, hl381_0, hi381_0⟩ := at_L6 (Kd.S_reads' HO_8.out).2.2 x10_1 p381 q381
                                        cases e381
                                        obtain ⟨ce381, hce381, hMe381, hcc381⟩ := Kd.S_get HO_8.out [] x10_1 p381 (by first | exact q381 | exact of_decide_eq_true (by first | (with_reducible assumption) | assumption) | (have e_ := (Kd.S_reads' HO_8.out).1; omega))
                                        obtain ⟨ve381_0, rfl, ge381_0⟩ := hMe381
                                        have hv381_0 := hcc381 0 _ rfl
                                        rw [Nat.add_zero, show ((Kd.slice 34 k34)).sz = 1 from rfl, Nat.mul_one] at hv381_0
                                        replace hv381_0 := Option.some.inj (hv381_0.symm.trans hx381_0)
                                        rw [hv381_0] at ge381_0
                                        have HL381_0 := Aside0.mk (show Kd.R k34 34 _ _ _ _ (rd_L6 t371 x10_1) from ge381_0)
                                        clear hv381_0 ge381_0
                                        clear hcc381 hce381
                                        have HR381_0 := Aside0.mk hi381_0
                                        have HC381_0 := Aside0.mk hl381_0
                                        clear hi381_0 hl381_0
                                        replace p381 := eq_true p381
                                        replace q381 := eq_true q381
                                        have p382 : 0 ≤ (x10_1 : Int) := of_decide_eq_true (by first | (with_reducible assumption) | assumption)
                                        have q382 : x10_1 < (t371.length : Int) := of_decide_eq_true (by first | (with_reducible assumption) | assumption)
                                        obtain ⟨ad382, A382_0, c382_0, e382, hx382_0, hl382_0, hi382_0⟩ := at_L6 (Kd.S_reads' HO_8.out).2.2 x10_1 p382 q382
                                        obtain rfl : ad381 = ad382 := (by injection e382)
                                        obtain ⟨ce382, hce382, hMe382, hcc382⟩ := Kd.S_get HO_8.out [] x10_1 p382 (by first | exact q382 | exact of_decide_eq_true (by first | (with_reducible assumption) | assumption) | (have e_ := (Kd.S_reads' HO_8.out).1; omega))
                                        obtain ⟨ve382_0, rfl, ge382_0⟩ := hMe382
                                        have hv382_0 := hcc382 0 _ rfl
                                        rw [Nat.add_zero, show ((Kd.slice 34 k34)).sz = 1 from rfl, Nat.mul_one] at hv382_0
                                        replace hv382_0 := Option.some.inj (hv382_0.symm.trans hx382_0)
                                        rw [hv382_0] at ge382_0
                                        have HL382_0 := Aside0.mk (show Kd.R k34 34 _ _ _ _ (rd_L6 t371 x10_1) from ge382_0)
                                        clear hv382_0 ge382_0
                                        clear hcc382 hce382
                                        have HR382_0 := Aside0.mk hi382_0
                                        have HC382_0 := Aside0.mk hl382_0
                                        clear hi382_0 hl382_0
                                        replace p382 := eq_true p382
                                        replace q382 := eq_true q382
                                        have ea_ := Option.some.inj (hx381_0.symm.trans hx382_0)
                                        injection ea_ with ea_ en_ ec_
                                        subst ea_
                                        subst ec_
                                        clear en_
                                        have p383 : 0 ≤ (x11_4 : Int) := of_decide_eq_true (by first | (with_reducible assumption) | assumption)
                                        have q383 : x11_4 < ((rd_L6 t371 x10_1).length : Int) := of_decide_eq_true (by first | (with_reducible assumption) | assumption)
                                        obtain ⟨ad383, e383, hx383_0, hx383_1, hx383_2, hx383_3⟩ := at_T34 (by repeat (first | (with_reducible exact HR382_0.out) | (with_reducible refine Kd.C_alloc ?_ _) | (with_reducible refine Kd.C_drewN ?_ _) | (with_reducible refine Kd.C_drew ?_) | exact HR382_0.out)) x11_4 p383 q383
                                        cases e383
                                        replace p383 := eq_true p383
                                        replace q383 := eq_true q383
                                        have p384 : 0 ≤ (x10_1 : Int) := of_decide_eq_true (by first | (with_reducible assumption) | assumption)
                                        have q384 : x10_1 < (t371.length : Int) := of_decide_eq_true (by first | (with_reducible assumption) | assumption)
                                        obtain ⟨ad384, A384_0, c384_0, e384, hx384_0, hl384_0, hi384_0⟩ := at_L6 (Kd.S_reads' HO_8.out).2.2 x10_1 p384 q384
                                        obtain rfl : ad381 = ad384 := (by injection e384)
                                        obtain ⟨ce384, hce384, hMe384, hcc384⟩ := Kd.S_get HO_8.out [] x10_1 p384 (by first | exact q384 | exact of_decide_eq_true (by first | (with_reducible assumption) | assumption) | (have e_ := (Kd.S_reads' HO_8.out).1; omega))
                                        obtain ⟨ve384_0, rfl, ge384_0⟩ := hMe384
                                        have hv384_0 := hcc384 0 _ rfl
                                        rw [Nat.add_zero, show ((Kd.slice 34 k34)).sz = 1 from rfl, Nat.mul_one] at hv384_0
                                        replace hv384_0 := Option.some.inj (hv384_0.symm.trans hx384_0)
                                        rw [hv384_0] at ge384_0
                                        have HL384_0 := Aside0.mk (show Kd.R k34 34 _ _ _ _ (rd_L6 t371 x10_1) from ge384_0)
                                        clear hv384_0 ge384_0
                                        clear hcc384 hce384
                                        have HR384_0 := Aside0.mk hi384_0
                                        have HC384_0 := Aside0.mk hl384_0
                                        clear hi384_0 hl384_0
                                        replace p384 := eq_true p384
                                        replace q384 := eq_true q384
                                        have ea_ := Option.some.inj (hx381_0.symm.trans hx384_0)
                                        injection ea_ with ea_ en_ ec_
                                        subst ea_
                                        subst ec_
                                        clear en_
                                        have p385 : 0 ≤ (x10_1 : Int) := of_decide_eq_true (by first | (with_reducible assumption) | assumption)
                                        have q385 : x10_1 < (t371.length : Int) := of_decide_eq_true (by first | (with_reducible assumption) | assumption)
                                        obtain ⟨ad385, A385_0, c385_0, e385, hx385_0, hl385_0, hi385_0⟩ := at_L6 (Kd.S_reads' HO_8.out).2.2 x10_1 p385 q385
                                        obtain rfl : ad381 = ad385 := (by injection e385)
                                        obtain ⟨ce385, hce385, hMe385, hcc385⟩ := Kd.S_get HO_8.out [] x10_1 p385 (by first | exact q385 | exact of_decide_eq_true (by first | (with_reducible assumption) | assumption) | (have e_ := (Kd.S_reads' HO_8.out).1; omega))
                                        obtain ⟨ve385_0, rfl, ge385_0⟩ := hMe385
                                        have hv385_0 := hcc385 0 _ rfl
                                        rw [Nat.add_zero, show ((Kd.slice 34 k34)).sz = 1 from rfl, Nat.mul_one] at hv385_0
                                        replace hv385_0 := Option.some.inj (hv385_0.symm.trans hx385_0)
                                        rw [hv385_0] at ge385_0
                                        have HL385_0 := Aside0.mk (show Kd.R k34 34 _ _ _ _ (rd_L6 t371 x10_1) from ge385_0)
                                        clear hv385_0 ge385_0
                                        clear hcc385 hce385
                                        have HR385_0 := Aside0.mk hi385_0
                                        have HC385_0 := Aside0.mk hl385_0
                                        clear hi385_0 hl385_0
                                        replace p385 := eq_true p385
                                        replace q385 := eq_true q385
                                        have ea_ := Option.some.inj (hx381_0.symm.trans hx385_0)
                                        injection ea_ with ea_ en_ ec_
                                        subst ea_
                                        subst ec_
                                        clear en_
                                        have p386 : 0 ≤ ((ji35) : Int) := of_decide_eq_true (by first | (with_reducible assumption) | assumption)
                                        have q386 : (ji35) < ((rd_L6 t371 x10_1).length : Int) := of_decide_eq_true (by first | (with_reducible assumption) | assumption)
                                        obtain ⟨ad386, e386, hx386_0, hx386_1, hx386_2, hx386_3⟩ := at_T34 (by repeat (first | (with_reducible exact HR384_0.out) | (with_reducible refine Kd.C_alloc ?_ _) | (with_reducible refine Kd.C_drewN ?_ _) | (with_reducible refine Kd.C_drew ?_) | exact HR384_0.out)) (ji35) p386 q386
                                        cases e386
                                        replace p386 := eq_true p386
                                        replace q386 := eq_true q386
                                        go_wp2
                                        repeat (go_quiet (fail); try go_wp2)
                                        go_roundg k4
                                        case measure => have := HK1.out; have := HJ12.out; have := HJ19.out; have := HK4.out; omega
                                        case rel => exact ⟨(wrap64 (x11_4 + 1)), (by first | rfl | (simp; done) | (simp [*]; done)), H', ⟨by have := HK1.out; have := HJ12.out; have := HJ19.out; have := HK4.out; omega⟩, ⟨by (with_reducible repeat (first | apply Kd.R_alloc | apply Kd.R_drewN | apply Kd.R_drew)); exact HO_7.out⟩, ⟨by (with_reducible repeat (first | apply Kd.S_alloc | apply Kd.S_drewN | apply Kd.S_drew)); exact HO_8.out⟩, ⟨by (with_reducible repeat (first | apply Kd.R_alloc | apply Kd.R_drewN | apply Kd.R_drew)); exact HO_9.out⟩, ⟨by repeat (first | (with_reducible first | exact HB.out | apply below_alloc | apply pw_below_drewN | apply below_drew1) | exact HB.out)⟩⟩
                                    · rw [if_neg c37] at H
                                      exact absurd H (by simp)
                                  · rw [if_neg c36] at H
                                    exact absurd H (by simp)
                                · rw [if_neg c34] at H
                                  exact absurd H (by simp)
                              · rw [if_neg c33] at H
                                have c33b0 : decide (x11_4 < ((rd_L6 t371 x10_1).length : Int)) = false := decide_eq_false c33
                                clear c33
                                obtain ⟨ji43, hji43⟩ : ∃ j_ : Int, (mx 1 (wrap64 (a2))) = j_ := ⟨_, rfl⟩
                                replace H : (if x11_4 ≥ (ji43) then (some false) else (if x9_1.length + (rd_L6 t371 x10_1).length < 2932031007402 then (iceboxlaw23_TrimParts.l0 k4 a2 t368 t371 (x9_1 ++ (rd_L6 t371 x10_1)) (wrap64 (x10_1 + 1))) else (none))) = some r := by first | (rw [hji43] at H; exact H) | (simp only [hji43] at H ⊢; exact H)
                                have hji43_ : (if 1 < (wrap64 (a2)) then (wrap64 (a2)) else 1) = ji43 := hji43
                                by_cases c44 : x11_4 ≥ (ji43)
                                · rw [if_pos c44] at H
                                  have c44b0 : decide ((ji43) ≤ x11_4) = true := decide_eq_true c44
                                  clear c44
                                  obtain rfl := Option.some.inj H
                                  have p381 : 0 ≤ (x10_1 : Int) := of_decide_eq_true (by first | (with_reducible assumption) | assumption)
                                  have q381 : x10_1 < (t371.length : Int) := of_decide_eq_true (by first | (with_reducible assumption) | assumption)
                                  obtain ⟨ad381, A381_0, c381_0, e381, hx381_0, hl381_0, hi381_0⟩ := at_L6 (Kd.S_reads' HO_8.out).2.2 x10_1 p381 q381
                                  cases e381
                                  obtain ⟨ce381, hce381, hMe381, hcc381⟩ := Kd.S_get HO_8.out [] x10_1 p381 (by first | exact q381 | exact of_decide_eq_true (by first | (with_reducible assumption) | assumption) | (have e_ := (Kd.S_reads' HO_8.out).1; omega))
                                  obtain ⟨ve381_0, rfl, ge381_0⟩ := hMe381
                                  have hv381_0 := hcc381 0 _ rfl
                                  rw [Nat.add_zero, show ((Kd.slice 34 k34)).sz = 1 from rfl, Nat.mul_one] at hv381_0
                                  replace hv381_0 := Option.some.inj (hv381_0.symm.trans hx381_0)
                                  rw [hv381_0] at ge381_0
                                  have HL381_0 := Aside0.mk (show Kd.R k34 34 _ _ _ _ (rd_L6 t371 x10_1) from ge381_0)
                                  clear hv381_0 ge381_0
                                  clear hcc381 hce381
                                  have HR381_0 := Aside0.mk hi381_0
                                  have HC381_0 := Aside0.mk hl381_0
                                  clear hi381_0 hl381_0
                                  replace p381 := eq_true p381
                                  replace q381 := eq_true q381
                                  go_wp2
                                  repeat (go_quiet (fail); try go_wp2)
                                  go_ret
                                  exact ⟨by first | rfl | (simp [errW_none, errW_some] <;> rfl) | (simp only [← hji43]; first | rfl | (simp [errW_none, errW_some] <;> rfl)) | (simp [*, errW_none, errW_some] <;> rfl), by repeat (first | (with_reducible first | exact HB.out | apply below_alloc | apply pw_below_drewN | apply below_drew1) | exact HB.out)⟩
                                · rw [if_neg c44] at H
                                  have c44b0 : decide ((ji43) ≤ x11_4) = false := decide_eq_false c44
                                  clear c44
                                  by_cases c45 : x9_1.length + (rd_L6 t371 x10_1).length < 2932031007402
                                  · rw [if_pos c45] at H
                                    have LMc45 := Aside0.mk c45
                                    clear c45
                                    obtain ⟨y392, hy392⟩ : ∃ y_ : List (S34), y_ = (x9_1 ++ (rd_L6 t371 x10_1)) := ⟨_, rfl⟩
                                    replace H : (iceboxlaw23_TrimParts.l0 k4 a2 t368 t371 y392 (wrap64 (x10_1 + 1))) = some r := by first | (rw [hy392]; with_reducible exact H) | (have H2_ := (Option.bind_some _ _).symm.trans H; rw [hy392]; with_reducible exact H2_) | (have H2_ := (Option.bind_some _ _).symm.trans H; with_reducible exact H2_) | with_reducible exact H | (rw [hy392]; exact H) | exact H
                                    have Ny392 := Aside0.mk hy392
                                    clear hy392
                                    have H' := Aside0.mk H
                                    clear H
                                    have p381 : 0 ≤ (x10_1 : Int) := of_decide_eq_true (by first | (with_reducible assumption) | assumption)
                                    have q381 : x10_1 < (t371.length : Int) := of_decide_eq_true (by first | (with_reducible assumption) | assumption)
                                    obtain ⟨ad381, A381_0, c381_0, e381, hx381_0, hl381_0, hi381_0⟩ := at_L6 (Kd.S_reads' HO_8.out).2.2 x10_1 p381 q381
                                    cases e381
                                    obtain ⟨ce381, hce381, hMe381, hcc381⟩ := Kd.S_get HO_8.out [] x10_1 p381 (by first | exact q381 | exact of_decide_eq_true (by first | (with_reducible assumption) | assumption) | (have e_ := (Kd.S_reads' HO_8.out).1; omega))
                                    obtain ⟨ve381_0, rfl, ge381_0⟩ := hMe381
                                    have hv381_0 := hcc381 0 _ rfl
                                    rw [Nat.add_zero, show ((Kd.slice 34 k34)).sz = 1 from rfl, Nat.mul_one] at hv381_0
                                    replace hv381_0 := Option.some.inj (hv381_0.symm.trans hx381_0)
                                    rw [hv381_0] at ge381_0
                                    have HL381_0 := Aside0.mk (show Kd.R k34 34 _ _ _ _ (rd_L6 t371 x10_1) from ge381_0)
                                    clear hv381_0 ge381_0
                                    clear hcc381 hce381
                                    have HR381_0 := Aside0.mk hi381_0
                                    have HC381_0 := Aside0.mk hl381_0
                                    clear hi381_0 hl381_0
                                    replace p381 := eq_true p381
                                    replace q381 := eq_true q381
                                    have p391 : 0 ≤ (x10_1 : Int) := of_decide_eq_true (by first | (with_reducible assumption) | assumption)
                                    have q391 : x10_1 < (t371.length : Int) := of_decide_eq_true (by first | (with_reducible assumption) | assumption)
                                    obtain ⟨ad391, A391_0, c391_0, e391, hx391_0, hl391_0, hi391_0⟩ := at_L6 (Kd.S_reads' HO_8.out).2.2 x10_1 p391 q391
                                    obtain rfl : ad381 = ad391 := (by injection e391)
                                    obtain ⟨ce391, hce391, hMe391, hcc391⟩ := Kd.S_get HO_8.out [] x10_1 p391 (by first | exact q391 | exact of_decide_eq_true (by first | (with_reducible assumption) | assumption) | (have e_ := (Kd.S_reads' HO_8.out).1; omega))
                                    obtain ⟨ve391_0, rfl, ge391_0⟩ := hMe391
                                    have hv391_0 := hcc391 0 _ rfl
                                    rw [Nat.add_zero, show ((Kd.slice 34 k34)).sz = 1 from rfl, Nat.mul_one] at hv391_0
                                    replace hv391_0 := Option.some.inj (hv391_0.symm.trans hx391_0)
                                    rw [hv391_0] at ge391_0
                                    have HL391_0 := Aside0.mk (show Kd.R k34 34 _ _ _ _ (rd_L6 t371 x10_1) from ge391_0)
                                    clear hv391_0 ge391_0
                                    clear hcc391 hce391
                                    have HR391_0 := Aside0.mk hi391_0
                                    have HC391_0 := Aside0.mk hl391_0
                                    clear hi391_0 hl391_0
                                    replace p391 := eq_true p391
                                    replace q391 := eq_true q391
                                    have ea_ := Option.some.inj (hx381_0.symm.trans hx391_0)
                                    injection ea_ with ea_ en_ ec_
                                    subst ea_
                                    subst ec_
                                    clear en_
                                    go_wp2_with (first | ((with_reducible refine gate_builtin (b := .append) (xs := #[.tmp 115, .tmp 119]) rfl ?_); (try (refine gate_guard (by rfl) ?_; dsimp only)); at_builtin; refine Kd.R_append_rows k34 (w0 := w) w.heap.size rfl (.tmp 115) (.tmp 119) 24 34 (.agg #[(.string ⟨#[]⟩), (.int .i64 0), (.int .i64 0), (.string ⟨#[]⟩)]) 48 rfl Try.underlying24 info34 rfl (by decide) (by omega) u9 x9_1 (rd_L6 t371 x10_1) _ _ _ (fun k_ => some k_ ≠ (.slice Ao10 t368.length co10 : Value).ownBlock) (fun _ => False) rfl rfl ?aO ?aR (fun _ _ h => h) (fun _ h => h.elim) ?aF ?aB ?aS ?aL ?_; (case aR => repeat (first | exact (by repeat (first | (with_reducible exact HR391_0.out) | (with_reducible refine Kd.C_alloc ?_ _) | (with_reducible refine Kd.C_drewN ?_ _) | (with_reducible refine Kd.C_drew ?_) | exact HR391_0.out)) | (with_reducible refine Kd.C_alloc ?_ _) | (with_reducible refine Kd.C_drewN ?_ _) | (with_reducible refine Kd.C_drew ?_))); (case aB => exact (by repeat (first | (with_reducible first | exact HB.out | apply below_alloc | apply pw_below_drewN | apply below_drew1) | exact HB.out))); (case aF => exact (fun k_ hk => Kd.fresh' (Kd.R_lt (by (with_reducible repeat (first | apply Kd.R_alloc | apply Kd.R_drewN | apply Kd.R_drew)); exact HO_7.out)) k_ hk)); (case aO => exact (by (with_reducible repeat (first | apply Kd.R_alloc | apply Kd.R_drewN | apply Kd.R_drew)); exact HO_9.out)); (case aS => exact (below_size (by repeat (first | (with_reducible first | exact HB.out | apply below_alloc | apply pw_below_drewN | apply below_drew1) | exact HB.out)))); (case aL => have := LMc45.out; omega); intro v393 w46 ho hb hg hat; rw [← Ny392.out] at ho; have n0_ := Aside0.mk (Kd.R_after (ok := (fun _ => True)) (by (with_reducible repeat (first | apply Kd.R_alloc | apply Kd.R_drewN | apply Kd.R_drew)); exact Kd.R_mono HO_7.out (fun _ hk => ⟨trivial, hk⟩)) hg hat); have n1_ := Aside0.mk (Kd.S_after (ok := (fun k_ => some k_ ≠ (.slice Ao10 t368.length co10 : Value).ownBlock)) (by (with_reducible repeat (first | apply Kd.S_alloc | apply Kd.S_drewN | apply Kd.S_drew)); exact HO_8.out) hg hat); have n2_ := Aside0.mk (Kd.R_after (ok := (fun k_ => some k_ ≠ (.slice Ao10 t368.length co10 : Value).ownBlock ∧ some k_ ≠ (.slice (some ad381) t371.length co14 : Value).ownBlock)) (by (with_reducible repeat (first | apply Kd.R_alloc | apply Kd.R_drewN | apply Kd.R_drew)); exact Kd.R_mono HL381_0.out (fun _ hk => ⟨⟨hk.1.1, hk.2⟩, hk.1.2⟩)) hg hat); have n3_ := Aside0.mk (Kd.R_after (ok := (fun k_ => some k_ ≠ (.slice Ao10 t368.length co10 : Value).ownBlock ∧ some k_ ≠ (.slice (some ad381) t371.length co14 : Value).ownBlock)) (by (with_reducible repeat (first | apply Kd.R_alloc | apply Kd.R_drewN | apply Kd.R_drew)); exact Kd.R_mono HL391_0.out (fun _ hk => ⟨⟨hk.1.1, hk.2⟩, hk.1.2⟩)) hg hat); have n4_ := Aside0.mk (hb); have n5_ := Aside0.mk (ho); clear HO_7; clear HO_8; clear HL381_0; clear HL391_0; clear HB; clear HO_9; have HO_7 := n0_; have HO_8 := n1_; have HL381_0 := n2_; have HL391_0 := n3_; have HB := n4_; have HO394 := n5_; clear n0_ n1_ n2_ n3_ n4_ n5_; clear ho hb hg hat))
                                    repeat (go_quiet (first | ((with_reducible refine gate_builtin (b := .append) (xs := #[.tmp 115, .tmp 119]) rfl ?_); (try (refine gate_guard (by rfl) ?_; dsimp only)); at_builtin; refine Kd.R_append_rows k34 (w0 := w) w.heap.size rfl (.tmp 115) (.tmp 119) 24 34 (.agg #[(.string ⟨#[]⟩), (.int .i64 0), (.int .i64 0), (.string ⟨#[]⟩)]) 48 rfl Try.underlying24 info34 rfl (by decide) (by omega) u9 x9_1 (rd_L6 t371 x10_1) _ _ _ (fun k_ => some k_ ≠ (.slice Ao10 t368.length co10 : Value).ownBlock) (fun _ => False) rfl rfl ?aO ?aR (fun _ _ h => h) (fun _ h => h.elim) ?aF ?aB ?aS ?aL ?_; (case aR => repeat (first | exact (by repeat (first | (with_reducible exact HR391_0.out) | (with_reducible refine Kd.C_alloc ?_ _) | (with_reducible refine Kd.C_drewN ?_ _) | (with_reducible refine Kd.C_drew ?_) | exact HR391_0.out)) | (with_reducible refine Kd.C_alloc ?_ _) | (with_reducible refine Kd.C_drewN ?_ _) | (with_reducible refine Kd.C_drew ?_))); (case aB => exact (by repeat (first | (with_reducible first | exact HB.out | apply below_alloc | apply pw_below_drewN | apply below_drew1) | exact HB.out))); (case aF => exact (fun k_ hk => Kd.fresh' (Kd.R_lt (by (with_reducible repeat (first | apply Kd.R_alloc | apply Kd.R_drewN | apply Kd.R_drew)); exact HO_7.out)) k_ hk)); (case aO => exact (by (with_reducible repeat (first | apply Kd.R_alloc | apply Kd.R_drewN | apply Kd.R_drew)); exact HO_9.out)); (case aS => exact (below_size (by repeat (first | (with_reducible first | exact HB.out | apply below_alloc | apply pw_below_drewN | apply below_drew1) | exact HB.out)))); (case aL => have := LMc45.out; omega); intro v393 w46 ho hb hg hat; rw [← Ny392.out] at ho; have n0_ := Aside0.mk (Kd.R_after (ok := (fun _ => True)) (by (with_reducible repeat (first | apply Kd.R_alloc | apply Kd.R_drewN | apply Kd.R_drew)); exact Kd.R_mono HO_7.out (fun _ hk => ⟨trivial, hk⟩)) hg hat); have n1_ := Aside0.mk (Kd.S_after (ok := (fun k_ => some k_ ≠ (.slice Ao10 t368.length co10 : Value).ownBlock)) (by (with_reducible repeat (first | apply Kd.S_alloc | apply Kd.S_drewN | apply Kd.S_drew)); exact HO_8.out) hg hat); have n2_ := Aside0.mk (Kd.R_after (ok := (fun k_ => some k_ ≠ (.slice Ao10 t368.length co10 : Value).ownBlock ∧ some k_ ≠ (.slice (some ad381) t371.length co14 : Value).ownBlock)) (by (with_reducible repeat (first | apply Kd.R_alloc | apply Kd.R_drewN | apply Kd.R_drew)); exact Kd.R_mono HL381_0.out (fun _ hk => ⟨⟨hk.1.1, hk.2⟩, hk.1.2⟩)) hg hat); have n3_ := Aside0.mk (Kd.R_after (ok := (fun k_ => some k_ ≠ (.slice Ao10 t368.length co10 : Value).ownBlock ∧ some k_ ≠ (.slice (some ad381) t371.length co14 : Value).ownBlock)) (by (with_reducible repeat (first | apply Kd.R_alloc | apply Kd.R_drewN | apply Kd.R_drew)); exact Kd.R_mono HL391_0.out (fun _ hk => ⟨⟨hk.1.1, hk.2⟩, hk.1.2⟩)) hg hat); have n4_ := Aside0.mk (hb); have n5_ := Aside0.mk (ho); clear HO_7; clear HO_8; clear HL381_0; clear HL391_0; clear HB; clear HO_9; have HO_7 := n0_; have HO_8 := n1_; have HL381_0 := n2_; have HL391_0 := n3_; have HB := n4_; have HO394 := n5_; clear n0_ n1_ n2_ n3_ n4_ n5_; clear ho hb hg hat)); try go_wp2_with (first | ((with_reducible refine gate_builtin (b := .append) (xs := #[.tmp 115, .tmp 119]) rfl ?_); (try (refine gate_guard (by rfl) ?_; dsimp only)); at_builtin; refine Kd.R_append_rows k34 (w0 := w) w.heap.size rfl (.tmp 115) (.tmp 119) 24 34 (.agg #[(.string ⟨#[]⟩), (.int .i64 0), (.int .i64 0), (.string ⟨#[]⟩)]) 48 rfl Try.underlying24 info34 rfl (by decide) (by omega) u9 x9_1 (rd_L6 t371 x10_1) _ _ _ (fun k_ => some k_ ≠ (.slice Ao10 t368.length co10 : Value).ownBlock) (fun _ => False) rfl rfl ?aO ?aR (fun _ _ h => h) (fun _ h => h.elim) ?aF ?aB ?aS ?aL ?_; (case aR => repeat (first | exact (by repeat (first | (with_reducible exact HR391_0.out) | (with_reducible refine Kd.C_alloc ?_ _) | (with_reducible refine Kd.C_drewN ?_ _) | (with_reducible refine Kd.C_drew ?_) | exact HR391_0.out)) | (with_reducible refine Kd.C_alloc ?_ _) | (with_reducible refine Kd.C_drewN ?_ _) | (with_reducible refine Kd.C_drew ?_))); (case aB => exact (by repeat (first | (with_reducible first | exact HB.out | apply below_alloc | apply pw_below_drewN | apply below_drew1) | exact HB.out))); (case aF => exact (fun k_ hk => Kd.fresh' (Kd.R_lt (by (with_reducible repeat (first | apply Kd.R_alloc | apply Kd.R_drewN | apply Kd.R_drew)); exact HO_7.out)) k_ hk)); (case aO => exact (by (with_reducible repeat (first | apply Kd.R_alloc | apply Kd.R_drewN | apply Kd.R_drew)); exact HO_9.out)); (case aS => exact (below_size (by repeat (first | (with_reducible first | exact HB.out | apply below_alloc | apply pw_below_drewN | apply below_drew1) | exact HB.out)))); (case aL => have := LMc45.out; omega); intro v393 w46 ho hb hg hat; rw [← Ny392.out] at ho; have n0_ := Aside0.mk (Kd.R_after (ok := (fun _ => True)) (by (with_reducible repeat (first | apply Kd.R_alloc | apply Kd.R_drewN | apply Kd.R_drew)); exact Kd.R_mono HO_7.out (fun _ hk => ⟨trivial, hk⟩)) hg hat); have n1_ := Aside0.mk (Kd.S_after (ok := (fun k_ => some k_ ≠ (.slice Ao10 t368.length co10 : Value).ownBlock)) (by (with_reducible repeat (first | apply Kd.S_alloc | apply Kd.S_drewN | apply Kd.S_drew)); exact HO_8.out) hg hat); have n2_ := Aside0.mk (Kd.R_after (ok := (fun k_ => some k_ ≠ (.slice Ao10 t368.length co10 : Value).ownBlock ∧ some k_ ≠ (.slice (some ad381) t371.length co14 : Value).ownBlock)) (by (with_reducible repeat (first | apply Kd.R_alloc | apply Kd.R_drewN | apply Kd.R_drew)); exact Kd.R_mono HL381_0.out (fun _ hk => ⟨⟨hk.1.1, hk.2⟩, hk.1.2⟩)) hg hat); have n3_ := Aside0.mk (Kd.R_after (ok := (fun k_ => some k_ ≠ (.slice Ao10 t368.length co10 : Value).ownBlock ∧ some k_ ≠ (.slice (some ad381) t371.length co14 : Value).ownBlock)) (by (with_reducible repeat (first | apply Kd.R_alloc | apply Kd.R_drewN | apply Kd.R_drew)); exact Kd.R_mono HL391_0.out (fun _ hk => ⟨⟨hk.1.1, hk.2⟩, hk.1.2⟩)) hg hat); have n4_ := Aside0.mk (hb); have n5_ := Aside0.mk (ho); clear HO_7; clear HO_8; clear HL381_0; clear HL391_0; clear HB; clear HO_9; have HO_7 := n0_; have HO_8 := n1_; have HL381_0 := n2_; have HL391_0 := n3_; have HB := n4_; have HO394 := n5_; clear n0_ n1_ n2_ n3_ n4_ n5_; clear ho hb hg hat)))
                                    go_roundg k4
                                    case measure => have := HK1.out; have := HJ12.out; have := HJ19.out; have := HK4.out; omega
                                    case rel => exact ⟨(y392), (wrap64 (x10_1 + 1)), (by first | rfl | (simp; done) | (simp [*]; done)), H', ⟨by have := HK1.out; have := HJ12.out; have := HJ19.out; have := HK4.out; omega⟩, ⟨by (with_reducible repeat (first | apply Kd.R_alloc | apply Kd.R_drewN | apply Kd.R_drew)); exact Kd.R_mono HO_7.out (fun _ hk => hk.2)⟩, ⟨by (with_reducible repeat (first | apply Kd.S_alloc | apply Kd.S_drewN | apply Kd.S_drew)); exact HO_8.out⟩, ⟨by (with_reducible repeat (first | apply Kd.R_alloc | apply Kd.R_drewN | apply Kd.R_drew)); exact HO394.out⟩, ⟨by repeat (first | (with_reducible first | exact HB.out | apply below_alloc | apply pw_below_drewN | apply below_drew1) | exact HB.out)⟩⟩
                                  · rw [if_neg c45] at H
                                    exact absurd H (by simp)
                            · rw [if_neg c32] at H
                              exact absurd H (by simp)
                          · rw [if_neg c31] at H
                            exact absurd H (by simp)
        · rw [if_neg c12] at H
          have c12b0 : decide (x10_1 < (t371.length : Int)) = false := decide_eq_false c12
          clear c12
          replace H := Option.bind_eq_some_iff.mp H
          obtain ⟨t374, A470, H⟩ := H
          replace H : (if t374 = true then ((iceboxlaw23_awake.f k1).bind fun t375 => (some t375)) else (some false)) = some r := H
          have A47 := Aside0.mk A470
          clear A470
          by_cases c48 : t374 = true
          · subst c48
            have H1 : ((iceboxlaw23_awake.f k1).bind fun t375 => (some t375)) = some r := by rw [if_pos rfl] at H; exact H
            clear H
            have H := H1
            clear H1
            replace H := Option.bind_eq_some_iff.mp H
            obtain ⟨t375, A490, H⟩ := H
            replace H : (some t375) = some r := H
            have A49 := Aside0.mk A490
            clear A490
            obtain rfl := Option.some.inj H
            obtain ⟨Ao50, co50, eo50⟩ := Kd.S_slice HO_8.out
            subst eo50
            obtain ⟨Ao51, co51, eo51⟩ := Kd.R_slice HO_9.out
            subst eo51
            go_wp2_with (first | (go_at_call 15; (with_reducible refine (iceboxref1_SameEntries.calls k1 _ _ x9_1 _ _ t368 true _ ?side1 ?side2 ?side3 ?side4 A47.out).mono ?_); (case side1 => repeat (first | exact (Kd.R_reads' HO_9.out).2.2 | (with_reducible refine Kd.C_alloc ?_ _) | (with_reducible refine Kd.C_drewN ?_ _) | (with_reducible refine Kd.C_drew ?_))); (case side2 => exact (Kd.R_reads' HO_9.out).2.1); (case side3 => repeat (first | exact (Kd.R_reads' HO_7.out).2.2 | (with_reducible refine Kd.C_alloc ?_ _) | (with_reducible refine Kd.C_drewN ?_ _) | (with_reducible refine Kd.C_drew ?_))); (case side4 => exact (Kd.R_reads' HO_7.out).2.1); rintro e w' ⟨rfl, ⟨nd, rfl⟩⟩; (try first | exact ⟨rfl, _, World.drewN_drewN _ _ _⟩ | exact ⟨rfl, _, Eq.trans (World.drewN_drewN _ _ _) (congrArg (World.drewN _) (Nat.add_assoc _ _ _))⟩)) | (go_at_call 9; (with_reducible refine (iceboxlaw23_awake.calls k1  t375 _ A49.out).mono ?_); rintro e w52 ⟨rfl, hb⟩; have n0_ := Aside0.mk (Kd.R_below (by (with_reducible repeat (first | apply Kd.R_alloc | apply Kd.R_drewN | apply Kd.R_drew)); exact HO_7.out) hb); have n1_ := Aside0.mk (Kd.S_below (by (with_reducible repeat (first | apply Kd.S_alloc | apply Kd.S_drewN | apply Kd.S_drew)); exact HO_8.out) hb); have n2_ := Aside0.mk (Kd.R_below (by (with_reducible repeat (first | apply Kd.R_alloc | apply Kd.R_drewN | apply Kd.R_drew)); exact HO_9.out) hb); have n3_ := Aside0.mk (below_step (by repeat (first | (with_reducible first | exact HB.out | apply below_alloc | apply pw_below_drewN | apply below_drew1) | exact HB.out)) hb); clear HO_7; clear HO_8; clear HO_9; clear HB; have HO_7 := n0_; have HO_8 := n1_; have HO_9 := n2_; have HB := n3_; clear n0_ n1_ n2_ n3_; (try clear hb); (try clear hb2); (try clear hk); (try clear hi)))
            repeat (go_quiet (first | (go_at_call 15; (with_reducible refine (iceboxref1_SameEntries.calls k1 _ _ x9_1 _ _ t368 true _ ?side1 ?side2 ?side3 ?side4 A47.out).mono ?_); (case side1 => repeat (first | exact (Kd.R_reads' HO_9.out).2.2 | (with_reducible refine Kd.C_alloc ?_ _) | (with_reducible refine Kd.C_drewN ?_ _) | (with_reducible refine Kd.C_drew ?_))); (case side2 => exact (Kd.R_reads' HO_9.out).2.1); (case side3 => repeat (first | exact (Kd.R_reads' HO_7.out).2.2 | (with_reducible refine Kd.C_alloc ?_ _) | (with_reducible refine Kd.C_drewN ?_ _) | (with_reducible refine Kd.C_drew ?_))); (case side4 => exact (Kd.R_reads' HO_7.out).2.1); rintro e w' ⟨rfl, ⟨nd, rfl⟩⟩; (try first | exact ⟨rfl, _, World.drewN_drewN _ _ _⟩ | exact ⟨rfl, _, Eq.trans (World.drewN_drewN _ _ _) (congrArg (World.drewN _) (Nat.add_assoc _ _ _))⟩)) | (go_at_call 9; (with_reducible refine (iceboxlaw23_awake.calls k1  t375 _ A49.out).mono ?_); rintro e w52 ⟨rfl, hb⟩; have n0_ := Aside0.mk (Kd.R_below (by (with_reducible repeat (first | apply Kd.R_alloc | apply Kd.R_drewN | apply Kd.R_drew)); exact HO_7.out) hb); have n1_ := Aside0.mk (Kd.S_below (by (with_reducible repeat (first | apply Kd.S_alloc | apply Kd.S_drewN | apply Kd.S_drew)); exact HO_8.out) hb); have n2_ := Aside0.mk (Kd.R_below (by (with_reducible repeat (first | apply Kd.R_alloc | apply Kd.R_drewN | apply Kd.R_drew)); exact HO_9.out) hb); have n3_ := Aside0.mk (below_step (by repeat (first | (with_reducible first | exact HB.out | apply below_alloc | apply pw_below_drewN | apply below_drew1) | exact HB.out)) hb); clear HO_7; clear HO_8; clear HO_9; clear HB; have HO_7 := n0_; have HO_8 := n1_; have HO_9 := n2_; have HB := n3_; clear n0_ n1_ n2_ n3_; (try clear hb); (try clear hb2); (try clear hk); (try clear hi))); try go_wp2_with (first | (go_at_call 15; (with_reducible refine (iceboxref1_SameEntries.calls k1 _ _ x9_1 _ _ t368 true _ ?side1 ?side2 ?side3 ?side4 A47.out).mono ?_); (case side1 => repeat (first | exact (Kd.R_reads' HO_9.out).2.2 | (with_reducible refine Kd.C_alloc ?_ _) | (with_reducible refine Kd.C_drewN ?_ _) | (with_reducible refine Kd.C_drew ?_))); (case side2 => exact (Kd.R_reads' HO_9.out).2.1); (case side3 => repeat (first | exact (Kd.R_reads' HO_7.out).2.2 | (with_reducible refine Kd.C_alloc ?_ _) | (with_reducible refine Kd.C_drewN ?_ _) | (with_reducible refine Kd.C_drew ?_))); (case side4 => exact (Kd.R_reads' HO_7.out).2.1); rintro e w' ⟨rfl, ⟨nd, rfl⟩⟩; (try first | exact ⟨rfl, _, World.drewN_drewN _ _ _⟩ | exact ⟨rfl, _, Eq.trans (World.drewN_drewN _ _ _) (congrArg (World.drewN _) (Nat.add_assoc _ _ _))⟩)) | (go_at_call 9; (with_reducible refine (iceboxlaw23_awake.calls k1  t375 _ A49.out).mono ?_); rintro e w52 ⟨rfl, hb⟩; have n0_ := Aside0.mk (Kd.R_below (by (with_reducible repeat (first | apply Kd.R_alloc | apply Kd.R_drewN | apply Kd.R_drew)); exact HO_7.out) hb); have n1_ := Aside0.mk (Kd.S_below (by (with_reducible repeat (first | apply Kd.S_alloc | apply Kd.S_drewN | apply Kd.S_drew)); exact HO_8.out) hb); have n2_ := Aside0.mk (Kd.R_below (by (with_reducible repeat (first | apply Kd.R_alloc | apply Kd.R_drewN | apply Kd.R_drew)); exact HO_9.out) hb); have n3_ := Aside0.mk (below_step (by repeat (first | (with_reducible first | exact HB.out | apply below_alloc | apply pw_below_drewN | apply below_drew1) | exact HB.out)) hb); clear HO_7; clear HO_8; clear HO_9; clear HB; have HO_7 := n0_; have HO_8 := n1_; have HO_9 := n2_; have HB := n3_; clear n0_ n1_ n2_ n3_; (try clear hb); (try clear hb2); (try clear hk); (try clear hi))))
            go_ret
            exact ⟨by first | rfl | (simp [errW_none, errW_some] <;> rfl) | (simp [*, errW_none, errW_some] <;> rfl), by repeat (first | (with_reducible first | exact HB.out | apply below_alloc | apply pw_below_drewN | apply below_drew1) | exact HB.out)⟩
          · replace c48 := Bool.eq_false_iff.mpr c48
            subst c48
            have H1 : (some false) = some r := by rw [if_neg (show ¬ (false = true) by decide)] at H; exact H
            clear H
            have H := H1
            clear H1
            obtain rfl := Option.some.inj H
            obtain ⟨Ao53, co53, eo53⟩ := Kd.S_slice HO_8.out
            subst eo53
            obtain ⟨Ao54, co54, eo54⟩ := Kd.R_slice HO_9.out
            subst eo54
            go_wp2_with (first | (go_at_call 15; (with_reducible refine (iceboxref1_SameEntries.calls k1 _ _ x9_1 _ _ t368 false _ ?side1 ?side2 ?side3 ?side4 A47.out).mono ?_); (case side1 => repeat (first | exact (Kd.R_reads' HO_9.out).2.2 | (with_reducible refine Kd.C_alloc ?_ _) | (with_reducible refine Kd.C_drewN ?_ _) | (with_reducible refine Kd.C_drew ?_))); (case side2 => exact (Kd.R_reads' HO_9.out).2.1); (case side3 => repeat (first | exact (Kd.R_reads' HO_7.out).2.2 | (with_reducible refine Kd.C_alloc ?_ _) | (with_reducible refine Kd.C_drewN ?_ _) | (with_reducible refine Kd.C_drew ?_))); (case side4 => exact (Kd.R_reads' HO_7.out).2.1); rintro e w' ⟨rfl, ⟨nd, rfl⟩⟩; (try first | exact ⟨rfl, _, World.drewN_drewN _ _ _⟩ | exact ⟨rfl, _, Eq.trans (World.drewN_drewN _ _ _) (congrArg (World.drewN _) (Nat.add_assoc _ _ _))⟩)))
            repeat (go_quiet (first | (go_at_call 15; (with_reducible refine (iceboxref1_SameEntries.calls k1 _ _ x9_1 _ _ t368 false _ ?side1 ?side2 ?side3 ?side4 A47.out).mono ?_); (case side1 => repeat (first | exact (Kd.R_reads' HO_9.out).2.2 | (with_reducible refine Kd.C_alloc ?_ _) | (with_reducible refine Kd.C_drewN ?_ _) | (with_reducible refine Kd.C_drew ?_))); (case side2 => exact (Kd.R_reads' HO_9.out).2.1); (case side3 => repeat (first | exact (Kd.R_reads' HO_7.out).2.2 | (with_reducible refine Kd.C_alloc ?_ _) | (with_reducible refine Kd.C_drewN ?_ _) | (with_reducible refine Kd.C_drew ?_))); (case side4 => exact (Kd.R_reads' HO_7.out).2.1); rintro e w' ⟨rfl, ⟨nd, rfl⟩⟩; (try first | exact ⟨rfl, _, World.drewN_drewN _ _ _⟩ | exact ⟨rfl, _, Eq.trans (World.drewN_drewN _ _ _) (congrArg (World.drewN _) (Nat.add_assoc _ _ _))⟩))); try go_wp2_with (first | (go_at_call 15; (with_reducible refine (iceboxref1_SameEntries.calls k1 _ _ x9_1 _ _ t368 false _ ?side1 ?side2 ?side3 ?side4 A47.out).mono ?_); (case side1 => repeat (first | exact (Kd.R_reads' HO_9.out).2.2 | (with_reducible refine Kd.C_alloc ?_ _) | (with_reducible refine Kd.C_drewN ?_ _) | (with_reducible refine Kd.C_drew ?_))); (case side2 => exact (Kd.R_reads' HO_9.out).2.1); (case side3 => repeat (first | exact (Kd.R_reads' HO_7.out).2.2 | (with_reducible refine Kd.C_alloc ?_ _) | (with_reducible refine Kd.C_drewN ?_ _) | (with_reducible refine Kd.C_drew ?_))); (case side4 => exact (Kd.R_reads' HO_7.out).2.1); rintro e w' ⟨rfl, ⟨nd, rfl⟩⟩; (try first | exact ⟨rfl, _, World.drewN_drewN _ _ _⟩ | exact ⟨rfl, _, Eq.trans (World.drewN_drewN _ _ _) (congrArg (World.drewN _) (Nat.add_assoc _ _ _))⟩))))
            go_ret
            exact ⟨by first | rfl | (simp [errW_none, errW_some] <;> rfl) | (simp [*, errW_none, errW_some] <;> rfl), by repeat (first | (with_reducible first | exact HB.out | apply below_alloc | apply pw_below_drewN | apply below_drew1) | exact HB.out)⟩

/-- THE ONE PURE STATEMENT of iceboxlaw23_TrimParts: yours. -/
def iceboxlaw23_TrimParts.Pure : Prop := ∀ (l0 : List Int) (a1 : Int) (a2 : Int), l0.length ≤ maxLen → l0.length * 1 ≤ 140737488351232 → (∀ x ∈ l0, (Lit.int .u8 x).wf = true) → (Lit.int .u8 a1).wf = true → (Lit.int .u8 a2).wf = true → ∃ k, iceboxlaw23_TrimParts.f k l0 a1 a2 = some true
theorem iceboxlaw23_TrimParts.walk (P : iceboxlaw23_TrimParts.Pure) (a0 : Option Addr) (len0 cap0 : Nat) (z0 : List Int) (a1 : Int) (a2 : Int) (w : World) (w0 : (a0 = none ∧ len0 = 0 ∧ cap0 = 0 ∧ z0 = []) ∨ ∃ x, a0 = some x ∧ len0 ≤ cap0 ∧ cap0 ≤ maxLen ∧ z0.length = cap0 ∧ (∀ i, i < z0.length → w.cell? (x.add i) = some (.int .u8 (z0.getD i 0))) ∧ ∀ n ∈ z0, (Lit.int .u8 n).wf = true) (y0 : len0 * 1 ≤ 140737488351232) (w1 : (Lit.int .u8 a1).wf = true) (w2 : (Lit.int .u8 a2).wf = true) :
    Calls Try.prog 8 #[.slice a0 len0 cap0, .int .u8 a1, .int .u8 a2] w fun e w' => e = .returned (.bool true) ∧ Below w.heap.size w w' := by
  obtain ⟨l0, rfl, hr0, hm0, hw0, hc0⟩ := ReadsInt.ofRowC w0
  obtain ⟨k, h⟩ := P l0 a1 a2 hm0 y0 hw0 w1 w2
  refine (iceboxlaw23_TrimParts.calls k _ _ l0 a1 a2 true w (Kd.C_of_reads (d := (0 : Int)) (h1 := fun _ => rfl) hr0) hc0 h).mono ?_
  rintro e w' ⟨rfl, hd⟩
  exact ⟨rfl, hd⟩

end Go.Proofs.Ytanlecnnfoapeaa.P
