/- MayEdit of an edit that drops nothing: yes or no. -/
import Derived.Test.YtbmkjcgbnddgdaaHmay2
namespace Go.Proofs.Ytbmkjcgbnddgdaa.P
open Go.RowKit Go.Proofs.YtbmkjcgbnddgdaaW.PrintWords Go.Proofs.YtbmkjcgbnddgdaaW.PrintLast Go.Proofs.YtbmkjcgbnddgdaaW.PrintMore
set_option linter.unusedVariables false
attribute [local go_sem] str_geq str_leq str_gtr
/-- An edit's value. -/
def editV (a b c d : Int) (A : Option Addr) (n k : Nat) : Value := .agg #[.int .i64 a, .int .i64 b, .int .i64 c, .int .i64 d, .slice A n k, .slice none 0 0]
set_option maxRecDepth 100000 in
set_option maxHeartbeats 4000000 in
theorem mayEdit_any (a b c d : Int) (A : Option Addr) (k : Nat) (xs : List S38) (w : World) (hr : Kd.C k38 w A xs.length xs) (hk : xs.length ≤ k) : Calls Try.prog 30 #[editV a b c d A xs.length k] w fun e w' => IsB e ∧ Below w.heap.size w w' := by
  have HR := Aside0.mk hr
  have hmax : xs.length ≤ 9223372036854775807 := hr.2.1
  clear hr
  unfold editV
  go_enter Try.func30, Try.ntmps30
  go_upto_region 1 with fail
  generalize hw0 : w.alloc (.cells #[.int .i64 a, .int .i64 b, .int .i64 c, .int .i64 d, .slice A xs.length k, .slice none 0 0] 57) = w0
  have hb0 : Below w.heap.size w w0 := by rw [← hw0]; exact (Below.refl _ w).alloc (Nat.le_refl _) _
  have d0 : w0.cell? ⟨w.heap.size, 0, none⟩ = some (.int .i64 a) := by rw [← hw0]; exact (blk_cell (heap_alloc_new _ _) 0).trans rfl
  have d1 : w0.cell? ⟨w.heap.size, 1, none⟩ = some (.int .i64 b) := by rw [← hw0]; exact (blk_cell (heap_alloc_new _ _) 1).trans rfl
  have d2 : w0.cell? ⟨w.heap.size, 2, none⟩ = some (.int .i64 c) := by rw [← hw0]; exact (blk_cell (heap_alloc_new _ _) 2).trans rfl
  have d3 : w0.cell? ⟨w.heap.size, 3, none⟩ = some (.int .i64 d) := by rw [← hw0]; exact (blk_cell (heap_alloc_new _ _) 3).trans rfl
  have d4 : w0.cell? ⟨w.heap.size, 4, none⟩ = some (.slice A xs.length k) := by rw [← hw0]; exact (blk_cell (heap_alloc_new _ _) 4).trans rfl
  have d5 : w0.cell? ⟨w.heap.size, 5, none⟩ = some (.slice none 0 0) := by rw [← hw0]; exact (blk_cell (heap_alloc_new _ _) 5).trans rfl
  clear hw0
  go_cut [38] (fun v38 wc => ∃ q : Bool, v38 = .bool q ∧ w0 = wc)
  case first =>
    go_wp2_with (first | (go_at_call 34; refine (number_any _ _).mono ?_; rintro _ _ ⟨⟨q, rfl⟩, rfl⟩; cases q))
    all_goals
      go_meet
      case rel => exact ⟨_, rfl, rfl⟩
  case rest =>
    obtain ⟨q, rfl, rfl⟩ := hcut
    cases q with
    | true =>
      go_wp2_with fail
      go_ret
      exact ⟨⟨_, rfl⟩, hb0⟩
    | false =>
      go_wp2_with fail
      go_loopw [3] (fun i wr => ∃ j : Nat, j ≤ xs.length ∧ i = .int .i64 j ∧ Aside0 (Below w0.heap.size w0 wr)) (fun i _ => xs.length - (intOf i).toNat)
      case atStart => exact ⟨0, Nat.zero_le _, rfl, ⟨Below.refl _ _⟩⟩
      case round =>
        obtain ⟨j, hj, rfl, HB⟩ := hrel
        have g4 := keep_cell HB.out d4
        have g5 := keep_cell HB.out d5
        have hbw : Below w.heap.size w wr := hb0.trans (HB.out.mono hb0.size)
        have HBW := Aside0.mk hbw
        clear hbw
        by_cases hlt : j < xs.length
        · obtain ⟨ad, t, e, et, h0, h1, h2, h3, h4, h5, h6, h7, h8⟩ := t38_at (Kd.C_below HR.out HBW.out) j hlt
          subst e
          clear et
          go_wp2_with fail
          refine (mayTable_any _ _ _ _ _ _ _ _ _ _).mono ?_
          rintro _ wx ⟨⟨q, rfl⟩, hbx⟩
          have HX : Aside0 (Below w0.heap.size w0 wx) := ⟨HB.out.trans (hbx.mono HB.out.size)⟩
          have HXW : Aside0 (Below w.heap.size w wx) := ⟨HBW.out.trans (hbx.mono HBW.out.size)⟩
          clear hbx h0 h1 h2 h3 h4 h5 h6 h7 h8 g4 g5
          cases q with
          | true =>
            go_wp2_with fail
            go_roundw
            case rel => exact ⟨j + 1, by omega, by go_num, HX⟩
            case measure => simp [intOf]; omega
          | false =>
            go_wp2_with fail
            go_ret
            exact ⟨⟨_, rfl⟩, HXW.out⟩
        · go_wp2_with fail
          go_loopw [4] (fun i wr2 => i = .int .i64 0 ∧ wr2 = wr) (fun i _ => 0)
          case atStart => exact ⟨rfl, rfl⟩
          case round =>
            obtain ⟨rfl, rfl⟩ := hrel
            go_wp2_with fail
            go_ret
            exact ⟨⟨_, rfl⟩, HBW.out⟩
/-- It tells a number. -/
def IsI (e : Ending) : Prop := ∃ i, e = .returned (.int .i64 i)
set_option maxRecDepth 100000 in
theorem place_any (A : Option Addr) (k : Nat) (xs : List S38) (n : Int) (w : World) (hr : Kd.C k38 w A xs.length xs) : Calls Try.prog 31 #[.slice A xs.length k, .int .i64 n] w fun e w' => IsI e ∧ w = w' := by
  have HR := Aside0.mk hr
  have hmax : xs.length ≤ 9223372036854775807 := hr.2.1
  clear hr
  go_enter Try.func31, Try.ntmps31
  go_wp2
  go_loop [5] (fun i => ∃ j : Nat, j ≤ xs.length ∧ i = .int .i64 j) (fun i => xs.length - (intOf i).toNat)
  case atStart => exact ⟨0, Nat.zero_le _, rfl⟩
  case round =>
    obtain ⟨j, hj, rfl⟩ := hrel
    by_cases hlt : j < xs.length
    · obtain ⟨ad, t, e, et, h0, h1, h2, h3, h4, h5, h6, h7, h8⟩ := t38_at HR.out j hlt
      subst e
      clear et h1 h2 h3 h4 h5 h6 h7 h8
      by_cases he : t.f0 = n
      · go_wp2
        go_ret
        exact ⟨⟨_, rfl⟩, rfl⟩
      · go_wp2
        go_round
        case rel => exact ⟨j + 1, by omega, by go_num⟩
        case measure => simp [intOf]; omega
    · go_wp2
      go_ret
      exact ⟨⟨_, rfl⟩, rfl⟩
end Go.Proofs.Ytbmkjcgbnddgdaa.P
