/- The functions of package math that the laws of scores use, on bits; and score.Score: contracts by hand; they leave the world as it was, but for draws. -/
import Derived.Test.YtbmkjcgbnddgdaaPx0
import Derived.WalkLawsBesides
import Derived.Test.YtbmkjcgbnddgdaaHieee
import Derived.Deep.QuietTactic
import Derived.BigQuiet
import Derived.Laws.Externs
namespace Go.Proofs.Ytbmkjcgbnddgdaa.P
open Go.RowKit
set_option linter.unusedVariables false
theorem bits_enters (x : Nat) (w : World) : (callFunc 21 #[.float .f64 x]).run Try.prog w = .ok (.value (.int .u64 x)) w := by
  rw [run_callFunc_extern Try.func21 (by kernel_rfl) (by kernel_rfl) (by kernel_rfl) (e := Extern.MathFloatBits.float64bits) (by kernel_rfl)]
  rfl
theorem frombits_enters (n : Int) (w : World) : (callFunc 22 #[.int .u64 n]).run Try.prog w = .ok (.value (.float .f64 n.toNat)) w := by
  rw [run_callFunc_extern Try.func22 (by kernel_rfl) (by kernel_rfl) (by kernel_rfl) (e := Extern.MathFloatBits.float64frombits) (by kernel_rfl)]
  rfl
theorem isNaN_calls (x : Nat) (w : World) : Calls Try.prog 8 #[.float .f64 x] w fun e w' => e = .returned (.bool (isNaN x)) ∧ w' = w := by
  go_enter Try.func8, Try.ntmps8
  go_wp2
  all_goals (go_ret; exact ⟨rfl, rfl⟩)
theorem nan_calls (w : World) : Calls Try.prog 10 #[] w fun e w' => e = .returned (.float .f64 9221120237041090561) ∧ w' = w := by
  have hd := frombits_enters
  go_enter Try.func10, Try.ntmps10
  go_wp2
  all_goals (go_ret; exact ⟨rfl, rfl⟩)
theorem inf_calls (w : World) : Calls Try.prog 11 #[.int .i64 1] w fun e w' => e = .returned (.float .f64 9218868437227405312) ∧ w' = w := by
  have hd := frombits_enters
  go_enter Try.func11, Try.ntmps11
  go_wp2
  all_goals (go_ret; exact ⟨rfl, rfl⟩)
theorem minf_calls (w : World) : Calls Try.prog 11 #[.int .i64 (-1)] w fun e w' => e = .returned (.float .f64 18442240474082181120) ∧ w' = w := by
  have hd := frombits_enters
  go_enter Try.func11, Try.ntmps11
  go_wp2
  all_goals (go_ret; exact ⟨rfl, rfl⟩)
theorem isInf_calls (x : Nat) (w : World) : Calls Try.prog 12 #[.float .f64 x, .int .i64 1] w fun e w' => e = .returned (.bool (isInf x)) ∧ w' = w := by
  go_enter Try.func12, Try.ntmps12
  go_wp2
  all_goals (go_ret; exact ⟨rfl, rfl⟩)
theorem copysign_calls (w : World) : Calls Try.prog 13 #[.float .f64 0, .float .f64 13830554455654793216] w fun e w' => e = .returned (.float .f64 9223372036854775808) ∧ w' = w := by
  have hd := frombits_enters
  have hb := bits_enters
  go_enter Try.func13, Try.ntmps13
  go_wp2
  all_goals (go_ret; exact ⟨rfl, rfl⟩)
def sign64 (x : Nat) : Bool := decide (wrap64 (x : Int) < 0)
theorem signbit_calls (x : Nat) (w : World) : Calls Try.prog 9 #[.float .f64 x] w fun e w' => e = .returned (.bool (sign64 x)) ∧ w' = w := by
  have hb := bits_enters
  go_enter Try.func9, Try.ntmps9
  go_wp2
  all_goals (go_ret; exact ⟨rfl, rfl⟩)
theorem score_calls (n : Int) (x : Nat) (w : World) : Calls Try.prog 7 #[.int .i64 n, .float .f64 x] w fun e w' => e = .returned (.float .f64 (scoreF n x)) ∧ w' = w := by
  by_cases hn : n < 1
  · have hs : scoreF n x = 0 := by simp [scoreF, hn]
    have hn' : decide (n < 1) = true := by simpa using hn
    rw [hs]
    clear hs
    go_enter Try.func7, Try.ntmps7
    go_wp2
    go_ret
    exact ⟨rfl, rfl⟩
  · have c8 := fun w => isNaN_calls x w
    have c12 := fun w => isInf_calls x w
    have c11 := inf_calls
    cases h1 : isNaN x
    · cases h2 : isInf x
      · cases h3 : leZ x
        · have hs : scoreF n x = divF n x := by simp [scoreF, hn, h1, h2, h3]
          have hd := divF_some (n := n) (x := x) (by omega) h1 h2 h3
          have hop : ∀ t w, (binOp .quo t (.float .f64 (floatOfInt .f64 n)) (.float .f64 x)).run Try.prog w = .ok (.float .f64 (divF n x)) w := fun t w => run_float_arith w .quo t .f64 _ x _ hd
          rw [hs]
          have h3' : (F64.order x 0 == some .lt || F64.order x 0 == some .eq) = false := h3
          simp only [h1] at c8
          simp only [h2] at c12
          clear hs hd
          go_enter Try.func7, Try.ntmps7
          go_wp2_with (first | (go_at_call 8; (with_reducible refine (c8 _).mono ?_); rintro _ _ ⟨rfl, rfl⟩) | (go_at_call 12; (with_reducible refine (c12 _).mono ?_); rintro _ _ ⟨rfl, rfl⟩))
          go_ret
          exact ⟨rfl, rfl⟩
        · have hs : scoreF n x = 9218868437227405312 := by simp [scoreF, hn, h1, h2, h3]
          rw [hs]
          have h3' : (F64.order x 0 == some .lt || F64.order x 0 == some .eq) = true := h3
          simp only [h1] at c8
          simp only [h2] at c12
          clear hs
          go_enter Try.func7, Try.ntmps7
          go_wp2_with (first | (go_at_call 8; (with_reducible refine (c8 _).mono ?_); rintro _ _ ⟨rfl, rfl⟩) | (go_at_call 12; (with_reducible refine (c12 _).mono ?_); rintro _ _ ⟨rfl, rfl⟩) | (go_at_call 11; (with_reducible refine (c11 _).mono ?_); rintro _ _ ⟨rfl, rfl⟩))
          go_ret
          exact ⟨rfl, rfl⟩
      · have hs : scoreF n x = 0 := by simp [scoreF, hn, h2]
        rw [hs]
        simp only [h1] at c8
        simp only [h2] at c12
        clear hs
        go_enter Try.func7, Try.ntmps7
        go_wp2_with (first | (go_at_call 8; (with_reducible refine (c8 _).mono ?_); rintro _ _ ⟨rfl, rfl⟩) | (go_at_call 12; (with_reducible refine (c12 _).mono ?_); rintro _ _ ⟨rfl, rfl⟩))
        go_ret
        exact ⟨rfl, rfl⟩
    · have hs : scoreF n x = 0 := by simp [scoreF, hn, h1]
      rw [hs]
      simp only [h1] at c8
      clear hs
      go_enter Try.func7, Try.ntmps7
      go_wp2_with (first | (go_at_call 8; (with_reducible refine (c8 _).mono ?_); rintro _ _ ⟨rfl, rfl⟩) | (go_at_call 12; (with_reducible refine (c12 _).mono ?_); rintro _ _ ⟨rfl, rfl⟩))
      go_ret
      exact ⟨rfl, rfl⟩
theorem rscore_calls (n : Int) (x : Nat) (w : World) : Calls Try.prog 18 #[.int .i64 n, .float .f64 x] w fun e w' => e = .returned (.float .f64 (scoreF n x)) ∧ w' = w := by
  by_cases hn : n < 1
  · have hs : scoreF n x = 0 := by simp [scoreF, hn]
    have hn' : decide (n < 1) = true := by simpa using hn
    rw [hs]
    clear hs
    go_enter Try.func18, Try.ntmps18
    go_wp2
    go_ret
    exact ⟨rfl, rfl⟩
  · have c8 := fun w => isNaN_calls x w
    have c12 := fun w => isInf_calls x w
    have c11 := inf_calls
    cases h1 : isNaN x
    · cases h2 : isInf x
      · cases h3 : leZ x
        · have hs : scoreF n x = divF n x := by simp [scoreF, hn, h1, h2, h3]
          have hd := divF_some (n := n) (x := x) (by omega) h1 h2 h3
          have hop : ∀ t w, (binOp .quo t (.float .f64 (floatOfInt .f64 n)) (.float .f64 x)).run Try.prog w = .ok (.float .f64 (divF n x)) w := fun t w => run_float_arith w .quo t .f64 _ x _ hd
          rw [hs]
          have h3' : (F64.order x 0 == some .lt || F64.order x 0 == some .eq) = false := h3
          simp only [h1] at c8
          simp only [h2] at c12
          clear hs hd
          go_enter Try.func18, Try.ntmps18
          go_wp2_with (first | (go_at_call 8; (with_reducible refine (c8 _).mono ?_); rintro _ _ ⟨rfl, rfl⟩) | (go_at_call 12; (with_reducible refine (c12 _).mono ?_); rintro _ _ ⟨rfl, rfl⟩))
          go_ret
          exact ⟨rfl, rfl⟩
        · have hs : scoreF n x = 9218868437227405312 := by simp [scoreF, hn, h1, h2, h3]
          rw [hs]
          have h3' : (F64.order x 0 == some .lt || F64.order x 0 == some .eq) = true := h3
          simp only [h1] at c8
          simp only [h2] at c12
          clear hs
          go_enter Try.func18, Try.ntmps18
          go_wp2_with (first | (go_at_call 8; (with_reducible refine (c8 _).mono ?_); rintro _ _ ⟨rfl, rfl⟩) | (go_at_call 12; (with_reducible refine (c12 _).mono ?_); rintro _ _ ⟨rfl, rfl⟩) | (go_at_call 11; (with_reducible refine (c11 _).mono ?_); rintro _ _ ⟨rfl, rfl⟩))
          go_ret
          exact ⟨rfl, rfl⟩
      · have hs : scoreF n x = 0 := by simp [scoreF, hn, h2]
        rw [hs]
        simp only [h1] at c8
        simp only [h2] at c12
        clear hs
        go_enter Try.func18, Try.ntmps18
        go_wp2_with (first | (go_at_call 8; (with_reducible refine (c8 _).mono ?_); rintro _ _ ⟨rfl, rfl⟩) | (go_at_call 12; (with_reducible refine (c12 _).mono ?_); rintro _ _ ⟨rfl, rfl⟩))
        go_ret
        exact ⟨rfl, rfl⟩
    · have hs : scoreF n x = 0 := by simp [scoreF, hn, h1]
      rw [hs]
      simp only [h1] at c8
      clear hs
      go_enter Try.func18, Try.ntmps18
      go_wp2_with (first | (go_at_call 8; (with_reducible refine (c8 _).mono ?_); rintro _ _ ⟨rfl, rfl⟩) | (go_at_call 12; (with_reducible refine (c12 _).mono ?_); rintro _ _ ⟨rfl, rfl⟩))
      go_ret
      exact ⟨rfl, rfl⟩
end Go.Proofs.Ytbmkjcgbnddgdaa.P
