/- The contracts by hand of score.Score, iceboxref17.Score and iceboxlaw22.awake, in the print's form; and what the print says of rows of floats. -/
import Derived.Test.YtbmkjcgbnddgdaaHmath
import Derived.Test.YtbmkjcgbnddgdaaWFoot
namespace Go.Proofs.Ytbmkjcgbnddgdaa.P
open Go.RowKit Go.Proofs.YtbmkjcgbnddgdaaW.PrintWords
set_option linter.unusedVariables false
def kF64 : Kd Nat := Kd.scalar (Value.float .f64) (fun _ => rfl)
theorem kF64_heap : Kd.Heap kF64 := Kd.heap_scalar
theorem at_F64 {w : World} {A : Option Addr} {n : Nat} {xs : List Nat} (h : Kd.C kF64 w A n xs) (i : Int) (h0 : 0 ≤ i) (h1 : i < n) : ∃ ad, A = some ad ∧ w.cell? (ad.add i.toNat) = some (.float .f64 (rdOf (0 : Nat) xs i)) :=
  ReadsOf.at_ (Kd.reads_of_C (enc := Value.float .f64) (d := (0 : Nat)) (h1 := fun _ => rfl) h) i h0 h1
theorem awake0_calls (w : World) : Calls Try.prog 14 #[] w fun e w' => e = .returned (.bool true) ∧ w' = w := by
  have e1 : scoreF 3 0 = 9218868437227405312 := by decide +kernel
  have e2 : scoreF 6 4616189618054758400 = 4609434218613702656 := by decide +kernel
  have e3 : isInf 9218868437227405312 = true := by decide +kernel
  have e4 : (F64.order 4609434218613702656 4609434218613702656 == some .eq) = true := by decide +kernel
  have c1 := score_calls 3 0
  have c2 := score_calls 6 4616189618054758400
  have c3 := isInf_calls 9218868437227405312
  rw [e1] at c1
  rw [e2] at c2
  rw [e3] at c3
  clear e1 e2 e3
  go_enter Try.func14, Try.ntmps14
  go_wp2_with (first | (go_at_call 7; (with_reducible refine (c1 _).mono ?_); rintro _ _ ⟨rfl, rfl⟩) | (go_at_call 7; (with_reducible refine (c2 _).mono ?_); rintro _ _ ⟨rfl, rfl⟩) | (go_at_call 12; (with_reducible refine (c3 _).mono ?_); rintro _ _ ⟨rfl, rfl⟩))
  go_ret
  exact ⟨rfl, rfl⟩
def score_Score.f (a0 : Int) (a1 : Nat) : Option Nat := some (scoreF a0 a1)
theorem score_Score.calls (a0 : Int) (a1 : Nat) (r : Nat) (w : World) (h : score_Score.f a0 a1 = some r) : Calls Try.prog 7 #[.int .i64 a0, .float .f64 a1] w fun e w' => e = .returned (.float .f64 r) ∧ Below w.heap.size w w' := by
  obtain rfl := Option.some.inj h
  exact (score_calls a0 a1 w).mono fun _ _ ⟨a, b⟩ => ⟨a, b ▸ Below.refl _ _⟩
def iceboxref17_Score.f (a0 : Int) (a1 : Nat) : Option Nat := some (scoreF a0 a1)
theorem iceboxref17_Score.calls (a0 : Int) (a1 : Nat) (r : Nat) (w : World) (h : iceboxref17_Score.f a0 a1 = some r) : Calls Try.prog 18 #[.int .i64 a0, .float .f64 a1] w fun e w' => e = .returned (.float .f64 r) ∧ Below w.heap.size w w' := by
  obtain rfl := Option.some.inj h
  exact (rscore_calls a0 a1 w).mono fun _ _ ⟨a, b⟩ => ⟨a, b ▸ Below.refl _ _⟩
def iceboxlaw22_awake.f : Option Bool := some true
theorem iceboxlaw22_awake.calls (r : Bool) (w : World) (h : iceboxlaw22_awake.f = some r) : Calls Try.prog 14 #[] w fun e w' => e = .returned (.bool r) ∧ Below w.heap.size w w' := by
  obtain rfl := Option.some.inj h
  exact (awake0_calls w).mono fun _ _ ⟨a, b⟩ => ⟨a, b ▸ Below.refl _ _⟩
end Go.Proofs.Ytbmkjcgbnddgdaa.P
