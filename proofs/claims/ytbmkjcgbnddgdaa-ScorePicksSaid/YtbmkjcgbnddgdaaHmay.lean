/- Whether a table, a version, an edit may be: each tells yes or no (which, no matter), and nothing that was there has turned. -/
import Derived.Test.YtbmkjcgbnddgdaaPx0
import Derived.Test.YtbmkjcgbnddgdaaHscope
namespace Go.Proofs.Ytbmkjcgbnddgdaa.P
open Go.RowKit Go.Proofs.YtbmkjcgbnddgdaaW.PrintWords Go.Proofs.YtbmkjcgbnddgdaaW.PrintLast Go.Proofs.YtbmkjcgbnddgdaaW.PrintMore
set_option linter.unusedVariables false
attribute [local go_sem] str_geq str_leq str_gtr
theorem keep_cell {W w3 : World} (hb : Below W.heap.size W w3) {p : Addr} {v : Value} (h : W.cell? p = some v) : w3.cell? p = some v := (hb.cell (World.block_lt_of_cell? W _ h)).trans h
/-- It tells yes or no. -/
def IsB (e : Ending) : Prop := ∃ b, e = .returned (.bool b)
theorem isB (b : Bool) : IsB (.returned (.bool b)) := ⟨b, rfl⟩
set_option maxRecDepth 100000 in
theorem number_any (n : Int) (w : World) : Calls Try.prog 34 #[.int .i64 n] w fun e w' => IsB e ∧ w = w' := by
  by_cases h : n ≥ 0
  · go_enter Try.func34, Try.ntmps34
    go_wp2
    go_ret
    exact ⟨⟨_, rfl⟩, rfl⟩
  · go_enter Try.func34, Try.ntmps34
    go_wp2
    go_ret
    exact ⟨⟨_, rfl⟩, rfl⟩
set_option maxRecDepth 100000 in
set_option maxHeartbeats 4000000 in
theorem mayTable_any (a b c : Int) (s t : ByteArray) (d e : Int) (x y : Bool) (w : World) : Calls Try.prog 35 #[.agg #[.int .i64 a, .int .i64 b, .int .i64 c, .string s, .string t, .int .i64 d, .int .i64 e, .bool x, .bool y]] w fun e w' => IsB e ∧ Below w.heap.size w w' := by
  go_enter Try.func35, Try.ntmps35
  go_wp2_with (first | (go_at_call 34; refine (number_any _ _).mono ?_; rintro _ _ ⟨⟨q, rfl⟩, rfl⟩; cases q))
  all_goals (first | (exfalso; rename_i h1 h2; simp [undef] at h1; done) | (go_ret; exact ⟨⟨_, rfl⟩, (Below.refl _ w).alloc (Nat.le_refl _) _⟩))
end Go.Proofs.Ytbmkjcgbnddgdaa.P
