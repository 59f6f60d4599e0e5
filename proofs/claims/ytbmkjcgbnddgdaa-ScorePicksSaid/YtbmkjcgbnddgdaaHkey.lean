/- The keys of numbers, and tables by numbers: every level is one of 0 to 4. -/
import Derived.Test.YtbmkjcgbnddgdaaPx1
import Derived.Test.YtbmkjcgbnddgdaaHapply
import Derived.Deep.RegionHeld3
namespace Go.Proofs.Ytbmkjcgbnddgdaa.P
open Go.RowKit Go.Proofs.YtbmkjcgbnddgdaaW.PrintWords Go.Proofs.YtbmkjcgbnddgdaaW.PrintLast Go.Proofs.YtbmkjcgbnddgdaaW.PrintMore
set_option linter.unusedVariables false
theorem key_some : ∀ n : Nat, n < 37 → (iceboxlaw17_key.f 20 (n : Int)).isSome = true := by decide +kernel
/-- It tells a string. -/
def IsS (e : Ending) : Prop := ∃ s, e = .returned (.string s)
theorem key_any (n : Int) (w : World) (h0 : 0 ≤ n) (h1 : n < 37) : Calls Try.prog 28 #[.int .i64 n] w fun e w' => IsS e ∧ Below w.heap.size w w' := by
  obtain ⟨r, hr⟩ := Option.isSome_iff_exists.mp (key_some n.toNat (by omega))
  rw [Int.toNat_of_nonneg h0] at hr
  exact (iceboxlaw17_key.calls 20 n r w hr).mono fun e w' ⟨h2, h3⟩ => ⟨⟨r, h2⟩, h3⟩
end Go.Proofs.Ytbmkjcgbnddgdaa.P
