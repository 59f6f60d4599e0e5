/- A script's act, read as the argument has it. -/
import Derived.Test.YtbedfilammjlpaaG43
import Derived.Test.YtbedfilammjlpaaG25
import Derived.Test.YtbedfilammjlpaaHopen
namespace Go.Proofs.Ytbedfilammjlpaa.P
open Go.RowKit Go.ChangeShapes Go.WideShapes Go.Proofs.YtbedfilammjlpaaW.PrintWords Go.Proofs.Ytbedfilammjlpaa.Open
set_option linter.unusedVariables false
section
variable {H : Type} {enc : TypeId × Value → H} {w : World} {base : Nat} {spare : Nat → Bool} {held : Bool}
theorem opensAct6 : Opens enc Try.prog w base spare held 65 kAct (fun a => a.name.size ≤ maxLen ∧ Bts a.data) := by
  have h := opens_struct (enc := enc) (P := Try.prog) (w := w) (base := base) (spare := spare) (held := held) Try.underlying65 (d := Kd.pair (Kd.int .i64) (Kd.pair Kd.string (Kd.pair (Kd.int .i64) (Kd.pair (Kd.int .i64) (Kd.pair (Kd.slice 5 (Kd.int .u8)) (Kd.slice 3 (Kd.int .i64))))))) (by kernel_rfl)
    (opens_more rfl (by kernel_rfl) (opens_int Try.underlying3) (opens_more rfl (by kernel_rfl) (opens_string Try.underlying9) (opens_more rfl (by kernel_rfl) (opens_int Try.underlying3) (opens_more rfl (by kernel_rfl) (opens_int Try.underlying3) (opens_more rfl (by kernel_rfl) (opens_slice Try.underlying22 (by kernel_rfl) (opens_int Try.underlying5)) (opens_last rfl (by kernel_rfl) (opens_slice Try.underlying29 (by kernel_rfl) (opens_int Try.underlying3))))))))
  have h2 := opens_iso (f := fun a : Act => (a.what, a.name, a.at_, a.n, a.data, a.next)) (fun t => ⟨t.1, t.2.1, t.2.2.1, t.2.2.2.1, t.2.2.2.2.1, t.2.2.2.2.2⟩) (fun t => rfl) h
  exact ⟨fun fuel cs y hy => (h2.out fuel cs y hy).imp (fun x hx => ⟨hx.1, hx.2.2.1, bts_of hx.2.2.2.2.2.1⟩)⟩
end
end Go.Proofs.Ytbedfilammjlpaa.P
