/- ClientGives, the row: what fails four times is given up: whatever the input the law returns true, and each argument reads as it did. No condition. -/
import Derived.Test.YtbedfilammjlpaaRows
import Derived.Test.YtbedfilammjlpaaG40
import Derived.Test.YtbedfilammjlpaaHopen
import Derived.WalkKit
import Derived.ProofKit
import Derived.OpenShut
import Derived.ShutString
import Derived.ChangeOld
import Derived.Below
import Derived.SizedLaws
import Derived.ChangeMaps5
namespace Go.Proofs.Ytbedfilammjlpaa.clientGives
open Go.ChangeShapes Go.WideShapes Go.ChangeAt Go.RowKit Go.Proofs.Ytbedfilammjlpaa.P Go.Proofs.Ytbedfilammjlpaa.Open Go.Proofs.YtbedfilammjlpaaW.PrintWords
set_option linter.unusedVariables false
theorem own : ownKnob Try.prog.godebug = none := by kernel_rfl
theorem laidOut : laidOutB Try.prog = true := by kernel_rfl
theorem slice_kd {α : Type} {d : Kd α} {e : Nat} {W : World} {a : Option Addr} {len cap : Nat} {xs : List α} (h : (Kd.slice e d).K W xs [.slice a len cap]) : len = xs.length ∧ xs.length ≤ cap ∧ d.C W a xs.length xs := by
  obtain ⟨A, c, hc, hl, hr⟩ := h
  injection hc with hc _
  injection hc with h1 h2 h3
  subst h1; subst h2; subst h3
  exact ⟨rfl, hl, hr⟩
theorem u8_of {n : Int} (h : (Lit.int .u8 n).wf = true) : 0 ≤ n ∧ n ≤ 255 := by
  have e1 : IntKind.u8.min = 0 := by decide
  have e2 : IntKind.u8.max = 255 := by decide
  simp only [Lit.wf, e1, e2, Bool.and_eq_true, decide_eq_true_eq] at h
  exact h
set_option maxRecDepth 100000 in
theorem lifted (os : Os) (started : os.Started) (H : Type) (enc : TypeId × Value → H) :
    ReturnsInHanded {} Try.checked os 9 .any (Rows.clientGivesSpec.pre6 enc Try.prog Try.f9 Rows.clientGivesRow.domain false) (Rows.clientGivesSpec.post enc Try.prog Try.f9 false true false false) := by
  refine returnsInHanded_of_change_sized (C := Try.checked) own started (by kernel_rfl) Try.func9
    (ChangeSpec.witness6 (enc := enc) (C := Try.checked) false ⟨#[], #[.slice none 0 0, .bool false], []⟩ 8 (by kernel_rfl) (by kernel_rfl) (by kernel_rfl) (by kernel_rfl)) ?_
  intro W base args ds gs before hval0 hW hcnd hsz0 _
  have hval : ∀ (j : Nat) t v, Try.f9.params[j]? = some t → args[j]? = some v → Value.okWide Try.prog W .any base t v := hval0
  have hW' := hW
  obtain ⟨p, q, hA0, hV, rfl, hfz, hnd⟩ := hW
  have hA : DataW.TrodAll enc Try.prog W 0 (fun _ => true) true Try.f9.params.toList args.toList ds p := hA0
  rw [Try.params9] at hA hval
  obtain ⟨v0, vs0, d0, ds0, p0, q0, hargs, rfl, rfl, h0, r0⟩ := trodAll_cons hA
  obtain ⟨v1, vs1, d1, ds1, p1, q1, rfl, rfl, rfl, h1, r1⟩ := trodAll_cons r0
  obtain ⟨rfl, rfl, rfl⟩ := trodAll_nil r1
  obtain rfl : args = #[v0, v1] := by cases args; simp_all
  obtain ⟨rfl, rfl⟩ := trodVars_none hV
  obtain ⟨a0, len0, cap0, rfl⟩ := okWide_slice Try.underlying22 (hval 0 22 v0 rfl rfl)
  have k0 := h0
  have lt0 : ∀ x ∈ p0, x.block < W.heap.size := by obtain ⟨m, hm⟩ := k0; exact DataW.trod_lt m _ _ _ hm
  obtain ⟨z0, e0, c0, w0, y0⟩ : ∃ zs : List (Int), len0 = zs.length ∧ zs.length ≤ cap0 ∧ Kd.C (Kd.int .u8) W a0 zs.length zs ∧ ∀ x ∈ zs, (Lit.int .u8 x).wf = true := by
    obtain ⟨fuel, hf⟩ := h0
    obtain ⟨zs, hz, hok⟩ := (opens_slice Try.underlying22 (by kernel_rfl) (opens_int Try.underlying5)).out fuel _ _ hf
    obtain ⟨q1, q2, q3⟩ := slice_kd hz
    exact ⟨zs, q1, q2, q3, hok⟩
  subst e0
  obtain ⟨a1, rfl, rfl, rfl⟩ := open_bool Try.underlying4 (hval 1 4 v1 rfl rfl) h1
  clear hA0 hval0 hsz0
  refine (P.clientGives_all W a0 cap0 z0 a1 w0 (fun x hx => u8_of (y0 x hx))).mono fun e W' ⟨he, bel⟩ => ?_
  subst he
  exact ⟨_, rfl, _, _, _, [], _, [], hW', trodAll_mk1 (shut_bool Try.underlying4 _), (trodAll_cons_mk (Below.trod laidOut (by kernel_rfl) (of_decide_eq_true (by kernel_rfl)) k0 bel lt0) (trodAll_cons_mk (shut_bool Try.underlying4 _) trodAll_mk0)), rfl, bel.frame _, fun h => by cases h⟩
theorem over : Rows.clientGivesRow.holds Try.pinned (OpenSpec.ofChange Rows.clientGivesSpec) :=
  OpenClaim.holds_of_wide 9 Try.f9 rfl rfl rfl rfl rfl rfl rfl ⟨rfl, rfl, rfl, rfl, rfl⟩ rfl rfl rfl rfl rfl (by kernel_rfl) Try.func9 (by kernel_rfl)
    (of_decide_eq_true (by kernel_rfl)) (by unfold Func.isWrapper; first | (rw [if_pos (by decide +kernel)]; kernel_rfl) | (rw [if_neg (by decide +kernel)]; exact ⟨rfl, rfl⟩))
    (fun os started H enc _ => lifted os started H enc)
theorem proved : Rows.ClientGivesSaid := over
#print axioms proved
end Go.Proofs.Ytbedfilammjlpaa.clientGives
namespace Go.Proofs.Ytbedfilammjlpaa
/-- The row, under a short name, for the claim. -/
theorem clientGives_holds : Rows.ClientGivesSaid := clientGives.proved
end Go.Proofs.Ytbedfilammjlpaa
