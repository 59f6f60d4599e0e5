/- ScorePicks, the row: the level that is picked has a score of at least 1, none has a greater one, none above it as great; where none is picked all are below 1: whatever the input the law returns true, and each argument reads as it did. No condition. -/
import Derived.Test.YtbmkjcgbnddgdaaRows
import Derived.Test.YtbmkjcgbnddgdaaHspicks
import Derived.Test.YtbmkjcgbnddgdaaHopen
import Derived.WalkKit
import Derived.ProofKit
import Derived.OpenShut
import Derived.ShutString
import Derived.ChangeOld
import Derived.Below
import Derived.SizedLaws
namespace Go.Proofs.Ytbmkjcgbnddgdaa.scorePicks
open Go.ChangeShapes Go.WideShapes Go.ChangeAt Go.RowKit Go.Proofs.Ytbmkjcgbnddgdaa.P Go.Proofs.Ytbmkjcgbnddgdaa.Open Go.Proofs.YtbmkjcgbnddgdaaW.PrintWords
set_option linter.unusedVariables false
theorem own : ownKnob Try.prog.godebug = none := by kernel_rfl
theorem laidOut : laidOutB Try.prog = true := by kernel_rfl
theorem slice_kd {α : Type} {d : Kd α} {e : Nat} {W : World} {a : Option Addr} {len cap : Nat} {xs : List α} (h : (Kd.slice e d).K W xs [.slice a len cap]) : len = xs.length ∧ xs.length ≤ cap ∧ d.C W a xs.length xs := by
  obtain ⟨A, c, hc, hl, hr⟩ := h
  injection hc with hc _
  injection hc with h1 h2 h3
  subst h1; subst h2; subst h3
  exact ⟨rfl, hl, hr⟩
theorem u8_of {n : Int} (h : (Lit.int .u8 n).wf = true) : 0 ≤ n ∧ n ≤ 255 := by
  have e1 : IntKind.u8.min = 0 := by decide
  have e2 : IntKind.u8.max = 255 := by decide
  simp only [Lit.wf, e1, e2, Bool.and_eq_true, decide_eq_true_eq] at h
  exact h
set_option maxRecDepth 100000 in
theorem lifted (os : Os) (started : os.Started) (H : Type) (enc : TypeId × Value → H) :
    ReturnsInHanded {} Try.checked os 5 .any (Rows.scorePicksSpec.pre6 enc Try.prog Try.f5 Rows.scorePicksRow.domain false) (Rows.scorePicksSpec.post enc Try.prog Try.f5 false true false false) := by
  refine returnsInHanded_of_change_sized (C := Try.checked) own started (by kernel_rfl) Try.func5
    (ChangeSpec.witness6 (enc := enc) (C := Try.checked) false ⟨#[], #[.slice none 0 0, .slice none 0 0], []⟩ 8 (by kernel_rfl) (by kernel_rfl) (by kernel_rfl) (by kernel_rfl)) ?_
  intro W base args ds gs before hval0 hW hcnd hsz0 _
  have hval : ∀ (j : Nat) t v, Try.f5.params[j]? = some t → args[j]? = some v → Value.okWide Try.prog W .any base t v := hval0
  have hW' := hW
  obtain ⟨p, q, hA0, hV, rfl, hfz, hnd⟩ := hW
  have hA : DataW.TrodAll enc Try.prog W 0 (fun _ => true) true Try.f5.params.toList args.toList ds p := hA0
  rw [Try.params5] at hA hval
  obtain ⟨v0, vs0, d0, ds0, p0, q0, hargs, rfl, rfl, h0, r0⟩ := trodAll_cons hA
  obtain ⟨v1, vs1, d1, ds1, p1, q1, rfl, rfl, rfl, h1, r1⟩ := trodAll_cons r0
  obtain ⟨rfl, rfl, rfl⟩ := trodAll_nil r1
  obtain rfl : args = #[v0, v1] := by cases args; simp_all
  obtain ⟨rfl, rfl⟩ := trodVars_none hV
  obtain ⟨a0, len0, cap0, rfl⟩ := okWide_slice Try.underlying42 (hval 0 42 v0 rfl rfl)
  have k0 := h0
  have lt0 : ∀ x ∈ p0, x.block < W.heap.size := by obtain ⟨m, hm⟩ := k0; exact DataW.trod_lt m _ _ _ hm
  obtain ⟨z0, e0, c0, w0, y0⟩ : ∃ zs : List (Int), len0 = zs.length ∧ zs.length ≤ cap0 ∧ Kd.C (Kd.int .u8) W a0 zs.length zs ∧ ∀ x ∈ zs, (Lit.int .u8 x).wf = true := by
    obtain ⟨fuel, hf⟩ := h0
    obtain ⟨zs, hz, hok⟩ := (opens_slice Try.underlying42 (by kernel_rfl) (opens_int Try.underlying5)).out fuel _ _ hf
    obtain ⟨q1, q2, q3⟩ := slice_kd hz
    exact ⟨zs, q1, q2, q3, hok⟩
  subst e0
  obtain ⟨a1, len1, cap1, rfl⟩ := okWide_slice Try.underlying35 (hval 1 35 v1 rfl rfl)
  have k1 := h1
  have lt1 : ∀ x ∈ p1, x.block < W.heap.size := by obtain ⟨m, hm⟩ := k1; exact DataW.trod_lt m _ _ _ hm
  obtain ⟨z1, e1, c1, w1, y1⟩ : ∃ zs : List (Nat), len1 = zs.length ∧ zs.length ≤ cap1 ∧ Kd.C (kF64) W a1 zs.length zs ∧ ∀ x ∈ zs, x < 18446744073709551616 := by
    obtain ⟨fuel, hf⟩ := h1
    obtain ⟨zs, hz, hok⟩ := (opens_slice Try.underlying35 (by kernel_rfl) (opens_float Try.underlying23)).out fuel _ _ hf
    obtain ⟨q1, q2, q3⟩ := slice_kd hz
    exact ⟨zs, q1, q2, q3, hok⟩
  subst e1
  clear hA0 hval0 hsz0
  refine (P.scorePicks_any a0 cap0 z0 a1 cap1 z1 W w0 (fun x hx => u8_of (y0 x hx)) w1 c1 y1).mono fun e W' ⟨he, bel⟩ => ?_
  subst he
  exact ⟨_, rfl, _, _, _, [], _, [], hW', trodAll_mk1 (shut_bool Try.underlying4 _), (trodAll_cons_mk (Below.trod laidOut (by kernel_rfl) (of_decide_eq_true (by kernel_rfl)) k0 bel lt0) (trodAll_cons_mk (Below.trod laidOut (by kernel_rfl) (of_decide_eq_true (by kernel_rfl)) k1 bel lt1) trodAll_mk0)), rfl, bel.frame _, fun h => by cases h⟩
theorem over : Rows.scorePicksRow.holds Try.pinned (OpenSpec.ofChange Rows.scorePicksSpec) :=
  OpenClaim.holds_of_wide 5 Try.f5 rfl rfl rfl rfl rfl rfl rfl ⟨rfl, rfl, rfl, rfl, rfl⟩ rfl rfl rfl rfl rfl (by kernel_rfl) Try.func5 (by kernel_rfl)
    (of_decide_eq_true (by kernel_rfl)) (by unfold Func.isWrapper; first | (rw [if_pos (by decide +kernel)]; kernel_rfl) | (rw [if_neg (by decide +kernel)]; exact ⟨rfl, rfl⟩))
    (fun os started H enc _ => lifted os started H enc)
theorem proved : Rows.ScorePicksSaid := over
#print axioms proved
end Go.Proofs.Ytbmkjcgbnddgdaa.scorePicks
namespace Go.Proofs.Ytbmkjcgbnddgdaa
/-- The row, under a short name, for the claim. -/
theorem scorePicks_holds : Rows.ScorePicksSaid := scorePicks.proved
end Go.Proofs.Ytbmkjcgbnddgdaa
