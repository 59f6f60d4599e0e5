/- TrimAll, the row: what of any entries in order is seen by any looks, and the parts of any entries, are the document's: whatever the input the law returns true, and each argument reads as it did. No condition. -/
import Derived.Test.YtanlecnnfoapeaaRows
import Derived.Test.YtanlecnnfoapeaaPx11
import Derived.Test.YtanlecnnfoapeaaPureTrimAll
import Derived.Test.YtanlecnnfoapeaaHopen
import Derived.WalkKit
import Derived.ProofKit
import Derived.OpenShut
import Derived.ShutString
import Derived.ChangeOld
import Derived.Below
import Derived.SizedLaws
namespace Go.Proofs.Ytanlecnnfoapeaa.trimAll
open Go.ChangeShapes Go.WideShapes Go.ChangeAt Go.RowKit Go.Proofs.Ytanlecnnfoapeaa.P Go.Proofs.Ytanlecnnfoapeaa.Open Go.Proofs.YtanlecnnfoapeaaW.PrintWords
set_option linter.unusedVariables false
theorem own : ownKnob Try.prog.godebug = none := by kernel_rfl
theorem laidOut : laidOutB Try.prog = true := by kernel_rfl
section
variable {H : Type} {enc : TypeId × Value → H} {w : World} {base : Nat} {spare : Nat → Bool} {held : Bool}
theorem opens32 : Opens enc Try.prog w base spare held 32 k32 (fun _ => True) := by
  have h := opens_struct (enc := enc) (P := Try.prog) (w := w) (base := base) (spare := spare) (held := held) Try.underlying32 (d := Kd.pair Kd.string (Kd.pair (Kd.int .i64) (Kd.int .i64))) (by kernel_rfl)
    (opens_more rfl (by kernel_rfl) (opens_string Try.underlying9) (opens_more rfl (by kernel_rfl) (opens_int Try.underlying3) (opens_last rfl (by kernel_rfl) (opens_int Try.underlying3))))
  have h2 := opens_iso (f := fun x : S32 => (x.f0, x.f1, x.f2)) (fun a => ⟨a.1, a.2.1, a.2.2⟩) (fun a => rfl) h
  exact ⟨fun fuel cs y hy => (h2.out fuel cs y hy).imp (fun x hx => ⟨hx.1, trivial⟩)⟩
theorem opens34 : Opens enc Try.prog w base spare held 34 k34 (fun _ => True) := by
  have h := opens_struct (enc := enc) (P := Try.prog) (w := w) (base := base) (spare := spare) (held := held) Try.underlying34 (d := Kd.pair k32 Kd.string) (by kernel_rfl)
    (opens_more rfl (by kernel_rfl) opens32 (opens_last rfl (by kernel_rfl) (opens_string Try.underlying9)))
  have h2 := opens_iso (f := fun x : S34 => (x.f0, x.f1)) (fun a => ⟨a.1, a.2⟩) (fun a => rfl) h
  exact ⟨fun fuel cs y hy => (h2.out fuel cs y hy).imp (fun x hx => ⟨hx.1, trivial⟩)⟩
end
theorem slice_kd {α : Type} {d : Kd α} {e : Nat} {W : World} {a : Option Addr} {len cap : Nat} {xs : List α} (h : (Kd.slice e d).K W xs [.slice a len cap]) : len = xs.length ∧ xs.length ≤ cap ∧ d.C W a xs.length xs := by
  obtain ⟨A, c, hc, hl, hr⟩ := h
  injection hc with hc _
  injection hc with h1 h2 h3
  subst h1; subst h2; subst h3
  exact ⟨rfl, hl, hr⟩
set_option maxRecDepth 100000 in
theorem lifted (os : Os) (started : os.Started) (H : Type) (enc : TypeId × Value → H) :
    ReturnsInHanded {} Try.checked os 6 .any (Rows.trimAllSpec.pre6 enc Try.prog Try.f6 Rows.trimAllRow.domain false) (Rows.trimAllSpec.post enc Try.prog Try.f6 false true false false) := by
  refine returnsInHanded_of_change_sized (C := Try.checked) own started (by kernel_rfl) Try.func6
    (ChangeSpec.witness6 (enc := enc) (C := Try.checked) false ⟨#[], #[.slice none 0 0, .slice none 0 0, .bool false, .int .i64 0], []⟩ 8 (by kernel_rfl) (by kernel_rfl) (by kernel_rfl) (by kernel_rfl)) ?_
  intro W base args ds gs before hval0 hW hcnd hsz0 _
  have hval : ∀ (j : Nat) t v, Try.f6.params[j]? = some t → args[j]? = some v → Value.okWide Try.prog W .any base t v := hval0
  have hW' := hW
  obtain ⟨p, q, hA0, hV, rfl, hfz, hnd⟩ := hW
  have hA : DataW.TrodAll enc Try.prog W 0 (fun _ => true) true Try.f6.params.toList args.toList ds p := hA0
  rw [Try.params6] at hA hval
  obtain ⟨v0, vs0, d0, ds0, p0, q0, hargs, rfl, rfl, h0, r0⟩ := trodAll_cons hA
  obtain ⟨v1, vs1, d1, ds1, p1, q1, rfl, rfl, rfl, h1, r1⟩ := trodAll_cons r0
  obtain ⟨v2, vs2, d2, ds2, p2, q2, rfl, rfl, rfl, h2, r2⟩ := trodAll_cons r1
  obtain ⟨v3, vs3, d3, ds3, p3, q3, rfl, rfl, rfl, h3, r3⟩ := trodAll_cons r2
  obtain ⟨rfl, rfl, rfl⟩ := trodAll_nil r3
  obtain rfl : args = #[v0, v1, v2, v3] := by cases args; simp_all
  obtain ⟨rfl, rfl⟩ := trodVars_none hV
  obtain ⟨a0, len0, cap0, rfl⟩ := okWide_slice Try.underlying24 (hval 0 24 v0 rfl rfl)
  have k0 := h0
  have lt0 : ∀ x ∈ p0, x.block < W.heap.size := by obtain ⟨m, hm⟩ := k0; exact DataW.trod_lt m _ _ _ hm
  obtain ⟨z0, e0, c0, w0⟩ : ∃ zs : List S34, len0 = zs.length ∧ zs.length ≤ cap0 ∧ Kd.C k34 W a0 zs.length zs := by
    obtain ⟨fuel, hf⟩ := h0
    obtain ⟨zs, hz, _⟩ := (opens_slice Try.underlying24 (by kernel_rfl) opens34).out fuel _ _ hf
    exact ⟨zs, slice_kd hz⟩
  obtain ⟨a1, len1, cap1, rfl⟩ := okWide_slice Try.underlying26 (hval 1 26 v1 rfl rfl)
  have k1 := h1
  have lt1 : ∀ x ∈ p1, x.block < W.heap.size := by obtain ⟨m, hm⟩ := k1; exact DataW.trod_lt m _ _ _ hm
  obtain ⟨z1, e1, c1, w1⟩ : ∃ zs : List Int, len1 = zs.length ∧ zs.length ≤ cap1 ∧ Kd.C (Kd.int .i64) W a1 zs.length zs := by
    obtain ⟨fuel, hf⟩ := h1
    obtain ⟨zs, hz, _⟩ := (opens_slice Try.underlying26 (by kernel_rfl) (opens_int Try.underlying3)).out fuel _ _ hf
    exact ⟨zs, slice_kd hz⟩
  obtain ⟨a2, rfl, rfl, rfl⟩ := open_bool Try.underlying4 (hval 2 4 v2 rfl rfl) h2
  obtain ⟨a3, rfl, rfl, rfl, w3⟩ := open_int Try.underlying3 (hval 3 3 v3 rfl rfl) h3
  clear hA0 hval0 hsz0
  subst e0; subst e1
  obtain ⟨k, hk⟩ := Pure.TrimAll z0 z1 a2 a3
  refine (P.iceboxlaw23_TrimAll.calls k a0 cap0 z0 a1 cap1 z1 a2 a3 true W w0 c0 w1 c1 hk).mono fun e W' ⟨he, bel⟩ => ?_
  subst he
  exact ⟨_, rfl, _, _, _, [], _, [], hW', trodAll_mk1 (shut_bool Try.underlying4 _), (trodAll_cons_mk (Below.trod laidOut (by kernel_rfl) (of_decide_eq_true (by kernel_rfl)) k0 bel lt0) (trodAll_cons_mk (Below.trod laidOut (by kernel_rfl) (of_decide_eq_true (by kernel_rfl)) k1 bel lt1) (trodAll_cons_mk (shut_bool Try.underlying4 _) (trodAll_cons_mk (shut_int Try.underlying3 w3) trodAll_mk0)))), rfl, bel.frame _, fun h => by cases h⟩
theorem over : Rows.trimAllRow.holds Try.pinned (OpenSpec.ofChange Rows.trimAllSpec) :=
  OpenClaim.holds_of_wide 6 Try.f6 rfl rfl rfl rfl rfl rfl rfl ⟨rfl, rfl, rfl, rfl, rfl⟩ rfl rfl rfl rfl rfl (by kernel_rfl) Try.func6 (by kernel_rfl)
    (of_decide_eq_true (by kernel_rfl)) (by unfold Func.isWrapper; first | (rw [if_pos (by decide +kernel)]; kernel_rfl) | (rw [if_neg (by decide +kernel)]; exact ⟨rfl, rfl⟩))
    (fun os started H enc _ => lifted os started H enc)
theorem proved : Rows.TrimAllSaid := over
#print axioms proved
end Go.Proofs.Ytanlecnnfoapeaa.trimAll
namespace Go.Proofs.Ytanlecnnfoapeaa
/-- The row, under a short name, for the claim. -/
theorem trimAll_holds : Rows.TrimAllSaid := trimAll.proved
end Go.Proofs.Ytanlecnnfoapeaa
