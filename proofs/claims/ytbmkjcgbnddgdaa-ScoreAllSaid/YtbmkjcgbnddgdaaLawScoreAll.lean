/- ScoreAll, the row: whatever the input the law returns true, and each argument reads as it did. No condition. -/
import Derived.Test.YtbmkjcgbnddgdaaRows
import Derived.Test.YtbmkjcgbnddgdaaPureScoreAll
import Derived.Test.YtbmkjcgbnddgdaaHopen
import Derived.WalkKit
import Derived.ProofKit
import Derived.OpenShut
import Derived.ShutString
import Derived.ChangeOld
import Derived.Below
import Derived.SizedLaws
namespace Go.Proofs.Ytbmkjcgbnddgdaa.scoreAll
open Go.ChangeShapes Go.WideShapes Go.ChangeAt Go.RowKit Go.Proofs.Ytbmkjcgbnddgdaa.P Go.Proofs.Ytbmkjcgbnddgdaa.Open Go.Proofs.YtbmkjcgbnddgdaaW.PrintWords
set_option linter.unusedVariables false
theorem own : ownKnob Try.prog.godebug = none := by kernel_rfl
theorem laidOut : laidOutB Try.prog = true := by kernel_rfl
section
variable {H : Type} {enc : TypeId × Value → H} {w : World} {base : Nat} {spare : Nat → Bool} {held : Bool}
theorem opens38 : Opens enc Try.prog w base spare held 38 k38 (fun _ => True) := by
  have h := opens_struct (enc := enc) (P := Try.prog) (w := w) (base := base) (spare := spare) (held := held) Try.underlying38 (d := Kd.pair (Kd.int .i64) (Kd.pair (Kd.int .i64) (Kd.pair (Kd.int .i64) (Kd.pair Kd.string (Kd.pair Kd.string (Kd.pair (Kd.int .i64) (Kd.pair (Kd.int .i64) (Kd.pair Kd.bool Kd.bool)))))))) (by kernel_rfl)
    (opens_more rfl (by kernel_rfl) (opens_int Try.underlying3) (opens_more rfl (by kernel_rfl) (opens_int Try.underlying3) (opens_more rfl (by kernel_rfl) (opens_int Try.underlying3) (opens_more rfl (by kernel_rfl) (opens_string Try.underlying9) (opens_more rfl (by kernel_rfl) (opens_string Try.underlying9) (opens_more rfl (by kernel_rfl) (opens_int Try.underlying3) (opens_more rfl (by kernel_rfl) (opens_int Try.underlying3) (opens_more rfl (by kernel_rfl) (opens_bool Try.underlying4) (opens_last rfl (by kernel_rfl) (opens_bool Try.underlying4))))))))))
  have h2 := opens_iso (f := fun x : S38 => (x.f0, x.f1, x.f2, x.f3, x.f4, x.f5, x.f6, x.f7, x.f8)) (fun a => ⟨a.1, a.2.1, a.2.2.1, a.2.2.2.1, a.2.2.2.2.1, a.2.2.2.2.2.1, a.2.2.2.2.2.2.1, a.2.2.2.2.2.2.2.1, a.2.2.2.2.2.2.2.2⟩) (fun a => rfl) h
  exact ⟨fun fuel cs y hy => (h2.out fuel cs y hy).imp (fun x hx => ⟨hx.1, trivial⟩)⟩
theorem opens34 : Opens enc Try.prog w base spare held 34 (Kd.pair (Kd.int .i64) (Kd.pair (Kd.int .i64) (Kd.pair (Kd.int .i64) (Kd.pair (Kd.int .i64) (Kd.slice 38 k38))))) (fun _ => True) := by
  have h := opens_struct (enc := enc) (P := Try.prog) (w := w) (base := base) (spare := spare) (held := held) Try.underlying34 (d := Kd.pair (Kd.int .i64) (Kd.pair (Kd.int .i64) (Kd.pair (Kd.int .i64) (Kd.pair (Kd.int .i64) (Kd.slice 38 k38))))) (by kernel_rfl)
    (opens_more rfl (by kernel_rfl) (opens_int Try.underlying3) (opens_more rfl (by kernel_rfl) (opens_int Try.underlying3) (opens_more rfl (by kernel_rfl) (opens_int Try.underlying3) (opens_more rfl (by kernel_rfl) (opens_int Try.underlying3) (opens_last rfl (by kernel_rfl) (opens_slice Try.underlying32 (by kernel_rfl) opens38))))))
  exact ⟨fun fuel cs y hy => (h.out fuel cs y hy).imp (fun x hx => ⟨hx.1, trivial⟩)⟩
end
theorem slice_kd {α : Type} {d : Kd α} {e : Nat} {W : World} {a : Option Addr} {len cap : Nat} {xs : List α} (h : (Kd.slice e d).K W xs [.slice a len cap]) : len = xs.length ∧ xs.length ≤ cap ∧ d.C W a xs.length xs := by
  obtain ⟨A, c, hc, hl, hr⟩ := h
  injection hc with hc _
  injection hc with h1 h2 h3
  subst h1; subst h2; subst h3
  exact ⟨rfl, hl, hr⟩
set_option maxRecDepth 100000 in
theorem lifted (os : Os) (started : os.Started) (H : Type) (enc : TypeId × Value → H) :
    ReturnsInHanded {} Try.checked os 4 .any (Rows.scoreAllSpec.pre6 enc Try.prog Try.f4 Rows.scoreAllRow.domain false) (Rows.scoreAllSpec.post enc Try.prog Try.f4 false true false false) := by
  refine returnsInHanded_of_change_sized (C := Try.checked) own started (by kernel_rfl) Try.func4
    (ChangeSpec.witness6 (enc := enc) (C := Try.checked) false ⟨#[], #[.agg #[.int .i64 0, .int .i64 0, .int .i64 0, .int .i64 0, .slice none 0 0], .slice none 0 0, .int .i64 0, .float .f64 0], []⟩ 8 (by kernel_rfl) (by kernel_rfl) (by kernel_rfl) (by kernel_rfl)) ?_
  intro W base args ds gs before hval0 hW hcnd hsz0 _
  have hval : ∀ (j : Nat) t v, Try.f4.params[j]? = some t → args[j]? = some v → Value.okWide Try.prog W .any base t v := hval0
  have hW' := hW
  obtain ⟨p, q, hA0, hV, rfl, hfz, hnd⟩ := hW
  have hA : DataW.TrodAll enc Try.prog W 0 (fun _ => true) true Try.f4.params.toList args.toList ds p := hA0
  rw [Try.params4] at hA hval
  obtain ⟨v0, vs0, d0, ds0, p0, q0, hargs, rfl, rfl, h0, r0⟩ := trodAll_cons hA
  obtain ⟨v1, vs1, d1, ds1, p1, q1, rfl, rfl, rfl, h1, r1⟩ := trodAll_cons r0
  obtain ⟨v2, vs2, d2, ds2, p2, q2, rfl, rfl, rfl, h2, r2⟩ := trodAll_cons r1
  obtain ⟨v3, vs3, d3, ds3, p3, q3, rfl, rfl, rfl, h3, r3⟩ := trodAll_cons r2
  obtain ⟨rfl, rfl, rfl⟩ := trodAll_nil r3
  obtain rfl : args = #[v0, v1, v2, v3] := by cases args; simp_all
  obtain ⟨rfl, rfl⟩ := trodVars_none hV
  obtain ⟨cs0, rfl, _⟩ := okWide_struct Try.underlying34 (hval 0 34 v0 rfl rfl)
  have k0 := h0
  have lt0 : ∀ x ∈ p0, x.block < W.heap.size := by obtain ⟨m, hm⟩ := k0; exact DataW.trod_lt m _ _ _ hm
  obtain ⟨x0, x1, x2, x3, A0, c0, z0, ecs, e0, w0⟩ : ∃ (x0 x1 x2 x3 : Int) (A0 : Option Addr) (c0 : Nat) (zs : List S38), cs0 = #[.int .i64 x0, .int .i64 x1, .int .i64 x2, .int .i64 x3, .slice A0 zs.length c0] ∧ zs.length ≤ c0 ∧ Kd.C k38 W A0 zs.length zs := by
    obtain ⟨fuel, hf⟩ := h0
    obtain ⟨⟨x0, x1, x2, x3, zs⟩, hz, _⟩ := opens34.out fuel _ _ hf
    have hz' : (Kd.pair (Kd.int .i64) (Kd.pair (Kd.int .i64) (Kd.pair (Kd.int .i64) (Kd.pair (Kd.int .i64) (Kd.slice 38 k38))))).K W (x0, x1, x2, x3, zs) cs0.toList := hz
    generalize hcl : cs0.toList = l at hz'
    obtain ⟨_, _, rfl, rfl, _, _, rfl, rfl, _, _, rfl, rfl, _, _, rfl, rfl, A, c, rfl, hl, hr⟩ := hz'
    exact ⟨x0, x1, x2, x3, A, c, zs, Array.toList_inj.mp hcl, hl, hr⟩
  subst ecs
  obtain ⟨a1, len1, cap1, rfl⟩ := okWide_slice Try.underlying35 (hval 1 35 v1 rfl rfl)
  have k1 := h1
  have lt1 : ∀ x ∈ p1, x.block < W.heap.size := by obtain ⟨m, hm⟩ := k1; exact DataW.trod_lt m _ _ _ hm
  obtain ⟨z1, e1, c1, w1⟩ : ∃ zs : List Nat, len1 = zs.length ∧ zs.length ≤ cap1 ∧ Kd.C kF64 W a1 zs.length zs := by
    obtain ⟨fuel, hf⟩ := h1
    obtain ⟨zs, hz, _⟩ := (opens_slice Try.underlying35 (by kernel_rfl) (opens_float Try.underlying23)).out fuel _ _ hf
    exact ⟨zs, slice_kd hz⟩
  obtain ⟨a2, rfl, rfl, rfl, w2⟩ := open_int Try.underlying3 (hval 2 3 v2 rfl rfl) h2
  obtain ⟨a3, rfl, rfl, rfl, w3⟩ := open_float Try.underlying23 (hval 3 23 v3 rfl rfl) h3
  have b3 : a3 < 18446744073709551616 := by simpa [Lit.wf] using w3
  clear hA0 hval0 hsz0
  subst e1
  obtain ⟨k, hk⟩ := Pure.ScoreAll x0 x1 x2 x3 z0 z1 a2 a3 b3
  refine (P.iceboxlaw22_ScoreAll.calls k x0 x1 x2 x3 A0 c0 z0 a1 cap1 z1 a2 a3 true W w0 e0 w1 c1 hk).mono fun e W' ⟨he, bel⟩ => ?_
  subst he
  exact ⟨_, rfl, _, _, _, [], _, [], hW', trodAll_mk1 (shut_bool Try.underlying4 _), (trodAll_cons_mk (Below.trod laidOut (by kernel_rfl) (of_decide_eq_true (by kernel_rfl)) k0 bel lt0) (trodAll_cons_mk (Below.trod laidOut (by kernel_rfl) (of_decide_eq_true (by kernel_rfl)) k1 bel lt1) (trodAll_cons_mk (shut_int Try.underlying3 w2) (trodAll_cons_mk (shut_float Try.underlying23 w3) trodAll_mk0)))), rfl, bel.frame _, fun h => by cases h⟩
theorem over : Rows.scoreAllRow.holds Try.pinned (OpenSpec.ofChange Rows.scoreAllSpec) :=
  OpenClaim.holds_of_wide 4 Try.f4 rfl rfl rfl rfl rfl rfl rfl ⟨rfl, rfl, rfl, rfl, rfl⟩ rfl rfl rfl rfl rfl (by kernel_rfl) Try.func4 (by kernel_rfl)
    (of_decide_eq_true (by kernel_rfl)) (by unfold Func.isWrapper; first | (rw [if_pos (by decide +kernel)]; kernel_rfl) | (rw [if_neg (by decide +kernel)]; exact ⟨rfl, rfl⟩))
    (fun os started H enc _ => lifted os started H enc)
theorem proved : Rows.ScoreAllSaid := over
#print axioms proved
end Go.Proofs.Ytbmkjcgbnddgdaa.scoreAll
namespace Go.Proofs.Ytbmkjcgbnddgdaa
/-- The row, under a short name, for the claim. -/
theorem scoreAll_holds : Rows.ScoreAllSaid := scoreAll.proved
end Go.Proofs.Ytbmkjcgbnddgdaa
