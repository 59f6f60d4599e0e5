/- TrimBottom: of any entries made by numbers Trim at the bottom, without looks, leaves just what is there: the entries of the view. No condition beside the kinds of the numbers. -/
import Derived.Test.YtanlecnnfoapeaaPx10
import Derived.Test.YtanlecnnfoapeaaHlaw
namespace Go.Proofs.Ytanlecnnfoapeaa.Pure
open Go.RowKit Go.Proofs.Ytanlecnnfoapeaa.P Go.Proofs.YtanlecnnfoapeaaW.PrintWords Go.Proofs.YtanlecnnfoapeaaW.PrintLast
theorem bottom_loop (t : List S34) (ht : t.length ≤ 100) (hk : ∀ x ∈ t, kd x = 1) : Ev (fun k => iceboxlaw23_TrimBottom.l0 k t (t.map pairOf) 0) true := by
  have key : ∀ d n, t.length - n = d → Ev (fun k => iceboxlaw23_TrimBottom.l0 k t (t.map pairOf) (n : Int)) true := by
    intro d
    induction d with
    | zero =>
      intro n hd
      refine Ev.step (fun k => ?_) awake_bind
      simp only [iceboxlaw23_TrimBottom.l0]
      rw [if_neg (by omega)]
    | succ d ih =>
      intro n hd
      have hlt : n < t.length := by omega
      have hlm : n < (t.map pairOf).length := by simpa using hlt
      refine Ev.step (fun k => ?_) (ih (n + 1) (by omega))
      simp only [iceboxlaw23_TrimBottom.l0]
      rw [if_pos (by omega), if_pos (by omega), rd_at hlt, rd38_at hlm, if_pos (hk _ (List.getElem_mem _)), if_pos (by omega)]
      rw [List.getElem_map]
      rw [if_pos (show t[n].f0.f0.toList = (pairOf t[n]).f0.toList from rfl), if_pos (show t[n].f1.toList = (pairOf t[n]).f1.toList from rfl), wsucc n (by omega)]
  exact key t.length 0 rfl
theorem TrimBottom : iceboxlaw23_TrimBottom.Pure := by
  intro l0 a1 _ _ hb ha
  refine Ev.rounds ?_
  unfold iceboxlaw23_TrimBottom.f
  by_cases h : (l0.length : Int) > 100
  · simp only [if_pos h]
    exact awake_bind
  · simp only [if_neg h]
    rw [make_f l0 a1 (by omega) hb ha]
    simp only [Option.bind_some]
    have hlen := makeUpto_length a1 l0 l0.length
    have hbv := bottom_view 1099511627776 _ (makeUpto a1 l0 l0.length) rfl (fun x hx => ⟨make_kd a1 l0 _ x hx, by have := makeUpto_seq a1 l0 _ x hx; unfold sq; omega⟩)
    have ht := trim_ev (makeUpto a1 l0 l0.length) [] true (by omega)
    have hv := view_G (makeUpto a1 l0 l0.length) 1099511627776 (by omega)
    rw [hbv.1] at hv
    have hle := trimG_le [] true _ (makeUpto a1 l0 l0.length) rfl
    have hk := hbv.2
    generalize trimG [] true (makeUpto a1 l0 l0.length) = t at *
    have hloop := bottom_loop t (by omega) hk
    refine Ev.bind (f := fun k t275 => ((iceboxref10_View.f k (makeUpto a1 l0 l0.length) 1099511627776 (⟨#[]⟩ : ByteArray) (⟨#[]⟩ : ByteArray) false 1000).bind fun t278 => (if (t275.length : Int) = (t278.length : Int) then (iceboxlaw23_TrimBottom.l0 k t275 t278 0) else (some false)))) ht ?_
    refine Ev.bind (f := fun k t278 => (if (t.length : Int) = (t278.length : Int) then (iceboxlaw23_TrimBottom.l0 k t t278 0) else (some false))) hv ?_
    exact Ev.congr (fun k => by rw [if_pos (by simp)]) hloop
end Go.Proofs.Ytanlecnnfoapeaa.Pure
