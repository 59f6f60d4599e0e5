/- TrimMade: of any entries made by numbers, what is seen by any looks, and the parts, are the document's. No condition beside the kinds of the numbers. -/
import Derived.Test.YtanlecnnfoapeaaPx12
import Derived.Test.YtanlecnnfoapeaaHsame
namespace Go.Proofs.Ytanlecnnfoapeaa.Pure
open Go.RowKit Go.Proofs.Ytanlecnnfoapeaa.P Go.Proofs.YtanlecnnfoapeaaW.PrintWords Go.Proofs.YtanlecnnfoapeaaW.PrintLast
set_option linter.unusedVariables false
theorem cutP_flat (most : Int) : ∀ (l : List S34) (out : List (List S34)) (part : List S34), (cutP most out part l).flatten = out.flatten ++ (part ++ l)
  | [], out, part => by
    unfold cutP
    split
    · simp
    · rename_i h
      have : part = [] := List.length_eq_zero_iff.1 (by omega)
      simp [this]
  | x :: l, out, part => by
    unfold cutP
    split
    · rw [cutP_flat most l]; simp
    · rw [cutP_flat most l]; simp
theorem mem_flat_le {α : Type} : ∀ (ls : List (List α)) (x : List α), x ∈ ls → x.length ≤ ls.flatten.length
  | [], x, h => by simp at h
  | a :: ls, x, h => by
    rw [List.flatten_cons, List.length_append]
    rcases List.mem_cons.1 h with rfl | h
    · omega
    · have := mem_flat_le ls x h
      omega
theorem cutP_part (most : Int) (l : List S34) (x : List S34) (h : x ∈ cutP most [] [] l) : x.length ≤ l.length := by
  have := mem_flat_le _ x h
  rw [cutP_flat] at this
  simpa using this
theorem cutP_len (most : Int) : ∀ (l : List S34) (out : List (List S34)) (part : List S34), (cutP most out part l).length ≤ out.length + 1 + l.length
  | [], out, part => by
    unfold cutP
    split <;> simp
  | x :: l, out, part => by
    unfold cutP
    split
    · have := cutP_len most l (out ++ [part]) [x]
      simp at this ⊢
      omega
    · have := cutP_len most l out (part ++ [x])
      simp at this ⊢
      omega
theorem rdL_at {l : List (List S34)} {k : Nat} (h : k < l.length) : rd_L6 l (k : Int) = l[k] := by simp [rd_L6, List.getD_eq_getElem?_getD, h]
theorem tm_wf_u8 {x : Int} (hx : (Lit.int .u8 x).wf = true) : 0 ≤ x ∧ x ≤ 255 := by
  have h1 : IntKind.u8.min = 0 := by decide
  have h2 : IntKind.u8.max = 255 := by decide
  simp only [Lit.wf, h1, h2, Bool.and_eq_true, decide_eq_true_eq] at hx
  exact hx
theorem tm_wrap {x : Int} (h : 0 ≤ x ∧ x ≤ 255) : wrap64 x = x := by unfold wrap64; omega
theorem tm_rd {l : List Int} {k : Nat} (h : k < l.length) : rd l (k : Int) = l[k] := by simp [rd, List.getD_eq_getElem?_getD, h]
theorem tm_end (l : List S34) (snaps : List Int) (b : Bool) (hl : l.length ≤ 1000) (hs : Srt l) :
    Ev (fun k => (trim_Trim.f k l snaps b).bind fun t359 => ((iceboxref17_Trim.f l snaps b).bind fun t362 => ((iceboxref1_SameEntries.f k t359 t362).bind fun t365 => (if t365 = true then ((iceboxlaw23_awake.f k).bind fun t366 => (some t366)) else (some false))))) true := by
  have hle := trimG_le snaps b _ l rfl
  refine Ev.bind (f := fun k t359 => ((iceboxref17_Trim.f l snaps b).bind fun t362 => ((iceboxref1_SameEntries.f k t359 t362).bind fun t365 => (if t365 = true then ((iceboxlaw23_awake.f k).bind fun t366 => (some t366)) else (some false))))) (trim_ev l snaps b (by omega)) ?_
  rw [ref_trim snaps b l hs (by omega)]
  simp only [Option.bind_some]
  refine Ev.bind (f := fun k t365 => (if t365 = true then ((iceboxlaw23_awake.f k).bind fun t366 => (some t366)) else (some false))) (same_self (trimG snaps b l) (by omega)) ?_
  exact Ev.congr (fun k => by rw [if_pos rfl]) awake_bind
theorem tm_l1 (l : List S34) (snaps : List Int) (b : Bool) (hl : l.length ≤ 1000) (hs : Srt l) (c : List (List S34)) (hc : c.length ≤ 2000) (hcm : ∀ x ∈ c, x.length ≤ 1000) :
    ∀ d n, c.length - n = d → Ev (fun k => iceboxlaw23_TrimMade.l1 k b l snaps c c (n : Int)) true := by
  intro d
  induction d with
  | zero =>
    intro n hd
    refine Ev.step (fun k => ?_) (tm_end l snaps b hl hs)
    simp only [iceboxlaw23_TrimMade.l1]
    rw [if_neg (by omega)]
  | succ d ih =>
    intro n hd
    have hlt : n < c.length := by omega
    refine Ev.step (f := fun k => (iceboxref1_SameEntries.f k c[n] c[n]).bind fun t358 => (if t358 = true then (iceboxlaw23_TrimMade.l1 k b l snaps c c (wrap64 ((n : Int) + 1))) else (some false))) (fun k => ?_) ?_
    · simp only [iceboxlaw23_TrimMade.l1]
      rw [if_pos (by omega), if_pos (by omega), if_pos (by omega), rdL_at hlt]
    · have := hcm _ (List.getElem_mem hlt)
      refine Ev.bind (f := fun k t358 => (if t358 = true then (iceboxlaw23_TrimMade.l1 k b l snaps c c (wrap64 ((n : Int) + 1))) else (some false))) (same_self c[n] (by omega)) ?_
      refine Ev.congr (fun k => ?_) (ih (n + 1) (by omega))
      rw [if_pos rfl, wsucc n (by omega)]
theorem tm_l0 (l : List S34) (snaps : List Int) (b : Bool) (most : Int) (hm : 0 ≤ most ∧ most ≤ 255) (hs8 : ∀ x ∈ snaps, 0 ≤ x ∧ x ≤ 255) (hl : l.length ≤ 1000) (hs : Srt l) (hk : snaps.length ≤ 100) :
    ∀ (d n : Nat), snaps.length - n = d → n ≤ snaps.length → Ev (fun k => iceboxlaw23_TrimMade.l0 k snaps b most l (snaps.take n) (n : Int)) true := by
  intro d
  induction d with
  | zero =>
    intro n hd hn
    have h1 := cut_ev l most (by omega)
    have h2 := rcut_ev l most (by omega)
    have h3 := cutP_len most l [] []
    have h4 := cutP_part most l
    generalize cutP most [] [] l = c at *
    simp at h3
    refine Ev.step (f := fun k => (trim_Cut.f k l most).bind fun t350 => ((iceboxref17_Cut.f k l most).bind fun t353 => (if (t350.length : Int) = (t353.length : Int) then (iceboxlaw23_TrimMade.l1 k b l snaps t350 t353 0) else (some false)))) (fun k => ?_) ?_
    · simp only [iceboxlaw23_TrimMade.l0]
      rw [if_neg (by omega), List.take_of_length_le (by omega), tm_wrap hm]
    · refine Ev.bind (f := fun k t350 => ((iceboxref17_Cut.f k l most).bind fun t353 => (if (t350.length : Int) = (t353.length : Int) then (iceboxlaw23_TrimMade.l1 k b l snaps t350 t353 0) else (some false)))) h1 ?_
      refine Ev.bind (f := fun k t353 => (if (c.length : Int) = (t353.length : Int) then (iceboxlaw23_TrimMade.l1 k b l snaps c t353 0) else (some false))) h2 ?_
      exact Ev.congr (fun k => by rw [if_pos rfl]; rfl) (tm_l1 l snaps b hl hs c (by omega) (fun x hx => by have := h4 x hx; omega) _ 0 rfl)
  | succ d ih =>
    intro n hd hn
    have hlt : n < snaps.length := by omega
    have h1 := ih (n + 1) (by omega) (by omega)
    rw [List.take_succ_eq_append_getElem hlt] at h1
    refine Ev.step (fun k => ?_) h1
    simp only [iceboxlaw23_TrimMade.l0]
    rw [if_pos (by omega), if_pos (by omega), if_pos (by simp; omega), tm_rd hlt, tm_wrap (hs8 _ (List.getElem_mem hlt)), wsucc n (by omega)]
theorem TrimMade : iceboxlaw23_TrimMade.Pure := by
  intro l0 a1 l2 a3 a4 _ _ hb ha _ _ hb2 hm
  refine Ev.rounds ?_
  unfold iceboxlaw23_TrimMade.f
  have hj : ∀ x : Bool, (x = false → l0.length ≤ 100 ∧ l2.length ≤ 20) → Ev (fun k => iceboxlaw23_TrimMade.j0 k l0 a1 l2 a3 a4 x) true := by
    intro x hx
    cases x with
    | true =>
      refine Ev.step (fun k => ?_) awake_bind
      simp only [iceboxlaw23_TrimMade.j0]
      rw [if_pos trivial]
    | false =>
      obtain ⟨h1, h2⟩ := hx rfl
      have hlen := makeUpto_length a1 l0 l0.length
      have hsrt := make_sorted a1 l0 l0.length
      refine Ev.step (f := fun k => iceboxlaw23_TrimMade.l0 k l2 a3 a4 (makeUpto a1 l0 l0.length) [] 0) (fun k => ?_) ?_
      · simp only [iceboxlaw23_TrimMade.j0]
        rw [if_neg (by simp), make_f l0 a1 h1 hb ha]
        rfl
      · exact tm_l0 _ l2 a3 a4 (tm_wf_u8 hm) (fun x hx => tm_wf_u8 (hb2 x hx)) (by omega) hsrt (by omega) l2.length 0 rfl (by omega)
  by_cases h : (l0.length : Int) > 100
  · simp only [if_pos h]
    exact hj true (fun h => by cases h)
  · simp only [if_neg h]
    exact hj _ (fun h2 => ⟨by omega, by have := of_decide_eq_false h2; omega⟩)
end Go.Proofs.Ytanlecnnfoapeaa.Pure
