/- TrimAll: what of any entries in order is seen by any looks, and the parts of any entries, are the document's: the plain law. No condition. -/
import Derived.Test.YtanlecnnfoapeaaPx11
import Derived.Test.YtanlecnnfoapeaaHsame
namespace Go.Proofs.Ytanlecnnfoapeaa.Pure
open Go.RowKit Go.Proofs.Ytanlecnnfoapeaa.P Go.Proofs.YtanlecnnfoapeaaW.PrintWords Go.Proofs.YtanlecnnfoapeaaW.PrintLast
set_option linter.unusedVariables false
theorem ta_flat (most : Int) : ∀ (l : List S34) (out : List (List S34)) (part : List S34), (cutP most out part l).flatten = out.flatten ++ (part ++ l)
  | [], out, part => by
    unfold cutP
    split
    · simp
    · rename_i h
      have : part = [] := List.length_eq_zero_iff.1 (by omega)
      simp [this]
  | x :: l, out, part => by
    unfold cutP
    split
    · rw [ta_flat most l]; simp
    · rw [ta_flat most l]; simp
theorem ta_mem {α : Type} : ∀ (ls : List (List α)) (x : List α), x ∈ ls → x.length ≤ ls.flatten.length
  | [], x, h => by simp at h
  | a :: ls, x, h => by
    rw [List.flatten_cons, List.length_append]
    rcases List.mem_cons.1 h with rfl | h
    · omega
    · have := ta_mem ls x h
      omega
theorem ta_part (most : Int) (l : List S34) (x : List S34) (h : x ∈ cutP most [] [] l) : x.length ≤ l.length := by
  have := ta_mem _ x h
  rw [ta_flat] at this
  simpa using this
theorem ta_len (most : Int) : ∀ (l : List S34) (out : List (List S34)) (part : List S34), (cutP most out part l).length ≤ out.length + 1 + l.length
  | [], out, part => by
    unfold cutP
    split <;> simp
  | x :: l, out, part => by
    unfold cutP
    split
    · have := ta_len most l (out ++ [part]) [x]
      simp at this ⊢
      omega
    · have := ta_len most l out (part ++ [x])
      simp at this ⊢
      omega
theorem ta_rdL {l : List (List S34)} {k : Nat} (h : k < l.length) : rd_L6 l (k : Int) = l[k] := by simp [rd_L6, List.getD_eq_getElem?_getD, h]
theorem great_ev (l : List S34) : ∃ b, Ev (fun k => iceboxlaw12_Great.f k l) b ∧ (b = false → l.length ≤ 300) := by
  have key : ∀ d n : Nat, 400 - n = d → n ≤ 400 → ∃ b, Ev (fun k => iceboxlaw12_Great.l0 k l (n : Int)) b ∧ (b = false → l.length ≤ 300) := by
    have hend : ∀ n : Nat, Ev (fun k => iceboxlaw12_Great.j1 k l (n : Int) false) (decide ((l.length : Int) > 300)) := fun n =>
      Ev.step (f := fun _ => some (decide ((l.length : Int) > 300))) (fun k => by simp only [iceboxlaw12_Great.j1]; rw [if_neg (by simp)]) (Ev.now _)
    have hb : decide ((l.length : Int) > 300) = false → l.length ≤ 300 := fun h => by have := of_decide_eq_false h; omega
    intro d
    induction d with
    | zero =>
      intro n hd hn
      refine ⟨_, Ev.step (fun k => ?_) (hend n), hb⟩
      simp only [iceboxlaw12_Great.l0]
      split
      · rw [decide_eq_false (by omega)]
      · rfl
    | succ d ih =>
      intro n hd hn
      by_cases hlt : n < l.length
      · have hj : ∃ b, Ev (fun k => iceboxlaw12_Great.j1 k l (n : Int) true) b ∧ (b = false → l.length ≤ 300) := by
          by_cases h1 : ((rd_T34 l (n : Int)).f0.f0.size : Int) > 300
          · refine ⟨true, Ev.step (f := fun _ => some true) (fun k => ?_) (Ev.now _), fun h => by cases h⟩
            simp only [iceboxlaw12_Great.j1]
            rw [if_pos trivial, if_pos (by omega), if_pos (by omega), if_pos h1]
          · by_cases h2 : ((rd_T34 l (n : Int)).f1.size : Int) > 1000
            · refine ⟨true, Ev.step (f := fun _ => some true) (fun k => ?_) (Ev.now _), fun h => by cases h⟩
              simp only [iceboxlaw12_Great.j1]
              rw [if_pos trivial, if_pos (by omega), if_pos (by omega), if_neg h1, if_pos h2]
            · obtain ⟨b, hb1, hb2⟩ := ih (n + 1) (by omega) (by omega)
              refine ⟨b, Ev.step (fun k => ?_) hb1, hb2⟩
              simp only [iceboxlaw12_Great.j1]
              rw [if_pos trivial, if_pos (by omega), if_pos (by omega), if_neg h1, if_neg h2, wsucc n (by omega)]
        obtain ⟨b, hb1, hb2⟩ := hj
        refine ⟨b, Ev.step (fun k => ?_) hb1, hb2⟩
        simp only [iceboxlaw12_Great.l0]
        rw [if_pos (by omega), decide_eq_true (by omega)]
      · refine ⟨_, Ev.step (fun k => ?_) (hend n), hb⟩
        simp only [iceboxlaw12_Great.l0]
        rw [if_neg (by omega)]
  exact key 400 0 rfl (by omega)
theorem srt_of_steps {l : List S34} (h : ∀ n (h1 : n < l.length), 1 ≤ n → ltK (l[n - 1]'(by omega)) l[n]) : Srt l := by
  unfold Srt
  rw [List.pairwise_iff_getElem]
  intro i j hi hj hij
  induction j with
  | zero => omega
  | succ j ih =>
    have h1 := h (j + 1) hj (by omega)
    simp only [Nat.add_sub_cancel] at h1
    rcases Nat.lt_or_ge i j with h2 | h2
    · exact ltK_trans (ih (by omega) h2) h1
    · obtain rfl : i = j := by omega
      exact h1
theorem ordered_ev (l : List S34) (hl : l.length ≤ 1000) : ∃ b, Ev (fun k => iceboxref10_Ordered.f k l) b ∧ (b = true → Srt l) := by
  have key : ∀ d n, l.length - n = d → 1 ≤ n → (∀ m (h1 : m < l.length), 1 ≤ m → m < n → ltK (l[m - 1]'(by omega)) l[m]) → ∃ b, Ev (fun k => iceboxref10_Ordered.l0 k l (n : Int)) b ∧ (b = true → Srt l) := by
    intro d
    induction d with
    | zero =>
      intro n hd hn hp
      refine ⟨true, Ev.step (f := fun _ => some true) (fun k => ?_) (Ev.now true), fun _ => srt_of_steps (fun m h1 h2 => hp m h1 h2 (by omega))⟩
      simp only [iceboxref10_Ordered.l0]
      rw [if_neg (by omega)]
    | succ d ih =>
      intro n hd hn hp
      have hlt : n < l.length := by omega
      by_cases hc : ltK (l[n - 1]'(by omega)) l[n]
      · obtain ⟨b, h1, h2⟩ := ih (n + 1) (by omega) (by omega) (fun m h1 h2 h3 => by
          rcases Nat.lt_or_ge m n with h | h
          · exact hp m h1 h2 h
          · obtain rfl : m = n := by omega
            exact hc)
        refine ⟨b, Ev.step (fun k => ?_) h1, h2⟩
        simp only [iceboxref10_Ordered.l0]
        have hcv := (cmpV_lt _ _).2 hc
        rw [if_pos (by omega), wpred n (by omega) (by omega), if_pos (by omega), if_pos (by omega), if_pos (by omega), rd_at hlt, rd_at (show n - 1 < l.length by omega), cmpV_f]
        simp only [Option.bind_some]
        rw [if_neg (by omega), wsucc n (by omega)]
      · refine ⟨false, Ev.step (f := fun _ => some false) (fun k => ?_) (Ev.now _), fun h => by cases h⟩
        simp only [iceboxref10_Ordered.l0]
        have hcv : ¬ cmpV (l[n - 1]'(by omega)).f0 l[n].f0 < 0 := fun h => hc ((cmpV_lt _ _).1 h)
        rw [if_pos (by omega), wpred n (by omega) (by omega), if_pos (by omega), if_pos (by omega), if_pos (by omega), rd_at hlt, rd_at (show n - 1 < l.length by omega), cmpV_f]
        simp only [Option.bind_some]
        rw [if_pos (by omega)]
  exact key (l.length - 1) 1 rfl (by omega) (fun m _ h1 h2 => by omega)
theorem ta_l0 (l : List S34) (snaps : List Int) (b : Bool) (hl : l.length ≤ 1000) (hs : Srt l) (c : List (List S34)) (hc : c.length ≤ 2000) (hcm : ∀ x ∈ c, x.length ≤ 1000) :
    ∀ d n, c.length - n = d → Ev (fun k => iceboxlaw23_TrimAll.l0 k l snaps b c c (n : Int)) true := by
  intro d
  induction d with
  | zero =>
    intro n hd
    have hle := trimG_le snaps b _ l rfl
    refine Ev.step (f := fun k => (trim_Trim.f k l snaps b).bind fun t334 => ((iceboxref17_Trim.f l snaps b).bind fun t337 => ((iceboxref1_SameEntries.f k t334 t337).bind fun t340 => (if t340 = true then ((iceboxlaw23_awake.f k).bind fun t341 => (some t341)) else (some false))))) (fun k => ?_) ?_
    · simp only [iceboxlaw23_TrimAll.l0]
      rw [if_neg (by omega)]
    · refine Ev.bind (f := fun k t334 => ((iceboxref17_Trim.f l snaps b).bind fun t337 => ((iceboxref1_SameEntries.f k t334 t337).bind fun t340 => (if t340 = true then ((iceboxlaw23_awake.f k).bind fun t341 => (some t341)) else (some false))))) (trim_ev l snaps b (by omega)) ?_
      rw [ref_trim snaps b l hs (by omega)]
      simp only [Option.bind_some]
      refine Ev.bind (f := fun k t340 => (if t340 = true then ((iceboxlaw23_awake.f k).bind fun t341 => (some t341)) else (some false))) (same_self (trimG snaps b l) (by omega)) ?_
      exact Ev.congr (fun k => by rw [if_pos rfl]) awake_bind
  | succ d ih =>
    intro n hd
    have hlt : n < c.length := by omega
    refine Ev.step (f := fun k => (iceboxref1_SameEntries.f k c[n] c[n]).bind fun t333 => (if t333 = true then (iceboxlaw23_TrimAll.l0 k l snaps b c c (wrap64 ((n : Int) + 1))) else (some false))) (fun k => ?_) ?_
    · simp only [iceboxlaw23_TrimAll.l0]
      rw [if_pos (by omega), if_pos (by omega), if_pos (by omega), ta_rdL hlt]
    · have := hcm _ (List.getElem_mem hlt)
      refine Ev.bind (f := fun k t333 => (if t333 = true then (iceboxlaw23_TrimAll.l0 k l snaps b c c (wrap64 ((n : Int) + 1))) else (some false))) (same_self c[n] (by omega)) ?_
      refine Ev.congr (fun k => ?_) (ih (n + 1) (by omega))
      rw [if_pos rfl, wsucc n (by omega)]
theorem TrimAll (l : List S34) (snaps : List Int) (b : Bool) (most : Int) : ∃ k, iceboxlaw23_TrimAll.f k l snaps b most = some true := by
  refine Ev.rounds ?_
  unfold iceboxlaw23_TrimAll.f
  have hj : ∀ x : Bool, (x = false → l.length ≤ 100 ∧ Srt l) → Ev (fun k => iceboxlaw23_TrimAll.j0 k l snaps b most x) true := by
    intro x hx
    cases x with
    | true =>
      refine Ev.step (fun k => ?_) awake_bind
      simp only [iceboxlaw23_TrimAll.j0]
      rw [if_pos trivial]
    | false =>
      obtain ⟨hl, hs⟩ := hx rfl
      have h1 := cut_ev l most (by omega)
      have h2 := rcut_ev l most (by omega)
      have h3 := ta_len most l [] []
      have h4 := ta_part most l
      generalize cutP most [] [] l = c at *
      simp at h3
      refine Ev.step (f := fun k => (trim_Cut.f k l most).bind fun t325 => ((iceboxref17_Cut.f k l most).bind fun t328 => (if (t325.length : Int) = (t328.length : Int) then (iceboxlaw23_TrimAll.l0 k l snaps b t325 t328 0) else (some false)))) (fun k => ?_) ?_
      · simp only [iceboxlaw23_TrimAll.j0]
        rw [if_neg (by simp)]
      · refine Ev.bind (f := fun k t325 => ((iceboxref17_Cut.f k l most).bind fun t328 => (if (t325.length : Int) = (t328.length : Int) then (iceboxlaw23_TrimAll.l0 k l snaps b t325 t328 0) else (some false)))) h1 ?_
        refine Ev.bind (f := fun k t328 => (if (c.length : Int) = (t328.length : Int) then (iceboxlaw23_TrimAll.l0 k l snaps b c t328 0) else (some false))) h2 ?_
        exact Ev.congr (fun k => by rw [if_pos rfl]; rfl) (ta_l0 l snaps b (by omega) hs c (by omega) (fun x hx => by have := h4 x hx; omega) _ 0 rfl)
  obtain ⟨g, hg1, hg2⟩ := great_ev l
  refine Ev.bind (f := fun k t322 => (if t322 = true then (iceboxlaw23_TrimAll.j0 k l snaps b most true) else (if (l.length : Int) > 100 then (iceboxlaw23_TrimAll.j0 k l snaps b most true) else (if (snaps.length : Int) > 20 then (iceboxlaw23_TrimAll.j0 k l snaps b most true) else ((iceboxref10_Ordered.f k l).bind fun t323 => (iceboxlaw23_TrimAll.j0 k l snaps b most (!t323))))))) hg1 ?_
  have hT := hj true (fun h => by cases h)
  cases g with
  | true => exact Ev.congr (fun k => by rw [if_pos rfl]) hT
  | false =>
    by_cases h1 : (l.length : Int) > 100
    · exact Ev.congr (fun k => by rw [if_neg (by simp), if_pos h1]) hT
    · by_cases h2 : (snaps.length : Int) > 20
      · exact Ev.congr (fun k => by rw [if_neg (by simp), if_neg h1, if_pos h2]) hT
      · obtain ⟨o, ho1, ho2⟩ := ordered_ev l (by omega)
        refine Ev.congr (f := fun k => (iceboxref10_Ordered.f k l).bind fun t323 => (iceboxlaw23_TrimAll.j0 k l snaps b most (!t323))) (fun k => by rw [if_neg (by simp), if_neg h1, if_neg h2]) ?_
        refine Ev.bind (f := fun k t323 => iceboxlaw23_TrimAll.j0 k l snaps b most (!t323)) ho1 ?_
        exact hj (!o) (fun h => ⟨by omega, ho2 (by simpa using h)⟩)
end Go.Proofs.Ytanlecnnfoapeaa.Pure
