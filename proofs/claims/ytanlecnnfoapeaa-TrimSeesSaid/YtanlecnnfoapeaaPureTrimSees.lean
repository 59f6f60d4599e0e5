/- TrimSees: of any entries made by numbers: whoever looks with a snapshot, or at the end, sees of what Trim leaves what he sees of all; of each key no more is left than looks, and one; in order. No condition beside the kinds of the numbers. -/
import Derived.Test.YtanlecnnfoapeaaPx9
import Derived.Test.YtanlecnnfoapeaaHsees
namespace Go.Proofs.Ytanlecnnfoapeaa.Pure
open Go.RowKit Go.Proofs.Ytanlecnnfoapeaa.P Go.Proofs.YtanlecnnfoapeaaW.PrintWords Go.Proofs.YtanlecnnfoapeaaW.PrintLast
set_option linter.unusedVariables false
theorem pairs_self (l : List S38) (hl : l.length ≤ 1000000) : Ev (fun k => iceboxref1_Pairs.f k l l) true := by
  have key : ∀ d n, l.length - n = d → Ev (fun k => iceboxref1_Pairs.l0 k l l (n : Int)) true := by
    intro d
    induction d with
    | zero =>
      intro n hd
      refine Ev.step (f := fun _ => some true) (fun k => ?_) (Ev.now true)
      simp only [iceboxref1_Pairs.l0]
      rw [if_neg (by omega)]
    | succ d ih =>
      intro n hd
      refine Ev.step (fun k => ?_) (ih (n + 1) (by omega))
      simp only [iceboxref1_Pairs.l0]
      rw [if_pos (by omega), if_pos (by omega), if_pos (by omega), if_neg (by simp), wsucc n (by omega)]
  refine Ev.congr (fun k => ?_) (key l.length 0 rfl)
  unfold iceboxref1_Pairs.f
  rw [if_pos rfl]
  rfl
theorem viewG_le (s : Int) (l : List S34) : (viewG s l).length ≤ l.length := by
  rw [← viewS_G s _ l rfl]
  exact viewS_le s l none false
theorem wf_u8 {x : Int} (hx : (Lit.int .u8 x).wf = true) : 0 ≤ x ∧ x ≤ 255 := by
  have h1 : IntKind.u8.min = 0 := by decide
  have h2 : IntKind.u8.max = 255 := by decide
  simp only [Lit.wf, h1, h2, Bool.and_eq_true, decide_eq_true_eq] at hx
  exact hx
theorem wrap_small {x : Int} (h : 0 ≤ x ∧ x ≤ 255) : wrap64 x = x := by unfold wrap64; omega
theorem rdi_at {l : List Int} {k : Nat} (h : k < l.length) : rd l (k : Int) = l[k] := by simp [rd, List.getD_eq_getElem?_getD, h]
/-- The part behind the views: how many of each key are left; in order. -/
theorem sees_l2 (l t : List S34) (looks : List Int) (hc : ∀ u, t.countP (fun x => ks x == u) ≤ looks.length) (ht : t.length ≤ 1000) (ho : Srt t) (hle : t.length ≤ l.length) :
    ∀ (d n m : Nat), t.length - n = d → n ≤ t.length → (n = 0 → m = 0) → (∀ (h : n - 1 < t.length), 0 < n → m ≤ (t.take n).countP (fun x => ks x == ks t[n - 1])) → m ≤ 1000 → m ≤ n →
      Ev (fun k => iceboxlaw23_TrimSees.l2 k l t looks (m : Int) (n : Int)) true := by
  intro d
  induction d with
  | zero =>
    intro n m hd hn _ _ _ _
    refine Ev.step (f := fun k => (iceboxref10_Ordered.f k t).bind fun t267 => (if t267 = true then (if (t.length : Int) ≤ (l.length : Int) then ((iceboxlaw23_awake.f k).bind fun t268 => (some t268)) else (some false)) else (some false))) (fun k => ?_) (Ev.bind (f := fun k t267 => (if t267 = true then (if (t.length : Int) ≤ (l.length : Int) then ((iceboxlaw23_awake.f k).bind fun t268 => (some t268)) else (some false)) else (some false))) (ordered_srt ho (by omega)) ?_)
    · simp only [iceboxlaw23_TrimSees.l2]
      rw [if_neg (by omega)]
    · refine Ev.congr (fun k => ?_) awake_bind
      rw [if_pos rfl, if_pos (by omega)]
  | succ d ih =>
    intro n m hd hn hm0 hm hmb hmn
    have hlt : n < t.length := by omega
    have htake : t.take (n + 1) = t.take n ++ [t[n]] := List.take_succ_eq_append_getElem hlt
    have hcnt : ∀ q : Nat, q ≤ (t.take (n + 1)).countP (fun x => ks x == ks t[n]) → q ≤ looks.length := by
      intro q hq
      have h1 := hc (ks t[n])
      have h2 : (t.take (n + 1)).countP (fun x => ks x == ks t[n]) ≤ t.countP (fun x => ks x == ks t[n]) := List.Sublist.countP_le (List.take_sublist _ _)
      omega
    have hone : 1 ≤ (t.take (n + 1)).countP (fun x => ks x == ks t[n]) := by
      rw [htake, List.countP_append]
      simp
    -- a new user
    have hnew : Ev (fun k => iceboxlaw23_TrimSees.j4 k l t looks (m : Int) (n : Int) true) true := by
      have h1 := ih (n + 1) 1 (by omega) (by omega) (by omega) (fun h _ => by simpa using hone) (by omega) (by omega)
      refine Ev.step (fun k => ?_) h1
      simp only [iceboxlaw23_TrimSees.j4]
      have := hcnt 1 hone
      rw [if_pos trivial, if_neg (by omega), wsucc n (by omega)]
      rfl
    rcases Nat.eq_zero_or_pos n with h0 | h0
    · subst h0
      refine Ev.step (fun k => ?_) hnew
      simp only [iceboxlaw23_TrimSees.l2]
      rw [if_pos (by omega), if_pos (show ((0 : Nat) : Int) = 0 from rfl)]
    · have hl1 : n - 1 < t.length := by omega
      by_cases hu : ks t[n] = ks t[n - 1]
      · have hcm : m + 1 ≤ (t.take (n + 1)).countP (fun x => ks x == ks t[n]) := by
          have := hm hl1 h0
          rw [htake, List.countP_append, hu]
          simp [hu]
          simpa using this
        have h1 := ih (n + 1) (m + 1) (by omega) (by omega) (by omega) (fun h _ => by simpa using hcm) (by omega) (by omega)
        refine Ev.step (f := fun k => iceboxlaw23_TrimSees.j4 k l t looks (m : Int) (n : Int) false) (fun k => ?_) (Ev.step (fun k => ?_) h1)
        · simp only [iceboxlaw23_TrimSees.l2]
          rw [if_pos (by omega), if_neg (by omega), if_pos (by omega), wpred n h0 (by omega), if_pos (by omega), if_pos (by omega), rd_at hlt, rd_at hl1]
          rw [show (ks t[n] != ks t[n - 1]) = false from bne_eq_false_iff_eq.mpr hu]
        · simp only [iceboxlaw23_TrimSees.j4]
          have := hcnt (m + 1) hcm
          rw [if_neg (by simp), wsucc m (by omega), if_neg (by omega), wsucc n (by omega)]
      · refine Ev.step (fun k => ?_) hnew
        simp only [iceboxlaw23_TrimSees.l2]
        rw [if_pos (by omega), if_neg (by omega), if_pos (by omega), wpred n h0 (by omega), if_pos (by omega), if_pos (by omega), rd_at hlt, rd_at hl1]
        rw [show (ks t[n] != ks t[n - 1]) = true from bne_iff_ne.mpr hu]
theorem sees_l1 (l t : List S34) (looks : List Int) (hv : ∀ s ∈ looks, viewG s t = viewG s l) (hl : l.length ≤ 1000) (ht : t.length ≤ 1000) (hk : looks.length ≤ 1000) (hend : Ev (fun k => iceboxlaw23_TrimSees.l2 k l t looks 0 0) true) :
    ∀ (d n : Nat), looks.length - n = d → Ev (fun k => iceboxlaw23_TrimSees.l1 k l t looks (n : Int)) true := by
  intro d
  induction d with
  | zero =>
    intro n hd
    refine Ev.step (fun k => ?_) hend
    simp only [iceboxlaw23_TrimSees.l1]
    rw [if_neg (by omega)]
  | succ d ih =>
    intro n hd
    have hlt : n < looks.length := by omega
    have h1 := view_G t looks[n] ht
    rw [hv _ (List.getElem_mem hlt)] at h1
    have h2 := view_G l looks[n] hl
    have h3 := pairs_self (viewG looks[n] l) (by have := viewG_le looks[n] l; omega)
    refine Ev.step (f := fun k => (iceboxref10_View.f k t looks[n] (⟨#[]⟩ : ByteArray) (⟨#[]⟩ : ByteArray) false 1000).bind fun t259 => ((iceboxref10_View.f k l looks[n] (⟨#[]⟩ : ByteArray) (⟨#[]⟩ : ByteArray) false 1000).bind fun t263 => ((iceboxref1_Pairs.f k t259 t263).bind fun t266 => (if t266 = true then (iceboxlaw23_TrimSees.l1 k l t looks (wrap64 ((n : Int) + 1))) else (some false))))) (fun k => ?_) ?_
    · simp only [iceboxlaw23_TrimSees.l1]
      rw [if_pos (by omega), if_pos (by omega), rdi_at hlt]
    · refine Ev.bind (f := fun k t259 => ((iceboxref10_View.f k l looks[n] (⟨#[]⟩ : ByteArray) (⟨#[]⟩ : ByteArray) false 1000).bind fun t263 => ((iceboxref1_Pairs.f k t259 t263).bind fun t266 => (if t266 = true then (iceboxlaw23_TrimSees.l1 k l t looks (wrap64 ((n : Int) + 1))) else (some false))))) h1 ?_
      refine Ev.bind (f := fun k t263 => ((iceboxref1_Pairs.f k (viewG looks[n] l) t263).bind fun t266 => (if t266 = true then (iceboxlaw23_TrimSees.l1 k l t looks (wrap64 ((n : Int) + 1))) else (some false)))) h2 ?_
      refine Ev.bind (f := fun k t266 => (if t266 = true then (iceboxlaw23_TrimSees.l1 k l t looks (wrap64 ((n : Int) + 1))) else (some false))) h3 ?_
      refine Ev.congr (fun k => ?_) (ih (n + 1) (by omega))
      rw [if_pos rfl, wsucc n (by omega)]
theorem sees_l0 (l : List S34) (snaps : List Int) (b : Bool) (hs : ∀ x ∈ snaps, 0 ≤ x ∧ x ≤ 255) (hk : snaps.length ≤ 100) (hend : Ev (fun k => (trim_Trim.f k l snaps b).bind fun t249 => (iceboxlaw23_TrimSees.l1 k l t249 (1099511627776 :: snaps) 0)) true) :
    ∀ (d n : Nat), snaps.length - n = d → n ≤ snaps.length → Ev (fun k => iceboxlaw23_TrimSees.l0 k snaps b l (snaps.take n) (n : Int)) true := by
  intro d
  induction d with
  | zero =>
    intro n hd hn
    refine Ev.step (fun k => ?_) hend
    simp only [iceboxlaw23_TrimSees.l0]
    rw [if_neg (by omega), List.take_of_length_le (by omega)]
    simp only [Option.bind_some]
    congr 1
    funext t
    rw [if_pos (by simp; omega)]
    rfl
  | succ d ih =>
    intro n hd hn
    have hlt : n < snaps.length := by omega
    have h1 := ih (n + 1) (by omega) (by omega)
    rw [List.take_succ_eq_append_getElem hlt] at h1
    refine Ev.step (fun k => ?_) h1
    simp only [iceboxlaw23_TrimSees.l0]
    rw [if_pos (by omega), if_pos (by omega), if_pos (by simp; omega), rdi_at hlt, wrap_small (hs _ (List.getElem_mem hlt)), wsucc n (by omega)]
theorem TrimSees : iceboxlaw23_TrimSees.Pure := by
  intro l0 a1 l2 a3 _ _ hb ha _ _ hb2
  refine Ev.rounds ?_
  unfold iceboxlaw23_TrimSees.f
  have hj : ∀ x : Bool, (x = false → l0.length ≤ 100 ∧ l2.length ≤ 16) → Ev (fun k => iceboxlaw23_TrimSees.j0 k l0 a1 l2 a3 x) true := by
    intro x hx
    cases x with
    | true =>
      refine Ev.step (fun k => ?_) awake_bind
      simp only [iceboxlaw23_TrimSees.j0]
      rw [if_pos trivial]
    | false =>
      obtain ⟨h1, h2⟩ := hx rfl
      have hlen := makeUpto_length a1 l0 l0.length
      have hsrt := make_sorted a1 l0 l0.length
      have hseq := makeUpto_seq a1 l0 l0.length
      have hs8 : ∀ x ∈ l2, 0 ≤ x ∧ x ≤ 255 := fun x hx => wf_u8 (hb2 x hx)
      refine Ev.step (f := fun k => iceboxlaw23_TrimSees.l0 k l2 a3 (makeUpto a1 l0 l0.length) [] 0) (fun k => ?_) ?_
      · simp only [iceboxlaw23_TrimSees.j0]
        rw [if_neg (by simp), make_f l0 a1 h1 hb ha]
        rfl
      · generalize makeUpto a1 l0 l0.length = l at *
        have hle := trimG_le l2 a3 _ l rfl
        refine sees_l0 l l2 a3 hs8 (by omega) ?_ l2.length 0 rfl (by omega)
        refine Ev.bind (f := fun k t249 => (iceboxlaw23_TrimSees.l1 k l t249 (1099511627776 :: l2) 0)) (trim_ev l l2 a3 (by omega)) ?_
        refine sees_l1 l (trimG l2 a3 l) (1099511627776 :: l2) (fun s hs => ?_) (by omega) (by omega) (by simp; omega) ?_ _ 0 rfl
        · refine sees l2 a3 s _ l rfl hsrt ?_
          rcases List.mem_cons.1 hs with rfl | h
          · exact .inr (fun x hx => by have := hseq x hx; unfold sq; omega)
          · exact .inl h
        · exact sees_l2 l (trimG l2 a3 l) (1099511627776 :: l2) (fun u => by have := trimG_count l2 a3 u _ l rfl hsrt; simp; omega) (by omega) (trimG_srt hsrt) hle _ 0 0 rfl (by omega) (fun _ => rfl) (fun _ h => by omega) (by omega) (by omega)
  by_cases h : (l0.length : Int) > 100
  · simp only [if_pos h]
    exact hj true (fun h => by cases h)
  · simp only [if_neg h]
    exact hj _ (fun h2 => ⟨by omega, by have := of_decide_eq_false h2; omega⟩)
end Go.Proofs.Ytanlecnnfoapeaa.Pure
