/- TrimParts: of any entries made by numbers, the parts are the whole, none is empty, no key is in two; each but the last has at least so many, and no more by one key's. No condition beside the kinds of the numbers. -/
import Derived.Test.YtanlecnnfoapeaaPx13
import Derived.Test.YtanlecnnfoapeaaHsame
namespace Go.Proofs.Ytanlecnnfoapeaa.Pure
open Go.RowKit Go.Proofs.Ytanlecnnfoapeaa.P Go.Proofs.YtanlecnnfoapeaaW.PrintWords Go.Proofs.YtanlecnnfoapeaaW.PrintLast Go.Proofs.YtanlecnnfoapeaaW.PrintMore
set_option linter.unusedVariables false
theorem tp_flat (most : Int) : ∀ (l : List S34) (out : List (List S34)) (part : List S34), (cutP most out part l).flatten = out.flatten ++ (part ++ l)
  | [], out, part => by
    unfold cutP
    split
    · simp
    · rename_i h
      have : part = [] := List.length_eq_zero_iff.1 (by omega)
      simp [this]
  | x :: l, out, part => by
    unfold cutP
    split
    · rw [tp_flat most l]; simp
    · rw [tp_flat most l]; simp
theorem tp_acc (most : Int) : ∀ (l : List S34) (out : List (List S34)) (part : List S34), cutP most out part l = out ++ cutP most [] part l
  | [], out, part => by
    unfold cutP
    split <;> simp
  | x :: l, out, part => by
    unfold cutP
    split
    · rw [tp_acc most l (out ++ [part]), tp_acc most l ([] ++ [part])]; simp
    · rw [tp_acc most l out]
abbrev la (h : List S34) : S34 := rd_T34 h ((h.length - 1 : Nat) : Int)
abbrev hd (h : List S34) : S34 := rd_T34 h 0
def near (most : Int) (h : List S34) : Prop := ∃ n, n < h.length ∧ (n : Int) < mx 1 most ∧ ks (rd_T34 h (n : Int)) = ks (la h)
def Good (most : Int) : List (List S34) → Prop
  | [] => True
  | [h] => near most h
  | h :: h2 :: c => near most h ∧ mx 1 most ≤ (h.length : Int) ∧ ks (la h) ≠ ks (hd h2) ∧ Good most (h2 :: c)
theorem la_snoc (p : List S34) (x : S34) : la (p ++ [x]) = x := by
  unfold la
  rw [List.length_append, List.length_singleton, Nat.add_sub_cancel, rd_at (by simp)]
  simp
theorem hd_snoc {p : List S34} (x : S34) (h : 0 < p.length) : hd (p ++ [x]) = hd p := by
  unfold hd
  rw [show (0 : Int) = ((0 : Nat) : Int) from rfl, rd_at (by simp), rd_at h, List.getElem_append_left h]
theorem tp_good (most : Int) : ∀ (l part : List S34), (0 < part.length → near most part) → Good most (cutP most [] part l) ∧ (0 < part.length → ∃ h c, cutP most [] part l = h :: c ∧ hd h = hd part)
  | [], part, hn => by
    unfold cutP
    split
    · rename_i h
      exact ⟨hn h, fun _ => ⟨part, [], rfl, rfl⟩⟩
    · rename_i h
      exact ⟨trivial, fun h2 => absurd h2 h⟩
  | x :: l, part, hn => by
    have hmx : ∀ n : Int, n ≥ mx 1 most ↔ 1 ≤ n ∧ n ≥ most := by intro n; unfold mx; split <;> omega
    by_cases hc : 0 < part.length ∧ (part.length : Int) ≥ most ∧ ¬ ks (rd_T34 part ((part.length - 1 : Nat) : Int)) = ks x
    · obtain ⟨h1, h2, h3⟩ := hc
      have hone : near most [x] := ⟨0, by simp, by have := (hmx 0); omega, rfl⟩
      have ih := tp_good most l [x] (fun _ => hone)
      obtain ⟨h, c, hh, hhd⟩ := ih.2 (by simp)
      rw [cutP, if_pos ⟨h1, h2, h3⟩, tp_acc most l, hh]
      rw [hh] at ih
      refine ⟨⟨hn h1, ?_, ?_, ih.1⟩, fun _ => ⟨part, _, rfl, rfl⟩⟩
      · have := (hmx part.length).2 ⟨by omega, h2⟩
        omega
      · rw [hhd]
        exact h3
    · have hnear : near most (part ++ [x]) := by
        by_cases h1 : 0 < part.length
        · by_cases h3 : ks (la part) = ks x
          · obtain ⟨n, e1, e2, e3⟩ := hn h1
            refine ⟨n, by simp; omega, e2, ?_⟩
            rw [la_snoc, rd_at (by simp; omega), List.getElem_append_left e1, ← rd_at e1, e3, h3]
          · have h2 : ¬ (part.length : Int) ≥ most := fun h2 => hc ⟨h1, h2, h3⟩
            refine ⟨part.length, by simp, ?_, ?_⟩
            · have := hmx part.length
              omega
            · rw [la_snoc, rd_at (by simp)]
              simp
        · have : part = [] := List.length_eq_zero_iff.1 (by omega)
          subst this
          exact ⟨0, by simp, by have := (hmx 0); omega, rfl⟩
      have ih := tp_good most l (part ++ [x]) (fun _ => hnear)
      rw [cutP, if_neg hc]
      refine ⟨ih.1, fun h1 => ?_⟩
      obtain ⟨h, c, hh, hhd⟩ := ih.2 (by simp)
      exact ⟨h, c, hh, by rw [hhd, hd_snoc x h1]⟩
theorem tp_rdL {l : List (List S34)} {k : Nat} (h : k < l.length) : rd_L6 l (k : Int) = l[k] := by simp [rd_L6, List.getD_eq_getElem?_getD, h]
theorem la_app {a h : List S34} (hp : 0 < h.length) : la (a ++ h) = la h := by
  unfold la
  rw [rd_at (by simp; omega), rd_at (by omega), List.getElem_append_right (by simp; omega)]
  congr 1
  simp
  omega
theorem tp_law (most : Int) (hm : 0 ≤ most ∧ most ≤ 255) (l : List S34) (c : List (List S34)) (hl : l.length ≤ 1000) (hc : c.length ≤ 2000) (hfl : c.flatten = l) :
    ∀ (rest : List (List S34)) (pre : List (List S34)), c = pre ++ rest → Good most rest → (∀ h r, rest = h :: r → 0 < pre.flatten.length → ks (la pre.flatten) ≠ ks (hd h)) →
      Ev (fun k => iceboxlaw23_TrimParts.l0 k most l c pre.flatten (pre.length : Int)) true := by
  have hw : wrap64 most = most := by unfold wrap64; omega
  intro rest
  induction rest with
  | nil =>
    intro pre hp _ _
    rw [List.append_nil] at hp
    subst hp
    rw [hfl]
    refine Ev.step (f := fun k => (iceboxref1_SameEntries.f k l l).bind fun t374 => (if t374 = true then ((iceboxlaw23_awake.f k).bind fun t375 => (some t375)) else (some false))) (fun k => ?_) ?_
    · simp only [iceboxlaw23_TrimParts.l0]
      rw [if_neg (by omega)]
    · refine Ev.bind (f := fun k t374 => (if t374 = true then ((iceboxlaw23_awake.f k).bind fun t375 => (some t375)) else (some false))) (same_self l (by omega)) ?_
      exact Ev.congr (fun k => by rw [if_pos rfl]) awake_bind
  | cons h rest ih =>
    intro pre hp hg hb
    have hlt : pre.length < c.length := by rw [hp]; simp
    have hat : rd_L6 c (pre.length : Int) = h := by
      rw [tp_rdL hlt]
      subst hp
      rw [List.getElem_append_right (Nat.le_refl _)]
      simp
    have hnear : near most h := by
      cases rest with
      | nil => exact hg
      | cons h2 r => exact hg.1
    obtain ⟨n0, n1, n2, n3⟩ := hnear
    have hpos : 0 < h.length := by omega
    have htot : pre.flatten.length + h.length ≤ l.length := by
      rw [← hfl, hp, List.flatten_append, List.flatten_cons, List.length_append, List.length_append]
      omega
    have hnext : Ev (fun k => iceboxlaw23_TrimParts.l0 k most l c (pre.flatten ++ h) ((pre.length + 1 : Nat) : Int)) true := by
      have h1 := ih (pre ++ [h]) (by rw [hp]; simp) (by
        cases rest with
        | nil => trivial
        | cons h2 r => exact hg.2.2.2) (fun h2 r he _ => by
        subst he
        rw [List.flatten_append]
        have : [h].flatten = h := by simp
        rw [this, la_app hpos]
        exact hg.2.2.1)
      have e : (pre ++ [h]).flatten = pre.flatten ++ h := by simp
      have e2 : (pre ++ [h]).length = pre.length + 1 := by simp
      rw [e, e2] at h1
      exact h1
    have hwl : wrap64 ((h.length : Int) - 1) = ((h.length - 1 : Nat) : Int) := wpred h.length hpos (by omega)
    -- the inner loop
    have hinner : ∀ d n, n0 - n = d → n ≤ n0 → Ev (fun k => iceboxlaw23_TrimParts.l1 k most l c pre.flatten (pre.length : Int) (n : Int)) true := by
      intro d
      induction d with
      | zero =>
        intro n hd hn
        obtain rfl : n = n0 := by omega
        refine Ev.step (fun k => ?_) hnext
        simp only [iceboxlaw23_TrimParts.l1]
        rw [if_pos (by omega), if_pos (by omega), hat, hwl, if_pos (by omega), if_pos (by omega), if_pos (by omega), if_pos (by omega), if_pos n3, hw, if_neg (by omega), if_pos (by omega), wsucc pre.length (by omega)]
      | succ d ihd =>
        intro n hd hn
        by_cases hq : ks (rd_T34 h (n : Int)) = ks (la h)
        · refine Ev.step (fun k => ?_) hnext
          simp only [iceboxlaw23_TrimParts.l1]
          rw [if_pos (by omega), if_pos (by omega), hat, hwl, if_pos (by omega), if_pos (by omega), if_pos (by omega), if_pos (by omega), if_pos hq, hw, if_neg (by omega), if_pos (by omega), wsucc pre.length (by omega)]
        · refine Ev.step (fun k => ?_) (ihd (n + 1) (by omega) (by omega))
          simp only [iceboxlaw23_TrimParts.l1]
          rw [if_pos (by omega), if_pos (by omega), hat, hwl, if_pos (by omega), if_pos (by omega), if_pos (by omega), if_pos (by omega), if_neg hq, wsucc n (by omega)]
    have hj2 : Ev (fun k => iceboxlaw23_TrimParts.j2 k most l c pre.flatten (pre.length : Int) false) true := by
      refine Ev.step (fun k => ?_) (hinner _ 0 rfl (by omega))
      simp only [iceboxlaw23_TrimParts.j2]
      rw [if_neg (by simp)]
      rfl
    have hj1 : Ev (fun k => iceboxlaw23_TrimParts.j1 k most l c pre.flatten (pre.length : Int) false) true := by
      refine Ev.step (fun k => ?_) hj2
      simp only [iceboxlaw23_TrimParts.j1]
      rw [if_neg (by simp)]
      by_cases ha : 0 < pre.flatten.length
      · have hd1 := hb h rest rfl ha
        have hwa : wrap64 ((pre.flatten.length : Int) - 1) = ((pre.flatten.length - 1 : Nat) : Int) := wpred _ ha (by omega)
        rw [if_pos (by omega), hwa, if_pos (by omega), if_pos (by omega), if_pos (by omega), if_pos (by omega), hat, if_pos (by omega)]
        congr 1
        exact beq_eq_false_iff_ne.mpr hd1
      · rw [if_neg (by omega)]
    have hwc : wrap64 ((c.length : Int) - 1) = ((c.length - 1 : Nat) : Int) := wpred c.length (by omega) (by omega)
    refine Ev.step (fun k => ?_) hj1
    simp only [iceboxlaw23_TrimParts.l0]
    rw [if_pos (by omega), if_pos (by omega), hat, if_neg (by omega), hwc, hw]
    cases rest with
    | nil =>
      rw [if_neg ?_]
      rw [hp]
      simp
    | cons h2 r =>
      have := hg.2.1
      have hlt2 : pre.length < c.length - 1 := by rw [hp]; simp
      rw [if_pos (by omega)]
      congr 1
      exact decide_eq_false (by omega)
theorem tp_wf_u8 {x : Int} (hx : (Lit.int .u8 x).wf = true) : 0 ≤ x ∧ x ≤ 255 := by
  have h1 : IntKind.u8.min = 0 := by decide
  have h2 : IntKind.u8.max = 255 := by decide
  simp only [Lit.wf, h1, h2, Bool.and_eq_true, decide_eq_true_eq] at hx
  exact hx
theorem tp_len (most : Int) : ∀ (l : List S34) (out : List (List S34)) (part : List S34), (cutP most out part l).length ≤ out.length + 1 + l.length
  | [], out, part => by
    unfold cutP
    split <;> simp
  | x :: l, out, part => by
    unfold cutP
    split
    · have := tp_len most l (out ++ [part]) [x]
      simp at this ⊢
      omega
    · have := tp_len most l out (part ++ [x])
      simp at this ⊢
      omega
theorem TrimParts : iceboxlaw23_TrimParts.Pure := by
  intro l0 a1 a2 _ _ hb ha hm
  refine Ev.rounds ?_
  unfold iceboxlaw23_TrimParts.f
  by_cases h : (l0.length : Int) > 100
  · simp only [if_pos h]
    exact awake_bind
  · simp only [if_neg h]
    rw [make_f l0 a1 (by omega) hb ha]
    simp only [Option.bind_some]
    have hlen := makeUpto_length a1 l0 l0.length
    generalize makeUpto a1 l0 l0.length = l at *
    have hmb := tp_wf_u8 hm
    have hw : wrap64 a2 = a2 := by unfold wrap64; omega
    rw [hw]
    have h1 := cut_ev l a2 (by omega)
    have h2 := tp_flat a2 l [] []
    have h3 := tp_len a2 l [] []
    have h4 := (tp_good a2 l [] (fun h => by simp at h)).1
    generalize cutP a2 [] [] l = c at *
    refine Ev.bind (f := fun k t371 => iceboxlaw23_TrimParts.l0 k a2 l t371 ([] : List S34) 0) h1 ?_
    exact tp_law a2 hmb l c (by omega) (by simp at h3; omega) (by simpa using h2) c [] rfl h4 (fun _ _ _ h => by simp at h)
end Go.Proofs.Ytanlecnnfoapeaa.Pure
