/- TrimTwice: of any entries made by numbers: what Trim leaves stays when it is trimmed again; with one more look no fewer are left; with the bottom no more; in order. No condition beside the kinds of the numbers. -/
import Derived.Test.YtanlecnnfoapeaaPx10
import Derived.Test.YtanlecnnfoapeaaHsees
namespace Go.Proofs.Ytanlecnnfoapeaa.Pure
open Go.RowKit Go.Proofs.Ytanlecnnfoapeaa.P Go.Proofs.YtanlecnnfoapeaaW.PrintWords Go.Proofs.YtanlecnnfoapeaaW.PrintLast
set_option linter.unusedVariables false
theorem tt_pick_all : ∀ (g : List S34) (k : List Bool), k.length = g.length → (∀ j, j < g.length → k.getD j false = true) → pick g k = g
  | [], k, _, _ => by cases k <;> rfl
  | e :: g, [], h, _ => by simp at h
  | e :: g, b :: k, h, ha => by
    have hb : b = true := by simpa using ha 0 (by simp)
    have ih := tt_pick_all g k (by simpa using h) (fun j hj => by have := ha (j + 1) (by simpa using hj); simpa using this)
    subst hb
    simp [pick, ih]
theorem tt_pick_first : ∀ (p : List S34) (k : List Bool) (s : Int) (i : Nat), firstLe p s = some i → k.getD i false = true → firstLe (pick p k) s = some ((k.take i).count true)
  | [], k, s, i, h, _ => by simp [firstLe] at h
  | e :: p, [], s, i, h, hk => by simp at hk
  | e :: p, b :: k, s, i, h, hk => by
    rw [firstLe_cons] at h
    by_cases hs : sq e ≤ s
    · rw [if_pos hs] at h
      obtain rfl : 0 = i := by injection h
      have : b = true := by simpa using hk
      subst this
      simp only [pick, if_true]
      rw [firstLe_cons, if_pos hs]
      rfl
    · rw [if_neg hs] at h
      obtain ⟨j, hj, rfl⟩ := Option.map_eq_some_iff.1 h
      have ih := tt_pick_first p k s j hj (by simpa using hk)
      cases b
      · simp only [pick, Bool.false_eq_true, if_false]
        rw [ih]
        simp
      · simp only [pick, if_true]
        rw [firstLe_cons, if_neg hs, ih]
        simp
theorem tt_pick_idx : ∀ (p : List S34) (k : List Bool) (j : Nat), j < (pick p k).length → ∃ i, k.getD i false = true ∧ (k.take i).count true = j
  | [], k, j, h => by cases k <;> simp [pick] at h
  | e :: p, [], j, h => by simp [pick] at h
  | e :: p, b :: k, j, h => by
    cases b
    · simp only [pick, Bool.false_eq_true, if_false] at h
      obtain ⟨i, h1, h2⟩ := tt_pick_idx p k j h
      exact ⟨i + 1, by simpa using h1, by simpa using h2⟩
    · simp only [pick, if_true, List.length_cons] at h
      cases j with
      | zero => exact ⟨0, rfl, rfl⟩
      | succ j =>
        obtain ⟨i, h1, h2⟩ := tt_pick_idx p k j (by omega)
        exact ⟨i + 1, by simpa using h1, by simpa using h2⟩
theorem tt_firstLe_take : ∀ (l : List S34) (s : Int) (m j : Nat), firstLe l s = some j → j < m → firstLe (l.take m) s = some j
  | [], s, m, j, h, _ => by simp [firstLe] at h
  | e :: l, s, 0, j, h, hj => by omega
  | e :: l, s, m + 1, j, h, hj => by
    rw [firstLe_cons] at h
    rw [List.take_succ_cons, firstLe_cons]
    by_cases hs : sq e ≤ s
    · rw [if_pos hs] at h ⊢; exact h
    · rw [if_neg hs] at h ⊢
      obtain ⟨i, hi, rfl⟩ := Option.map_eq_some_iff.1 h
      rw [tt_firstLe_take l s m i hi (by omega)]
      rfl
theorem tt_strip_take : ∀ (n : Nat) (l : List S34), l.length = n → strip l = l.take (strip l).length
  | 0, l, h => by rw [List.length_eq_zero_iff.1 h]; rfl
  | n + 1, l, h => by
    rcases snoc_cases l with rfl | ⟨p, x, rfl⟩
    · rfl
    · rw [strip_snoc]
      by_cases hk : kd x = 2
      · rw [if_pos hk]
        have ih := tt_strip_take n p (by simpa using h)
        have := strip_le p
        rw [List.take_append_of_le_length this]
        exact ih
      · rw [if_neg hk, List.take_of_length_le (Nat.le_refl _)]
theorem tt_strip_strip : ∀ (n : Nat) (l : List S34), l.length = n → strip (strip l) = strip l
  | 0, l, h => by rw [List.length_eq_zero_iff.1 h]; rfl
  | n + 1, l, h => by
    rcases snoc_cases l with rfl | ⟨p, x, rfl⟩
    · rfl
    · rw [strip_snoc]
      by_cases hk : kd x = 2
      · rw [if_pos hk]
        exact tt_strip_strip n p (by simpa using h)
      · rw [if_neg hk, strip_snoc, if_neg hk]
theorem tt_bot_take (b : Bool) (l : List S34) : bot b l = l.take (bot b l).length := by
  unfold bot
  split
  · exact tt_strip_take _ l rfl
  · rw [List.take_of_length_le (Nat.le_refl _)]
theorem tt_bot_bot (b : Bool) (l : List S34) : bot b (bot b l) = bot b l := by
  unfold bot
  split
  · exact tt_strip_strip _ l rfl
  · rfl
theorem tt_grp (snaps : List Int) (b : Bool) (p : List S34) : bot b (pick (bot b (pick p (marks p snaps))) (marks (bot b (pick p (marks p snaps))) snaps)) = bot b (pick p (marks p snaps)) := by
  have hA : ∀ j, j < (pick p (marks p snaps)).length → j = 0 ∨ ∃ s ∈ snaps, firstLe (pick p (marks p snaps)) s = some j := by
    intro j hj
    obtain ⟨i, h1, h2⟩ := tt_pick_idx p _ j hj
    rcases marks_why h1 with rfl | ⟨s, hs, hf⟩
    · exact .inl (by simpa using h2.symm)
    · exact .inr ⟨s, hs, by rw [tt_pick_first p _ s i hf h1, h2]⟩
  generalize hP : pick p (marks p snaps) = A at *
  have hg := tt_bot_take b A
  have hle := bot_le b A
  rw [tt_pick_all (bot b A) _ (marks_length _ _) ?_, tt_bot_bot]
  intro j hj
  rcases hA j (by omega) with rfl | ⟨s, hs, hf⟩
  · exact marks_head snaps hj
  · refine marks_look (s := s) ?_ hs
    rw [hg]
    exact tt_firstLe_take A s _ j hf hj
theorem tt_tw_app {u : List UInt8} {x : S34} {g q : List S34} (hx : ks x = u) (hg : ∀ y ∈ g, ks y = u) (hq : ∀ y, q.head? = some y → ks y ≠ u) : (g ++ q).takeWhile (sameU x) = g ∧ (g ++ q).dropWhile (sameU x) = q := by
  induction g with
  | nil =>
    cases q with
    | nil => exact ⟨rfl, rfl⟩
    | cons y q =>
      have hy := hq y rfl
      have hn : ¬ sameU x y = true := by simp [sameU, hx]; exact hy
      rw [List.nil_append, List.takeWhile_cons, if_neg hn, List.dropWhile_cons, if_neg hn]
      exact ⟨rfl, rfl⟩
  | cons a g ih =>
    have ha : sameU x a = true := by simp [sameU, hx, hg a List.mem_cons_self]
    have h := ih (fun y hy => hg y (List.mem_cons_of_mem _ hy))
    rw [List.cons_append, List.takeWhile_cons, if_pos ha, List.dropWhile_cons, if_pos ha, h.1, h.2]
    exact ⟨rfl, rfl⟩
theorem tt_twice (snaps : List Int) (b : Bool) : ∀ (n : Nat) (l : List S34), l.length = n → Srt l → trimG snaps b (trimG snaps b l) = trimG snaps b l := by
  intro n
  induction n using Nat.strongRecOn with
  | ind n ih =>
    intro l hn hl
    cases l with
    | nil => rw [trimG, trimG]
    | cons x l =>
      have hlt := dw_lt x l
      have hne := dw_ne hl
      have hq : Srt ((x :: l).dropWhile (sameU x)) := List.Pairwise.sublist (List.dropWhile_sublist _) hl
      have h1 := ih _ (by omega) _ rfl hq
      have hp : ∀ y ∈ (x :: l).takeWhile (sameU x), ks y = ks x := fun y hy => by simpa [sameU] using tw_mem hy
      rw [trimG_cons]
      have hgm : ∀ y ∈ bot b (pick ((x :: l).takeWhile (sameU x)) (marks ((x :: l).takeWhile (sameU x)) snaps)), ks y = ks x := fun y hy => hp y ((pick_sub _ _).subset ((bot_sub b _).subset hy))
      have hqm : ∀ y, (trimG snaps b ((x :: l).dropWhile (sameU x))).head? = some y → ks y ≠ ks x := fun y hy => hne y ((trimG_sub snaps b _ _ rfl).subset (List.mem_of_mem_head? hy))
      have hgrp := tt_grp snaps b ((x :: l).takeWhile (sameU x))
      generalize bot b (pick ((x :: l).takeWhile (sameU x)) (marks ((x :: l).takeWhile (sameU x)) snaps)) = g at *
      generalize trimG snaps b ((x :: l).dropWhile (sameU x)) = q at *
      cases g with
      | nil => rw [List.nil_append]; exact h1
      | cons a g =>
        have ha := hgm a List.mem_cons_self
        have htd := tt_tw_app ha hgm hqm
        rw [List.cons_append] at htd ⊢
        rw [trimG_cons, htd.1, htd.2, hgrp, h1]
        rfl
/-! ### with more looks no fewer -/
theorem tt_strip_cons (a : S34) : ∀ (n : Nat) (l : List S34), l.length = n → strip (a :: l) = if strip l = [] ∧ kd a = 2 then [] else a :: strip l
  | 0, l, h => by
    rw [List.length_eq_zero_iff.1 h, strip_one]
    by_cases hk : kd a = 2
    · rw [if_pos hk, if_pos ⟨rfl, hk⟩]
    · rw [if_neg hk, if_neg (fun h => hk h.2)]; rfl
  | n + 1, l, h => by
    rcases snoc_cases l with rfl | ⟨p, x, rfl⟩
    · simp at h
    · rw [← List.cons_append, strip_snoc, strip_snoc]
      by_cases hk : kd x = 2
      · rw [if_pos hk, if_pos hk]
        exact tt_strip_cons a n p (by simpa using h)
      · rw [if_neg hk, if_neg hk, if_neg (by simp)]
        rfl
theorem tt_mono : ∀ (p : List S34) (k k' : List Bool), k'.length = k.length → (∀ i, k.getD i false = true → k'.getD i false = true) → (pick p k).Sublist (pick p k') ∧ (strip (pick p k)).Sublist (strip (pick p k'))
  | [], k, k', _, _ => by
    cases k <;> cases k' <;> exact ⟨List.Sublist.refl _, List.Sublist.refl _⟩
  | e :: p, [], k', hl, _ => by
    have : k' = [] := List.length_eq_zero_iff.1 (by simpa using hl)
    subst this
    exact ⟨List.Sublist.refl _, List.Sublist.refl _⟩
  | e :: p, b :: k, [], hl, _ => by simp at hl
  | e :: p, b :: k, b' :: k', hl, h => by
    have ih := tt_mono p k k' (by simpa using hl) (fun i hi => by have := h (i + 1) (by simpa using hi); simpa using this)
    have hb : b = true → b' = true := fun hb => by have := h 0 (by simpa using hb); simpa using this
    have key : (strip (pick p k)).Sublist (strip (e :: pick p k')) := by
      rw [tt_strip_cons e _ _ rfl]
      split
      · rename_i hc
        rw [hc.1] at ih
        exact ih.2
      · exact ih.2.cons e
    cases b
    · cases b'
      · exact ih
      · simp only [pick, Bool.false_eq_true, if_false, if_true]
        exact ⟨ih.1.cons e, key⟩
    · have := hb rfl
      subst this
      simp only [pick, if_true]
      refine ⟨ih.1.cons_cons e, ?_⟩
      rw [tt_strip_cons e _ _ rfl]
      split
      · exact List.nil_sublist _
      · rename_i hc
        rw [tt_strip_cons e _ _ rfl]
        rw [if_neg ?_]
        · exact ih.2.cons_cons e
        · intro hc'
          rw [hc'.1] at ih
          exact hc ⟨List.sublist_nil.1 ih.2, hc'.2⟩
theorem tt_more (snaps : List Int) (m : Int) (b : Bool) : ∀ (n : Nat) (l : List S34), l.length = n → (trimG snaps b l).length ≤ (trimG (snaps ++ [m]) b l).length := by
  intro n
  induction n using Nat.strongRecOn with
  | ind n ih =>
    intro l hn
    cases l with
    | nil => rw [trimG, trimG]; exact Nat.le_refl _
    | cons x l =>
      have hlt := dw_lt x l
      have h1 := ih _ (by omega) ((x :: l).dropWhile (sameU x)) rfl
      rw [trimG_cons, trimG_cons, List.length_append, List.length_append, marks_snoc]
      have h2 := tt_mono ((x :: l).takeWhile (sameU x)) (marks ((x :: l).takeWhile (sameU x)) snaps) (markOne ((x :: l).takeWhile (sameU x)) (marks ((x :: l).takeWhile (sameU x)) snaps) m) (markOne_length _ _ _) (fun i hi => markOne_true hi)
      have h3 : (bot b (pick ((x :: l).takeWhile (sameU x)) (marks ((x :: l).takeWhile (sameU x)) snaps))).length ≤ (bot b (pick ((x :: l).takeWhile (sameU x)) (markOne ((x :: l).takeWhile (sameU x)) (marks ((x :: l).takeWhile (sameU x)) snaps) m))).length := by
        unfold bot
        split
        · exact h2.2.length_le
        · exact h2.1.length_le
      omega
theorem tt_bottom (snaps : List Int) : ∀ (n : Nat) (l : List S34), l.length = n → (trimG snaps true l).length ≤ (trimG snaps false l).length := by
  intro n
  induction n using Nat.strongRecOn with
  | ind n ih =>
    intro l hn
    cases l with
    | nil => rw [trimG, trimG]; exact Nat.le_refl _
    | cons x l =>
      have hlt := dw_lt x l
      have h1 := ih _ (by omega) ((x :: l).dropWhile (sameU x)) rfl
      rw [trimG_cons, trimG_cons, List.length_append, List.length_append]
      have h3 := strip_le (pick ((x :: l).takeWhile (sameU x)) (marks ((x :: l).takeWhile (sameU x)) snaps))
      have e1 : ∀ q, bot true q = strip q := fun q => by unfold bot; rw [if_pos rfl]
      have e2 : ∀ q, bot false q = q := fun q => by unfold bot; rw [if_neg (by simp)]
      rw [e1, e2]
      omega
theorem tt_wf_u8 {x : Int} (hx : (Lit.int .u8 x).wf = true) : 0 ≤ x ∧ x ≤ 255 := by
  have h1 : IntKind.u8.min = 0 := by decide
  have h2 : IntKind.u8.max = 255 := by decide
  simp only [Lit.wf, h1, h2, Bool.and_eq_true, decide_eq_true_eq] at hx
  exact hx
theorem tt_wrap {x : Int} (h : 0 ≤ x ∧ x ≤ 255) : wrap64 x = x := by unfold wrap64; omega
theorem tt_rd {l : List Int} {k : Nat} (h : k < l.length) : rd l (k : Int) = l[k] := by simp [rd, List.getD_eq_getElem?_getD, h]
theorem tt_end (l : List S34) (snaps : List Int) (m : Int) (b : Bool) (hl : l.length ≤ 1000) (hs : Srt l) (hk : snaps.length ≤ 100) (hm : 0 ≤ m ∧ m ≤ 255) :
    Ev (fun k => (trim_Trim.f k l snaps b).bind fun t295 => ((some (([] : List Int) : List Int)).bind fun y298 => (if y298.length + snaps.length < 17592186044416 then ((some (y298 ++ snaps : List Int)).bind fun y301 => (if y301.length < 17592186044416 then ((trim_Trim.f k l (y301 ++ [wrap64 (m)]) b).bind fun t307 => ((trim_Trim.f k t295 snaps b).bind fun t310 => ((iceboxref1_SameEntries.f k t310 t295).bind fun t313 => (if t313 = true then (if (t307.length : Int) ≥ (t295.length : Int) then ((trim_Trim.f k l snaps true).bind fun t314 => ((trim_Trim.f k l snaps false).bind fun t317 => (if (t314.length : Int) ≤ (t317.length : Int) then ((iceboxref10_Ordered.f k t307).bind fun t320 => (if t320 = true then ((iceboxlaw23_awake.f k).bind fun t321 => (some t321)) else (some false))) else (some false)))) else (some false)) else (some false))))) else (none))) else (none)))) true := by
  have hle : ∀ (sn : List Int) (bb : Bool), (trimG sn bb l).length ≤ l.length := fun sn bb => trimG_le sn bb _ l rfl
  have e1 := hle snaps b
  have e2 := hle (snaps ++ [m]) b
  refine Ev.bind (f := fun k t295 => ((some (([] : List Int) : List Int)).bind fun y298 => (if y298.length + snaps.length < 17592186044416 then ((some (y298 ++ snaps : List Int)).bind fun y301 => (if y301.length < 17592186044416 then ((trim_Trim.f k l (y301 ++ [wrap64 (m)]) b).bind fun t307 => ((trim_Trim.f k t295 snaps b).bind fun t310 => ((iceboxref1_SameEntries.f k t310 t295).bind fun t313 => (if t313 = true then (if (t307.length : Int) ≥ (t295.length : Int) then ((trim_Trim.f k l snaps true).bind fun t314 => ((trim_Trim.f k l snaps false).bind fun t317 => (if (t314.length : Int) ≤ (t317.length : Int) then ((iceboxref10_Ordered.f k t307).bind fun t320 => (if t320 = true then ((iceboxlaw23_awake.f k).bind fun t321 => (some t321)) else (some false))) else (some false)))) else (some false)) else (some false))))) else (none))) else (none)))) (trim_ev l snaps b (by omega)) ?_
  simp only [Option.bind_some, List.nil_append, List.length_nil]
  refine Ev.congr (g := fun k => _) (f := fun k => (trim_Trim.f k l (snaps ++ [m]) b).bind fun t307 => ((trim_Trim.f k (trimG snaps b l) snaps b).bind fun t310 => ((iceboxref1_SameEntries.f k t310 (trimG snaps b l)).bind fun t313 => (if t313 = true then (if (t307.length : Int) ≥ ((trimG snaps b l).length : Int) then ((trim_Trim.f k l snaps true).bind fun t314 => ((trim_Trim.f k l snaps false).bind fun t317 => (if (t314.length : Int) ≤ (t317.length : Int) then ((iceboxref10_Ordered.f k t307).bind fun t320 => (if t320 = true then ((iceboxlaw23_awake.f k).bind fun t321 => (some t321)) else (some false))) else (some false)))) else (some false)) else (some false))))) (fun k => ?_) ?_
  · rw [if_pos (by omega), if_pos (by omega), tt_wrap hm]
  refine Ev.bind (f := fun k t307 => ((trim_Trim.f k (trimG snaps b l) snaps b).bind fun t310 => ((iceboxref1_SameEntries.f k t310 (trimG snaps b l)).bind fun t313 => (if t313 = true then (if (t307.length : Int) ≥ ((trimG snaps b l).length : Int) then ((trim_Trim.f k l snaps true).bind fun t314 => ((trim_Trim.f k l snaps false).bind fun t317 => (if (t314.length : Int) ≤ (t317.length : Int) then ((iceboxref10_Ordered.f k t307).bind fun t320 => (if t320 = true then ((iceboxlaw23_awake.f k).bind fun t321 => (some t321)) else (some false))) else (some false)))) else (some false)) else (some false))))) (trim_ev l (snaps ++ [m]) b (by omega)) ?_
  have htw := trim_ev (trimG snaps b l) snaps b (by omega)
  rw [tt_twice snaps b _ l rfl hs] at htw
  refine Ev.bind (f := fun k t310 => ((iceboxref1_SameEntries.f k t310 (trimG snaps b l)).bind fun t313 => (if t313 = true then (if ((trimG (snaps ++ [m]) b l).length : Int) ≥ ((trimG snaps b l).length : Int) then ((trim_Trim.f k l snaps true).bind fun t314 => ((trim_Trim.f k l snaps false).bind fun t317 => (if (t314.length : Int) ≤ (t317.length : Int) then ((iceboxref10_Ordered.f k (trimG (snaps ++ [m]) b l)).bind fun t320 => (if t320 = true then ((iceboxlaw23_awake.f k).bind fun t321 => (some t321)) else (some false))) else (some false)))) else (some false)) else (some false)))) htw ?_
  refine Ev.bind (f := fun k t313 => (if t313 = true then (if ((trimG (snaps ++ [m]) b l).length : Int) ≥ ((trimG snaps b l).length : Int) then ((trim_Trim.f k l snaps true).bind fun t314 => ((trim_Trim.f k l snaps false).bind fun t317 => (if (t314.length : Int) ≤ (t317.length : Int) then ((iceboxref10_Ordered.f k (trimG (snaps ++ [m]) b l)).bind fun t320 => (if t320 = true then ((iceboxlaw23_awake.f k).bind fun t321 => (some t321)) else (some false))) else (some false)))) else (some false)) else (some false))) (same_self (trimG snaps b l) (by omega)) ?_
  have hmore := tt_more snaps m b _ l rfl
  have hbot := tt_bottom snaps _ l rfl
  refine Ev.congr (f := fun k => ((trim_Trim.f k l snaps true).bind fun t314 => ((trim_Trim.f k l snaps false).bind fun t317 => (if (t314.length : Int) ≤ (t317.length : Int) then ((iceboxref10_Ordered.f k (trimG (snaps ++ [m]) b l)).bind fun t320 => (if t320 = true then ((iceboxlaw23_awake.f k).bind fun t321 => (some t321)) else (some false))) else (some false))))) (fun k => by rw [if_pos rfl, if_pos (by omega)]) ?_
  refine Ev.bind (f := fun k t314 => ((trim_Trim.f k l snaps false).bind fun t317 => (if (t314.length : Int) ≤ (t317.length : Int) then ((iceboxref10_Ordered.f k (trimG (snaps ++ [m]) b l)).bind fun t320 => (if t320 = true then ((iceboxlaw23_awake.f k).bind fun t321 => (some t321)) else (some false))) else (some false)))) (trim_ev l snaps true (by omega)) ?_
  refine Ev.bind (f := fun k t317 => (if ((trimG snaps true l).length : Int) ≤ (t317.length : Int) then ((iceboxref10_Ordered.f k (trimG (snaps ++ [m]) b l)).bind fun t320 => (if t320 = true then ((iceboxlaw23_awake.f k).bind fun t321 => (some t321)) else (some false))) else (some false))) (trim_ev l snaps false (by omega)) ?_
  refine Ev.congr (f := fun k => ((iceboxref10_Ordered.f k (trimG (snaps ++ [m]) b l)).bind fun t320 => (if t320 = true then ((iceboxlaw23_awake.f k).bind fun t321 => (some t321)) else (some false)))) (fun k => by rw [if_pos (by omega)]) ?_
  refine Ev.bind (f := fun k t320 => (if t320 = true then ((iceboxlaw23_awake.f k).bind fun t321 => (some t321)) else (some false))) (ordered_srt (trimG_srt hs) (by omega)) ?_
  exact Ev.congr (fun k => by rw [if_pos rfl]) awake_bind
theorem tt_l0 (l : List S34) (snaps : List Int) (m : Int) (b : Bool) (hs8 : ∀ x ∈ snaps, 0 ≤ x ∧ x ≤ 255) (hl : l.length ≤ 1000) (hs : Srt l) (hk : snaps.length ≤ 100) (hm : 0 ≤ m ∧ m ≤ 255) :
    ∀ (d n : Nat), snaps.length - n = d → n ≤ snaps.length → Ev (fun k => iceboxlaw23_TrimTwice.l0 k snaps m b l (snaps.take n) (n : Int)) true := by
  intro d
  induction d with
  | zero =>
    intro n hd hn
    refine Ev.step (fun k => ?_) (tt_end l snaps m b hl hs hk hm)
    simp only [iceboxlaw23_TrimTwice.l0]
    rw [if_neg (by omega), List.take_of_length_le (by omega)]
  | succ d ih =>
    intro n hd hn
    have hlt : n < snaps.length := by omega
    have h1 := ih (n + 1) (by omega) (by omega)
    rw [List.take_succ_eq_append_getElem hlt] at h1
    refine Ev.step (fun k => ?_) h1
    simp only [iceboxlaw23_TrimTwice.l0]
    rw [if_pos (by omega), if_pos (by omega), if_pos (by simp; omega), tt_rd hlt, tt_wrap (hs8 _ (List.getElem_mem hlt)), wsucc n (by omega)]
theorem TrimTwice : iceboxlaw23_TrimTwice.Pure := by
  intro l0 a1 l2 a3 a4 _ _ hb ha _ _ hb2 hm
  refine Ev.rounds ?_
  unfold iceboxlaw23_TrimTwice.f
  have hj : ∀ x : Bool, (x = false → l0.length ≤ 100 ∧ l2.length ≤ 16) → Ev (fun k => iceboxlaw23_TrimTwice.j0 k l0 a1 l2 a3 a4 x) true := by
    intro x hx
    cases x with
    | true =>
      refine Ev.step (fun k => ?_) awake_bind
      simp only [iceboxlaw23_TrimTwice.j0]
      rw [if_pos trivial]
    | false =>
      obtain ⟨h1, h2⟩ := hx rfl
      have hlen := makeUpto_length a1 l0 l0.length
      have hsrt := make_sorted a1 l0 l0.length
      refine Ev.step (f := fun k => iceboxlaw23_TrimTwice.l0 k l2 a3 a4 (makeUpto a1 l0 l0.length) [] 0) (fun k => ?_) ?_
      · simp only [iceboxlaw23_TrimTwice.j0]
        rw [if_neg (by simp), make_f l0 a1 h1 hb ha]
        rfl
      · exact tt_l0 _ l2 a3 a4 (fun x hx => tt_wf_u8 (hb2 x hx)) (by omega) hsrt (by omega) (tt_wf_u8 hm) l2.length 0 rfl (by omega)
  by_cases h : (l0.length : Int) > 100
  · simp only [if_pos h]
    exact hj true (fun h => by cases h)
  · simp only [if_neg h]
    exact hj _ (fun h2 => ⟨by omega, by have := of_decide_eq_false h2; omega⟩)
end Go.Proofs.Ytanlecnnfoapeaa.Pure
