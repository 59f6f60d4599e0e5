/- Plain words of the trim family: who looks sees the same of what is left; what is left once stays; with more looks no fewer are left. No memory. -/
import Derived.Test.YtanlecnnfoapeaaHlaw
namespace Go.Proofs.Ytanlecnnfoapeaa.Pure
open Go.RowKit Go.Proofs.Ytanlecnnfoapeaa.P Go.Proofs.YtanlecnnfoapeaaW.PrintWords Go.Proofs.YtanlecnnfoapeaaW.PrintLast
set_option linter.unusedVariables false
/-! ### sublists -/
theorem pick_sub : ∀ (p : List S34) (k : List Bool), (pick p k).Sublist p
  | [], k => by cases k <;> exact List.Sublist.refl _
  | e :: p, [] => List.nil_sublist _
  | e :: p, b :: k => by
    cases b
    · exact (pick_sub p k).cons e
    · exact (pick_sub p k).cons_cons e
theorem strip_sub (l : List S34) : (strip l).Sublist l := by
  unfold strip
  have := (List.dropWhile_sublist (l := l.reverse) (fun x => kd x == 2)).reverse
  rwa [List.reverse_reverse] at this
theorem bot_sub (b : Bool) (l : List S34) : (bot b l).Sublist l := by
  unfold bot
  split
  · exact strip_sub l
  · exact List.Sublist.refl _
theorem trimG_sub (snaps : List Int) (b : Bool) : ∀ (n : Nat) (l : List S34), l.length = n → (trimG snaps b l).Sublist l := by
  intro n
  induction n using Nat.strongRecOn with
  | ind n ih =>
    intro l hn
    cases l with
    | nil => rw [trimG]; exact List.Sublist.refl _
    | cons x l =>
      rw [trimG_cons]
      have hlt := dw_lt x l
      have h1 := ih _ (by omega) ((x :: l).dropWhile (sameU x)) rfl
      have h2 := ((bot_sub b _).trans (pick_sub ((x :: l).takeWhile (sameU x)) (marks ((x :: l).takeWhile (sameU x)) snaps))).append h1
      rwa [tw_dw] at h2
theorem trimG_srt {snaps : List Int} {b : Bool} {l : List S34} (h : Srt l) : Srt (trimG snaps b l) := List.Pairwise.sublist (trimG_sub snaps b _ l rfl) h
theorem dw_ne {x : S34} {l : List S34} (h : Srt (x :: l)) : ∀ y ∈ (x :: l).dropWhile (sameU x), ks y ≠ ks x := by
  intro y hy
  have hs : ((x :: l).dropWhile (sameU x)).Sublist (x :: l) := List.dropWhile_sublist _
  have hq : Srt ((x :: l).dropWhile (sameU x)) := List.Pairwise.sublist hs h
  rw [List.dropWhile_cons, if_pos (sameU_self x)] at hy hq
  generalize hQ : l.dropWhile (sameU x) = q at *
  cases q with
  | nil => simp at hy
  | cons a q =>
    have ha : ks a ≠ ks x := by
      have := dw_head (p := sameU x) (l := l) (x := a) (by rw [hQ]; rfl)
      simpa [sameU] using this
    have hal : a ∈ l := mem_dw (p := sameU x) (by rw [hQ]; exact List.mem_cons_self)
    unfold Srt at h hq
    rw [List.pairwise_cons] at h hq
    have hxa := h.1 a hal
    have hless : Op.bytesLess (ks x) (ks a) = true := by
      rcases hxa with h1 | h1
      · exact h1.2
      · exact absurd h1.1.symm ha
    rcases List.mem_cons.1 hy with rfl | hy
    · exact ha
    · rcases hq.1 y hy with h1 | h1
      · intro e
        have := less_trans _ _ _ hless h1.2
        rw [e, less_irrefl] at this
        exact absurd this (by decide)
      · rw [← h1.1]
        exact ha
/-! ### marks -/
theorem markOne_true {l : List S34} {k : List Bool} {s : Int} {i : Nat} (h : k.getD i false = true) : (markOne l k s).getD i false = true := by
  unfold markOne
  split
  · rename_i j _
    rw [List.getD_eq_getElem?_getD, List.getElem?_set]
    split
    · split
      · rfl
      · rename_i h1 h2
        subst h1
        rw [List.getD_eq_getElem?_getD, List.getElem?_eq_none (by omega)] at h
        exact h
    · rw [← List.getD_eq_getElem?_getD]; exact h
  · exact h
theorem fold_true {l : List S34} {i : Nat} : ∀ (snaps : List Int) (k : List Bool), k.getD i false = true → (snaps.foldl (markOne l) k).getD i false = true
  | [], k, h => h
  | s :: r, k, h => fold_true r _ (markOne_true h)
theorem fold_len {l : List S34} : ∀ (snaps : List Int) (k : List Bool), (snaps.foldl (markOne l) k).length = k.length
  | [], k => rfl
  | s :: r, k => by rw [List.foldl_cons, fold_len r, markOne_length]
theorem fold_look {l : List S34} {i : Nat} {s : Int} (hf : firstLe l s = some i) : ∀ (snaps : List Int) (k : List Bool), k.length = l.length → s ∈ snaps → (snaps.foldl (markOne l) k).getD i false = true
  | [], k, _, h => by simp at h
  | t :: r, k, hk, h => by
    rw [List.foldl_cons]
    rcases List.mem_cons.1 h with rfl | h
    · refine fold_true r _ ?_
      have hi := firstLe_lt hf
      unfold markOne
      rw [hf]
      simp only
      rw [List.getD_eq_getElem?_getD, List.getElem?_set, if_pos rfl, if_pos (by omega)]
      rfl
    · exact fold_look hf r _ (by rw [markOne_length]; exact hk) h
theorem marks_head {l : List S34} (snaps : List Int) (h : 0 < l.length) : (marks l snaps).getD 0 false = true := by
  unfold marks
  refine fold_true snaps _ ?_
  rw [List.getD_eq_getElem?_getD, List.getElem?_set, if_pos rfl, if_pos (by simpa using h)]
  rfl
theorem marks_look {l : List S34} {snaps : List Int} {s : Int} {i : Nat} (hf : firstLe l s = some i) (h : s ∈ snaps) : (marks l snaps).getD i false = true := by
  unfold marks
  exact fold_look hf snaps _ (by simp) h
theorem fold_why {l : List S34} {i : Nat} : ∀ (snaps : List Int) (k : List Bool), (snaps.foldl (markOne l) k).getD i false = true → k.getD i false = true ∨ ∃ s ∈ snaps, firstLe l s = some i
  | [], k, h => .inl h
  | t :: r, k, h => by
    rw [List.foldl_cons] at h
    rcases fold_why r _ h with h | ⟨s, hs, hf⟩
    · unfold markOne at h
      split at h
      · rename_i j hj
        rw [List.getD_eq_getElem?_getD, List.getElem?_set] at h
        split at h
        · rename_i he
          subst he
          exact .inr ⟨t, List.mem_cons_self, hj⟩
        · rw [← List.getD_eq_getElem?_getD] at h
          exact .inl h
      · exact .inl h
    · exact .inr ⟨s, List.mem_cons_of_mem _ hs, hf⟩
theorem marks_why {l : List S34} {snaps : List Int} {i : Nat} (h : (marks l snaps).getD i false = true) : i = 0 ∨ ∃ s ∈ snaps, firstLe l s = some i := by
  unfold marks at h
  rcases fold_why snaps _ h with h | h
  · left
    rw [List.getD_eq_getElem?_getD, List.getElem?_set] at h
    split at h
    · rename_i he; exact he.symm
    · rw [List.getElem?_replicate] at h
      split at h <;> simp at h
  · exact .inr h
/-! ### what a look sees -/
theorem firstLe_cons (e : S34) (l : List S34) (s : Int) : firstLe (e :: l) s = if sq e ≤ s then some 0 else (firstLe l s).map (· + 1) := by
  unfold firstLe
  rw [List.findIdx?_cons]
  by_cases h : e.f0.f1 ≤ s
  · rw [if_pos h]; simp [h]
  · rw [if_neg h]; simp [h]
theorem find_firstLe : ∀ (l : List S34) (s : Int), l.find? (fun x => decide (sq x ≤ s)) = (firstLe l s).bind (fun i => l[i]?)
  | [], s => rfl
  | e :: l, s => by
    rw [firstLe_cons]
    by_cases h : sq e ≤ s
    · rw [List.find?_cons_of_pos (by simpa using h), if_pos h]; rfl
    · rw [List.find?_cons_of_neg (by simpa using h), if_neg h, find_firstLe l s]
      cases firstLe l s <;> rfl
theorem pick_find : ∀ (p : List S34) (k : List Bool) (s : Int) (i : Nat), firstLe p s = some i → k.getD i false = true → (pick p k).find? (fun x => decide (sq x ≤ s)) = p.find? (fun x => decide (sq x ≤ s))
  | [], k, s, i, h, _ => by simp [firstLe] at h
  | e :: p, [], s, i, h, hk => by simp at hk
  | e :: p, b :: k, s, i, h, hk => by
    rw [firstLe_cons] at h
    by_cases hs : sq e ≤ s
    · rw [if_pos hs] at h
      obtain rfl : 0 = i := by injection h
      have : b = true := by simpa using hk
      subst this
      simp only [pick, if_true]
      rw [List.find?_cons_of_pos (by simpa using hs), List.find?_cons_of_pos (by simpa using hs)]
    · rw [if_neg hs] at h
      obtain ⟨j, hj, rfl⟩ := Option.map_eq_some_iff.1 h
      have ih := pick_find p k s j hj (by simpa using hk)
      rw [List.find?_cons_of_neg (by simpa using hs), ← ih]
      cases b
      · rfl
      · simp only [pick, if_true]
        rw [List.find?_cons_of_neg (by simpa using hs)]
theorem pick_grp {p : List S34} {snaps : List Int} {s : Int} (hp : 0 < p.length) (h : s ∈ snaps ∨ ∀ x ∈ p, sq x ≤ s) : viewGrp s (pick p (marks p snaps)) = viewGrp s p := by
  unfold viewGrp
  rcases hf : firstLe p s with _ | i
  · have h1 : p.find? (fun x => decide (sq x ≤ s)) = none := by rw [find_firstLe, hf]; rfl
    have h2 : (pick p (marks p snaps)).find? (fun x => decide (sq x ≤ s)) = none := by
      rw [List.find?_eq_none] at h1 ⊢
      exact fun x hx => h1 x ((pick_sub _ _).subset hx)
    rw [h1, h2]
  · rw [pick_find p _ s i hf ?_]
    rcases h with h | h
    · exact marks_look hf h
    · have : i = 0 := by
        cases p with
        | nil => simp at hp
        | cons e p =>
          rw [firstLe_cons, if_pos (h e List.mem_cons_self)] at hf
          injection hf with hf
          exact hf.symm
      rw [this]
      exact marks_head snaps hp
theorem snoc_cases (l : List S34) : l = [] ∨ ∃ p x, l = p ++ [x] := by
  rcases List.eq_nil_or_concat l with h | ⟨p, x, h⟩
  · exact .inl h
  · exact .inr ⟨p, x, by simpa using h⟩
theorem strip_grp (s : Int) : ∀ (n : Nat) (l : List S34), l.length = n → viewGrp s (strip l) = viewGrp s l
  | 0, l, h => by rw [List.length_eq_zero_iff.1 h]; rfl
  | n + 1, l, h => by
    rcases snoc_cases l with rfl | ⟨p, x, rfl⟩
    · rfl
    · rw [strip_snoc]
      by_cases hk : kd x = 2
      · rw [if_pos hk, strip_grp s n p (by simpa using h)]
        unfold viewGrp
        rw [List.find?_append]
        cases hf : p.find? (fun x => decide (sq x ≤ s)) with
        | some e => rfl
        | none =>
          simp only [Option.none_or]
          by_cases hs : sq x ≤ s
          · rw [List.find?_cons_of_pos (by simpa using hs)]
            simp only
            rw [if_neg (by omega)]
          · rw [List.find?_cons_of_neg (by simpa using hs)]
            rfl
      · rw [if_neg hk]
theorem bot_grp (s : Int) (b : Bool) (l : List S34) : viewGrp s (bot b l) = viewGrp s l := by
  unfold bot
  split
  · exact strip_grp s _ l rfl
  · rfl
theorem viewG_app {seq : Int} {u : List UInt8} {g q : List S34} (hg : ∀ y ∈ g, ks y = u) (hq : ∀ y, q.head? = some y → ks y ≠ u) : viewG seq (g ++ q) = viewGrp seq g ++ viewG seq q := by
  cases g with
  | nil => rfl
  | cons x g =>
    have hx := hg x List.mem_cons_self
    rw [← viewS_G seq _ _ rfl, ← viewS_G seq _ q rfl, List.cons_append, viewS_first seq none false x _ (by simp), hx]
    obtain ⟨d, hd⟩ := viewS_grp seq u q (x :: g) hg
    rw [List.cons_append] at hd
    rw [hd, viewS_new seq u d q hq]
theorem sees (snaps : List Int) (b : Bool) (s : Int) : ∀ (n : Nat) (l : List S34), l.length = n → Srt l → (s ∈ snaps ∨ ∀ x ∈ l, sq x ≤ s) → viewG s (trimG snaps b l) = viewG s l := by
  intro n
  induction n using Nat.strongRecOn with
  | ind n ih =>
    intro l hn hl hs
    cases l with
    | nil => rw [trimG]
    | cons x l =>
      have hlt := dw_lt x l
      have hpos := tw_pos x l
      have hne := dw_ne hl
      have hq : Srt ((x :: l).dropWhile (sameU x)) := List.Pairwise.sublist (List.dropWhile_sublist _) hl
      have h1 := ih _ (by omega) _ rfl hq (hs.imp id (fun h y hy => h y (mem_dw hy)))
      have hp : ∀ y ∈ (x :: l).takeWhile (sameU x), ks y = ks x := fun y hy => by simpa [sameU] using tw_mem hy
      rw [trimG_cons, viewG_cons]
      rw [viewG_app (u := ks x) (fun y hy => hp y ((pick_sub _ _).subset ((bot_sub b _).subset hy))) (fun y hy => hne y ((trimG_sub snaps b _ _ rfl).subset (List.mem_of_mem_head? hy)))]
      rw [h1, bot_grp, pick_grp hpos (hs.imp id (fun h y hy => h y ((List.takeWhile_sublist _).subset hy)))]
/-! ### how many are left -/
theorem pick_count : ∀ (p : List S34) (k : List Bool), (pick p k).length ≤ k.count true
  | [], k => by cases k <;> simp [pick]
  | e :: p, [] => by simp [pick]
  | e :: p, b :: k => by
    have := pick_count p k
    cases b
    · simpa [pick] using this
    · simp [pick]; omega
theorem count_set : ∀ (k : List Bool) (i : Nat), (k.set i true).count true ≤ k.count true + 1
  | [], i => by simp
  | b :: k, 0 => by cases b <;> simp
  | b :: k, i + 1 => by
    have := count_set k i
    cases b <;> simp <;> omega
theorem fold_count {l : List S34} : ∀ (snaps : List Int) (k : List Bool), (snaps.foldl (markOne l) k).count true ≤ k.count true + snaps.length
  | [], k => Nat.le_refl _
  | s :: r, k => by
    have h1 := fold_count (l := l) r (markOne l k s)
    have h2 : (markOne l k s).count true ≤ k.count true + 1 := by
      unfold markOne
      split
      · exact count_set _ _
      · omega
    rw [List.foldl_cons, List.length_cons]
    omega
theorem marks_count (l : List S34) (snaps : List Int) : (marks l snaps).count true ≤ 1 + snaps.length := by
  unfold marks
  have h1 := fold_count (l := l) snaps ((List.replicate l.length false).set 0 true)
  have h2 := count_set (List.replicate l.length false) 0
  have h3 : (List.replicate l.length false).count true = 0 := by simp [List.count_replicate]
  omega
theorem trimG_count (snaps : List Int) (b : Bool) (u : List UInt8) : ∀ (n : Nat) (l : List S34), l.length = n → Srt l → (trimG snaps b l).countP (fun x => ks x == u) ≤ 1 + snaps.length := by
  intro n
  induction n using Nat.strongRecOn with
  | ind n ih =>
    intro l hn hl
    cases l with
    | nil => rw [trimG]; simp
    | cons x l =>
      have hlt := dw_lt x l
      have hne := dw_ne hl
      have hq : Srt ((x :: l).dropWhile (sameU x)) := List.Pairwise.sublist (List.dropWhile_sublist _) hl
      have hp : ∀ y ∈ (x :: l).takeWhile (sameU x), ks y = ks x := fun y hy => by simpa [sameU] using tw_mem hy
      rw [trimG_cons, List.countP_append]
      by_cases hu : ks x = u
      · have h0 : (trimG snaps b ((x :: l).dropWhile (sameU x))).countP (fun x => ks x == u) = 0 := by
          rw [List.countP_eq_zero]
          intro y hy
          have := hne y ((trimG_sub snaps b _ _ rfl).subset hy)
          rw [hu] at this
          simpa using this
        rw [h0]
        have h1 := List.countP_le_length (p := fun x => ks x == u) (l := bot b (pick ((x :: l).takeWhile (sameU x)) (marks ((x :: l).takeWhile (sameU x)) snaps)))
        have h2 := bot_le b (pick ((x :: l).takeWhile (sameU x)) (marks ((x :: l).takeWhile (sameU x)) snaps))
        have h3 := pick_count ((x :: l).takeWhile (sameU x)) (marks ((x :: l).takeWhile (sameU x)) snaps)
        have h4 := marks_count ((x :: l).takeWhile (sameU x)) snaps
        omega
      · have h0 : (bot b (pick ((x :: l).takeWhile (sameU x)) (marks ((x :: l).takeWhile (sameU x)) snaps))).countP (fun x => ks x == u) = 0 := by
          rw [List.countP_eq_zero]
          intro y hy
          rw [hp y ((pick_sub _ _).subset ((bot_sub b _).subset hy))]
          simpa using hu
        rw [h0]
        have := ih _ (by omega) _ rfl hq
        omega
end Go.Proofs.Ytanlecnnfoapeaa.Pure
