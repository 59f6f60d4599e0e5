/- Plain words of the trim family: what the laws share: entries that are made, the bottom's view, the documents' examples. No memory. -/
import Derived.Test.YtanlecnnfoapeaaHview
namespace Go.Proofs.Ytanlecnnfoapeaa.Pure
open Go.RowKit Go.Proofs.Ytanlecnnfoapeaa.P Go.Proofs.YtanlecnnfoapeaaW.PrintWords Go.Proofs.YtanlecnnfoapeaaW.PrintLast
theorem marks_nil (x : S34) (l : List S34) : pick (x :: l) (marks (x :: l) []) = [x] := by
  have h : ∀ m : List S34, pick m (List.replicate m.length false) = [] := fun m => by
    induction m with
    | nil => rfl
    | cons y m ih => simp [pick, List.replicate_succ, ih]
  simp [marks, List.replicate_succ, pick, h]
theorem strip_one (x : S34) : strip [x] = if kd x = 2 then [] else [x] := by
  have := strip_snoc [] x
  rw [List.nil_append] at this
  rw [this]
  rfl
theorem tw_cons (x : S34) (l : List S34) : (x :: l).takeWhile (sameU x) = x :: l.takeWhile (sameU x) := by rw [List.takeWhile_cons, if_pos (sameU_self x)]
theorem mem_dw {α : Type} {p : α → Bool} {l : List α} {x : α} (h : x ∈ l.dropWhile p) : x ∈ l := (List.dropWhile_sublist p).subset h
theorem bottom_view (seq : Int) : ∀ (n : Nat) (l : List S34), l.length = n → (∀ x ∈ l, (kd x = 1 ∨ kd x = 2) ∧ sq x ≤ seq) → viewG seq l = (trimG [] true l).map pairOf ∧ ∀ x ∈ trimG [] true l, kd x = 1 := by
  intro n
  induction n using Nat.strongRecOn with
  | ind n ih =>
    intro l hn hl
    cases l with
    | nil => rw [viewG, trimG]; simp
    | cons x l =>
      have hlt := dw_lt x l
      have hx := hl x List.mem_cons_self
      have h1 := ih _ (by omega) ((x :: l).dropWhile (sameU x)) rfl (fun y hy => hl y (mem_dw hy))
      rw [viewG_cons, trimG_cons, tw_cons, marks_nil, h1.1]
      have hg : viewGrp seq (x :: l.takeWhile (sameU x)) = if kd x = 1 then [pairOf x] else [] := by
        unfold viewGrp
        rw [List.find?_cons_of_pos (by simpa using hx.2)]
      have hb : bot true [x] = if kd x = 2 then [] else [x] := by unfold bot; rw [if_pos rfl, strip_one]
      rw [hg, hb]
      rcases hx.1 with h | h
      · have h2 : ¬ kd x = 2 := by omega
        rw [if_pos h, if_neg h2]
        refine ⟨rfl, fun y hy => ?_⟩
        rcases List.mem_append.1 hy with hy | hy
        · rw [List.mem_singleton.1 hy]; exact h
        · exact h1.2 y hy
      · have h2 : ¬ kd x = 1 := by omega
        rw [if_neg h2, if_pos h]
        exact ⟨rfl, h1.2⟩
theorem make_kd (a1 : Int) (l0 : List Int) : ∀ k x, x ∈ makeUpto a1 l0 k → kd x = 1 ∨ kd x = 2
  | 0, x, h => by simp [makeUpto] at h
  | k + 1, x, h => by
    rw [makeUpto, insE_mem] at h
    rcases h with rfl | h
    · unfold kd entryOf
      simp only
      split <;> simp
    · exact make_kd a1 l0 k x h
theorem awake_ev : Ev (fun k => iceboxlaw23_awake.f k) true := by
  have h1 := trim_ev [(⟨⟨⟨#[97]⟩, 1, 2⟩, ⟨#[]⟩⟩ : S34)] [] true (by simp)
  have h2 := trim_ev [(⟨⟨⟨#[97]⟩, 1, 2⟩, ⟨#[]⟩⟩ : S34)] [] false (by simp)
  have e1 : trimG [] true [(⟨⟨⟨#[97]⟩, 1, 2⟩, ⟨#[]⟩⟩ : S34)] = [] := by
    rw [trimG_cons, tw_cons, marks_nil, List.dropWhile_cons, if_pos (sameU_self _)]
    rw [show (bot true [(⟨⟨⟨#[97]⟩, 1, 2⟩, ⟨#[]⟩⟩ : S34)]) = [] from by unfold bot; rw [if_pos rfl, strip_one, if_pos rfl]]
    rw [List.dropWhile_nil, trimG]
    rfl
  have e2 : trimG [] false [(⟨⟨⟨#[97]⟩, 1, 2⟩, ⟨#[]⟩⟩ : S34)] = [⟨⟨⟨#[97]⟩, 1, 2⟩, ⟨#[]⟩⟩] := by
    rw [trimG_cons, tw_cons, List.takeWhile_nil, marks_nil, List.dropWhile_cons, if_pos (sameU_self _)]
    rw [List.dropWhile_nil, trimG]
    rfl
  rw [e1] at h1
  rw [e2] at h2
  unfold iceboxlaw23_awake.f
  simp only [Option.bind_some]
  refine Ev.bind (f := fun k t => if (t.length : Int) = 0 then ((trim_Trim.f k [(⟨⟨⟨#[97]⟩, 1, 2⟩, ⟨#[]⟩⟩ : S34)] ([] : List Int) false).bind fun t238 => (some ((t238.length : Int) == 1))) else some false) h1 ?_
  exact Ev.congr (fun k => by rw [if_pos (show (([] : List S34).length : Int) = 0 from rfl)]) (Ev.bind (f := fun _ t238 => some ((t238.length : Int) == 1)) h2 ⟨0, fun _ _ => rfl⟩)
theorem awake_bind : Ev (fun k => (iceboxlaw23_awake.f k).bind fun t => some t) true := Ev.bind (f := fun _ t => some t) awake_ev (Ev.now true)
theorem make_f (l0 : List Int) (a1 : Int) (h : l0.length ≤ 100) (hb : ∀ x ∈ l0, (Lit.int .u8 x).wf = true) (ha : (Lit.int .u8 a1).wf = true) : iceboxlaw12_Make.f l0 a1 = some (makeUpto a1 l0 l0.length) := by
  have hw : ∀ x : Int, (Lit.int .u8 x).wf = true → 0 ≤ x ∧ x ≤ 255 := fun x hx => by
    have h1 : IntKind.u8.min = 0 := by decide
    have h2 : IntKind.u8.max = 255 := by decide
    simp only [Lit.wf, h1, h2, Bool.and_eq_true, decide_eq_true_eq] at hx
    exact hx
  unfold iceboxlaw12_Make.f
  rw [if_pos ⟨by omega, fun x hx => hw x (hb x hx), (hw a1 ha).1, (hw a1 ha).2⟩]
theorem trimG_le (snaps : List Int) (b : Bool) : ∀ (n : Nat) (l : List S34), l.length = n → (trimG snaps b l).length ≤ l.length := by
  intro n
  induction n using Nat.strongRecOn with
  | ind n ih =>
    intro l hn
    cases l with
    | nil => rw [trimG]; exact Nat.le_refl _
    | cons x l =>
      rw [trimG_cons]
      have hlt := dw_lt x l
      have e := congrArg List.length (tw_dw (sameU x) (x :: l))
      rw [List.length_append] at e
      have h1 := ih _ (by omega) ((x :: l).dropWhile (sameU x)) rfl
      have h2 := bot_le b (pick ((x :: l).takeWhile (sameU x)) (marks ((x :: l).takeWhile (sameU x)) snaps))
      have h3 := pick_length ((x :: l).takeWhile (sameU x)) (marks ((x :: l).takeWhile (sameU x)) snaps)
      rw [List.length_append]
      omega
end Go.Proofs.Ytanlecnnfoapeaa.Pure
