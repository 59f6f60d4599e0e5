/- Plain words of the trim family: users' groups, what Trim comes to, group by group. No memory. -/
import Derived.Test.YtanlecnnfoapeaaHplain
namespace Go.Proofs.Ytanlecnnfoapeaa.P
open Go.RowKit Go.Proofs.YtanlecnnfoapeaaW.PrintWords Go.Proofs.YtanlecnnfoapeaaW.PrintLast Go.Proofs.YtanlecnnfoapeaaW.PrintMore
set_option linter.unusedVariables false
theorem tw_get {α : Type} (p : α → Bool) : ∀ (l : List α) (n : Nat) (h : n < l.length), n < (l.takeWhile p).length → p l[n] = true
  | [], n, h, _ => by simp at h
  | x :: l, n, h, hn => by
    rw [List.takeWhile_cons] at hn
    split at hn
    · rename_i hp
      cases n with
      | zero => exact hp
      | succ n => exact tw_get p l n (by simpa using h) (by simpa using hn)
    · simp at hn
theorem tw_stop {α : Type} (p : α → Bool) : ∀ (l : List α) (h : (l.takeWhile p).length < l.length), p (l[(l.takeWhile p).length]) = false
  | [], h => by simp at h
  | x :: l, h => by
    by_cases hp : p x = true
    · have e : (x :: l).takeWhile p = x :: l.takeWhile p := by rw [List.takeWhile_cons, if_pos hp]
      have hlt : (l.takeWhile p).length < l.length := by rw [e] at h; simpa using h
      have := tw_stop p l hlt
      have e2 : ((x :: l).takeWhile p).length = (l.takeWhile p).length + 1 := by rw [e]; rfl
      simp only [e2]
      simpa using this
    · have e : (x :: l).takeWhile p = [] := by rw [List.takeWhile_cons, if_neg hp]
      have e2 : ((x :: l).takeWhile p).length = 0 := by rw [e]; rfl
      simp only [e2]
      simpa using hp
theorem tw_le {α : Type} (p : α → Bool) (l : List α) : (l.takeWhile p).length ≤ l.length := List.Sublist.length_le (List.takeWhile_sublist _)
theorem take_tw {α : Type} (p : α → Bool) : ∀ l : List α, l.take (l.takeWhile p).length = l.takeWhile p
  | [] => rfl
  | x :: l => by
    rw [List.takeWhile_cons]
    split
    · simp [take_tw p l]
    · simp
theorem drop_tw {α : Type} (p : α → Bool) : ∀ l : List α, l.drop (l.takeWhile p).length = l.dropWhile p
  | [] => rfl
  | x :: l => by
    rw [List.takeWhile_cons, List.dropWhile_cons]
    split
    · simp [drop_tw p l]
    · simp
theorem dw_le {α : Type} (p : α → Bool) (l : List α) : (l.dropWhile p).length ≤ l.length := List.Sublist.length_le (List.dropWhile_sublist _)
def sameU (x y : S34) : Bool := ks y == ks x
theorem sameU_self (x : S34) : sameU x x = true := by simp [sameU]
theorem user_ev (x : S34) (l : List S34) (hl : (x :: l).length ≤ 1000000) : Ev (fun k => trim_user.f k (x :: l)) ((((x :: l).takeWhile (sameU x)).length : Nat) : Int) := by
  have h0 : rd_T34 (x :: l) 0 = x := rfl
  generalize hL : x :: l = L at *
  have hN := tw_le (sameU x) L
  have hpos : 0 < L.length := by rw [← hL]; simp
  have key : ∀ d n, (L.takeWhile (sameU x)).length - n = d → n ≤ (L.takeWhile (sameU x)).length → Ev (fun k => trim_user.l0 k L (n : Int)) (((L.takeWhile (sameU x)).length : Nat) : Int) := by
    intro d
    induction d with
    | zero =>
      intro n hd hn
      obtain rfl : n = (L.takeWhile (sameU x)).length := by omega
      refine Ev.step (f := fun _ => some (((L.takeWhile (sameU x)).length : Nat) : Int)) (fun k => ?_) (Ev.now _)
      simp only [trim_user.l0]
      by_cases hlt : (L.takeWhile (sameU x)).length < L.length
      · have hs := tw_stop (sameU x) L hlt
        rw [if_pos (by omega), if_pos (by omega), if_pos (by omega), rd_at hlt, h0]
        rw [if_neg (fun e => (beq_eq_false_iff_ne.mp (show (ks _ == ks x) = false from hs)) e)]
      · rw [if_neg (by omega)]
    | succ d ih =>
      intro n hd hn
      have hlt : n < L.length := by omega
      have hg := tw_get (sameU x) L n hlt (by omega)
      refine Ev.step (fun k => ?_) (ih (n + 1) (by omega) (by omega))
      simp only [trim_user.l0]
      rw [if_pos (by omega), if_pos (by omega), if_pos (by omega), rd_at hlt, h0, if_pos (by unfold sameU ks at hg; simpa using hg), wsucc n (by omega)]
  exact key _ 0 rfl (by omega)
/-- The bottom: no user's entries end with one that is gone. -/
def strip (l : List S34) : List S34 := (l.reverse.dropWhile (fun x => kd x == 2)).reverse
def bot (b : Bool) (l : List S34) : List S34 := if b = true then strip l else l
theorem strip_snoc (l : List S34) (x : S34) : strip (l ++ [x]) = if kd x = 2 then strip l else l ++ [x] := by
  unfold strip
  rw [List.reverse_append, List.reverse_singleton, List.singleton_append, List.dropWhile_cons]
  by_cases h : kd x = 2
  · rw [if_pos (by simpa using h), if_pos h]
  · rw [if_neg (by simpa using h), if_neg h]; simp
theorem strip_le (l : List S34) : (strip l).length ≤ l.length := by
  unfold strip
  rw [List.length_reverse]
  have := dw_le (fun x => kd x == 2) l.reverse
  simpa using this
def trimG (snaps : List Int) (b : Bool) : List S34 → List S34
  | [] => []
  | x :: l => bot b (pick ((x :: l).takeWhile (sameU x)) (marks ((x :: l).takeWhile (sameU x)) snaps)) ++ trimG snaps b ((x :: l).dropWhile (sameU x))
termination_by l => l.length
decreasing_by
  rw [List.dropWhile_cons, if_pos (sameU_self x)]
  have := dw_le (sameU x) l
  simp
  omega
theorem trimG_cons (snaps : List Int) (b : Bool) (x : S34) (l : List S34) : trimG snaps b (x :: l) = bot b (pick ((x :: l).takeWhile (sameU x)) (marks ((x :: l).takeWhile (sameU x)) snaps)) ++ trimG snaps b ((x :: l).dropWhile (sameU x)) := by
  rw [trimG]
theorem dw_lt (x : S34) (l : List S34) : ((x :: l).dropWhile (sameU x)).length < (x :: l).length := by
  rw [List.dropWhile_cons, if_pos (sameU_self x)]
  have := dw_le (sameU x) l
  simp
  omega
theorem tw_pos (x : S34) (l : List S34) : 0 < ((x :: l).takeWhile (sameU x)).length := by
  rw [List.takeWhile_cons, if_pos (sameU_self x)]
  simp
theorem bot_le (b : Bool) (l : List S34) : (bot b l).length ≤ l.length := by
  unfold bot
  split
  · exact strip_le l
  · exact Nat.le_refl _
theorem trim_l1 (q : List S34) (snaps : List Int) (b : Bool) (out : List S34) (r : List S34) : ∀ (m : Nat) (p : List S34), p.length = m → p.length ≤ 1000000 → out.length ≤ 1000000 →
    Ev (fun k => trim_Trim.l0 k q snaps b (out ++ bot b p)) r → Ev (fun k => trim_Trim.l1 k q snaps b out p) r
  | 0, p, hp, h1, h2, h => by
    obtain rfl : p = [] := List.length_eq_zero_iff.1 hp
    have e : bot b [] = [] := by unfold bot strip; split <;> rfl
    rw [e] at h
    refine Ev.step (fun k => ?_) h
    simp only [trim_Trim.l1]
    by_cases hb : b = true
    · rw [if_pos hb, if_neg (by simp), if_pos (by simp; omega)]
    · rw [if_neg hb, if_pos (by simp; omega)]
  | m + 1, p, hp, h1, h2, h => by
    by_cases hb : b = true
    · subst hb
      obtain ⟨p', x, rfl⟩ : ∃ p' x, p = p' ++ [x] := by
        rcases List.eq_nil_or_concat p with h | ⟨p', x, h⟩
        · rw [h] at hp; simp at hp
        · exact ⟨p', x, by simpa using h⟩
      have hl : (p' ++ [x]).length = p'.length + 1 := by simp
      have hlast : rd_T34 (p' ++ [x]) ((p'.length : Nat) : Int) = x := by rw [rd_at (by simp)]; simp
      have hw : wrap64 (((p' ++ [x]).length : Int) - 1) = ((p'.length : Nat) : Int) := by
        rw [wpred _ (by omega) (by omega)]; simp
      have hbot : bot true (p' ++ [x]) = if kd x = 2 then bot true p' else p' ++ [x] := by unfold bot; simp only [if_true]; exact strip_snoc p' x
      rw [hbot] at h
      by_cases hk : kd x = 2
      · rw [if_pos hk] at h
        have ih := trim_l1 q snaps true out r m p' (by omega) (by omega) h2 h
        refine Ev.step (fun k => ?_) ih
        simp only [trim_Trim.l1]
        rw [hw, if_pos trivial, if_pos (by omega), if_pos (by omega), if_pos (by omega), hlast, if_pos hk, if_pos (by omega)]
        simp
      · rw [if_neg hk] at h
        refine Ev.step (fun k => ?_) h
        simp only [trim_Trim.l1]
        rw [hw, if_pos trivial, if_pos (by omega), if_pos (by omega), if_pos (by omega), hlast, if_neg hk, if_pos (by omega)]
    · have e : bot b p = p := by unfold bot; rw [if_neg hb]
      rw [e] at h
      refine Ev.step (fun k => ?_) h
      simp only [trim_Trim.l1]
      rw [if_neg hb, if_pos (by omega)]
theorem trim_l0 (snaps : List Int) (b : Bool) : ∀ (n : Nat) (l out : List S34), l.length = n → l.length + out.length ≤ 1000000 → Ev (fun k => trim_Trim.l0 k l snaps b out) (out ++ trimG snaps b l) := by
  intro n
  induction n using Nat.strongRecOn with
  | ind n ih =>
    intro l out hn hl
    cases l with
    | nil =>
      rw [trimG, List.append_nil]
      refine Ev.step (f := fun _ => some out) (fun k => ?_) (Ev.now _)
      simp only [trim_Trim.l0]
      rw [if_pos (by simp)]
    | cons x l =>
      have hu := user_ev x l (by omega)
      have hlt := dw_lt x l
      have hpos := tw_pos x l
      have hle := tw_le (sameU x) (x :: l)
      rw [trimG_cons, ← List.append_assoc]
      generalize hP : (x :: l).takeWhile (sameU x) = p at *
      generalize hQ : (x :: l).dropWhile (sameU x) = q at *
      have hq := drop_tw (sameU x) (x :: l)
      rw [hP, hQ] at hq
      have hp := take_tw (sameU x) (x :: l)
      rw [hP] at hp
      have hlen : p.length + q.length = (x :: l).length := by rw [← hq, List.length_drop]; omega
      have hpl := pick_length p (marks p snaps)
      have hbl := bot_le b (pick p (marks p snaps))
      have hih := ih q.length (by omega) q (out ++ bot b (pick p (marks p snaps))) rfl (by rw [List.length_append]; omega)
      have h1 := trim_l1 q snaps b out _ _ (pick p (marks p snaps)) rfl (by omega) (by omega) hih
      refine Ev.step (f := fun k => (trim_user.f k (x :: l)).bind fun t => if 0 ≤ t then (if t ≤ ((x :: l).length : Int) then ((trim_seen.f ((x :: l).take t.toNat) snaps).bind fun t211 => trim_Trim.l1 k ((x :: l).drop t.toNat) snaps b out t211) else none) else none) (fun k => ?_) (Ev.bind (f := fun k t => if 0 ≤ t then (if t ≤ ((x :: l).length : Int) then ((trim_seen.f ((x :: l).take t.toNat) snaps).bind fun t211 => trim_Trim.l1 k ((x :: l).drop t.toNat) snaps b out t211) else none) else none) hu ?_)
      · simp only [trim_Trim.l0]
        rw [if_neg (by simp; omega)]
      · refine Ev.congr (fun k => ?_) h1
        rw [if_pos (by omega), if_pos (by omega), Int.toNat_natCast, hp, hq]
        unfold trim_seen.f
        rw [if_pos ⟨hpos, by omega⟩]
        rfl
theorem trim_ev (l : List S34) (snaps : List Int) (b : Bool) (hl : l.length ≤ 1000000) : Ev (fun k => trim_Trim.f k l snaps b) (trimG snaps b l) := by
  have := trim_l0 snaps b l.length l [] rfl (by simpa using hl)
  rw [List.nil_append] at this
  exact this
end Go.Proofs.Ytanlecnnfoapeaa.P
