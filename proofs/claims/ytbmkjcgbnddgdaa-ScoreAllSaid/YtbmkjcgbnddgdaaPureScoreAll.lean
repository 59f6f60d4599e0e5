/- ScoreAll: the score of any size by any target, and the level that is picked of any version, are the document's: the plain law. -/
import Derived.Test.YtbmkjcgbnddgdaaPx4
import Derived.Test.YtbmkjcgbnddgdaaHpick
import Derived.Test.YtbmkjcgbnddgdaaHedges
namespace Go.Proofs.Ytbmkjcgbnddgdaa.Pure
open Go.RowKit Go.Proofs.Ytbmkjcgbnddgdaa.P Go.Proofs.YtbmkjcgbnddgdaaW.PrintWords Go.Proofs.YtbmkjcgbnddgdaaW.PrintLast
set_option linter.unusedVariables false
theorem great_ev (l : List S38) : ∃ b, Ev (fun k => iceboxlaw17_Great.f k l) b ∧ (b = false → l.length ≤ 60) := by
  have key : ∀ d n : Nat, 80 - n = d → n ≤ 80 → ∃ b, Ev (fun k => iceboxlaw17_Great.l0 k l (n : Int)) b ∧ (b = false → l.length ≤ 60) := by
    have hend : ∀ n : Nat, Ev (fun k => iceboxlaw17_Great.j1 k l (n : Int) false) (decide ((l.length : Int) > 60)) := fun n =>
      Ev.step (f := fun _ => some (decide ((l.length : Int) > 60))) (fun k => by simp only [iceboxlaw17_Great.j1]; rw [if_neg (by simp)]) (Ev.now _)
    have hb : decide ((l.length : Int) > 60) = false → l.length ≤ 60 := fun h => by have := of_decide_eq_false h; omega
    intro d
    induction d with
    | zero =>
      intro n hd hn
      refine ⟨_, Ev.step (fun k => ?_) (hend n), hb⟩
      simp only [iceboxlaw17_Great.l0]
      split
      · rw [decide_eq_false (by omega)]
      · rfl
    | succ d ih =>
      intro n hd hn
      by_cases hlt : n < l.length
      · have hj : ∃ b, Ev (fun k => iceboxlaw17_Great.j1 k l (n : Int) true) b ∧ (b = false → l.length ≤ 60) := by
          by_cases h1 : ((rd_T38 l (n : Int)).f3.size : Int) > 300
          · refine ⟨true, Ev.step (f := fun _ => some true) (fun k => ?_) (Ev.now _), fun h => by cases h⟩
            simp only [iceboxlaw17_Great.j1]
            rw [if_pos trivial, if_pos (by omega), if_pos (by omega), if_pos h1]
          · by_cases h2 : ((rd_T38 l (n : Int)).f4.size : Int) > 300
            · refine ⟨true, Ev.step (f := fun _ => some true) (fun k => ?_) (Ev.now _), fun h => by cases h⟩
              simp only [iceboxlaw17_Great.j1]
              rw [if_pos trivial, if_pos (by omega), if_pos (by omega), if_neg h1, if_pos h2]
            · obtain ⟨b, hb1, hb2⟩ := ih (n + 1) (by omega) (by omega)
              refine ⟨b, Ev.step (fun k => ?_) hb1, hb2⟩
              simp only [iceboxlaw17_Great.j1]
              rw [if_pos trivial, if_pos (by omega), if_pos (by omega), if_neg h1, if_neg h2, wsucc' n (by omega)]
        obtain ⟨b, hb1, hb2⟩ := hj
        refine ⟨b, Ev.step (fun k => ?_) hb1, hb2⟩
        simp only [iceboxlaw17_Great.l0]
        rw [if_pos (by omega), decide_eq_true (by omega)]
      · refine ⟨_, Ev.step (fun k => ?_) (hend n), hb⟩
        simp only [iceboxlaw17_Great.l0]
        rw [if_neg (by omega)]
  exact key 80 0 rfl (by omega)
theorem loop_ev (a0 a1 a2 a3 : Int) (xs : List S38) (ts : List Nat) (n : Int) (x : Nat) (hx : x < 18446744073709551616) (hl : xs.length ≤ 60) : ∀ d i : Nat, xs.length - i = d → i ≤ xs.length →
    Ev (fun k => iceboxlaw22_ScoreAll.l0 k ts n x (i : Int) a0 a1 a2 a3 xs) true
  | 0, i, hd, hi => by
    have h : ¬ ((i : Int) < (xs.length : Int)) := by omega
    obtain ⟨p, p1, p2⟩ := picks_ev a0 a1 a2 a3 xs ts (by omega)
    refine Ev.step (fun k => by simp only [iceboxlaw22_ScoreAll.l0]; rw [if_neg h]) (Ev.bind p1 (Ev.bind p2 ?_))
    have hs := scoreF_le (n := n) hx
    have e : (FloatKind.f64.format.order (scoreF n x) (scoreF n x) == some .eq) = true := by
      rw [order_le hs hs, Nat.compare_eq_eq.mpr rfl]
      rfl
    refine Ev.congr (fun k => ?_) (Ev.now true)
    rw [score_Score.f, iceboxref17_Score.f, Option.bind_some, Option.bind_some, if_pos e, if_pos rfl, if_pos (by simp)]
    rfl
  | d + 1, i, hd, hi => by
    have h : (i : Int) < (xs.length : Int) := by omega
    have h0 : (0 : Int) ≤ (i : Int) := by omega
    by_cases c1 : (rd_T38 xs (i : Int)).f5 < 0
    · exact Ev.step (f := fun _ => some true) (fun k => by simp only [iceboxlaw22_ScoreAll.l0]; rw [if_pos h, if_pos h0, if_pos c1]; rfl) (Ev.now _)
    · by_cases c2 : (rd_T38 xs (i : Int)).f5 > 1048576
      · exact Ev.step (f := fun _ => some true) (fun k => by simp only [iceboxlaw22_ScoreAll.l0]; rw [if_pos h, if_pos h0, if_neg c1, if_pos c2]; rfl) (Ev.now _)
      · exact Ev.step (fun k => by simp only [iceboxlaw22_ScoreAll.l0]; rw [if_pos h, if_pos h0, if_neg c1, if_neg c2, wsucc' i (by omega)]) (loop_ev a0 a1 a2 a3 xs ts n x hx hl d (i + 1) (by omega) (by omega))
theorem ScoreAll (a0 a1 a2 a3 : Int) (xs : List S38) (ts : List Nat) (n : Int) (x : Nat) (hx : x < 18446744073709551616) : ∃ k, iceboxlaw22_ScoreAll.f k a0 a1 a2 a3 xs ts n x = some true := by
  have aw : ∀ k, iceboxlaw22_ScoreAll.j0 (k + 1) ts n x true a0 a1 a2 a3 xs = some true := fun k => by
    simp only [iceboxlaw22_ScoreAll.j0]
    rw [if_pos trivial]
    rfl
  obtain ⟨b, b1, b2⟩ := great_ev xs
  have g : Ev (fun k => iceboxlaw18_Great.f k a0 a1 a2 a3 xs) b := Ev.bind b1 (Ev.now _)
  refine Ev.rounds (g := fun k => iceboxlaw22_ScoreAll.f k a0 a1 a2 a3 xs ts n x) (Ev.bind g ?_)
  cases b with
  | true => exact Ev.congr (f := fun k => iceboxlaw22_ScoreAll.j0 k ts n x true a0 a1 a2 a3 xs) (fun k => by rw [if_pos rfl]) (Ev.step (f := fun _ => some true) aw (Ev.now _))
  | false =>
    refine Ev.congr (f := fun k => iceboxlaw22_ScoreAll.j0 k ts n x (decide ((ts.length : Int) > 20)) a0 a1 a2 a3 xs) (fun k => by rw [if_neg (by simp)]) ?_
    cases decide ((ts.length : Int) > 20) with
    | true => exact Ev.step (f := fun _ => some true) aw (Ev.now _)
    | false => exact Ev.step (fun k => by simp only [iceboxlaw22_ScoreAll.j0]; rw [if_neg (by simp)]; rfl) (loop_ev a0 a1 a2 a3 xs ts n x hx (b2 rfl) _ 0 rfl (Nat.zero_le _))
end Go.Proofs.Ytbmkjcgbnddgdaa.Pure
