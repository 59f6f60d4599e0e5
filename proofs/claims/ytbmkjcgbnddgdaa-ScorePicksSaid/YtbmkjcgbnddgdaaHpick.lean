/- The level that is picked: score.Pick and iceboxref17.Pick tell the same, whatever the tables and targets (of fewer tables than a machine counts). -/
import Derived.Test.YtbmkjcgbnddgdaaPx9
import Derived.Test.YtbmkjcgbnddgdaaPx10
namespace Go.Proofs.Ytbmkjcgbnddgdaa.P
open Go.RowKit Go.Proofs.YtbmkjcgbnddgdaaW.PrintWords Go.Proofs.YtbmkjcgbnddgdaaW.PrintLast
set_option linter.unusedVariables false
theorem wsucc' (n : Nat) (h : n < 9223372036854775807) : wrap64 ((n : Int) + 1) = ((n + 1 : Nat) : Int) := by
  unfold wrap64
  omega
theorem size_ev (lv a0 a1 a2 a3 : Int) (xs : List S38) (hl : xs.length ≤ 9223372036854775807) : ∀ d n : Nat, xs.length - n = d → n ≤ xs.length → ∀ acc : Int,
    ∃ r, Ev (fun k => version_Size.l0 k lv acc xs (xs.length : Int) (n : Int)) r ∧ Ev (fun k => iceboxref17_Size.l0 k lv acc (n : Int) a0 a1 a2 a3 xs) r
  | 0, n, hd, hn, acc => by
    have h : ¬ ((n : Int) < (xs.length : Int)) := by omega
    exact ⟨acc, Ev.step (f := fun _ => some acc) (fun k => by simp only [version_Size.l0]; rw [if_neg h]) (Ev.now _), Ev.step (f := fun _ => some acc) (fun k => by simp only [iceboxref17_Size.l0]; rw [if_neg h]) (Ev.now _)⟩
  | d + 1, n, hd, hn, acc => by
    have h : (n : Int) < (xs.length : Int) := by omega
    have h0 : (0 : Int) ≤ (n : Int) := by omega
    have hw := wsucc' n (by omega)
    by_cases c : (rd_T38 xs (n : Int)).f2 = lv
    · obtain ⟨r, r1, r2⟩ := size_ev lv a0 a1 a2 a3 xs hl d (n + 1) (by omega) (by omega) (wrap64 (acc + (rd_T38 xs (n : Int)).f5))
      exact ⟨r, Ev.step (fun k => by simp only [version_Size.l0]; rw [if_pos h, if_pos h0, if_pos h, if_pos c, hw]) r1, Ev.step (fun k => by simp only [iceboxref17_Size.l0]; rw [if_pos h, if_pos h0, if_pos c, hw]) r2⟩
    · obtain ⟨r, r1, r2⟩ := size_ev lv a0 a1 a2 a3 xs hl d (n + 1) (by omega) (by omega) acc
      exact ⟨r, Ev.step (fun k => by simp only [version_Size.l0]; rw [if_pos h, if_pos h0, if_pos h, if_neg c, hw]) r1, Ev.step (fun k => by simp only [iceboxref17_Size.l0]; rw [if_pos h, if_pos h0, if_neg c, hw]) r2⟩
theorem sizes_ev (lv a0 a1 a2 a3 : Int) (xs : List S38) (hl : xs.length ≤ 9223372036854775807) : ∃ r, Ev (fun k => version_Size.f k a0 a1 a2 a3 xs lv) r ∧ Ev (fun k => iceboxref17_Size.f k a0 a1 a2 a3 xs lv) r :=
  size_ev lv a0 a1 a2 a3 xs hl _ 0 rfl (Nat.zero_le _) 0
def endOf (best : Nat) (at_ : Int) : Int × Bool := if (FloatKind.f64.format.order best 4607182418800017408 == some .lt) = true then (0, false) else (at_, true)
theorem endOf_eq (best : Nat) (at_ : Int) : (if (FloatKind.f64.format.order best 4607182418800017408 == some .lt) = true then (some ((0 : Int), false)) else (some (at_, true))) = some (endOf best at_) := by
  unfold endOf
  split <;> rfl
theorem levels_ev (a0 a1 a2 a3 : Int) (xs : List S38) (ts : List Nat) (hl : xs.length ≤ 9223372036854775807) : ∀ d n : Nat, 4 - n = d → 1 ≤ n → n ≤ 4 → ∀ (best : Nat) (at_ : Int),
    ∃ r, Ev (fun k => score_Pick.l1 k ts at_ best (n : Int) a0 a1 a2 a3 xs) r ∧ Ev (fun k => iceboxref17_Pick.l1 k ts best at_ (n : Int) a0 a1 a2 a3 xs) r
  | 0, n, hd, h1, hn, best, at_ => by
    have h : ¬ ((n : Int) < 4) := by omega
    have h' : ¬ ((n : Int) ≤ 3) := by omega
    exact ⟨endOf best at_, Ev.step (f := fun _ => some (endOf best at_)) (fun k => by simp only [score_Pick.l1]; rw [if_neg h, endOf_eq]) (Ev.now _), Ev.step (f := fun _ => some (endOf best at_)) (fun k => by simp only [iceboxref17_Pick.l1]; rw [if_neg h', endOf_eq]) (Ev.now _)⟩
  | d + 1, n, hd, h1, hn, best, at_ => by
    have h : (n : Int) < 4 := by omega
    have h' : (n : Int) ≤ 3 := by omega
    by_cases c : (n : Int) > (ts.length : Int)
    · exact ⟨endOf best at_, Ev.step (f := fun _ => some (endOf best at_)) (fun k => by simp only [score_Pick.l1]; rw [if_pos h, if_pos c, endOf_eq]) (Ev.now _), Ev.step (f := fun _ => some (endOf best at_)) (fun k => by simp only [iceboxref17_Pick.l1]; rw [if_pos h', if_pos c, endOf_eq]) (Ev.now _)⟩
    · obtain ⟨s, s1, s2⟩ := sizes_ev (n : Int) a0 a1 a2 a3 xs hl
      have hp : wrap64 ((n : Int) - 1) = (n : Int) - 1 := by unfold wrap64; omega
      have p0 : (0 : Int) ≤ wrap64 ((n : Int) - 1) := by rw [hp]; omega
      have p1 : wrap64 ((n : Int) - 1) < (ts.length : Int) := by rw [hp]; omega
      have hw := wsucc' n (by omega)
      generalize hsc : scoreF s (rdOf (0 : Nat) ts (wrap64 ((n : Int) - 1))) = sc
      by_cases g : (FloatKind.f64.format.order sc best == some .gt) = true
      · obtain ⟨r, r1, r2⟩ := levels_ev a0 a1 a2 a3 xs ts hl d (n + 1) (by omega) (by omega) (by omega) sc (n : Int)
        refine ⟨r, Ev.step (fun k => by simp only [score_Pick.l1]; rw [if_pos h, if_neg c]) (Ev.bind s1 (Ev.congr (fun k => ?_) r1)), Ev.step (fun k => by simp only [iceboxref17_Pick.l1]; rw [if_pos h', if_neg c]) (Ev.bind s2 (Ev.congr (fun k => ?_) r2))⟩
        · rw [if_pos p0, if_pos p1, score_Score.f, hsc, Option.bind_some, if_pos g, hw]
        · rw [if_pos p0, if_pos p1, iceboxref17_Score.f, hsc, Option.bind_some, if_pos g, hw]
      · obtain ⟨r, r1, r2⟩ := levels_ev a0 a1 a2 a3 xs ts hl d (n + 1) (by omega) (by omega) (by omega) best at_
        refine ⟨r, Ev.step (fun k => by simp only [score_Pick.l1]; rw [if_pos h, if_neg c]) (Ev.bind s1 (Ev.congr (fun k => ?_) r1)), Ev.step (fun k => by simp only [iceboxref17_Pick.l1]; rw [if_pos h', if_neg c]) (Ev.bind s2 (Ev.congr (fun k => ?_) r2))⟩
        · rw [if_pos p0, if_pos p1, score_Score.f, hsc, Option.bind_some, if_neg g, hw]
        · rw [if_pos p0, if_pos p1, iceboxref17_Score.f, hsc, Option.bind_some, if_neg g, hw]
theorem counts_ev (a0 a1 a2 a3 : Int) (xs : List S38) (ts : List Nat) (hl : xs.length ≤ 9223372036854775807) : ∀ d n : Nat, xs.length - n = d → n ≤ xs.length → ∀ c : Int,
    ∃ r, Ev (fun k => score_Pick.l0 k ts 0 c xs (xs.length : Int) (n : Int) a0 a1 a2 a3 xs) r ∧ Ev (fun k => iceboxref17_Pick.l0 k ts c (n : Int) a0 a1 a2 a3 xs) r
  | 0, n, hd, hn, c => by
    have h : ¬ ((n : Int) < (xs.length : Int)) := by omega
    obtain ⟨r, r1, r2⟩ := levels_ev a0 a1 a2 a3 xs ts hl 3 1 rfl (by omega) (by omega) (scoreF c 4616189618054758400) 0
    exact ⟨r, Ev.step (fun k => by simp only [score_Pick.l0]; rw [if_neg h, score_Score.f, Option.bind_some]; rfl) r1, Ev.step (fun k => by simp only [iceboxref17_Pick.l0]; rw [if_neg h, iceboxref17_Score.f, Option.bind_some]; rfl) r2⟩
  | d + 1, n, hd, hn, c => by
    have h : (n : Int) < (xs.length : Int) := by omega
    have h0 : (0 : Int) ≤ (n : Int) := by omega
    have hw := wsucc' n (by omega)
    by_cases z : (rd_T38 xs (n : Int)).f2 = 0
    · obtain ⟨r, r1, r2⟩ := counts_ev a0 a1 a2 a3 xs ts hl d (n + 1) (by omega) (by omega) (wrap64 (c + 1))
      exact ⟨r, Ev.step (fun k => by simp only [score_Pick.l0]; rw [if_pos h, if_pos h0, if_pos h, if_pos z, hw]) r1, Ev.step (fun k => by simp only [iceboxref17_Pick.l0]; rw [if_pos h, if_pos h0, if_pos z, hw]) r2⟩
    · obtain ⟨r, r1, r2⟩ := counts_ev a0 a1 a2 a3 xs ts hl d (n + 1) (by omega) (by omega) c
      exact ⟨r, Ev.step (fun k => by simp only [score_Pick.l0]; rw [if_pos h, if_pos h0, if_pos h, if_neg z, hw]) r1, Ev.step (fun k => by simp only [iceboxref17_Pick.l0]; rw [if_pos h, if_pos h0, if_neg z, hw]) r2⟩
theorem picks_ev (a0 a1 a2 a3 : Int) (xs : List S38) (ts : List Nat) (hl : xs.length ≤ 9223372036854775807) : ∃ r, Ev (fun k => score_Pick.f k a0 a1 a2 a3 xs ts) r ∧ Ev (fun k => iceboxref17_Pick.f k a0 a1 a2 a3 xs ts) r :=
  counts_ev a0 a1 a2 a3 xs ts hl _ 0 rfl (Nat.zero_le _) 0
end Go.Proofs.Ytbmkjcgbnddgdaa.P
