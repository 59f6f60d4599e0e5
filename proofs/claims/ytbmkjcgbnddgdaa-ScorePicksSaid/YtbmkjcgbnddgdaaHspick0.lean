/- The level that is picked, in closed form, and what it answers: the plain law of ScorePicks. -/
import Derived.Test.YtbmkjcgbnddgdaaHsmade
import Derived.Test.YtbmkjcgbnddgdaaHedges
namespace Go.Proofs.Ytbmkjcgbnddgdaa.P
open Go.RowKit Go.Proofs.YtbmkjcgbnddgdaaW.PrintWords Go.Proofs.YtbmkjcgbnddgdaaW.PrintLast Go.Proofs.YtbmkjcgbnddgdaaW.PrintMore
set_option linter.unusedVariables false
/-- One table more in a level's size; in the count of level 0. -/
def stepS (lv : Int) (acc : Int) (t : S38) : Int := if t.f2 = lv then wrap64 (acc + t.f5) else acc
def stepC (acc : Int) (t : S38) : Int := if t.f2 = 0 then wrap64 (acc + 1) else acc
def szF (lv : Int) (xs : List S38) : Int := xs.foldl (stepS lv) 0
def ctF (xs : List S38) : Int := xs.foldl stepC 0
theorem szF_snoc (lv : Int) (xs : List S38) (t : S38) : szF lv (xs ++ [t]) = stepS lv (szF lv xs) t := by simp [szF]
theorem ctF_snoc (xs : List S38) (t : S38) : ctF (xs ++ [t]) = stepC (ctF xs) t := by simp [ctF]
theorem drop_rd (xs : List S38) (n : Nat) (h : n < xs.length) : xs.drop n = rd_T38 xs (n : Int) :: xs.drop (n + 1) := by
  rw [List.drop_eq_getElem_cons h]
  unfold rd_T38
  rw [List.getD_eq_getElem?_getD, Int.toNat_natCast, List.getElem?_eq_getElem h, Option.getD_some]
theorem take_rd (xs : List S38) (n : Nat) (h : n < xs.length) : xs.take (n + 1) = xs.take n ++ [rd_T38 xs (n : Int)] := by
  rw [List.take_add_one]
  unfold rd_T38
  rw [List.getD_eq_getElem?_getD, Int.toNat_natCast, List.getElem?_eq_getElem h, Option.getD_some]
  rfl
theorem size_is (lv : Int) (xs : List S38) (hl : xs.length ≤ 9223372036854775807) : ∀ d n : Nat, xs.length - n = d → n ≤ xs.length → ∀ acc : Int,
    Ev (fun k => version_Size.l0 k lv acc xs (xs.length : Int) (n : Int)) ((xs.drop n).foldl (stepS lv) acc)
  | 0, n, hd, hn, acc => by
    have h : ¬ ((n : Int) < (xs.length : Int)) := by omega
    have e : xs.drop n = [] := List.drop_eq_nil_of_le (by omega)
    rw [e]
    exact Ev.step (f := fun _ => some acc) (fun k => by simp only [version_Size.l0]; rw [if_neg h]) (Ev.now _)
  | d + 1, n, hd, hn, acc => by
    have h : (n : Int) < (xs.length : Int) := by omega
    have h0 : (0 : Int) ≤ (n : Int) := by omega
    have hw := wsucc' n (by omega)
    rw [drop_rd xs n (by omega), List.foldl_cons]
    by_cases c : (rd_T38 xs (n : Int)).f2 = lv
    · have e : stepS lv acc (rd_T38 xs (n : Int)) = wrap64 (acc + (rd_T38 xs (n : Int)).f5) := if_pos c
      rw [e]
      exact Ev.step (fun k => by simp only [version_Size.l0]; rw [if_pos h, if_pos h0, if_pos h, if_pos c, hw]) (size_is lv xs hl d (n + 1) (by omega) (by omega) _)
    · have e : stepS lv acc (rd_T38 xs (n : Int)) = acc := if_neg c
      rw [e]
      exact Ev.step (fun k => by simp only [version_Size.l0]; rw [if_pos h, if_pos h0, if_pos h, if_neg c, hw]) (size_is lv xs hl d (n + 1) (by omega) (by omega) _)
theorem sizes_is (lv a0 a1 a2 a3 : Int) (xs : List S38) (hl : xs.length ≤ 9223372036854775807) : Ev (fun k => version_Size.f k a0 a1 a2 a3 xs lv) (szF lv xs) :=
  size_is lv xs hl _ 0 rfl (Nat.zero_le _) 0
/-- The score of a level above the first. -/
def lvF (xs : List S38) (ts : List Nat) (n : Nat) : Nat := if n ≤ ts.length then scoreF (szF (n : Int) xs) (rdOf (0 : Nat) ts ((n : Int) - 1)) else 0
/-- The greater of what is best and a level's score. -/
def pickS (p : Nat × Int) (x : Nat) (n : Int) : Nat × Int := if p.1 < x then (x, n) else p
theorem ord_gt {x y : Nat} (hx : x ≤ 9218868437227405312) (hy : y ≤ 9218868437227405312) : (FloatKind.f64.format.order x y == some .gt) = decide (y < x) := by
  have e : FloatKind.f64.format.order x y = some (compare x y) := order_le hx hy
  rw [e]
  rcases Nat.lt_trichotomy x y with h | h | h
  · rw [Nat.compare_eq_lt.mpr h, decide_eq_false (by omega)]; rfl
  · rw [Nat.compare_eq_eq.mpr h, decide_eq_false (by omega)]; rfl
  · rw [Nat.compare_eq_gt.mpr h, decide_eq_true (by omega)]; rfl
theorem ord_lt {x y : Nat} (hx : x ≤ 9218868437227405312) (hy : y ≤ 9218868437227405312) : (FloatKind.f64.format.order x y == some .lt) = decide (x < y) := by
  have e : FloatKind.f64.format.order x y = some (compare x y) := order_le hx hy
  rw [e]
  rcases Nat.lt_trichotomy x y with h | h | h
  · rw [Nat.compare_eq_lt.mpr h, decide_eq_true (by omega)]; rfl
  · rw [Nat.compare_eq_eq.mpr h, decide_eq_false (by omega)]; rfl
  · rw [Nat.compare_eq_gt.mpr h, decide_eq_false (by omega)]; rfl
theorem rdOf_lt {ts : List Nat} (h : ∀ x ∈ ts, x < 18446744073709551616) (i : Int) : rdOf (0 : Nat) ts i < 18446744073709551616 := by
  unfold rdOf
  rw [List.getD_eq_getElem?_getD]
  cases e : ts[i.toNat]? with
  | none => simp
  | some x => exact h x (List.mem_of_getElem? e)
theorem lvF_le {xs : List S38} {ts : List Nat} (h : ∀ x ∈ ts, x < 18446744073709551616) (n : Nat) : lvF xs ts n ≤ 9218868437227405312 := by
  unfold lvF
  split
  · exact scoreF_le (rdOf_lt h _)
  · omega
/-- The levels from n on. -/
def restF (xs : List S38) (ts : List Nat) : Nat → Nat → Nat × Int → Nat × Int
  | 0, _, p => p
  | d + 1, n, p => restF xs ts d (n + 1) (pickS p (lvF xs ts n) (n : Int))
theorem restF_none (xs : List S38) (ts : List Nat) : ∀ d n p, ts.length < n → restF xs ts d n p = p
  | 0, _, _, _ => rfl
  | d + 1, n, p, h => by
    have e : lvF xs ts n = 0 := if_neg (by omega)
    have e2 : pickS p 0 (n : Int) = p := if_neg (Nat.not_lt_zero _)
    rw [restF, e, e2]
    exact restF_none xs ts d (n + 1) p (by omega)
theorem levels_is (a0 a1 a2 a3 : Int) (xs : List S38) (ts : List Nat) (hl : xs.length ≤ 9223372036854775807) (ht : ∀ x ∈ ts, x < 18446744073709551616) : ∀ d n : Nat, 4 - n = d → 1 ≤ n → n ≤ 4 → ∀ (best : Nat) (at_ : Int), best ≤ 9218868437227405312 →
    Ev (fun k => score_Pick.l1 k ts at_ best (n : Int) a0 a1 a2 a3 xs) (endOf (restF xs ts d n (best, at_)).1 (restF xs ts d n (best, at_)).2)
  | 0, n, hd, h1, hn, best, at_, hb => by
    have h : ¬ ((n : Int) < 4) := by omega
    exact Ev.step (f := fun _ => some (endOf best at_)) (fun k => by simp only [score_Pick.l1]; rw [if_neg h, endOf_eq]) (Ev.now _)
  | d + 1, n, hd, h1, hn, best, at_, hb => by
    have h : (n : Int) < 4 := by omega
    by_cases c : (n : Int) > (ts.length : Int)
    · rw [restF_none xs ts _ n _ (by omega)]
      exact Ev.step (f := fun _ => some (endOf best at_)) (fun k => by simp only [score_Pick.l1]; rw [if_pos h, if_pos c, endOf_eq]) (Ev.now _)
    · have s1 := sizes_is (n : Int) a0 a1 a2 a3 xs hl
      have hp : wrap64 ((n : Int) - 1) = (n : Int) - 1 := by unfold wrap64; omega
      have p0 : (0 : Int) ≤ wrap64 ((n : Int) - 1) := by rw [hp]; omega
      have p1 : wrap64 ((n : Int) - 1) < (ts.length : Int) := by rw [hp]; omega
      have hw := wsucc' n (by omega)
      have hsc : scoreF (szF (n : Int) xs) (rdOf (0 : Nat) ts (wrap64 ((n : Int) - 1))) = lvF xs ts n := by rw [hp]; exact (if_pos (by omega)).symm
      have hle := lvF_le (xs := xs) ht n
      have hg := ord_gt hle hb
      by_cases g : best < lvF xs ts n
      · have e : pickS (best, at_) (lvF xs ts n) (n : Int) = (lvF xs ts n, (n : Int)) := if_pos g
        rw [restF, e]
        refine Ev.step (fun k => by simp only [score_Pick.l1]; rw [if_pos h, if_neg c]) (Ev.bind s1 (Ev.congr (fun k => ?_) (levels_is a0 a1 a2 a3 xs ts hl ht d (n + 1) (by omega) (by omega) (by omega) (lvF xs ts n) (n : Int) hle)))
        rw [if_pos p0, if_pos p1, score_Score.f, hsc, Option.bind_some, hg, if_pos (decide_eq_true g), hw]
      · have e : pickS (best, at_) (lvF xs ts n) (n : Int) = (best, at_) := if_neg g
        rw [restF, e]
        refine Ev.step (fun k => by simp only [score_Pick.l1]; rw [if_pos h, if_neg c]) (Ev.bind s1 (Ev.congr (fun k => ?_) (levels_is a0 a1 a2 a3 xs ts hl ht d (n + 1) (by omega) (by omega) (by omega) best at_ hb)))
        rw [if_pos p0, if_pos p1, score_Score.f, hsc, Option.bind_some, hg, if_neg (by simp [g]), hw]
/-- The score of level 0. -/
def lv0 (xs : List S38) : Nat := scoreF (ctF xs) 4616189618054758400
theorem lv0_le (xs : List S38) : lv0 xs ≤ 9218868437227405312 := scoreF_le (by decide)
theorem counts_is (a0 a1 a2 a3 : Int) (xs : List S38) (ts : List Nat) (hl : xs.length ≤ 9223372036854775807) (ht : ∀ x ∈ ts, x < 18446744073709551616) : ∀ d n : Nat, xs.length - n = d → n ≤ xs.length → ∀ c : Int,
    (xs.drop n).foldl stepC c = ctF xs →
    Ev (fun k => score_Pick.l0 k ts 0 c xs (xs.length : Int) (n : Int) a0 a1 a2 a3 xs) (endOf (restF xs ts 3 1 (lv0 xs, 0)).1 (restF xs ts 3 1 (lv0 xs, 0)).2)
  | 0, n, hd, hn, c, hc => by
    have h : ¬ ((n : Int) < (xs.length : Int)) := by omega
    have e : xs.drop n = [] := List.drop_eq_nil_of_le (by omega)
    rw [e] at hc
    have hc' : c = ctF xs := hc
    subst hc'
    exact Ev.step (fun k => by simp only [score_Pick.l0]; rw [if_neg h, score_Score.f, Option.bind_some]; rfl) (levels_is a0 a1 a2 a3 xs ts hl ht 3 1 rfl (by omega) (by omega) (lv0 xs) 0 (lv0_le xs))
  | d + 1, n, hd, hn, c, hc => by
    have h : (n : Int) < (xs.length : Int) := by omega
    have h0 : (0 : Int) ≤ (n : Int) := by omega
    have hw := wsucc' n (by omega)
    rw [drop_rd xs n (by omega), List.foldl_cons] at hc
    by_cases z : (rd_T38 xs (n : Int)).f2 = 0
    · have e : stepC c (rd_T38 xs (n : Int)) = wrap64 (c + 1) := if_pos z
      rw [e] at hc
      exact Ev.step (fun k => by simp only [score_Pick.l0]; rw [if_pos h, if_pos h0, if_pos h, if_pos z, hw]) (counts_is a0 a1 a2 a3 xs ts hl ht d (n + 1) (by omega) (by omega) _ hc)
    · have e : stepC c (rd_T38 xs (n : Int)) = c := if_neg z
      rw [e] at hc
      exact Ev.step (fun k => by simp only [score_Pick.l0]; rw [if_pos h, if_pos h0, if_pos h, if_neg z, hw]) (counts_is a0 a1 a2 a3 xs ts hl ht d (n + 1) (by omega) (by omega) _ hc)
theorem pick_is (a0 a1 a2 a3 : Int) (xs : List S38) (ts : List Nat) (hl : xs.length ≤ 9223372036854775807) (ht : ∀ x ∈ ts, x < 18446744073709551616) :
    ∃ k, score_Pick.f k a0 a1 a2 a3 xs ts = some (endOf (restF xs ts 3 1 (lv0 xs, 0)).1 (restF xs ts 3 1 (lv0 xs, 0)).2) :=
  Ev.rounds (counts_is a0 a1 a2 a3 xs ts hl ht _ 0 rfl (Nat.zero_le _) 0 rfl)
/-- What is picked, of four scores. -/
structure PickP (l0 l1 l2 l3 : Nat) (r1 : Int) (r2 : Bool) : Prop where
  none : r2 = false → r1 = 0 ∧ max (max (max l0 l1) l2) l3 < 4607182418800017408
  some : r2 = true → ∃ (a : Nat) (la : Nat), r1 = (a : Int) ∧ a < 4 ∧ [l0, l1, l2, l3][a]? = Option.some la ∧ 4607182418800017408 ≤ la ∧ ∀ k lk, [l0, l1, l2, l3][k]? = Option.some lk → lk ≤ la ∧ (k < a → lk < la)
theorem pick_law (l0 l1 l2 l3 : Nat) (h0 : l0 ≤ 9218868437227405312) (h1 : l1 ≤ 9218868437227405312) (h2 : l2 ≤ 9218868437227405312) (h3 : l3 ≤ 9218868437227405312) (p : Nat × Int) (hp : p = pickS (pickS (pickS (l0, 0) l1 1) l2 2) l3 3) :
    PickP l0 l1 l2 l3 (endOf p.1 p.2).1 (endOf p.1 p.2).2 := by
  have key : ∃ (a : Nat), p.2 = (a : Int) ∧ a < 4 ∧ [l0, l1, l2, l3][a]? = some p.1 ∧ (∀ k lk, [l0, l1, l2, l3][k]? = some lk → lk ≤ p.1 ∧ (k < a → lk < p.1)) ∧ p.1 = max (max (max l0 l1) l2) l3 := by
    subst hp
    unfold pickS
    have fin : ∀ (a : Nat) (b : Nat), a < 4 → [l0, l1, l2, l3][a]? = some b → (l0 ≤ b ∧ (0 < a → l0 < b)) → (l1 ≤ b ∧ (1 < a → l1 < b)) → (l2 ≤ b ∧ (2 < a → l2 < b)) → (l3 ≤ b ∧ (3 < a → l3 < b)) → ∀ k lk, [l0, l1, l2, l3][k]? = some lk → lk ≤ b ∧ (k < a → lk < b) := by
      intro a b ha hb q0 q1 q2 q3 k lk hk
      match k, hk with
      | 0, hk => obtain rfl : l0 = lk := by simpa using hk
                 exact q0
      | 1, hk => obtain rfl : l1 = lk := by simpa using hk
                 exact q1
      | 2, hk => obtain rfl : l2 = lk := by simpa using hk
                 exact q2
      | 3, hk => obtain rfl : l3 = lk := by simpa using hk
                 exact q3
      | k + 4, hk => simp at hk
    by_cases c1 : l0 < l1
    · simp only [if_pos c1]
      by_cases c2 : l1 < l2
      · simp only [if_pos c2]
        by_cases c3 : l2 < l3
        · simp only [if_pos c3]
          exact ⟨3, rfl, by omega, rfl, fin 3 l3 (by omega) rfl (by omega) (by omega) (by omega) (by omega), by omega⟩
        · simp only [if_neg c3]
          exact ⟨2, rfl, by omega, rfl, fin 2 l2 (by omega) rfl (by omega) (by omega) (by omega) (by omega), by omega⟩
      · simp only [if_neg c2]
        by_cases c3 : l1 < l3
        · simp only [if_pos c3]
          exact ⟨3, rfl, by omega, rfl, fin 3 l3 (by omega) rfl (by omega) (by omega) (by omega) (by omega), by omega⟩
        · simp only [if_neg c3]
          exact ⟨1, rfl, by omega, rfl, fin 1 l1 (by omega) rfl (by omega) (by omega) (by omega) (by omega), by omega⟩
    · simp only [if_neg c1]
      by_cases c2 : l0 < l2
      · simp only [if_pos c2]
        by_cases c3 : l2 < l3
        · simp only [if_pos c3]
          exact ⟨3, rfl, by omega, rfl, fin 3 l3 (by omega) rfl (by omega) (by omega) (by omega) (by omega), by omega⟩
        · simp only [if_neg c3]
          exact ⟨2, rfl, by omega, rfl, fin 2 l2 (by omega) rfl (by omega) (by omega) (by omega) (by omega), by omega⟩
      · simp only [if_neg c2]
        by_cases c3 : l0 < l3
        · simp only [if_pos c3]
          exact ⟨3, rfl, by omega, rfl, fin 3 l3 (by omega) rfl (by omega) (by omega) (by omega) (by omega), by omega⟩
        · simp only [if_neg c3]
          exact ⟨0, rfl, by omega, rfl, fin 0 l0 (by omega) rfl (by omega) (by omega) (by omega) (by omega), by omega⟩
  obtain ⟨a, e2, ha, hat, hall, hmax⟩ := key
  have hb : p.1 ≤ 9218868437227405312 := by rw [hmax]; omega
  have ho := ord_lt hb (show 4607182418800017408 ≤ 9218868437227405312 by decide)
  unfold endOf
  by_cases g : p.1 < 4607182418800017408
  · rw [ho, if_pos (decide_eq_true g)]
    exact ⟨fun _ => ⟨rfl, hmax ▸ g⟩, fun h => by cases h⟩
  · rw [ho, if_neg (by simp [g])]
    exact ⟨fun h => (by cases h), fun _ => ⟨a, p.1, e2, ha, hat, by omega, hall⟩⟩
/-- Pick of a version of tables xs: what it tells, of the four scores. -/
theorem pick_any (a0 a1 a2 a3 : Int) (xs : List S38) (ts : List Nat) (hl : xs.length ≤ 20) (ht : ∀ x ∈ ts, x < 18446744073709551616) :
    ∃ k r1 r2, score_Pick.f k a0 a1 a2 a3 xs ts = some (r1, r2) ∧ PickP (lv0 xs) (lvF xs ts 1) (lvF xs ts 2) (lvF xs ts 3) r1 r2 := by
  obtain ⟨k, hk⟩ := pick_is a0 a1 a2 a3 xs ts (by omega) ht
  exact ⟨k, _, _, hk, pick_law _ _ _ _ (lv0_le xs) (lvF_le ht 1) (lvF_le ht 2) (lvF_le ht 3) _ rfl⟩
/-- The greatest of four words that are scores. -/
theorem max2_word {P : Program} {x y : Nat} (hx : x ≤ 9218868437227405312) (hy : y ≤ 9218868437227405312) (w : World) : (Builtin.max2 (.float .f64 x) (.float .f64 y)).run P w = .ok (.float .f64 (max x y)) w := by
  have e : FloatKind.f64.format.order x y = some (compare x y) := order_le hx hy
  unfold Builtin.max2
  simp only [e]
  rcases Nat.lt_trichotomy x y with h | h | h
  · rw [Nat.compare_eq_lt.mpr h, Nat.max_eq_right (by omega)]; rfl
  · subst h
    rw [Nat.compare_eq_eq.mpr rfl, Nat.max_self]
    simp
  · rw [Nat.compare_eq_gt.mpr h, Nat.max_eq_left (by omega)]; rfl
theorem max_word {P : Program} {a b c d : Nat} (ha : a ≤ 9218868437227405312) (hb : b ≤ 9218868437227405312) (hc : c ≤ 9218868437227405312) (hd : d ≤ 9218868437227405312) (ts : Array TypeId) (t : TypeId) (w : World) :
    (Builtin.max_ ts t #[.float .f64 a, .float .f64 b, .float .f64 c, .float .f64 d]).run P w = .ok (.float .f64 (max (max (max a b) c) d)) w := by
  unfold Builtin.max_
  simp only [List.foldlM_cons, List.foldlM_nil, Sem.run_bind, max2_word ha hb w, Result.andThen_ok, max2_word (show max a b ≤ 9218868437227405312 by omega) hc w, max2_word (show max (max a b) c ≤ 9218868437227405312 by omega) hd w, Sem.run_pure]
end Go.Proofs.Ytbmkjcgbnddgdaa.P
