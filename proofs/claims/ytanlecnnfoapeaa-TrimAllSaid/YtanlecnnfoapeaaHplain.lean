/- Plain words of the trim family: the order of entries, users' groups, what Trim, View, Ordered, SameEntries, Pairs come to. No memory. -/
import Derived.Test.YtanlecnnfoapeaaPx4
import Derived.Test.YtanlecnnfoapeaaPx5
import Derived.Test.YtanlecnnfoapeaaPx8
import Derived.Test.YtanlecnnfoapeaaHmake
namespace Go.Proofs.Ytanlecnnfoapeaa.P
open Go.RowKit Go.Proofs.YtanlecnnfoapeaaW.PrintWords Go.Proofs.YtanlecnnfoapeaaW.PrintLast Go.Proofs.YtanlecnnfoapeaaW.PrintMore
set_option linter.unusedVariables false
theorem wsucc (i : Nat) (h : i < 9223372036854775807) : wrap64 ((i : Int) + 1) = ((i + 1 : Nat) : Int) := by unfold wrap64; omega
theorem wpred (i : Nat) (h0 : 0 < i) (h : i ≤ 9223372036854775807) : wrap64 ((i : Int) - 1) = ((i - 1 : Nat) : Int) := by unfold wrap64; omega
/-! ### the order -/
theorem less_irrefl : ∀ a : List UInt8, Op.bytesLess a a = false
  | [] => rfl
  | x :: a => by simp [Op.bytesLess, less_irrefl a]
theorem less_trans : ∀ a b c : List UInt8, Op.bytesLess a b = true → Op.bytesLess b c = true → Op.bytesLess a c = true
  | _, _, [], _, h => by simp [Op.bytesLess] at h
  | _, [], _ :: _, h, _ => by simp [Op.bytesLess] at h
  | [], _ :: _, _ :: _, _, _ => rfl
  | x :: a, y :: b, z :: c, h, k => by
    simp only [Op.bytesLess, Bool.or_eq_true, Bool.and_eq_true, decide_eq_true_eq, beq_iff_eq] at h k ⊢
    rcases h with h | ⟨h1, h2⟩
    · rcases k with k | ⟨k1, k2⟩
      · exact .inl (by rw [UInt8.lt_iff_toNat_lt] at *; omega)
      · subst k1; exact .inl h
    · subst h1
      rcases k with k | ⟨k1, k2⟩
      · exact .inl k
      · exact .inr ⟨k1, less_trans a b c h2 k2⟩
abbrev ks (x : S34) : List UInt8 := x.f0.f0.toList
abbrev sq (x : S34) : Int := x.f0.f1
abbrev kd (x : S34) : Int := x.f0.f2
def ltK (x y : S34) : Prop := (¬ ks x = ks y ∧ Op.bytesLess (ks x) (ks y) = true) ∨ (ks x = ks y ∧ (sq x > sq y ∨ (sq x = sq y ∧ kd x > kd y)))
theorem cmpV_lt (x y : S34) : cmpV x.f0 y.f0 < 0 ↔ ltK x y := by
  unfold cmpV ltK ks sq kd
  by_cases h1 : x.f0.f0.toList = y.f0.f0.toList
  · rw [if_pos h1]
    by_cases h2 : x.f0.f1 = y.f0.f1
    · rw [if_pos h2]
      by_cases h3 : x.f0.f2 = y.f0.f2
      · rw [if_pos h3]; simp [h1, h2, h3]
      · rw [if_neg h3]
        by_cases h4 : x.f0.f2 > y.f0.f2
        · rw [if_pos h4]; simp [h1, h2, h4]
        · rw [if_neg h4]; simp [h1, h2, h4]
    · rw [if_neg h2]
      by_cases h4 : x.f0.f1 > y.f0.f1
      · rw [if_pos h4]; simp [h1, h4]
      · rw [if_neg h4]; simp [h1, h2, h4]
  · rw [if_neg h1]
    by_cases h4 : Op.bytesLess x.f0.f0.toList y.f0.f0.toList = true
    · rw [if_pos h4]; simp [h1, h4]
    · rw [if_neg h4]; simp [h1, h4]
theorem ltK_trans {x y z : S34} (h : ltK x y) (k : ltK y z) : ltK x z := by
  unfold ltK at *
  rcases h with ⟨h1, h2⟩ | ⟨h1, h2⟩
  · rcases k with ⟨k1, k2⟩ | ⟨k1, k2⟩
    · have := less_trans _ _ _ h2 k2
      exact .inl ⟨(fun e => by rw [e, less_irrefl] at this; exact absurd this (by decide)), this⟩
    · rw [k1] at h1 h2
      exact .inl ⟨h1, h2⟩
  · rcases k with ⟨k1, k2⟩ | ⟨k1, k2⟩
    · rw [← h1] at k1 k2
      exact .inl ⟨k1, k2⟩
    · refine .inr ⟨h1.trans k1, ?_⟩
      omega
theorem ltK_total {x y : S34} (h : ¬ ltK x y) (hs : sq x ≠ sq y) : ltK y x := by
  unfold ltK at *
  by_cases he : ks x = ks y
  · right
    refine ⟨he.symm, ?_⟩
    simp [he] at h
    omega
  · left
    refine ⟨fun e => he e.symm, ?_⟩
    have ht := less_total (ks x) (ks y)
    simp [he] at h
    have hq : (ks x == ks y) = false := beq_eq_false_iff_ne.mpr he
    rw [h, hq] at ht
    simpa using ht
def Srt (l : List S34) : Prop := l.Pairwise ltK
theorem ins_sorted {l : List S34} {e : S34} (h : Srt l) (hs : ∀ x ∈ l, sq x ≠ sq e) : Srt (insE l e) := by
  unfold insE posE
  have hcond : ∀ x : S34, decide (cmpV x.f0 e.f0 < 0) = true ↔ ltK x e := fun x => by rw [decide_eq_true_iff, cmpV_lt]
  induction l with
  | nil => simp [Srt]
  | cons a l ih =>
    unfold Srt at *
    rw [List.pairwise_cons] at h
    by_cases hc : ltK a e
    · rw [List.takeWhile_cons, if_pos ((hcond a).2 hc)]
      simp only [List.length_cons, List.take_succ_cons, List.drop_succ_cons, List.cons_append]
      rw [List.pairwise_cons]
      refine ⟨fun b hb => ?_, ih h.2 (fun x hx => hs x (List.mem_cons_of_mem _ hx))⟩
      rw [List.mem_append, List.mem_cons] at hb
      rcases hb with hb | rfl | hb
      · exact h.1 b (List.mem_of_mem_take hb)
      · exact hc
      · exact h.1 b (List.mem_of_mem_drop hb)
    · rw [List.takeWhile_cons, if_neg (fun h => hc ((hcond a).1 h))]
      simp only [List.length_nil, List.take_zero, List.drop_zero, List.nil_append]
      have hea := ltK_total hc (hs a List.mem_cons_self)
      rw [List.pairwise_cons, List.pairwise_cons]
      refine ⟨fun b hb => ?_, h⟩
      rcases List.mem_cons.1 hb with rfl | hb
      · exact hea
      · exact ltK_trans hea (h.1 b hb)
theorem make_sorted (a1 : Int) (l0 : List Int) : ∀ k, Srt (makeUpto a1 l0 k)
  | 0 => List.Pairwise.nil
  | k + 1 => by
    rw [makeUpto]
    refine ins_sorted (make_sorted a1 l0 k) (fun x hx => ?_)
    have := makeUpto_seq a1 l0 k x hx
    unfold sq entryOf
    simp only
    omega
/-! ### Ordered -/
theorem rd_at {l : List S34} {k : Nat} (h : k < l.length) : rd_T34 l (k : Int) = l[k] := by simp [rd_T34, List.getD_eq_getElem?_getD, h]
theorem ordered_srt {l : List S34} (h : Srt l) (hl : l.length ≤ 1000000) : Ev (fun k => iceboxref10_Ordered.f k l) true := by
  have key : ∀ d n, l.length - n = d → 1 ≤ n → Ev (fun k => iceboxref10_Ordered.l0 k l (n : Int)) true := by
    intro d
    induction d with
    | zero =>
      intro n hd hn
      refine Ev.step (f := fun _ => some true) (fun k => ?_) (Ev.now true)
      simp only [iceboxref10_Ordered.l0]
      rw [if_neg (by omega)]
    | succ d ih =>
      intro n hd hn
      have hlt : n < l.length := by omega
      refine Ev.step (fun k => ?_) (ih (n + 1) (by omega) (by omega))
      simp only [iceboxref10_Ordered.l0]
      have hc : ltK l[n - 1] l[n] := List.pairwise_iff_getElem.1 h (n - 1) n (by omega) hlt (by omega)
      have hcv := (cmpV_lt _ _).2 hc
      rw [if_pos (by omega), wpred n (by omega) (by omega), if_pos (by omega), if_pos (by omega), if_pos (by omega), rd_at hlt, rd_at (show n - 1 < l.length by omega), cmpV_f]
      simp only [Option.bind_some]
      rw [if_neg (by omega), wsucc n (by omega)]
  exact key (l.length - 1) 1 rfl (by omega)
/-! ### SameEntries -/
theorem same_self (l : List S34) (hl : l.length ≤ 1000000) : Ev (fun k => iceboxref1_SameEntries.f k l l) true := by
  have key : ∀ d n, l.length - n = d → Ev (fun k => iceboxref1_SameEntries.l0 k l l (n : Int)) true := by
    intro d
    induction d with
    | zero =>
      intro n hd
      refine Ev.step (f := fun _ => some true) (fun k => ?_) (Ev.now true)
      simp only [iceboxref1_SameEntries.l0]
      rw [if_neg (by omega)]
    | succ d ih =>
      intro n hd
      refine Ev.step (fun k => ?_) (ih (n + 1) (by omega))
      simp only [iceboxref1_SameEntries.l0]
      rw [if_pos (by omega), if_pos (by omega), if_pos (by omega), if_neg (by simp), wsucc n (by omega)]
  refine Ev.congr (fun k => ?_) (key l.length 0 rfl)
  unfold iceboxref1_SameEntries.f
  rw [if_pos rfl]
  rfl
end Go.Proofs.Ytanlecnnfoapeaa.P
