/- Plain words of the trim family: what View tells, group by group. No memory. -/
import Derived.Test.YtanlecnnfoapeaaHgroups
namespace Go.Proofs.Ytanlecnnfoapeaa.P
open Go.RowKit Go.Proofs.YtanlecnnfoapeaaW.PrintWords Go.Proofs.YtanlecnnfoapeaaW.PrintLast Go.Proofs.YtanlecnnfoapeaaW.PrintMore
set_option linter.unusedVariables false
def pairOf (x : S34) : S38 := ⟨x.f0.f0, x.f1⟩
def viewGrp (seq : Int) (p : List S34) : List S38 := match p.find? (fun x => decide (sq x ≤ seq)) with
  | some e => if kd e = 1 then [pairOf e] else []
  | none => []
def viewG (seq : Int) : List S34 → List S38
  | [] => []
  | x :: l => viewGrp seq ((x :: l).takeWhile (sameU x)) ++ viewG seq ((x :: l).dropWhile (sameU x))
termination_by l => l.length
decreasing_by exact dw_lt x l
theorem viewG_cons (seq : Int) (x : S34) (l : List S34) : viewG seq (x :: l) = viewGrp seq ((x :: l).takeWhile (sameU x)) ++ viewG seq ((x :: l).dropWhile (sameU x)) := by
  rw [viewG]
def viewS (seq : Int) : Option (List UInt8) → Bool → List S34 → List S38
  | _, _, [] => []
  | u, d, x :: l => if ((if u = some (ks x) then d else false) || decide (sq x > seq)) = true then viewS seq (some (ks x)) (if u = some (ks x) then d else false) l
    else (if kd x = 1 then [pairOf x] else []) ++ viewS seq (some (ks x)) true l
theorem rd38_at {l : List S38} {k : Nat} (h : k < l.length) : rd_T38 l (k : Int) = l[k] := by simp [rd_T38, List.getD_eq_getElem?_getD, h]
theorem some_ev (l : List S38) (hl : l.length ≤ 1000) : Ev (fun k => iceboxref10_Some.f k l false 1000) l := by
  have key : ∀ d n, l.length - n = d → n ≤ l.length → Ev (fun k => iceboxref10_Some.l0 k l false 1000 (l.take n) (n : Int)) l := by
    intro d
    induction d with
    | zero =>
      intro n hd hn
      refine Ev.step (f := fun k => iceboxref10_Some.j1 k l false 1000 (l.take n) (n : Int) false) (fun k => ?_) (Ev.step (f := fun _ => some l) (fun k => ?_) (Ev.now _))
      · simp only [iceboxref10_Some.l0]; rw [if_neg (by omega)]
      · simp only [iceboxref10_Some.j1]; rw [if_neg (by simp), List.take_of_length_le (by omega)]
    | succ d ih =>
      intro n hd hn
      have hlt : n < l.length := by omega
      have h1 := ih (n + 1) (by omega) (by omega)
      have ht : (l.take n).length = n := by rw [List.length_take]; omega
      rw [List.take_succ_eq_append_getElem hlt] at h1
      refine Ev.step (f := fun k => iceboxref10_Some.j1 k l false 1000 (l.take n) (n : Int) true) (fun k => ?_) (Ev.step (fun k => ?_) h1)
      · simp only [iceboxref10_Some.l0]; rw [if_pos (by omega), decide_eq_true (by omega)]
      · simp only [iceboxref10_Some.j1]
        rw [if_pos trivial, if_neg (by simp), if_pos (by omega), if_pos (by omega), if_pos (by omega), rd38_at hlt, wsucc n (by omega)]
  exact key l.length 0 rfl (by omega)
theorem viewS_le (seq : Int) : ∀ (l : List S34) (u : Option (List UInt8)) (d : Bool), (viewS seq u d l).length ≤ l.length
  | [], _, _ => Nat.le_refl _
  | x :: l, u, d => by
    have h1 := viewS_le seq l (some (ks x)) (if u = some (ks x) then d else false)
    have h2 := viewS_le seq l (some (ks x)) true
    rw [viewS]
    by_cases hc : ((if u = some (ks x) then d else false) || decide (sq x > seq)) = true
    · rw [if_pos hc, List.length_cons]; omega
    · rw [if_neg hc, List.length_append, List.length_cons]
      by_cases hk : kd x = 1
      · rw [if_pos hk]; simp; omega
      · rw [if_neg hk]; simp; omega
def prevU (l : List S34) (n : Nat) : Option (List UInt8) := if n = 0 then none else some (ks (rd_T34 l ((n - 1 : Nat) : Int)))
theorem prevU_succ {l : List S34} {n : Nat} (h : n < l.length) : prevU l (n + 1) = some (ks l[n]) := by
  unfold prevU
  rw [if_neg (by omega), Nat.add_sub_cancel, rd_at h]
theorem view_ev (l : List S34) (seq : Int) (hl : l.length ≤ 1000) : Ev (fun k => iceboxref10_View.f k l seq ⟨#[]⟩ ⟨#[]⟩ false 1000) (viewS seq none false l) := by
  have hnil : (⟨#[]⟩ : ByteArray).toList = [] := by simp [ByteArray.toList, ByteArray.toList.loop, ByteArray.size]
  have hless : ∀ a, Op.bytesLess a [] = false := fun a => by cases a <;> rfl
  have key : ∀ d n, l.length - n = d → n ≤ l.length → ∀ (out : List S38) (dn : Bool), out.length ≤ n →
      Ev (fun k => iceboxref10_View.l0 k l seq ⟨#[]⟩ ⟨#[]⟩ false 1000 out dn (n : Int)) (out ++ viewS seq (prevU l n) dn (l.drop n)) := by
    intro d
    induction d with
    | zero =>
      intro n hd hn out dn ho
      rw [List.drop_of_length_le (by omega)]
      simp only [viewS, List.append_nil]
      refine Ev.step (f := fun k => (iceboxref10_Some.f k out false 1000).bind fun t133 => some t133) (fun k => ?_) (Ev.bind (f := fun _ t => some t) (some_ev out (by omega)) (Ev.now _))
      simp only [iceboxref10_View.l0]
      rw [if_neg (by omega)]
    | succ d ih =>
      intro n hd hn out dn ho
      have hlt : n < l.length := by omega
      rw [List.drop_eq_getElem_cons hlt]
      have hp1 : prevU l (n + 1) = some (ks l[n]) := prevU_succ hlt
      -- what follows once the new 'done' is known
      have hj2 : ∀ dn1 : Bool, Ev (fun k => iceboxref10_View.j2 k l seq ⟨#[]⟩ ⟨#[]⟩ false 1000 out dn1 (n : Int) l[n].f0.f0 l[n].f0.f1 l[n].f0.f2)
          (out ++ (if (dn1 || decide (sq l[n] > seq)) = true then viewS seq (some (ks l[n])) dn1 (l.drop (n + 1)) else (if kd l[n] = 1 then [pairOf l[n]] else []) ++ viewS seq (some (ks l[n])) true (l.drop (n + 1)))) := by
        intro dn1
        have hj3t : ∀ o : List S38, Ev (fun k => iceboxref10_View.j3 k l seq ⟨#[]⟩ ⟨#[]⟩ false 1000 out dn1 (n : Int) true l[n].f0.f0 l[n].f0.f1 l[n].f0.f2) (out ++ viewS seq (some (ks l[n])) dn1 (l.drop (n + 1))) := by
          intro o
          have h1 := ih (n + 1) (by omega) (by omega) out dn1 (by omega)
          rw [hp1] at h1
          refine Ev.step (fun k => ?_) h1
          simp only [iceboxref10_View.j3]
          rw [if_pos trivial, wsucc n (by omega)]
        by_cases h1 : dn1 = true
        · subst h1
          simp only [Bool.true_or, if_true]
          refine Ev.step (fun k => ?_) (hj3t [])
          simp only [iceboxref10_View.j2]
          rw [if_pos trivial]
        · have e1 : dn1 = false := by simpa using h1
          subst e1
          simp only [Bool.false_or, decide_eq_true_eq]
          by_cases h2 : sq l[n] > seq
          · rw [if_pos h2]
            refine Ev.step (fun k => ?_) (hj3t [])
            simp only [iceboxref10_View.j2]
            rw [if_neg (by simp), if_pos h2]
          · rw [if_neg h2]
            have hj3f : Ev (fun k => iceboxref10_View.j3 k l seq ⟨#[]⟩ ⟨#[]⟩ false 1000 out false (n : Int) false l[n].f0.f0 l[n].f0.f1 l[n].f0.f2) (out ++ ((if kd l[n] = 1 then [pairOf l[n]] else []) ++ viewS seq (some (ks l[n])) true (l.drop (n + 1)))) := by
              by_cases h3 : kd l[n] = 1
              · rw [if_pos h3, ← List.append_assoc]
                have h1 := ih (n + 1) (by omega) (by omega) (out ++ [pairOf l[n]]) true (by simp; omega)
                rw [hp1] at h1
                refine Ev.step (fun k => ?_) h1
                simp only [iceboxref10_View.j3]
                rw [if_neg (by simp), if_pos h3, if_pos (by omega), if_pos (by omega), if_pos (by omega), wsucc n (by omega), rd_at hlt]
                rfl
              · rw [if_neg h3, List.nil_append]
                have h1 := ih (n + 1) (by omega) (by omega) out true (by omega)
                rw [hp1] at h1
                refine Ev.step (fun k => ?_) h1
                simp only [iceboxref10_View.j3]
                rw [if_neg (by simp), if_neg h3, wsucc n (by omega)]
            refine Ev.step (fun k => ?_) hj3f
            simp only [iceboxref10_View.j2]
            rw [if_neg (by simp), if_neg h2, hnil, hless, if_neg (by simp), if_pos rfl]
      have hj1 : ∀ x41 : Bool, Ev (fun k => iceboxref10_View.j1 k l seq ⟨#[]⟩ ⟨#[]⟩ false 1000 out dn (n : Int) x41 l[n].f0.f0 l[n].f0.f1 l[n].f0.f2)
          (out ++ (if ((if x41 = true then false else dn) || decide (sq l[n] > seq)) = true then viewS seq (some (ks l[n])) (if x41 = true then false else dn) (l.drop (n + 1)) else (if kd l[n] = 1 then [pairOf l[n]] else []) ++ viewS seq (some (ks l[n])) true (l.drop (n + 1)))) := by
        intro x41
        refine Ev.step (fun k => ?_) (hj2 (if x41 = true then false else dn))
        simp only [iceboxref10_View.j1]
        cases x41 <;> simp
      unfold viewS
      rcases Nat.eq_zero_or_pos n with h0 | h0
      · subst h0
        have e : prevU l 0 = none := rfl
        rw [e]
        have h1 := hj1 true
        simp only [if_true] at h1
        simp only [reduceCtorEq, if_false]
        refine Ev.step (fun k => ?_) h1
        simp only [iceboxref10_View.l0]
        rw [if_pos (by omega), if_pos (by omega), if_pos (show ((0 : Nat) : Int) = 0 from rfl), rd_at hlt]
      · have e : prevU l n = some (ks (rd_T34 l ((n - 1 : Nat) : Int))) := by unfold prevU; rw [if_neg (by omega)]
        rw [e]
        have hx : (if some (ks (rd_T34 l ((n - 1 : Nat) : Int))) = some (ks l[n]) then dn else false) = (if (ks (rd_T34 l ((n - 1 : Nat) : Int)) != ks l[n]) = true then false else dn) := by
          by_cases hq : ks (rd_T34 l ((n - 1 : Nat) : Int)) = ks l[n]
          · rw [if_pos (by rw [hq]), if_neg (by simp [hq])]
          · rw [if_neg (by simpa using hq), if_pos (by simpa using hq)]
        rw [hx]
        refine Ev.step (fun k => ?_) (hj1 _)
        simp only [iceboxref10_View.l0]
        rw [if_pos (by omega), if_pos (by omega), if_neg (by omega), wpred n h0 (by omega), if_pos (by omega), if_pos (by omega), rd_at hlt]
  have := key l.length 0 rfl (by omega) [] false (by simp)
  rw [List.nil_append] at this
  exact this
/-! ### View by groups -/
theorem viewS_done (seq : Int) (u : List UInt8) (q : List S34) : ∀ p : List S34, (∀ y ∈ p, ks y = u) → viewS seq (some u) true (p ++ q) = viewS seq (some u) true q
  | [], _ => rfl
  | x :: p, h => by
    have hx := h x List.mem_cons_self
    rw [List.cons_append, viewS, hx]
    simp only [if_true, Bool.true_or]
    exact viewS_done seq u q p (fun y hy => h y (List.mem_cons_of_mem _ hy))
theorem viewS_grp (seq : Int) (u : List UInt8) (q : List S34) : ∀ p : List S34, (∀ y ∈ p, ks y = u) → ∃ d, viewS seq (some u) false (p ++ q) = viewGrp seq p ++ viewS seq (some u) d q
  | [], _ => ⟨false, rfl⟩
  | x :: p, h => by
    have hx := h x List.mem_cons_self
    have hp := fun y hy => h y (List.mem_cons_of_mem x hy)
    rw [List.cons_append, viewS, hx]
    simp only [if_true, Bool.false_or, decide_eq_true_eq]
    by_cases hs : sq x > seq
    · rw [if_pos hs]
      obtain ⟨d, hd⟩ := viewS_grp seq u q p hp
      refine ⟨d, ?_⟩
      rw [hd]
      congr 1
      unfold viewGrp
      rw [List.find?_cons_of_neg (by simpa using hs)]
    · rw [if_neg hs, viewS_done seq u q p hp]
      refine ⟨true, ?_⟩
      congr 1
      unfold viewGrp
      rw [List.find?_cons_of_pos (by simpa using hs)]
theorem viewS_first (seq : Int) (u : Option (List UInt8)) (d : Bool) (x : S34) (l : List S34) (h : u ≠ some (ks x)) : viewS seq u d (x :: l) = viewS seq (some (ks x)) false (x :: l) := by
  rw [viewS, viewS]
  rw [if_neg h]
  simp
theorem viewS_new (seq : Int) (u : List UInt8) (d : Bool) (q : List S34) (h : ∀ y, q.head? = some y → ks y ≠ u) : viewS seq (some u) d q = viewS seq none false q := by
  cases q with
  | nil => rfl
  | cons y q =>
    have hy := h y rfl
    rw [viewS_first seq (some u) d y q (fun e => hy (by injection e with e; exact e.symm)), viewS_first seq none false y q (by simp)]
theorem tw_mem {α : Type} {p : α → Bool} {l : List α} {x : α} (h : x ∈ l.takeWhile p) : p x = true := by
  induction l with
  | nil => simp at h
  | cons a l ih =>
    rw [List.takeWhile_cons] at h
    split at h
    · rename_i ha
      rcases List.mem_cons.1 h with rfl | h
      · exact ha
      · exact ih h
    · simp at h
theorem dw_head {α : Type} {p : α → Bool} {l : List α} {x : α} (h : (l.dropWhile p).head? = some x) : p x = false := by
  induction l with
  | nil => simp at h
  | cons a l ih =>
    rw [List.dropWhile_cons] at h
    split at h
    · exact ih h
    · rename_i ha
      simp at h
      subst h
      simpa using ha
theorem tw_dw {α : Type} (p : α → Bool) (l : List α) : l.takeWhile p ++ l.dropWhile p = l := List.takeWhile_append_dropWhile
theorem viewS_G (seq : Int) : ∀ (n : Nat) (l : List S34), l.length = n → viewS seq none false l = viewG seq l := by
  intro n
  induction n using Nat.strongRecOn with
  | ind n ih =>
    intro l hn
    cases l with
    | nil => rw [viewG]; rfl
    | cons x l =>
      rw [viewG_cons]
      have hlt := dw_lt x l
      have hp : ∀ y ∈ (x :: l).takeWhile (sameU x), ks y = ks x := fun y hy => by simpa [sameU] using tw_mem hy
      have hq : ∀ y, ((x :: l).dropWhile (sameU x)).head? = some y → ks y ≠ ks x := fun y hy => by simpa [sameU] using dw_head hy
      rw [viewS_first seq none false x l (by simp)]
      have e := tw_dw (sameU x) (x :: l)
      generalize (x :: l).takeWhile (sameU x) = p at *
      generalize (x :: l).dropWhile (sameU x) = q at *
      rw [← e]
      obtain ⟨d, hd⟩ := viewS_grp seq (ks x) q p hp
      rw [hd, viewS_new seq (ks x) d q hq, ih q.length (by omega) q rfl]
theorem view_G (l : List S34) (seq : Int) (hl : l.length ≤ 1000) : Ev (fun k => iceboxref10_View.f k l seq ⟨#[]⟩ ⟨#[]⟩ false 1000) (viewG seq l) := by
  rw [← viewS_G seq l.length l rfl]
  exact view_ev l seq hl
end Go.Proofs.Ytanlecnnfoapeaa.P
