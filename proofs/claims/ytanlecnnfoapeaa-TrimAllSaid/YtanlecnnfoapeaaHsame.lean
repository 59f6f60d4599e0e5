/- Plain words of the trim family: the document's Trim and Cut come to what the program's do. No memory. -/
import Derived.Test.YtanlecnnfoapeaaPx6
import Derived.Test.YtanlecnnfoapeaaHref
import Derived.Test.YtanlecnnfoapeaaHsees
namespace Go.Proofs.Ytanlecnnfoapeaa.Pure
open Go.RowKit Go.Proofs.Ytanlecnnfoapeaa.P Go.Proofs.YtanlecnnfoapeaaW.PrintWords Go.Proofs.YtanlecnnfoapeaaW.PrintLast Go.Proofs.YtanlecnnfoapeaaW.PrintMore
set_option linter.unusedVariables false
/-! ### Cut -/
def cutP (most : Int) : List (List S34) → List S34 → List S34 → List (List S34)
  | out, part, [] => if 0 < part.length then out ++ [part] else out
  | out, part, x :: l => if 0 < part.length ∧ (part.length : Int) ≥ most ∧ ¬ ks (rd_T34 part ((part.length - 1 : Nat) : Int)) = ks x then cutP most (out ++ [part]) [x] l else cutP most out (part ++ [x]) l
theorem cut_ev (l : List S34) (most : Int) (hl : l.length ≤ 100000) : Ev (fun k => trim_Cut.f k l most) (cutP most [] [] l) := by
  have key : ∀ d n, l.length - n = d → n ≤ l.length → ∀ (out : List (List S34)) (part : List S34), out.length ≤ n → part.length ≤ n →
      Ev (fun k => trim_Cut.l0 k most out part l (l.length : Int) (n : Int)) (cutP most out part (l.drop n)) := by
    intro d
    induction d with
    | zero =>
      intro n hd hn out part ho hp
      rw [List.drop_of_length_le (by omega), cutP]
      by_cases h : 0 < part.length
      · rw [if_pos h]
        refine Ev.step (f := fun _ => some (out ++ [part])) (fun k => ?_) (Ev.now _)
        simp only [trim_Cut.l0]
        rw [if_neg (by omega), if_pos (by omega), if_pos (by omega)]
      · rw [if_neg h]
        refine Ev.step (f := fun _ => some out) (fun k => ?_) (Ev.now _)
        simp only [trim_Cut.l0]
        rw [if_neg (by omega), if_neg (by omega)]
    | succ d ih =>
      intro n hd hn out part ho hp
      have hlt : n < l.length := by omega
      rw [List.drop_eq_getElem_cons hlt, cutP]
      have hmore := ih (n + 1) (by omega) (by omega) out (part ++ [l[n]]) (by omega) (by simp; omega)
      have hcut := ih (n + 1) (by omega) (by omega) (out ++ [part]) [l[n]] (by simp; omega) (by simp)
      by_cases h1 : 0 < part.length
      · by_cases h2 : (part.length : Int) ≥ most
        · by_cases h3 : ks (rd_T34 part ((part.length - 1 : Nat) : Int)) = ks l[n]
          · rw [if_neg (fun h => h.2.2 h3)]
            refine Ev.step (fun k => ?_) hmore
            simp only [trim_Cut.l0]
            rw [if_pos (by omega), if_pos (by omega), if_pos (by omega), if_pos (by omega), if_pos h2, wpred _ h1 (by omega), if_pos (by omega), if_pos (by omega), rd_at hlt, if_pos h3, if_pos (by omega), wsucc n (by omega)]
          · rw [if_pos ⟨h1, h2, h3⟩]
            refine Ev.step (fun k => ?_) hcut
            simp only [trim_Cut.l0]
            rw [if_pos (by omega), if_pos (by omega), if_pos (by omega), if_pos (by omega), if_pos h2, wpred _ h1 (by omega), if_pos (by omega), if_pos (by omega), rd_at hlt, if_neg h3, if_pos (by omega), if_pos (by simp), wsucc n (by omega)]
            rfl
        · rw [if_neg (fun h => h2 h.2.1)]
          refine Ev.step (fun k => ?_) hmore
          simp only [trim_Cut.l0]
          rw [if_pos (by omega), if_pos (by omega), if_pos (by omega), if_pos (by omega), if_neg h2, if_pos (by omega), wsucc n (by omega), rd_at hlt]
      · rw [if_neg (fun h => h1 h.1)]
        refine Ev.step (fun k => ?_) hmore
        simp only [trim_Cut.l0]
        rw [if_pos (by omega), if_pos (by omega), if_pos (by omega), if_neg (by omega), if_pos (by omega), wsucc n (by omega), rd_at hlt]
  exact key l.length 0 rfl (by omega) [] [] (by simp) (by simp)
theorem rcut_ev (l : List S34) (most : Int) (hl : l.length ≤ 100000) : Ev (fun k => iceboxref17_Cut.f k l most) (cutP most [] [] l) := by
  have key : ∀ d n, l.length - n = d → n ≤ l.length → ∀ (out : List (List S34)) (part : List S34), out.length ≤ n → part.length ≤ n → (0 < part.length → ∀ h : n - 1 < l.length, rd_T34 part ((part.length - 1 : Nat) : Int) = l[n - 1]) →
      Ev (fun k => iceboxref17_Cut.l0 k l most out part (n : Int)) (cutP most out part (l.drop n)) := by
    intro d
    induction d with
    | zero =>
      intro n hd hn out part ho hp _
      rw [List.drop_of_length_le (by omega), cutP]
      by_cases h : 0 < part.length
      · rw [if_pos h]
        refine Ev.step (f := fun _ => some (out ++ [part])) (fun k => ?_) (Ev.now _)
        simp only [iceboxref17_Cut.l0]
        rw [if_neg (by omega), if_pos (by omega), if_pos (by omega)]
      · rw [if_neg h]
        refine Ev.step (f := fun _ => some out) (fun k => ?_) (Ev.now _)
        simp only [iceboxref17_Cut.l0]
        rw [if_neg (by omega), if_neg (by omega)]
    | succ d ih =>
      intro n hd hn out part ho hp hla
      have hlt : n < l.length := by omega
      rw [List.drop_eq_getElem_cons hlt, cutP]
      have hmore := ih (n + 1) (by omega) (by omega) out (part ++ [l[n]]) (by omega) (by simp; omega) (fun _ h => by
        rw [List.length_append, List.length_singleton, Nat.add_sub_cancel, rd_at (by simp)]
        simp)
      have hcut := ih (n + 1) (by omega) (by omega) (out ++ [part]) [l[n]] (by simp; omega) (by simp) (fun _ h => by simp [rd_T34])
      have hmx : (part.length : Int) ≥ mx 1 most ↔ 0 < part.length ∧ (part.length : Int) ≥ most := by unfold mx; split <;> omega
      by_cases h2 : (part.length : Int) ≥ mx 1 most
      · obtain ⟨h1, h2'⟩ := hmx.1 h2
        have hl1 : n - 1 < l.length := by omega
        have hlast := hla h1 hl1
        by_cases h3 : ks l[n] = ks l[n - 1]
        · rw [if_neg (fun h => h.2.2 (by rw [hlast]; exact h3.symm))]
          refine Ev.step (fun k => ?_) hmore
          simp only [iceboxref17_Cut.l0]
          rw [if_pos (by omega), if_pos h2, if_pos (by omega), wpred n (by omega) (by omega), if_pos (by omega), if_pos (by omega), rd_at hlt, rd_at hl1, if_pos h3, if_pos (by omega), wsucc n (by omega)]
        · rw [if_pos ⟨h1, h2', fun h => h3 (by rw [hlast] at h; exact h.symm)⟩]
          refine Ev.step (fun k => ?_) hcut
          simp only [iceboxref17_Cut.l0]
          rw [if_pos (by omega), if_pos h2, if_pos (by omega), wpred n (by omega) (by omega), if_pos (by omega), if_pos (by omega), rd_at hlt, rd_at hl1, if_neg h3, if_pos (by omega), if_pos (by simp), wsucc n (by omega)]
          rfl
      · rw [if_neg (fun h => h2 (hmx.2 ⟨h.1, h.2.1⟩))]
        refine Ev.step (fun k => ?_) hmore
        simp only [iceboxref17_Cut.l0]
        rw [if_pos (by omega), if_neg h2, if_pos (by omega), if_pos (by omega), wsucc n (by omega), rd_at hlt]
  exact key l.length 0 rfl (by omega) [] [] (by simp) (by simp) (fun h => by simp at h)
/-! ### Trim -/
theorem trimR_mem (l : List S34) (snaps : List Int) (b : Bool) : ∀ n, n ≤ l.length → ∀ y ∈ trimR l snaps b n, y ∈ l.take n
  | 0, _, y, hy => by simp [trimR] at hy
  | n + 1, hn, y, hy => by
    have hlt : n < l.length := by omega
    rw [List.take_succ_eq_append_getElem hlt, List.mem_append]
    unfold trimR at hy
    rcases List.mem_append.1 hy with hy | hy
    · left
      refine trimR_mem l snaps b n (by omega) y ?_
      split at hy
      · exact List.mem_of_mem_take hy
      · exact hy
    · right
      split at hy
      · rw [List.mem_singleton.1 hy, rd_at hlt]
        exact List.mem_singleton.2 rfl
      · simp at hy
theorem bareN_app (u : ByteArray) (X A : List S34) (hX : ∀ y ∈ X, ks y ≠ u.toList) (hA : ∀ y ∈ A, ks y = u.toList) : ∀ m, m ≤ A.length → bareN u (X ++ A) (X.length + m) = X.length + (strip (A.take m)).length
  | 0, _ => by
    rw [List.take_zero]
    have e : (strip []).length = 0 := rfl
    rw [e, Nat.add_zero]
    cases hx : X.length with
    | zero => rfl
    | succ n =>
      have hlt : n < X.length := by omega
      rw [bareN, if_neg]
      intro h
      rw [rd_at (by simp; omega), List.getElem_append_left hlt] at h
      exact hX _ (List.getElem_mem hlt) h.1
  | m + 1, hm => by
    have hlt : m < A.length := by omega
    have ih := bareN_app u X A hX hA m (by omega)
    have hr : rd_T34 (X ++ A) ((X.length + m : Nat) : Int) = A[m] := by
      rw [rd_at (by simp; omega), List.getElem_append_right (by omega)]
      simp
    rw [List.take_succ_eq_append_getElem hlt, strip_snoc, show X.length + (m + 1) = (X.length + m) + 1 from rfl, bareN, hr]
    by_cases hk : kd A[m] = 2
    · rw [if_pos ⟨hA _ (List.getElem_mem hlt), hk⟩, if_pos hk, ih]
    · rw [if_neg (fun h => hk h.2), if_neg hk]
      simp
      omega
theorem strip_pre (A : List S34) : strip A = A.take (strip A).length := by
  have key : ∀ (n : Nat) (l : List S34), l.length = n → strip l = l.take (strip l).length := by
    intro n
    induction n with
    | zero => intro l h; rw [List.length_eq_zero_iff.1 h]; rfl
    | succ n ih =>
      intro l h
      rcases snoc_cases l with rfl | ⟨p, x, rfl⟩
      · rfl
      · rw [strip_snoc]
        by_cases hk : kd x = 2
        · rw [if_pos hk, List.take_append_of_le_length (strip_le p)]
          exact ih p (by simpa using h)
        · rw [if_neg hk, List.take_of_length_le (Nat.le_refl _)]
  exact key _ A rfl
theorem cutOf_app (u : List UInt8) (X A : List S34) (hX : ∀ y ∈ X, ks y ≠ u) (hA : ∀ y ∈ A, ks y = u) (hp : 0 < A.length) : cutOf (X ++ A) = X ++ strip A := by
  have hlast : rd_T34 (X ++ A) (((X ++ A).length - 1 : Nat) : Int) = A[A.length - 1] := by
    rw [rd_at (by simp; omega), List.getElem_append_right (by simp; omega)]
    simp
    congr 1
    omega
  have hu : ks A[A.length - 1] = u := hA _ (List.getElem_mem _)
  unfold cutOf bareOf
  rw [if_neg (by rw [List.length_append]; omega), hlast]
  have hb := bareN_app (A[A.length - 1]).f0.f0 X A (fun y hy => by rw [show (A[A.length - 1]).f0.f0.toList = u from hu]; exact hX y hy) (fun y hy => by rw [show (A[A.length - 1]).f0.f0.toList = u from hu]; exact hA y hy) A.length (Nat.le_refl _)
  rw [List.take_of_length_le (Nat.le_refl _)] at hb
  rw [List.length_append, hb, List.take_append, List.take_of_length_le (by omega)]
  congr 1
  rw [show X.length + (strip A).length - X.length = (strip A).length by omega]
  exact (strip_pre A).symm
theorem grp_desc {l : List S34} (h : Srt l) {u : List UInt8} (hu : ∀ y ∈ l, ks y = u) {i j : Nat} (hi : i < j) (hj : j < l.length) : sq l[i] ≥ sq l[j] := by
  have := List.pairwise_iff_getElem.1 h i j (by omega) hj hi
  rcases this with h1 | h1
  · exact absurd ((hu _ (List.getElem_mem (by omega))).trans (hu _ (List.getElem_mem hj)).symm) h1.1
  · omega
theorem firstLe_iff {l : List S34} {s : Int} {j : Nat} (hj : j < l.length) : firstLe l s = some j ↔ sq l[j] ≤ s ∧ ∀ i (h : i < j), sq (l[i]'(by omega)) > s := by
  unfold firstLe
  rw [List.findIdx?_eq_some_iff_getElem]
  constructor
  · rintro ⟨h, h1, h2⟩
    refine ⟨by simpa using h1, fun i hi => ?_⟩
    have := h2 i hi
    simpa using this
  · rintro ⟨h1, h2⟩
    refine ⟨hj, by simpa using h1, fun i hi => ?_⟩
    have := h2 i hi
    simpa using this
theorem grp_mark {p : List S34} (h : Srt p) {u : List UInt8} (hu : ∀ y ∈ p, ks y = u) (snaps : List Int) {j : Nat} (h0 : 0 < j) (hj : j < p.length) :
    (marks p snaps).getD j false = snaps.any (fun s => decide (sq p[j] ≤ s) && decide (sq (p[j - 1]'(by omega)) > s)) := by
  rw [Bool.eq_iff_iff, List.any_eq_true]
  constructor
  · intro hm
    rcases marks_why hm with e | ⟨s, hs, hf⟩
    · omega
    · obtain ⟨h1, h2⟩ := (firstLe_iff hj).1 hf
      exact ⟨s, hs, by simp only [Bool.and_eq_true, decide_eq_true_eq]; exact ⟨h1, h2 (j - 1) (by omega)⟩⟩
  · rintro ⟨s, hs, hc⟩
    simp only [Bool.and_eq_true, decide_eq_true_eq] at hc
    refine marks_look (s := s) ((firstLe_iff hj).2 ⟨hc.1, fun i hi => ?_⟩) hs
    rcases Nat.lt_or_ge i (j - 1) with hij | hij
    · have := grp_desc h hu hij (by omega)
      omega
    · obtain rfl : i = j - 1 := by omega
      exact hc.2
def fin (l : List S34) (snaps : List Int) (b : Bool) (n : Nat) : List S34 := if b = true then cutOf (trimR l snaps b n) else trimR l snaps b n
theorem cutOf_nil : cutOf [] = [] := rfl
theorem ref_grp (snaps : List Int) (b : Bool) (l pre p q : List S34) (u : List UInt8) (hl : l = pre ++ (p ++ q)) (hs : Srt l) (hp0 : 0 < p.length) (hp : ∀ y ∈ p, ks y = u) (hpre : ∀ y ∈ pre, ks y ≠ u) :
    ∀ j, 0 < j → j ≤ p.length → trimR l snaps b (pre.length + j) = fin l snaps b pre.length ++ pick (p.take j) ((marks p snaps).take j) := by
  have hps : Srt p := by
    rw [hl] at hs
    exact List.Pairwise.sublist ((List.sublist_append_left p q).trans (List.sublist_append_right pre (p ++ q))) hs
  have hat : ∀ i, (h : i < p.length) → rd_T34 l ((pre.length + i : Nat) : Int) = p[i] := by
    intro i h
    have h1 : pre.length + i < l.length := by rw [hl]; simp; omega
    rw [rd_at h1]
    subst hl
    rw [List.getElem_append_right (by omega)]
    simp only [Nat.add_sub_cancel_left]
    rw [List.getElem_append_left h]
  intro j
  induction j with
  | zero => intro h; omega
  | succ j ih =>
    intro _ hj
    have hjl : j < p.length := by omega
    rw [show pre.length + (j + 1) = (pre.length + j) + 1 from rfl, trimR, hat j hjl]
    rw [pick_snoc p (marks p snaps) j hjl (marks_length _ _), rd_at hjl]
    rcases Nat.eq_zero_or_pos j with h0 | h0
    · subst h0
      have hm : (marks p snaps).getD 0 false = true := marks_head snaps hp0
      have hnew : newUser l (pre.length + 0) = true := by
        unfold newUser
        rcases Nat.eq_zero_or_pos pre.length with he | he
        · simp [he]
        · have e1 : rd_T34 l ((pre.length + 0 - 1 : Nat) : Int) = pre[pre.length - 1] := by
            have h1 : pre.length - 1 < l.length := by rw [hl]; simp; omega
            rw [show pre.length + 0 - 1 = pre.length - 1 from rfl, rd_at h1]
            subst hl
            rw [List.getElem_append_left (by omega)]
          rw [e1, hat 0 hp0]
          have h2 := hpre _ (List.getElem_mem (l := pre) (n := pre.length - 1) (by omega))
          have h3 := hp _ (List.getElem_mem hp0)
          simp only [Bool.or_eq_true, Bool.not_eq_true', beq_eq_false_iff_ne]
          right
          show ks pre[pre.length - 1] ≠ ks p[0]
          rw [h3]
          exact h2
      have hseen : seenB l (pre.length + 0) snaps = true := by unfold seenB; rw [hnew]; rfl
      rw [hseen, hnew, hm]
      simp only [if_true, List.take_zero, pick, List.nil_append, Nat.add_zero, Bool.and_true]
      congr 1
      unfold fin
      cases b
      · simp
      · simp only [Bool.true_and, decide_eq_true_eq, if_true]
        rcases Nat.eq_zero_or_pos pre.length with he | he
        · rw [if_neg (by omega), he]; rfl
        · rw [if_pos he]
    · have e1 : rd_T34 l ((pre.length + j - 1 : Nat) : Int) = p[j - 1] := by
        rw [show pre.length + j - 1 = pre.length + (j - 1) by omega]
        exact hat (j - 1) (by omega)
      have hnew : newUser l (pre.length + j) = false := by
        unfold newUser
        rw [e1, hat j hjl]
        have h2 := hp _ (List.getElem_mem (l := p) (n := j - 1) (by omega))
        have h3 := hp _ (List.getElem_mem hjl)
        simp only [Bool.or_eq_false_iff]
        refine ⟨by simp; omega, ?_⟩
        simp only [Bool.not_eq_false', beq_iff_eq]
        exact h2.trans h3.symm
      have hseen : seenB l (pre.length + j) snaps = (marks p snaps).getD j false := by
        unfold seenB
        rw [hnew, Bool.false_or, grp_mark hps hp snaps h0 hjl, hat j hjl, e1]
      rw [hseen, hnew, ih h0 (by omega)]
      simp only [Bool.and_false, Bool.false_eq_true, if_false, List.append_assoc]
theorem ref_all (snaps : List Int) (b : Bool) (l : List S34) (hs : Srt l) : ∀ (n : Nat) (rest pre : List S34), rest.length = n → l = pre ++ rest → (∀ y ∈ pre, ∀ z ∈ rest, ks y ≠ ks z) → fin l snaps b l.length = fin l snaps b pre.length ++ trimG snaps b rest := by
  intro n
  induction n using Nat.strongRecOn with
  | ind n ih =>
    intro rest pre hn hl hd
    cases rest with
    | nil => rw [trimG, List.append_nil, hl]; simp
    | cons x r =>
      have hlt := dw_lt x r
      have hpos := tw_pos x r
      have htd := tw_dw (sameU x) (x :: r)
      have hp : ∀ y ∈ (x :: r).takeWhile (sameU x), ks y = ks x := fun y hy => by simpa [sameU] using tw_mem hy
      have hrs : Srt (x :: r) := by rw [hl] at hs; exact List.Pairwise.sublist (List.sublist_append_right pre (x :: r)) hs
      have hne := dw_ne hrs
      have hpre : ∀ y ∈ pre, ks y ≠ ks x := fun y hy => hd y hy x List.mem_cons_self
      rw [trimG_cons]
      generalize (x :: r).takeWhile (sameU x) = p at *
      generalize (x :: r).dropWhile (sameU x) = q at *
      rw [← htd] at hl
      have hg := ref_grp snaps b l pre p q (ks x) hl hs hpos hp hpre p.length hpos (Nat.le_refl _)
      rw [List.take_of_length_le (Nat.le_refl _), List.take_of_length_le (by rw [marks_length]; exact Nat.le_refl _)] at hg
      have h1 := ih q.length (by omega) q (pre ++ p) rfl (by rw [hl, List.append_assoc]) (fun y hy z hz => by
        rcases List.mem_append.1 hy with hy | hy
        · exact hd y hy z (by rw [← htd]; exact List.mem_append_right _ hz)
        · rw [hp y hy]
          exact fun e => hne z hz e.symm)
      rw [h1, ← List.append_assoc]
      congr 1
      have hfm : ∀ y ∈ fin l snaps b pre.length, ks y ≠ ks x := by
        intro y hy
        have : y ∈ l.take pre.length := by
          refine trimR_mem l snaps b pre.length (by rw [hl]; simp) y ?_
          unfold fin at hy
          split at hy
          · exact List.mem_of_mem_take hy
          · exact hy
        rw [hl, List.take_left] at this
        exact hpre y this
      have hpk : 0 < (pick p (marks p snaps)).length := by
        cases p with
        | nil => simp at hpos
        | cons a p =>
          have hm : (marks (a :: p) snaps).getD 0 false = true := marks_head snaps hpos
          have hml := marks_length (a :: p) snaps
          generalize marks (a :: p) snaps = k at *
          cases k with
          | nil => simp at hml
          | cons c k =>
            have : c = true := by simpa using hm
            subst this
            simp [pick]
      rw [List.length_append]
      unfold fin at hfm hg ⊢
      rw [hg]
      unfold bot
      cases b
      · simp
      · simp only [if_true] at hfm ⊢
        exact cutOf_app (ks x) _ _ hfm (fun y hy => hp y ((pick_sub _ _).subset hy)) hpk
theorem ref_trim (snaps : List Int) (b : Bool) (l : List S34) (hs : Srt l) (hl : l.length ≤ 100000) : iceboxref17_Trim.f l snaps b = some (trimG snaps b l) := by
  have h := ref_all snaps b l hs _ l [] rfl rfl (fun y hy => by simp at hy)
  have e : fin l snaps b ([] : List S34).length = [] := by unfold fin; cases b <;> rfl
  rw [e, List.nil_append] at h
  unfold iceboxref17_Trim.f
  rw [if_pos (by omega), ← h]
  rfl
end Go.Proofs.Ytanlecnnfoapeaa.Pure
