/- The far store in plain words: its state, what each call tells and leaves; no program here but the number of a wrap. -/
import Derived.Test.YtbedfilammjlpaaWWords
import Derived.Test.YtbedfilammjlpaaWMore
import Derived.Laws.BytesArg
namespace Go.Proofs.Ytbedfilammjlpaa.P
open Go.RowKit Go.Proofs.YtbedfilammjlpaaW.PrintWords Go.Proofs.YtbedfilammjlpaaW.PrintMore
set_option linter.unusedVariables false
abbrev Obs := List (ByteArray × ByteArray)
/-- A far store: its objects by rising names, the outcomes to come, the calls. -/
structure FS where
  l : Obs
  nx : List Int
  calls : Int
abbrev low (a b : ByteArray) : Prop := a.data.toList < b.data.toList
def Rising (l : Obs) : Prop := l.Pairwise fun p q => low p.1 q.1
def findO (l : Obs) (s : ByteArray) : Option ByteArray := (l.find? fun p => decide (p.1 = s)).map (·.2)
def idxO (l : Obs) (s : ByteArray) : Option Nat := l.findIdx? fun p => decide (p.1 = s)
def insO : Obs → ByteArray → ByteArray → Obs
  | [], s, d => [(s, d)]
  | p :: l, s, d => if low s p.1 then (s, d) :: p :: l else p :: insO l s d
def dropO (l : Obs) (s : ByteArray) : Obs := l.eraseP fun p => decide (p.1 = s)
/-- May it be a byte of a name? -/
def nameB (c : UInt8) : Bool := (97 ≤ c && c ≤ 122) || (48 ≤ c && c ≤ 57) || c == 45 || c == 46
def named (s : ByteArray) : Bool := s.data.toList.all nameB && decide (1 ≤ s.size) && decide (s.size ≤ 40)
def FS.out (st : FS) : Int := st.nx.headD 0
def FS.took (st : FS) : FS := ⟨st.l, st.nx.tail, wrap64 (st.calls + 1)⟩
def FS.put (st : FS) (s d : ByteArray) : FS := ⟨insO st.l s d, st.nx, st.calls⟩
def FS.del (st : FS) (s : ByteArray) : FS := ⟨dropO st.l s, st.nx, st.calls⟩
def toldF (out e : Int) : Int := if out = 1 then 8 else if out = 2 then 8 else e
def putE (l : Obs) (s : ByteArray) : Int := if named s then (if (findO l s).isSome then 3 else 0) else 1
def putF (st : FS) (s d : ByteArray) : Int × FS := (toldF st.out (putE st.l s), if st.out = 1 then st.took else if putE st.l s = 0 then st.took.put s d else st.took)
/-- Of bytes from a place on so many. -/
def cutF (xs : List Int) (at_ n : Int) : List Int := (xs.take (at_ + mn n ((xs.length : Int) - at_)).toNat).drop at_.toNat
def getE (l : Obs) (s : ByteArray) (at_ n : Int) : Int := match findO l s with
  | none => 2
  | some d => if at_ < 0 then 1 else if (d.size : Int) < at_ then 1 else if n < 0 then 1 else 0
def getF (st : FS) (s : ByteArray) (at_ n : Int) : List Int × Int × FS :=
  (if toldF st.out (getE st.l s at_ n) = 0 then cutF (bytesOf ((findO st.l s).getD ByteArray.empty)) at_ n else [], toldF st.out (getE st.l s at_ n), st.took)
def listF (st : FS) : List ByteArray × Int × FS := (if toldF st.out 0 = 0 then st.l.map (·.1) else [], toldF st.out 0, st.took)
def dropE (l : Obs) (s : ByteArray) : Int := if (findO l s).isSome then 0 else 2
def dropF (st : FS) (s : ByteArray) : Int × FS := (toldF st.out (dropE st.l s), if st.out = 1 then st.took else if dropE st.l s = 0 then st.took.del s else st.took)
/-- Tried till it tells something else than 8. -/
def triesF {α : Type} (z : α) (f : FS → α × Int × FS) : Nat → FS → α × Int × FS
  | 0, st => (z, 8, st)
  | k + 1, st => if (f st).2.1 = 8 then triesF z f k (f st).2.2 else f st
def pieceF (st : FS) (s : ByteArray) (at_ n : Int) : List Int × Int × FS := triesF [] (fun st => getF st s at_ n) 4 st
def namesF (st : FS) : List ByteArray × Int × FS := triesF [] listF 4 st
def putsF (st : FS) (s d : ByteArray) : Unit × Int × FS := triesF () (fun st => ((), putF st s d)) 4 st
def dropsF (st : FS) (s : ByteArray) : Unit × Int × FS := triesF () (fun st => ((), dropF st s)) 4 st
def cdropF (st : FS) (s : ByteArray) : Int × FS := (if (dropsF st s).2.1 = 2 then 0 else (dropsF st s).2.1, (dropsF st s).2.2)
def upF (st : FS) (s d : ByteArray) : Int × FS :=
  if (putsF st s d).2.1 = 3 then
    (if (pieceF (putsF st s d).2.2 s 0 1048576).2.1 = 0 then (if strOfNums (pieceF (putsF st s d).2.2 s 0 1048576).1 = d then 0 else 3) else (pieceF (putsF st s d).2.2 s 0 1048576).2.1, (pieceF (putsF st s d).2.2 s 0 1048576).2.2)
  else ((putsF st s d).2.1, (putsF st s d).2.2)

/-! ### laws of the lists -/
theorem bytes_eq {a b : ByteArray} (h : a.data.toList = b.data.toList) : a = b := by
  cases a; cases b; simp only [ByteArray.mk.injEq]; exact Array.toList_inj.mp h
theorem low_irrefl (a : ByteArray) : ¬ low a a := List.lt_irrefl _
theorem low_trans {a b c : ByteArray} (h : low a b) (k : low b c) : low a c := List.lt_trans h k
theorem low_tri (a b : ByteArray) : low a b ∨ a = b ∨ low b a := by
  rcases List.le_total a.data.toList b.data.toList with h | h
  · rcases Decidable.em (a.data.toList = b.data.toList) with e | e
    · exact .inr (.inl (bytes_eq e))
    · exact .inl (List.not_le.1 fun h2 => e (List.le_antisymm h h2))
  · rcases Decidable.em (a.data.toList = b.data.toList) with e | e
    · exact .inr (.inl (bytes_eq e))
    · exact .inr (.inr (List.not_le.1 fun h2 => e (List.le_antisymm h2 h)))
theorem low_ne {a b : ByteArray} (h : low a b) : a ≠ b := fun e => low_irrefl a (e ▸ h)
theorem less_lt : ∀ x y : List UInt8, Op.bytesLess x y = decide (x < y)
  | [], [] => by simp [Op.bytesLess]
  | [], _ :: _ => by simp [Op.bytesLess]
  | _ :: _, [] => by simp [Op.bytesLess]
  | a :: x, b :: y => by
    have ih := less_lt x y
    simp only [Op.bytesLess, List.cons_lt_cons_iff]
    by_cases h : a < b
    · simp [h]
    · by_cases h2 : a = b
      · subst h2
        simp [ih]
      · simp [h, h2]
theorem low_bytes (a b : ByteArray) : Op.bytesLess a.toList b.toList = decide (low a b) := by
  rw [less_lt, ByteArray.toList_eq, ByteArray.toList_eq]
theorem findO_nil (s : ByteArray) : findO [] s = none := rfl
theorem findO_cons (p : ByteArray × ByteArray) (l : Obs) (s : ByteArray) : findO (p :: l) s = if p.1 = s then some p.2 else findO l s := by
  unfold findO
  rw [List.find?_cons]
  by_cases h : p.1 = s
  · simp [h]
  · simp [h]
theorem findO_low {l : Obs} {s : ByteArray} (h : ∀ p ∈ l, low s p.1) : findO l s = none := by
  induction l with
  | nil => rfl
  | cons p l ih =>
    rw [findO_cons, if_neg (fun e => low_irrefl s (by have := h p List.mem_cons_self; rwa [e] at this))]
    exact ih fun q hq => h q (List.mem_cons_of_mem _ hq)
theorem findO_mem {l : Obs} {s d : ByteArray} (h : findO l s = some d) : (s, d) ∈ l := by
  induction l with
  | nil => cases h
  | cons p l ih =>
    rw [findO_cons] at h
    split at h
    · rename_i e
      injection h with h
      subst e; subst h
      exact List.mem_cons_self
    · exact List.mem_cons_of_mem _ (ih h)
theorem findO_none {l : Obs} {s : ByteArray} : findO l s = none ↔ ∀ p ∈ l, p.1 ≠ s := by
  induction l with
  | nil => simp [findO_nil]
  | cons p l ih =>
    rw [findO_cons]
    by_cases h : p.1 = s
    · rw [if_pos h]; simp [h]
    · rw [if_neg h, ih]; simp [h]
theorem findO_ins (l : Obs) (s d t : ByteArray) (h : findO l s = none) : findO (insO l s d) t = if s = t then some d else findO l t := by
  induction l with
  | nil => rw [insO, findO_cons]
  | cons p l ih =>
    have hp : p.1 ≠ s := findO_none.1 h p List.mem_cons_self
    have hl : findO l s = none := findO_none.2 fun q hq => findO_none.1 h q (List.mem_cons_of_mem _ hq)
    rw [insO]
    split
    · rw [findO_cons]
    · rw [findO_cons, ih hl, findO_cons]
      by_cases h1 : p.1 = t
      · rw [if_pos h1, if_pos h1, if_neg (fun e => hp (h1.trans e.symm))]
      · rw [if_neg h1, if_neg h1]
theorem mem_ins {l : Obs} {s d : ByteArray} {q : ByteArray × ByteArray} (h : q ∈ insO l s d) : q = (s, d) ∨ q ∈ l := by
  induction l with
  | nil => rw [insO] at h; exact .inl (List.mem_singleton.1 h)
  | cons p l ih =>
    rw [insO] at h
    split at h
    · rcases List.mem_cons.1 h with h | h
      · exact .inl h
      · exact .inr h
    · rcases List.mem_cons.1 h with h | h
      · exact .inr (h ▸ List.mem_cons_self)
      · rcases ih h with h | h
        · exact .inl h
        · exact .inr (List.mem_cons_of_mem _ h)
theorem rising_ins {l : Obs} {s d : ByteArray} (hl : Rising l) (h : findO l s = none) : Rising (insO l s d) := by
  induction l with
  | nil => rw [insO]; exact List.pairwise_singleton ..
  | cons p l ih =>
    have hp : p.1 ≠ s := findO_none.1 h p List.mem_cons_self
    have h2 : findO l s = none := findO_none.2 fun q hq => findO_none.1 h q (List.mem_cons_of_mem _ hq)
    obtain ⟨a1, a2⟩ := List.pairwise_cons.1 hl
    rw [insO]
    split
    · rename_i hlow
      refine List.pairwise_cons.2 ⟨fun q hq => ?_, hl⟩
      rcases List.mem_cons.1 hq with e | hq
      · rw [e]; exact hlow
      · exact low_trans hlow (a1 q hq)
    · rename_i hlow
      refine List.pairwise_cons.2 ⟨fun q hq => ?_, ih a2 h2⟩
      rcases mem_ins hq with e | hq
      · rw [e]
        rcases low_tri p.1 s with c | c | c
        · exact c
        · exact absurd c hp
        · exact absurd c hlow
      · exact a1 q hq
theorem length_ins (l : Obs) (s d : ByteArray) : (insO l s d).length = l.length + 1 := by
  induction l with
  | nil => rfl
  | cons p l ih =>
    rw [insO]
    split
    · rfl
    · rw [List.length_cons, ih, List.length_cons]
theorem dropO_cons (p : ByteArray × ByteArray) (l : Obs) (s : ByteArray) : dropO (p :: l) s = if p.1 = s then l else p :: dropO l s := by
  unfold dropO
  rw [List.eraseP_cons]
  by_cases h : p.1 = s <;> simp [h]
theorem findO_drop {l : Obs} (s t : ByteArray) (hl : Rising l) : findO (dropO l s) t = if s = t then none else findO l t := by
  induction l with
  | nil => simp [dropO, findO_nil]
  | cons p l ih =>
    obtain ⟨a1, a2⟩ := List.pairwise_cons.1 hl
    rw [dropO_cons]
    by_cases h : p.1 = s
    · rw [if_pos h, findO_cons]
      by_cases h1 : s = t
      · rw [if_pos h1]
        refine findO_low fun q hq => ?_
        have := a1 q hq
        rw [h, h1] at this
        exact this
      · rw [if_neg h1, if_neg (fun e => h1 (h.symm.trans e))]
    · rw [if_neg h, findO_cons, ih a2, findO_cons]
      by_cases h1 : p.1 = t
      · rw [if_pos h1, if_pos h1, if_neg (fun e => h (h1.trans e.symm))]
      · rw [if_neg h1, if_neg h1]
theorem dropO_sub (l : Obs) (s : ByteArray) : (dropO l s).Sublist l := List.eraseP_sublist
theorem rising_drop {l : Obs} {s : ByteArray} (hl : Rising l) : Rising (dropO l s) := hl.sublist (dropO_sub l s)
theorem idxO_none {l : Obs} {s : ByteArray} (h : findO l s = none) : idxO l s = none := by
  unfold idxO
  rw [List.findIdx?_eq_none_iff]
  intro p hp
  simpa using findO_none.1 h p hp
theorem idxO_some {l : Obs} {s d : ByteArray} (h : findO l s = some d) : ∃ i, idxO l s = some i ∧ ∃ hi : i < l.length, l[i] = (s, d) ∧ (∀ j (hj : j < i), (l[j]'(Nat.lt_trans hj hi)).1 ≠ s) ∧ dropO l s = l.take i ++ l.drop (i + 1) := by
  induction l with
  | nil => cases h
  | cons p l ih =>
    rw [findO_cons] at h
    by_cases e : p.1 = s
    · rw [if_pos e] at h
      injection h with h
      refine ⟨0, by simp [idxO, List.findIdx?_cons, e], by simp, ?_, fun j hj => absurd hj (by omega), by simp [dropO_cons, e]⟩
      subst e; subst h; rfl
    · rw [if_neg e] at h
      obtain ⟨i, h1, hi, h2, h3, h4⟩ := ih h
      refine ⟨i + 1, by simp [idxO] at h1; simp [idxO, List.findIdx?_cons, e, h1], by simpa using hi, by simpa using h2, fun j hj => ?_, by rw [dropO_cons, if_neg e, h4]; rfl⟩
      cases j with
      | zero => simpa using e
      | succ j => simpa using h3 j (by omega)
theorem names_sorted {l : Obs} (hl : Rising l) {ss : List (List UInt8)} (hp : ss.Perm (l.map fun p => p.1.data.toList)) : ss.mergeSort (fun x y => decide (x ≤ y)) = l.map fun p => p.1.data.toList := by
  have hs : (l.map fun p => p.1.data.toList).Pairwise fun x y => decide (x ≤ y) = true := by
    refine List.pairwise_map.2 (hl.imp fun {a b} h => ?_)
    exact decide_eq_true (List.le_of_lt h)
  have tr : ∀ a b c : List UInt8, decide (a ≤ b) = true → decide (b ≤ c) = true → decide (a ≤ c) = true := fun a b c h1 h2 => by simp only [decide_eq_true_eq] at *; exact List.le_trans h1 h2
  have tot : ∀ a b : List UInt8, (decide (a ≤ b) || decide (b ≤ a)) = true := fun a b => by simp only [Bool.or_eq_true, decide_eq_true_eq]; exact List.le_total a b
  refine List.Perm.eq_of_pairwise (le := fun x y => decide (x ≤ y) = true) (fun a b _ _ h1 h2 => ?_) (List.pairwise_mergeSort tr tot ss) hs ((List.mergeSort_perm ss _).trans hp)
  simp only [decide_eq_true_eq] at h1 h2
  exact List.le_antisymm h1 h2
theorem findO_get {l : Obs} (hl : Rising l) (i : Nat) (hi : i < l.length) : findO l (l[i]).1 = some (l[i]).2 := by
  induction l generalizing i with
  | nil => simp at hi
  | cons p l ih =>
    obtain ⟨a1, a2⟩ := List.pairwise_cons.1 hl
    rw [findO_cons]
    cases i with
    | zero => simp
    | succ i =>
      have hi' : i < l.length := by simpa using hi
      simp only [List.getElem_cons_succ]
      rw [if_neg (low_ne (a1 _ (List.getElem_mem hi'))), ih a2 i hi']
/-! ### laws of the steps -/
theorem FS.took_l (st : FS) : st.took.l = st.l := rfl
theorem putF_rising {st : FS} {s d : ByteArray} (h : Rising st.l) : Rising (putF st s d).2.l := by
  unfold putF
  dsimp only
  split
  · exact h
  · split
    · rename_i h1 h2
      refine rising_ins h ?_
      unfold putE at h2
      split at h2
      · split at h2
        · cases h2
        · rename_i h3; show findO st.l s = none; simpa using h3
      · cases h2
    · exact h
theorem dropF_rising {st : FS} {s : ByteArray} (h : Rising st.l) : Rising (dropF st s).2.l := by
  unfold dropF
  dsimp only
  split
  · exact h
  · split
    · exact rising_drop h
    · exact h
theorem bytesOf_strOfNums {xs : List Int} (h : ∀ x ∈ xs, 0 ≤ x ∧ x ≤ 255) : bytesOf (strOfNums xs) = xs := by
  unfold bytesOf strOfNums
  simp only [List.map_map]
  conv => rhs; rw [← List.map_id xs]
  refine List.map_congr_left fun x hx => ?_
  obtain ⟨h0, h1⟩ := h x hx
  simp only [Function.comp_apply, id_eq, UInt8.toNat_ofNat']
  omega
theorem size_strOfNums (xs : List Int) : (strOfNums xs).size = xs.length := by
  show (List.map _ xs).toArray.size = _
  simp
theorem bytesOf_range (d : ByteArray) : ∀ x ∈ bytesOf d, 0 ≤ x ∧ x ≤ 255 := by
  intro x hx
  obtain ⟨b, _, rfl⟩ := List.mem_map.1 hx
  have := b.toNat_lt
  omega
theorem strOfNums_bytesOf (d : ByteArray) : strOfNums (bytesOf d) = d := by
  apply bytes_eq
  unfold bytesOf strOfNums
  simp only [List.map_map]
  conv => rhs; rw [← List.map_id d.data.toList]
  refine List.map_congr_left fun x hx => ?_
  simp
theorem cut_range {xs : List Int} (h : ∀ x ∈ xs, 0 ≤ x ∧ x ≤ 255) (a n : Int) : ∀ x ∈ cutF xs a n, 0 ≤ x ∧ x ≤ 255 := fun x hx => h x (List.mem_of_mem_take (List.mem_of_mem_drop hx))
theorem cut_length (xs : List Int) (a n : Int) : (cutF xs a n).length ≤ xs.length := by
  unfold cutF
  rw [List.length_drop, List.length_take]
  omega
end Go.Proofs.Ytbedfilammjlpaa.P
