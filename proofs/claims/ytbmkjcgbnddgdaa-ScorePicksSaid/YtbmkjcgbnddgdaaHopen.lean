/- An argument of any kind, opened: what it reads as is a value of the print's kinds. -/
import Derived.Test.YtbmkjcgbnddgdaaWWords
import Derived.Deep.Slices
import Derived.Deep.Fields
import Derived.ChangeSame
import Derived.Test.YtbmkjcgbnddgdaaHcontr
namespace Go.Proofs.Ytbmkjcgbnddgdaa.Open
open Go.RowKit Go.ChangeShapes Go.WideShapes Go.Deep Go.Proofs.YtbmkjcgbnddgdaaW.PrintWords
section
variable {H : Type} {enc : TypeId × Value → H} {P : Program} {w : World} {base : Nat} {spare : Nat → Bool} {held : Bool}
/-- Cells that can be read at type t are those of a value of kind d, of which ok holds. -/
structure Opens (enc : TypeId × Value → H) (P : Program) (w : World) (base : Nat) (spare : Nat → Bool) (held : Bool) (t : TypeId) {α : Type} (d : Kd α) (ok : α → Prop) : Prop where
  out : ∀ fuel cs y, DataW.trod enc P w base spare held fuel t cs = some y → ∃ x, d.K w x cs ∧ ok x
theorem opens_int {t : TypeId} {k : IntKind} (ht : P.underlying t = some (.int k)) : Opens enc P w base spare held t (Kd.int k) (fun n => (Lit.int k n).wf = true) :=
  ⟨fun fuel cs y h => by
    obtain ⟨n, rfl, _, hw⟩ := DataW.trod_int ht h
    exact ⟨n, rfl, hw⟩⟩
theorem opens_bool {t : TypeId} (ht : P.underlying t = some .bool) : Opens enc P w base spare held t Kd.bool (fun _ => True) :=
  ⟨fun fuel cs y h => by
    obtain ⟨b, rfl, _⟩ := DataW.trod_bool ht h
    exact ⟨b, rfl, trivial⟩⟩
theorem opens_string {t : TypeId} (ht : P.underlying t = some .string) : Opens enc P w base spare held t Kd.string (fun s => s.size ≤ maxLen) :=
  ⟨fun fuel cs y h => by
    obtain ⟨s, rfl, _, hs⟩ := DataW.trod_string ht h
    exact ⟨s, rfl, hs⟩⟩
theorem opens_float {t : TypeId} (ht : P.underlying t = some (.float .f64)) : Opens enc P w base spare held t Go.Proofs.Ytbmkjcgbnddgdaa.P.kF64 (fun b => b < 18446744073709551616) :=
  ⟨fun fuel cs y h => by
    cases fuel with
    | zero => simp [DataW.trod] at h
    | succ n =>
      simp only [DataW.trod, ht] at h
      match cs, h with
      | [.float .f64 b], h =>
        by_cases hw : (Lit.float .f64 b).wf = true
        · exact ⟨b, rfl, by simpa [Lit.wf] using hw⟩
        · simp [hw] at h
      | [.float .f32 b], h => simp at h⟩
theorem opens_iso {t : TypeId} {α β : Type} {d : Kd α} {ok : α → Prop} {f : β → α} (g : α → β) (hg : ∀ a, f (g a) = a) (h : Opens enc P w base spare held t d ok) : Opens enc P w base spare held t (Kd.iso d f) (fun b => ok (f b)) :=
  ⟨fun fuel cs y hy => by
    obtain ⟨x, hx, hok⟩ := h.out fuel cs y hy
    exact ⟨g x, by show d.K w (f (g x)) cs; rw [hg]; exact hx, by show ok (f (g x)); rw [hg]; exact hok⟩⟩
/-- What a row of fields from a place on says. -/
structure OpensAt (enc : TypeId × Value → H) (P : Program) (w : World) (base : Nat) (spare : Nat → Bool) (held : Bool) (fs : List Field) (off : Nat) {α : Type} (d : Kd α) (ok : α → Prop) : Prop where
  out : ∀ fuel (cs : List Value), cs.length = off + d.sz → (∀ f ∈ fs, ∃ y, DataW.trod enc P w base spare held fuel f.type ((cs.drop f.offset).take (P.cellsOf f.type)) = some y) → ∃ x, d.K w x (cs.drop off) ∧ ok x
theorem opens_last {α : Type} {d : Kd α} {ok : α → Prop} {f : Field} {off : Nat} (hf : f.offset = off) (hc : P.cellsOf f.type = d.sz) (h : Opens enc P w base spare held f.type d ok) : OpensAt enc P w base spare held [f] off d ok :=
  ⟨fun fuel cs hl hy => by
    obtain ⟨y, hy⟩ := hy f (List.mem_singleton.2 rfl)
    rw [hf, hc, List.take_of_length_le (by rw [List.length_drop]; omega)] at hy
    exact h.out fuel _ y hy⟩
theorem opens_more {α β : Type} {d : Kd α} {ok : α → Prop} {d' : Kd β} {ok' : β → Prop} {f : Field} {fs : List Field} {off : Nat} (hf : f.offset = off) (hc : P.cellsOf f.type = d.sz) (h : Opens enc P w base spare held f.type d ok) (hm : OpensAt enc P w base spare held fs (off + d.sz) d' ok') :
    OpensAt enc P w base spare held (f :: fs) off (Kd.pair d d') (fun x => ok x.1 ∧ ok' x.2) :=
  ⟨fun fuel cs hl hy => by
    obtain ⟨y, hy0⟩ := hy f List.mem_cons_self
    rw [hf, hc] at hy0
    obtain ⟨x, hx, hok⟩ := h.out fuel _ y hy0
    have hl' : cs.length = off + (d.sz + d'.sz) := hl
    obtain ⟨x', hx', hok'⟩ := hm.out fuel cs (by omega) (fun f' hf' => hy f' (List.mem_cons_of_mem _ hf'))
    refine ⟨(x, x'), ⟨_, _, ?_, hx, hx'⟩, hok, hok'⟩
    rw [← List.drop_drop]
    exact (List.take_append_drop _ _).symm⟩
theorem opens_struct {t : TypeId} {fs : Array Field} {α : Type} {d : Kd α} {ok : α → Prop} (ht : P.underlying t = some (.struct fs)) (hc : P.cellsOf t = d.sz) (h : OpensAt enc P w base spare held fs.toList 0 d ok) : Opens enc P w base spare held t d ok :=
  ⟨fun fuel cs y hy => by
    obtain ⟨xs, n, _, _, hl, hxl, hf⟩ := DataW.trod_struct ht hy
    have := h.out n cs (by omega) (fun f hfm => by
      obtain ⟨j, hj, rfl⟩ := List.getElem_of_mem hfm
      have h1 := hf j fs.toList[j] (by rw [Array.length_toList] at hj; rw [Array.getElem_toList]; exact Array.getElem?_eq_getElem hj)
      have h2 : xs[j]? = some (xs[j]'(by simp at hj; omega)) := List.getElem?_eq_getElem _
      exact ⟨_, h1.trans h2⟩)
    rw [List.drop_zero] at this
    exact this⟩
theorem opens_slice {t e : TypeId} {α : Type} {d : Kd α} {ok : α → Prop} (ht : P.underlying t = some (.slice e)) (hc : P.cellsOf e = d.sz) (h : Opens enc P w base spare held e d ok) : Opens enc P w base spare held t (Kd.slice e d) (fun xs => ∀ x ∈ xs, ok x) :=
  ⟨fun fuel cs y hy => by
    rcases open_slice ht hy with ⟨rfl, _⟩ | ⟨a, len, cap, m, n, D, Pl, rfl, hb, hl, hm, hmm, _, hi⟩
    · exact ⟨[], ⟨none, 0, rfl, Nat.le_refl _, rfl, Nat.zero_le _, fun h => absurd h (Nat.lt_irrefl 0)⟩, fun x hx => by cases hx⟩
    · have hlm : len ≤ m := by rw [hmm]; split <;> omega
      have hex : ∀ i, i < len → ∃ x, (∃ c, c.length = d.sz ∧ d.K w x c ∧ ∀ j u, c[j]? = some u → w.cell? (a.add (i * d.sz + j)) = some u) ∧ ok x := by
        intro i hil
        obtain ⟨cs', hcs, htr⟩ := hi i (by omega)
        obtain ⟨x, hx, hok⟩ := h.out n cs' _ htr
        obtain ⟨_, hcl, hat⟩ := World.cells?_some hcs
        refine ⟨x, ⟨cs', by rw [hcl, hc], hx, fun j u hu => ?_⟩, hok⟩
        have hj : j < cs'.length := (List.getElem?_eq_some_iff.1 hu).1
        have := hat j (by omega)
        rw [Go.Proofs.YtbmkjcgbnddgdaaW.PrintWords.add_add, hc] at this
        rw [this]
        exact hu
      have key : ∀ k, k ≤ len → ∃ xs : List α, xs.length = k ∧ (∀ j p, xs[j]? = some p → (∃ c, c.length = d.sz ∧ d.K w p c ∧ ∀ i u, c[i]? = some u → w.cell? (a.add (j * d.sz + i)) = some u)) ∧ ∀ x ∈ xs, ok x := by
        intro k
        induction k with
        | zero => exact fun _ => ⟨[], rfl, fun j p hp => by simp at hp, fun x hx => by simp at hx⟩
        | succ k ih =>
          intro hk
          obtain ⟨xs, h1, h2, h3⟩ := ih (by omega)
          obtain ⟨x, h4, h5⟩ := hex k (by omega)
          refine ⟨xs ++ [x], by simp [h1], fun j p hp => ?_, fun z hz => ?_⟩
          · rcases Nat.lt_or_ge j xs.length with hj | hj
            · rw [List.getElem?_append_left hj] at hp
              exact h2 j p hp
            · have : j = k := by
                have := (List.getElem?_eq_some_iff.1 hp).1
                simp at this
                omega
              subst this
              rw [List.getElem?_append_right hj, h1, Nat.sub_self] at hp
              obtain rfl : x = p := by simpa using hp
              exact h4
          · rcases List.mem_append.1 hz with hz | hz
            · exact h3 z hz
            · rw [List.mem_singleton.1 hz]; exact h5
      obtain ⟨xs, h1, h2, h3⟩ := key len (Nat.le_refl _)
      have hmx : cap ≤ 9223372036854775807 := hm
      exact ⟨xs, ⟨some a, cap, by rw [h1], by omega, rfl, by omega, fun _ => ⟨a, rfl, h2⟩⟩, h3⟩⟩
end
end Go.Proofs.Ytbmkjcgbnddgdaa.Open
