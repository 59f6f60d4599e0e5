/- Plain laws for tables by numbers. -/
import Derived.Test.YtbmkjcgbnddgdaaHkey
import Derived.IntWalk
namespace Go.Proofs.Ytbmkjcgbnddgdaa.P
open Go.RowKit Go.Proofs.YtbmkjcgbnddgdaaW.PrintWords Go.Proofs.YtbmkjcgbnddgdaaW.PrintLast Go.Proofs.YtbmkjcgbnddgdaaW.PrintMore
set_option linter.unusedVariables false
/-- A table's level is one. -/
def OkT (t : S38) : Prop := 0 ≤ t.f2 ∧ t.f2 < 5
def Byts (xs : List Int) : Prop := ∀ x ∈ xs, 0 ≤ x ∧ x ≤ 255
theorem byte_at {w : World} {A : Option Addr} {n : Nat} {xs : List Int} (h : Kd.C (Kd.int .u8) w A n xs) (hb : Byts xs) (i : Nat) (hi : i < n) (hn : n = xs.length) : ∃ ad b, A = some ad ∧ w.cell? (ad.add i) = some (.int .u8 b) ∧ 0 ≤ b ∧ b ≤ 255 := by
  obtain ⟨ad, e, hc⟩ := Kd.at_int h (i : Int) (by omega) (by omega)
  refine ⟨ad, _, e, hc, ?_⟩
  unfold rd
  rw [List.getD_eq_getElem?_getD, Int.toNat_natCast, List.getElem?_eq_getElem (by omega), Option.getD_some]
  exact hb _ (List.getElem_mem _)
theorem kal {w : World} {o : Obj} {p : Addr} {v : Value} (h : w.cell? p = some v) : (w.alloc o).cell? p = some v := keep_cell ((Below.refl w.heap.size w).alloc (Nat.le_refl _) _) h
theorem hz_of {X W : World} {o : Obj} (hb : Below (X.alloc o).heap.size (X.alloc o) W) : W.heap[X.heap.size]? = some o := (hb.block _ (by simp)).trans (heap_alloc_new _ _)
theorem kdr {w : World} {p : Addr} {v : Value} (h : w.cell? p = some v) : w.drew.cell? p = some v := h
theorem hz_ofd {X W : World} {o : Obj} (hb : Below (X.alloc o).drew.heap.size (X.alloc o).drew W) : W.heap[X.heap.size]? = some o := hz_of (X := X) (o := o) ⟨hb.os, hb.tape, hb.output, hb.size, hb.block⟩
theorem hz_step {w W : World} {o : Obj} {p : Nat} (hb : Below w.heap.size w W) (hz : w.heap[p]? = some o) : W.heap[p]? = some o := (hb.block _ (by
  rcases Nat.lt_or_ge p w.heap.size with h | h
  · exact h
  · rw [Array.getElem?_eq_none h] at hz; cases hz)).trans hz
theorem ksc {w : World} {p q : Addr} {v u : Value} (h : w.cell? p = some v) (hne : p.block ≠ q.block) : (w.setCell q u).cell? p = some v := by
  rw [World.cell?_setCell_other _ _ _ _ (by intro e; exact hne (by rw [e]))]; exact h
theorem set9 {w : World} {p : Addr} {b : Nat} {v v0 v1 v2 v3 v4 v5 v6 v7 v8 : Value} (h : w.cell? p = some v) (hne : p.block ≠ b) :
    (((((((((w.setCell ⟨b, 0, none⟩ v0).setCell ⟨b, 1, none⟩ v1).setCell ⟨b, 2, none⟩ v2).setCell ⟨b, 3, none⟩ v3).setCell ⟨b, 4, none⟩ v4).setCell ⟨b, 5, none⟩ v5).setCell ⟨b, 6, none⟩ v6).setCell ⟨b, 7, none⟩ v7).setCell ⟨b, 8, none⟩ v8).cell? p = some v :=
  ksc (ksc (ksc (ksc (ksc (ksc (ksc (ksc (ksc h hne) hne) hne) hne) hne) hne) hne) hne) hne
/-- A block of a table. -/
def tabO (t : S38) : Obj := .cells #[.int .i64 t.f0, .int .i64 t.f1, .int .i64 t.f2, .string t.f3, .string t.f4, .int .i64 t.f5, .int .i64 t.f6, .bool t.f7, .bool t.f8] 38 (0, 0)
theorem put9 {w : World} {b : Nat} {z0 z1 z2 z3 z4 z5 z6 z7 z8 v0 v1 v2 v3 v4 v5 v6 v7 v8 : Value} (hz : w.heap[b]? = some (.cells #[z0, z1, z2, z3, z4, z5, z6, z7, z8] 38 (0, 0))) :
    (((((((((w.setCell ⟨b, 0, none⟩ v0).setCell ⟨b, 1, none⟩ v1).setCell ⟨b, 2, none⟩ v2).setCell ⟨b, 3, none⟩ v3).setCell ⟨b, 4, none⟩ v4).setCell ⟨b, 5, none⟩ v5).setCell ⟨b, 6, none⟩ v6).setCell ⟨b, 7, none⟩ v7).setCell ⟨b, 8, none⟩ v8).heap[b]? = some (.cells #[v0, v1, v2, v3, v4, v5, v6, v7, v8] 38 (0, 0)) := by
  refine blk_put (cs := #[v0, v1, v2, v3, v4, v5, v6, v7, z8]) ?_ 8 _ rfl
  refine blk_put (cs := #[v0, v1, v2, v3, v4, v5, v6, z7, z8]) ?_ 7 _ rfl
  refine blk_put (cs := #[v0, v1, v2, v3, v4, v5, z6, z7, z8]) ?_ 6 _ rfl
  refine blk_put (cs := #[v0, v1, v2, v3, v4, z5, z6, z7, z8]) ?_ 5 _ rfl
  refine blk_put (cs := #[v0, v1, v2, v3, z4, z5, z6, z7, z8]) ?_ 4 _ rfl
  refine blk_put (cs := #[v0, v1, v2, z3, z4, z5, z6, z7, z8]) ?_ 3 _ rfl
  refine blk_put (cs := #[v0, v1, z2, z3, z4, z5, z6, z7, z8]) ?_ 2 _ rfl
  refine blk_put (cs := #[v0, z1, z2, z3, z4, z5, z6, z7, z8]) ?_ 1 _ rfl
  refine blk_put (cs := #[z0, z1, z2, z3, z4, z5, z6, z7, z8]) ?_ 0 _ rfl
  exact hz
theorem bel9 {B : Nat} {W w : World} {b : Nat} {v0 v1 v2 v3 v4 v5 v6 v7 v8 : Value} (h : Below B W w) (hle : B ≤ b) : Below B W (((((((((w.setCell ⟨b, 0, none⟩ v0).setCell ⟨b, 1, none⟩ v1).setCell ⟨b, 2, none⟩ v2).setCell ⟨b, 3, none⟩ v3).setCell ⟨b, 4, none⟩ v4).setCell ⟨b, 5, none⟩ v5).setCell ⟨b, 6, none⟩ v6).setCell ⟨b, 7, none⟩ v7).setCell ⟨b, 8, none⟩ v8) :=
  ((((((((h.setCell (p := ⟨b, 0, none⟩) hle _).setCell (p := ⟨b, 1, none⟩) hle _).setCell (p := ⟨b, 2, none⟩) hle _).setCell (p := ⟨b, 3, none⟩) hle _).setCell (p := ⟨b, 4, none⟩) hle _).setCell (p := ⟨b, 5, none⟩) hle _).setCell (p := ⟨b, 6, none⟩) hle _).setCell (p := ⟨b, 7, none⟩) hle _).setCell (p := ⟨b, 8, none⟩) hle _
theorem bt0 {w W : World} (h : Below w.drew.heap.size w.drew W) : Below w.heap.size w W := ((Below.refl _ w).drew).trans h
theorem bt {w W V : World} (h : Below w.heap.size w W) (k : Below W.heap.size W V) : Below w.heap.size w V := h.trans (k.mono h.size)
theorem bal {w W : World} {o : Obj} (h : Below w.heap.size w W) : Below w.heap.size w (W.alloc o) := h.alloc h.size _
theorem okl {b : Int} (h0 : 0 ≤ b) (h1 : b ≤ 255) : 0 ≤ (IntKind.i64.wrap b).tmod 5 ∧ (IntKind.i64.wrap b).tmod 5 < 5 := by
  rw [IntWalk.i64_in _ (by omega), Int.tmod_eq_emod_of_nonneg h0]
  omega
abbrev W9 (w : World) (b : Nat) (v0 v1 v2 v3 v4 v5 v6 v7 v8 : Value) : World := ((((((((w.setCell ⟨b, 0, none⟩ v0).setCell ⟨b, 1, none⟩ v1).setCell ⟨b, 2, none⟩ v2).setCell ⟨b, 3, none⟩ v3).setCell ⟨b, 4, none⟩ v4).setCell ⟨b, 5, none⟩ v5).setCell ⟨b, 6, none⟩ v6).setCell ⟨b, 7, none⟩ v7).setCell ⟨b, 8, none⟩ v8
theorem fin_alloc {W w : World} {n0 n1 n2 n5 n6 : Int} {s3 s4 : ByteArray} {b7 b8 : Bool} (hb : Below W.heap.size W w) (h2 : 0 ≤ n2 ∧ n2 < 5) :
    ∃ (p : Nat) (t : S38), Value.pointer (some ⟨w.heap.size, 0, none⟩) = Value.pointer (some ⟨p, 0, none⟩) ∧ Aside0 ((w.alloc (.cells #[.int .i64 n0, .int .i64 n1, .int .i64 n2, .string s3, .string s4, .int .i64 n5, .int .i64 n6, .bool b7, .bool b8] 38)).heap[p]? = some (tabO t) ∧ OkT t ∧ W.heap.size ≤ p ∧ Below W.heap.size W (w.alloc (.cells #[.int .i64 n0, .int .i64 n1, .int .i64 n2, .string s3, .string s4, .int .i64 n5, .int .i64 n6, .bool b7, .bool b8] 38))) :=
  ⟨w.heap.size, ⟨n0, n1, n2, s3, s4, n5, n6, b7, b8⟩, rfl, ⟨heap_alloc_new _ _, h2, hb.size, bal hb⟩⟩
theorem fin_put {W w : World} {b : Nat} {n0 n1 n2 n5 n6 : Int} {s3 s4 : ByteArray} {b7 b8 : Bool} {z0 z1 z2 z3 z4 z5 z6 z7 z8 : Value} (hz : w.heap[b]? = some (.cells #[z0, z1, z2, z3, z4, z5, z6, z7, z8] 38 (0, 0))) (hb : Below W.heap.size W w) (hle : W.heap.size ≤ b) (h2 : 0 ≤ n2 ∧ n2 < 5) :
    ∃ (p : Nat) (t : S38), Value.pointer (some ⟨b, 0, none⟩) = Value.pointer (some ⟨p, 0, none⟩) ∧ Aside0 ((W9 w b (.int .i64 n0) (.int .i64 n1) (.int .i64 n2) (.string s3) (.string s4) (.int .i64 n5) (.int .i64 n6) (.bool b7) (.bool b8)).heap[p]? = some (tabO t) ∧ OkT t ∧ W.heap.size ≤ p ∧ Below W.heap.size W (W9 w b (.int .i64 n0) (.int .i64 n1) (.int .i64 n2) (.string s3) (.string s4) (.int .i64 n5) (.int .i64 n6) (.bool b7) (.bool b8))) :=
  ⟨b, ⟨n0, n1, n2, s3, s4, n5, n6, b7, b8⟩, rfl, ⟨put9 hz, h2, hle, bel9 hb hle⟩⟩
theorem tab7 {W w : World} {p : Nat} {t : S38} (b : Bool) (hp : w.heap[p]? = some (tabO t)) (ht : OkT t) (hle : W.heap.size ≤ p) (hb : Below W.heap.size W w) : ∃ t', Aside0 ((w.setCell ⟨p, 7, none⟩ (.bool b)).heap[p]? = some (tabO t') ∧ OkT t' ∧ Below W.heap.size W (w.setCell ⟨p, 7, none⟩ (.bool b))) :=
  ⟨{ t with f7 := b }, ⟨blk_put hp 7 _ rfl, ht, hb.setCell (p := ⟨p, 7, none⟩) hle _⟩⟩
theorem tab8 {W w : World} {p : Nat} {t : S38} (b : Bool) (hp : w.heap[p]? = some (tabO t)) (ht : OkT t) (hle : W.heap.size ≤ p) (hb : Below W.heap.size W w) : ∃ t', Aside0 ((w.setCell ⟨p, 8, none⟩ (.bool b)).heap[p]? = some (tabO t') ∧ OkT t' ∧ Below W.heap.size W (w.setCell ⟨p, 8, none⟩ (.bool b))) :=
  ⟨{ t with f8 := b }, ⟨blk_put hp 8 _ rfl, ht, hb.setCell (p := ⟨p, 8, none⟩) hle _⟩⟩
theorem ok_snoc {ys : List S38} {t : S38} (h : ∀ y ∈ ys, OkT y) (ht : OkT t) : ∀ y ∈ ys ++ [t], OkT y := fun y hy => (List.mem_append.1 hy).elim (h y) (fun h1 => by rw [List.mem_singleton] at h1; exact h1 ▸ ht)
end Go.Proofs.Ytbmkjcgbnddgdaa.P
