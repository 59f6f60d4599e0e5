/- Plain laws for versions made by numbers. -/
import Derived.Test.YtbmkjcgbnddgdaaHtabs
import Derived.Laws.Rows
namespace Go.Proofs.Ytbmkjcgbnddgdaa.P
open Go.RowKit Go.Proofs.YtbmkjcgbnddgdaaW.PrintWords Go.Proofs.YtbmkjcgbnddgdaaW.PrintLast Go.Proofs.YtbmkjcgbnddgdaaW.PrintMore
set_option linter.unusedVariables false
/-- The cells that a round reads: the version's five, the table's nine. -/
abbrev F14 (p3 : Nat) (q : Addr) (a b c d : Int) (B : Option Addr) (n k : Nat) (t : S38) (w : World) : Prop :=
  w.cell? ⟨p3, 0, none⟩ = some (.int .i64 a) ∧ w.cell? ⟨p3, 1, none⟩ = some (.int .i64 b) ∧ w.cell? ⟨p3, 2, none⟩ = some (.int .i64 c) ∧ w.cell? ⟨p3, 3, none⟩ = some (.int .i64 d) ∧ w.cell? ⟨p3, 4, none⟩ = some (.slice B n k) ∧
  w.cell? q = some (.int .i64 t.f0) ∧ w.cell? ⟨q.block, q.off + 1, none⟩ = some (.int .i64 t.f1) ∧ w.cell? ⟨q.block, q.off + 2, none⟩ = some (.int .i64 t.f2) ∧ w.cell? ⟨q.block, q.off + 3, none⟩ = some (.string t.f3) ∧ w.cell? ⟨q.block, q.off + 4, none⟩ = some (.string t.f4) ∧ w.cell? ⟨q.block, q.off + 5, none⟩ = some (.int .i64 t.f5) ∧ w.cell? ⟨q.block, q.off + 6, none⟩ = some (.int .i64 t.f6) ∧ w.cell? ⟨q.block, q.off + 7, none⟩ = some (.bool t.f7) ∧ w.cell? ⟨q.block, q.off + 8, none⟩ = some (.bool t.f8)
section
variable {p3 : Nat} {q : Addr} {a b c d : Int} {B : Option Addr} {n k : Nat} {t : S38} {w W : World}
theorem F14.of (h : F14 p3 q a b c d B n k t w) (f : ∀ p v, p.block = p3 ∨ p.block = q.block → w.cell? p = some v → W.cell? p = some v) : F14 p3 q a b c d B n k t W :=
  ⟨f _ _ (.inl rfl) h.1, f _ _ (.inl rfl) h.2.1, f _ _ (.inl rfl) h.2.2.1, f _ _ (.inl rfl) h.2.2.2.1, f _ _ (.inl rfl) h.2.2.2.2.1, f _ _ (.inr rfl) h.2.2.2.2.2.1, f _ _ (.inr rfl) h.2.2.2.2.2.2.1, f _ _ (.inr rfl) h.2.2.2.2.2.2.2.1, f _ _ (.inr rfl) h.2.2.2.2.2.2.2.2.1, f _ _ (.inr rfl) h.2.2.2.2.2.2.2.2.2.1, f _ _ (.inr rfl) h.2.2.2.2.2.2.2.2.2.2.1, f _ _ (.inr rfl) h.2.2.2.2.2.2.2.2.2.2.2.1, f _ _ (.inr rfl) h.2.2.2.2.2.2.2.2.2.2.2.2.1, f _ _ (.inr rfl) h.2.2.2.2.2.2.2.2.2.2.2.2.2⟩
theorem F14.al {o : Obj} (h : F14 p3 q a b c d B n k t w) : F14 p3 q a b c d B n k t (w.alloc o) := h.of fun _ _ _ hc => kal hc
theorem F14.dr (h : F14 p3 q a b c d B n k t w) : F14 p3 q a b c d B n k t w.drew := h
theorem F14.below (hb : Below w.heap.size w W) (h : F14 p3 q a b c d B n k t w) : F14 p3 q a b c d B n k t W := h.of fun _ _ _ hc => keep_cell hb hc
theorem F14.set {g : Nat} {v0 v1 v2 v3 v4 : Value} (h : F14 p3 q a b c d B n k t w) (h3 : p3 ≠ g) (hq : q.block ≠ g) : F14 p3 q a b c d B n k t (((((w.setCell ⟨g, 0, none⟩ v0).setCell ⟨g, 1, none⟩ v1).setCell ⟨g, 2, none⟩ v2).setCell ⟨g, 3, none⟩ v3).setCell ⟨g, 4, none⟩ v4) :=
  h.of fun p _ hp hc => have hne : p.block ≠ g := hp.elim (fun e => e ▸ h3) (fun e => e ▸ hq)
    ksc (ksc (ksc (ksc (ksc hc hne) hne) hne) hne) hne
end
theorem bdr {w W : World} (h : Below w.heap.size w W) : Below w.heap.size w W.drew := h.drew
theorem hold {w : World} {o o' : Obj} {p : Nat} (h : w.heap[p]? = some o) : (w.alloc o').heap[p]? = some o := hz_step ((Below.refl w.heap.size w).alloc (Nat.le_refl _) _) h
theorem hdr {w : World} {o : Obj} {p : Nat} (h : w.heap[p]? = some o) : w.drew.heap[p]? = some o := h
theorem hz2 {X W : World} {o o' : Obj} (hb : Below ((X.alloc o).alloc o').heap.size ((X.alloc o).alloc o') W) : W.heap[X.heap.size]? = some o := hz_step hb (hold (heap_alloc_new _ _))
theorem hz_B {X W : World} {o o' : Obj} (hb : Below ((X.alloc o).alloc o').drew.heap.size ((X.alloc o).alloc o').drew W) : W.heap[X.heap.size + 1]? = some o' := hz_step hb (hdr (heap_new_at (by simp)))
theorem hz_A {X W : World} {o o' : Obj} (hb : Below ((X.alloc o).alloc o').drew.heap.size ((X.alloc o).alloc o').drew W) : W.heap[X.heap.size]? = some o := hz_step hb (hdr (hold (heap_alloc_new _ _)))
/-- A table of its own is a row of one. -/
theorem one38 {w : World} {g : Nat} {t : S38} (h : w.heap[g]? = some (tabO t)) : Kd.C k38 w (some ⟨g, 0, none⟩) [t].length [t] := by
  refine ⟨rfl, (show 1 ≤ 9223372036854775807 by decide), fun _ => ⟨_, rfl, fun j p hj => ?_⟩⟩
  match j, hj with
  | 0, hj =>
    obtain rfl : t = p := by simpa using hj
    refine ⟨_, rfl, k38_mk w t, fun i u hu => ?_⟩
    have := blk_cell (cs := #[.int .i64 t.f0, .int .i64 t.f1, .int .i64 t.f2, .string t.f3, .string t.f4, .int .i64 t.f5, .int .i64 t.f6, .bool t.f7, .bool t.f8]) h i
    rw [show (Addr.add ⟨g, 0, none⟩ (0 * k38.sz + i)) = ⟨g, i, none⟩ by (simp only [Nat.zero_mul, Nat.zero_add]; unfold Addr.add; simp; intro e; exact e.symm)]
    rw [this]
    simpa using hu
  | j + 1, hj => simp at hj
theorem apply_made (a b c d : Int) (B : Option Addr) (k : Nat) (zs : List S38) (e1 : Int) (g : Nat) (t : S38) (w : World) (hr : Kd.C k38 w B zs.length zs) (hk : zs.length ≤ k) (hl : zs.length ≤ 100000) (hq : w.heap[g]? = some (.cells #[.int .i64 t.f0, .int .i64 t.f1, .int .i64 t.f2, .string t.f3, .string t.f4, .int .i64 t.f5, .int .i64 t.f6, .bool t.f7, .bool t.f8] 38 (0, 0))) :
    Calls Try.prog 27 #[.agg #[.int .i64 a, .int .i64 b, .int .i64 c, .int .i64 d, .slice B zs.length k], .agg #[.int .i64 3, .int .i64 e1, .int .i64 0, .int .i64 0, .slice (some ⟨g, 0, none⟩) 1 1, .slice none 0 0]] w (AppP w zs [t]) :=
  apply_any a b c d B k zs 3 e1 0 0 (some ⟨g, 0, none⟩) 1 [t] w hr hk hl (one38 hq) (Nat.le_refl 1) (show 1 ≤ 100000 by decide)
/-- The version that a round has made, in its own block. -/
def ResV (W wd : World) (S : Nat → Prop) (zs : List S38) (t : S38) (p : Nat) : Prop :=
  ∃ a b c d B k ys, wd.heap[p]? = some (.cells #[.int .i64 a, .int .i64 b, .int .i64 c, .int .i64 d, .slice B ys.length k] 34 (0, 0)) ∧ ys.length ≤ k ∧ ys.length ≤ zs.length + 1 ∧ (∀ z ∈ ys, z ∈ zs ∨ z = t) ∧ Lives wd S k38 B ys ∧ W.heap.size ≤ p ∧ Below W.heap.size W wd
section
variable {W w : World} {S : Nat → Prop} {zs ys : List S38} {t : S38} {a b c d cd : Int} {B : Option Addr} {k : Nat}
theorem made_alloc (hb : Below W.heap.size W w) (hk : ys.length ≤ k) (hn : ys.length ≤ zs.length + 1) (hm : ∀ z ∈ ys, z ∈ zs ∨ z = t) (hl : Lives w S k38 B ys) :
    ∃ (p : Nat) (code : Int), Value.pointer (some ⟨w.heap.size, 0, none⟩) = Value.pointer (some ⟨p, 0, none⟩) ∧ Value.int .i64 cd = Value.int .i64 code ∧ Aside0 (ResV W (w.alloc (.cells #[.int .i64 a, .int .i64 b, .int .i64 c, .int .i64 d, .slice B ys.length k] 34)) S zs t p) :=
  ⟨_, _, rfl, rfl, ⟨a, b, c, d, B, k, ys, heap_alloc_new _ _, hk, hn, hm, hl.below ((Below.refl _ _).alloc (Nat.le_refl _) _), hb.size, bal hb⟩⟩
theorem put5 {g : Nat} {z0 z1 z2 z3 z4 v0 v1 v2 v3 v4 : Value} (hz : w.heap[g]? = some (.cells #[z0, z1, z2, z3, z4] 34 (0, 0))) : (((((w.setCell ⟨g, 0, none⟩ v0).setCell ⟨g, 1, none⟩ v1).setCell ⟨g, 2, none⟩ v2).setCell ⟨g, 3, none⟩ v3).setCell ⟨g, 4, none⟩ v4).heap[g]? = some (.cells #[v0, v1, v2, v3, v4] 34 (0, 0)) :=
  blk_put (blk_put (blk_put (blk_put (blk_put hz 0 _ rfl) 1 _ rfl) 2 _ rfl) 3 _ rfl) 4 _ rfl
theorem bel5 {n g : Nat} {v0 v1 v2 v3 v4 : Value} (h : Below n W w) (hle : n ≤ g) : Below n W (((((w.setCell ⟨g, 0, none⟩ v0).setCell ⟨g, 1, none⟩ v1).setCell ⟨g, 2, none⟩ v2).setCell ⟨g, 3, none⟩ v3).setCell ⟨g, 4, none⟩ v4) :=
  ((((h.setCell (p := ⟨g, 0, none⟩) hle _).setCell (p := ⟨g, 1, none⟩) hle _).setCell (p := ⟨g, 2, none⟩) hle _).setCell (p := ⟨g, 3, none⟩) hle _).setCell (p := ⟨g, 4, none⟩) hle _
theorem kept5 {T : Nat → Prop} {g : Nat} {v0 v1 v2 v3 v4 : Value} (hg : T g ∨ w.heap.size ≤ g) : Kept w (((((w.setCell ⟨g, 0, none⟩ v0).setCell ⟨g, 1, none⟩ v1).setCell ⟨g, 2, none⟩ v2).setCell ⟨g, 3, none⟩ v3).setCell ⟨g, 4, none⟩ v4) T :=
  (((((Kept.refl w T).setCell (p := ⟨g, 0, none⟩) hg v0).setCell (p := ⟨g, 1, none⟩) hg v1).setCell (p := ⟨g, 2, none⟩) hg v2).setCell (p := ⟨g, 3, none⟩) hg v3).setCell (p := ⟨g, 4, none⟩) hg v4
theorem made_put {g N : Nat} {z0 z1 z2 z3 z4 : Value} (hz : w.heap[g]? = some (.cells #[z0, z1, z2, z3, z4] 34 (0, 0))) (hb : Below W.heap.size W w) (hle : W.heap.size ≤ g) (hgN : g < N) (hS : ∀ k, S k → k < N) (hk : ys.length ≤ k) (hn : ys.length ≤ zs.length + 1) (hm : ∀ z ∈ ys, z ∈ zs ∨ z = t) (hl : Lives w (fun k => k < N) k38 B ys) :
    ∃ (p : Nat) (code : Int), Value.pointer (some ⟨g, 0, none⟩) = Value.pointer (some ⟨p, 0, none⟩) ∧ Value.int .i64 cd = Value.int .i64 code ∧ Aside0 (ResV W (((((w.setCell ⟨g, 0, none⟩ (.int .i64 a)).setCell ⟨g, 1, none⟩ (.int .i64 b)).setCell ⟨g, 2, none⟩ (.int .i64 c)).setCell ⟨g, 3, none⟩ (.int .i64 d)).setCell ⟨g, 4, none⟩ (.slice B ys.length k)) S zs t p) :=
  ⟨_, _, rfl, rfl, ⟨a, b, c, d, B, k, ys, put5 hz, hk, hn, hm, (hl.step (kept5 (.inl hgN))).less (fun k hk => .inl (hS k hk)), hle, bel5 hb hle⟩⟩
end
end Go.Proofs.Ytbmkjcgbnddgdaa.P
