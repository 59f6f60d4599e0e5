/- The far store in memory: what a world has to hold for block g to be a store, and what the map's operations do to it. -/
import Derived.Test.YtbedfilammjlpaaG0
import Derived.Test.YtbedfilammjlpaaHfar1
import Derived.Maps.OwnSet
import Derived.StringKeys
namespace Go.Proofs.Ytbedfilammjlpaa.P
open Go.RowKit Go.Proofs.YtbedfilammjlpaaW.PrintWords Go.Proofs.YtbedfilammjlpaaW.PrintMore Go.Maps Go.WideMaps
set_option linter.unusedVariables false
/-- A step: of the blocks that were there only those of S have turned. -/
structure Stp (S : Nat → Prop) (w w' : World) : Prop where
  os : w'.os = w.os
  tape : w'.tape = w.tape
  output : w'.output = w.output
  kept : Kept w w' S
section
variable {S S2 : Nat → Prop} {w w1 w2 : World}
theorem Stp.refl (S : Nat → Prop) (w : World) : Stp S w w := ⟨rfl, rfl, rfl, Kept.refl w S⟩
theorem Stp.then_ (h : Stp S w w1) (k : Stp S2 w1 w2) (hs : ∀ k, S2 k → S k ∨ w.heap.size ≤ k) : Stp S w w2 := ⟨k.os.trans h.os, k.tape.trans h.tape, k.output.trans h.output, h.kept.then_ k.kept hs⟩
theorem Stp.trans (h : Stp S w w1) (k : Stp S w1 w2) : Stp S w w2 := h.then_ k (fun _ h => .inl h)
theorem Stp.mono (h : Stp S w w1) (hs : ∀ k, S k → S2 k) : Stp S2 w w1 := ⟨h.os, h.tape, h.output, h.kept.mono hs⟩
theorem Stp.of_below (h : Below w.heap.size w w1) (S : Nat → Prop) : Stp S w w1 := ⟨h.os, h.tape, h.output, Kept.of_below h S⟩
theorem Stp.below (h : Stp S w w1) (k : Below w1.heap.size w1 w2) : Stp S w w2 := h.trans (Stp.of_below k S)
theorem Stp.drewN (h : Stp S w w1) (n : Nat) : Stp S w (w1.drewN n) := ⟨h.os, h.tape, h.output, h.kept⟩
theorem Stp.drew (h : Stp S w w1) : Stp S w w1.drew := ⟨h.os, h.tape, h.output, h.kept⟩
theorem Stp.drawn (h : Stp S w w1) (k : Drawn0 w1 w2) : Stp S w w2 := h.below k.below
theorem Stp.alloc (h : Stp S w w1) (o : Obj) : Stp S w (w1.alloc o) := ⟨h.os, h.tape, h.output, h.kept.alloc o⟩
theorem Stp.setCell (h : Stp S w w1) {p : Addr} (hp : S p.block ∨ w.heap.size ≤ p.block) (u : Value) : Stp S w (w1.setCell p u) := ⟨h.os, h.tape, h.output, h.kept.setCell hp u⟩
theorem Stp.grown {row : Option Nat} (h : Stp S w w1) (hg : w1.grownBy w2 row) (hr : ∀ k, row = some k → S k ∨ w.heap.size ≤ k) : Stp S w w2 := ⟨hg.os.trans h.os, hg.tape.trans h.tape, hg.output.trans h.output, Kept.of_grown hg h.kept hr⟩
theorem Stp.of_turn {b : Nat} (h : w.mapTurned w1 b) : Stp (fun k => k = b) w w1 := ⟨h.grown.os, h.grown.tape, h.grown.output, ⟨h.grown.size, fun i hi hn => h.grown.block i hi (fun e => hn (by injection e))⟩⟩
theorem Stp.toBelow (h : Stp S w w1) {B : Nat} (hB : B ≤ w.heap.size) (hS : ∀ k, S k → B ≤ k) : Below B w w1 :=
  ⟨h.os, h.tape, h.output, h.kept.1, fun k hk => h.kept.2 k (Nat.lt_of_lt_of_le hk hB) (fun hs => by have := hS k hs; omega)⟩
theorem Stp.cell (h : Stp S w w1) {a : Addr} {v : Value} (hc : w.cell? a = some v) (hn : ¬ S a.block) : w1.cell? a = some v := cell_kept hc h.kept hn
theorem Stp.size (h : Stp S w w1) : w.heap.size ≤ w1.heap.size := h.kept.1
end
abbrev sl (s : ByteArray) : Lit := .string s.data.toList
theorem law : Keyed Try.prog 9 := string_keyed Try.underlying9
theorem zeroE (w : World) : (zeroValue 22).run Try.prog w = .ok (.slice none 0 0) w := by kernel_rfl
/-- A row that is read as long as of the old blocks only those of S are written. -/
def Lives {α : Type} (w : World) (S : Nat → Prop) (d : Kd α) (A : Option Addr) (xs : List α) : Prop := ∀ W', Kept w W' S → d.C W' A xs.length xs
section
variable {α : Type} {d : Kd α} {w W : World} {S S2 : Nat → Prop} {A : Option Addr} {xs : List α}
theorem Lives.now (h : Lives w S d A xs) : d.C w A xs.length xs := h w (Kept.refl w S)
theorem Lives.step (h : Lives w S d A xs) (hk : Kept w W S) : Lives W S d A xs := Kd.C_kept_step h hk
/-- A smaller S, or one that has but new blocks more. -/
theorem Lives.less (h : Lives w S d A xs) (hs : ∀ k, S2 k → S k ∨ w.heap.size ≤ k) : Lives w S2 d A xs := fun W' hk => h W' ((Kept.refl w S).then_ hk hs)
theorem Lives.move (h : Lives w S d A xs) (hk : Kept w W S) (hs : ∀ k, S2 k → S k ∨ w.heap.size ≤ k) : Lives W S2 d A xs := fun W' hk' => h W' (hk.then_ hk' hs)
theorem Lives.nil (w : World) (S : Nat → Prop) (d : Kd α) : Lives w S d none ([] : List α) := fun W' _ => Kd.C_nil d W'
/-- A row that is new. -/
theorem Lives.new {e base : Nat} {v : Value} (h : d.R e w base (fun _ => True) v xs) (hS : ∀ k, S k → k < base) : ∃ A c, v = .slice A xs.length c ∧ xs.length ≤ c ∧ Lives w S d A xs := by
  obtain ⟨A, c, rfl⟩ := Kd.R_slice h
  have h2 := Kd.R_bound h
  exact ⟨A, c, rfl, (Kd.R_reads' h).2.1, Kd.C_kept_own h2 (fun k hk hs => by have := hS k hs; omega)⟩
/-- A row that came in. -/
theorem Lives.came {w0 : World} (hd : Kd.Heap d) (h : d.C w0 A xs.length xs) (hb : Below w0.heap.size w0 w) (hS : ∀ k, S k → w0.heap.size ≤ k) : Lives w S d A xs := Kd.C_kept_came hd h hb hS
end
def Bts (xs : List Int) : Prop := ∀ x ∈ xs, 0 ≤ x ∧ x ≤ 255
/-- The map's datum D has just the objects of l. -/
structure Ties (w : World) (S : Nat → Prop) (D : DataW Value) (l : Obs) : Prop where
  has : ∀ s : ByteArray, Maps.has D (sl s) = (findO l s).isSome
  val : ∀ s d, findO l s = some d → ∃ A xs c, (∀ z, D.atKey (sl s) z = .held (.slice A xs.length c)) ∧ xs.length ≤ c ∧ xs.length ≤ 1048576 ∧ Bts xs ∧ Lives w S (Kd.int .u8) A xs ∧ strOfNums xs = d
/-- Block g is a store: its map lies in block m; all is as st says. Its rows live as long as only blocks of S are written. -/
structure FarP (w : World) (S : Nat → Prop) (g m N : Nat) (st : FS) : Prop where
  bd : ∀ k, S k → k < w.heap.size
  sg : S g
  sm : S m
  cell : ∃ A c, w.heap[g]? = some (.cells #[.map (some m), .slice A st.nx.length c, .int .i64 st.calls] 70 (0, 0)) ∧ st.nx.length ≤ c ∧ Lives w S (Kd.int .i64) A st.nx
  map : ∃ D, w.ownsMap Try.prog 9 rawR m N D ∧ Ties w S D st.l
  ris : Rising st.l
theorem owns_block {w w' : World} {m n : Nat} {D : DataW Value} (h : w.ownsMap Try.prog 9 rawR m n D) (e : w'.heap[m]? = w.heap[m]?) : w'.ownsMap Try.prog 9 rawR m n D := by
  obtain ⟨es, clock, hb, rest⟩ := h
  exact ⟨es, clock, e.trans hb, rest⟩
section
variable {w w' : World} {S S2 : Nat → Prop} {g m N : Nat} {st : FS}
theorem Ties.step {D : DataW Value} {l : Obs} (h : Ties w S D l) (hk : Kept w w' S) : Ties w' S D l :=
  ⟨h.has, fun s d hf => by
    obtain ⟨A, xs, c, h1, h2, h3, h4, h5, h6⟩ := h.val s d hf
    exact ⟨A, xs, c, h1, h2, h3, h4, h5.step hk, h6⟩⟩
theorem FarP.apart (h : FarP w S g m N st) : m ≠ g := by
  rintro rfl
  obtain ⟨A, c, hb, _⟩ := h.cell
  obtain ⟨D, ⟨es, clock, hm, _⟩, _⟩ := h.map
  rw [hb] at hm
  cases hm
theorem FarP.cell_ne (h : FarP w S g m N st) {p : Addr} {v : Value} (hc : w.cell? p = some v) : p.block ≠ m := by
  rintro rfl
  obtain ⟨D, ⟨es, clock, hb, _⟩, _⟩ := h.map
  simp [World.cell?, hb] at hc
theorem FarP.lt (h : FarP w S g m N st) : g < w.heap.size ∧ m < w.heap.size := ⟨h.bd g h.sg, h.bd m h.sm⟩
/-- Other blocks have turned. -/
theorem FarP.other (h : FarP w S g m N st) (hk : Kept w w' S2) (hs : ∀ k, S2 k → S k) (hg : ¬ S2 g) (hm : ¬ S2 m) : FarP w' S g m N st := by
  have hk' := hk.mono hs
  obtain ⟨A, c, hb, hc, hl⟩ := h.cell
  obtain ⟨D, ho, ht⟩ := h.map
  exact ⟨fun k hk2 => Nat.lt_of_lt_of_le (h.bd k hk2) hk.1, h.sg, h.sm, ⟨A, c, (hk.2 g h.lt.1 hg).trans hb, hc, hl.step hk'⟩, ⟨D, owns_block ho (hk.2 m h.lt.2 hm), ht.step hk'⟩, h.ris⟩
theorem FarP.none_ (h : FarP w S g m N st) (hk : Stp (fun _ => False) w w') : FarP w' S g m N st := h.other hk.kept (fun _ h => h.elim) (fun h => h) (fun h => h)
theorem FarP.below (h : FarP w S g m N st) (hb : Below w.heap.size w w') : FarP w' S g m N st := h.none_ (Stp.of_below hb _)
theorem FarP.same (h : FarP w S g m N st) (e : w'.heap = w.heap) : FarP w' S g m N st := h.other (S2 := fun _ => False) ⟨by rw [e]; exact Nat.le_refl _, fun i _ _ => by rw [e]⟩ (fun _ h => h.elim) (fun h => h) (fun h => h)
theorem FarP.drewN (h : FarP w S g m N st) (n : Nat) : FarP (w.drewN n) S g m N st := h.same rfl
theorem FarP.more (h : FarP w S g m N st) {N' : Nat} (hN : N ≤ N') : FarP w S g m N' st := by
  obtain ⟨D, ho, ht⟩ := h.map
  exact ⟨h.bd, h.sg, h.sm, h.cell, ⟨D, ho.mono hN, ht⟩, h.ris⟩
theorem rawR_inv {u : Value} {D : DataW Value} {k : Lit} {z : DataW Value} {qs : List MemPlace} (h : rawR u = some (D.atKey k z, qs)) : D.atKey k z = .held u := by
  unfold rawR at h
  injection h with h
  injection h with h _
  exact h.symm
theorem look_one (h : FarP w S g m N st) (s : ByteArray) (hs : s.size ≤ maxLen) :
    ∃ D v, w.ownsMap Try.prog 9 rawR m N D ∧ Ties w S D st.l ∧ D.atKey (sl s) (.held (.slice none 0 0)) = .held v ∧ (∀ j, (Instr.lookup 68 (.map (some m)) (.string s) true).run Try.prog (w.drewN j) = .ok (.tuple #[v, .bool (findO st.l s).isSome]) (w.drewN j)) := by
  obtain ⟨D, ho, ht⟩ := h.map
  have key : ∀ j, ∃ v ps, (Instr.lookup 68 (.map (some m)) (.string s) true).run Try.prog (w.drewN j) = .ok (.tuple #[v, .bool (Maps.has D (sl s))]) (w.drewN j) ∧ rawR v = some (D.atKey (sl s) (.held (.slice none 0 0)), ps) := fun j =>
    World.ownsMap.look_ok (w := w.drewN j) (owns_block ho rfl) law Try.underlying68 (zeroE _) (zd := .held (.slice none 0 0)) (zp := []) rfl (keyOf_string_mk Try.underlying9 hs)
  obtain ⟨v, ps, _, h2⟩ := key 0
  have h3 := rawR_inv h2
  refine ⟨D, v, ho, ht, h3, fun j => ?_⟩
  obtain ⟨u, qs, k1, k2⟩ := key j
  have k3 := h3.symm.trans (rawR_inv k2)
  obtain rfl : v = u := DataW.held.inj k3
  rw [← ht.has s]
  exact k1
/-- The look-up with 'ok', at every draw: nothing there. -/
theorem FarP.look_none (h : FarP w S g m N st) (s : ByteArray) (hs : s.size ≤ maxLen) (hf : findO st.l s = none) :
    ∀ j, (Instr.lookup 68 (.map (some m)) (.string s) true).run Try.prog (w.drewN j) = .ok (.tuple #[.slice none 0 0, .bool false]) (w.drewN j) := by
  obtain ⟨D, v, ho, ht, hat, hr⟩ := look_one h s hs
  have h1 := ht.has s
  rw [hf] at h1
  rw [atKey_of_not_has h1] at hat
  obtain rfl := DataW.held.inj hat
  rw [hf] at hr
  exact hr
/-- .. and an object there. -/
theorem FarP.look_some (h : FarP w S g m N st) (s : ByteArray) (hs : s.size ≤ maxLen) {d : ByteArray} (hf : findO st.l s = some d) :
    ∃ A xs c, xs.length ≤ c ∧ xs.length ≤ 1048576 ∧ Bts xs ∧ Lives w S (Kd.int .u8) A xs ∧ strOfNums xs = d ∧ ∀ j, (Instr.lookup 68 (.map (some m)) (.string s) true).run Try.prog (w.drewN j) = .ok (.tuple #[.slice A xs.length c, .bool true]) (w.drewN j) := by
  obtain ⟨D, v, ho, ht, hat, hr⟩ := look_one h s hs
  obtain ⟨A, xs, c, h1, h2, h3, h4, h5, h6⟩ := ht.val s d hf
  rw [h1] at hat
  obtain rfl := DataW.held.inj hat
  rw [hf] at hr
  exact ⟨A, xs, c, h2, h3, h4, h5, h6, hr⟩
theorem sl_inj {s t : ByteArray} (h : sl s = sl t) : s = t := bytes_eq (by simpa [sl] using h)
theorem sl_key (s : ByteArray) : WideAt.IsKeyLit (sl s) := by simp [WideAt.IsKeyLit]
/-- A store at a new name. -/
theorem FarP.store (h : FarP w S g m N st) (hN : N < maxLen) (s : ByteArray) (hs : s.size ≤ maxLen) (hf : findO st.l s = none) {A : Option Addr} {xs : List Int} {c : Nat} (hl : Lives w S (Kd.int .u8) A xs) (hc : xs.length ≤ c) (hx : xs.length ≤ 1048576) (hr : Bts xs) :
    ∃ w2, (Instr.mapUpdate 68 (.map (some m)) (.string s) (.slice A xs.length c)).run Try.prog w = .ok () w2 ∧ FarP w2 S g m (N + 1) (st.put s (strOfNums xs)) ∧ Stp (fun k => k = m) w w2 := by
  obtain ⟨D, ho, ht⟩ := h.map
  obtain ⟨w2, hrun, ho2, hturn⟩ := World.ownsMap.store ho law Try.underlying68 hN (keyOf_string_mk Try.underlying9 hs) (val := .slice A xs.length c) (d := .held (.slice A xs.length c)) (ps := []) rfl
  have hst := Stp.of_turn hturn
  have hk : Kept w w2 S := hst.kept.mono (fun k e => e ▸ h.sm)
  have hgm : g ≠ m := fun e => h.apart e.symm
  obtain ⟨A1, c1, hb, hc1, hl1⟩ := h.cell
  refine ⟨w2, hrun, ⟨fun k hk2 => Nat.lt_of_lt_of_le (h.bd k hk2) hk.1, h.sg, h.sm, ⟨A1, c1, (hst.kept.2 g h.lt.1 hgm).trans hb, hc1, hl1.step hk⟩, ⟨_, ho2, fun t => ?_, fun t d hd => ?_⟩, rising_ins h.ris hf⟩, hst⟩
  · show _ = (findO (insO st.l s (strOfNums xs)) t).isSome
    rw [findO_ins _ _ _ _ hf]
    by_cases e : s = t
    · subst e
      rw [has_put_same ho.isMap (sl_key s), if_pos rfl]; rfl
    · rw [has_put_other (fun e2 => e (sl_inj e2.symm)), if_neg e, ht.has]
  · have hd' : findO (insO st.l s (strOfNums xs)) t = some d := hd
    rw [findO_ins _ _ _ _ hf] at hd'
    by_cases e : s = t
    · subst e
      rw [if_pos rfl] at hd'
      exact ⟨A, xs, c, fun z => atKey_put_same ho.isMap (sl_key s) _ z, hc, hx, hr, hl.step hk, by injection hd'⟩
    · rw [if_neg e] at hd'
      obtain ⟨A2, xs2, c2, h1, h2, h3, h4, h5, h6⟩ := ht.val t d hd'
      exact ⟨A2, xs2, c2, fun z => by rw [atKey_put_other (fun e2 => e (sl_inj e2.symm))]; exact h1 z, h2, h3, h4, h5.step hk, h6⟩
/-- A name taken away. -/
theorem FarP.delete (h : FarP w S g m N st) (s : ByteArray) (hs : s.size ≤ maxLen) (ty : TypeId) :
    ∃ w2, (Builtin.delete_ #[68, 9] ty #[.map (some m), .string s]).run Try.prog w = .ok (.tuple #[]) w2 ∧ FarP w2 S g m N (st.del s) ∧ Stp (fun k => k = m) w w2 := by
  obtain ⟨D, ho, ht⟩ := h.map
  obtain ⟨w2, hrun, ho2, hturn⟩ := World.ownsMap.drop ho law Try.underlying68 (keyOf_string_mk Try.underlying9 hs) ty
  have hst := Stp.of_turn hturn
  have hk : Kept w w2 S := hst.kept.mono (fun k e => e ▸ h.sm)
  have hgm : g ≠ m := fun e => h.apart e.symm
  obtain ⟨A1, c1, hb, hc1, hl1⟩ := h.cell
  refine ⟨w2, hrun, ⟨fun k hk2 => Nat.lt_of_lt_of_le (h.bd k hk2) hk.1, h.sg, h.sm, ⟨A1, c1, (hst.kept.2 g h.lt.1 hgm).trans hb, hc1, hl1.step hk⟩, ⟨_, ho2, fun t => ?_, fun t d hd => ?_⟩, rising_drop h.ris⟩, hst⟩
  · show _ = (findO (dropO st.l s) t).isSome
    rw [findO_drop _ _ h.ris]
    by_cases e : s = t
    · subst e
      rw [has_del_same, if_pos rfl]; rfl
    · rw [has_del_other (fun e2 => e (sl_inj e2.symm)), if_neg e, ht.has]
  · have hd' : findO (dropO st.l s) t = some d := hd
    rw [findO_drop _ _ h.ris] at hd'
    by_cases e : s = t
    · rw [if_pos e] at hd'; cases hd'
    · rw [if_neg e] at hd'
      obtain ⟨A2, xs2, c2, h1, h2, h3, h4, h5, h6⟩ := ht.val t d hd'
      exact ⟨A2, xs2, c2, fun z => by rw [atKey_del_other (fun e2 => e (sl_inj e2.symm))]; exact h1 z, h2, h3, h4, h5.step hk, h6⟩
/-- The calls' number written. -/
theorem FarP.count (h : FarP w S g m N st) (c' : Int) : FarP (w.setCell ⟨g, 2, none⟩ (.int .i64 c')) S g m N ⟨st.l, st.nx, c'⟩ ∧ Stp (fun k => k = g) w (w.setCell ⟨g, 2, none⟩ (.int .i64 c')) := by
  have hst : Stp (fun k => k = g) w (w.setCell ⟨g, 2, none⟩ (.int .i64 c')) := (Stp.refl (fun k => k = g) w).setCell (p := ⟨g, 2, none⟩) (.inl rfl) _
  have hk : Kept w (w.setCell ⟨g, 2, none⟩ (.int .i64 c')) S := hst.kept.mono (fun k e => e ▸ h.sg)
  obtain ⟨A, c, hb, hc, hl⟩ := h.cell
  obtain ⟨D, ho, ht⟩ := h.map
  exact ⟨⟨fun k hk2 => Nat.lt_of_lt_of_le (h.bd k hk2) hk.1, h.sg, h.sm, ⟨A, c, blk_put hb 2 _ rfl, hc, hl.step hk⟩, ⟨D, owns_block ho (Below.heap_setCell w ⟨g, 2, none⟩ _ m h.apart), ht.step hk⟩, h.ris⟩, hst⟩
/-- The outcomes written. -/
theorem FarP.outs (h : FarP w S g m N st) {A : Option Addr} {nx : List Int} {c : Nat} (hl : Lives w S (Kd.int .i64) A nx) (hc : nx.length ≤ c) : FarP (w.setCell ⟨g, 1, none⟩ (.slice A nx.length c)) S g m N ⟨st.l, nx, st.calls⟩ ∧ Stp (fun k => k = g) w (w.setCell ⟨g, 1, none⟩ (.slice A nx.length c)) := by
  have hst : Stp (fun k => k = g) w (w.setCell ⟨g, 1, none⟩ (.slice A nx.length c)) := (Stp.refl (fun k => k = g) w).setCell (p := ⟨g, 1, none⟩) (.inl rfl) _
  have hk : Kept w (w.setCell ⟨g, 1, none⟩ (.slice A nx.length c)) S := hst.kept.mono (fun k e => e ▸ h.sg)
  obtain ⟨A0, c0, hb, _, _⟩ := h.cell
  obtain ⟨D, ho, ht⟩ := h.map
  exact ⟨⟨fun k hk2 => Nat.lt_of_lt_of_le (h.bd k hk2) hk.1, h.sg, h.sm, ⟨A, c, blk_put hb 1 _ rfl, hc, hl.step hk⟩, ⟨D, owns_block ho (Below.heap_setCell w ⟨g, 1, none⟩ _ m h.apart), ht.step hk⟩, h.ris⟩, hst⟩
end
/-! ### the calls that only look, and Next -/
theorem left_calls {w : World} {S : Nat → Prop} {g m N : Nat} {st : FS} (h : FarP w S g m N st) :
    Calls Try.prog 20 #[.pointer (some ⟨g, 0, none⟩)] w fun e w' => e = .returned (.int .i64 st.nx.length) ∧ w' = w := by
  obtain ⟨A, c, hb, hc, hl⟩ := h.cell
  have c1 := (blk_cell hb 1).trans rfl
  have hm : st.nx.length ≤ 9223372036854775807 := hl.now.2.1
  clear hl h
  go_enter Try.func20, Try.ntmps20
  go_wp2
  go_ret
  exact ⟨rfl, rfl⟩
theorem callsOf_calls {w : World} {S : Nat → Prop} {g m N : Nat} {st : FS} (h : FarP w S g m N st) :
    Calls Try.prog 30 #[.pointer (some ⟨g, 0, none⟩)] w fun e w' => e = .returned (.int .i64 st.calls) ∧ w' = w := by
  obtain ⟨A, c, hb, hc, hl⟩ := h.cell
  have c2 := (blk_cell hb 2).trans rfl
  clear hl h
  go_enter Try.func30, Try.ntmps30
  go_wp2
  go_ret
  exact ⟨rfl, rfl⟩
theorem next_calls {w : World} {S : Nat → Prop} {g m N : Nat} {st : FS} (h : FarP w S g m N st) (A : Option Addr) (c : Nat) (l : List Int) (hr : Kd.C (Kd.int .i64) w A l.length l) (hl : l.length ≤ 1048576) :
    Calls Try.prog 16 #[.pointer (some ⟨g, 0, none⟩), .slice A l.length c] w fun e w' => e = .returned (.tuple #[]) ∧ FarP w' S g m N ⟨st.l, l, st.calls⟩ ∧ Stp (fun k => k = g) w w' := by
  obtain ⟨A0, c0, hb, _, _⟩ := h.cell
  have HH := Aside0.mk h
  have HR := Aside0.mk hr
  have HB := Aside0.mk hb
  clear hr hb h
  go_enter Try.func16, Try.ntmps16
  go_wp2_with (go_at_call 41; (with_reducible refine (cloneI_calls A c l _ HR.out hl).mono ?_); rintro _ w1 ⟨v, rfl, hv, hbel⟩; obtain ⟨A1, c1', rfl, hc1, hl1⟩ := Lives.new hv HH.out.bd; have HL := Aside0.mk hl1; clear hl1; have hb1 := blk_below HB.out hbel; have c1 : w1.cell? ⟨g, 1, none⟩ = some (.slice A0 st.nx.length c0) := blk_cell hb1 1; have f1 := blk_frozen hb1 1)
  go_end0
  obtain ⟨k1, k2⟩ := (HH.out.below hbel).outs HL.out hc1
  exact ⟨rfl, k1, (Stp.of_below hbel _).trans k2⟩
end Go.Proofs.Ytbedfilammjlpaa.P
