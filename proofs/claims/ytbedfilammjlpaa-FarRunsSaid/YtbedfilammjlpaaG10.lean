/- Copy of a far store: another one that is the same. -/
import Derived.Test.YtbedfilammjlpaaG9
namespace Go.Proofs.Ytbedfilammjlpaa.P
open Go.RowKit Go.Proofs.YtbedfilammjlpaaW.PrintWords Go.Proofs.YtbedfilammjlpaaW.PrintMore Go.Maps Go.WideMaps Go.Sort
set_option linter.unusedVariables false
section
variable {w : World} {S : Nat → Prop} {g m N : Nat} {st : FS}
/-- A new store without objects, as Copy lays it. -/
structure Fresh (w W : World) (g' m' : Nat) (nx : List Int) (calls : Int) : Prop where
  cell : ∃ A c, W.heap[g']? = some (.cells #[.map (some m'), .slice A nx.length c, .int .i64 calls] 70 (0, 0)) ∧ nx.length ≤ c ∧ (∀ S2 : Nat → Prop, (∀ k, S2 k → k = g' ∨ k = m' ∨ k < w.heap.size) → Lives W S2 (Kd.int .i64) A nx)
  own : W.ownsMap Try.prog 9 rawR m' 0 (.map [])
  bel : Below w.heap.size w W
  gn : w.heap.size ≤ g'
  mn : w.heap.size ≤ m'
  ne : g' ≠ m'
  glt : g' < W.heap.size
  mlt : m' < W.heap.size
theorem row_lives {w1 W : World} {base e : Nat} {A : Option Addr} {c : Nat} {q : IntKind} {xs : List Int} (hv : Kd.R (Kd.int q) e w1 base (fun _ => True) (.slice A xs.length c) xs) (hb : Below w1.heap.size w1 W) {S2 : Nat → Prop} (hS : ∀ k, S2 k → k < base ∨ w1.heap.size ≤ k) : Lives W S2 (Kd.int q) A xs := by
  have h2 := Kd.R_below (Kd.R_bound hv) hb
  exact Kd.C_kept_own h2 (fun k hk hs => by have h3 := hk.2.1; have h4 := hk.2.2.1; rcases hS k hs with h5 | h5 <;> omega)
theorem fresh1 {w w1 : World} {A : Option Addr} {c : Nat} {nx : List Int} {calls : Int} (hbel : Below (w.alloc (.map #[] 0)).drew.heap.size (w.alloc (.map #[] 0)).drew w1) (hv : Kd.R (Kd.int .i64) 3 w1 (w.alloc (.map #[] 0)).drew.heap.size (fun _ => True) (.slice A nx.length c) nx) :
    Fresh w (w1.alloc (.cells #[.map (some w.heap.size), .slice A nx.length c, .int .i64 calls] 70)) w1.heap.size w.heap.size nx calls := by
  have hs : (w.alloc (.map #[] 0)).drew.heap.size = w.heap.size + 1 := by simp
  have hsz := hbel.size
  rw [hs] at hsz
  have hb1 : Below w1.heap.size w1 (w1.alloc (.cells #[.map (some w.heap.size), .slice A nx.length c, .int .i64 calls] 70)) := (Below.refl _ w1).alloc (Nat.le_refl _) _
  refine ⟨⟨A, c, heap_alloc_new _ _, (Kd.R_reads' hv).2.1, fun S2 h2 => row_lives hv hb1 (fun k hk => ?_)⟩, ?_, ?_, by omega, Nat.le_refl _, by omega, by simp, by simp; omega⟩
  · rw [hs]
    rcases h2 k hk with h | h | h <;> omega
  · refine owns_block (w := (w.alloc (.map #[] 0)).drew) (World.ownsMap_made w Try.prog 9 rawR) ?_
    exact (hb1.block _ (by omega)).trans (hbel.block _ (by rw [hs]; omega))
  · exact (((Below.refl _ w).alloc (Nat.le_refl _) (.map #[] 0)).drew.trans (hbel.mono (by rw [hs]; omega))).trans (hb1.mono (by omega))
theorem fresh2 {w w1 : World} {A : Option Addr} {c : Nat} {nx : List Int} {calls : Int} (hbel : Below w.drew.heap.size w.drew w1) (hv : Kd.R (Kd.int .i64) 3 w1 w.drew.heap.size (fun _ => True) (.slice A nx.length c) nx) :
    Fresh w ((w1.alloc (.map #[] 0)).alloc (.cells #[.map (some w1.heap.size), .slice A nx.length c, .int .i64 calls] 70)) (w1.heap.size + 1) w1.heap.size nx calls := by
  have hsz : w.heap.size ≤ w1.heap.size := hbel.size
  have hb1 : Below w1.heap.size w1 (w1.alloc (.map #[] 0)) := (Below.refl _ w1).alloc (Nat.le_refl _) _
  have hb2 : Below w1.heap.size w1 ((w1.alloc (.map #[] 0)).alloc (.cells #[.map (some w1.heap.size), .slice A nx.length c, .int .i64 calls] 70)) := hb1.alloc (by simp) _
  have hg : (w1.alloc (.map #[] 0)).heap.size = w1.heap.size + 1 := by simp
  refine ⟨⟨A, c, by rw [← hg]; exact heap_alloc_new _ _, (Kd.R_reads' hv).2.1, fun S2 h2 => row_lives hv hb2 (fun k hk => ?_)⟩, (World.ownsMap_made w1 Try.prog 9 rawR).alloc _, ?_, by omega, hsz, by omega, by simp, by simp; omega⟩
  · rcases h2 k hk with h | h | h
    · exact .inr (by omega)
    · exact .inr (by omega)
    · exact .inl h
  · exact ((Below.refl _ w).drew.trans hbel).trans (hb2.mono hsz)
/-- The copy's datum has just those objects of l that are no longer to come. -/
structure PTies (w : World) (Z : Nat → Prop) (D : DataW Value) (l : Obs) (left : Lit → Bool) : Prop where
  has : ∀ s : ByteArray, Maps.has D (sl s) = ((findO l s).isSome && !left (sl s))
  val : ∀ s d, findO l s = some d → left (sl s) = false → ∃ A xs c, (∀ z, D.atKey (sl s) z = .held (.slice A xs.length c)) ∧ xs.length ≤ c ∧ xs.length ≤ 1048576 ∧ Bts xs ∧ Lives w Z (Kd.int .u8) A xs ∧ strOfNums xs = d
theorem PTies.start {w W : World} {S Z : Nat → Prop} {D : DataW Value} {l : Obs} (ht : Ties W S D l) : PTies w Z (.map []) l (Maps.has D) :=
  ⟨fun s => by rw [ht.has]; cases (findO l s).isSome <;> rfl, fun s d hf hl => by rw [ht.has, hf] at hl; cases hl⟩
theorem PTies.step {w w' : World} {Z : Nat → Prop} {D : DataW Value} {l : Obs} {left : Lit → Bool} (h : PTies w Z D l left) (hk : Kept w w' Z) : PTies w' Z D l left :=
  ⟨h.has, fun s d hf hl => by
    obtain ⟨A, xs, c, h1, h2, h3, h4, h5, h6⟩ := h.val s d hf hl
    exact ⟨A, xs, c, h1, h2, h3, h4, h5.step hk, h6⟩⟩
theorem PTies.put {w : World} {Z : Nat → Prop} {D : DataW Value} {l : Obs} {left : Lit → Bool} (h : PTies w Z D l left) (hD : Maps.IsMap D) {nm d : ByteArray} (hf : findO l nm = some d) {A : Option Addr} {xs : List Int} {c : Nat} (h2 : xs.length ≤ c) (h3 : xs.length ≤ 1048576) (h4 : Bts xs) (h5 : Lives w Z (Kd.int .u8) A xs) (h6 : strOfNums xs = d) :
    PTies w Z (D.put (sl nm) (.held (.slice A xs.length c))) l (fun z => left z && !z.sameKey (sl nm)) := by
  refine ⟨fun s => ?_, fun s d' hf' hl => ?_⟩
  · by_cases e : nm = s
    · subst e
      rw [has_put_same hD (sl_key nm), hf]
      simp [Lit.sameKey, sl]
    · have e2 : sl s ≠ sl nm := fun e3 => e (sl_inj e3.symm)
      rw [has_put_other e2, h.has]
      rw [Maps.sameKey_ne e2]
      simp
  · by_cases e : nm = s
    · subst e
      rw [hf] at hf'
      exact ⟨A, xs, c, fun z => atKey_put_same hD (sl_key nm) _ z, h2, h3, h4, h5, by injection hf' with hf'; rw [h6, hf']⟩
    · have e2 : sl s ≠ sl nm := fun e3 => e (sl_inj e3.symm)
      have hl' : left (sl s) = false := by
        have h7 : (left (sl s) && !(sl s).sameKey (sl nm)) = false := hl
        rw [Maps.sameKey_ne e2] at h7
        simpa using h7
      obtain ⟨A2, xs2, c2, k1, k2, k3, k4, k5, k6⟩ := h.val s d' hf' hl'
      exact ⟨A2, xs2, c2, fun z => by rw [atKey_put_other e2]; exact k1 z, k2, k3, k4, k5, k6⟩
theorem PTies.done {w : World} {Z : Nat → Prop} {D : DataW Value} {l : Obs} {left : Lit → Bool} (h : PTies w Z D l left) (hl : ∀ kl, left kl = false) : Ties w Z D l :=
  ⟨fun s => by rw [h.has, hl]; simp, fun s d hf => h.val s d hf (hl _)⟩
/-- A copy in the making. -/
structure Copying (w wr : World) (g' m' r N cnt nOut : Nat) (st : FS) (D Dout : DataW Value) (left : Lit → Bool) : Prop where
  cell : ∃ A c, wr.heap[g']? = some (.cells #[.map (some m'), .slice A st.nx.length c, .int .i64 st.calls] 70 (0, 0)) ∧ st.nx.length ≤ c ∧ Lives wr (fun k => k = g' ∨ k = m' ∨ k = r ∨ k < w.heap.size) (Kd.int .i64) A st.nx
  own : wr.ownsMap Try.prog 9 rawR m' nOut Dout
  pt : PTies wr (fun k => k = g' ∨ k = m' ∨ k = r ∨ k < w.heap.size) Dout st.l left
  bel : Below w.heap.size w wr
  few : nOut + cnt ≤ N
  gn : w.heap.size ≤ g'
  mn : w.heap.size ≤ m'
  ne : g' ≠ m'
  glt : g' < wr.heap.size
  mlt : m' < wr.heap.size
  rlt : r < wr.heap.size
  rne : r ≠ g' ∧ r ≠ m'
  rn : w.heap.size ≤ r
theorem Copying.start {w W w0 W2 : World} {g' m' N : Nat} {st : FS} {S : Nat → Prop} {D : DataW Value} (h : Fresh w W g' m' st.nx st.calls) (ht : Ties W2 S D st.l) (hg : W.grownBy w0 none) (hs : w0.heap.size = W.heap.size + 1) (hN : Maps.size D ≤ N) : Copying w w0 g' m' W.heap.size N (Maps.size D) 0 st D (.map []) (Maps.has D) := by
  have hk : ∀ i, i < W.heap.size → w0.heap[i]? = W.heap[i]? := fun i hi => hg.block i hi (by simp)
  have hglt := h.glt
  have hmlt := h.mlt
  obtain ⟨A, c, h1, h2, h3⟩ := h.cell
  refine ⟨⟨A, c, (hk _ h.glt).trans h1, h2, ?_⟩, owns_block h.own (hk _ h.mlt), PTies.start ht, h.bel.grown hg h.bel.size (fun k hk => by cases hk), by omega, h.gn, h.mn, h.ne, by omega, by omega, by omega, ⟨by omega, by omega⟩, h.bel.size⟩
  refine Lives.move (h3 (fun k => k = g' ∨ k = m' ∨ k < w.heap.size) (fun k hk => hk)) ⟨hg.size, fun i hi _ => hk i hi⟩ (fun k hk => ?_)
  rcases hk with e | e | e | e
  · exact .inl (.inl e)
  · exact .inl (.inr (.inl e))
  · exact .inr (by omega)
  · exact .inl (.inr (.inr e))
/-- Other blocks of Z have turned, or new ones came. -/
theorem Copying.turned {w wr w2 : World} {g' m' r N cnt nOut : Nat} {st : FS} {D Dout : DataW Value} {left : Lit → Bool} (h : Copying w wr g' m' r N cnt nOut st D Dout left) {row : Option Nat} (hg : wr.grownBy w2 row) (hr : row = none ∨ row = some r) : Copying w w2 g' m' r N cnt nOut st D Dout left := by
  have hne : ∀ k, k ≠ r → some k ≠ row := by
    rintro k hk e
    rcases hr with e2 | e2
    · rw [e2] at e; cases e
    · rw [e2] at e; injection e with e; exact hk e
  have hk : Kept wr w2 (fun k => k = g' ∨ k = m' ∨ k = r ∨ k < w.heap.size) := ⟨hg.size, fun i hi hn => hg.block i hi (hne i (fun e => hn (.inr (.inr (.inl e)))))⟩
  obtain ⟨A, c, h1, h2, h3⟩ := h.cell
  have hsz := hg.size
  exact ⟨⟨A, c, (hg.block _ h.glt (hne _ (fun e => h.rne.1 e.symm))).trans h1, h2, h3.step hk⟩, owns_block h.own (hg.block _ h.mlt (hne _ (fun e => h.rne.2 e.symm))), h.pt.step hk, h.bel.grown hg h.bel.size (fun k e => by
    rcases hr with e2 | e2
    · rw [e2] at e; cases e
    · rw [e2] at e; injection e with e; have := h.rn; omega), h.few, h.gn, h.mn, h.ne, Nat.lt_of_lt_of_le h.glt hsz, Nat.lt_of_lt_of_le h.mlt hsz, Nat.lt_of_lt_of_le h.rlt hsz, h.rne, h.rn⟩
/-- An object has been copied. -/
theorem Copying.put {w wr w2 : World} {g' m' r N cnt cnt2 nOut : Nat} {st : FS} {D Dout : DataW Value} {left : Lit → Bool} (h : Copying w wr g' m' r N cnt nOut st D Dout left) (hc : cnt2 < cnt) {nm d : ByteArray} (hf : findO st.l nm = some d) {A : Option Addr} {xs : List Int} {c : Nat} (h2 : xs.length ≤ c) (h3 : xs.length ≤ 1048576) (h4 : Bts xs) (h5 : Lives wr (fun k => k = g' ∨ k = m' ∨ k = r ∨ k < w.heap.size) (Kd.int .u8) A xs) (h6 : strOfNums xs = d)
    (ho : w2.ownsMap Try.prog 9 rawR m' (nOut + 1) (Dout.put (sl nm) (.held (.slice A xs.length c)))) (ht : wr.mapTurned w2 m') :
    Copying w w2 g' m' r N cnt2 (nOut + 1) st D (Dout.put (sl nm) (.held (.slice A xs.length c))) (fun z => left z && !z.sameKey (sl nm)) := by
  have hst := Stp.of_turn ht
  have hk : Kept wr w2 (fun k => k = g' ∨ k = m' ∨ k = r ∨ k < w.heap.size) := hst.kept.mono (fun k e => .inr (.inl e))
  obtain ⟨A1, c1, k1, k2, k3⟩ := h.cell
  have hsz := hk.1
  have hf2 := h.few
  exact ⟨⟨A1, c1, (hst.kept.2 _ h.glt h.ne).trans k1, k2, k3.step hk⟩, ho, (h.pt.put h.own.isMap hf h2 h3 h4 h5 h6).step hk, h.bel.grown ht.grown h.bel.size (fun k e => by injection e with e; have := h.mn; omega), by omega, h.gn, h.mn, h.ne, Nat.lt_of_lt_of_le h.glt hsz, Nat.lt_of_lt_of_le h.mlt hsz, Nat.lt_of_lt_of_le h.rlt hsz, h.rne, h.rn⟩
theorem Copying.done {w wr : World} {g' m' r N cnt nOut : Nat} {st : FS} {D Dout : DataW Value} {left : Lit → Bool} (h : Copying w wr g' m' r N cnt nOut st D Dout left) (hris : Rising st.l) (hl : ∀ kl, left kl = false) (S2 : Nat → Prop) (hS : ∀ k, S2 k → k = g' ∨ k = m' ∨ k < w.heap.size) (hg : S2 g') (hm : S2 m') : FarP wr S2 g' m' N st := by
  have hF : FarP wr (fun k => k = g' ∨ k = m' ∨ k = r ∨ k < w.heap.size) g' m' N st := by
    have hf := h.few
    refine ⟨fun k hk => ?_, .inl rfl, .inr (.inl rfl), h.cell, ⟨Dout, h.own.mono (by omega), h.pt.done hl⟩, hris⟩
    have := h.bel.size
    have h1 := h.glt
    have h2 := h.mlt
    have h3 := h.rlt
    rcases hk with e | e | e | e <;> omega
  refine hF.narrow (fun k hk => ?_) hg hm
  rcases hS k hk with e | e | e
  · exact .inl e
  · exact .inr (.inl e)
  · exact .inr (.inr (.inr e))
theorem keep_turn2 {w w' : World} {m' n : Nat} {D : DataW Value} (h : Aside0 (w.ownsMap Try.prog 9 rawR m' n D)) (ht : w.mapTurned w' m') {p : Addr} {v : Value} (hc : w.cell? p = some v) : w'.cell? p = some v := by
  have hne : p.block ≠ m' := by
    rintro rfl
    obtain ⟨es, clock, hb, _⟩ := h.out
    simp [World.cell?, hb] at hc
  exact (Stp.of_turn ht).cell hc hne
set_option maxRecDepth 100000 in
set_option maxHeartbeats 1000000 in
theorem copy_calls (h : FarP w S g m N st) (hN : N ≤ 1000000) (hx : st.nx.length ≤ 1048576) :
    Calls Try.prog 26 #[.pointer (some ⟨g, 0, none⟩)] w fun e w' => ∃ g' m', e = .returned (.pointer (some ⟨g', 0, none⟩)) ∧ w.heap.size ≤ g' ∧ w.heap.size ≤ m' ∧ (∀ S2 : Nat → Prop, (∀ k, S2 k → k = g' ∨ k = m' ∨ k < w.heap.size) → S2 g' → S2 m' → FarP w' S2 g' m' N st) ∧ Below w.heap.size w w' := by
  have HS := Aside0.mk h
  obtain ⟨A0, c0, hb, hc0, hl⟩ := h.cell
  have c1 : w.cell? ⟨g, 0, none⟩ = some (.map (some m)) := blk_cell hb 0
  have c2 : w.cell? ⟨g, 1, none⟩ = some (.slice A0 st.nx.length c0) := blk_cell hb 1
  have c3 : w.cell? ⟨g, 2, none⟩ = some (.int .i64 st.calls) := blk_cell hb 2
  have HL := Aside0.mk hl
  clear hb hl h
  have hmm := @run_makeMap Try.prog
  go_enter Try.func26, Try.ntmps26
  go_wp2_with fail
  have d2 : (w.alloc (.map #[] 0)).drew.cell? ⟨g, 1, none⟩ = some (.slice A0 st.nx.length c0) := keep_cell (((Below.refl _ w).alloc (Nat.le_refl _) _).drew) c2
  have d3 : (w.alloc (.map #[] 0)).drew.cell? ⟨g, 2, none⟩ = some (.int .i64 st.calls) := keep_cell (((Below.refl _ w).alloc (Nat.le_refl _) _).drew) c3
  go_region_held3 (fun w' => w'.cell? ⟨g, 1, none⟩ = some (.slice A0 st.nx.length c0) ∧ w'.cell? ⟨g, 2, none⟩ = some (.int .i64 st.calls))
    (first | exact ⟨c2, c3⟩ | exact ⟨d2, d3⟩ | exact ⟨keep_cell hbel d2, keep_cell hbel d3⟩ | exact ⟨keep_cell hbel (W := w.drew) c2, keep_cell hbel (W := w.drew) c3⟩ | go_keep)
    (first | (go_at_call 41; (with_reducible refine (cloneI_calls A0 c0 st.nx w.drew (Kd.C_below HL.out.now (Below.refl _ w).drew) hx).mono ?_); rintro _ w1 ⟨v1, rfl, hv1, hbel⟩; have HV := Aside0.mk hv1; clear hv1; obtain ⟨A1, c1', hA1⟩ := Kd.R_slice HV.out; subst hA1) | (go_at_call 41; (with_reducible refine (cloneI_calls A0 c0 st.nx _ (Kd.C_below HL.out.now (((Below.refl _ w).alloc (Nat.le_refl _) _).drew)) hx).mono ?_); rintro _ w1 ⟨v1, rfl, hv1, hbel⟩; have HV := Aside0.mk hv1; clear hv1; obtain ⟨A1, c1', hA1⟩ := Kd.R_slice HV.out; subst hA1))
  all_goals first
    | (obtain ⟨m', hm⟩ : ∃ m', w.heap.size = m' := ⟨_, rfl⟩
       obtain ⟨g', hg⟩ : ∃ g', w1.heap.size = g' := ⟨_, rfl⟩
       obtain ⟨W, hW⟩ : ∃ W, w1.alloc (.cells #[.map (some w.heap.size), .slice A1 st.nx.length c1', .int .i64 st.calls] 70) = W := ⟨_, rfl⟩
       have HF : Aside0 (Fresh w W g' m' st.nx st.calls) := ⟨by rw [← hW, ← hg, ← hm]; exact fresh1 hbel HV.out⟩
       rw [hW, hg, hm]
       clear hW hg hm HV hbel)
    | (obtain ⟨m', hm⟩ : ∃ m', w1.heap.size = m' := ⟨_, rfl⟩
       obtain ⟨g', hg⟩ : ∃ g', w1.heap.size + 1 = g' := ⟨_, rfl⟩
       obtain ⟨W, hW⟩ : ∃ W, (w1.alloc (.map #[] 0)).alloc (.cells #[.map (some w1.heap.size), .slice A1 st.nx.length c1', .int .i64 st.calls] 70) = W := ⟨_, rfl⟩
       have HF : Aside0 (Fresh w W g' m' st.nx st.calls) := ⟨by rw [← hW, ← hg, ← hm]; exact fresh2 hbel HV.out⟩
       rw [hW, hg, hm]
       clear hW hg hm HV hbel)
  all_goals
    have c1W : W.cell? ⟨g, 0, none⟩ = some (.map (some m)) := keep_cell HF.out.bel c1
    obtain ⟨D, ho0, ht⟩ := HS.out.map
    have HT := Aside0.mk ht
    have HR := Aside0.mk HS.out.ris
    have hmW' : m < w.heap.size := HS.out.lt.2
    have ho := owns_block ho0 (HF.out.bel.block m hmW')
    have hsD : Maps.size D ≤ N := ho.size_le
    clear c1 c2 c3 d2 d3 ht ho0 hmm
    go_wp2_with (at_range; refine wpList_range_own _ rfl _ 68 rfl 9 22 law Try.underlying68 _ m N D rfl ho ?_; intro w0 hrg0 hg0 hs0; have HC := Aside0.mk (Copying.start HF.out HT.out hg0 hs0 hsD); clear hs0)
    go_frame
    go_loopw [4] (fun _ wr => ∃ (left : Lit → Bool) (cnt nOut : Nat) (Dout : DataW Value), wr.ranges Try.prog 9 rawR m W.heap.size N D left cnt ∧ Copying w wr g' m' W.heap.size N cnt nOut st D Dout left)
      (fun _ wr => wr.rangeLeft m W.heap.size)
    case atStart => exact ⟨_, _, _, _, hrg0, HC.out⟩
    case round =>
      obtain ⟨left, cnt, nOut, Dout, hrg, hcp⟩ := hrel
      have HCP := Aside0.mk hcp
      clear hcp
      go_wp2_with (at_next; refine wpList_next_ranges _ rfl _ rfl 9 law rawR encStr id invStr invRaw m W.heap.size N _ _ _ rfl hrg ?_ ?_)
      · intro hc0 hl0
        have HL0 := Aside0.mk hl0
        clear hl0 hrg
        go_wp2
        go_ret
        exact ⟨g', m', rfl, HCP.out.gn, HCP.out.mn, fun S2 h1 h2 h3 => HCP.out.done HR.out HL0.out S2 h1 h2 h3, HCP.out.bel⟩
      · intro x c kl yd yp w2 cnt2 hkey hlk hv hat hrg2 hlt hg2 hs2 hen
        obtain ⟨x', ex, rfl, hxl⟩ := Maps.keyOf_str Try.underlying9 hkey
        obtain rfl : x = x' := encStr_inj ex
        obtain ⟨nm, rfl⟩ : ∃ nm : ByteArray, x = nm.data.toList := ⟨⟨x.toArray⟩, by simp⟩
        have hmk : encStr nm.data.toList = Value.string nm := by simp [encStr]
        rw [hmk] at hen ⊢
        have hns : nm.size ≤ maxLen := by rw [data_length] at hxl; exact hxl
        have hhas := HT.out.has nm
        rw [Maps.has_true_of_atKey hat] at hhas
        obtain ⟨d, hd⟩ := Option.isSome_iff_exists.1 hhas.symm
        obtain ⟨A2, xs, c2, k1, k2, k3, k4, k5, k6⟩ := HT.out.val nm d hd
        have hyd : yd = .held c := by
          have h1 : some (DataW.held c, ([] : List MemPlace)) = some (yd, yp) := hv
          injection h1 with h1
          injection h1 with h1 _
          exact h1.symm
        have hc1 : DataW.held c = .held (.slice A2 xs.length c2) := by rw [← hyd, ← hat (.nil), ← k1 (.nil)]
        obtain rfl : c = .slice A2 xs.length c2 := DataW.held.inj hc1
        have HCP2 := Aside0.mk (HCP.out.turned hg2 (.inr rfl))
        have HX := Aside0.mk (Kd.C_below k5.now HCP2.out.bel)
        have HD := Aside0.mk hd
        have HS6 := Aside0.mk k6
        have HRG := Aside0.mk hrg2
        have hnO : nOut < maxLen := by have := HCP.out.few; unfold maxLen; omega
        obtain ⟨A9, c9, hb9, _, _⟩ := HCP2.out.cell
        have cg : w2.cell? ⟨g', 0, none⟩ = some (.map (some m')) := blk_cell hb9 0
        have hZ : ∀ k, (k = g' ∨ k = m' ∨ k = W.heap.size ∨ k < w.heap.size) → k < w2.heap.size := fun k hk => by
          have h1 := HCP2.out.glt
          have h2 := HCP2.out.mlt
          have h3 := HCP2.out.rlt
          have h4 := HCP2.out.bel.size
          rcases hk with e | e | e | e <;> omega
        have HZ := Aside0.mk hZ
        clear hs2 hkey hlk hv hat ex hxl hhas k1 k5 k6 hyd hc1 hd hrg2 hmk hb9 hZ
        go_wp2_with fail
        go_region_held3 (fun w' => w'.cell? ⟨g', 0, none⟩ = some (.map (some m'))) (first | exact cg | exact keep_cell (W := w2.drew) hbel cg | exact keep_turn2 HO hturn (keep_cell (W := w2.drew) hbel cg) | go_keep) (first | (go_at_call 40; (with_reducible refine (cloneB_calls A2 c2 xs w2.drew (Kd.C_below HX.out (Below.refl _ w2).drew) k3).mono ?_); rintro _ w3 ⟨v3, rfl, hv3, hbel⟩; obtain ⟨A3, c3', rfl, hc3, hl3⟩ := Lives.new hv3 HZ.out; have HL3 := Aside0.mk hl3; have HCP3 := Aside0.mk (HCP2.out.turned (grown_of_below (w := w2) (w1 := w3) ⟨hbel.os, hbel.tape, hbel.output, hbel.size, hbel.block⟩ none) (.inl rfl)); clear hl3 hv3; obtain ⟨w4, hrun, ho4, hturn⟩ := World.ownsMap.store HCP3.out.own law Try.underlying68 hnO (keyOf_string_mk Try.underlying9 hns) (val := .slice A3 xs.length c3') (d := .held (.slice A3 xs.length c3')) (ps := []) rfl; have HO := Aside0.mk HCP3.out.own; have HO4 := Aside0.mk ho4; clear ho4))
        have hgr1 : w2.grownBy w3 none := grown_of_below (w := w2) (w1 := w3) ⟨hbel.os, hbel.tape, hbel.output, hbel.size, hbel.block⟩ none
        have hmn : m < m' := by have := HCP2.out.mn; omega
        have hrm : W.heap.size ≠ m' := HCP2.out.rne.2
        have HRG3 := Aside0.mk (HRG.out.kept hgr1 (by simp) (by simp))
        have HRG4 := Aside0.mk (HRG3.out.kept hturn.grown (fun e => by injection e with e; omega) (fun e => by injection e with e; exact hrm e))
        have HCP4 := Aside0.mk (HCP3.out.put hlt HD.out hc3 k3 k4 HL3.out HS6.out HO4.out hturn)
        go_wp2_with fail
        go_roundw
        case rel => exact ⟨_, cnt2, nOut + 1, _, HRG4.out, HCP4.out⟩
        case measure => rw [HRG4.out.left_eq, hrg.left_eq]; exact hlt
end
end Go.Proofs.Ytbedfilammjlpaa.P
