/- The program's store and the document's beside each other. -/
import Derived.Test.YtbedfilammjlpaaG17
import Derived.Test.YtbedfilammjlpaaG18
namespace Go.Proofs.Ytbedfilammjlpaa.P
open Go.RowKit Go.Proofs.YtbedfilammjlpaaW.PrintWords Go.Proofs.YtbedfilammjlpaaW.PrintMore Go.Maps Go.WideMaps
set_option linter.unusedVariables false
def GMH (g m h : Nat) : Nat → Prop := fun k => k = g ∨ k = m ∨ k = h
theorem FarP.small {w : World} {S : Nat → Prop} {g m N : Nat} {st : FS} (h : FarP w S g m N st) : ∀ p ∈ st.l, p.2.size ≤ 1048576 := by
  intro p hp
  obtain ⟨i, hi, rfl⟩ := List.getElem_of_mem hp
  obtain ⟨D, ho, ht⟩ := h.map
  obtain ⟨A, xs, c, _, _, h3, _, _, h6⟩ := ht.val _ _ (findO_get h.ris i hi)
  rw [← h6, size_strOfNums]
  exact h3
/-- Both stores, each in a state; W: the world in which the law began. -/
structure Two (W w : World) (g m h N1 N2 : Nat) (s1 s2 : FS) : Prop where
  far : FarP w (GMH g m h) g m N1 s1
  ref : RefP w (GMH g m h) h N2 s2
  bel : Below W.heap.size W w
  hg : W.heap.size ≤ g
  hm : W.heap.size ≤ m
  hh : W.heap.size ≤ h
  ng : h ≠ g
  nm : h ≠ m
section
variable {W w w' : World} {g m h N1 N2 N3 : Nat} {s1 s2 s3 : FS}
theorem Two.old (t : Two W w g m h N1 N2 s1 s2) : ∀ k, GMH g m h k → W.heap.size ≤ k := fun k hk => by
  have h1 := t.hg
  have h2 := t.hm
  have h3 := t.hh
  rcases hk with e | e | e <;> omega
theorem gmh_gm {a b : World} (hs : Stp (GM g m) a b) : Stp (GMH g m h) a b := hs.mono (fun k hk => hk.elim .inl (fun e => .inr (.inl e)))
theorem gmh_h {a b : World} (hs : Stp (fun k => k = h) a b) : Stp (GMH g m h) a b := hs.mono (fun k hk => .inr (.inr hk))
theorem Two.stepF (t : Two W w g m h N1 N2 s1 s2) (hF : FarP w' (GMH g m h) g m N3 s3) (hs : Stp (GM g m) w w') : Two W w' g m h N3 N2 s3 s2 :=
  ⟨hF, t.ref.other hs.kept (fun k hk => hk.elim .inl (fun e => .inr (.inl e))) (fun hk => hk.elim t.ng t.nm), t.bel.trans ((gmh_gm (h := h) hs).toBelow t.bel.size t.old), t.hg, t.hm, t.hh, t.ng, t.nm⟩
theorem Two.stepR (t : Two W w g m h N1 N2 s1 s2) (hR : RefP w' (GMH g m h) h N3 s3) (hs : Stp (fun k => k = h) w w') : Two W w' g m h N1 N3 s1 s3 :=
  ⟨t.far.other hs.kept (fun k hk => .inr (.inr hk)) (fun e => t.ng e.symm) (fun e => t.nm e.symm), hR, t.bel.trans ((gmh_h (g := g) (m := m) hs).toBelow t.bel.size t.old), t.hg, t.hm, t.hh, t.ng, t.nm⟩
theorem Two.below (t : Two W w g m h N1 N2 s1 s2) (hb : Below w.heap.size w w') : Two W w' g m h N1 N2 s1 s2 := t.stepF (t.far.below hb) (Stp.of_below hb _)
theorem Two.drawn (t : Two W w g m h N1 N2 s1 s2) (hd : Drawn0 w w') : Two W w' g m h N1 N2 s1 s2 := t.below hd.below
theorem Two.more (t : Two W w g m h N1 N2 s1 s2) {M1 M2 : Nat} (h1 : N1 ≤ M1) (h2 : N2 ≤ M2) : Two W w g m h M1 M2 s1 s2 := ⟨t.far.more h1, t.ref.more h2, t.bel, t.hg, t.hm, t.hh, t.ng, t.nm⟩
theorem Two.row (t : Two W w g m h N1 N2 s1 s2) {k : IntKind} {A : Option Addr} {xs : List Int} (hr : Kd.C (Kd.int k) W A xs.length xs) : Lives w (GMH g m h) (Kd.int k) A xs := Lives.came (Kd.heap_int k) hr t.bel t.old
theorem Two.rowF (t : Two W w g m h N1 N2 s1 s2) {k : IntKind} {A : Option Addr} {xs : List Int} (hr : Kd.C (Kd.int k) W A xs.length xs) : Lives w (GM g m) (Kd.int k) A xs := (t.row hr).less (fun k hk => hk.elim (fun e => .inl (.inl e)) (fun e => .inl (.inr (.inl e))))
theorem Two.rowR (t : Two W w g m h N1 N2 s1 s2) {k : IntKind} {A : Option Addr} {xs : List Int} (hr : Kd.C (Kd.int k) W A xs.length xs) : Lives w (fun k => k = h) (Kd.int k) A xs := (t.row hr).less (fun k hk => .inl (.inr (.inr hk)))
/-! ### the program's calls -/
theorem tf_put (t : Two W w g m h N1 N2 s1 s2) (s : ByteArray) (hs : s.size ≤ maxLen) (A : Option Addr) (c : Nat) (bs : List Int) (hlen : bs.length ≤ 1048576) (hbs : Bts bs) (hn : N1 ≤ 1000000) (hr : Kd.C (Kd.int .u8) W A bs.length bs) :
    Calls Try.prog 15 #[.pointer (some ⟨g, 0, none⟩), .string s, .slice A bs.length c] w fun e w' => e = .returned (.int .i64 (putF s1 s (strOfNums bs)).1) ∧ Two W w' g m h (N1 + 1) N2 (putF s1 s (strOfNums bs)).2 s2 ∧ Stp (GMH g m h) w w' :=
  (put_calls t.far s hs A c bs hlen hbs (by unfold maxLen; omega) (t.rowF hr)).mono fun e w' ⟨h1, h2, h3⟩ => ⟨h1, t.stepF h2 h3, gmh_gm h3⟩
theorem tf_drop (t : Two W w g m h N1 N2 s1 s2) (s : ByteArray) (hs : s.size ≤ maxLen) :
    Calls Try.prog 17 #[.pointer (some ⟨g, 0, none⟩), .string s] w fun e w' => e = .returned (.int .i64 (dropF s1 s).1) ∧ Two W w' g m h N1 N2 (dropF s1 s).2 s2 ∧ Stp (GMH g m h) w w' :=
  (drop_calls t.far s hs).mono fun e w' ⟨h1, h2, h3⟩ => ⟨h1, t.stepF h2 h3, gmh_gm h3⟩
theorem tf_get (t : Two W w g m h N1 N2 s1 s2) (s : ByteArray) (hs : s.size ≤ maxLen) (at_ n : Int) :
    Calls Try.prog 21 #[.pointer (some ⟨g, 0, none⟩), .string s, .int .i64 at_, .int .i64 n] w fun e w' => ∃ A c, e = .returned (.tuple #[.slice A (getF s1 s at_ n).1.length c, .int .i64 (getF s1 s at_ n).2.1]) ∧ Lives w' (GMH g m h) (Kd.int .u8) A (getF s1 s at_ n).1 ∧ Two W w' g m h N1 N2 (getF s1 s at_ n).2.2 s2 ∧ Stp (GMH g m h) w w' :=
  (get_calls t.far s hs at_ n).mono fun e w' ⟨A, c, h1, h2, h3, h4, h5⟩ => ⟨A, c, h1, h3, t.stepF h4 h5, gmh_gm h5⟩
theorem tf_list (t : Two W w g m h N1 N2 s1 s2) (hN : N1 ≤ 1000000) : Calls Try.prog 33 #[.pointer (some ⟨g, 0, none⟩)] w fun e w' => ∃ A c, e = .returned (.tuple #[.slice A (listF s1).1.length c, .int .i64 (listF s1).2.1]) ∧ (listF s1).1.length ≤ c ∧ Lives w' (GMH g m h) Kd.string A (listF s1).1 ∧ Two W w' g m h N1 N2 (listF s1).2.2 s2 ∧ Stp (GMH g m h) w w' :=
  (list_calls t.far hN).mono fun e w' ⟨A, c, h1, h2, h3, h4, h5⟩ => ⟨A, c, h1, h2, h3, t.stepF h4 h5, gmh_gm h5⟩
theorem tf_next (t : Two W w g m h N1 N2 s1 s2) (A : Option Addr) (c : Nat) (l : List Int) (hr : Kd.C (Kd.int .i64) W A l.length l) (hl : l.length ≤ 1048576) :
    Calls Try.prog 16 #[.pointer (some ⟨g, 0, none⟩), .slice A l.length c] w fun e w' => e = .returned (.tuple #[]) ∧ Two W w' g m h N1 N2 ⟨s1.l, l, s1.calls⟩ s2 ∧ Stp (GMH g m h) w w' :=
  (next_calls t.far A c l (t.row hr).now hl).mono fun e w' ⟨h1, h2, h3⟩ => ⟨h1, t.stepF h2 (gm_g h3), gmh_gm (gm_g h3)⟩
theorem tf_objects (t : Two W w g m h N1 N2 s1 s2) (hN : N1 ≤ 1000000) : Calls Try.prog 19 #[.pointer (some ⟨g, 0, none⟩)] w fun e w' => ∃ A c, e = .returned (.slice A s1.l.length c) ∧ s1.l.length ≤ c ∧ Lives w' (GMH g m h) k58 A (s1.l.map fileOf) ∧ Two W w' g m h N1 N2 s1 s2 := by
  refine (objects_calls t.far hN).mono fun e w' he => ?_
  obtain ⟨v, rfl, hv, hb⟩ := he
  obtain ⟨A, c, rfl, h1, h2⟩ := Lives.new hv t.far.bd
  rw [List.length_map] at h1 ⊢
  exact ⟨A, c, rfl, h1, h2, t.below hb⟩
theorem tf_left (t : Two W w g m h N1 N2 s1 s2) : Calls Try.prog 20 #[.pointer (some ⟨g, 0, none⟩)] w fun e w' => e = .returned (.int .i64 s1.nx.length) ∧ w = w' := (left_calls t.far).mono fun e w' ⟨h1, h2⟩ => ⟨h1, h2.symm⟩
theorem tf_calls (t : Two W w g m h N1 N2 s1 s2) : Calls Try.prog 30 #[.pointer (some ⟨g, 0, none⟩)] w fun e w' => e = .returned (.int .i64 s1.calls) ∧ w = w' := (callsOf_calls t.far).mono fun e w' ⟨h1, h2⟩ => ⟨h1, h2.symm⟩
/-- Copy: the old store is let go. -/
theorem tf_copy (t : Two W w g m h N1 N2 s1 s2) (hN : N1 ≤ 1000000) (hx : s1.nx.length ≤ 1048576) : Calls Try.prog 26 #[.pointer (some ⟨g, 0, none⟩)] w fun e w' => ∃ g' m', e = .returned (.pointer (some ⟨g', 0, none⟩)) ∧ Two W w' g' m' h N1 N2 s1 s2 := by
  refine (copy_calls t.far hN hx).mono fun e w' he => ?_
  obtain ⟨g', m', rfl, hg', hm', hF, hb⟩ := he
  have hlt := t.ref.lt
  have hs := t.bel.size
  have hsz := hb.size
  have hF' := hF (GMH g' m' h) (fun k hk => hk.elim .inl (fun e => e.elim (fun e => .inr (.inl e)) (fun e => .inr (.inr (by omega))))) (.inl rfl) (.inr (.inl rfl))
  refine ⟨g', m', rfl, hF', ?_, t.bel.trans (hb.mono hs), by omega, by omega, t.hh, by omega, by omega⟩
  refine t.ref.wide (Kept.of_below hb _) (hb.block h hlt) (fun k hk => ?_) hF'.bd (.inr (.inr rfl))
  rcases hk with e | e | e
  · exact .inr (by omega)
  · exact .inr (by omega)
  · exact .inl (.inr (.inr e))
/-! ### the document's calls -/
theorem tr_put (t : Two W w g m h N1 N2 s1 s2) (s : ByteArray) (hs : s.size ≤ maxLen) (A : Option Addr) (c : Nat) (bs : List Int) (hlen : bs.length ≤ 1048576) (hn : N2 ≤ 1000000) (hr : Kd.C (Kd.int .u8) W A bs.length bs) :
    Calls Try.prog 50 #[.pointer (some ⟨h, 0, none⟩), .string s, .slice A bs.length c] w fun e w' => e = .returned (.int .i64 (putF s2 s (strOfNums bs)).1) ∧ Two W w' g m h N1 (N2 + 1) s1 (putF s2 s (strOfNums bs)).2 ∧ Stp (GMH g m h) w w' :=
  (refPut_calls t.ref hn s hs A c bs hlen (t.rowR hr)).mono fun e w' ⟨h1, h2, h3⟩ => ⟨h1, t.stepR h2 h3, gmh_h h3⟩
theorem tr_drop (t : Two W w g m h N1 N2 s1 s2) (hn : N2 ≤ 1000000) (s : ByteArray) :
    Calls Try.prog 54 #[.pointer (some ⟨h, 0, none⟩), .string s] w fun e w' => e = .returned (.int .i64 (dropF s2 s).1) ∧ Two W w' g m h N1 N2 s1 (dropF s2 s).2 ∧ Stp (GMH g m h) w w' :=
  (refDrop_calls t.ref hn s).mono fun e w' ⟨h1, h2, h3⟩ => ⟨h1, t.stepR h2 h3, gmh_h h3⟩
theorem tr_get (t : Two W w g m h N1 N2 s1 s2) (s : ByteArray) (at_ n : Int) (hsz : ∀ p ∈ s2.l, p.2.size ≤ 1048576) :
    Calls Try.prog 51 #[.pointer (some ⟨h, 0, none⟩), .string s, .int .i64 at_, .int .i64 n] w fun e w' => ∃ A c, e = .returned (.tuple #[.slice A (getF s2 s at_ n).1.length c, .int .i64 (getF s2 s at_ n).2.1]) ∧ Lives w' (GMH g m h) (Kd.int .u8) A (getF s2 s at_ n).1 ∧ Two W w' g m h N1 N2 s1 (getF s2 s at_ n).2.2 ∧ Stp (GMH g m h) w w' :=
  (refGet_calls t.ref s at_ n hsz).mono fun e w' ⟨A, c, h1, h2, h3, h4, h5⟩ => ⟨A, c, h1, h3, t.stepR h4 h5, gmh_h h5⟩
theorem tr_list (t : Two W w g m h N1 N2 s1 s2) (hN : N2 ≤ 1000000) : Calls Try.prog 52 #[.pointer (some ⟨h, 0, none⟩)] w fun e w' => ∃ A c, e = .returned (.tuple #[.slice A (listF s2).1.length c, .int .i64 (listF s2).2.1]) ∧ (listF s2).1.length ≤ c ∧ Lives w' (GMH g m h) Kd.string A (listF s2).1 ∧ Two W w' g m h N1 N2 s1 (listF s2).2.2 ∧ Stp (GMH g m h) w w' :=
  (refList_calls t.ref hN).mono fun e w' ⟨A, c, h1, h2, h3, h4, h5⟩ => ⟨A, c, h1, h2, h3, t.stepR h4 h5, gmh_h h5⟩
theorem tr_next (t : Two W w g m h N1 N2 s1 s2) (A : Option Addr) (c : Nat) (l : List Int) (hr : Kd.C (Kd.int .i64) W A l.length l) (hl : l.length ≤ 1048576) :
    Calls Try.prog 49 #[.pointer (some ⟨h, 0, none⟩), .slice A l.length c] w fun e w' => e = .returned (.tuple #[]) ∧ Two W w' g m h N1 N2 s1 ⟨s2.l, l, s2.calls⟩ ∧ Stp (GMH g m h) w w' :=
  (refNext_calls t.ref A c l (t.row hr).now hl).mono fun e w' ⟨h1, h2, h3⟩ => ⟨h1, t.stepR h2 h3, gmh_h h3⟩
theorem tr_objects (t : Two W w g m h N1 N2 s1 s2) (hN : N2 ≤ 1000000) : Calls Try.prog 29 #[.pointer (some ⟨h, 0, none⟩)] w fun e w' => ∃ A c, e = .returned (.slice A s2.l.length c) ∧ s2.l.length ≤ c ∧ Lives w' (GMH g m h) k58 A (s2.l.map fileOf) ∧ Two W w' g m h N1 N2 s1 s2 ∧ Stp (GMH g m h) w w' := by
  refine (refObjects_calls t.ref hN).mono fun e w' he => ?_
  obtain ⟨v, rfl, hv, hb⟩ := he
  obtain ⟨A, c, rfl, h1, h2⟩ := Lives.new hv t.ref.bd
  rw [List.length_map] at h1 ⊢
  exact ⟨A, c, rfl, h1, h2, t.below hb, Stp.of_below hb _⟩
theorem tr_left (t : Two W w g m h N1 N2 s1 s2) : Calls Try.prog 32 #[.pointer (some ⟨h, 0, none⟩)] w fun e w' => e = .returned (.int .i64 s2.nx.length) ∧ w = w' := (refLeft_calls t.ref).mono fun e w' ⟨h1, h2⟩ => ⟨h1, h2.symm⟩
theorem tr_calls (t : Two W w g m h N1 N2 s1 s2) : Calls Try.prog 31 #[.pointer (some ⟨h, 0, none⟩)] w fun e w' => e = .returned (.int .i64 s2.calls) ∧ w = w' := (refCalls_calls t.ref).mono fun e w' ⟨h1, h2⟩ => ⟨h1, h2.symm⟩
/-! ### the lists compared -/
theorem t_texts {S : Nat → Prop} {A1 A2 : Option Addr} {c1 c2 : Nat} {l : List ByteArray} (h1 : Lives w S Kd.string A1 l) (h2 : Lives w S Kd.string A2 l) (k1 : l.length ≤ c1) (k2 : l.length ≤ c2) : Calls Try.prog 53 #[.slice A1 l.length c1, .slice A2 l.length c2] w fun e w' => e = .returned (.bool true) ∧ Drawn0 w w' := by
  obtain ⟨k, hk⟩ := texts_same l h1.now.2.1
  exact (iceboxref1_Texts.calls k A1 c1 l A2 c2 l true w h1.now k1 h2.now k2 hk).mono fun e w' h => by
    obtain ⟨a, b⟩ := h
    exact ⟨a, b⟩
theorem t_files {S : Nat → Prop} {A1 A2 : Option Addr} {c1 c2 : Nat} {l : Obs} (h1 : Lives w S k58 A1 (l.map fileOf)) (h2 : Lives w S k58 A2 (l.map fileOf)) (k1 : l.length ≤ c1) (k2 : l.length ≤ c2) : Calls Try.prog 28 #[.slice A1 l.length c1, .slice A2 l.length c2] w fun e w' => e = .returned (.bool true) ∧ Drawn0 w w' := by
  obtain ⟨k, hk⟩ := files_same (l.map fileOf) h1.now.2.1
  have := iceboxref4_SameFiles.calls k A1 c1 (l.map fileOf) A2 c2 (l.map fileOf) true w h1.now (by rw [List.length_map]; exact k1) h2.now (by rw [List.length_map]; exact k2) hk
  rw [List.length_map] at this
  exact this
end
end Go.Proofs.Ytbedfilammjlpaa.P
