/- Put, Drop, Get of a far store: what each tells and leaves. -/
import Derived.Test.YtbedfilammjlpaaG5
namespace Go.Proofs.Ytbedfilammjlpaa.P
open Go.RowKit Go.Proofs.YtbedfilammjlpaaW.PrintWords Go.Proofs.YtbedfilammjlpaaW.PrintMore Go.Maps Go.WideMaps
set_option linter.unusedVariables false
/-- The blocks that a store's calls write. -/
def GM (g m : Nat) : Nat → Prop := fun k => k = g ∨ k = m
section
variable {w : World} {S : Nat → Prop} {g m N : Nat} {st : FS}
theorem toldF_one {out : Int} (h : out = 1) (e : Int) : toldF out e = 8 := by unfold toldF; rw [if_pos h]
/-- The world with the variables boxed, and behind the count. -/
theorem boxed {w3 W : World} (hb : Below w.heap.size w w3) (ht : Stp (fun k => k = g) w3 W) (hg : g < w.heap.size) {p : Nat} {v : Value} (hp : w.heap.size ≤ p) (hc : w3.cell? ⟨p, 0, none⟩ = some v) : W.cell? ⟨p, 0, none⟩ = some v :=
  ht.cell hc (fun e => by have e' : p = g := e; omega)
theorem putF_one {s d : ByteArray} (h : st.out = 1) : putF st s d = (8, st.took) := by unfold putF; rw [if_pos h, toldF_one h]
theorem putF_else {s d : ByteArray} (h : st.out ≠ 1) : putF st s d = (toldF st.out (putE st.l s), if putE st.l s = 0 then st.took.put s d else st.took) := by unfold putF; rw [if_neg h]
theorem dropF_one {s : ByteArray} (h : st.out = 1) : dropF st s = (8, st.took) := by unfold dropF; rw [if_pos h, toldF_one h]
theorem dropF_else {s : ByteArray} (h : st.out ≠ 1) : dropF st s = (toldF st.out (dropE st.l s), if dropE st.l s = 0 then st.took.del s else st.took) := by unfold dropF; rw [if_neg h]
theorem gm_g {w1 w2 : World} (h : Stp (fun k => k = g) w1 w2) : Stp (GM g m) w1 w2 := h.mono (fun _ e => .inl e)
theorem gm_m {w1 w2 : World} (h : Stp (fun k => k = m) w1 w2) : Stp (GM g m) w1 w2 := h.mono (fun _ e => .inr e)
set_option maxRecDepth 100000 in
theorem put_calls (h : FarP w S g m N st) (s : ByteArray) (hs : s.size ≤ maxLen) (A : Option Addr) (c : Nat) (bs : List Int) (hlen : bs.length ≤ 1048576) (hbs : Bts bs) (hn : N < maxLen) (hr : Lives w (GM g m) (Kd.int .u8) A bs) :
    Calls Try.prog 15 #[.pointer (some ⟨g, 0, none⟩), .string s, .slice A bs.length c] w fun e w' => e = .returned (.int .i64 (putF st s (strOfNums bs)).1) ∧ FarP w' S g m (N + 1) (putF st s (strOfNums bs)).2 ∧ Stp (GM g m) w w' := by
  have HS := Aside0.mk h
  have HR := Aside0.mk hr
  have hg := h.lt.1
  clear h hr
  have he := enters38
  go_enter Try.func15, Try.ntmps15
  go_wp2_with fail
  have hb : Below w.heap.size w (((w.alloc (.cells #[.pointer (some ⟨g, 0, none⟩)] 24)).alloc (.cells #[.string s] 9)).alloc (.cells #[.slice A bs.length c] 22)) := (((Below.refl _ w).alloc (Nat.le_refl _) _).alloc (by simp) _).alloc (by simp; omega) _
  refine (called_calls (HS.out.below hb) 38 _ (he _) (fun code w' => code = putE st.l s ∧ FarP w' S g m (N + 1) (if putE st.l s = 0 then st.took.put s (strOfNums bs) else st.took) ∧ Stp (GM g m) w w') ?_).mono ?_
  · intro W hW ht
    have ht' : Stp (GM g m) w W := (Stp.of_below hb _).trans (gm_g ht)
    refine (put1_calls hW _ _ _ s hs A c bs hlen hbs hn (boxed hb ht hg (Nat.le_refl _) (by go_simp)) (boxed hb ht hg (by omega) (by go_simp)) (boxed hb ht hg (by omega) (by go_simp)) (hr := (HR.out.step ht'.kept).now)).mono ?_
    rintro e w' ⟨rfl, h1, h2⟩
    exact ⟨_, rfl, rfl, h1, ht'.trans (gm_m h2)⟩
  · rintro e w' (⟨h1, rfl, h2, h3⟩ | ⟨h1, code, rfl, rfl, h2, h3⟩)
    · have HF := Aside0.mk h2
      have HT := Aside0.mk h3
      clear h2 h3
      go_wp2_with fail
      go_ret
      rw [putF_one h1]
      exact ⟨rfl, HF.out.more (Nat.le_succ _), (Stp.of_below hb _).trans (gm_g HT.out)⟩
    · have HF := Aside0.mk h2
      have HT := Aside0.mk h3
      clear h2 h3
      go_wp2_with fail
      go_ret
      rw [putF_else h1]
      exact ⟨rfl, HF.out, HT.out⟩
set_option maxRecDepth 100000 in
theorem drop_calls (h : FarP w S g m N st) (s : ByteArray) (hs : s.size ≤ maxLen) :
    Calls Try.prog 17 #[.pointer (some ⟨g, 0, none⟩), .string s] w fun e w' => e = .returned (.int .i64 (dropF st s).1) ∧ FarP w' S g m N (dropF st s).2 ∧ Stp (GM g m) w w' := by
  have HS := Aside0.mk h
  have hg := h.lt.1
  clear h
  have he := enters42
  go_enter Try.func17, Try.ntmps17
  go_wp2_with fail
  have hb : Below w.heap.size w ((w.alloc (.cells #[.pointer (some ⟨g, 0, none⟩)] 24)).alloc (.cells #[.string s] 9)) := ((Below.refl _ w).alloc (Nat.le_refl _) _).alloc (by simp) _
  refine (called_calls (HS.out.below hb) 42 _ (he _) (fun code w' => code = dropE st.l s ∧ FarP w' S g m N (if dropE st.l s = 0 then st.took.del s else st.took) ∧ Stp (GM g m) w w') ?_).mono ?_
  · intro W hW ht
    have ht' : Stp (GM g m) w W := (Stp.of_below hb _).trans (gm_g ht)
    refine (drop1_calls hW _ _ s hs (boxed hb ht hg (Nat.le_refl _) (by go_simp)) (boxed hb ht hg (by omega) (by go_simp))).mono ?_
    rintro e w' ⟨rfl, h1, h2⟩
    exact ⟨_, rfl, rfl, h1, ht'.trans (gm_m h2)⟩
  · rintro e w' (⟨h1, rfl, h2, h3⟩ | ⟨h1, code, rfl, rfl, h2, h3⟩)
    · have HF := Aside0.mk h2
      have HT := Aside0.mk h3
      clear h2 h3
      go_wp2_with fail
      go_ret
      rw [dropF_one h1]
      exact ⟨rfl, HF.out, (Stp.of_below hb _).trans (gm_g HT.out)⟩
    · have HF := Aside0.mk h2
      have HT := Aside0.mk h3
      clear h2 h3
      go_wp2_with fail
      go_ret
      rw [dropF_else h1]
      exact ⟨rfl, HF.out, HT.out⟩
end
end Go.Proofs.Ytbedfilammjlpaa.P
