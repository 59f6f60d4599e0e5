/- Get of a far store: what it tells and leaves. -/
import Derived.Test.YtbedfilammjlpaaG6
namespace Go.Proofs.Ytbedfilammjlpaa.P
open Go.RowKit Go.Proofs.YtbedfilammjlpaaW.PrintWords Go.Proofs.YtbedfilammjlpaaW.PrintMore Go.Maps Go.WideMaps
set_option linter.unusedVariables false
section
variable {w : World} {S : Nat → Prop} {g m N : Nat} {st : FS}
theorem getF_tells {s : ByteArray} {at_ n : Int} (h : toldF st.out (getE st.l s at_ n) = 0) : getF st s at_ n = (cutF (bytesOf ((findO st.l s).getD ByteArray.empty)) at_ n, 0, st.took) := by unfold getF; rw [h, if_pos rfl]
theorem getF_not {s : ByteArray} {at_ n : Int} (h : toldF st.out (getE st.l s at_ n) ≠ 0) : getF st s at_ n = ([], toldF st.out (getE st.l s at_ n), st.took) := by unfold getF; rw [if_neg h]
theorem told_zero {out e : Int} (h : toldF out e = 0) : e = 0 := by
  unfold toldF at h
  split at h
  · cases h
  · split at h
    · cases h
    · exact h
set_option maxRecDepth 100000 in
theorem get_calls (h : FarP w S g m N st) (s : ByteArray) (hs : s.size ≤ maxLen) (at_ n : Int) :
    Calls Try.prog 21 #[.pointer (some ⟨g, 0, none⟩), .string s, .int .i64 at_, .int .i64 n] w fun e w' => ∃ A c, e = .returned (.tuple #[.slice A (getF st s at_ n).1.length c, .int .i64 (getF st s at_ n).2.1]) ∧ (getF st s at_ n).1.length ≤ c ∧ Lives w' S (Kd.int .u8) A (getF st s at_ n).1 ∧ FarP w' S g m N (getF st s at_ n).2.2 ∧ Stp (GM g m) w w' := by
  have HS := Aside0.mk h
  have hg := h.lt.1
  have hsg := h.sg
  have hsm := h.sm
  have hbd := h.bd
  clear h
  have he := enters44
  go_enter Try.func21, Try.ntmps21
  go_wp2_with fail
  generalize hw5 : ((((w.alloc (.cells #[.pointer (some ⟨g, 0, none⟩)] 24)).alloc (.cells #[.string s] 9)).alloc (.cells #[.int .i64 at_] 3)).alloc (.cells #[.int .i64 n] 3)).alloc (.cells #[.slice none 0 0] 22) = w5
  have hb : Below w.heap.size w w5 := by
    rw [← hw5]
    exact (((((Below.refl _ w).alloc (Nat.le_refl _) _).alloc (by simp) _).alloc (by simp; omega) _).alloc (by simp; omega) _).alloc (by simp; omega) _
  have hsz : w5.heap.size = w.heap.size + 5 := by rw [← hw5]; simp
  have cf : w5.cell? ⟨w.heap.size, 0, none⟩ = some (.pointer (some ⟨g, 0, none⟩)) := by subst hw5; go_simp
  have cs : w5.cell? ⟨w.heap.size + 1, 0, none⟩ = some (.string s) := by subst hw5; go_simp
  have ca : w5.cell? ⟨w.heap.size + 1 + 1, 0, none⟩ = some (.int .i64 at_) := by subst hw5; go_simp
  have cn : w5.cell? ⟨w.heap.size + 1 + 1 + 1, 0, none⟩ = some (.int .i64 n) := by subst hw5; go_simp
  have co : w5.cell? ⟨w.heap.size + 1 + 1 + 1 + 1, 0, none⟩ = some (.slice none 0 0) := by subst hw5; go_simp
  have fo : w5.frozen? ⟨w.heap.size + 1 + 1 + 1 + 1, 0, none⟩ = false := by subst hw5; go_simp
  clear hw5
  have hF : FarP w5 (fun k => S k ∨ k = w.heap.size + 1 + 1 + 1 + 1) g m N st := HS.out.wide (Stp.of_below hb _) (fun k hk => hk.elim .inl (fun e => .inr (by omega))) (fun k hk => hk.elim (fun h => by have := hbd k h; omega) (fun e => by omega)) (fun k hk => .inl hk)
  have end1 : ∀ {w' : World}, FarP w' (fun k => S k ∨ k = w.heap.size + 1 + 1 + 1 + 1) g m N st.took → FarP w' S g m N st.took := fun h => h.narrow (fun k hk => .inl hk) hsg hsm
  refine (called_calls hF 44 _ (he _) (fun code w' => code = getE st.l s at_ n ∧ (code = 0 → Got w' (fun k => S k ∨ k = w.heap.size + 1 + 1 + 1 + 1) (w.heap.size + 1 + 1 + 1 + 1) (cutF (bytesOf ((findO st.l s).getD ByteArray.empty)) at_ n)) ∧ FarP w' (fun k => S k ∨ k = w.heap.size + 1 + 1 + 1 + 1) g m N st.took ∧ Stp (GM g m) w w') ?_).mono ?_
  · intro W hW ht
    have ht' : Stp (GM g m) w W := (Stp.of_below hb _).trans (gm_g ht)
    have hne : ∀ {p : Nat}, w.heap.size ≤ p → p ≠ g := fun h e => by omega
    refine (get1_calls hW _ _ _ _ _ s hs at_ n (.slice none 0 0) (.inr rfl) (hne (by omega)) (boxed hb ht hg (Nat.le_refl _) cf) (boxed hb ht hg (by omega) cs) (boxed hb ht hg (by omega) ca) (boxed hb ht hg (by omega) cn) (boxed hb ht hg (by omega) co) ?_).mono ?_
    · have hlt : w.heap.size + 1 + 1 + 1 + 1 < w5.heap.size := by omega
      have := ht.kept.2 _ hlt (hne (p := w.heap.size + 1 + 1 + 1 + 1) (by omega))
      rw [World.frozen?_of_block (w := w5) this]
      exact fo
    · rintro e w' ⟨rfl, h1, h2, h3⟩
      exact ⟨_, rfl, rfl, h1, h2, ht'.then_ h3 (fun k e => .inr (by omega))⟩
  · rintro e w' (⟨h1, rfl, h2, h3⟩ | ⟨h1, code, rfl, rfl, hG, h2, h3⟩)
    · have HF := Aside0.mk (end1 h2)
      have HT := Aside0.mk h3
      have HO := Aside0.mk h1
      clear h2 h3 h1 hF end1
      go_wp2_with fail
      go_ret2
      have hz : toldF st.out (getE st.l s at_ n) ≠ 0 := by rw [toldF_one HO.out]; decide
      rw [getF_not hz, toldF_one HO.out]
      exact ⟨none, 0, rfl, Nat.le_refl _, Lives.nil _ _ _, HF.out, (Stp.of_below hb _).trans (gm_g HT.out)⟩
    · have HF := Aside0.mk (end1 h2)
      have HT := Aside0.mk h3
      by_cases hz : toldF st.out (getE st.l s at_ n) = 0
      · obtain ⟨A2, c2, h4, h5, h6⟩ := (hG (told_zero hz)).out
        have HL := Aside0.mk (h6.less (S2 := S) (fun k hk => .inl (.inl hk)))
        have HZ := Aside0.mk hz
        rw [hz]
        clear h2 h3 h1 hF end1 hG h6 hz
        go_wp2_with fail
        go_ret2
        rw [getF_tells HZ.out]
        exact ⟨A2, c2, rfl, h5, HL.out, HF.out, HT.out⟩
      · have HN := Aside0.mk (getF_not hz)
        generalize toldF st.out (getE st.l s at_ n) = z at hz HN ⊢
        have hz' : (z == 0) = false := by simpa using hz
        have hz2 : (z != 0) = true := by simpa using hz
        clear h2 h3 h1 hF end1 hG hz
        go_wp2_with fail
        go_ret2
        rw [HN.out]
        exact ⟨none, 0, rfl, Nat.le_refl _, Lives.nil _ _ _, HF.out, HT.out⟩
end
end Go.Proofs.Ytbedfilammjlpaa.P
