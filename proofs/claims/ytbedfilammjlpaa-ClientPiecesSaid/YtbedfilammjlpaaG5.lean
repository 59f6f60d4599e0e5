/- called: a call is counted, its outcome is taken, and by it the closure is called or not. -/
import Derived.Test.YtbedfilammjlpaaG4
import Derived.Test.YtbedfilammjlpaaHscope
import Derived.BigRegion
namespace Go.Proofs.Ytbedfilammjlpaa.P
open Go.RowKit Go.Proofs.YtbedfilammjlpaaW.PrintWords Go.Proofs.YtbedfilammjlpaaW.PrintMore Go.Maps Go.WideMaps
set_option linter.unusedVariables false
/-- Function K is one that is entered. -/
def Enters (K : Nat) (args : Array Value) : Prop := ∀ w, Sem.run Try.prog (callFunc K args) w = .ok (.enter K args) w
theorem enters38 (caps : Array Value) : Enters 38 caps := fun w => by go_simp
theorem enters42 (caps : Array Value) : Enters 42 caps := fun w => by go_simp
theorem enters44 (caps : Array Value) : Enters 44 caps := fun w => by go_simp
theorem enters55 (caps : Array Value) : Enters 55 caps := fun w => by go_simp
section
variable {w : World} {S : Nat → Prop} {g m N : Nat} {st : FS}
set_option maxRecDepth 100000 in
theorem called_none (h : FarP w S g m N st) (hnx : st.nx = []) (K : Nat) (caps : Array Value) (hK : Enters K caps) (Q : Int → World → Prop)
    (hdo : ∀ W, FarP W S g m N st.took → Stp (fun k => k = g) w W → Calls Try.prog K caps W fun e w' => ∃ code, e = .returned (.int .i64 code) ∧ Q code w') :
    Calls Try.prog 37 #[.pointer (some ⟨g, 0, none⟩), .func (.func K) #[] caps] w fun e w' => ∃ code, e = .returned (.int .i64 code) ∧ Q code w' := by
  have HS := Aside0.mk h
  obtain ⟨l, nx, calls⟩ := st
  cases hnx
  have HD := Aside0.mk hdo
  clear hdo
  unfold Enters at hK
  obtain ⟨A0, c0, hb, _, _⟩ := h.cell
  have c2 : w.cell? ⟨g, 2, none⟩ = some (.int .i64 calls) := blk_cell hb 2
  have c1 : w.cell? ⟨g, 1, none⟩ = some (.slice A0 0 c0) := blk_cell hb 1
  have f2 := blk_frozen hb 2
  clear h
  go_enter Try.func37, Try.ntmps37
  go_wp2
  repeat ((first | (with_reducible refine scope_body ?_) | go_step3); try (go_wp2_with fail))
  refine (HD.out _ ?_ ?_).mono ?_
  · exact (HS.out.count _).1
  · exact (HS.out.count _).2
  rintro _ w1 ⟨code, rfl, hQ⟩
  go_wp2_with fail
  repeat ((first | (with_reducible refine scope_body ?_) | go_step3); try (go_wp2_with fail))
  go_ret
  exact ⟨_, rfl, hQ⟩
/-- The first outcome, and the others cut off. -/
theorem outs_cut (h : FarP w S g m N st) {o : Int} {rest : List Int} (hnx : st.nx = o :: rest) : ∃ ad A' c0 c', w.cell? ⟨g, 1, none⟩ = some (.slice (some ad) (rest.length + 1) c0) ∧ w.cell? ad = some (.int .i64 o) ∧ rest.length + 1 ≤ 9223372036854775807 ∧
    (∀ W : World, (Instr.slice 29 (.slice (some ad) (rest.length + 1) c0) (some (.int .i64 1)) none none).run Try.prog W = .ok (.slice A' rest.length c') W) ∧ rest.length ≤ c' ∧ Lives w S (Kd.int .i64) A' rest := by
  obtain ⟨l, nx, calls⟩ := st
  subst hnx
  obtain ⟨A, c, hb, hc, hl⟩ := h.cell
  have hmx : rest.length + 1 ≤ 9223372036854775807 := hl.now.2.1
  have hc' : rest.length + 1 ≤ c := hc
  obtain ⟨ad, rfl, hcell⟩ := Kd.at_int hl.now 0 (by omega) (by simp)
  have e0 : ad.add (0 : Int).toNat = ad := by unfold Addr.add; simp
  rw [e0] at hcell
  obtain ⟨i0, hi, _, hz1, _⟩ := info_parts info3
  obtain ⟨A', hcut, hA⟩ := print_cut (P := Try.prog) 29 3 .i64 Try.underlying29 hi hz1 (some ad) (rest.length + 1) c 1 (by omega)
  refine ⟨ad, A', c, c - 1, blk_cell hb 1, hcell, hmx, fun W => hcut W, by omega, fun W' hk => ?_⟩
  exact Kd.C_of_reads (h1 := fun _ => rfl) (d := (0 : Int)) (hA W' .i64 (o :: rest) hc' (Kd.reads_of_C (d := (0 : Int)) (hl W' hk)))
theorem far_shape (h : FarP w S g m N st) : w.cell? ⟨g, 2, none⟩ = some (.int .i64 st.calls) ∧ w.frozen? ⟨g, 2, none⟩ = false ∧ w.frozen? ⟨g, 1, none⟩ = false := by
  obtain ⟨A0, c0, hb, _, _⟩ := h.cell
  exact ⟨blk_cell hb 2, blk_frozen hb 2, blk_frozen hb 1⟩
theorem took_of {o : Int} {rest : List Int} (hnx : st.nx = o :: rest) : st.took = ⟨st.l, rest, wrap64 (st.calls + 1)⟩ := by unfold FS.took; rw [hnx]; rfl
/-- The world in which the closure is called. -/
theorem taken {W : World} {o : Int} {rest : List Int} (hnx : st.nx = o :: rest) (hc : FarP W S g m N ⟨st.l, st.nx, wrap64 (st.calls + 1)⟩ ∧ Stp (fun k => k = g) w W) {A' : Option Addr} {c' : Nat} (hl : Lives W S (Kd.int .i64) A' rest) (hrc : rest.length ≤ c') :
    FarP ((W.setCell ⟨g, 1, none⟩ (.slice A' rest.length c')).drew) S g m N st.took ∧ Stp (fun k => k = g) w ((W.setCell ⟨g, 1, none⟩ (.slice A' rest.length c')).drew) := by
  obtain ⟨h1, h2⟩ := hc.1.outs hl hrc
  rw [took_of hnx]
  exact ⟨h1.same rfl, (hc.2.trans h2).drew⟩
set_option maxRecDepth 100000 in
theorem called_fails (h : FarP w S g m N st) {rest : List Int} (hnx : st.nx = 1 :: rest) (K : Nat) (caps : Array Value) :
    Calls Try.prog 37 #[.pointer (some ⟨g, 0, none⟩), .func (.func K) #[] caps] w fun e w' => e = .returned (.int .i64 8) ∧ FarP w' S g m N st.took ∧ Stp (fun k => k = g) w w' := by
  obtain ⟨c2, f2, _⟩ := far_shape h
  have hc := h.count (wrap64 (st.calls + 1))
  obtain ⟨ad, A', c0, c', c1, ca, hrl, hcut, hrc, hlr⟩ := outs_cut hc.1 (o := 1) (rest := rest) hnx
  obtain ⟨_, _, f1⟩ := far_shape hc.1
  have c10 : w.cell? ⟨g, 1, none⟩ = some (.slice (some ad) (rest.length + 1) c0) := by
    rw [← c1]; exact (World.cell?_setCell_other _ _ _ _ (by simp)).symm
  have HC := Aside0.mk hc
  have HL := Aside0.mk hlr
  have HN := Aside0.mk hnx
  clear h hc hlr hnx
  go_enter Try.func37, Try.ntmps37
  go_wp2
  repeat ((first | (with_reducible refine scope_body ?_) | go_step3); try (go_wp2_with fail))
  clear c2 f2 c10
  generalize w.setCell ⟨g, 2, none⟩ (.int .i64 (wrap64 (st.calls + 1))) = W at *
  go_region
  go_wp2_with fail
  repeat ((first | (with_reducible refine scope_body ?_) | go_step3); try (go_wp2_with fail))
  go_ret
  exact ⟨rfl, taken HN.out HC.out HL.out hrc⟩
set_option maxRecDepth 100000 in
theorem called_lies (h : FarP w S g m N st) {rest : List Int} (hnx : st.nx = 2 :: rest) (K : Nat) (caps : Array Value) (hK : Enters K caps) (Q : Int → World → Prop)
    (hdo : ∀ W, FarP W S g m N st.took → Stp (fun k => k = g) w W → Calls Try.prog K caps W fun e w' => ∃ code, e = .returned (.int .i64 code) ∧ Q code w') :
    Calls Try.prog 37 #[.pointer (some ⟨g, 0, none⟩), .func (.func K) #[] caps] w fun e w' => e = .returned (.int .i64 8) ∧ ∃ code, Q code w' := by
  obtain ⟨c2, f2, _⟩ := far_shape h
  have hc := h.count (wrap64 (st.calls + 1))
  obtain ⟨ad, A', c0, c', c1, ca, hrl, hcut, hrc, hlr⟩ := outs_cut hc.1 (o := 2) (rest := rest) hnx
  obtain ⟨_, _, f1⟩ := far_shape hc.1
  have c10 : w.cell? ⟨g, 1, none⟩ = some (.slice (some ad) (rest.length + 1) c0) := by
    rw [← c1]; exact (World.cell?_setCell_other _ _ _ _ (by simp)).symm
  have HC := Aside0.mk hc
  have HL := Aside0.mk hlr
  have HN := Aside0.mk hnx
  have HD := Aside0.mk hdo
  unfold Enters at hK
  clear h hc hlr hnx hdo
  go_enter Try.func37, Try.ntmps37
  go_wp2
  repeat ((first | (with_reducible refine scope_body ?_) | go_step3); try (go_wp2_with fail))
  clear c2 f2 c10
  generalize w.setCell ⟨g, 2, none⟩ (.int .i64 (wrap64 (st.calls + 1))) = W at *
  go_region
  go_wp2_with fail
  repeat ((first | (with_reducible refine scope_body ?_) | go_step3); try (go_wp2_with fail))
  refine (HD.out _ (taken HN.out HC.out HL.out hrc).1 (taken HN.out HC.out HL.out hrc).2).mono ?_
  rintro _ w1 ⟨code, rfl, hQ⟩
  have HQ := Aside0.mk hQ
  clear hQ
  go_wp2_with fail
  repeat ((first | (with_reducible refine scope_body ?_) | go_step3); try (go_wp2_with fail))
  go_ret
  exact ⟨rfl, _, HQ.out⟩
set_option maxRecDepth 100000 in
theorem called_fine (h : FarP w S g m N st) {o : Int} {rest : List Int} (hnx : st.nx = o :: rest) (ho1 : o ≠ 1) (ho2 : o ≠ 2) (K : Nat) (caps : Array Value) (hK : Enters K caps) (Q : Int → World → Prop)
    (hdo : ∀ W, FarP W S g m N st.took → Stp (fun k => k = g) w W → Calls Try.prog K caps W fun e w' => ∃ code, e = .returned (.int .i64 code) ∧ Q code w') :
    Calls Try.prog 37 #[.pointer (some ⟨g, 0, none⟩), .func (.func K) #[] caps] w fun e w' => ∃ code, e = .returned (.int .i64 code) ∧ Q code w' := by
  obtain ⟨c2, f2, _⟩ := far_shape h
  have hc := h.count (wrap64 (st.calls + 1))
  obtain ⟨ad, A', c0, c', c1, ca, hrl, hcut, hrc, hlr⟩ := outs_cut hc.1 (o := o) (rest := rest) hnx
  obtain ⟨_, _, f1⟩ := far_shape hc.1
  have c10 : w.cell? ⟨g, 1, none⟩ = some (.slice (some ad) (rest.length + 1) c0) := by
    rw [← c1]; exact (World.cell?_setCell_other _ _ _ _ (by simp)).symm
  have b1 : (o == 1) = false := by simpa using ho1
  have b2 : (o == 2) = false := by simpa using ho2
  have HC := Aside0.mk hc
  have HL := Aside0.mk hlr
  have HN := Aside0.mk hnx
  have HD := Aside0.mk hdo
  unfold Enters at hK
  clear h hc hlr hnx hdo ho1 ho2
  go_enter Try.func37, Try.ntmps37
  go_wp2
  repeat ((first | (with_reducible refine scope_body ?_) | go_step3); try (go_wp2_with fail))
  clear c2 f2 c10
  generalize w.setCell ⟨g, 2, none⟩ (.int .i64 (wrap64 (st.calls + 1))) = W at *
  go_region
  go_wp2_with fail
  repeat ((first | (with_reducible refine scope_body ?_) | go_step3); try (go_wp2_with fail))
  refine (HD.out _ (taken HN.out HC.out HL.out hrc).1 (taken HN.out HC.out HL.out hrc).2).mono ?_
  rintro _ w1 ⟨code, rfl, hQ⟩
  have HQ := Aside0.mk hQ
  clear hQ
  go_wp2_with fail
  repeat ((first | (with_reducible refine scope_body ?_) | go_step3); try (go_wp2_with fail))
  go_ret
  exact ⟨_, rfl, HQ.out⟩
/-- called: whatever the outcome. -/
theorem called_calls (h : FarP w S g m N st) (K : Nat) (caps : Array Value) (hK : Enters K caps) (Q : Int → World → Prop)
    (hdo : ∀ W, FarP W S g m N st.took → Stp (fun k => k = g) w W → Calls Try.prog K caps W fun e w' => ∃ code, e = .returned (.int .i64 code) ∧ Q code w') :
    Calls Try.prog 37 #[.pointer (some ⟨g, 0, none⟩), .func (.func K) #[] caps] w fun e w' =>
      (st.out = 1 ∧ e = .returned (.int .i64 8) ∧ FarP w' S g m N st.took ∧ Stp (fun k => k = g) w w') ∨ (st.out ≠ 1 ∧ ∃ code, e = .returned (.int .i64 (toldF st.out code)) ∧ Q code w') := by
  cases hnx : st.nx with
  | nil =>
    have ho : st.out = 0 := by unfold FS.out; rw [hnx]; rfl
    refine (called_none h hnx K caps hK Q hdo).mono fun e w' he => ?_
    obtain ⟨code, rfl, hQ⟩ := he
    exact .inr ⟨by rw [ho]; decide, code, by rw [ho]; rfl, hQ⟩
  | cons o rest =>
    have ho : st.out = o := by unfold FS.out; rw [hnx]; rfl
    rw [ho]
    by_cases h1 : o = 1
    · subst h1
      exact (called_fails h hnx K caps).mono fun e w' he => .inl ⟨rfl, he⟩
    · by_cases h2 : o = 2
      · subst h2
        refine (called_lies h hnx K caps hK Q hdo).mono fun e w' he => ?_
        obtain ⟨rfl, code, hQ⟩ := he
        exact .inr ⟨by decide, code, rfl, hQ⟩
      · refine (called_fine h hnx h1 h2 K caps hK Q hdo).mono fun e w' he => ?_
        obtain ⟨code, rfl, hQ⟩ := he
        exact .inr ⟨h1, code, by unfold toldF; rw [if_neg h1, if_neg h2], hQ⟩
end
end Go.Proofs.Ytbedfilammjlpaa.P
