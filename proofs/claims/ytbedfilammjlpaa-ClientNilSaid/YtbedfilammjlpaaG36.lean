/- The client without a store. -/
import Derived.Test.YtbedfilammjlpaaG35
namespace Go.Proofs.Ytbedfilammjlpaa.P
open Go.RowKit Go.Proofs.YtbedfilammjlpaaW.PrintWords Go.Proofs.YtbedfilammjlpaaW.PrintMore Go.Maps Go.WideMaps
set_option linter.unusedVariables false
/-- A call that tells 2 is made once. -/
theorem tried_two (K : Nat) (caps : Array Value) (hK : Enters K caps) (w : World) (Q : World → Prop) (hdo : Calls Try.prog K caps w fun e w' => e = .returned (.int .i64 2) ∧ Q w') :
    Calls Try.prog 45 #[.func (.func K) #[] caps] w fun e w' => e = .returned (.int .i64 2) ∧ Q w' := by
  refine (tried_calls K caps hK (fun i W => i = 0 ∧ W = w) (fun code w' => code = 2 ∧ Q w') ?_ w ⟨rfl, rfl⟩).mono ?_
  · rintro i W hi ⟨rfl, rfl⟩
    refine hdo.mono ?_
    rintro _ w' ⟨rfl, h⟩
    exact ⟨2, rfl, fun _ => ⟨rfl, h⟩, fun e => absurd e (by decide)⟩
  · rintro _ w' ⟨code, rfl, h1, h2⟩
    by_cases h8 : code = 8
    · obtain ⟨h3, _⟩ := h2 h8
      exact absurd h3 (by decide)
    · obtain ⟨rfl, h3⟩ := h1 h8
      exact ⟨rfl, h3⟩
section
variable (w : World) (s : ByteArray)
set_option maxRecDepth 100000 in
theorem cPieceNil_calls (at_ n : Int) : Calls Try.prog 25 #[.pointer none, .string s, .int .i64 at_, .int .i64 n] w fun e w' => e = .returned (.tuple #[.slice none 0 0, .int .i64 2]) ∧ Below w.heap.size w w' := by
  go_enter Try.func25, Try.ntmps25
  go_wp2_with fail
  generalize hw5 : ((((w.alloc (.cells #[.pointer none] 24)).alloc (.cells #[.string s] 9)).alloc (.cells #[.int .i64 at_] 3)).alloc (.cells #[.int .i64 n] 3)).alloc (.cells #[.slice none 0 0] 22) = w5
  have hb : Below w.heap.size w w5 := by
    rw [← hw5]
    exact (((((Below.refl _ w).alloc (Nat.le_refl _) _).alloc (by simp) _).alloc (by simp; omega) _).alloc (by simp; omega) _).alloc (by simp; omega) _
  have hsz : w5.heap.size = w.heap.size + 5 := by rw [← hw5]; simp
  have cf : w5.cell? ⟨w.heap.size, 0, none⟩ = some (.pointer none) := by subst hw5; go_simp
  have cs : w5.cell? ⟨w.heap.size + 1, 0, none⟩ = some (.string s) := by subst hw5; go_simp
  have ca : w5.cell? ⟨w.heap.size + 1 + 1, 0, none⟩ = some (.int .i64 at_) := by subst hw5; go_simp
  have cn : w5.cell? ⟨w.heap.size + 1 + 1 + 1, 0, none⟩ = some (.int .i64 n) := by subst hw5; go_simp
  have co : w5.cell? ⟨w.heap.size + 1 + 1 + 1 + 1, 0, none⟩ = some (.slice none 0 0) := by subst hw5; go_simp
  have fo : w5.frozen? ⟨w.heap.size + 1 + 1 + 1 + 1, 0, none⟩ = false := by subst hw5; go_simp
  clear hw5
  generalize hpo : w.heap.size + 1 + 1 + 1 + 1 = po at *
  have HB := Aside0.mk hb
  refine (tried_two 48 _ (enters48 _) w5 (fun w' => Below w.heap.size w w' ∧ w'.cell? ⟨po, 0, none⟩ = some (.slice none 0 0)) ?_).mono ?_
  · have hle : w.heap.size ≤ po := by omega
    have HLE := Aside0.mk hle
    clear hb hpo hle
    go_enter Try.func48, Try.ntmps48
    go_wp2_with fail
    refine (getNil_calls _ _ _ _).mono ?_
    rintro _ w6 ⟨rfl, hb6⟩
    have co6 : w6.cell? ⟨po, 0, none⟩ = some (.slice none 0 0) := keep_cell hb6 co
    have fo6 : w6.frozen? ⟨po, 0, none⟩ = false := (hb6.frozen (p := ⟨po, 0, none⟩) (World.block_lt_of_cell? w5 _ co)).trans fo
    have HB6 := Aside0.mk (HB.out.trans (hb6.mono HB.out.size))
    clear hb6
    go_wp2_with fail
    go_ret
    exact ⟨rfl, HB6.out.setCell (p := ⟨po, 0, none⟩) HLE.out _, World.cell?_setCell_same' _ _ _ (by rw [co6]; rfl)⟩
  · rintro _ w6 ⟨rfl, hb6, c6⟩
    have HB6 := Aside0.mk hb6
    clear hb6
    go_wp2_with fail
    go_ret2
    exact ⟨rfl, HB6.out⟩
set_option maxRecDepth 100000 in
theorem cDownNil_calls : Calls Try.prog 24 #[.pointer none, .string s] w fun e w' => e = .returned (.tuple #[.slice none 0 0, .int .i64 2]) ∧ Below w.heap.size w w' := by
  go_enter Try.func24, Try.ntmps24
  go_wp2_with fail
  refine (cPieceNil_calls w s 0 1048576).mono ?_
  rintro _ w6 ⟨rfl, hb⟩
  have HB6 := Aside0.mk hb
  clear hb
  go_wp2_with fail
  go_ret2
  exact ⟨rfl, HB6.out⟩
set_option maxRecDepth 100000 in
theorem cNamesNil_calls : Calls Try.prog 34 #[.pointer none] w fun e w' => e = .returned (.tuple #[.slice none 0 0, .int .i64 2]) ∧ Below w.heap.size w w' := by
  go_enter Try.func34, Try.ntmps34
  go_wp2_with fail
  generalize hw5 : (w.alloc (.cells #[.pointer none] 24)).alloc (.cells #[.slice none 0 0] 53) = w5
  have hb : Below w.heap.size w w5 := by
    rw [← hw5]
    exact ((Below.refl _ w).alloc (Nat.le_refl _) _).alloc (by simp) _
  have cf : w5.cell? ⟨w.heap.size, 0, none⟩ = some (.pointer none) := by subst hw5; go_simp
  have co : w5.cell? ⟨w.heap.size + 1, 0, none⟩ = some (.slice none 0 0) := by subst hw5; go_simp
  have fo : w5.frozen? ⟨w.heap.size + 1, 0, none⟩ = false := by subst hw5; go_simp
  clear hw5
  generalize hpo : w.heap.size + 1 = po at *
  have HB := Aside0.mk hb
  refine (tried_two 56 _ (enters56 _) w5 (fun w' => Below w.heap.size w w' ∧ w'.cell? ⟨po, 0, none⟩ = some (.slice none 0 0)) ?_).mono ?_
  · have hle : w.heap.size ≤ po := by omega
    have HLE := Aside0.mk hle
    clear hb hpo hle
    go_enter Try.func56, Try.ntmps56
    go_wp2_with fail
    refine (listNil_calls _).mono ?_
    rintro _ w6 ⟨rfl, hb6⟩
    have co6 : w6.cell? ⟨po, 0, none⟩ = some (.slice none 0 0) := keep_cell hb6 co
    have fo6 : w6.frozen? ⟨po, 0, none⟩ = false := (hb6.frozen (p := ⟨po, 0, none⟩) (World.block_lt_of_cell? w5 _ co)).trans fo
    have HB6 := Aside0.mk (HB.out.trans (hb6.mono HB.out.size))
    clear hb6
    go_wp2_with fail
    go_ret
    exact ⟨rfl, HB6.out.setCell (p := ⟨po, 0, none⟩) HLE.out _, World.cell?_setCell_same' _ _ _ (by rw [co6]; rfl)⟩
  · rintro _ w6 ⟨rfl, hb6, c6⟩
    have HB6 := Aside0.mk hb6
    clear hb6
    go_wp2_with fail
    go_ret2
    exact ⟨rfl, HB6.out⟩
set_option maxRecDepth 100000 in
theorem cDropNil_calls : Calls Try.prog 35 #[.pointer none, .string s] w fun e w' => e = .returned (.int .i64 2) ∧ Below w.heap.size w w' := by
  go_enter Try.func35, Try.ntmps35
  go_wp2_with fail
  generalize hw5 : (w.alloc (.cells #[.pointer none] 24)).alloc (.cells #[.string s] 9) = w5
  have hb : Below w.heap.size w w5 := by
    rw [← hw5]
    exact ((Below.refl _ w).alloc (Nat.le_refl _) _).alloc (by simp) _
  have cf : w5.cell? ⟨w.heap.size, 0, none⟩ = some (.pointer none) := by subst hw5; go_simp
  have cs : w5.cell? ⟨w.heap.size + 1, 0, none⟩ = some (.string s) := by subst hw5; go_simp
  clear hw5
  have HB := Aside0.mk hb
  refine (tried_two 57 _ (enters57 _) w5 (fun w' => Below w5.heap.size w5 w') ?_).mono ?_
  · clear hb
    go_enter Try.func57, Try.ntmps57
    go_wp2_with fail
    refine (dropNil_calls _ _).mono ?_
    rintro _ w6 ⟨rfl, hb6⟩
    have HB6 := Aside0.mk hb6
    clear hb6
    go_wp2_with fail
    go_ret
    exact ⟨rfl, HB6.out⟩
  · rintro _ w6 ⟨rfl, hb6⟩
    have c6 := keep_cell hb6 cf
    have HB6 := Aside0.mk (HB.out.trans (hb6.mono HB.out.size))
    clear hb6
    go_wp2_with fail
    go_ret
    exact ⟨rfl, HB6.out⟩
set_option maxRecDepth 100000 in
theorem cUpNil_calls (A : Option Addr) (len c : Nat) : Calls Try.prog 23 #[.pointer none, .string s, .slice A len c] w fun e w' => e = .returned (.int .i64 2) ∧ Below w.heap.size w w' := by
  go_enter Try.func23, Try.ntmps23
  go_wp2_with fail
  generalize hw5 : ((w.alloc (.cells #[.pointer none] 24)).alloc (.cells #[.string s] 9)).alloc (.cells #[.slice A len c] 22) = w5
  have hb : Below w.heap.size w w5 := by
    rw [← hw5]
    exact (((Below.refl _ w).alloc (Nat.le_refl _) _).alloc (by simp) _).alloc (by simp; omega) _
  have cf : w5.cell? ⟨w.heap.size, 0, none⟩ = some (.pointer none) := by subst hw5; go_simp
  have cs : w5.cell? ⟨w.heap.size + 1, 0, none⟩ = some (.string s) := by subst hw5; go_simp
  have cb : w5.cell? ⟨w.heap.size + 1 + 1, 0, none⟩ = some (.slice A len c) := by subst hw5; go_simp
  clear hw5
  have HB := Aside0.mk hb
  refine (tried_two 46 _ (enters46 _) w5 (fun w' => Below w5.heap.size w5 w') ?_).mono ?_
  · clear hb
    go_enter Try.func46, Try.ntmps46
    go_wp2_with fail
    refine (putNil_calls _ _ _ _ _).mono ?_
    rintro _ w6 ⟨rfl, hb6⟩
    have HB6 := Aside0.mk hb6
    clear hb6
    go_wp2_with fail
    go_ret
    exact ⟨rfl, HB6.out⟩
  · rintro _ w6 ⟨rfl, hb6⟩
    have HB6 := Aside0.mk (HB.out.trans (hb6.mono HB.out.size))
    clear hb6
    go_wp2_with fail
    go_ret
    exact ⟨rfl, HB6.out⟩
set_option maxRecDepth 100000 in
/-- ClientNil. -/
theorem clientNil_all (A : Option Addr) (len c : Nat) (at_ n : Int) : Calls Try.prog 11 #[.string s, .slice A len c, .int .i64 at_, .int .i64 n] w fun e w' => e = .returned (.bool true) ∧ Below w.heap.size w w' := by
  go_enter Try.func11, Try.ntmps11
  go_wp2_with fail
  refine (cDownNil_calls _ _).mono ?_
  rintro _ w1 ⟨rfl, hb⟩
  have HB1 := Aside0.mk hb
  clear hb
  go_wp2_with fail
  refine (cPieceNil_calls _ _ _ _).mono ?_
  rintro _ w2 ⟨rfl, hb⟩
  have HB2 := Aside0.mk (HB1.out.trans (hb.mono HB1.out.size))
  clear hb
  go_wp2_with fail
  refine (cNamesNil_calls _).mono ?_
  rintro _ w3 ⟨rfl, hb⟩
  have HB3 := Aside0.mk (HB2.out.trans (hb.mono HB2.out.size))
  clear hb
  go_wp2_with fail
  refine (cDropNil_calls _ _).mono ?_
  rintro _ w4 ⟨rfl, hb⟩
  have HB4 := Aside0.mk (HB3.out.trans (hb.mono HB3.out.size))
  clear hb
  go_wp2_with fail
  refine (num2_calls _ _).mono ?_
  rintro _ _ ⟨rfl, rfl⟩
  go_wp2_with fail
  refine (cUpNil_calls _ _ _ _ _).mono ?_
  rintro _ w5 ⟨rfl, hb⟩
  have HB5 := Aside0.mk (HB4.out.trans (hb.mono HB4.out.size))
  clear hb
  go_wp2_with fail
  refine (num2_calls _ _).mono ?_
  rintro _ _ ⟨rfl, rfl⟩
  go_wp2_with fail
  refine (num2_calls _ _).mono ?_
  rintro _ _ ⟨rfl, rfl⟩
  go_wp2_with fail
  refine (num2_calls _ _).mono ?_
  rintro _ _ ⟨rfl, rfl⟩
  go_wp2_with fail
  refine (num2_calls _ _).mono ?_
  rintro _ _ ⟨rfl, rfl⟩
  go_wp2_with fail
  refine (awake6_calls _).mono ?_
  rintro _ w6 ⟨rfl, hb⟩
  have HB6 := Aside0.mk (HB5.out.trans (hb.mono HB5.out.size))
  clear hb
  go_wp2_with fail
  go_ret
  exact ⟨rfl, HB6.out⟩
end
end Go.Proofs.Ytbedfilammjlpaa.P
