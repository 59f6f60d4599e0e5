/- The document's example of layer 5: it is told true. A store that there is not. -/
import Derived.Test.YtbedfilammjlpaaG10
import Derived.Lib.SlBytesConst
namespace Go.Proofs.Ytbedfilammjlpaa.P
open Go.RowKit Go.Proofs.YtbedfilammjlpaaW.PrintWords Go.Proofs.YtbedfilammjlpaaW.PrintMore Go.Maps Go.WideMaps
set_option linter.unusedVariables false
def FS.none : FS := ⟨[], [], 0⟩
/-- New: a store without objects. -/
theorem newFar_calls (w : World) : Calls Try.prog 14 #[] w fun e w' => ∃ g m, e = .returned (.pointer (some ⟨g, 0, Option.none⟩)) ∧ w.heap.size ≤ g ∧ w.heap.size ≤ m ∧ g ≠ m ∧ (∀ S2 : Nat → Prop, (∀ k, S2 k → k = g ∨ k = m ∨ k < w.heap.size) → S2 g → S2 m → FarP w' S2 g m 0 FS.none) ∧ Below w.heap.size w w' := by
  refine (new_calls w).mono fun e w' he => ?_
  obtain ⟨rfl, hc, ho, hb⟩ := he
  have hg := blk_lt hc
  refine ⟨_, _, rfl, by omega, Nat.le_refl _, by omega, fun S2 h1 h2 h3 => ⟨fun k hk => ?_, h2, h3, ⟨Option.none, 0, hc, Nat.le_refl _, Lives.nil _ _ _⟩, ⟨_, ho, fun s => rfl, fun s d hf => by cases hf⟩, List.Pairwise.nil⟩, hb⟩
  rcases h1 k hk with e | e | e <;> omega
theorem num2_calls (n : Int) (w : World) : Calls Try.prog 18 #[.int .i64 n] w fun e w' => e = .returned (.int .i64 n) ∧ w = w' := (num_calls n w).mono fun e w' ⟨h1, h2⟩ => ⟨h1, h2.symm⟩
/-- A block of numbers that nobody writes. -/
theorem block_live {w : World} {b : Nat} {e : TypeId} {fr : Nat × Nat} {k : IntKind} {xs : List Int} {S : Nat → Prop} (hb : w.heap[b]? = some (.cells (nums k xs).toArray e fr)) (hS : ¬ S b) (hm : xs.length ≤ 9223372036854775807) : Lives w S (Kd.int k) (some ⟨b, 0, Option.none⟩) xs := by
  intro W' hk
  have hb2 : W'.heap[b]? = some (.cells (nums k xs).toArray e fr) := (hk.2 b (blk_lt hb) hS).trans hb
  refine Kd.C_of_reads (h1 := fun _ => rfl) (d := (0 : Int)) ⟨rfl, hm, fun _ => ⟨_, rfl, fun j hj => ?_⟩⟩
  rw [add_plain, cell_of_row W' b j _ e fr hb2]
  simp [nums, List.getElem?_eq_getElem hj, List.getD_eq_getElem?_getD]
/-- A literal of numbers. -/
theorem lits_live (w : World) (e : TypeId) (k : IntKind) (xs : List Int) (fr : Nat × Nat) {S : Nat → Prop} (hS : ∀ j, S j → j < w.heap.size) (hm : xs.length ≤ 9223372036854775807) : Lives (w.alloc (.cells (nums k xs).toArray e fr)) S (Kd.int k) (some ⟨w.heap.size, 0, Option.none⟩) xs :=
  block_live (heap_alloc_new _ _) (fun h => Nat.lt_irrefl _ (hS _ h)) hm
theorem gm_lt {g m : Nat} {w : World} (hg : g < w.heap.size) (hm : m < w.heap.size) : ∀ k, GM g m k → k < w.heap.size := fun k hk => by rcases hk with e | e <;> omega
def nmA : ByteArray := ⟨#[97]⟩
def nmO : ByteArray := ⟨#[111]⟩
def nmP : ByteArray := ⟨#[112]⟩
theorem named_a : named nmA = true := by decide
theorem named_o : named nmO = true := by decide
/-- Put under a name that is free. -/
theorem putF_free {st : FS} {s d : ByteArray} (hn : named s = true) (hf : findO st.l s = Option.none) : putF st s d = (toldF st.out 0, if st.out = 1 then st.took else st.took.put s d) := by
  have e : putE st.l s = 0 := by unfold putE; rw [hn, hf]; rfl
  unfold putF
  rw [e, if_pos rfl]
/-- Put under a name that is taken. -/
theorem putF_taken {st : FS} {s d d' : ByteArray} (hn : named s = true) (hf : findO st.l s = some d') : putF st s d = (toldF st.out 3, st.took) := by
  have e : putE st.l s = 3 := by unfold putE; rw [hn, hf]; rfl
  unfold putF
  rw [e, if_neg (show ¬ (3 : Int) = 0 by decide)]
  split <;> rfl
set_option maxRecDepth 100000 in
theorem awake5_calls (w : World) : Calls Try.prog 13 #[] w fun e w' => e = .returned (.bool true) ∧ Below w.heap.size w w' := by
  go_enter Try.func13, Try.ntmps13
  go_wp2_with fail
  refine (newFar_calls w).mono ?_
  rintro _ w1 ⟨g, m, rfl, hg, hm, hgm, hF, hb1⟩
  have HF1 := Aside0.mk (hF (GM g m) (fun k hk => hk.elim .inl (fun e => .inr (.inl e))) (.inl rfl) (.inr rfl))
  have HB1 := Aside0.mk hb1
  have hlt := HF1.out.lt
  obtain ⟨hg1, hm1⟩ := hlt
  clear hF hb1
  go_wp2_with fail
  have hb2 : Below w1.heap.size w1 (w1.alloc (.cells #[.int .i64 2] 3)) := (Below.refl _ w1).alloc (Nat.le_refl _) _
  refine (next_calls (HF1.out.below hb2) (some ⟨w1.heap.size, 0, Option.none⟩) 1 [2] ((lits_live w1 3 .i64 [2] (0, 0) HF1.out.bd (by decide)).now) (by decide)).mono ?_
  rintro _ w2 ⟨rfl, hF2, hs2⟩
  have HF2 := Aside0.mk hF2
  have HS2 := Aside0.mk ((Stp.of_below hb2 _).trans hs2)
  clear hF2 hs2 hb2
  have kc := fun (w : World) (C : Array Value) (n c : Nat) => Lib.run_convert_bytes_const (P := Try.prog) w 22 5 C n c Try.underlying22 Try.underlying5
  go_wp2_with fail
  have hb3 : Below w2.heap.size w2 (w2.alloc (.cells #[.int .u8 120] 5 (1, 2))) := (Below.refl _ w2).alloc (Nat.le_refl _) _
  have hl := lits_live w2 5 .u8 [120] (1, 2) (S := GM g m) (gm_lt HF2.out.lt.1 HF2.out.lt.2) (by decide)
  refine (put_calls (HF2.out.below hb3) nmA (by decide) (some ⟨w2.heap.size, 0, Option.none⟩) 1 [120] (by decide) (fun x hx => by simp at hx; omega) (by decide) hl).mono ?_
  have ep : putF ⟨FS.none.l, [2], FS.none.calls⟩ nmA (strOfNums [120]) = (8, ⟨[(nmA, strOfNums [120])], [], wrap64 (0 + 1)⟩) := by
    rw [putF_free named_a rfl]
    rfl
  rw [ep]
  rintro _ w3 ⟨rfl, hF3, hs3⟩
  have HF3 := Aside0.mk hF3
  have HS3 := Aside0.mk ((HS2.out.mono (S2 := GM g m) (fun k e => .inl e)).trans ((Stp.of_below hb3 _).trans hs3))
  clear hF3 hs3 hb3 ep hl kc
  go_wp2_with fail
  refine (num2_calls _ _).mono ?_
  rintro _ _ ⟨rfl, rfl⟩
  go_wp2_with fail
  refine (objects_calls HF3.out (by decide)).mono ?_
  rintro _ w4 ⟨v, rfl, hv, hb4⟩
  obtain ⟨A4, c4, hA4⟩ := Kd.R_slice hv
  subst hA4
  have HB4 := Aside0.mk hb4
  clear hv hb4
  go_wp2_with fail
  go_ret
  refine ⟨rfl, ?_⟩
  exact HB1.out.trans ((HS3.out.below HB4.out).toBelow HB1.out.size (fun k hk => by rcases hk with e | e <;> omega))
set_option maxRecDepth 100000 in
/-- The law's calls on a store that there is not. -/
theorem farNil_all (s : ByteArray) (at_ n : Int) (A : Option Addr) (c len : Nat) (w : World) : Calls Try.prog 8 #[.string s, .int .i64 at_, .int .i64 n, .slice A len c] w fun e w' => e = .returned (.bool true) ∧ Below w.heap.size w w' := by
  go_enter Try.func8, Try.ntmps8
  go_wp2_with fail
  have hb0 : Below w.heap.size w (w.alloc (.cells #[.int .i64 at_] 3)) := (Below.refl _ w).alloc (Nat.le_refl _) _
  refine (nextNil_calls _ _).mono ?_
  rintro _ w1 ⟨rfl, hb⟩
  have HB1 := Aside0.mk (hb0.trans (hb.mono hb0.size))
  clear hb hb0
  go_wp2_with fail
  refine (getNil_calls _ _ _ _).mono ?_
  rintro _ w2 ⟨rfl, hb⟩
  have HB2 := Aside0.mk (HB1.out.trans (hb.mono HB1.out.size))
  clear hb
  go_wp2_with fail
  refine (listNil_calls _).mono ?_
  rintro _ w3 ⟨rfl, hb⟩
  have HB3 := Aside0.mk (HB2.out.trans (hb.mono HB2.out.size))
  clear hb
  go_wp2_with fail
  refine (putNil_calls _ _ _ _ _).mono ?_
  rintro _ w4 ⟨rfl, hb⟩
  have HB4 := Aside0.mk (HB3.out.trans (hb.mono HB3.out.size))
  clear hb
  go_wp2_with fail
  refine (num2_calls _ _).mono ?_
  rintro _ _ ⟨rfl, rfl⟩
  go_wp2_with fail
  refine (num2_calls _ _).mono ?_
  rintro _ _ ⟨rfl, rfl⟩
  go_wp2_with fail
  refine (num2_calls _ _).mono ?_
  rintro _ _ ⟨rfl, rfl⟩
  go_wp2_with fail
  refine (dropNil_calls _ _).mono ?_
  rintro _ w5 ⟨rfl, hb⟩
  have HB5 := Aside0.mk (HB4.out.trans (hb.mono HB4.out.size))
  clear hb
  go_wp2_with fail
  refine (num2_calls _ _).mono ?_
  rintro _ _ ⟨rfl, rfl⟩
  go_wp2_with fail
  refine (objectsNil_calls _).mono ?_
  rintro _ w6 ⟨rfl, hb⟩
  have HB6 := Aside0.mk (HB5.out.trans (hb.mono HB5.out.size))
  clear hb
  go_wp2_with fail
  refine (callsNil_calls _).mono ?_
  rintro _ w7 ⟨rfl, hb⟩
  have HB7 := Aside0.mk (HB6.out.trans (hb.mono HB6.out.size))
  clear hb
  go_wp2_with fail
  refine (leftNil_calls _).mono ?_
  rintro _ w8 ⟨rfl, hb⟩
  have HB8 := Aside0.mk (HB7.out.trans (hb.mono HB7.out.size))
  clear hb
  go_wp2_with fail
  refine (copyNil_calls _).mono ?_
  rintro _ w9 ⟨rfl, hb⟩
  have HB9 := Aside0.mk (HB8.out.trans (hb.mono HB8.out.size))
  clear hb
  go_wp2_with fail
  refine (awake5_calls _).mono ?_
  rintro _ w10 ⟨rfl, hb⟩
  have HB10 := Aside0.mk (HB9.out.trans (hb.mono HB9.out.size))
  clear hb
  go_wp2_with fail
  go_ret
  exact ⟨rfl, HB10.out⟩
end Go.Proofs.Ytbedfilammjlpaa.P
