/- ClientRuns: the walk. -/
import Derived.Test.YtbedfilammjlpaaG42
import Derived.Test.YtbedfilammjlpaaG24
namespace Go.Proofs.Ytbedfilammjlpaa.P
open Go.RowKit Go.Proofs.YtbedfilammjlpaaW.PrintWords Go.Proofs.YtbedfilammjlpaaW.PrintMore Go.Maps Go.WideMaps
set_option linter.unusedVariables false
section
variable (W : World) (A : Option Addr) (c : Nat) (l : List Act)
set_option maxRecDepth 100000 in
theorem clientRuns_great (hg : 80 < (l.length : Int)) : Calls Try.prog 12 #[.slice A l.length c] W fun e w' => e = .returned (.bool true) ∧ Below W.heap.size W w' := by
  go_enter Try.func12, Try.ntmps12
  go_wp2_with fail
  refine (awake6_calls _).mono ?_
  rintro _ w1 ⟨rfl, hb⟩
  go_wp2_with fail
  go_ret
  exact ⟨rfl, hb⟩
set_option maxRecDepth 100000 in
set_option maxHeartbeats 1000000 in
theorem clientRuns_some (hl : Kd.C kAct W A l.length l) (hk : ∀ a ∈ l, a.name.size ≤ maxLen ∧ Bts a.data) (h1 : l.length ≤ 80) : Calls Try.prog 12 #[.slice A l.length c] W fun e w' => e = .returned (.bool true) ∧ Below W.heap.size W w' := by
  have HL := Aside0.mk hl
  have HK := Aside0.mk hk
  clear hl hk
  go_enter Try.func12, Try.ntmps12
  go_wp2_with fail
  refine (newFar_calls W).mono ?_
  rintro _ w1 ⟨g, m, rfl, hg, hm, hgm, hF, hb⟩
  go_wp2_with fail
  have hb0 : Below w1.heap.size w1 (w1.alloc (.cells #[.slice none 0 0, .slice none 0 0, .int .i64 0] 47)) := (Below.refl _ w1).alloc (Nat.le_refl _) _
  have hF1 := hF (GM g m) (fun k hk => hk.elim .inl (fun e => .inr (.inl e))) (.inl rfl) (.inr rfl)
  obtain ⟨hg1, hm1⟩ := hF1.lt
  have hbs := hb.size
  have HB0 : Aside0 (Both W (w1.alloc (.cells #[.slice none 0 0, .slice none 0 0, .int .i64 0] 47)) g m w1.heap.size 0 FS.none) := by
    have hbd : ∀ k, GMH g m w1.heap.size k → k < (w1.alloc (.cells #[.slice none 0 0, .slice none 0 0, .int .i64 0] 47)).heap.size := fun k hk => by
      have e : (w1.alloc (.cells #[.slice none 0 0, .slice none 0 0, .int .i64 0] 47)).heap.size = w1.heap.size + 1 := by simp
      rw [e]
      rcases hk with e | e | e <;> omega
    refine ⟨⟨⟨hF1.wide (Stp.of_below hb0 _) (fun k hk => ?_) hbd (fun k hk => hk.elim .inl (fun e => .inr (.inl e))), ⟨hbd, .inr (.inr rfl), ⟨none, 0, none, 0, heap_alloc_new _ _, Nat.le_refl _, Lives.nil _ _ _, Nat.le_refl _, Lives.nil _ _ _⟩, Nat.le_refl _, List.Pairwise.nil⟩, hb.trans (hb0.mono hbs), hg, hm, hbs, by omega, by omega⟩, Nat.zero_le _⟩⟩
    rcases hk with e | e | e
    · exact .inl (.inl e)
    · exact .inl (.inr e)
    · exact .inr (by omega)
  generalize w1.alloc (.cells #[.slice none 0 0, .slice none 0 0, .int .i64 0] 47) = wh at HB0 ⊢
  generalize w1.heap.size = hh at HB0 ⊢
  clear hF hF1 hb hb0 hbs hg1 hm1 hg hm hgm
  go_loopw [5] (fun i wr => ∃ (k : Nat) (st : FS), k ≤ l.length ∧ i = .int .i64 k ∧ Aside0 (Both W wr g m hh (4 * k) st)) (fun i _ => l.length - (intOf i).toNat)
  case atStart => exact ⟨0, _, Nat.zero_le _, rfl, HB0⟩
  case round =>
    clear HB0
    obtain ⟨k, st, hk, rfl, BH⟩ := hrel
    by_cases hlt : k < l.length
    · obtain ⟨ad, A1, A2, c1, c2, e, d0, d1, d2, d3, d4, d5, d6, d7⟩ := act_at HL.out k hlt rfl
      subst e
      have hok := HK.out _ (List.getElem_mem hlt)
      generalize l[k] = a at d0 d1 d2 d3 d4 d5 d6 d7 hok
      obtain ⟨what, name, at_, n, data, next⟩ := a
      dsimp only at d0 d1 d2 d3 d4 d5 d6 d7 hok
      have g0 : wr.cell? _ = _ := keep_cell (BH.out.two.bel) d0
      have g4 : wr.cell? _ = _ := keep_cell (BH.out.two.bel) d4
      have g5 : wr.cell? _ = _ := keep_cell (BH.out.two.bel) d5
      have D0 := Aside0.mk d0
      have D1 := Aside0.mk d1
      have D2 := Aside0.mk d2
      have D3 := Aside0.mk d3
      have D4 := Aside0.mk d4
      have D5 := Aside0.mk d5
      have D6 := Aside0.mk d6
      have D7 := Aside0.mk d7
      have HNK := Aside0.mk hok
      have hm1 : data.length ≤ 9223372036854775807 := d6.2.1
      have hm2 : next.length ≤ 9223372036854775807 := d7.2.1
      clear d0 d1 d2 d3 d4 d5 d6 d7 hok
      by_cases hfew : data.length ≤ 300 ∧ next.length ≤ 100
      · obtain ⟨q1, q2⟩ := hfew
        have HOK : Aside0 (ActOk W ⟨what, name, at_, n, data, next⟩ A1 A2) := ⟨⟨HNK.out.1, HNK.out.2, D6.out, D7.out, q1, q2⟩⟩
        have BA := BH
        obtain ⟨wa, hwa⟩ : ∃ wa, wa = wr := ⟨_, rfl⟩
        subst hwa
        clear g0 g4 g5
        have f0 : wa.cell? _ = _ := keep_cell (BA.out.two.bel) D0.out
        have f1 : wa.cell? _ = _ := keep_cell (BA.out.two.bel) D1.out
        have f2 : wa.cell? _ = _ := keep_cell (BA.out.two.bel) D2.out
        have f3 : wa.cell? _ = _ := keep_cell (BA.out.two.bel) D3.out
        have f4 : wa.cell? _ = _ := keep_cell (BA.out.two.bel) D4.out
        have f5 : wa.cell? _ = _ := keep_cell (BA.out.two.bel) D5.out
        go_wp2_with fail
        refine (step6_calls BA.out ⟨what, name, at_, n, data, next⟩ A1 A2 c1 c2 HOK.out (by omega)).mono ?_
        rintro _ wb ⟨rfl, st2, hb2⟩
        have BB := Aside0.mk hb2
        clear hb2 f0 f1 f2 f3 f4 f5
        go_wp2_with fail
        refine (tf_objects BB.out.two (by omega)).mono ?_
        rintro _ wc ⟨A5, c5, rfl, hc5, hl5, ht⟩
        have TC := Aside0.mk ht
        have HC5 := Aside0.mk hc5
        have HL5 := Aside0.mk hl5
        clear ht hc5 hl5
        go_wp2_with fail
        refine (tr_objects TC.out (by omega)).mono ?_
        rintro _ wd ⟨A6, c6, rfl, hc6, hl6, ht, hs⟩
        have TD := Aside0.mk ht
        have HC6 := Aside0.mk hc6
        have HL6 := Aside0.mk hl6
        have HL7 := Aside0.mk (HL5.out.step hs.kept)
        clear ht hc6 hl6 hs
        go_wp2_with fail
        refine (t_files HL7.out HL6.out HC5.out HC6.out).mono ?_
        rintro _ we ⟨rfl, hd⟩
        have TE := Aside0.mk (TD.out.drawn hd)
        clear hd
        go_wp2_with fail
        refine (tf_calls TE.out).mono ?_
        rintro _ _ ⟨rfl, rfl⟩
        go_wp2_with fail
        refine (tr_calls TE.out).mono ?_
        rintro _ _ ⟨rfl, rfl⟩
        go_wp2_with fail
        refine (tf_left TE.out).mono ?_
        rintro _ _ ⟨rfl, rfl⟩
        go_wp2_with fail
        refine (tr_left TE.out).mono ?_
        rintro _ _ ⟨rfl, rfl⟩
        go_wp2_with fail
        go_roundw
        case rel => exact ⟨k + 1, _, by omega, by go_num, ⟨⟨TE.out, BB.out.nx⟩⟩⟩
        case measure => simp [intOf]; omega
      · have hq : 300 < (data.length : Int) ∨ (¬ 300 < (data.length : Int) ∧ 100 < (next.length : Int)) := by omega
        clear hfew
        rcases hq with q1 | ⟨q1, q2⟩
        all_goals
          go_wp2_with fail
          refine (awake6_calls _).mono ?_
          rintro _ w5 ⟨rfl, hb5⟩
          have HB5 := Aside0.mk hb5
          clear hb5
          go_wp2_with fail
          go_ret
          exact ⟨rfl, BH.out.two.bel.trans (HB5.out.mono BH.out.two.bel.size)⟩
    · go_wp2_with fail
      refine (awake6_calls _).mono ?_
      rintro _ w5 ⟨rfl, hb5⟩
      have HB5 := Aside0.mk hb5
      clear hb5
      go_wp2_with fail
      go_ret
      exact ⟨rfl, BH.out.two.bel.trans (HB5.out.mono BH.out.two.bel.size)⟩
theorem clientRuns_all (hl : Kd.C kAct W A l.length l) (hk : ∀ a ∈ l, a.name.size ≤ maxLen ∧ Bts a.data) : Calls Try.prog 12 #[.slice A l.length c] W fun e w' => e = .returned (.bool true) ∧ Below W.heap.size W w' := by
  by_cases h : l.length ≤ 80
  · exact clientRuns_some W A c l hl hk h
  · exact clientRuns_great W A c l (by omega)
end
end Go.Proofs.Ytbedfilammjlpaa.P
