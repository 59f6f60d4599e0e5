/- FarRuns: the walk. -/
import Derived.Test.YtbedfilammjlpaaG23
namespace Go.Proofs.Ytbedfilammjlpaa.P
open Go.RowKit Go.Proofs.YtbedfilammjlpaaW.PrintWords Go.Proofs.YtbedfilammjlpaaW.PrintMore Go.Maps Go.WideMaps
set_option linter.unusedVariables false
/-- An act's kind: six cells. -/
def kAct : Kd Act := Kd.iso (Kd.pair (Kd.int .i64) (Kd.pair Kd.string (Kd.pair (Kd.int .i64) (Kd.pair (Kd.int .i64) (Kd.pair (Kd.slice 5 (Kd.int .u8)) (Kd.slice 3 (Kd.int .i64))))))) (fun a : Act => (a.what, a.name, a.at_, a.n, a.data, a.next))
/-- An act of the argument's row. -/
theorem act_at {w : World} {A : Option Addr} {n : Nat} {l : List Act} (hC : Kd.C kAct w A n l) (k : Nat) (hk : k < l.length) (hn : l.length = n) : ∃ ad A1 A2 c1 c2, A = some ad ∧ w.cell? (ad.add (k * 6)) = some (.int .i64 (l[k]).what) ∧
    w.cell? ⟨(ad.add (k * 6)).block, (ad.add (k * 6)).off + 1, none⟩ = some (.string (l[k]).name) ∧ w.cell? ⟨(ad.add (k * 6)).block, (ad.add (k * 6)).off + 2, none⟩ = some (.int .i64 (l[k]).at_) ∧ w.cell? ⟨(ad.add (k * 6)).block, (ad.add (k * 6)).off + 3, none⟩ = some (.int .i64 (l[k]).n) ∧
    w.cell? ⟨(ad.add (k * 6)).block, (ad.add (k * 6)).off + 4, none⟩ = some (.slice A1 (l[k]).data.length c1) ∧ w.cell? ⟨(ad.add (k * 6)).block, (ad.add (k * 6)).off + 5, none⟩ = some (.slice A2 (l[k]).next.length c2) ∧
    Kd.C (Kd.int .u8) w A1 (l[k]).data.length (l[k]).data ∧ Kd.C (Kd.int .i64) w A2 (l[k]).next.length (l[k]).next := by
  obtain ⟨ad, c, e, hs, hK, hc0⟩ := Kd.C_get hC l[k] (k : Int) (by omega) (by omega)
  have hg : l.getD ((k : Int).toNat) l[k] = l[k] := by simp [List.getD_eq_getElem?_getD, hk]
  rw [hg] at hK
  have hc : ∀ j u, c[j]? = some u → w.cell? (ad.add (k * 6 + j)) = some u := fun j u h => hc0 j u h
  obtain ⟨_, _, rfl, rfl, ⟨_, _, rfl, rfl, ⟨_, _, rfl, rfl, ⟨_, _, rfl, rfl, ⟨_, _, rfl, ⟨A1, c1, rfl, h1, h2⟩, ⟨A2, c2, rfl, h3, h4⟩⟩⟩⟩⟩⟩ := hK
  refine ⟨ad, A1, A2, c1, c2, e, hc 0 _ rfl, ?_, ?_, ?_, ?_, ?_, h2, h4⟩
  · rw [← add_field _ _ 1 (by omega)]; exact hc 1 _ rfl
  · rw [← add_field _ _ 2 (by omega)]; exact hc 2 _ rfl
  · rw [← add_field _ _ 3 (by omega)]; exact hc 3 _ rfl
  · rw [← add_field _ _ 4 (by omega)]; exact hc 4 _ rfl
  · rw [← add_field _ _ 5 (by omega)]; exact hc 5 _ rfl
section
variable (W : World) (A : Option Addr) (c : Nat) (l : List Act)
set_option maxRecDepth 100000 in
theorem farRuns_great (hg : 100 < (l.length : Int)) : Calls Try.prog 7 #[.slice A l.length c] W fun e w' => e = .returned (.bool true) ∧ Below W.heap.size W w' := by
  go_enter Try.func7, Try.ntmps7
  go_wp2_with fail
  refine (awake5_calls _).mono ?_
  rintro _ w1 ⟨rfl, hb⟩
  go_wp2_with fail
  go_ret
  exact ⟨rfl, hb⟩
set_option maxRecDepth 100000 in
set_option maxHeartbeats 1000000 in
theorem farRuns_some (hl : Kd.C kAct W A l.length l) (hk : ∀ a ∈ l, a.name.size ≤ maxLen ∧ Bts a.data) (h1 : l.length ≤ 100) : Calls Try.prog 7 #[.slice A l.length c] W fun e w' => e = .returned (.bool true) ∧ Below W.heap.size W w' := by
  have HL := Aside0.mk hl
  have HK := Aside0.mk hk
  clear hl hk
  go_enter Try.func7, Try.ntmps7
  go_wp2_with fail
  refine (newFar_calls W).mono ?_
  rintro _ w1 ⟨g, m, rfl, hg, hm, hgm, hF, hb⟩
  go_wp2_with fail
  have hb0 : Below w1.heap.size w1 (w1.alloc (.cells #[.slice none 0 0, .slice none 0 0, .int .i64 0] 47)) := (Below.refl _ w1).alloc (Nat.le_refl _) _
  have hF1 := hF (GM g m) (fun k hk => hk.elim .inl (fun e => .inr (.inl e))) (.inl rfl) (.inr rfl)
  obtain ⟨hg1, hm1⟩ := hF1.lt
  have hbs := hb.size
  have HB0 : Aside0 (Both W (w1.alloc (.cells #[.slice none 0 0, .slice none 0 0, .int .i64 0] 47)) g m w1.heap.size 0 FS.none) := by
    have hbd : ∀ k, GMH g m w1.heap.size k → k < (w1.alloc (.cells #[.slice none 0 0, .slice none 0 0, .int .i64 0] 47)).heap.size := fun k hk => by
      have e : (w1.alloc (.cells #[.slice none 0 0, .slice none 0 0, .int .i64 0] 47)).heap.size = w1.heap.size + 1 := by simp
      rw [e]
      rcases hk with e | e | e <;> omega
    refine ⟨⟨⟨hF1.wide (Stp.of_below hb0 _) (fun k hk => ?_) hbd (fun k hk => hk.elim .inl (fun e => .inr (.inl e))), ⟨hbd, .inr (.inr rfl), ⟨none, 0, none, 0, heap_alloc_new _ _, Nat.le_refl _, Lives.nil _ _ _, Nat.le_refl _, Lives.nil _ _ _⟩, Nat.le_refl _, List.Pairwise.nil⟩, hb.trans (hb0.mono hbs), hg, hm, hbs, by omega, by omega⟩, Nat.zero_le _⟩⟩
    rcases hk with e | e | e
    · exact .inl (.inl e)
    · exact .inl (.inr e)
    · exact .inr (by omega)
  generalize w1.alloc (.cells #[.slice none 0 0, .slice none 0 0, .int .i64 0] 47) = wh at HB0 ⊢
  generalize w1.heap.size = hh at HB0 ⊢
  clear hF hF1 hb hb0 hbs hg1 hm1 hg hm hgm
  go_loopw [3, 5] (fun f i wr => ∃ (k g m : Nat) (st : FS), k ≤ l.length ∧ i = .int .i64 k ∧ f = .pointer (some ⟨g, 0, none⟩) ∧ Aside0 (Both W wr g m hh k st)) (fun _ i _ => l.length - (intOf i).toNat)
  case atStart => exact ⟨0, g, m, _, Nat.zero_le _, rfl, rfl, HB0⟩
  case round =>
    clear HB0
    obtain ⟨k, g, m, st, hk, rfl, rfl, BH⟩ := hrel
    by_cases hlt : k < l.length
    · obtain ⟨ad, A1, A2, c1, c2, e, d0, d1, d2, d3, d4, d5, d6, d7⟩ := act_at HL.out k hlt rfl
      subst e
      have hok := HK.out _ (List.getElem_mem hlt)
      generalize l[k] = a at d0 d1 d2 d3 d4 d5 d6 d7 hok
      obtain ⟨what, name, at_, n, data, next⟩ := a
      dsimp only at d0 d1 d2 d3 d4 d5 d6 d7 hok
      have g0 : wr.cell? _ = _ := keep_cell (BH.out.two.bel) d0
      have g4 : wr.cell? _ = _ := keep_cell (BH.out.two.bel) d4
      have g5 : wr.cell? _ = _ := keep_cell (BH.out.two.bel) d5
      have D0 := Aside0.mk d0
      have D1 := Aside0.mk d1
      have D2 := Aside0.mk d2
      have D3 := Aside0.mk d3
      have D4 := Aside0.mk d4
      have D5 := Aside0.mk d5
      have D6 := Aside0.mk d6
      have D7 := Aside0.mk d7
      have HNK := Aside0.mk hok
      have hm1 : data.length ≤ 9223372036854775807 := d6.2.1
      have hm2 : next.length ≤ 9223372036854775807 := d7.2.1
      clear d0 d1 d2 d3 d4 d5 d6 d7 hok
      by_cases hfew : data.length ≤ 300 ∧ next.length ≤ 100
      · obtain ⟨q1, q2⟩ := hfew
        have HOK : Aside0 (ActOk W ⟨what, name, at_, n, data, next⟩ A1 A2) := ⟨⟨HNK.out.1, HNK.out.2, D6.out, D7.out, q1, q2⟩⟩
        by_cases h6 : what = 6
        · subst h6
          go_wp2_with fail
          refine (tf_copy BH.out.two (by omega) (by have := BH.out.nx; omega)).mono ?_
          rintro _ wa ⟨g2, m2, rfl, ht⟩
          have BA : Aside0 (Both W wa g2 m2 hh k st) := ⟨⟨ht, BH.out.nx⟩⟩
          clear ht g0 g4 g5
          have f0 : wa.cell? _ = _ := keep_cell (BA.out.two.bel) D0.out
          have f1 : wa.cell? _ = _ := keep_cell (BA.out.two.bel) D1.out
          have f2 : wa.cell? _ = _ := keep_cell (BA.out.two.bel) D2.out
          have f3 : wa.cell? _ = _ := keep_cell (BA.out.two.bel) D3.out
          have f4 : wa.cell? _ = _ := keep_cell (BA.out.two.bel) D4.out
          have f5 : wa.cell? _ = _ := keep_cell (BA.out.two.bel) D5.out
          go_wp2_with fail
          refine (step5_calls BA.out ⟨6, name, at_, n, data, next⟩ A1 A2 c1 c2 HOK.out (by omega)).mono ?_
          rintro _ wb ⟨rfl, st2, hb2⟩
          have BB := Aside0.mk hb2
          clear hb2 f0 f1 f2 f3 f4 f5
          go_wp2_with fail
          refine (tf_objects BB.out.two (by omega)).mono ?_
          rintro _ wc ⟨A5, c5, rfl, hc5, hl5, ht⟩
          have TC := Aside0.mk ht
          have HC5 := Aside0.mk hc5
          have HL5 := Aside0.mk hl5
          clear ht hc5 hl5
          go_wp2_with fail
          refine (tr_objects TC.out (by omega)).mono ?_
          rintro _ wd ⟨A6, c6, rfl, hc6, hl6, ht, hs⟩
          have TD := Aside0.mk ht
          have HC6 := Aside0.mk hc6
          have HL6 := Aside0.mk hl6
          have HL7 := Aside0.mk (HL5.out.step hs.kept)
          clear ht hc6 hl6 hs
          go_wp2_with fail
          refine (t_files HL7.out HL6.out HC5.out HC6.out).mono ?_
          rintro _ we ⟨rfl, hd⟩
          have TE := Aside0.mk (TD.out.drawn hd)
          clear hd
          go_wp2_with fail
          refine (tf_calls TE.out).mono ?_
          rintro _ _ ⟨rfl, rfl⟩
          go_wp2_with fail
          refine (tr_calls TE.out).mono ?_
          rintro _ _ ⟨rfl, rfl⟩
          go_wp2_with fail
          refine (tf_left TE.out).mono ?_
          rintro _ _ ⟨rfl, rfl⟩
          go_wp2_with fail
          refine (tr_left TE.out).mono ?_
          rintro _ _ ⟨rfl, rfl⟩
          go_wp2_with fail
          go_roundw
          case rel => exact ⟨k + 1, _, _, _, by omega, by go_num, rfl, ⟨⟨TE.out, BB.out.nx⟩⟩⟩
          case measure => simp [intOf]; omega
        · have b6 : (what == 6) = false := by simpa using h6
          have BA := BH
          obtain ⟨wa, hwa⟩ : ∃ wa, wa = wr := ⟨_, rfl⟩
          subst hwa
          clear h6 g0 g4 g5
          have f0 : wa.cell? _ = _ := keep_cell (BA.out.two.bel) D0.out
          have f1 : wa.cell? _ = _ := keep_cell (BA.out.two.bel) D1.out
          have f2 : wa.cell? _ = _ := keep_cell (BA.out.two.bel) D2.out
          have f3 : wa.cell? _ = _ := keep_cell (BA.out.two.bel) D3.out
          have f4 : wa.cell? _ = _ := keep_cell (BA.out.two.bel) D4.out
          have f5 : wa.cell? _ = _ := keep_cell (BA.out.two.bel) D5.out
          go_wp2_with fail
          refine (step5_calls BA.out ⟨what, name, at_, n, data, next⟩ A1 A2 c1 c2 HOK.out (by omega)).mono ?_
          rintro _ wb ⟨rfl, st2, hb2⟩
          have BB := Aside0.mk hb2
          clear hb2 f0 f1 f2 f3 f4 f5
          go_wp2_with fail
          refine (tf_objects BB.out.two (by omega)).mono ?_
          rintro _ wc ⟨A5, c5, rfl, hc5, hl5, ht⟩
          have TC := Aside0.mk ht
          have HC5 := Aside0.mk hc5
          have HL5 := Aside0.mk hl5
          clear ht hc5 hl5
          go_wp2_with fail
          refine (tr_objects TC.out (by omega)).mono ?_
          rintro _ wd ⟨A6, c6, rfl, hc6, hl6, ht, hs⟩
          have TD := Aside0.mk ht
          have HC6 := Aside0.mk hc6
          have HL6 := Aside0.mk hl6
          have HL7 := Aside0.mk (HL5.out.step hs.kept)
          clear ht hc6 hl6 hs
          go_wp2_with fail
          refine (t_files HL7.out HL6.out HC5.out HC6.out).mono ?_
          rintro _ we ⟨rfl, hd⟩
          have TE := Aside0.mk (TD.out.drawn hd)
          clear hd
          go_wp2_with fail
          refine (tf_calls TE.out).mono ?_
          rintro _ _ ⟨rfl, rfl⟩
          go_wp2_with fail
          refine (tr_calls TE.out).mono ?_
          rintro _ _ ⟨rfl, rfl⟩
          go_wp2_with fail
          refine (tf_left TE.out).mono ?_
          rintro _ _ ⟨rfl, rfl⟩
          go_wp2_with fail
          refine (tr_left TE.out).mono ?_
          rintro _ _ ⟨rfl, rfl⟩
          go_wp2_with fail
          go_roundw
          case rel => exact ⟨k + 1, _, _, _, by omega, by go_num, rfl, ⟨⟨TE.out, BB.out.nx⟩⟩⟩
          case measure => simp [intOf]; omega
      · have hq : 300 < (data.length : Int) ∨ (¬ 300 < (data.length : Int) ∧ 100 < (next.length : Int)) := by omega
        clear hfew
        rcases hq with q1 | ⟨q1, q2⟩
        all_goals
          go_wp2_with fail
          refine (awake5_calls _).mono ?_
          rintro _ w5 ⟨rfl, hb5⟩
          have HB5 := Aside0.mk hb5
          clear hb5
          go_wp2_with fail
          go_ret
          exact ⟨rfl, BH.out.two.bel.trans (HB5.out.mono BH.out.two.bel.size)⟩
    · go_wp2_with fail
      refine (awake5_calls _).mono ?_
      rintro _ w5 ⟨rfl, hb5⟩
      have HB5 := Aside0.mk hb5
      clear hb5
      go_wp2_with fail
      go_ret
      exact ⟨rfl, BH.out.two.bel.trans (HB5.out.mono BH.out.two.bel.size)⟩
theorem farRuns_all (hl : Kd.C kAct W A l.length l) (hk : ∀ a ∈ l, a.name.size ≤ maxLen ∧ Bts a.data) : Calls Try.prog 7 #[.slice A l.length c] W fun e w' => e = .returned (.bool true) ∧ Below W.heap.size W w' := by
  by_cases h : l.length ≤ 100
  · exact farRuns_some W A c l hl hk h
  · exact farRuns_great W A c l (by omega)
end
end Go.Proofs.Ytbedfilammjlpaa.P
