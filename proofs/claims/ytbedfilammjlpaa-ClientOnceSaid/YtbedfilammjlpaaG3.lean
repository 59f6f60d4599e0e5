/- The closures of Put, Drop, Get and List: what each does to the store. -/
import Derived.Test.YtbedfilammjlpaaG1
import Derived.Test.YtbedfilammjlpaaG2
import Derived.Deep.RegionHeld3
import Derived.WalkLawsBesides
namespace Go.Proofs.Ytbedfilammjlpaa.P
open Go.RowKit Go.Proofs.YtbedfilammjlpaaW.PrintWords Go.Proofs.YtbedfilammjlpaaW.PrintMore Go.Maps Go.WideMaps
set_option linter.unusedVariables false
theorem keep_cell {W w3 : World} (hb : Below W.heap.size W w3) {p : Addr} {v : Value} (h : W.cell? p = some v) : w3.cell? p = some v := (hb.cell (World.block_lt_of_cell? W _ h)).trans h
theorem drawn_step {w w' : World} (h : Drawn0 w w') (S : Nat → Prop) : Stp S w w' := Stp.of_below h.below S
section
variable {w : World} {S : Nat → Prop} {g m N : Nat} {st : FS}
theorem putE_named {l : Obs} {s : ByteArray} (h : named s = false) : putE l s = 1 := by unfold putE; rw [h]; rfl
theorem put1_unnamed (h : FarP w S g m N st) (pf ps pb : Nat) (s : ByteArray) (hs : s.size ≤ maxLen)
    (cf : w.cell? ⟨pf, 0, none⟩ = some (.pointer (some ⟨g, 0, none⟩))) (cs : w.cell? ⟨ps, 0, none⟩ = some (.string s)) (hN : named s = false) :
    Calls Try.prog 38 #[.pointer (some ⟨pf, 0, none⟩), .pointer (some ⟨ps, 0, none⟩), .pointer (some ⟨pb, 0, none⟩)] w fun e w' => e = .returned (.int .i64 1) ∧ Drawn0 w w' := by
  obtain ⟨D, v, _, _, _, hlook⟩ := look_one h s hs
  obtain ⟨A0, c0, hb, _, _⟩ := h.cell
  have c1 : w.cell? ⟨g, 0, none⟩ = some (.map (some m)) := blk_cell hb 0
  generalize (findO st.l s).isSome = hd at hlook
  clear hb h
  go_enter Try.func38, Try.ntmps38
  go_wp2
  go_quiet (fail)
  go_wp2_with (go_at_call 39; (with_reducible refine (dNamed_calls s hs _).mono ?_); rw [hN]; rintro _ _ ⟨rfl, ⟨j2, rfl⟩⟩)
  go_ret
  exact ⟨rfl, ⟨_, rfl⟩⟩
theorem put1_have (h : FarP w S g m N st) (pf ps pb : Nat) (s : ByteArray) (hs : s.size ≤ maxLen) (A : Option Addr) (c len : Nat) (hlen : len ≤ 1048576)
    (cf : w.cell? ⟨pf, 0, none⟩ = some (.pointer (some ⟨g, 0, none⟩))) (cs : w.cell? ⟨ps, 0, none⟩ = some (.string s)) (cb : w.cell? ⟨pb, 0, none⟩ = some (.slice A len c)) (hN : named s = true) (hh : (findO st.l s).isSome = true) :
    Calls Try.prog 38 #[.pointer (some ⟨pf, 0, none⟩), .pointer (some ⟨ps, 0, none⟩), .pointer (some ⟨pb, 0, none⟩)] w fun e w' => e = .returned (.int .i64 3) ∧ Drawn0 w w' := by
  obtain ⟨D, v, _, _, _, hlook⟩ := look_one h s hs
  obtain ⟨A0, c0, hb, _, _⟩ := h.cell
  have c1 : w.cell? ⟨g, 0, none⟩ = some (.map (some m)) := blk_cell hb 0
  rw [hh] at hlook
  clear hb h hh
  go_enter Try.func38, Try.ntmps38
  go_wp2
  go_quiet (fail)
  go_wp2_with (go_at_call 39; (with_reducible refine (dNamed_calls s hs _).mono ?_); rw [hN]; rintro _ _ ⟨rfl, ⟨j2, rfl⟩⟩)
  go_ret
  exact ⟨rfl, ⟨_, rfl⟩⟩
/-- The store and the new bytes, at a world that has but drawn or grown. -/
structure PutS (w : World) (S : Nat → Prop) (g m N : Nat) (st : FS) (A : Option Addr) (bs : List Int) (w' : World) : Prop where
  st : FarP w' S g m N st
  rd : Kd.C (Kd.int .u8) w' A bs.length bs
  bel : Below w.heap.size w w'
theorem PutS.step {w1 w2 : World} {A : Option Addr} {bs : List Int} (hb : Below w1.heap.size w1 w2) (h : PutS w S g m N st A bs w1) : PutS w S g m N st A bs w2 :=
  ⟨h.st.below hb, Kd.C_below h.rd hb, h.bel.trans (hb.mono h.bel.size)⟩
theorem putS_at {A : Option Addr} {bs : List Int} (h : FarP w S g m N st) (hr : Kd.C (Kd.int .u8) w A bs.length bs) (j : Nat) : PutS w S g m N st A bs (w.drewN j) := by
  have hb : Below w.heap.size w (w.drewN j) := ⟨rfl, rfl, rfl, Nat.le_refl _, fun _ _ => rfl⟩
  exact ⟨h.same rfl, Kd.C_below hr hb, hb⟩
theorem keep_turn {w w' : World} (h : FarP w S g m N st) (ht : Stp (fun k => k = m) w w') {p : Addr} {v : Value} (hc : w.cell? p = some v) : w'.cell? p = some v := ht.cell hc (h.cell_ne hc)
set_option maxRecDepth 100000 in
theorem put1_new (h : FarP w S g m N st) (pf ps pb : Nat) (s : ByteArray) (hs : s.size ≤ maxLen) (A : Option Addr) (c : Nat) (bs : List Int) (hlen : bs.length ≤ 1048576) (hbs : Bts bs) (hn : N < maxLen)
    (cf : w.cell? ⟨pf, 0, none⟩ = some (.pointer (some ⟨g, 0, none⟩))) (cs : w.cell? ⟨ps, 0, none⟩ = some (.string s)) (cb : w.cell? ⟨pb, 0, none⟩ = some (.slice A bs.length c)) (hr : Kd.C (Kd.int .u8) w A bs.length bs) (hN : named s = true) (hh : findO st.l s = none) :
    Calls Try.prog 38 #[.pointer (some ⟨pf, 0, none⟩), .pointer (some ⟨ps, 0, none⟩), .pointer (some ⟨pb, 0, none⟩)] w fun e w' => e = .returned (.int .i64 0) ∧ FarP w' S g m (N + 1) (st.put s (strOfNums bs)) ∧ Stp (fun k => k = m) w w' := by
  have hlook := h.look_none s hs hh
  have HS := Aside0.mk h
  have HR := Aside0.mk hr
  have HH := Aside0.mk hh
  obtain ⟨A0, c0, hb, _, _⟩ := h.cell
  have c1 : w.cell? ⟨g, 0, none⟩ = some (.map (some m)) := blk_cell hb 0
  clear hb h hr hh
  go_enter Try.func38, Try.ntmps38
  go_wp2
  go_quiet (fail)
  clear hlook
  go_wp2_with (go_at_call 39; (with_reducible refine (dNamed_calls s hs _).mono ?_); rw [hN]; rintro _ _ ⟨rfl, ⟨j2, rfl⟩⟩)
  go_region_held3 (fun w' => w'.cell? ⟨pf, 0, none⟩ = some (.pointer (some ⟨g, 0, none⟩)) ∧ w'.cell? ⟨ps, 0, none⟩ = some (.string s) ∧ w'.cell? ⟨pb, 0, none⟩ = some (.slice A bs.length c) ∧ w'.cell? ⟨g, 0, none⟩ = some (.map (some m)))
    (first | exact ⟨cf, cs, cb, c1⟩ | exact ⟨keep_cell hbel cf, keep_cell hbel cs, keep_cell hbel cb, keep_cell hbel c1⟩ | exact ⟨keep_turn HP.out.st hturn (keep_cell hbel cf), keep_turn HP.out.st hturn (keep_cell hbel cs), keep_turn HP.out.st hturn (keep_cell hbel cb), keep_turn HP.out.st hturn (keep_cell hbel c1)⟩ | go_keep)
    (first | (go_at_call 40; refine (cloneB_calls A c bs _ (putS_at HS.out HR.out _).rd hlen).mono ?_; rintro _ w1 ⟨v1, rfl, hv1, hbel⟩; obtain ⟨A1, c1', rfl, hc1, hl1⟩ := Lives.new hv1 HS.out.bd; have HP := Aside0.mk (PutS.step hbel (putS_at HS.out HR.out _)); obtain ⟨w2, hrun, hown2, hturn⟩ := HP.out.st.store hn s hs HH.out hl1 hc1 hlen hbs; have HO := Aside0.mk hown2; clear hown2; have HL := Aside0.mk hl1; clear hl1))
  go_wp2
  go_ret
  exact ⟨rfl, HO.out, (Stp.of_below HP.out.bel _).trans hturn⟩
theorem FarP.drawn {w' : World} (h : FarP w S g m N st) (k : Drawn0 w w') : FarP w' S g m N st := h.below k.below
/-- The closure of Put. -/
theorem put1_calls (h : FarP w S g m N st) (pf ps pb : Nat) (s : ByteArray) (hs : s.size ≤ maxLen) (A : Option Addr) (c : Nat) (bs : List Int) (hlen : bs.length ≤ 1048576) (hbs : Bts bs) (hn : N < maxLen)
    (cf : w.cell? ⟨pf, 0, none⟩ = some (.pointer (some ⟨g, 0, none⟩))) (cs : w.cell? ⟨ps, 0, none⟩ = some (.string s)) (cb : w.cell? ⟨pb, 0, none⟩ = some (.slice A bs.length c)) (hr : Kd.C (Kd.int .u8) w A bs.length bs) :
    Calls Try.prog 38 #[.pointer (some ⟨pf, 0, none⟩), .pointer (some ⟨ps, 0, none⟩), .pointer (some ⟨pb, 0, none⟩)] w fun e w' => e = .returned (.int .i64 (putE st.l s)) ∧ FarP w' S g m (N + 1) (if putE st.l s = 0 then st.put s (strOfNums bs) else st) ∧ Stp (fun k => k = m) w w' := by
  cases hN : named s with
  | false =>
    refine (put1_unnamed h pf ps pb s hs cf cs hN).mono fun e w' he => ?_
    obtain ⟨rfl, hd⟩ := he
    rw [putE_named hN, if_neg (by decide)]
    exact ⟨rfl, (h.drawn hd).more (Nat.le_succ _), drawn_step hd _⟩
  | true =>
    cases hh : findO st.l s with
    | none =>
      have e0 : putE st.l s = 0 := by unfold putE; rw [hN, hh]; rfl
      rw [e0, if_pos rfl]
      exact put1_new h pf ps pb s hs A c bs hlen hbs hn cf cs cb hr hN hh
    | some d =>
      have e3 : putE st.l s = 3 := by unfold putE; rw [hN, hh]; rfl
      rw [e3, if_neg (by decide)]
      refine (put1_have h pf ps pb s hs A c bs.length hlen cf cs cb hN (by rw [hh]; rfl)).mono fun e w' he => ?_
      obtain ⟨rfl, hd⟩ := he
      exact ⟨rfl, (h.drawn hd).more (Nat.le_succ _), drawn_step hd _⟩
theorem drop1_none (h : FarP w S g m N st) (pf ps : Nat) (s : ByteArray) (hs : s.size ≤ maxLen)
    (cf : w.cell? ⟨pf, 0, none⟩ = some (.pointer (some ⟨g, 0, none⟩))) (cs : w.cell? ⟨ps, 0, none⟩ = some (.string s)) (hh : findO st.l s = none) :
    Calls Try.prog 42 #[.pointer (some ⟨pf, 0, none⟩), .pointer (some ⟨ps, 0, none⟩)] w fun e w' => e = .returned (.int .i64 2) ∧ Drawn0 w w' := by
  have hlook := h.look_none s hs hh
  obtain ⟨A0, c0, hb, _, _⟩ := h.cell
  have c1 : w.cell? ⟨g, 0, none⟩ = some (.map (some m)) := blk_cell hb 0
  clear hb h hh
  go_enter Try.func42, Try.ntmps42
  go_wp2
  go_quiet (fail)
  go_wp2
  go_ret
  exact ⟨rfl, ⟨_, rfl⟩⟩
set_option maxRecDepth 100000 in
theorem drop1_some (h : FarP w S g m N st) (pf ps : Nat) (s : ByteArray) (hs : s.size ≤ maxLen)
    (cf : w.cell? ⟨pf, 0, none⟩ = some (.pointer (some ⟨g, 0, none⟩))) (cs : w.cell? ⟨ps, 0, none⟩ = some (.string s)) {d : ByteArray} (hh : findO st.l s = some d) :
    Calls Try.prog 42 #[.pointer (some ⟨pf, 0, none⟩), .pointer (some ⟨ps, 0, none⟩)] w fun e w' => e = .returned (.int .i64 0) ∧ FarP w' S g m N (st.del s) ∧ Stp (fun k => k = m) w w' := by
  obtain ⟨A1, xs, c1', _, _, _, _, _, hlook⟩ := h.look_some s hs hh
  have HS := Aside0.mk h
  obtain ⟨A0, c0, hb, _, _⟩ := h.cell
  have c1 : w.cell? ⟨g, 0, none⟩ = some (.map (some m)) := blk_cell hb 0
  clear hb h hh
  go_enter Try.func42, Try.ntmps42
  go_wp2
  go_quiet (fail)
  clear hlook
  go_wp2_with fail
  obtain ⟨w2, hrun, hF, ht⟩ := (HS.out.drewN (nq + 1)).delete s hs 0
  have HF := Aside0.mk hF
  have HT := Aside0.mk ht
  clear hF ht
  go_region_held3 (fun w' => w'.cell? ⟨pf, 0, none⟩ = some (.pointer (some ⟨g, 0, none⟩)) ∧ w'.cell? ⟨ps, 0, none⟩ = some (.string s) ∧ w'.cell? ⟨g, 0, none⟩ = some (.map (some m)))
    (first | exact ⟨cf, cs, c1⟩ | exact ⟨keep_turn (HS.out.drewN (nq + 1)) HT.out cf, keep_turn (HS.out.drewN (nq + 1)) HT.out cs, keep_turn (HS.out.drewN (nq + 1)) HT.out c1⟩ | go_keep)
    (first | fail)
  go_wp2
  go_ret
  exact ⟨rfl, HF.out, ((Stp.refl _ w).drewN (nq + 1)).trans HT.out⟩
/-- The closure of Drop. -/
theorem drop1_calls (h : FarP w S g m N st) (pf ps : Nat) (s : ByteArray) (hs : s.size ≤ maxLen)
    (cf : w.cell? ⟨pf, 0, none⟩ = some (.pointer (some ⟨g, 0, none⟩))) (cs : w.cell? ⟨ps, 0, none⟩ = some (.string s)) :
    Calls Try.prog 42 #[.pointer (some ⟨pf, 0, none⟩), .pointer (some ⟨ps, 0, none⟩)] w fun e w' => e = .returned (.int .i64 (dropE st.l s)) ∧ FarP w' S g m N (if dropE st.l s = 0 then st.del s else st) ∧ Stp (fun k => k = m) w w' := by
  cases hh : findO st.l s with
  | none =>
    have e2 : dropE st.l s = 2 := by unfold dropE; rw [hh]; rfl
    rw [e2, if_neg (by decide)]
    refine (drop1_none h pf ps s hs cf cs hh).mono fun e w' he => ?_
    obtain ⟨rfl, hd⟩ := he
    exact ⟨rfl, h.drawn hd, drawn_step hd _⟩
  | some d =>
    have e0 : dropE st.l s = 0 := by unfold dropE; rw [hh]; rfl
    rw [e0, if_pos rfl]
    exact drop1_some h pf ps s hs cf cs hh
/-- The closure of List. -/
theorem list1_calls (w : World) : Calls Try.prog 55 #[] w fun e w' => e = .returned (.int .i64 0) ∧ w = w' := by
  go_enter Try.func55, Try.ntmps55
  go_wp2
  go_ret
  exact ⟨rfl, rfl⟩
theorem get1_none (h : FarP w S g m N st) (pf ps pa pn po : Nat) (s : ByteArray) (hs : s.size ≤ maxLen)
    (cf : w.cell? ⟨pf, 0, none⟩ = some (.pointer (some ⟨g, 0, none⟩))) (cs : w.cell? ⟨ps, 0, none⟩ = some (.string s)) (hh : findO st.l s = none) :
    Calls Try.prog 44 #[.pointer (some ⟨pf, 0, none⟩), .pointer (some ⟨ps, 0, none⟩), .pointer (some ⟨pa, 0, none⟩), .pointer (some ⟨pn, 0, none⟩), .pointer (some ⟨po, 0, none⟩)] w fun e w' => e = .returned (.int .i64 2) ∧ Drawn0 w w' := by
  have hlook := h.look_none s hs hh
  obtain ⟨A0, c0, hb, _, _⟩ := h.cell
  have c1 : w.cell? ⟨g, 0, none⟩ = some (.map (some m)) := blk_cell hb 0
  clear hb h hh
  go_enter Try.func44, Try.ntmps44
  go_wp2
  go_quiet (fail)
  go_wp2
  go_ret
  exact ⟨rfl, ⟨_, rfl⟩⟩
theorem get1_arg (h : FarP w S g m N st) (pf ps pa pn po : Nat) (s : ByteArray) (hs : s.size ≤ maxLen) (at_ n : Int)
    (cf : w.cell? ⟨pf, 0, none⟩ = some (.pointer (some ⟨g, 0, none⟩))) (cs : w.cell? ⟨ps, 0, none⟩ = some (.string s)) (ca : w.cell? ⟨pa, 0, none⟩ = some (.int .i64 at_)) (cn : w.cell? ⟨pn, 0, none⟩ = some (.int .i64 n)) {d : ByteArray} (hh : findO st.l s = some d) (hbad : at_ < 0 ∨ (d.size : Int) < at_ ∨ n < 0) :
    Calls Try.prog 44 #[.pointer (some ⟨pf, 0, none⟩), .pointer (some ⟨ps, 0, none⟩), .pointer (some ⟨pa, 0, none⟩), .pointer (some ⟨pn, 0, none⟩), .pointer (some ⟨po, 0, none⟩)] w fun e w' => e = .returned (.int .i64 1) ∧ Drawn0 w w' := by
  obtain ⟨A1, xs, c1', h1, h2, _, _, he, hlook⟩ := h.look_some s hs hh
  have hsz : d.size = xs.length := by rw [← he, size_strOfNums]
  rw [hsz] at hbad
  obtain ⟨A0, c0, hb, _, _⟩ := h.cell
  have c1 : w.cell? ⟨g, 0, none⟩ = some (.map (some m)) := blk_cell hb 0
  clear hb h hh he hsz
  by_cases b1 : at_ < 0
  · clear hbad
    go_enter Try.func44, Try.ntmps44
    go_wp2
    go_quiet (fail)
    go_wp2
    go_ret
    exact ⟨rfl, ⟨_, rfl⟩⟩
  · by_cases b2 : (xs.length : Int) < at_
    · clear hbad
      go_enter Try.func44, Try.ntmps44
      go_wp2
      go_quiet (fail)
      go_wp2
      go_ret
      exact ⟨rfl, ⟨_, rfl⟩⟩
    · have b3 : n < 0 := by omega
      clear hbad
      go_enter Try.func44, Try.ntmps44
      go_wp2
      go_quiet (fail)
      go_wp2
      go_ret
      exact ⟨rfl, ⟨_, rfl⟩⟩
end
end Go.Proofs.Ytbedfilammjlpaa.P
