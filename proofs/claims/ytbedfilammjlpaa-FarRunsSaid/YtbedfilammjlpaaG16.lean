/- The document's far store: Put. -/
import Derived.Test.YtbedfilammjlpaaG15
namespace Go.Proofs.Ytbedfilammjlpaa.P
open Go.RowKit Go.Proofs.YtbedfilammjlpaaW.PrintWords Go.Proofs.YtbedfilammjlpaaW.PrintMore Go.Maps Go.WideMaps
set_option linter.unusedVariables false
/-- One round of Put's loop. -/
def insStep (s d : ByteArray) (q : Obs × Bool) (p : ByteArray × ByteArray) : Obs × Bool := if q.2 = false ∧ low s p.1 then (q.1 ++ [(s, d)] ++ [p], true) else (q.1 ++ [p], q.2)
def insTo (l : Obs) (s d : ByteArray) : Obs × Bool := l.foldl (insStep s d) ([], false)
def insEnd (s d : ByteArray) (q : Obs × Bool) : Obs := if q.2 then q.1 else q.1 ++ [(s, d)]
theorem insTo_true (s d : ByteArray) : ∀ (l acc : Obs), l.foldl (insStep s d) (acc, true) = (acc ++ l, true)
  | [], acc => by simp
  | p :: l, acc => by
    rw [List.foldl_cons]
    have : insStep s d (acc, true) p = (acc ++ [p], true) := by unfold insStep; rw [if_neg (by simp)]
    rw [this, insTo_true s d l]
    simp
theorem insTo_false (s d : ByteArray) : ∀ (l acc : Obs), insEnd s d (l.foldl (insStep s d) (acc, false)) = acc ++ insO l s d
  | [], acc => by simp [insEnd, insO]
  | p :: l, acc => by
    rw [List.foldl_cons, insO]
    by_cases h : low s p.1
    · have : insStep s d (acc, false) p = (acc ++ [(s, d)] ++ [p], true) := by unfold insStep; rw [if_pos ⟨rfl, h⟩]
      rw [this, insTo_true, if_pos h]
      simp [insEnd]
    · have : insStep s d (acc, false) p = (acc ++ [p], false) := by unfold insStep; rw [if_neg (fun h2 => h h2.2)]
      rw [this, insTo_false s d l, if_neg h]
      simp
theorem insTo_end (l : Obs) (s d : ByteArray) : insEnd s d (insTo l s d) = insO l s d := by
  unfold insTo
  rw [insTo_false]
  simp
theorem insTo_snoc (l : Obs) (s d : ByteArray) (k : Nat) (hk : k < l.length) : insTo (l.take (k + 1)) s d = insStep s d (insTo (l.take k) s d) l[k] := by
  unfold insTo
  rw [take_snoc l k hk, List.foldl_append]
  rfl
theorem insTo_len (s d : ByteArray) : ∀ (l : Obs) (q : Obs × Bool), (l.foldl (insStep s d) q).1.length ≤ q.1.length + 2 * l.length
  | [], q => by simp
  | p :: l, q => by
    rw [List.foldl_cons]
    have h1 := insTo_len s d l (insStep s d q p)
    have h2 : (insStep s d q p).1.length ≤ q.1.length + 2 := by unfold insStep; split <;> simp
    rw [List.length_cons]
    omega
section
variable {w w' : World} {S S2 : Nat → Prop} {h N : Nat} {st : FS}
set_option maxRecDepth 100000 in
theorem refPut_unnamed (r : RefP w S h N st) (s : ByteArray) (hs : s.size ≤ maxLen) (v : Value) (hN : named s = false) : Calls Try.prog 50 #[.pointer (some ⟨h, 0, none⟩), .string s, v] w fun e w' => e = .returned (.int .i64 (toldF st.out 1)) ∧ RefP w' S h N st.took ∧ Stp (fun k => k = h) w w' := by
  have HR := Aside0.mk r
  clear r
  go_enter Try.func50, Try.ntmps50
  go_wp2_with fail
  refine (take_calls HR.out).mono ?_
  rintro _ w1 ⟨rfl, hr1, hs1⟩
  have HR1 := Aside0.mk hr1
  have HS1 := Aside0.mk hs1
  clear hr1 hs1
  go_wp2_with fail
  refine (rNamed_calls s hs _).mono ?_
  rw [hN]
  rintro _ w2 ⟨rfl, hd⟩
  have HR2 := Aside0.mk (HR1.out.drawn hd)
  have HS2 := Aside0.mk (HS1.out.drawn hd)
  clear hd
  go_wp2_with fail
  refine (told_calls _ 1 _).mono ?_
  rintro _ w3 ⟨rfl, hd⟩
  have HD := Aside0.mk hd
  clear hd
  go_wp2_with fail
  go_ret
  exact ⟨rfl, HR2.out.drawn HD.out, HS2.out.drawn HD.out⟩
set_option maxRecDepth 100000 in
theorem refPut_have (r : RefP w S h N st) (s : ByteArray) (hs : s.size ≤ maxLen) (A : Option Addr) (c len : Nat) (hlen : len ≤ 1048576) (hN : named s = true) {d : ByteArray} (hf : findO st.l s = some d) : Calls Try.prog 50 #[.pointer (some ⟨h, 0, none⟩), .string s, .slice A len c] w fun e w' => e = .returned (.int .i64 (toldF st.out 3)) ∧ RefP w' S h N st.took ∧ Stp (fun k => k = h) w w' := by
  have HR := Aside0.mk r
  obtain ⟨i, hi, hil, he, _, _⟩ := idxO_some hf
  have HI : Aside0 (idxI st.took.l s = (i : Int)) := ⟨by unfold idxI; rw [FS.took_l, hi]⟩
  clear r hi he hf
  go_enter Try.func50, Try.ntmps50
  go_wp2_with fail
  refine (take_calls HR.out).mono ?_
  rintro _ w1 ⟨rfl, hr1, hs1⟩
  have HR1 := Aside0.mk hr1
  have HS1 := Aside0.mk hs1
  clear hr1 hs1
  go_wp2_with fail
  refine (rNamed_calls s hs _).mono ?_
  rw [hN]
  rintro _ w2 ⟨rfl, hd⟩
  have HR2 := Aside0.mk (HR1.out.drawn hd)
  have HS2 := Aside0.mk (HS1.out.drawn hd)
  clear hd
  go_wp2_with fail
  refine (at_calls HR2.out s).mono ?_
  rw [HI.out]
  rintro _ _ ⟨rfl, rfl⟩
  go_wp2_with fail
  refine (told_calls _ 3 _).mono ?_
  rintro _ w3 ⟨rfl, hd⟩
  have HD := Aside0.mk hd
  clear hd
  go_wp2_with fail
  go_ret
  exact ⟨rfl, HR2.out.drawn HD.out, HS2.out.drawn HD.out⟩
set_option maxRecDepth 100000 in
theorem refPut_fails (r : RefP w S h N st) (s : ByteArray) (hs : s.size ≤ maxLen) (A : Option Addr) (c len : Nat) (hlen : len ≤ 1048576) (hN : named s = true) (hf : findO st.l s = none) (ho : st.out = 1) : Calls Try.prog 50 #[.pointer (some ⟨h, 0, none⟩), .string s, .slice A len c] w fun e w' => e = .returned (.int .i64 8) ∧ RefP w' S h N st.took ∧ Stp (fun k => k = h) w w' := by
  have HR := Aside0.mk r
  have HI : Aside0 (idxI st.took.l s = -1) := ⟨by unfold idxI; rw [FS.took_l, idxO_none hf]⟩
  have HO := Aside0.mk ho
  clear r hf ho
  go_enter Try.func50, Try.ntmps50
  go_wp2_with fail
  refine (take_calls HR.out).mono ?_
  rw [HO.out]
  rintro _ w1 ⟨rfl, hr1, hs1⟩
  have HR1 := Aside0.mk hr1
  have HS1 := Aside0.mk hs1
  clear hr1 hs1
  go_wp2_with fail
  refine (rNamed_calls s hs _).mono ?_
  rw [hN]
  rintro _ w2 ⟨rfl, hd⟩
  have HR2 := Aside0.mk (HR1.out.drawn hd)
  have HS2 := Aside0.mk (HS1.out.drawn hd)
  clear hd
  go_wp2_with fail
  refine (at_calls HR2.out s).mono ?_
  rw [HI.out]
  rintro _ _ ⟨rfl, rfl⟩
  go_wp2_with fail
  refine (told_calls 1 0 _).mono ?_
  rintro _ w3 ⟨rfl, hd⟩
  have HD := Aside0.mk hd
  clear hd
  go_wp2_with fail
  go_ret
  exact ⟨by rw [toldF_one rfl]; rfl, HR2.out.drawn HD.out, HS2.out.drawn HD.out⟩
end
end Go.Proofs.Ytbedfilammjlpaa.P
