/- iceboxref17.Trim: the document's answer: its contract by hand, in the print's form. Condition: shorter than 2932031007402. -/
import Derived.Test.YtanlecnnfoapeaaHbare
namespace Go.Proofs.Ytanlecnnfoapeaa.P
open Go.RowKit Go.Proofs.YtanlecnnfoapeaaW.PrintWords Go.Proofs.YtanlecnnfoapeaaW.PrintLast Go.Proofs.YtanlecnnfoapeaaW.PrintMore
set_option linter.unusedVariables false
def cutOf (out : List S34) : List S34 := out.take (bareOf out)
def trimR (l : List S34) (snaps : List Int) (bottom : Bool) : Nat → List S34
  | 0 => []
  | i + 1 => (if (bottom && (decide (0 < i) && newUser l i)) = true then cutOf (trimR l snaps bottom i) else trimR l snaps bottom i) ++ (if seenB l i snaps = true then [rd_T34 l (i : Int)] else [])
def iceboxref17_Trim.f (l0 : List S34) (l1 : List Int) (a2 : Bool) : Option (List S34) := if l0.length < 2932031007402 then some (if a2 = true then cutOf (trimR l0 l1 a2 l0.length) else trimR l0 l1 a2 l0.length) else none
theorem cutOf_le (l : List S34) : (cutOf l).length ≤ l.length := by simp [cutOf]; omega
theorem trimR_le (l : List S34) (snaps : List Int) (b : Bool) : ∀ i, (trimR l snaps b i).length ≤ i
  | 0 => Nat.le_refl _
  | i + 1 => by
    have := trimR_le l snaps b i
    have := cutOf_le (trimR l snaps b i)
    unfold trimR
    rw [List.length_append]
    split <;> split <;> simp <;> omega
set_option maxHeartbeats 800000 in
theorem iceboxref17_Trim.calls (A0 : Option Addr) (c0 : Nat) (l0 : List S34) (A1 : Option Addr) (c1 : Nat) (l1 : List Int) (a2 : Bool) (r : List S34) (w : World) (hr0 : Kd.C k34 w A0 l0.length l0) (hc0 : l0.length ≤ c0) (hr1 : Kd.C (Kd.int .i64) w A1 l1.length l1) (hc1 : l1.length ≤ c1) (h : iceboxref17_Trim.f l0 l1 a2 = some r) :
    Calls Try.prog 19 #[.slice A0 l0.length c0, .slice A1 l1.length c1, .bool a2] w fun e w' => ∃ v0_ : Value, e = .returned (v0_) ∧ Kd.R k34 34 w' w.heap.size (fun _ => True) v0_ r ∧ Below w.heap.size w w' := by
  unfold iceboxref17_Trim.f at h
  split at h
  case isFalse => cases h
  case isTrue hn =>
  injection h with h
  have hu34 := Try.underlying34
  have hu32 := Try.underlying32
  have hm0 : l0.length ≤ 9223372036854775807 := hr0.2.1
  have hm1 : l1.length ≤ 9223372036854775807 := hr1.2.1
  have HR0 := Aside0.mk hr0
  have HR1 := Aside0.mk hr1
  have HC1 := Aside0.mk hc1
  have HC0 := Aside0.mk hc0
  have H := Aside0.mk h
  clear hr0 hr1 h hc0 hc1
  go_enter Try.func19, Try.ntmps19
  go_wp2
  go_loopw [7, 8] (fun v i wr => ∃ k : Nat, k ≤ l0.length ∧ i = .int .i64 k ∧ Aside0 (Kd.R k34 34 wr w.heap.size (fun _ => True) v (trimR l0 l1 a2 k)) ∧ Aside0 (Below w.heap.size w wr)) (fun _ i _ => l0.length - (intOf i).toNat)
  case atStart => exact ⟨0, Nat.zero_le _, rfl, ⟨Kd.R_nil _ _ _ _ _⟩, ⟨Below.refl _ _⟩⟩
  case round =>
    obtain ⟨k, hk, rfl, HV, HW⟩ := hrel
    by_cases hlt : k < l0.length
    · obtain ⟨ad, rfl, h0, h1, h2, h3⟩ := at_T34 (Kd.C_below HR0.out HW.out) (k : Int) (by omega) (by omega)
      simp only [Int.toNat_natCast] at h0 h1 h2 h3
      have hi0 : (0 : Int) ≤ (k : Int) := by omega
      have hi1 : (k : Int) < (l0.length : Int) := by omega
      obtain ⟨A, c, rfl, hvc, hvr⟩ := Kd.R_reads HV.out
      clear hvc hvr
      obtain ⟨out, hout⟩ : ∃ out, out = (if (a2 && (decide (0 < k) && newUser l0 k)) = true then cutOf (trimR l0 l1 a2 k) else trimR l0 l1 a2 k) := ⟨_, rfl⟩
      have HS : Aside0 (trimR l0 l1 a2 (k + 1) = out ++ (if seenB l0 k l1 = true then [rd_T34 l0 (k : Int)] else [])) := ⟨by rw [hout]; rfl⟩
      have HF := Aside0.mk (seen_f l0 k l1 hlt hm0 hm1)
      have hout1 : out.length ≤ k := by
        have := trimR_le l0 l1 a2 k
        have := cutOf_le (trimR l0 l1 a2 k)
        rw [hout]
        split <;> omega
      by_cases hcb : (a2 && (decide (0 < k) && newUser l0 k)) = true
      case' pos =>
        rw [if_pos hcb] at hout
        have ha2 : a2 = true := by cases a2 <;> simp_all
        have hk0 : 0 < k := by simp [ha2] at hcb; exact hcb.1
        subst ha2
        have hd1 : decide ((0 : Int) < (k : Int)) = true := decide_eq_true (by omega)
        have hd2 : decide (0 < k) = true := decide_eq_true hk0
        have hu : ¬ (rd_T34 l0 (k : Int)).f0.f0.toList = (rd_T34 l0 ((k - 1 : Nat) : Int)).f0.f0.toList := by
          have hn0 : newUser l0 k = true := by simp [hk0] at hcb; exact hcb
          unfold newUser at hn0
          have : (k == 0) = false := by simp; omega
          rw [this] at hn0
          intro he
          rw [he] at hn0
          simp at hn0
        have hs1 : ((rd_T34 l0 (k : Int)).f0.f0.toList == (rd_T34 l0 ((k - 1 : Nat) : Int)).f0.f0.toList) = false := beq_eq_false_iff_ne.mpr hu
        have hs2 : ((rd_T34 l0 (k : Int)).f0.f0.toList != (rd_T34 l0 ((k - 1 : Nat) : Int)).f0.f0.toList) = true := bne_iff_ne.mpr hu
        obtain ⟨ad', e', g0, g1, g2, g3⟩ := at_T34 (Kd.C_below HR0.out HW.out) ((k - 1 : Nat) : Int) (by omega) (by omega)
        obtain rfl : ad = ad' := by injection e'
        simp only [Int.toNat_natCast] at g0 g1 g2 g3
        have hw1 : ((k : Int) - 1).toNat = k - 1 := by omega
        have hw2 : (0 : Int) ≤ (k : Int) - 1 := by omega
        have hw3 : (k : Int) - 1 < (l0.length : Int) := by omega
        have hw4 : IntKind.i64.wrap ((k : Int) - 1) = (k : Int) - 1 := IntWalk.i64_in _ (by omega)
        clear hcb hu
        go_wp2
        go_quiet (fail)
        clear hs1 hs2 hw1 hw2 hw3 hw4 g0 g1 g2 g3 hd1 hd2 hk0
        have HW3 := Aside0.mk (pw_below_drewN HW.out nq)
        have HV3 := Aside0.mk (Kd.R_below HV.out (pw_below_drewN (Below.refl _ _) nq))
        clear HV HW h0 h1 h2 h3
        generalize wr.drewN nq = w3 at HW3 HV3 ⊢
        clear nq
        have HO := Aside0.mk (Kd.R_take HV3.out (bareOf_le _))
        rw [show (trimR l0 l1 true k).take (bareOf (trimR l0 l1 true k)) = out from hout.symm] at HO
        clear hout
        go_wp2_with (go_at_call 26; (with_reducible refine (bare_calls A c (trimR l0 l1 true k) _ (Kd.R_reads' HV3.out).2.2 (Kd.R_reads' HV3.out).2.1).mono ?_); rintro en w4 ⟨rfl, rfl⟩)
        clear HV3
      case' neg =>
        rw [if_neg hcb] at hout
        by_cases hk0 : 0 < k
        case' neg =>
          have hd1 : decide ((0 : Int) < (k : Int)) = false := decide_eq_false (by omega)
          have hd2 : decide (0 < k) = false := decide_eq_false hk0
          clear hcb hk0
          go_wp2
          go_quiet (fail)
          clear hd1 hd2
          have HW3 := Aside0.mk (pw_below_drewN HW.out nq)
          have HO := Aside0.mk (Kd.R_below HV.out (pw_below_drewN (Below.refl _ _) nq))
          rw [← hout] at HO ⊢
          clear HV HW h0 h1 h2 h3 hout
          generalize wr.drewN nq = w3 at HW3 HO ⊢
          clear nq
        case' pos =>
          have hd1 : decide ((0 : Int) < (k : Int)) = true := decide_eq_true (by omega)
          have hd2 : decide (0 < k) = true := decide_eq_true hk0
          cases a2
          case' false =>
            clear hcb hk0
            go_wp2
            go_quiet (fail)
            clear hd1 hd2
            have HW3 := Aside0.mk (pw_below_drewN HW.out nq)
            have HO := Aside0.mk (Kd.R_below HV.out (pw_below_drewN (Below.refl _ _) nq))
            rw [← hout] at HO ⊢
            clear HV HW h0 h1 h2 h3 hout
            generalize wr.drewN nq = w3 at HW3 HO ⊢
            clear nq
          case' true =>
            have hn0 : newUser l0 k = false := by simpa [hk0] using hcb
            have hu : (rd_T34 l0 ((k - 1 : Nat) : Int)).f0.f0.toList = (rd_T34 l0 (k : Int)).f0.f0.toList := by
              unfold newUser at hn0
              have : (k == 0) = false := by simp; omega
              rw [this] at hn0
              simpa using hn0
            have hs1 : ((rd_T34 l0 (k : Int)).f0.f0.toList == (rd_T34 l0 ((k - 1 : Nat) : Int)).f0.f0.toList) = true := beq_iff_eq.mpr hu.symm
            have hs2 : ((rd_T34 l0 (k : Int)).f0.f0.toList != (rd_T34 l0 ((k - 1 : Nat) : Int)).f0.f0.toList) = false := bne_eq_false_iff_eq.mpr hu.symm
            obtain ⟨ad', e', g0, g1, g2, g3⟩ := at_T34 (Kd.C_below HR0.out HW.out) ((k - 1 : Nat) : Int) (by omega) (by omega)
            obtain rfl : ad = ad' := by injection e'
            simp only [Int.toNat_natCast] at g0 g1 g2 g3
            have hw1 : ((k : Int) - 1).toNat = k - 1 := by omega
            have hw2 : (0 : Int) ≤ (k : Int) - 1 := by omega
            have hw3 : (k : Int) - 1 < (l0.length : Int) := by omega
            have hw4 : IntKind.i64.wrap ((k : Int) - 1) = (k : Int) - 1 := IntWalk.i64_in _ (by omega)
            clear hcb hu
            go_wp2
            go_quiet (fail)
            clear hs1 hs2 hw1 hw2 hw3 hw4 g0 g1 g2 g3 hd1 hd2 hn0 hk0
            have HW3 := Aside0.mk (pw_below_drewN HW.out nq)
            have HO := Aside0.mk (Kd.R_below HV.out (pw_below_drewN (Below.refl _ _) nq))
            rw [← hout] at HO ⊢
            clear HV HW h0 h1 h2 h3 hout
            generalize wr.drewN nq = w3 at HW3 HO ⊢
            clear nq
      all_goals
        have HSZ := Aside0.mk HW3.out.size
        obtain ⟨sb, hsb⟩ : ∃ sb, sb = seenB l0 k l1 := ⟨_, rfl⟩
        rw [← hsb] at HF HS
        clear hsb
        cases sb
        case' false =>
          go_wp2_with (go_at_call 27; (with_reducible refine (iceboxref17_seen.calls (k + l1.length + 5) _ _ l0 (k : Int) _ _ l1 false _ (Kd.C_below HR0.out HW3.out) HC0.out (Kd.C_below HR1.out HW3.out) HC1.out HF.out).mono ?_); rintro en w4 ⟨rfl, ⟨nd, rfl⟩⟩; have HW4 := Aside0.mk (pw_below_drewN HW3.out nd); have HO4 := Aside0.mk (Kd.R_below HO.out (pw_below_drewN (Below.refl _ _) nd)); clear HW3 HO; generalize w3.drewN nd = w5 at HW4 HO4 ⊢; clear nd; have HSZ := Aside0.mk HW4.out.size)
          go_roundw
          case rel => exact ⟨k + 1, by omega, by go_num, ⟨by rw [HS.out]; simp only [Bool.false_eq_true, if_false, List.append_nil]; exact HO4.out⟩, HW4⟩
          case measure => simp [intOf]; omega
        case' true =>
          go_wp2_with (first | (go_at_call 27; (with_reducible refine (iceboxref17_seen.calls (k + l1.length + 5) _ _ l0 (k : Int) _ _ l1 true _ (Kd.C_below HR0.out HW3.out) HC0.out (Kd.C_below HR1.out HW3.out) HC1.out HF.out).mono ?_); rintro en w4 ⟨rfl, ⟨nd, rfl⟩⟩; have HW4 := Aside0.mk (pw_below_drewN HW3.out nd); have HO4 := Aside0.mk (Kd.R_below HO.out (pw_below_drewN (Below.refl _ _) nd)); clear HW3 HO; generalize w3.drewN nd = w5 at HW4 HO4 ⊢; clear nd; have HSZ := Aside0.mk HW4.out.size; obtain ⟨ad', e', h0, h1, h2, h3⟩ := at_T34 (Kd.C_below HR0.out HW4.out) (k : Int) (by omega) (by omega); obtain rfl : ad = ad' := (by injection e'); simp only [Int.toNat_natCast] at h0 h1 h2 h3) | ((with_reducible refine gate_builtin (b := .append) (xs := #[.tmp 42, .tmp 47]) rfl ?_); at_builtin; refine Kd.R_append k34 (w0 := w) w.heap.size rfl (.tmp 42) (.tmp 47) 24 34 (.agg #[(.string ⟨#[]⟩), (.int .i64 0), (.int .i64 0), (.string ⟨#[]⟩)]) 48 rfl Try.underlying24 info34 rfl (by decide) (by omega) _ out (rd_T34 l0 (k : Int)) _ (fun _ => True) (fun _ => False) rfl rfl (k34_mkM _ _ _ _) (fun _ h => h.elim) (fun _ _ => trivial) HO4.out HW4.out HSZ.out (by omega) ?_; intro v1 w1 ho hb hg hat; have HO1 := Aside0.mk ho; have HB1 := Aside0.mk hb; clear ho hb hg hat))
          go_roundw
          case rel => exact ⟨k + 1, by omega, by go_num, ⟨by rw [HS.out]; simp only [if_true]; exact HO1.out⟩, HB1⟩
          case measure => simp [intOf]; omega
    · obtain rfl : k = l0.length := by omega
      obtain ⟨A, c, rfl, hvc, hvr⟩ := Kd.R_reads HV.out
      clear hvc hvr
      cases a2
      case' false =>
        have HE : Aside0 (trimR l0 l1 false l0.length = r) := ⟨by have := H.out; simpa using this⟩
        go_wp2
        go_ret
        exact ⟨_, rfl, by rw [← HE.out]; exact HV.out, HW.out⟩
      case' true =>
        have HE : Aside0 (cutOf (trimR l0 l1 true l0.length) = r) := ⟨by have := H.out; simpa using this⟩
        go_wp2_with (go_at_call 26; (with_reducible refine (bare_calls A c (trimR l0 l1 true l0.length) _ (Kd.R_reads' HV.out).2.2 (Kd.R_reads' HV.out).2.1).mono ?_); rintro en w4 ⟨rfl, rfl⟩)
        go_ret
        exact ⟨_, rfl, by rw [← HE.out]; exact Kd.R_take HV.out (bareOf_le _), HW.out⟩
end Go.Proofs.Ytanlecnnfoapeaa.P
