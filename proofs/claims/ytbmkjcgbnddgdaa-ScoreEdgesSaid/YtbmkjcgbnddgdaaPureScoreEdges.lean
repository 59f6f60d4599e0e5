/- ScoreEdges, walked: whatever the sizes and the targets, it returns true. -/
import Derived.Test.YtbmkjcgbnddgdaaHmath
import Derived.Test.YtbmkjcgbnddgdaaHedges
namespace Go.Proofs.Ytbmkjcgbnddgdaa.P
open Go.RowKit
set_option linter.unusedVariables false
theorem awake_calls (w : World) : Calls Try.prog 14 #[] w fun e w' => e = .returned (.bool true) ∧ w' = w := by
  have e1 : scoreF 3 0 = 9218868437227405312 := by decide +kernel
  have e2 : scoreF 6 4616189618054758400 = 4609434218613702656 := by decide +kernel
  have e3 : isInf 9218868437227405312 = true := by decide +kernel
  have e4 : (F64.order 4609434218613702656 4609434218613702656 == some .eq) = true := by decide +kernel
  have c1 := score_calls 3 0
  have c2 := score_calls 6 4616189618054758400
  have c3 := isInf_calls 9218868437227405312
  rw [e1] at c1
  rw [e2] at c2
  rw [e3] at c3
  clear e1 e2 e3
  go_enter Try.func14, Try.ntmps14
  go_wp2_with (first | (go_at_call 7; (with_reducible refine (c1 _).mono ?_); rintro _ _ ⟨rfl, rfl⟩) | (go_at_call 7; (with_reducible refine (c2 _).mono ?_); rintro _ _ ⟨rfl, rfl⟩) | (go_at_call 12; (with_reducible refine (c3 _).mono ?_); rintro _ _ ⟨rfl, rfl⟩))
  go_ret
  exact ⟨rfl, rfl⟩
theorem scoreF_zero {n : Int} {x : Nat} (h : n < 1) : scoreF n x = 0 := by simp [scoreF, h]
theorem scoreF_nan (n : Int) : scoreF n 9221120237041090561 = 0 := by
  have : isNaN 9221120237041090561 = true := by decide +kernel
  simp [scoreF, this]
theorem scoreF_inf (n : Int) : scoreF n 9218868437227405312 = 0 := by
  have : isInf 9218868437227405312 = true := by decide +kernel
  simp [scoreF, this]
theorem scoreF_nz {n : Int} (h : ¬ n < 1) : scoreF n 9223372036854775808 = 9218868437227405312 := by
  have h1 : isNaN 9223372036854775808 = false := by decide +kernel
  have h2 : isInf 9223372036854775808 = false := by decide +kernel
  have h3 : leZ 9223372036854775808 = true := by decide +kernel
  simp [scoreF, h, h1, h2, h3]
theorem scoreF_minf {n : Int} (h : ¬ n < 1) : scoreF n 18442240474082181120 = 9218868437227405312 := by
  have h1 : isNaN 18442240474082181120 = false := by decide +kernel
  have h2 : isInf 18442240474082181120 = false := by decide +kernel
  have h3 : leZ 18442240474082181120 = true := by decide +kernel
  simp [scoreF, h, h1, h2, h3]
theorem sign64_le {s : Nat} (h : s ≤ 9218868437227405312) : sign64 s = false := by
  have : ¬ wrap64 (s : Int) < 0 := by unfold wrap64; omega
  simp [sign64, this]
theorem not_lt {a b : Nat} (ha : a ≤ 9218868437227405312) (hb : b ≤ 9218868437227405312) (h : b ≤ a) : (F64.order a b == some .lt) = false := by
  rw [order_le ha hb]
  rcases Nat.eq_or_lt_of_le h with rfl | h
  · rw [Nat.compare_eq_eq.mpr rfl]; rfl
  · rw [Nat.compare_eq_gt.mpr h]; rfl
theorem not_gt {a b : Nat} (ha : a ≤ 9218868437227405312) (hb : b ≤ 9218868437227405312) (h : a ≤ b) : (F64.order a b == some .gt) = false := by
  rw [order_le ha hb]
  rcases Nat.eq_or_lt_of_le h with rfl | h
  · rw [Nat.compare_eq_eq.mpr rfl]; rfl
  · rw [Nat.compare_eq_lt.mpr h]; rfl
theorem edges0_calls (m : Int) (x y : Nat) (w : World) (hm : 0 ≤ m) (hm2 : m ≤ 4294967295) (hx : x < 18446744073709551616) (hy : y < 18446744073709551616) :
    Calls Try.prog 3 #[.int .u32 0, .int .u32 m, .float .f64 x, .float .f64 y] w fun e w' => e = .returned (.bool true) ∧ w' = w := by
  have cs := score_calls 0 x
  have hs0 : scoreF 0 x = 0 := scoreF_zero (by omega)
  have cu := score_calls m x
  have cz := score_calls 0 y
  have c0 := score_calls 0 x
  have cn := score_calls 0 9221120237041090561
  have ci := score_calls 0 9218868437227405312
  rw [scoreF_zero (by omega)] at c0
  rw [scoreF_nan] at cn
  rw [scoreF_inf] at ci
  have ls := scoreF_le (n := 0) hx
  have lu := scoreF_le (n := m) hx
  have lz := scoreF_le (n := 0) hy
  have su := scoreF_up (n := 0) (n' := m) hx (by omega)
  have sz := scoreF_down (n := 0) (x := x) (y := y) hx hy
  rw [hs0] at cs ls su sz
  generalize scoreF m x = u at cu lu su
  generalize scoreF 0 y = z at cz lz sz
  have ns := isNaN_calls 0
  have nu := isNaN_calls u
  have sg := signbit_calls 0
  rw [word_isNaN ls] at ns
  rw [word_isNaN lu] at nu
  rw [sign64_le ls] at sg
  have i1 := isInf_calls 9218868437227405312
  have i1e : isInf 9218868437227405312 = true := by decide +kernel
  rw [i1e] at i1
  clear i1e
  have f1 := not_lt ls (Nat.zero_le _) (Nat.zero_le _)
  have f2 := not_lt lu ls su
  have f3 : (F64.order 0 0 != some .eq) = false := by decide +kernel
  have f4 : (F64.order 0 0 == some .eq) = true := by decide +kernel
  have f5 : (F64.order x 0 == some .gt) = true → (F64.order y x == some .gt || F64.order y x == some .eq) = true → (F64.order z 0 == some .gt) = false :=
    fun a b => not_gt lz ls (sz (by simpa using a) b)
  have ca := awake_calls
  have cq := nan_calls
  have cp := inf_calls
  have cmn := minf_calls
  have cc := copysign_calls
  clear ls lu lz su sz hx hy
  cases b1 : (F64.order x 0 == some .gt)
  · clear f5
    go_enter Try.func3, Try.ntmps3
    go_wp2_with (first
      | (go_at_call 7; (with_reducible first | refine (cs _).mono ?_ | refine (cu _).mono ?_ | refine (cz _).mono ?_ | refine (c0 _).mono ?_ | refine (cn _).mono ?_ | refine (ci _).mono ?_); rintro _ _ ⟨rfl, rfl⟩)
      | (go_at_call 8; (with_reducible first | refine (ns _).mono ?_ | refine (nu _).mono ?_); rintro _ _ ⟨rfl, rfl⟩)
      | (go_at_call 9; (with_reducible refine (sg _).mono ?_); rintro _ _ ⟨rfl, rfl⟩)
      | (go_at_call 10; (with_reducible refine (cq _).mono ?_); rintro _ _ ⟨rfl, rfl⟩)
      | (go_at_call 11; (with_reducible first | refine (cp _).mono ?_ | refine (cmn _).mono ?_); rintro _ _ ⟨rfl, rfl⟩)
      | (go_at_call 12; (with_reducible refine (i1 _).mono ?_); rintro _ _ ⟨rfl, rfl⟩)
      | (go_at_call 13; (with_reducible refine (cc _).mono ?_); rintro _ _ ⟨rfl, rfl⟩)
      | (go_at_call 14; (with_reducible refine (ca _).mono ?_); rintro _ _ ⟨rfl, rfl⟩))
    go_ret
    exact ⟨rfl, rfl⟩
  · replace f5 := f5 b1
    cases b2 : (F64.order y x == some .gt || F64.order y x == some .eq)
    · clear f5
      go_enter Try.func3, Try.ntmps3
      go_wp2_with (first
        | (go_at_call 7; (with_reducible first | refine (cs _).mono ?_ | refine (cu _).mono ?_ | refine (cz _).mono ?_ | refine (c0 _).mono ?_ | refine (cn _).mono ?_ | refine (ci _).mono ?_); rintro _ _ ⟨rfl, rfl⟩)
        | (go_at_call 8; (with_reducible first | refine (ns _).mono ?_ | refine (nu _).mono ?_); rintro _ _ ⟨rfl, rfl⟩)
        | (go_at_call 9; (with_reducible refine (sg _).mono ?_); rintro _ _ ⟨rfl, rfl⟩)
        | (go_at_call 10; (with_reducible refine (cq _).mono ?_); rintro _ _ ⟨rfl, rfl⟩)
        | (go_at_call 11; (with_reducible first | refine (cp _).mono ?_ | refine (cmn _).mono ?_); rintro _ _ ⟨rfl, rfl⟩)
        | (go_at_call 12; (with_reducible refine (i1 _).mono ?_); rintro _ _ ⟨rfl, rfl⟩)
        | (go_at_call 13; (with_reducible refine (cc _).mono ?_); rintro _ _ ⟨rfl, rfl⟩)
        | (go_at_call 14; (with_reducible refine (ca _).mono ?_); rintro _ _ ⟨rfl, rfl⟩))
      go_ret
      exact ⟨rfl, rfl⟩
    · replace f5 := f5 b2
      go_enter Try.func3, Try.ntmps3
      go_wp2_with (first
        | (go_at_call 7; (with_reducible first | refine (cs _).mono ?_ | refine (cu _).mono ?_ | refine (cz _).mono ?_ | refine (c0 _).mono ?_ | refine (cn _).mono ?_ | refine (ci _).mono ?_); rintro _ _ ⟨rfl, rfl⟩)
        | (go_at_call 8; (with_reducible first | refine (ns _).mono ?_ | refine (nu _).mono ?_); rintro _ _ ⟨rfl, rfl⟩)
        | (go_at_call 9; (with_reducible refine (sg _).mono ?_); rintro _ _ ⟨rfl, rfl⟩)
        | (go_at_call 10; (with_reducible refine (cq _).mono ?_); rintro _ _ ⟨rfl, rfl⟩)
        | (go_at_call 11; (with_reducible first | refine (cp _).mono ?_ | refine (cmn _).mono ?_); rintro _ _ ⟨rfl, rfl⟩)
        | (go_at_call 12; (with_reducible refine (i1 _).mono ?_); rintro _ _ ⟨rfl, rfl⟩)
        | (go_at_call 13; (with_reducible refine (cc _).mono ?_); rintro _ _ ⟨rfl, rfl⟩)
        | (go_at_call 14; (with_reducible refine (ca _).mono ?_); rintro _ _ ⟨rfl, rfl⟩))
      go_ret
      exact ⟨rfl, rfl⟩
theorem edges_calls (n m : Int) (x y : Nat) (w : World) (hn : 0 < n) (hn2 : n ≤ 4294967295) (hm : 0 ≤ m) (hm2 : m ≤ 4294967295) (hx : x < 18446744073709551616) (hy : y < 18446744073709551616) :
    Calls Try.prog 3 #[.int .u32 n, .int .u32 m, .float .f64 x, .float .f64 y] w fun e w' => e = .returned (.bool true) ∧ w' = w := by
  have cs := score_calls n x
  have cu := score_calls (n + m) x
  have cz := score_calls n y
  have c0 := score_calls 0 x
  have cm := score_calls (-n) x
  have cn := score_calls n 9221120237041090561
  have ci := score_calls n 9218868437227405312
  have cnz := score_calls n 9223372036854775808
  have cmi := score_calls n 18442240474082181120
  rw [scoreF_zero (by omega)] at c0 cm
  rw [scoreF_nan] at cn
  rw [scoreF_inf] at ci
  have ls := scoreF_le (n := n) hx
  have lu := scoreF_le (n := n + m) hx
  have lz := scoreF_le (n := n) hy
  have su := scoreF_up (n := n) (n' := n + m) hx (by omega)
  have sz := scoreF_down (n := n) (x := x) (y := y) hx hy
  generalize scoreF n x = s at cs ls su sz
  generalize scoreF (n + m) x = u at cu lu su
  generalize scoreF n y = z at cz lz sz
  have ns := isNaN_calls s
  have nu := isNaN_calls u
  have sg := signbit_calls s
  rw [word_isNaN ls] at ns
  rw [word_isNaN lu] at nu
  rw [sign64_le ls] at sg
  have i1 := isInf_calls 9218868437227405312
  have i1e : isInf 9218868437227405312 = true := by decide +kernel
  rw [i1e] at i1
  clear i1e
  have f1 := not_lt ls (Nat.zero_le _) (Nat.zero_le _)
  have f2 := not_lt lu ls su
  have f3 : (F64.order 0 0 != some .eq) = false := by decide +kernel
  have f4 : (F64.order 0 0 == some .eq) = true := by decide +kernel
  have f5 : (F64.order x 0 == some .gt) = true → (F64.order y x == some .gt || F64.order y x == some .eq) = true → (F64.order z s == some .gt) = false :=
    fun a b => not_gt lz ls (sz (by simpa using a) b)
  have ca := awake_calls
  have cq := nan_calls
  have cp := inf_calls
  have cmn := minf_calls
  have cc := copysign_calls
  clear ls lu lz su sz hx hy
  rw [scoreF_nz (by omega)] at cnz
  rw [scoreF_minf (by omega)] at cmi
  cases b1 : (F64.order x 0 == some .gt)
  · clear f5
    go_enter Try.func3, Try.ntmps3
    go_wp2_with (first
      | (go_at_call 7; (with_reducible first | refine (cs _).mono ?_ | refine (cu _).mono ?_ | refine (cz _).mono ?_ | refine (c0 _).mono ?_ | refine (cm _).mono ?_ | refine (cn _).mono ?_ | refine (ci _).mono ?_ | refine (cnz _).mono ?_ | refine (cmi _).mono ?_); rintro _ _ ⟨rfl, rfl⟩)
      | (go_at_call 8; (with_reducible first | refine (ns _).mono ?_ | refine (nu _).mono ?_); rintro _ _ ⟨rfl, rfl⟩)
      | (go_at_call 9; (with_reducible refine (sg _).mono ?_); rintro _ _ ⟨rfl, rfl⟩)
      | (go_at_call 10; (with_reducible refine (cq _).mono ?_); rintro _ _ ⟨rfl, rfl⟩)
      | (go_at_call 11; (with_reducible first | refine (cp _).mono ?_ | refine (cmn _).mono ?_); rintro _ _ ⟨rfl, rfl⟩)
      | (go_at_call 12; (with_reducible refine (i1 _).mono ?_); rintro _ _ ⟨rfl, rfl⟩)
      | (go_at_call 13; (with_reducible refine (cc _).mono ?_); rintro _ _ ⟨rfl, rfl⟩)
      | (go_at_call 14; (with_reducible refine (ca _).mono ?_); rintro _ _ ⟨rfl, rfl⟩))
    go_ret
    exact ⟨rfl, rfl⟩
  · replace f5 := f5 b1
    cases b2 : (F64.order y x == some .gt || F64.order y x == some .eq)
    · clear f5
      go_enter Try.func3, Try.ntmps3
      go_wp2_with (first
        | (go_at_call 7; (with_reducible first | refine (cs _).mono ?_ | refine (cu _).mono ?_ | refine (cz _).mono ?_ | refine (c0 _).mono ?_ | refine (cm _).mono ?_ | refine (cn _).mono ?_ | refine (ci _).mono ?_ | refine (cnz _).mono ?_ | refine (cmi _).mono ?_); rintro _ _ ⟨rfl, rfl⟩)
        | (go_at_call 8; (with_reducible first | refine (ns _).mono ?_ | refine (nu _).mono ?_); rintro _ _ ⟨rfl, rfl⟩)
        | (go_at_call 9; (with_reducible refine (sg _).mono ?_); rintro _ _ ⟨rfl, rfl⟩)
        | (go_at_call 10; (with_reducible refine (cq _).mono ?_); rintro _ _ ⟨rfl, rfl⟩)
        | (go_at_call 11; (with_reducible first | refine (cp _).mono ?_ | refine (cmn _).mono ?_); rintro _ _ ⟨rfl, rfl⟩)
        | (go_at_call 12; (with_reducible refine (i1 _).mono ?_); rintro _ _ ⟨rfl, rfl⟩)
        | (go_at_call 13; (with_reducible refine (cc _).mono ?_); rintro _ _ ⟨rfl, rfl⟩)
        | (go_at_call 14; (with_reducible refine (ca _).mono ?_); rintro _ _ ⟨rfl, rfl⟩))
      go_ret
      exact ⟨rfl, rfl⟩
    · replace f5 := f5 b2
      go_enter Try.func3, Try.ntmps3
      go_wp2_with (first
        | (go_at_call 7; (with_reducible first | refine (cs _).mono ?_ | refine (cu _).mono ?_ | refine (cz _).mono ?_ | refine (c0 _).mono ?_ | refine (cm _).mono ?_ | refine (cn _).mono ?_ | refine (ci _).mono ?_ | refine (cnz _).mono ?_ | refine (cmi _).mono ?_); rintro _ _ ⟨rfl, rfl⟩)
        | (go_at_call 8; (with_reducible first | refine (ns _).mono ?_ | refine (nu _).mono ?_); rintro _ _ ⟨rfl, rfl⟩)
        | (go_at_call 9; (with_reducible refine (sg _).mono ?_); rintro _ _ ⟨rfl, rfl⟩)
        | (go_at_call 10; (with_reducible refine (cq _).mono ?_); rintro _ _ ⟨rfl, rfl⟩)
        | (go_at_call 11; (with_reducible first | refine (cp _).mono ?_ | refine (cmn _).mono ?_); rintro _ _ ⟨rfl, rfl⟩)
        | (go_at_call 12; (with_reducible refine (i1 _).mono ?_); rintro _ _ ⟨rfl, rfl⟩)
        | (go_at_call 13; (with_reducible refine (cc _).mono ?_); rintro _ _ ⟨rfl, rfl⟩)
        | (go_at_call 14; (with_reducible refine (ca _).mono ?_); rintro _ _ ⟨rfl, rfl⟩))
      go_ret
      exact ⟨rfl, rfl⟩
theorem edges_all (n m : Int) (x y : Nat) (w : World) (hn : 0 ≤ n) (hn2 : n ≤ 4294967295) (hm : 0 ≤ m) (hm2 : m ≤ 4294967295) (hx : x < 18446744073709551616) (hy : y < 18446744073709551616) :
    Calls Try.prog 3 #[.int .u32 n, .int .u32 m, .float .f64 x, .float .f64 y] w fun e w' => e = .returned (.bool true) ∧ Below w.heap.size w w' := by
  rcases Int.lt_or_le 0 n with h | h
  · exact (edges_calls n m x y w h hn2 hm hm2 hx hy).mono fun _ _ ⟨a, b⟩ => ⟨a, b ▸ Below.refl _ _⟩
  · obtain rfl : n = 0 := by omega
    exact (edges0_calls m x y w hm hm2 hx hy).mono fun _ _ ⟨a, b⟩ => ⟨a, b ▸ Below.refl _ _⟩
end Go.Proofs.Ytbmkjcgbnddgdaa.P
