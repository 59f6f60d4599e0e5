/- (*iceboxref10.Mem).Add: an entry that may be, and whose number none there has, goes to its place: its contract by hand. -/
import Derived.Test.YtanlecnnfoapeaaPx1
import Derived.Test.YtanlecnnfoapeaaPx3
import Derived.Test.YtanlecnnfoapeaaHseen
namespace Go.Proofs.Ytanlecnnfoapeaa.P
open Go.RowKit Go.Proofs.YtanlecnnfoapeaaW.PrintWords Go.Proofs.YtanlecnnfoapeaaW.PrintLast Go.Proofs.YtanlecnnfoapeaaW.PrintMore
set_option linter.unusedVariables false
attribute [local go_sem high] eqA32
/-- Cmp as a function that always answers. -/
def cmpV (a b : S32) : Int := if a.f0.toList = b.f0.toList then (if a.f1 = b.f1 then (if a.f2 = b.f2 then 0 else (if a.f2 > b.f2 then -1 else 1)) else (if a.f1 > b.f1 then -1 else 1)) else (if (Op.bytesLess a.f0.toList b.f0.toList) = true then -1 else 1)
theorem cmpV_f (a b : S32) : iceboxref1_Cmp.f a.f0 a.f1 a.f2 b.f0 b.f1 b.f2 = some (cmpV a b) := by
  unfold iceboxref1_Cmp.f cmpV
  repeat' split
  all_goals first | rfl | contradiction
def posE (l : List S34) (e : S34) : Nat := (l.takeWhile (fun x => decide (cmpV x.f0 e.f0 < 0))).length
def insE (l : List S34) (e : S34) : List S34 := l.take (posE l e) ++ e :: l.drop (posE l e)
theorem cells_ev (x : S34) : (ev x).cells.toList = [.string x.f0.f0, .int .i64 x.f0.f1, .int .i64 x.f0.f2, .string x.f1] := by simp [ev, Value.cells]
theorem keep_cell {W w3 : World} (hb : Below W.heap.size W w3) {p : Addr} {v : Value} (h : W.cell? p = some v) : w3.cell? p = some v := (hb.cell (World.block_lt_of_cell? W _ h)).trans h
theorem rd_get {l : List S34} {k : Nat} (h : k < l.length) : rd_T34 l (k : Nat) = l[k] := by simp [rd_T34, List.getD_eq_getElem?_getD, h]
theorem posE_at {l : List S34} {e : S34} {k : Nat} (hk : k ≤ l.length) (hb : ∀ j, j < k → cmpV (rd_T34 l (j : Nat)).f0 e.f0 < 0) (h : k < l.length → ¬ cmpV (rd_T34 l (k : Nat)).f0 e.f0 < 0) : posE l e = k := by
  unfold posE
  induction l generalizing k with
  | nil => simp at hk; simp [hk]
  | cons x l ih =>
    cases k with
    | zero =>
      have := h (by simp)
      simp [rd_T34] at this
      rw [List.takeWhile_cons, if_neg (by simpa using this)]
      rfl
    | succ k =>
      have h0 := hb 0 (by omega)
      simp [rd_T34] at h0
      rw [List.takeWhile_cons, if_pos (by simpa using h0), List.length_cons]
      rw [ih (k := k) (by simpa using hk) (fun j hj => by have := hb (j + 1) (by omega); simpa [rd_T34] using this) (fun hk2 => by have := h (by simpa using hk2); simpa [rd_T34] using this)]
theorem C_takeN {w : World} {A : Option Addr} {xs : List S34} {m : Nat} (h : k34.C w A xs.length xs) (hm : m ≤ xs.length) : k34.C w A m (xs.take m) := by
  have := Kd.C_take h hm
  rwa [show (xs.take m).length = m by rw [List.length_take]; omega] at this
theorem C_dropN {w : World} {A : Option Addr} {xs : List S34} {m c : Nat} (h : k34.C w A xs.length xs) (hm : m ≤ xs.length) (hc : xs.length ≤ c) : k34.C w (if c = m then A else A.map (·.add (m * 4))) (xs.length - m) (xs.drop m) := by
  have := Kd.C_drop h hm hc
  rwa [show (xs.drop m).length = xs.length - m from List.length_drop] at this
structure AddSt (B g b0 : Nat) (v : Value) (L : List S34) (e : S34) (w0 wr : World) : Prop where
  hg : wr.heap[g]? = some (.cells #[v] 49 (0, 0))
  hb : wr.heap[b0]? = some (.cells #[.string e.f0.f0, .int .i64 e.f0.f1, .int .i64 e.f0.f2, .string e.f1] 34 (0, 0))
  hr : Kd.R k34 34 wr B (fun b => b ≠ g ∧ b ≠ b0) v L
  below : Below b0 w0 wr
  bs : w0.heap.size ≤ b0
theorem AddSt.step {B g b0 : Nat} {v : Value} {L : List S34} {e : S34} {w0 wr w1 : World} (h : AddSt B g b0 v L e w0 wr) (hb : Below wr.heap.size wr w1) : AddSt B g b0 v L e w0 w1 where
  hg := by rw [hb.block g (blk_lt h.hg)]; exact h.hg
  hb := by rw [hb.block b0 (blk_lt h.hb)]; exact h.hb
  hr := Kd.R_below h.hr hb
  below := h.below.trans (hb.mono (by have := blk_lt h.hb; omega))
  bs := h.bs
set_option maxHeartbeats 400000 in
theorem add_calls (B g : Nat) (v : Value) (L : List S34) (e : S34) (w : World) (hg : w.heap[g]? = some (.cells #[v] 49 (0, 0))) (hL : Kd.R k34 34 w B (fun b => b ≠ g) v L) (hB : B ≤ g) (hlen : L.length < 100000)
    (hmay : iceboxref1_MayEntry.f e.f0.f0 e.f0.f1 e.f0.f2 e.f1 = some true) (hne : ∀ x ∈ L, x.f0.f1 ≠ e.f0.f1) :
    Calls Try.prog 21 #[.pointer (some ⟨g, 0, none⟩), ev e] w fun en w' => ∃ v', en = .returned (.bool true) ∧ w'.heap[g]? = some (.cells #[v'] 49 (0, 0)) ∧ Kd.R k34 34 w' B (fun b => b ≠ g) v' (insE L e) ∧ Below B w w' := by
  have hu34 := Try.underlying34
  have hu32 := Try.underlying32
  have hgl := blk_lt hg
  have HG := Aside0.mk hg
  have HL := Aside0.mk hL
  have HM := Aside0.mk hmay
  have HN := Aside0.mk hne
  clear hg hL hmay hne
  unfold ev
  go_enter Try.func21, Try.ntmps21
  go_wp2_with (go_at_call 28; refine (iceboxref1_MayEntry.calls _ _ _ _ true _ HM.out).mono ?_; rintro en w2 ⟨rfl, hb⟩; have HB := Aside0.mk hb; clear hb)
  obtain ⟨A, c, rfl, hlc, hzz⟩ := Kd.R_reads HL.out
  clear hzz
  have HS := Aside0.mk (show AddSt B g w.heap.size (.slice A L.length c) L e w w2 from ⟨by rw [HB.out.block g (by simp; omega)]; rw [Below.heap_alloc _ _ _ hgl]; exact HG.out, by rw [HB.out.block w.heap.size (by simp)]; exact heap_alloc_new _ _, Kd.R_below (Kd.R_alloc (Kd.R_elderB HL.out w.heap.size (Nat.le_refl _)) _) HB.out, ((Below.refl _ _).alloc (Nat.le_refl _) _).trans (HB.out.mono (by simp)), Nat.le_refl _⟩)
  clear HB
  go_loopw [5] (fun i wr => ∃ k : Nat, k ≤ L.length ∧ i = .int .i64 k ∧ Aside0 (∀ j, j < k → cmpV (rd_T34 L (j : Nat)).f0 e.f0 < 0) ∧ Aside0 (AddSt B g w.heap.size (.slice A L.length c) L e w wr)) (fun i _ => L.length - (intOf i).toNat)
  case atStart => exact ⟨0, Nat.zero_le _, rfl, ⟨fun j hj => by omega⟩, HS⟩
  case round =>
    obtain ⟨k, hk, rfl, HP, HT⟩ := hrel
    clear HS
    have hcg : wr.cell? ⟨g, 0, none⟩ = some (.slice A L.length c) := (blk_cell HT.out.hg 0).trans rfl
    have hi0 : (0 : Int) ≤ (k : Int) := by omega
    have b0 : wr.cell? ⟨w.heap.size, 0, none⟩ = some (.string e.f0.f0) := (blk_cell HT.out.hb 0).trans rfl
    have b1 : wr.cell? ⟨w.heap.size, 1, none⟩ = some (.int .i64 e.f0.f1) := (blk_cell HT.out.hb 1).trans rfl
    have b2 : wr.cell? ⟨w.heap.size, 2, none⟩ = some (.int .i64 e.f0.f2) := (blk_cell HT.out.hb 2).trans rfl
    by_cases hlt : k < L.length
    case' pos =>
      obtain ⟨ad, rfl, h0, h1, h2, h3⟩ := at_T34 (Kd.R_reads' HT.out.hr).2.2 (k : Int) (by omega) (by omega)
      simp only [Int.toNat_natCast] at h0 h1 h2 h3
      have hi1 : (k : Int) < (L.length : Int) := by omega
      have hd : decide (k < L.length) = true := decide_eq_true hlt
      obtain ⟨q, hq⟩ : ∃ q, q = cmpV (rd_T34 L (k : Int)).f0 e.f0 := ⟨_, rfl⟩
      have HQ := Aside0.mk hq
      have HC := Aside0.mk ((cmpV_f (rd_T34 L (k : Int)).f0 e.f0).trans (by rw [← hq]) : _ = some q)
      clear hq
      by_cases hqn : q < 0
      case' pos =>
        go_wp2
        go_region_held3 (fun w' => w'.cell? ⟨g, 0, none⟩ = some (.slice (some ad) L.length c) ∧ w'.cell? (ad.add (k * 4)) = some (.string (rd_T34 L (k : Int)).f0.f0) ∧ w'.cell? ⟨(ad.add (k * 4)).block, (ad.add (k * 4)).off + 1, none⟩ = some (.int .i64 (rd_T34 L (k : Int)).f0.f1) ∧ w'.cell? ⟨(ad.add (k * 4)).block, (ad.add (k * 4)).off + 2, none⟩ = some (.int .i64 (rd_T34 L (k : Int)).f0.f2) ∧ w'.cell? ⟨w.heap.size, 0, none⟩ = some (.string e.f0.f0) ∧ w'.cell? ⟨w.heap.size, 1, none⟩ = some (.int .i64 e.f0.f1) ∧ w'.cell? ⟨w.heap.size, 2, none⟩ = some (.int .i64 e.f0.f2))
          (first | exact (And.imp (keep_cell hb) (And.imp (keep_cell hb) (And.imp (keep_cell hb) (And.imp (keep_cell hb) (And.imp (keep_cell hb) (And.imp (keep_cell hb) (keep_cell hb))))))) (by assumption) | go_keep)
          (first | (go_at_call 25; refine (iceboxref1_Cmp.calls _ _ _ _ _ _ q _ HC.out).mono ?_; rintro en w3 ⟨rfl, hb⟩))
        clear hcg b0 b1 b2 h0 h1 h2 h3
        have HT3 := Aside0.mk (HT.out.step (((Below.refl _ _).drew).trans hb))
        clear hb HT
        go_wp2
        go_roundw
        case rel => exact ⟨k + 1, by omega, by go_num, ⟨fun j hj => by
          rcases Nat.lt_or_ge j k with h | h
          · exact HP.out j h
          · obtain rfl : j = k := by omega
            have := HQ.out
            omega⟩, HT3⟩
        case measure => simp [intOf]; omega
      case' neg =>
        have hqn' : decide (q < 0) = false := decide_eq_false hqn
        have HPOS := Aside0.mk (posE_at (e := e) hk HP.out (fun _ => by have := HQ.out; omega))
        have HNK := Aside0.mk (HN.out (rd_T34 L (k : Int)) (by rw [rd_get hlt]; exact List.getElem_mem _))
        go_wp2
        go_region_held3 (fun w' => w'.cell? ⟨g, 0, none⟩ = some (.slice (some ad) L.length c) ∧ w'.cell? (ad.add (k * 4)) = some (.string (rd_T34 L (k : Int)).f0.f0) ∧ w'.cell? ⟨(ad.add (k * 4)).block, (ad.add (k * 4)).off + 1, none⟩ = some (.int .i64 (rd_T34 L (k : Int)).f0.f1) ∧ w'.cell? ⟨(ad.add (k * 4)).block, (ad.add (k * 4)).off + 2, none⟩ = some (.int .i64 (rd_T34 L (k : Int)).f0.f2) ∧ w'.cell? ⟨w.heap.size, 0, none⟩ = some (.string e.f0.f0) ∧ w'.cell? ⟨w.heap.size, 1, none⟩ = some (.int .i64 e.f0.f1) ∧ w'.cell? ⟨w.heap.size, 2, none⟩ = some (.int .i64 e.f0.f2))
          (first | exact (And.imp (keep_cell hb) (And.imp (keep_cell hb) (And.imp (keep_cell hb) (And.imp (keep_cell hb) (And.imp (keep_cell hb) (And.imp (keep_cell hb) (keep_cell hb))))))) (by assumption) | go_keep)
          (first | (go_at_call 25; refine (iceboxref1_Cmp.calls _ _ _ _ _ _ q _ HC.out).mono ?_; rintro en w3 ⟨rfl, hb⟩))
        clear hcg b0 b1 b2 h0 h1 h2 h3
        have HT3 := Aside0.mk (HT.out.step (((Below.refl _ _).drew).trans hb))
        clear hb HT
        have hcg : w3.cell? ⟨g, 0, none⟩ = some (.slice (some ad) L.length c) := (blk_cell HT3.out.hg 0).trans rfl
        obtain ⟨ad2, e2, h0, h1, h2, h3⟩ := at_T34 (Kd.R_reads' HT3.out.hr).2.2 (k : Int) (by omega) (by omega)
        obtain rfl : ad = ad2 := by injection e2
        simp only [Int.toNat_natCast] at h0 h1 h2 h3
        have b0 : w3.cell? ⟨w.heap.size, 0, none⟩ = some (.string e.f0.f0) := (blk_cell HT3.out.hb 0).trans rfl
        have b1 : w3.cell? ⟨w.heap.size, 1, none⟩ = some (.int .i64 e.f0.f1) := (blk_cell HT3.out.hb 1).trans rfl
        have b2 : w3.cell? ⟨w.heap.size, 2, none⟩ = some (.int .i64 e.f0.f2) := (blk_cell HT3.out.hb 2).trans rfl
        have hne1 : ((rd_T34 L (k : Int)).f0.f1 == e.f0.f1) = false := beq_eq_false_iff_ne.mpr HNK.out
        go_wp2
        go_quiet (fail)
        clear hcg h0 h1 h2 h3 b0 b1 b2 hne1 hqn' hqn HC HQ HNK hd hi1
        have HT4 := Aside0.mk (HT3.out.step (pw_below_drewN (Below.refl _ _) nq))
        clear HT3
        generalize w3.drewN nq = w4 at HT4 ⊢
        obtain ⟨Ax, hAx⟩ : ∃ Ax, Ax = some ad := ⟨_, rfl⟩
        rw [← hAx] at HT4 ⊢
        clear hAx
    case' neg =>
      have HPOS := Aside0.mk (posE_at (e := e) hk HP.out (fun h => absurd h hlt))
      have hd : decide (k < L.length) = false := decide_eq_false hlt
      go_wp2
      go_quiet (fail)
      clear hcg b0 b1 b2
      have HT3 := Aside0.mk (HT.out.step (pw_below_drewN (Below.refl _ _) nq))
      clear HT
      generalize wr.drewN nq = w3 at HT3 ⊢
      clear nq
      have hcg : w3.cell? ⟨g, 0, none⟩ = some (.slice A L.length c) := (blk_cell HT3.out.hg 0).trans rfl
      go_wp2
      go_quiet (fail)
      clear hcg hd
      have HT4 := Aside0.mk (HT3.out.step (pw_below_drewN (Below.refl _ _) nq))
      clear HT3
      generalize w3.drewN nq = w4 at HT4 ⊢
      obtain ⟨Ax, hAx⟩ : ∃ Ax, Ax = A := ⟨_, rfl⟩
      rw [← hAx] at HT4 ⊢
      clear hAx
    all_goals
      clear hlt HP
      have hcg : w4.cell? ⟨g, 0, none⟩ = some (.slice Ax L.length c) := (blk_cell HT4.out.hg 0).trans rfl
      obtain ⟨i34, hi34, _, hsz34, _⟩ := info_parts info34
      have hcut : ∀ W : World, (Instr.slice 24 (.slice Ax L.length c) none (some (.int .i64 k)) none).run Try.prog W = .ok (.slice Ax k c) W := fun W => by
        have := cut_to (P := Try.prog) 24 34 .i64 Try.underlying24 hi34 Ax L.length c (k : Int) (by omega) (by omega) hlc W
        rwa [Int.toNat_natCast] at this
      obtain ⟨Ay, hAy⟩ : ∃ Ay, Ay = (if c = k then Ax else Ax.map (·.add (k * 4))) := ⟨_, rfl⟩
      have HAY := Aside0.mk hAy
      have hcut2 : ∀ W : World, (Instr.slice 24 (.slice Ax L.length c) (some (.int .i64 k)) none none).run Try.prog W = .ok (.slice Ay (L.length - k) (c - k)) W := fun W => by
        have := cut_from (P := Try.prog) 24 34 .i64 Try.underlying24 hi34 4 hsz34 Ax L.length c (k : Int) (by omega) (by omega) W
        rw [Int.toNat_natCast] at this
        rw [hAy]
        exact this
      clear hAy hi34 hsz34
      have HRT := Aside0.mk (C_takeN (Kd.R_reads' HT4.out.hr).2.2 hk)
      have HRD := Aside0.mk (C_dropN (Kd.R_reads' HT4.out.hr).2.2 hk hlc)
      rw [← HAY.out] at HRD
      go_wp2_with (first | ((with_reducible refine gate_dst (N := 53) rfl ?_); refine Kd.R_lit k34 (w0 := w4) w4.heap.size 34 ?hg (N := 53) ?hd (xs := []) (inner := []) (ok := fun _ => True) (okp := fun _ => True) ?hr ?hp (fun _ hk => hk) trivial (Below.refl _ _) (Nat.le_refl _) (by simp) ?_; (case hd => rfl); (case hg => rfl); (case hr => first | (go_simp; done) | (go_simp; rfl)); (case hp => exact (Reps.none _ _)); intro v5 w5 ho5 hb5 hg_ hnew_; clear hg_ hnew_; have HO5 := Aside0.mk ho5; have HB5 := Aside0.mk hb5; clear ho5 hb5; replace hcg := keep_cell HB5.out hcg) | ((with_reducible refine gate_builtin (b := .append) (xs := #[.tmp 53, .tmp 59]) rfl ?_); at_builtin; refine Kd.R_append_rows k34 (Rr := k34.K w5) (w0 := w4) w4.heap.size rfl (.tmp 53) (.tmp 59) 24 34 (.agg #[(.string ⟨#[]⟩), (.int .i64 0), (.int .i64 0), (.string ⟨#[]⟩)]) 48 rfl Try.underlying24 info34 rfl (by decide) (by omega) _ [] (L.take k) Ax k c (fun _ => True) (fun _ => False) rfl rfl HO5.out (Kd.C_below HRT.out HB5.out) (fun _ _ h => h) (fun _ h => h.elim) (fun _ _ => trivial) HB5.out HB5.out.size (by simp; omega) ?_; intro v6 w6 ho6 hb6 hg_ hat; clear hg_ hat; have HO6 := Aside0.mk ho6; have HB6 := Aside0.mk hb6; clear ho6 hb6 hcg; have HT6 := Aside0.mk (HT4.out.step HB6.out); have bx0 : w6.cell? ⟨w.heap.size, 0, none⟩ = some (.string e.f0.f0) := (blk_cell HT6.out.hb 0).trans rfl; have bx1 : w6.cell? ⟨w.heap.size, 1, none⟩ = some (.int .i64 e.f0.f1) := (blk_cell HT6.out.hb 1).trans rfl; have bx2 : w6.cell? ⟨w.heap.size, 2, none⟩ = some (.int .i64 e.f0.f2) := (blk_cell HT6.out.hb 2).trans rfl; have bx3 : w6.cell? ⟨w.heap.size, 3, none⟩ = some (.string e.f1) := (blk_cell HT6.out.hb 3).trans rfl) | ((with_reducible refine gate_builtin (b := .append) (xs := #[.tmp 61, .tmp 63]) rfl ?_); at_builtin; refine Kd.R_append k34 (w0 := w4) w4.heap.size rfl (.tmp 61) (.tmp 63) 24 34 (.agg #[(.string ⟨#[]⟩), (.int .i64 0), (.int .i64 0), (.string ⟨#[]⟩)]) 48 rfl Try.underlying24 info34 rfl (by decide) (by omega) v6 ([] ++ L.take k) e _ (fun _ => True) (fun _ => False) rfl rfl (k34_mkM _ _ _ e) (fun _ h => h.elim) (fun _ _ => trivial) HO6.out HB6.out HB6.out.size (by simp; omega) ?_; intro v7 w7 ho7 hb7 hg_ hat; clear hg_ hat bx0 bx1 bx2 bx3 HT6; have HO7 := Aside0.mk ho7; have HB7 := Aside0.mk hb7; clear ho7 hb7; have hcg : w7.cell? ⟨g, 0, none⟩ = some (.slice Ax L.length c) := (blk_cell (HT4.out.step HB7.out).hg 0).trans rfl) | ((with_reducible refine gate_builtin (b := .append) (xs := #[.tmp 66, .tmp 72]) rfl ?_); at_builtin; refine Kd.R_append_rows k34 (Rr := k34.K w7) (w0 := w4) w4.heap.size rfl (.tmp 66) (.tmp 72) 24 34 (.agg #[(.string ⟨#[]⟩), (.int .i64 0), (.int .i64 0), (.string ⟨#[]⟩)]) 48 rfl Try.underlying24 info34 rfl (by decide) (by omega) v7 ([] ++ L.take k ++ [e]) (L.drop k) Ay (L.length - k) (c - k) (fun _ => True) (fun _ => False) rfl rfl HO7.out (Kd.C_below HRD.out HB7.out) (fun _ _ h => h) (fun _ h => h.elim) (fun _ _ => trivial) HB7.out HB7.out.size (by simp; omega) ?_; intro v8 w8 ho8 hb8 hg_ hat; clear hg_ hat hcg; obtain ⟨A8, c8, rfl⟩ := Kd.R_slice ho8; have HO8 := Aside0.mk ho8; have HB8 := Aside0.mk hb8; clear ho8 hb8; have HG8 := Aside0.mk (HT4.out.step HB8.out).hg; have hcg : w8.cell? ⟨g, 0, none⟩ = some (.slice Ax L.length c) := (blk_cell HG8.out 0).trans rfl; have hfg := blk_frozen HG8.out 0))
      go_ret
      have hsz := HT4.out.below.size
      have hB2 : Below B w w8 := (HT4.out.below.trans (HB8.out.mono hsz)).mono (by omega)
      refine ⟨_, rfl, blk_put HG8.out 0 _ rfl, ?_, hB2.setCell (p := ⟨g, 0, none⟩) hB _⟩
      have hR : Kd.R k34 34 w8 w4.heap.size (fun b => b ≠ g) _ _ := Kd.R_mono (Kd.R_bound HO8.out) (fun b hb => by have := hb.2.1; omega)
      have hE : [] ++ L.take k ++ [e] ++ L.drop k = insE L e := by
        unfold insE
        rw [HPOS.out]
        simp
      have hR2 := Kd.R_far hR (p := ⟨g, 0, none⟩) (fun _ h => h) (.slice A8 ([] ++ L.take k ++ [e] ++ L.drop k).length c8)
      have hN : ([] ++ L.take k ++ [e] ++ L.drop k).length = k + (L.length - k + 1) := by simp; omega
      rw [hN, hE] at hR2
      exact Kd.R_lower hR2 (by omega)
end Go.Proofs.Ytanlecnnfoapeaa.P
