/- One act on both stores of layer 5: they tell the same. -/
import Derived.Test.YtbedfilammjlpaaG22
namespace Go.Proofs.Ytbedfilammjlpaa.P
open Go.RowKit Go.Proofs.YtbedfilammjlpaaW.PrintWords Go.Proofs.YtbedfilammjlpaaW.PrintMore Go.Maps Go.WideMaps
set_option linter.unusedVariables false
/-- An act of a script. -/
structure Act where
  what : Int
  name : ByteArray
  at_ : Int
  n : Int
  data : List Int
  next : List Int
/-- What an act has to be. -/
structure ActOk (W : World) (a : Act) (A1 A2 : Option Addr) : Prop where
  name : a.name.size ≤ maxLen
  bts : Bts a.data
  data : Kd.C (Kd.int .u8) W A1 a.data.length a.data
  next : Kd.C (Kd.int .i64) W A2 a.next.length a.next
  few : a.data.length ≤ 300
  outs : a.next.length ≤ 100
/-- An act's value. -/
def actV (a : Act) (A1 A2 : Option Addr) (c1 c2 : Nat) : Value := .agg #[.int .i64 a.what, .string a.name, .int .i64 a.at_, .int .i64 a.n, .slice A1 a.data.length c1, .slice A2 a.next.length c2]
theorem took_nx (st : FS) : st.took.nx.length ≤ st.nx.length := by
  show st.nx.tail.length ≤ st.nx.length
  rw [List.length_tail]; omega
theorem putF_nx (st : FS) (s d : ByteArray) : (putF st s d).2.nx.length ≤ st.nx.length := by
  unfold putF
  dsimp only
  have := took_nx st
  split
  · exact this
  · split <;> exact this
theorem dropF_nx (st : FS) (s : ByteArray) : (dropF st s).2.nx.length ≤ st.nx.length := by
  unfold dropF
  dsimp only
  have := took_nx st
  split
  · exact this
  · split <;> exact this
section
variable {W w w' : World} {g m h N : Nat} {st : FS}
/-- Both stores, in one state. -/
structure Both (W w : World) (g m h N : Nat) (st : FS) : Prop where
  two : Two W w g m h N N st st
  nx : st.nx.length ≤ 1000000
set_option maxRecDepth 100000 in
theorem step5_put (t : Both W w g m h N st) (a : Act) (A1 A2 : Option Addr) (c1 c2 : Nat) (ha : ActOk W a A1 A2) (hN : N ≤ 1000) (hd : a.what = 1 ∨ a.what = 2) :
    Calls Try.prog 27 #[.pointer (some ⟨g, 0, none⟩), .pointer (some ⟨h, 0, none⟩), actV a A1 A2 c1 c2] w fun e w' => e = .returned (.bool true) ∧ ∃ st', Both W w' g m h (N + 1) st' := by
  obtain ⟨what, name, at_, n, data, next⟩ := a
  unfold actV
  dsimp only at hd ⊢
  have HT := Aside0.mk t
  have hnm : name.size ≤ maxLen := ha.name
  have hfew : data.length ≤ 300 := ha.few
  have hout : next.length ≤ 100 := ha.outs
  have HBT : Aside0 (Bts data) := ⟨ha.bts⟩
  have HDT : Aside0 (Kd.C (Kd.int .u8) W A1 data.length data) := ⟨ha.data⟩
  have HNT : Aside0 (Kd.C (Kd.int .i64) W A2 next.length next) := ⟨ha.next⟩
  have hsz := t.two.far.small
  have HSZ := Aside0.mk hsz
  have hnx := t.nx
  clear t ha hsz
  rcases hd with rfl | rfl
  · go_enter Try.func27, Try.ntmps27
    go_wp2_with fail
    repeat ((first | (with_reducible refine scope_body ?_) | go_step3); try (go_wp2_with fail))
    obtain ⟨wb, hwb⟩ : ∃ wb, w.alloc (.cells #[.int .i64 1, .string name, .int .i64 at_, .int .i64 n, .slice A1 data.length c1, .slice A2 next.length c2] 49) = wb := ⟨_, rfl⟩
    have hb : Below w.heap.size w wb := by rw [← hwb]; exact (Below.refl _ w).alloc (Nat.le_refl _) _
    have d0 : wb.cell? ⟨w.heap.size, 0, none⟩ = some (.int .i64 1) := by rw [← hwb]; exact (blk_cell (heap_alloc_new _ _) 0).trans rfl
    have d1 : wb.cell? ⟨w.heap.size, 1, none⟩ = some (.string name) := by rw [← hwb]; exact (blk_cell (heap_alloc_new _ _) 1).trans rfl
    have d2 : wb.cell? ⟨w.heap.size, 2, none⟩ = some (.int .i64 at_) := by rw [← hwb]; exact (blk_cell (heap_alloc_new _ _) 2).trans rfl
    have d3 : wb.cell? ⟨w.heap.size, 3, none⟩ = some (.int .i64 n) := by rw [← hwb]; exact (blk_cell (heap_alloc_new _ _) 3).trans rfl
    have d4 : wb.cell? ⟨w.heap.size, 4, none⟩ = some (.slice A1 data.length c1) := by rw [← hwb]; exact (blk_cell (heap_alloc_new _ _) 4).trans rfl
    have d5 : wb.cell? ⟨w.heap.size, 5, none⟩ = some (.slice A2 next.length c2) := by rw [← hwb]; exact (blk_cell (heap_alloc_new _ _) 5).trans rfl
    rw [hwb]
    have TB : Aside0 (Two W wb g m h N N st st) := ⟨HT.out.two.below hb⟩
    have TD : Aside0 (Two W wb.drew g m h N N st st) := ⟨TB.out.below (Below.refl _ wb).drew⟩
    have hne : ¬ GMH g m h w.heap.size := fun hk => Nat.lt_irrefl _ (HT.out.two.far.bd _ hk)
    clear hwb hb
    have e1 : wb.drew.cell? ⟨w.heap.size, 1, none⟩ = some (.string name) := d1
    have e4 : wb.drew.cell? ⟨w.heap.size, 4, none⟩ = some (.slice A1 data.length c1) := d4
    go_region_held3 (fun w' => w'.cell? ⟨w.heap.size, 1, none⟩ = some (.string name) ∧ w'.cell? ⟨w.heap.size, 4, none⟩ = some (.slice A1 data.length c1)) (first | exact ⟨d1, d4⟩ | exact ⟨hs3.cell (hs2.cell e1 hne) hne, hs3.cell (hs2.cell e4 hne) hne⟩ | exact ⟨hs2.cell e1 hne, hs2.cell e4 hne⟩ | go_keep) (first | (go_at_call 18; (with_reducible refine (num2_calls _ _).mono ?_); rintro _ _ ⟨rfl, rfl⟩) | (go_at_call 50; refine (tr_put HT2.out name hnm A1 c1 data (by omega) (by omega) HDT.out).mono ?_; rintro _ w3 ⟨rfl, ht3, hs3⟩; have HT3 := Aside0.mk ht3; clear ht3) | (go_at_call 15; refine (tf_put TD.out name hnm A1 c1 data (by omega) HBT.out (by omega) HDT.out).mono ?_; rintro _ w2 ⟨rfl, ht2, hs2⟩; have HT2 := Aside0.mk ht2; clear ht2))
    go_wp2_with fail
    repeat ((first | (with_reducible refine scope_body ?_) | go_step3); try (go_wp2_with fail))
    go_ret
    exact ⟨rfl, _, ⟨HT3.out, Nat.le_trans (putF_nx _ _ _) hnx⟩⟩
  · go_enter Try.func27, Try.ntmps27
    go_wp2_with fail
    repeat ((first | (with_reducible refine scope_body ?_) | go_step3); try (go_wp2_with fail))
    obtain ⟨wb, hwb⟩ : ∃ wb, w.alloc (.cells #[.int .i64 2, .string name, .int .i64 at_, .int .i64 n, .slice A1 data.length c1, .slice A2 next.length c2] 49) = wb := ⟨_, rfl⟩
    have hb : Below w.heap.size w wb := by rw [← hwb]; exact (Below.refl _ w).alloc (Nat.le_refl _) _
    have d0 : wb.cell? ⟨w.heap.size, 0, none⟩ = some (.int .i64 2) := by rw [← hwb]; exact (blk_cell (heap_alloc_new _ _) 0).trans rfl
    have d1 : wb.cell? ⟨w.heap.size, 1, none⟩ = some (.string name) := by rw [← hwb]; exact (blk_cell (heap_alloc_new _ _) 1).trans rfl
    have d2 : wb.cell? ⟨w.heap.size, 2, none⟩ = some (.int .i64 at_) := by rw [← hwb]; exact (blk_cell (heap_alloc_new _ _) 2).trans rfl
    have d3 : wb.cell? ⟨w.heap.size, 3, none⟩ = some (.int .i64 n) := by rw [← hwb]; exact (blk_cell (heap_alloc_new _ _) 3).trans rfl
    have d4 : wb.cell? ⟨w.heap.size, 4, none⟩ = some (.slice A1 data.length c1) := by rw [← hwb]; exact (blk_cell (heap_alloc_new _ _) 4).trans rfl
    have d5 : wb.cell? ⟨w.heap.size, 5, none⟩ = some (.slice A2 next.length c2) := by rw [← hwb]; exact (blk_cell (heap_alloc_new _ _) 5).trans rfl
    rw [hwb]
    have TB : Aside0 (Two W wb g m h N N st st) := ⟨HT.out.two.below hb⟩
    have TD : Aside0 (Two W wb.drew g m h N N st st) := ⟨TB.out.below (Below.refl _ wb).drew⟩
    have hne : ¬ GMH g m h w.heap.size := fun hk => Nat.lt_irrefl _ (HT.out.two.far.bd _ hk)
    clear hwb hb
    have e1 : wb.drew.cell? ⟨w.heap.size, 1, none⟩ = some (.string name) := d1
    have e4 : wb.drew.cell? ⟨w.heap.size, 4, none⟩ = some (.slice A1 data.length c1) := d4
    go_region_held3 (fun w' => w'.cell? ⟨w.heap.size, 1, none⟩ = some (.string name) ∧ w'.cell? ⟨w.heap.size, 4, none⟩ = some (.slice A1 data.length c1)) (first | exact ⟨d1, d4⟩ | exact ⟨hs3.cell (hs2.cell e1 hne) hne, hs3.cell (hs2.cell e4 hne) hne⟩ | exact ⟨hs2.cell e1 hne, hs2.cell e4 hne⟩ | go_keep) (first | (go_at_call 18; (with_reducible refine (num2_calls _ _).mono ?_); rintro _ _ ⟨rfl, rfl⟩) | (go_at_call 50; refine (tr_put HT2.out name hnm A1 c1 data (by omega) (by omega) HDT.out).mono ?_; rintro _ w3 ⟨rfl, ht3, hs3⟩; have HT3 := Aside0.mk ht3; clear ht3) | (go_at_call 15; refine (tf_put TD.out name hnm A1 c1 data (by omega) HBT.out (by omega) HDT.out).mono ?_; rintro _ w2 ⟨rfl, ht2, hs2⟩; have HT2 := Aside0.mk ht2; clear ht2))
    go_wp2_with fail
    repeat ((first | (with_reducible refine scope_body ?_) | go_step3); try (go_wp2_with fail))
    go_ret
    exact ⟨rfl, _, ⟨HT3.out, Nat.le_trans (putF_nx _ _ _) hnx⟩⟩
set_option maxRecDepth 100000 in
theorem step5_drop (t : Both W w g m h N st) (a : Act) (A1 A2 : Option Addr) (c1 c2 : Nat) (ha : ActOk W a A1 A2) (hN : N ≤ 1000) (hd : a.what = 5) :
    Calls Try.prog 27 #[.pointer (some ⟨g, 0, none⟩), .pointer (some ⟨h, 0, none⟩), actV a A1 A2 c1 c2] w fun e w' => e = .returned (.bool true) ∧ ∃ st', Both W w' g m h (N + 1) st' := by
  obtain ⟨what, name, at_, n, data, next⟩ := a
  unfold actV
  dsimp only at hd ⊢
  have HT := Aside0.mk t
  have hnm : name.size ≤ maxLen := ha.name
  have hfew : data.length ≤ 300 := ha.few
  have hout : next.length ≤ 100 := ha.outs
  have HBT : Aside0 (Bts data) := ⟨ha.bts⟩
  have HDT : Aside0 (Kd.C (Kd.int .u8) W A1 data.length data) := ⟨ha.data⟩
  have HNT : Aside0 (Kd.C (Kd.int .i64) W A2 next.length next) := ⟨ha.next⟩
  have hsz := t.two.far.small
  have HSZ := Aside0.mk hsz
  have hnx := t.nx
  clear t ha hsz
  subst hd
  · go_enter Try.func27, Try.ntmps27
    go_wp2_with fail
    repeat ((first | (with_reducible refine scope_body ?_) | go_step3); try (go_wp2_with fail))
    obtain ⟨wb, hwb⟩ : ∃ wb, w.alloc (.cells #[.int .i64 5, .string name, .int .i64 at_, .int .i64 n, .slice A1 data.length c1, .slice A2 next.length c2] 49) = wb := ⟨_, rfl⟩
    have hb : Below w.heap.size w wb := by rw [← hwb]; exact (Below.refl _ w).alloc (Nat.le_refl _) _
    have d0 : wb.cell? ⟨w.heap.size, 0, none⟩ = some (.int .i64 5) := by rw [← hwb]; exact (blk_cell (heap_alloc_new _ _) 0).trans rfl
    have d1 : wb.cell? ⟨w.heap.size, 1, none⟩ = some (.string name) := by rw [← hwb]; exact (blk_cell (heap_alloc_new _ _) 1).trans rfl
    have d2 : wb.cell? ⟨w.heap.size, 2, none⟩ = some (.int .i64 at_) := by rw [← hwb]; exact (blk_cell (heap_alloc_new _ _) 2).trans rfl
    have d3 : wb.cell? ⟨w.heap.size, 3, none⟩ = some (.int .i64 n) := by rw [← hwb]; exact (blk_cell (heap_alloc_new _ _) 3).trans rfl
    have d4 : wb.cell? ⟨w.heap.size, 4, none⟩ = some (.slice A1 data.length c1) := by rw [← hwb]; exact (blk_cell (heap_alloc_new _ _) 4).trans rfl
    have d5 : wb.cell? ⟨w.heap.size, 5, none⟩ = some (.slice A2 next.length c2) := by rw [← hwb]; exact (blk_cell (heap_alloc_new _ _) 5).trans rfl
    rw [hwb]
    have TB : Aside0 (Two W wb g m h N N st st) := ⟨HT.out.two.below hb⟩
    have TD : Aside0 (Two W wb.drew g m h N N st st) := ⟨TB.out.below (Below.refl _ wb).drew⟩
    have hne : ¬ GMH g m h w.heap.size := fun hk => Nat.lt_irrefl _ (HT.out.two.far.bd _ hk)
    clear hwb hb
    have e1 : wb.drew.cell? ⟨w.heap.size, 1, none⟩ = some (.string name) := d1
    go_region_held3 (fun w' => w'.cell? ⟨w.heap.size, 1, none⟩ = some (.string name)) (first | exact d1 | exact hs3.cell (hs2.cell e1 hne) hne | exact hs2.cell e1 hne | go_keep) (first | (go_at_call 18; (with_reducible refine (num2_calls _ _).mono ?_); rintro _ _ ⟨rfl, rfl⟩) | (go_at_call 54; refine (tr_drop HT2.out (by omega) name).mono ?_; rintro _ w3 ⟨rfl, ht3, hs3⟩; have HT3 := Aside0.mk (ht3.more (Nat.le_succ _) (Nat.le_succ _)); clear ht3) | (go_at_call 17; refine (tf_drop TD.out name hnm).mono ?_; rintro _ w2 ⟨rfl, ht2, hs2⟩; have HT2 := Aside0.mk ht2; clear ht2))
    go_wp2_with fail
    repeat ((first | (with_reducible refine scope_body ?_) | go_step3); try (go_wp2_with fail))
    go_ret
    exact ⟨rfl, _, ⟨HT3.out, Nat.le_trans (dropF_nx _ _) hnx⟩⟩
set_option maxRecDepth 100000 in
theorem step5_next (t : Both W w g m h N st) (a : Act) (A1 A2 : Option Addr) (c1 c2 : Nat) (ha : ActOk W a A1 A2) (hN : N ≤ 1000) (hd : a.what = 0) :
    Calls Try.prog 27 #[.pointer (some ⟨g, 0, none⟩), .pointer (some ⟨h, 0, none⟩), actV a A1 A2 c1 c2] w fun e w' => e = .returned (.bool true) ∧ ∃ st', Both W w' g m h (N + 1) st' := by
  obtain ⟨what, name, at_, n, data, next⟩ := a
  unfold actV
  dsimp only at hd ⊢
  have HT := Aside0.mk t
  have hnm : name.size ≤ maxLen := ha.name
  have hfew : data.length ≤ 300 := ha.few
  have hout : next.length ≤ 100 := ha.outs
  have HBT : Aside0 (Bts data) := ⟨ha.bts⟩
  have HDT : Aside0 (Kd.C (Kd.int .u8) W A1 data.length data) := ⟨ha.data⟩
  have HNT : Aside0 (Kd.C (Kd.int .i64) W A2 next.length next) := ⟨ha.next⟩
  have hsz := t.two.far.small
  have HSZ := Aside0.mk hsz
  have hnx := t.nx
  clear t ha hsz
  subst hd
  · go_enter Try.func27, Try.ntmps27
    go_wp2_with fail
    repeat ((first | (with_reducible refine scope_body ?_) | go_step3); try (go_wp2_with fail))
    obtain ⟨wb, hwb⟩ : ∃ wb, w.alloc (.cells #[.int .i64 0, .string name, .int .i64 at_, .int .i64 n, .slice A1 data.length c1, .slice A2 next.length c2] 49) = wb := ⟨_, rfl⟩
    have hb : Below w.heap.size w wb := by rw [← hwb]; exact (Below.refl _ w).alloc (Nat.le_refl _) _
    have d0 : wb.cell? ⟨w.heap.size, 0, none⟩ = some (.int .i64 0) := by rw [← hwb]; exact (blk_cell (heap_alloc_new _ _) 0).trans rfl
    have d1 : wb.cell? ⟨w.heap.size, 1, none⟩ = some (.string name) := by rw [← hwb]; exact (blk_cell (heap_alloc_new _ _) 1).trans rfl
    have d2 : wb.cell? ⟨w.heap.size, 2, none⟩ = some (.int .i64 at_) := by rw [← hwb]; exact (blk_cell (heap_alloc_new _ _) 2).trans rfl
    have d3 : wb.cell? ⟨w.heap.size, 3, none⟩ = some (.int .i64 n) := by rw [← hwb]; exact (blk_cell (heap_alloc_new _ _) 3).trans rfl
    have d4 : wb.cell? ⟨w.heap.size, 4, none⟩ = some (.slice A1 data.length c1) := by rw [← hwb]; exact (blk_cell (heap_alloc_new _ _) 4).trans rfl
    have d5 : wb.cell? ⟨w.heap.size, 5, none⟩ = some (.slice A2 next.length c2) := by rw [← hwb]; exact (blk_cell (heap_alloc_new _ _) 5).trans rfl
    rw [hwb]
    have TB : Aside0 (Two W wb g m h N N st st) := ⟨HT.out.two.below hb⟩
    have TD : Aside0 (Two W wb.drew g m h N N st st) := ⟨TB.out.below (Below.refl _ wb).drew⟩
    have hne : ¬ GMH g m h w.heap.size := fun hk => Nat.lt_irrefl _ (HT.out.two.far.bd _ hk)
    clear hwb hb
    refine (tf_next TB.out A2 c2 next HNT.out (by omega)).mono ?_
    rintro _ w2 ⟨rfl, ht2, hs2⟩
    have HT2 := Aside0.mk ht2
    have d5' : w2.cell? ⟨w.heap.size, 5, none⟩ = some (.slice A2 next.length c2) := hs2.cell d5 hne
    clear ht2
    go_wp2_with fail
    refine (tr_next HT2.out A2 c2 next HNT.out (by omega)).mono ?_
    rintro _ w3 ⟨rfl, ht3, hs3⟩
    have HT3 := Aside0.mk (ht3.more (Nat.le_succ _) (Nat.le_succ _))
    clear ht3
    go_wp2_with fail
    repeat ((first | (with_reducible refine scope_body ?_) | go_step3); try (go_wp2_with fail))
    go_ret
    exact ⟨rfl, _, ⟨HT3.out, by show next.length ≤ _; omega⟩⟩
set_option maxRecDepth 100000 in
theorem step5_get (t : Both W w g m h N st) (a : Act) (A1 A2 : Option Addr) (c1 c2 : Nat) (ha : ActOk W a A1 A2) (hN : N ≤ 1000) (hd : a.what = 3) :
    Calls Try.prog 27 #[.pointer (some ⟨g, 0, none⟩), .pointer (some ⟨h, 0, none⟩), actV a A1 A2 c1 c2] w fun e w' => e = .returned (.bool true) ∧ ∃ st', Both W w' g m h (N + 1) st' := by
  obtain ⟨what, name, at_, n, data, next⟩ := a
  unfold actV
  dsimp only at hd ⊢
  have HT := Aside0.mk t
  have hnm : name.size ≤ maxLen := ha.name
  have hfew : data.length ≤ 300 := ha.few
  have hout : next.length ≤ 100 := ha.outs
  have HBT : Aside0 (Bts data) := ⟨ha.bts⟩
  have HDT : Aside0 (Kd.C (Kd.int .u8) W A1 data.length data) := ⟨ha.data⟩
  have HNT : Aside0 (Kd.C (Kd.int .i64) W A2 next.length next) := ⟨ha.next⟩
  have hsz := t.two.far.small
  have HSZ := Aside0.mk hsz
  have hnx := t.nx
  clear t ha hsz
  subst hd
  · go_enter Try.func27, Try.ntmps27
    go_wp2_with fail
    repeat ((first | (with_reducible refine scope_body ?_) | go_step3); try (go_wp2_with fail))
    obtain ⟨wb, hwb⟩ : ∃ wb, w.alloc (.cells #[.int .i64 3, .string name, .int .i64 at_, .int .i64 n, .slice A1 data.length c1, .slice A2 next.length c2] 49) = wb := ⟨_, rfl⟩
    have hb : Below w.heap.size w wb := by rw [← hwb]; exact (Below.refl _ w).alloc (Nat.le_refl _) _
    have d0 : wb.cell? ⟨w.heap.size, 0, none⟩ = some (.int .i64 3) := by rw [← hwb]; exact (blk_cell (heap_alloc_new _ _) 0).trans rfl
    have d1 : wb.cell? ⟨w.heap.size, 1, none⟩ = some (.string name) := by rw [← hwb]; exact (blk_cell (heap_alloc_new _ _) 1).trans rfl
    have d2 : wb.cell? ⟨w.heap.size, 2, none⟩ = some (.int .i64 at_) := by rw [← hwb]; exact (blk_cell (heap_alloc_new _ _) 2).trans rfl
    have d3 : wb.cell? ⟨w.heap.size, 3, none⟩ = some (.int .i64 n) := by rw [← hwb]; exact (blk_cell (heap_alloc_new _ _) 3).trans rfl
    have d4 : wb.cell? ⟨w.heap.size, 4, none⟩ = some (.slice A1 data.length c1) := by rw [← hwb]; exact (blk_cell (heap_alloc_new _ _) 4).trans rfl
    have d5 : wb.cell? ⟨w.heap.size, 5, none⟩ = some (.slice A2 next.length c2) := by rw [← hwb]; exact (blk_cell (heap_alloc_new _ _) 5).trans rfl
    rw [hwb]
    have TB : Aside0 (Two W wb g m h N N st st) := ⟨HT.out.two.below hb⟩
    have TD : Aside0 (Two W wb.drew g m h N N st st) := ⟨TB.out.below (Below.refl _ wb).drew⟩
    have hne : ¬ GMH g m h w.heap.size := fun hk => Nat.lt_irrefl _ (HT.out.two.far.bd _ hk)
    clear hwb hb
    refine (tf_get TB.out name hnm at_ n).mono ?_
    rintro _ w2 ⟨A5, c5, rfl, hl5, ht2, hs2⟩
    have HT2 := Aside0.mk ht2
    have HL5 := Aside0.mk hl5
    have e1 : w2.cell? ⟨w.heap.size, 1, none⟩ = some (.string name) := hs2.cell d1 hne
    have e2 : w2.cell? ⟨w.heap.size, 2, none⟩ = some (.int .i64 at_) := hs2.cell d2 hne
    have e3 : w2.cell? ⟨w.heap.size, 3, none⟩ = some (.int .i64 n) := hs2.cell d3 hne
    clear ht2 hl5
    go_wp2_with fail
    refine (tr_get HT2.out name at_ n HSZ.out).mono ?_
    rintro _ w3 ⟨A6, c6, rfl, hl6, ht3, hs3⟩
    have HT3 := Aside0.mk (ht3.more (Nat.le_succ _) (Nat.le_succ _))
    have hcv1 := Kd.C_string (P := Try.prog) (src := 22) (dst := 9) (c := c5) Try.underlying22 Try.underlying5 Try.underlying9 (HL5.out.step hs3.kept).now
    have hcv2 := Kd.C_string (P := Try.prog) (src := 22) (dst := 9) (c := c6) Try.underlying22 Try.underlying5 Try.underlying9 hl6.now
    clear ht3 hl6
    go_wp2_with fail
    refine (num2_calls _ _).mono ?_
    rintro _ _ ⟨rfl, rfl⟩
    clear hcv1 hcv2
    go_wp2_with fail
    repeat ((first | (with_reducible refine scope_body ?_) | go_step3); try (go_wp2_with fail))
    go_ret
    exact ⟨rfl, _, ⟨HT3.out, Nat.le_trans (took_nx _) hnx⟩⟩
set_option maxRecDepth 100000 in
theorem step5_list (t : Both W w g m h N st) (a : Act) (A1 A2 : Option Addr) (c1 c2 : Nat) (ha : ActOk W a A1 A2) (hN : N ≤ 1000) (hd : a.what = 4) :
    Calls Try.prog 27 #[.pointer (some ⟨g, 0, none⟩), .pointer (some ⟨h, 0, none⟩), actV a A1 A2 c1 c2] w fun e w' => e = .returned (.bool true) ∧ ∃ st', Both W w' g m h (N + 1) st' := by
  obtain ⟨what, name, at_, n, data, next⟩ := a
  unfold actV
  dsimp only at hd ⊢
  have HT := Aside0.mk t
  have hnm : name.size ≤ maxLen := ha.name
  have hfew : data.length ≤ 300 := ha.few
  have hout : next.length ≤ 100 := ha.outs
  have HBT : Aside0 (Bts data) := ⟨ha.bts⟩
  have HDT : Aside0 (Kd.C (Kd.int .u8) W A1 data.length data) := ⟨ha.data⟩
  have HNT : Aside0 (Kd.C (Kd.int .i64) W A2 next.length next) := ⟨ha.next⟩
  have hsz := t.two.far.small
  have HSZ := Aside0.mk hsz
  have hnx := t.nx
  clear t ha hsz
  subst hd
  · go_enter Try.func27, Try.ntmps27
    go_wp2_with fail
    repeat ((first | (with_reducible refine scope_body ?_) | go_step3); try (go_wp2_with fail))
    obtain ⟨wb, hwb⟩ : ∃ wb, w.alloc (.cells #[.int .i64 4, .string name, .int .i64 at_, .int .i64 n, .slice A1 data.length c1, .slice A2 next.length c2] 49) = wb := ⟨_, rfl⟩
    have hb : Below w.heap.size w wb := by rw [← hwb]; exact (Below.refl _ w).alloc (Nat.le_refl _) _
    have d0 : wb.cell? ⟨w.heap.size, 0, none⟩ = some (.int .i64 4) := by rw [← hwb]; exact (blk_cell (heap_alloc_new _ _) 0).trans rfl
    have d1 : wb.cell? ⟨w.heap.size, 1, none⟩ = some (.string name) := by rw [← hwb]; exact (blk_cell (heap_alloc_new _ _) 1).trans rfl
    have d2 : wb.cell? ⟨w.heap.size, 2, none⟩ = some (.int .i64 at_) := by rw [← hwb]; exact (blk_cell (heap_alloc_new _ _) 2).trans rfl
    have d3 : wb.cell? ⟨w.heap.size, 3, none⟩ = some (.int .i64 n) := by rw [← hwb]; exact (blk_cell (heap_alloc_new _ _) 3).trans rfl
    have d4 : wb.cell? ⟨w.heap.size, 4, none⟩ = some (.slice A1 data.length c1) := by rw [← hwb]; exact (blk_cell (heap_alloc_new _ _) 4).trans rfl
    have d5 : wb.cell? ⟨w.heap.size, 5, none⟩ = some (.slice A2 next.length c2) := by rw [← hwb]; exact (blk_cell (heap_alloc_new _ _) 5).trans rfl
    rw [hwb]
    have TB : Aside0 (Two W wb g m h N N st st) := ⟨HT.out.two.below hb⟩
    have TD : Aside0 (Two W wb.drew g m h N N st st) := ⟨TB.out.below (Below.refl _ wb).drew⟩
    have hne : ¬ GMH g m h w.heap.size := fun hk => Nat.lt_irrefl _ (HT.out.two.far.bd _ hk)
    clear hwb hb
    refine (tf_list TB.out (by omega)).mono ?_
    rintro _ w2 ⟨A5, c5, rfl, hc5, hl5, ht2, hs2⟩
    have HT2 := Aside0.mk ht2
    have HL5 := Aside0.mk hl5
    have HC5 := Aside0.mk hc5
    clear ht2 hl5 hc5
    go_wp2_with fail
    refine (tr_list HT2.out (by omega)).mono ?_
    rintro _ w3 ⟨A6, c6, rfl, hc6, hl6, ht3, hs3⟩
    have HT2b := Aside0.mk ht3
    have HL5b := Aside0.mk (HL5.out.step hs3.kept)
    have HL6 := Aside0.mk hl6
    have HC6 := Aside0.mk hc6
    clear ht3 hl6 hc6
    go_wp2_with fail
    refine (t_texts HL5b.out HL6.out HC5.out HC6.out).mono ?_
    rintro _ w4 ⟨rfl, hd4⟩
    have HT3 := Aside0.mk ((HT2b.out.drawn hd4).more (Nat.le_succ _) (Nat.le_succ _))
    clear hd4
    go_wp2_with fail
    refine (num2_calls _ _).mono ?_
    rintro _ _ ⟨rfl, rfl⟩
    go_wp2_with fail
    repeat ((first | (with_reducible refine scope_body ?_) | go_step3); try (go_wp2_with fail))
    go_ret
    exact ⟨rfl, _, ⟨HT3.out, Nat.le_trans (took_nx _) hnx⟩⟩
set_option maxRecDepth 100000 in
theorem step5_other (t : Both W w g m h N st) (a : Act) (A1 A2 : Option Addr) (c1 c2 : Nat) (hd : a.what ≠ 0 ∧ a.what ≠ 1 ∧ a.what ≠ 2 ∧ a.what ≠ 3 ∧ a.what ≠ 4 ∧ a.what ≠ 5) :
    Calls Try.prog 27 #[.pointer (some ⟨g, 0, none⟩), .pointer (some ⟨h, 0, none⟩), actV a A1 A2 c1 c2] w fun e w' => e = .returned (.bool true) ∧ ∃ st', Both W w' g m h (N + 1) st' := by
  obtain ⟨what, name, at_, n, data, next⟩ := a
  unfold actV
  dsimp only at hd ⊢
  have HT := Aside0.mk t
  obtain ⟨q0, q1, q2, q3, q4, q5⟩ : (what == 0) = false ∧ (what == 1) = false ∧ (what == 2) = false ∧ (what == 3) = false ∧ (what == 4) = false ∧ (what == 5) = false := by
    refine ⟨?_, ?_, ?_, ?_, ?_, ?_⟩ <;> simp only [beq_eq_false_iff_ne, ne_eq] <;> omega
  clear t hd
  go_enter Try.func27, Try.ntmps27
  go_wp2_with fail
  repeat ((first | (with_reducible refine scope_body ?_) | go_step3); try (go_wp2_with fail))
  go_ret
  exact ⟨rfl, _, ⟨(HT.out.two.below ((Below.refl _ w).alloc (Nat.le_refl _) _)).more (Nat.le_succ _) (Nat.le_succ _), HT.out.nx⟩⟩
/-- One act. -/
theorem step5_calls (t : Both W w g m h N st) (a : Act) (A1 A2 : Option Addr) (c1 c2 : Nat) (ha : ActOk W a A1 A2) (hN : N ≤ 1000) :
    Calls Try.prog 27 #[.pointer (some ⟨g, 0, none⟩), .pointer (some ⟨h, 0, none⟩), actV a A1 A2 c1 c2] w fun e w' => e = .returned (.bool true) ∧ ∃ st', Both W w' g m h (N + 1) st' := by
  by_cases h0 : a.what = 0
  · exact step5_next t a A1 A2 c1 c2 ha hN h0
  by_cases h1 : a.what = 1 ∨ a.what = 2
  · exact step5_put t a A1 A2 c1 c2 ha hN h1
  by_cases h3 : a.what = 3
  · exact step5_get t a A1 A2 c1 c2 ha hN h3
  by_cases h4 : a.what = 4
  · exact step5_list t a A1 A2 c1 c2 ha hN h4
  by_cases h5 : a.what = 5
  · exact step5_drop t a A1 A2 c1 c2 ha hN h5
  exact step5_other t a A1 A2 c1 c2 (by omega)
end
end Go.Proofs.Ytbedfilammjlpaa.P
