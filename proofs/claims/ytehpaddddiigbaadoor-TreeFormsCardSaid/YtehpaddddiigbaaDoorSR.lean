/- merkle: chunk, leaf, pair, root. -/
import Derived.Test.YtehpaddddiigbaaDoorSQ
namespace Go.Proofs.YtehpaddddiigbaaDoor
open Go.RowKit
set_option maxRecDepth 100000
set_option linter.unusedSimpArgs false
set_option linter.unusedVariables false

section
variable {P : Program} {o : Oper} {a : Act} {w w1 : World} {v p q q2 : Value}
theorem exec_slice_lh (ty : TypeId) (x y z : Operand) (ho : o.op = .slice ty x (some y) (some z) none) (hx : a.eval x = p) (hy : a.eval y = q) (hz : a.eval z = q2) (h : (Instr.sliceAt ty p (some q) (some q2) none).run P w = .ok v w) : (execOp a.eval o).run P w = .ok (.value v) w := by
  unfold execOp; simp only [ho, hx, hy, hz, Option.map_some, Option.map_none, Sem.run_bind, h, Result.andThen_ok]; rfl
end
theorem ByC.mid {w : World} {a : Option Addr} {n c : Nat} {l : List UInt8} (h : ByC w (.slice a n c) l) {i j : Nat} (hij : i ≤ j) (hjn : j ≤ n) : ∃ a' c', (∀ w', (Instr.sliceAt 32 (.slice a n c) (some (.int .i64 (i : Int))) (some (.int .i64 (j : Int))) none).run Tryd.prog w' = .ok (.slice a' (j - i) c') w') ∧ ByC w (.slice a' (j - i) c') ((l.drop i).take (j - i)) := by
  obtain ⟨hn, hc⟩ := h.cap
  have hd : ((l.drop i).take (j - i)).length = j - i := by rw [List.length_take, List.length_drop]; omega
  refine ⟨if c = i then a else a.map (·.add i), c - i, fun w' => slice_lh a n c hij (by omega) w', ?_, _, _, by rw [hd], by omega⟩
  have h1' := h.1
  obtain ⟨_, _, _, hm, _⟩ := h1'
  refine ⟨_, c - i, by rw [hd], by omega, fun hne => ?_⟩
  have hlt : i < j := by
    rcases Nat.lt_or_ge i j with h' | h'
    · exact h'
    · exact absurd (List.eq_nil_of_length_eq_zero (by rw [hd]; omega)) hne
  have hlne : l ≠ [] := fun e => by subst e; simp at hn; omega
  obtain ⟨b, o, rfl, hb, hr⟩ := h.1.cells hlne
  rw [if_neg (by omega)]
  refine ⟨b, o + i, by simp [Addr.add], hb, fun k u hu => ?_⟩
  have hk := (List.getElem?_eq_some_iff.1 hu).1
  rw [bv_len, hd] at hk
  have := hr (i + k) u (by rw [← hu]; simp [bv, List.getElem?_take, hk])
  rw [show o + i + k = o + (i + k) by omega]; exact this
set_option maxHeartbeats 1000000 in
theorem bclone_ct {w : World} {v : Value} {l : List UInt8} (h : ByAt w v l) (hl : l.length ≤ 500000) :
    Calls Tryd.prog 63 #[v] w fun e w' => ∃ x, e = .returned x ∧ ByAt w' x l ∧ Kept (fun _ => False) w w' := by
  obtain ⟨a, c, rfl⟩ := h.slc
  have q25 : ∀ (w : World) (a : Option Addr) (n c n' c' : Nat), (binOp .eql 32 (.slice a n c) (.slice none n' c')).run Tryd.prog w = .ok (.bool a.isNone) w := fun w a n c n' c' => Lib.run_eql_slice_nil w _ _ a n c n' c' Tryd.underlying32
  cases a with
  | none =>
    have hl0 : l = [] := by
      apply Classical.byContradiction; intro hh
      obtain ⟨b, o, e, _⟩ := h.cells hh; cases e
    subst hl0
    go_enter Tryd.func63, Tryd.ntmps63
    go_wp2_with fail
    go_ret
    exact ⟨_, rfl, ByAt.nil _ _, Kept.refl _ _⟩
  | some ad =>
    have k1 : Kept (fun _ => False) w (w.alloc (.cells #[] 5)) := (Kept.refl _ w).alloc _
    have ho : (w.alloc (.cells #[] 5)).ownsRow w.heap.size 5 1 (.slice (some ⟨w.heap.size, 0, none⟩) 0 0) 0 (bv []) := World.ownsRow_made w #[] 0 (Nat.le_refl _) (Nat.zero_le _) rfl
    have bs0 : (Instr.buildSlice 32 0 #[]).run Tryd.prog w = .ok (.slice (some ⟨w.heap.size, 0, none⟩) 0 0) (w.alloc (.cells #[] 5)) := by kernel_rfl
    obtain ⟨v1, W1, ap1, ho1, hg1⟩ := app_by ho (h.kept k1) (by omega) k1.size 32
    rw [← bv_app, List.nil_append, Nat.zero_add] at ho1
    have k2 := grown_kept k1 hg1 (fun k e => (World.ownsRow.lt ho k e).1)
    obtain ⟨a1, c1, rfl⟩ := row_form ho1
    clear ho hg1
    go_enter Tryd.func63, Tryd.ntmps63
    go_wp2_with (first
      | (with_reducible refine wpl_bslice 32 _ _ rfl rfl ?_ bs0 ?_
         · (go_simp <;> rfl)
         simp only [Act.put, List.getElem_toArray, List.getElem_cons_zero, List.getElem_cons_succ, List.setIfInBounds_toArray, List.set_cons_zero, List.set_cons_succ])
      | (refine wpl_val rfl (exec_append 32 _ _ rfl rfl rfl ap1) ?_))
    go_ret
    exact ⟨_, rfl, ByAt.own ho1, k2⟩
theorem chunk_take (b : List UInt8) {i e : Nat} (he : e = min b.length (64 * (i + 1))) : (b.drop (64 * i)).take (e - 64 * i) = chunkL b i := by
  unfold chunkL
  have hl : (b.drop (64 * i)).length = b.length - 64 * i := List.length_drop ..
  by_cases h : b.length ≤ 64 * (i + 1)
  · rw [List.take_of_length_le (by omega), List.take_of_length_le (by omega)]
  · rw [show e - 64 * i = 64 by omega]
set_option maxHeartbeats 2000000 in
theorem chunk_ct {w : World} {v : Value} {b : List UInt8} (h : ByC w v b) (hl : b.length ≤ 100000) {i : Nat} (hi : i < cnt b.length) :
    Calls Tryd.prog 48 #[v, .int .i64 (i : Int)] w fun e w' => ∃ x, e = .returned (.tuple #[x, .int .i64 0]) ∧ ByAt w' x (chunkL b i) ∧ Kept (fun _ => False) w w' := by
  obtain ⟨a, c, rfl, _⟩ := h.2
  have cc := count_ct b.length (by omega) w
  have hch := fun e => chunk_take b (i := i) (e := e)
  obtain ⟨n, hn⟩ : ∃ n, b.length = n := ⟨_, rfl⟩
  rw [hn] at h cc hi hl hch ⊢
  have hcn : cnt n ≤ 10000 := by unfold cnt; omega
  have hi64 : 64 * i ≤ n := by unfold cnt at hi; omega
  obtain ⟨m, hm⟩ : ∃ m, cnt n = m := ⟨_, rfl⟩
  rw [hm] at cc hi hcn
  have him : ¬ (m : Int) ≤ (i : Int) := by omega
  have hi0 : ¬ (i : Int) < 0 := by omega
  obtain ⟨s, hs⟩ : ∃ s, s = 64 * i := ⟨_, rfl⟩
  obtain ⟨e1, he1⟩ : ∃ e, e = 64 * (i + 1) := ⟨_, rfl⟩
  have hsi : (i : Int) * 64 = (s : Int) := by omega
  have hei : ((i : Int) + 1) * 64 = (e1 : Int) := by omega
  have hse : s ≤ n := by omega
  have hse1 : s ≤ e1 := by omega
  rw [← hs, ← he1] at hch
  by_cases hle : n ≤ e1
  · obtain ⟨a', c', hsl, hb2⟩ := h.mid hse (Nat.le_refl n)
    rw [hch n (by omega)] at hb2
    have hlei : (n : Int) ≤ (e1 : Int) := by omega
    have hlei2 : ¬ (e1 : Int) < (n : Int) := by omega
    clear hn hm hs he1 hi64 hch
    go_enter Tryd.func48, Tryd.ntmps48
    go_wp2_with fail
    refine cc.mono ?_
    rintro e W ⟨rfl, rfl⟩
    go_wp2_with (first
      | (refine wpl_val rfl (exec_slice_lh 32 _ _ _ rfl rfl rfl rfl (hsl _)) ?_))
    refine (bclone_ct hb2.1 (by rw [← hb2.cap.1]; omega)).mono ?_
    rintro e W2 ⟨x, rfl, hx, kx⟩
    go_wp2_with fail
    go_ret2
    exact ⟨_, rfl, hx, kx⟩
  · obtain ⟨a', c', hsl, hb2⟩ := h.mid hse1 (show e1 ≤ n by omega)
    rw [hch e1 (by omega)] at hb2
    have hlei : ¬ (n : Int) ≤ (e1 : Int) := by omega
    have hlei2 : (e1 : Int) < (n : Int) := by omega
    clear hn hm hs he1 hi64 hch
    go_enter Tryd.func48, Tryd.ntmps48
    go_wp2_with fail
    refine cc.mono ?_
    rintro e W ⟨rfl, rfl⟩
    go_wp2_with (first
      | (refine wpl_val rfl (exec_slice_lh 32 _ _ _ rfl rfl rfl rfl (hsl _)) ?_))
    refine (bclone_ct hb2.1 (by rw [← hb2.cap.1]; omega)).mono ?_
    rintro e W2 ⟨x, rfl, hx, kx⟩
    go_wp2_with fail
    go_ret2
    exact ⟨_, rfl, hx, kx⟩

theorem bslice_two (x y : Value) (hx : ∃ a n c, x = .slice a n c) (hy : ∃ a n c, y = .slice a n c) (w : World) : (Instr.buildSlice 91 2 #[(0, x), (1, y)]).run Tryd.prog w = .ok (.slice (some ⟨w.heap.size, 0, none⟩) 2 2) (w.alloc (.cells #[x, y] 32)) := by
  obtain ⟨a, n, c, rfl⟩ := hx
  obtain ⟨a', n', c', rfl⟩ := hy
  kernel_rfl
theorem rows_two {w : World} {x y : Value} {l m : List UInt8} (hx : ByAt w x l) (hy : ByAt w y m) : RowsAt (w.alloc (.cells #[x, y] 32)) (.slice (some ⟨w.heap.size, 0, none⟩) 2 2) [l, m] :=
  ⟨w.heap.size, [x, y], 2, rfl, rfl, heap_last _ _, fun j z hz => by
    have k2 : Kept (fun _ => False) w (w.alloc (.cells #[x, y] 32)) := (Kept.refl _ w).alloc _
    match j, hz with
    | 0, hz => simp at hz; subst hz; exact ⟨_, rfl, hx.kept k2⟩
    | 1, hz => simp at hz; subst hz; exact ⟨_, rfl, hy.kept k2⟩⟩
def leafL (i : Nat) (ch : List UInt8) : List UInt8 := shaL (0 :: (be8 i ++ ch))
def pairL (a b : List UInt8) : List UInt8 := shaL (1 :: (a ++ b))
def topL (n : Nat) (t : List UInt8) : List UInt8 := shaL (2 :: (be8 n ++ t))
set_option maxHeartbeats 2000000 in
theorem leaf_ct {w : World} {v : Value} {ch : List UInt8} (h : ByAt w v ch) (hl : ch.length ≤ 64) {i : Nat} (hi : i ≤ 1000000) (hT : Tabs w) :
    Calls Tryd.prog 49 #[.int .i64 (i : Int), v] w fun e w' => e = .returned ((Value.agg (List.toArray (kv .u8 (nv (leafL i ch)))))) ∧ Kept (fun _ => False) w w' := by
  have zz := zeroDig
  obtain ⟨va, vc, hv⟩ := h.slc
  go_enter Tryd.func49, Tryd.ntmps49
  go_upto_region 1 with (first
    | (with_reducible refine wpl_alloc 27 rfl rfl (zz _) ?_
       simp only [World.size_alloc, Act.put, List.getElem_toArray, List.getElem_cons_zero, List.getElem_cons_succ, List.setIfInBounds_toArray, List.set_cons_zero, List.set_cons_succ]))
  obtain ⟨X, hX⟩ : ∃ X, w.heap.size = X := ⟨_, rfl⟩
  have k0 := (Kept.refl (fun _ => False) w).alloc (.cells (kv .u8 z32).toArray 27)
  have m0 : Arr (w.alloc (.cells (kv .u8 z32).toArray 27)) X 27 .u8 z32 := Arr.new hX.symm
  rw [hX]
  generalize w.alloc (.cells (kv .u8 z32).toArray 27) = W0 at k0 m0 ⊢
  have HX := Lib.hid hX
  clear hX zz
  go_wp2_with fail
  refine (eight_ct i hi W0).mono ?_
  rintro e W1 ⟨a8, c8, rfl, h8, k1⟩
  have hx := h.kept (k0.trans k1)
  have bs := bslice_two (.slice a8 8 c8) v ⟨_, _, _, rfl⟩ ⟨_, _, _, hv⟩ W1
  have hR := rows_two h8.1 hx
  have k2 := (Kept.refl (fun _ => False) W1).alloc (.cells #[.slice a8 8 c8, v] 32)
  have kf := (k0.trans k1).trans k2
  have m1 := m0.stay (k1.trans k2) not_false
  have pc := parts_ct hR 0 (by simp [total, be8_len]; omega) (by simp) (hT.kept kf)
  rw [show [be8 i, ch].flatten = be8 i ++ ch by simp] at pc
  have pc2 : Calls Tryd.prog 51 #[.int .u8 0, .slice (some ⟨W1.heap.size, 0, none⟩) 2 2] (W1.alloc (.cells #[.slice a8 8 c8, v] 32)) _ := pc
  subst hv
  clear hR k1 k2 m0 pc
  go_wp2_with (first
    | (with_reducible refine wpl_bslice 91 _ _ rfl rfl ?_ bs ?_
       · (go_simp <;> rfl)
       simp only [Act.put, List.getElem_toArray, List.getElem_cons_zero, List.getElem_cons_succ, List.setIfInBounds_toArray, List.set_cons_zero, List.set_cons_succ]))
  refine pc2.mono ?_
  rintro e W3 ⟨rfl, kq⟩
  have hXX := HX.out
  have hdl : (nv (leafL i ch)).length = 32 := shaL_len _
  have m2 := m1.stay kq not_false
  have s1 := stDig m2 (m := nv (leafL i ch)) rfl hdl
  have p1 := m2.put (nv (leafL i ch))
  have kp : Kept (fun _ => False) w (W3.setRow (X) (kv .u8 (nv (leafL i ch))).toArray) := (kf.trans kq).setRow (fun h => absurd h (by omega)) _
  clear m1 m2 kf kq
  go_wp2_with (first
    | (with_reducible refine wpl_store 27 _ _ rfl rfl ?_ ?_ s1 ?_
       · rfl
       · rfl
       simp only [Act.put, List.getElem_toArray, List.getElem_cons_zero, List.getElem_cons_succ, List.setIfInBounds_toArray, List.set_cons_zero, List.set_cons_succ]))
  refine bodyPost_ret (results_cell_row rfl _ _ _ _ _ _ _ rfl p1 Tryd.underlying27 rfl (by rw [List.size_toArray, kv_len, hdl]; kernel_rfl)) rfl ?_
  exact ⟨rfl, kp⟩


set_option maxHeartbeats 2000000 in
theorem pair_ct (a b : List UInt8) (ha : a.length = 32) (hb : b.length = 32) {w : World} (hT : Tabs w) :
    Calls Tryd.prog 50 #[(Value.agg (List.toArray (kv .u8 (nv a)))), (Value.agg (List.toArray (kv .u8 (nv b))))] w fun e w' => e = .returned ((Value.agg (List.toArray (kv .u8 (nv (pairL a b)))))) ∧ Kept (fun _ => False) w w' := by
  have zz := zeroDig
  go_enter Tryd.func50, Tryd.ntmps50
  go_wp2_with (first
    | (with_reducible refine wpl_alloc 27 rfl rfl (zz _) ?_
       simp only [World.size_alloc, Act.put, List.getElem_toArray, List.getElem_cons_zero, List.getElem_cons_succ, List.setIfInBounds_toArray, List.set_cons_zero, List.set_cons_succ]))
  obtain ⟨X, hX⟩ : ∃ X, w.heap.size = X := ⟨_, rfl⟩
  have kk := fun (v : World) (o : Obj) => (Kept.refl (fun _ => False) v).alloc o
  have k0 := ((kk w (.cells (kv .u8 (nv a)).toArray 27)).trans (kk _ (.cells (kv .u8 (nv b)).toArray 27))).trans (kk _ (.cells (kv .u8 z32).toArray 27))
  have n0 : Arr ((((w.alloc (.cells (kv .u8 (nv a)).toArray 27)).alloc (.cells (kv .u8 (nv b)).toArray 27)).alloc (.cells (kv .u8 z32).toArray 27))) X 27 .u8 (nv a) := ((Arr.new hX.symm).stay (kk _ _) not_false).stay (kk _ _) not_false
  have n1 : Arr ((((w.alloc (.cells (kv .u8 (nv a)).toArray 27)).alloc (.cells (kv .u8 (nv b)).toArray 27)).alloc (.cells (kv .u8 z32).toArray 27))) (X + 1) 27 .u8 (nv b) := (Arr.new (by rw [World.size_alloc, hX])).stay (kk _ _) not_false
  have n2 : Arr ((((w.alloc (.cells (kv .u8 (nv a)).toArray 27)).alloc (.cells (kv .u8 (nv b)).toArray 27)).alloc (.cells (kv .u8 z32).toArray 27))) (X + 1 + 1) 27 .u8 z32 := Arr.new (by rw [World.size_alloc, World.size_alloc, hX])
  rw [hX]
  generalize ((w.alloc (.cells (kv .u8 (nv a)).toArray 27)).alloc (.cells (kv .u8 (nv b)).toArray 27)).alloc (.cells (kv .u8 z32).toArray 27) = W0 at k0 n0 n1 n2 ⊢
  have hXX := hX
  have HX := Lib.hid hX
  have kd : Kept (fun _ => False) W0 W0.drew := (Kept.refl _ W0).drew
  have m0 := n0.stay kd not_false
  have m1' := n1.stay kd not_false
  have m2' := n2.stay kd not_false
  have k1 := k0.trans kd
  clear n0 n1 n2 k0 kd kk zz hX hXX
  generalize hW1 : W0.drew = W1 at m0 m1' m2' k1
  have hA := (m0.byC ha (by simp [maxLen])).1
  have hB := (m1'.byC hb (by simp [maxLen])).1
  have bs := bslice_two (.slice (some ⟨X, 0, none⟩) 32 32) (.slice (some ⟨X + 1, 0, none⟩) 32 32) ⟨_, _, _, rfl⟩ ⟨_, _, _, rfl⟩ W1
  have hR := rows_two hA hB
  have k2 := (Kept.refl (fun _ => False) W1).alloc (.cells #[.slice (some ⟨X, 0, none⟩) 32 32, .slice (some ⟨X + 1, 0, none⟩) 32 32] 32)
  have kf := k1.trans k2
  have m1 := m2'.stay k2 not_false
  have pc := parts_ct hR 1 (by simp [total, ha, hb]) (by simp) (hT.kept kf)
  rw [show [a, b].flatten = a ++ b by simp] at pc
  have pc2 : Calls Tryd.prog 51 #[.int .u8 1, .slice (some ⟨W1.heap.size, 0, none⟩) 2 2] (W1.alloc (.cells #[.slice (some ⟨X, 0, none⟩) 32 32, .slice (some ⟨X + 1, 0, none⟩) 32 32] 32)) _ := pc
  clear hR k2 m0 m1' m2' k1 pc hA hB ha hb
  go_wp2_with fail
  refine still_tail 2 hW1 (by kernel_rfl) (by kernel_rfl) ?_
  simp only [List.take_succ_cons, List.take_zero, List.drop_succ_cons, List.drop_zero]
  clear hW1
  repeat still_step
  refine wpStill_nil ?_
  go_wp2_with (first
    | (with_reducible refine wpl_bslice 91 _ _ rfl rfl ?_ bs ?_
       · (go_simp <;> rfl)
       simp only [Act.put, List.getElem_toArray, List.getElem_cons_zero, List.getElem_cons_succ, List.setIfInBounds_toArray, List.set_cons_zero, List.set_cons_succ]))
  refine pc2.mono ?_
  rintro e W3 ⟨rfl, kq⟩
  have hXX := HX.out
  have hdl : (nv (pairL a b)).length = 32 := shaL_len _
  have m2 := m1.stay kq not_false
  have s1 := stDig m2 (m := nv (pairL a b)) rfl hdl
  have p1 := m2.put (nv (pairL a b))
  have kp : Kept (fun _ => False) w (W3.setRow (X + 1 + 1) (kv .u8 (nv (pairL a b))).toArray) := (kf.trans kq).setRow (fun h => absurd h (by omega)) _
  clear m1 m2 kf kq
  go_wp2_with (first
    | (with_reducible refine wpl_store 27 _ _ rfl rfl ?_ ?_ s1 ?_
       · rfl
       · rfl
       simp only [Act.put, List.getElem_toArray, List.getElem_cons_zero, List.getElem_cons_succ, List.setIfInBounds_toArray, List.set_cons_zero, List.set_cons_succ]))
  refine bodyPost_ret (results_cell_row rfl _ _ _ _ _ _ _ rfl p1 Tryd.underlying27 rfl (by rw [List.size_toArray, kv_len, hdl]; kernel_rfl)) rfl ?_
  exact ⟨rfl, kp⟩
set_option maxHeartbeats 2000000 in
theorem mroot_ct (n : Nat) (t : List UInt8) (hn : n ≤ 1000000) (ht : t.length = 32) {w : World} (hT : Tabs w) :
    Calls Tryd.prog 37 #[.int .i64 (n : Int), (Value.agg (List.toArray (kv .u8 (nv t))))] w fun e w' => e = .returned ((Value.agg (List.toArray (kv .u8 (nv (topL n t)))))) ∧ Kept (fun _ => False) w w' := by
  have zz := zeroDig
  go_enter Tryd.func37, Tryd.ntmps37
  go_wp2_with (first
    | (with_reducible refine wpl_alloc 27 rfl rfl (zz _) ?_
       simp only [World.size_alloc, Act.put, List.getElem_toArray, List.getElem_cons_zero, List.getElem_cons_succ, List.setIfInBounds_toArray, List.set_cons_zero, List.set_cons_succ]))
  obtain ⟨X, hX⟩ : ∃ X, w.heap.size = X := ⟨_, rfl⟩
  have kk := fun (v : World) (o : Obj) => (Kept.refl (fun _ => False) v).alloc o
  have k0 := (kk w (.cells (kv .u8 (nv t)).toArray 27)).trans (kk _ (.cells (kv .u8 z32).toArray 27))
  have n0 : Arr (((w.alloc (.cells (kv .u8 (nv t)).toArray 27)).alloc (.cells (kv .u8 z32).toArray 27))) X 27 .u8 (nv t) := (Arr.new hX.symm).stay (kk _ _) not_false
  have n1 : Arr (((w.alloc (.cells (kv .u8 (nv t)).toArray 27)).alloc (.cells (kv .u8 z32).toArray 27))) (X + 1) 27 .u8 z32 := Arr.new (by rw [World.size_alloc, hX])
  rw [hX]
  generalize (w.alloc (.cells (kv .u8 (nv t)).toArray 27)).alloc (.cells (kv .u8 z32).toArray 27) = W0 at k0 n0 n1 ⊢
  have HX := Lib.hid hX
  clear kk zz hX
  go_wp2_with fail
  refine wp_region_held_drew (S := (Kept (fun j => j = X + 1) W0)) (by kernel_rfl) ((Kept.refl _ W0).drew) (fun hHeld => ?_)
  refine held_q (v := ?_) (i := 0) rfl (by kernel_rfl) (by kernel_rfl) (by kernel_rfl) (fun _ _ _ h => h) (by rfl) hHeld ?_ ?_
  rotate_left
  · (intro w' hS'; go_simp <;> (with_reducible rfl))
  simp only [Act.put, List.getElem_toArray, List.getElem_cons_zero, List.getElem_cons_succ, List.setIfInBounds_toArray, List.set_cons_zero, List.set_cons_succ]
  refine held_q (v := ?_) (i := 2) rfl (by kernel_rfl) (by kernel_rfl) (by kernel_rfl) (fun _ _ _ h => h) (by rfl) hHeld ?_ ?_
  rotate_left
  · (intro w' hS'; go_simp <;> (with_reducible rfl))
  simp only [Act.put, List.getElem_toArray, List.getElem_cons_zero, List.getElem_cons_succ, List.setIfInBounds_toArray, List.set_cons_zero, List.set_cons_succ]
  refine held_c (i := 1) (f := 52) (args := #[.int .i64 (n : Int)]) (by kernel_rfl) rfl (by rfl) ?_ (eight_ct n hn _) ?_
  · (go_simp <;> rfl)
  rintro e W1 ⟨a8, c8, rfl, h8, k1⟩
  have hHeld := hHeld.trans (k1.mono (fun _ _ h => h.elim))
  refine ⟨_, rfl, hHeld, ?_⟩
  simp only [Act.put, List.getElem_toArray, List.getElem_cons_zero, List.getElem_cons_succ, List.setIfInBounds_toArray, List.set_cons_zero, List.set_cons_succ]
  have hXX := HX.out
  have k01 : Kept (fun _ => False) W0 W1 := (Kept.refl (fun _ => False) W0).drew.trans k1
  have hA := ((n0.stay k01 not_false).byC ht (by simp [maxLen])).1
  have bs := bslice_two (.slice a8 8 c8) (.slice (some ⟨X, 0, none⟩) 32 32) ⟨_, _, _, rfl⟩ ⟨_, _, _, rfl⟩ W1
  have hR := rows_two h8.1 hA
  have k2 := (Kept.refl (fun _ => False) W1).alloc (.cells #[.slice a8 8 c8, .slice (some ⟨X, 0, none⟩) 32 32] 32)
  have kf := (k0.trans k01).trans k2
  have m1 := n1.stay (k01.trans k2) not_false
  have pc := parts_ct hR 2 (by simp [total, be8_len, ht]) (by simp) (hT.kept kf)
  rw [show [be8 n, t].flatten = be8 n ++ t by simp] at pc
  have pc2 : Calls Tryd.prog 51 #[.int .u8 2, .slice (some ⟨W1.heap.size, 0, none⟩) 2 2] (W1.alloc (.cells #[.slice a8 8 c8, .slice (some ⟨X, 0, none⟩) 32 32] 32)) _ := pc
  refine held_v (i := 3) (v := .slice (some ⟨W1.heap.size, 0, none⟩) 2 2) (w1 := W1.alloc (.cells #[.slice a8 8 c8, .slice (some ⟨X, 0, none⟩) 32 32] 32)) (by kernel_rfl) rfl (by rfl) (exec_buildSlice (p := #[(0, .slice a8 8 c8), (1, .slice (some ⟨X, 0, none⟩) 32 32)]) 91 2 _ rfl (by go_simp <;> rfl) bs) (hHeld.alloc _) (fun hHeld => ?_)
  simp only [Act.put, List.getElem_toArray, List.getElem_cons_zero, List.getElem_cons_succ, List.setIfInBounds_toArray, List.set_cons_zero, List.set_cons_succ]
  refine held_c (i := 4) (f := 51) (args := #[.int .u8 2, .slice (some ⟨W1.heap.size, 0, none⟩) 2 2]) (by kernel_rfl) rfl (by rfl) ?_ pc2 ?_
  · (go_simp <;> rfl)
  rintro e W3 ⟨rfl, kq⟩
  have hHeld := hHeld.trans (kq.mono (fun _ _ h => h.elim))
  refine ⟨_, rfl, hHeld, ?_⟩
  simp only [Act.put, List.getElem_toArray, List.getElem_cons_zero, List.getElem_cons_succ, List.setIfInBounds_toArray, List.set_cons_zero, List.set_cons_succ]
  have hdl : (nv (topL n t)).length = 32 := shaL_len _
  have m2 := m1.stay kq not_false
  have s1 := stDig m2 (m := nv (topL n t)) rfl hdl
  have p1 := m2.put (nv (topL n t))
  have kp : Kept (fun _ => False) w (W3.setRow (X + 1) (kv .u8 (nv (topL n t))).toArray) := (kf.trans kq).setRow (fun h => absurd h (by omega)) _
  refine held_s (i := 5) (w1 := W3.setRow (X + 1) (kv .u8 (nv (topL n t))).toArray) (by kernel_rfl) rfl (by rfl) (exec_store 27 _ _ rfl rfl rfl s1) (hHeld.setRow (fun _ => rfl) _) (fun hHeld => ?_)
  simp only [Act.put, List.getElem_toArray, List.getElem_cons_zero, List.getElem_cons_succ, List.setIfInBounds_toArray, List.set_cons_zero, List.set_cons_succ]
  refine wpAnyH_done (by kernel_rfl) ?_ _
  go_wp2_with fail
  refine bodyPost_ret (results_cell_row rfl _ _ _ _ _ _ _ rfl p1 Tryd.underlying27 rfl (by rw [List.size_toArray, kv_len, hdl]; kernel_rfl)) rfl ?_
  exact ⟨rfl, kp⟩
