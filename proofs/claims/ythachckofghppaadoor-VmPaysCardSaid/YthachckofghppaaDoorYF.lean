/- vm.part; slices.Concat of two slices of bytes. -/
import Derived.Test.YthachckofghppaaDoorYE
import Derived.Lib.AppendZerosOnto
namespace Go.Proofs.YthachckofghppaaDoor
open Go.RowKit
set_option maxRecDepth 100000
set_option linter.unusedSimpArgs false
set_option linter.unusedVariables false

theorem ByC.midE {w : World} {a : Option Addr} {n c : Nat} {l : List UInt8} (h : ByC w (.slice a n c) l) {i j : Nat} (hij : i ≤ j) (hjn : j ≤ n) : ByC w (.slice (if c = i then a else a.map (·.add i)) (j - i) (c - i)) ((l.drop i).take (j - i)) := by
  obtain ⟨hn, hc⟩ := h.cap
  obtain ⟨a', c', h1, h2⟩ := h.mid hij hjn
  have e := (h1 w).symm.trans (slice_lh a n c hij (by omega) w)
  injection e with e
  injection e with e1 e2 e3
  subst e1 e3
  exact h2
/-- Bytes from n on, below m. -/
def partL (b : List UInt8) (n m : Nat) : List UInt8 := (b.drop (min (min n b.length) (min m b.length))).take (min m b.length - min (min n b.length) (min m b.length))
set_option maxHeartbeats 2000000 in
theorem part_ct {w : World} {X : Nat} {v : Value} {b : List UInt8} (h : ByX X w v b) (n m : Nat) (hn : n ≤ 1000000) (hm : m ≤ 1000000) :
    Calls Tryd.prog 26 #[v, .int .i64 n, .int .i64 m] w fun e w' => ∃ v', e = .returned v' ∧ ByX X w v' (partL b n m) ∧ w' = w := by
  obtain ⟨hb, a, c, hv, hc⟩ := h.at
  subst hv
  have hR : ∀ i j, i ≤ j → j ≤ b.length → ByX X w (.slice (if c = i then a else a.map (·.add i)) (j - i) (c - i)) ((b.drop i).take (j - i)) := fun i j hij hj w' k => (h w' k).midE hij hj
  have hbl : b.length ≤ maxLen := by obtain ⟨_, _, _, q, _⟩ := hb; exact q
  simp only [maxLen] at hbl
  clear hb h
  by_cases a1 : b.length < n
  · by_cases a2 : b.length < m
    · have hP : partL b n m = (b.drop (b.length)).take (b.length - b.length) := by
        unfold partL
        rw [show min (min n b.length) (min m b.length) = b.length by omega, show min m b.length = b.length by omega]
      rw [hP]
      have hRR := hR (b.length) (b.length) (by omega) (by omega)
      have sl := fun w' => slice_lh a b.length c (i := b.length) (j := b.length) (by omega) (by omega) w'
      generalize (Value.slice (if c = b.length then a else a.map (·.add (b.length))) (b.length - b.length) (c - b.length)) = V at sl hRR
      clear hP hR
      go_enter Tryd.func26, Tryd.ntmps26
      go_wp2_with (first
        | (refine wpl_val rfl (exec_slice_lh 22 _ _ _ rfl rfl rfl rfl (sl _)) ?_))
      go_ret
      exact ⟨_, rfl, hRR, rfl⟩
    · by_cases a3 : m < b.length
      · have hP : partL b n m = (b.drop (m)).take (m - m) := by
          unfold partL
          rw [show min (min n b.length) (min m b.length) = m by omega, show min m b.length = m by omega]
        rw [hP]
        have hRR := hR (m) (m) (by omega) (by omega)
        have sl := fun w' => slice_lh a b.length c (i := m) (j := m) (by omega) (by omega) w'
        generalize (Value.slice (if c = m then a else a.map (·.add (m))) (m - m) (c - m)) = V at sl hRR
        clear hP hR
        go_enter Tryd.func26, Tryd.ntmps26
        go_wp2_with (first
          | (refine wpl_val rfl (exec_slice_lh 22 _ _ _ rfl rfl rfl rfl (sl _)) ?_))
        go_ret
        exact ⟨_, rfl, hRR, rfl⟩
      · have hP : partL b n m = (b.drop (b.length)).take (m - b.length) := by
          unfold partL
          rw [show min (min n b.length) (min m b.length) = b.length by omega, show min m b.length = m by omega]
        rw [hP]
        have hRR := hR (b.length) (m) (by omega) (by omega)
        have sl := fun w' => slice_lh a b.length c (i := b.length) (j := m) (by omega) (by omega) w'
        generalize (Value.slice (if c = b.length then a else a.map (·.add (b.length))) (m - b.length) (c - b.length)) = V at sl hRR
        clear hP hR
        go_enter Tryd.func26, Tryd.ntmps26
        go_wp2_with (first
          | (refine wpl_val rfl (exec_slice_lh 22 _ _ _ rfl rfl rfl rfl (sl _)) ?_))
        go_ret
        exact ⟨_, rfl, hRR, rfl⟩
  · by_cases a2 : b.length < m
    · have hP : partL b n m = (b.drop (n)).take (b.length - n) := by
        unfold partL
        rw [show min (min n b.length) (min m b.length) = n by omega, show min m b.length = b.length by omega]
      rw [hP]
      have hRR := hR (n) (b.length) (by omega) (by omega)
      have sl := fun w' => slice_lh a b.length c (i := n) (j := b.length) (by omega) (by omega) w'
      generalize (Value.slice (if c = n then a else a.map (·.add (n))) (b.length - n) (c - n)) = V at sl hRR
      clear hP hR
      go_enter Tryd.func26, Tryd.ntmps26
      go_wp2_with (first
        | (refine wpl_val rfl (exec_slice_lh 22 _ _ _ rfl rfl rfl rfl (sl _)) ?_))
      go_ret
      exact ⟨_, rfl, hRR, rfl⟩
    · by_cases a3 : m < n
      · have hP : partL b n m = (b.drop (m)).take (m - m) := by
          unfold partL
          rw [show min (min n b.length) (min m b.length) = m by omega, show min m b.length = m by omega]
        rw [hP]
        have hRR := hR (m) (m) (by omega) (by omega)
        have sl := fun w' => slice_lh a b.length c (i := m) (j := m) (by omega) (by omega) w'
        generalize (Value.slice (if c = m then a else a.map (·.add (m))) (m - m) (c - m)) = V at sl hRR
        clear hP hR
        go_enter Tryd.func26, Tryd.ntmps26
        go_wp2_with (first
          | (refine wpl_val rfl (exec_slice_lh 22 _ _ _ rfl rfl rfl rfl (sl _)) ?_))
        go_ret
        exact ⟨_, rfl, hRR, rfl⟩
      · have hP : partL b n m = (b.drop (n)).take (m - n) := by
          unfold partL
          rw [show min (min n b.length) (min m b.length) = n by omega, show min m b.length = m by omega]
        rw [hP]
        have hRR := hR (n) (m) (by omega) (by omega)
        have sl := fun w' => slice_lh a b.length c (i := n) (j := m) (by omega) (by omega) w'
        generalize (Value.slice (if c = n then a else a.map (·.add (n))) (m - n) (c - n)) = V at sl hRR
        clear hP hR
        go_enter Tryd.func26, Tryd.ntmps26
        go_wp2_with (first
          | (refine wpl_val rfl (exec_slice_lh 22 _ _ _ rfl rfl rfl rfl (sl _)) ?_))
        go_ret
        exact ⟨_, rfl, hRR, rfl⟩

def Zb : Array Value := #[.int .u8 0]
theorem growB_nil {w : World} {k : Nat} (h0 : 0 < k) (hb : k ≤ 1000000) (ty : TypeId) :
    ∃ G, k ≤ G ∧ G ≤ maxLen ∧ (Builtin.append_ #[22, 3] ty #[.slice none 0 0, .int .i64 k]).run Tryd.prog w = .ok (.slice (some ⟨w.heap.size, 0, none⟩) k G) (w.drew.alloc (.cells (Builtin.zeroCells Zb k ++ Builtin.zeroCells Zb (G - k)) 5)) := by
  obtain ⟨inf, hi⟩ : ∃ i, Tryd.prog.info? 5 = some i := ⟨_, rfl⟩
  have hz : inf.zero = some (.int .u8 0) := by injection hi with hi; subst hi; rfl
  have hs : inf.size = 1 := by injection hi with hi; subst hi; rfl
  have hby : inf.bytes ≤ 100 := by injection hi with hi; subst hi; decide
  have h2 : k * inf.bytes ≤ 140737488355328 := Nat.le_trans (Nat.mul_le_mul hb hby) (by omega)
  have h1 : (0 + k) * inf.bytes ≤ 140737488355328 := by rw [Nat.zero_add]; exact h2
  have hold' : (Builtin.firstCells inf.size 0 (.slice none 0 0)).run Tryd.prog w.drew = .ok ([] : List Value).toArray w.drew := by
    simp [Builtin.firstCells]
  refine ⟨grownCap w (0 + k) 0 5, ?_, ?_, ?_⟩
  · have := grownCap_ge w (0 + k) 0 5; omega
  · exact grownCap_le_maxLen _ _ _ _ (by simp only [maxLen]; omega)
  · have := Lib.run_append_grow_zeros w 22 3 ty 5 inf (.int .u8 0) .i64 .i64 Tryd.underlying22 Tryd.underlying3 hi hz none 0 0 [] hold' k h0 (by omega) (by omega) (by omega) (by omega) (growslice_fits (by omega) h1)
    rw [this]
    simp only [Nat.zero_add, Value.cells]
    congr 3
    simp
    rfl
theorem slHiB {g n c k : Nat} {z : Int} (hz : z = (k : Int)) (hk : k ≤ c) (hc : 0 < c) (w : World) :
    (Instr.sliceAt 22 (.slice (some ⟨g, 0, none⟩) n c) none (some (.int .i64 z)) none).run Tryd.prog w = .ok (.slice (some ⟨g, 0, none⟩) k c) w := by
  subst hz
  rw [run_sliceAt_slice _ _ _ _ _ _ rfl, run_slice_h _ _ _ _ _ rfl _ _ (by omega) (by omega), sizeOf1]
  simp [Result.andThen, sliced, Addr.add]
/-- Room for k bytes. -/
theorem growB_ct (k : Nat) (hk : k ≤ 1000000) (w : World) :
    Calls Tryd.prog 38 #[.slice none 0 0, .int .i64 k] w fun e w' => ∃ v', e = .returned v' ∧ w'.ownsRow w.heap.size 5 1 v' 0 (bv []) ∧ Kept (fun _ => False) w w' := by
  have wk : IntKind.i64.wrap (k : Int) = (k : Int) := IntWalk.i64_in _ (by omega)
  by_cases h0 : k = 0
  · subst h0
    go_enter Tryd.func38, Tryd.ntmps38
    go_wp2_with fail
    go_ret
    exact ⟨_, rfl, World.ownsRow_nil _ _ _ _, Kept.refl _ _⟩
  · have d1 : decide ((k : Int) < 0) = false := decide_eq_false (by omega)
    have d2 : decide ((0 : Int) < (k : Int)) = true := decide_eq_true (by omega)
    have k0 : (0 : Int) < (k : Int) := by omega
    obtain ⟨G, g1, g2, ap⟩ := growB_nil (w := w) (k := k) (by omega) (by omega) 22
    have hs0 : ∀ w', (Instr.sliceAt 22 (.slice none 0 0) none (some (.int .i64 (0 : Int))) none).run Tryd.prog w' = .ok (.slice none 0 0) w' := fun w' => by kernel_rfl
    have hs1 : ∀ w', (Instr.sliceAt 22 (.slice (some ⟨w.heap.size, 0, none⟩) k G) none (some (.int .i64 ((0 : Nat) : Int))) none).run Tryd.prog w' = .ok (.slice (some ⟨w.heap.size, 0, none⟩) 0 G) w' := slHiB rfl (by omega) (by omega)
    have hc := heap_last w.drew (.cells (Builtin.zeroCells Zb k ++ Builtin.zeroCells Zb (G - k)) 5)
    have k1 : Kept (fun _ => False) w (w.drew.alloc (.cells (Builtin.zeroCells Zb k ++ Builtin.zeroCells Zb (G - k)) 5)) := (Kept.refl _ w).drew.alloc _
    have HO : Hid ((w.drew.alloc (.cells (Builtin.zeroCells Zb k ++ Builtin.zeroCells Zb (G - k)) 5)).ownsRow w.heap.size 5 1 (.slice (some ⟨w.heap.size, 0, none⟩) 0 G) 0 (bv [])) := by
      unfold Hid
      refine ⟨rfl, .inr ⟨w.heap.size, G, _, rfl, Nat.le_refl _, hc, by omega, g2, ?_, ?_⟩⟩
      · rw [Array.size_append, size_zeroCells, size_zeroCells, show Zb.size = 1 from rfl]; omega
      · simp [bv]
    clear hc
    generalize w.drew.alloc (.cells (Builtin.zeroCells Zb k ++ Builtin.zeroCells Zb (G - k)) 5) = W1 at ap k1 HO
    go_enter Tryd.func38, Tryd.ntmps38
    go_wp2_with (first
      | (refine wpl_val rfl (exec_append2 22 3 _ _ rfl rfl rfl ap) ?_))
    go_ret
    exact ⟨_, rfl, HO.out, k1⟩
set_option maxRecDepth 100000 in
set_option maxHeartbeats 2000000 in
theorem concatB_ct {w : World} {va vb : Value} {la lb : List UInt8} (ha : ByAt w va la) (hb : ByAt w vb lb) (hla : la.length ≤ 100000) (hlb : lb.length ≤ 100000) {gb : Nat} {t : TypeId} {fr : Nat × Nat} (hg : w.heap[gb]? = some (.cells #[va, vb] t fr)) :
    Calls Tryd.prog 25 #[.slice (some ⟨gb, 0, none⟩) 2 2] w fun e w' => ∃ v', e = .returned v' ∧ w'.ownsRow w.heap.size 5 1 v' (la ++ lb).length (bv (la ++ lb)) ∧ Kept (fun _ => False) w w' := by
  obtain ⟨aa, ca, hva⟩ := ha.slc
  subst hva
  obtain ⟨ab, cb, hvb⟩ := hb.slc
  subst hvb
  have hgl := (Array.getElem?_eq_some_iff.1 hg).1
  have c0 : ∀ w', Kept (fun _ => False) w w' → w'.cell? ⟨gb, 0, none⟩ = some (.slice aa la.length ca) := fun w' q => by rw [q.cell (p := ⟨gb, 0, none⟩) hgl not_false, cell_of_row _ _ _ _ _ _ hg]; rfl
  have c1 : ∀ w', Kept (fun _ => False) w w' → w'.cell? ⟨gb, 1, none⟩ = some (.slice ab lb.length cb) := fun w' q => by rw [q.cell (p := ⟨gb, 1, none⟩) hgl not_false, cell_of_row _ _ _ _ _ _ hg]; rfl
  obtain ⟨n, hn⟩ : ∃ n, n = la.length + lb.length := ⟨_, rfl⟩
  have wla : IntKind.i64.wrap (la.length : Int) = (la.length : Int) := IntWalk.i64_in _ (by omega)
  have wn : IntKind.i64.wrap ((la.length : Int) + (lb.length : Int)) = (n : Int) := by rw [IntWalk.i64_in _ (by omega)]; omega
  have d1 : decide ((la.length : Int) < 0) = false := decide_eq_false (by omega)
  have d2 : decide ((n : Int) < 0) = false := decide_eq_false (by omega)
  have c00 := c0 w (Kept.refl _ w)
  have c11 := c1 w (Kept.refl _ w)
  have HN := Lib.hid hn
  have gc := growB_ct n (by omega) w
  clear hn
  go_enter Tryd.func25, Tryd.ntmps25
  go_wp2_with fail
  refine wp_loop_rounds 3 ?_
  rw [rounds_succ]
  go_wp2_with fail
  rw [rounds_succ]
  go_wp2_with fail
  rw [rounds_succ]
  go_wp2_with fail
  refine gc.mono ?_
  rintro e W ⟨v1, rfl, ho, k1⟩
  obtain ⟨v2, W2, ap1, ho1, gr1⟩ := app_by ho (ha.kept k1) (by omega) k1.size 22
  rw [Nat.zero_add, ← bv_app, List.nil_append] at ho1
  have k2 : Kept (fun _ => False) w W2 := grown_kept k1 gr1 (fun k e => (World.ownsRow.lt ho k e).1)
  obtain ⟨v3, W3, ap2, ho2, gr2⟩ := app_by ho1 (hb.kept k2) (by omega) k2.size 22
  rw [← bv_app] at ho2
  have k3 : Kept (fun _ => False) w W3 := grown_kept k2 gr2 (fun k e => (World.ownsRow.lt ho1 k e).1)
  obtain ⟨a1, cc1, hv1⟩ := row_form ho
  subst hv1
  obtain ⟨a2, cc2, hv2⟩ := row_form ho1
  subst hv2
  obtain ⟨a3, cc3, hv3⟩ := row_form ho2
  subst hv3
  have c01 := c0 W k1
  have c12 := c1 W2 k2
  have HO : Hid (W3.ownsRow w.heap.size 5 1 (.slice a3 (la.length + lb.length) cc3) (la ++ lb).length (bv (la ++ lb))) := by
    unfold Hid; rw [List.length_append]; exact ho2
  clear ho ho1 ho2 gr1 gr2
  go_wp2_with fail
  refine wp_loop_rounds 3 ?_
  rw [rounds_succ]
  go_wp2_with (first
    | (refine wpl_val rfl (exec_append2 22 22 _ _ rfl rfl rfl ap1) ?_))
  rw [rounds_succ]
  go_wp2_with (first
    | (refine wpl_val rfl (exec_append2 22 22 _ _ rfl rfl rfl ap2) ?_))
  rw [rounds_succ]
  go_wp2_with fail
  go_ret
  exact ⟨_, rfl, HO.out, k3⟩
end Go.Proofs.YthachckofghppaaDoor
