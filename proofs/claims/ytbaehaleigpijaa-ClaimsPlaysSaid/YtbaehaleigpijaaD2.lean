/- The known case, walked. -/
import Derived.Test.YtbaehaleigpijaaD1
namespace Go.Proofs.Ytbaehaleigpijaa
open Go.RowKit
set_option linter.unusedSimpArgs false
set_option linter.unusedVariables false

set_option maxRecDepth 100000 in
set_option maxHeartbeats 4000000 in
theorem known_ct (w : World) :
    Calls Try.prog 9 #[] w fun e w' => e = .returned (.bool true) ∧ Kept (fun _ => False) w w' := by
  have hD : IsDig (dig 1) := dig_is (by omega)
  go_enter Try.func9, Try.ntmps9
  go_wp2_with fail
  refine (new_ct 3 7 5 20 w (by unfold NewOk; omega)).mono ?_
  rintro e W1 ⟨p, rfl, hk1, hp, hb1⟩
  have hi1 : Inv s0 0 := Inv.new (by unfold NewOk; omega)
  have hb1 : BkS W1 p s0 := hb1
  have hpl := hb1.lt
  unfold Pl.ptr
  have hbd := build_dig 1
  have hz := zeroDig
  have hst := store_new (P := Try.prog) (ty := 31) (c := Z32) (c' := dig 1) (by kernel_rfl) rfl (by simp [dig, Value.oneCell']) (w := W1) rfl
  have hl2 := load_dig hD (heap_last W1 (.cells (dig 1) 31))
  go_wp2_with (first
    | (with_reducible refine wpl_build 31 _ rfl rfl ?_ (hbd _) ?_
       · (go_simp <;> rfl)
       simp only [Act.put, List.getElem_toArray, List.getElem_cons_zero, List.getElem_cons_succ, List.setIfInBounds_toArray, List.set_cons_zero, List.set_cons_succ])
    | (with_reducible refine wpl_alloc 31 rfl rfl (hz _) ?_
       simp only [World.size_alloc, Act.put, List.getElem_toArray, List.getElem_cons_zero, List.getElem_cons_succ, List.setIfInBounds_toArray, List.set_cons_zero, List.set_cons_succ])
    | (with_reducible refine wpl_store 31 _ _ rfl rfl ?_ ?_ hst ?_
       · rfl
       · rfl
       simp only [Act.put, List.getElem_toArray, List.getElem_cons_zero, List.getElem_cons_succ, List.setIfInBounds_toArray, List.set_cons_zero, List.set_cons_succ])
    | (with_reducible refine wpl_load 31 _ rfl rfl ?_ hl2 ?_
       · rfl
       simp only [Act.put, List.getElem_toArray, List.getElem_cons_zero, List.getElem_cons_succ, List.setIfInBounds_toArray, List.set_cons_zero, List.set_cons_succ]))
  have hr2 : (W1.alloc (.cells (dig 1) 31)).heap[W1.heap.size]? = some (.cells (dig 1) 31) := heap_last W1 _
  have hb2 : BkS (W1.alloc (.cells (dig 1) 31)) p s0 := Bk.kept hb1 ((Kept.refl _ W1).alloc _)
  have hk2 : Kept (fun _ => False) w (W1.alloc (.cells (dig 1) 31)) := hk1.alloc _
  have hnS : ¬ p.S W1.heap.size := fun q => absurd (hpl _ q) (Nat.lt_irrefl _)
  have hsz2 : W1.heap.size < (W1.alloc (.cells (dig 1) 31)).heap.size := by simp
  generalize W1.alloc (.cells (dig 1) 31) = W2 at hr2 hb2 hk2 hsz2 ⊢
  clear hl2 hst hbd hz hk1 hb1
  -- Try at 0
  have hc1 := try_ct hb2 hi1 (by omega) hD 0 (by show (0 : Int) < _; omega)
  rw [known1] at hc1
  refine hc1.mono ?_
  rintro e W3 ⟨v1, rfl, ⟨r1, hr1s, rfl, hr1⟩, hk3, hb3⟩
  have hi2 : Inv s1 0 := by have := (hi1.try_ (dig 1) (now := 0) (by omega) (by omega)).1; rw [known1] at this; exact this
  have hb3 : BkS W3 p s1 := hb3
  have hr3 : W3.heap[W1.heap.size]? = some (.cells (dig 1) 31) := by rw [hk3.block _ hsz2 hnS]; exact hr2
  have hsz3 : W1.heap.size < W3.heap.size := Nat.lt_of_lt_of_le hsz2 hk3.size
  have hl3 := load_dig hD hr3
  have hkA : Kept p.S w W3 := (hk2.mono (fun _ _ q => q.elim)).trans hk3
  have n1 : ¬ p.S r1 := fun q => absurd (hb2.lt _ q) (by omega)
  have z1 : r1 < W3.heap.size := (Array.getElem?_eq_some_iff.1 hr1).1
  clear hc1 hk2 hb2 hr2 hi1 hsz2 hk3 hr1s
  have hbc := build_clm3 1 1 1 W3
  go_wp2_with (first
    | (with_reducible refine wpl_load 31 _ rfl rfl ?_ hl3 ?_
       · rfl
       simp only [Act.put, List.getElem_toArray, List.getElem_cons_zero, List.getElem_cons_succ, List.setIfInBounds_toArray, List.set_cons_zero, List.set_cons_succ])
    | (with_reducible refine wpl_build 33 _ rfl rfl ?_ hbc ?_
       · (go_simp <;> rfl)
       simp only [Act.put, List.getElem_toArray, List.getElem_cons_zero, List.getElem_cons_succ, List.setIfInBounds_toArray, List.set_cons_zero, List.set_cons_succ]))
  -- Hear at 3
  have hc2 := hear_ct hb3 hi2 (by omega) hD 1 0 1 false 3 (by omega) (by omega)
  rw [known2] at hc2
  refine hc2.mono ?_
  rintro e W4 ⟨v2, rfl, ⟨r2, hr2s, rfl, hr2⟩, hk4, hb4⟩
  have hi3 : Inv s2 0 := by have := (hi2.hear (dig 1) 1 0 1 false 3).1; rw [known2] at this; exact this
  have hr4 : W4.heap[W1.heap.size]? = some (.cells (dig 1) 31) := by rw [hk4.block _ hsz3 hnS]; exact hr3
  have hsz4 : W1.heap.size < W4.heap.size := Nat.lt_of_lt_of_le hsz3 hk4.size
  have hl4 := load_dig hD hr4
  have hr14 := (hk4.block _ z1 n1).trans hr1
  have n2 : ¬ p.S r2 := fun q => absurd (hb3.lt _ q) (by omega)
  have z2 : r2 < W4.heap.size := (Array.getElem?_eq_some_iff.1 hr2).1
  have z14 : r1 < W4.heap.size := Nat.lt_of_lt_of_le z1 hk4.size
  have hkB : Kept p.S w W4 := hkA.trans hk4
  clear hc2 hkA hb3 hr3 hi2 hsz3 hk4 hr2s hl3 hr1 z1 hbc
  go_wp2_with (first
    | (with_reducible refine wpl_load 31 _ rfl rfl ?_ hl4 ?_
       · rfl
       simp only [Act.put, List.getElem_toArray, List.getElem_cons_zero, List.getElem_cons_succ, List.setIfInBounds_toArray, List.set_cons_zero, List.set_cons_succ]))
  -- Try at 22
  have hc3 := try_ct hb4 hi3 (by omega) hD 22 (by show (1 : Int) < _; omega)
  rw [known3] at hc3
  refine hc3.mono ?_
  rintro e W5 ⟨v3, rfl, hv3, hk5, hb5⟩
  have hi4 : Inv s2 22 := hi3.mono (by omega)
  have hr5 : W5.heap[W1.heap.size]? = some (.cells (dig 1) 31) := by rw [hk5.block _ hsz4 hnS]; exact hr4
  have hsz5 : W1.heap.size < W5.heap.size := Nat.lt_of_lt_of_le hsz4 hk5.size
  have hl5 := load_dig hD hr5
  have hr15 := (hk5.block _ z14 n1).trans hr14
  have hr25 := (hk5.block _ z2 n2).trans hr2
  have z15 : r1 < W5.heap.size := Nat.lt_of_lt_of_le z14 hk5.size
  have z25 : r2 < W5.heap.size := Nat.lt_of_lt_of_le z2 hk5.size
  have hkC : Kept p.S w W5 := hkB.trans hk5
  clear hc3 hkB hb4 hr4 hi3 hsz4 hk5 hl4 hr14 hr2 z14 z2 hv3
  go_wp2_with (first
    | (with_reducible refine wpl_load 31 _ rfl rfl ?_ hl5 ?_
       · rfl
       simp only [Act.put, List.getElem_toArray, List.getElem_cons_zero, List.getElem_cons_succ, List.setIfInBounds_toArray, List.set_cons_zero, List.set_cons_succ]))
  -- Try at 23
  have hc4 := try_ct hb5 hi4 (by omega) hD 23 (by show (1 : Int) < _; omega)
  rw [known4] at hc4
  refine hc4.mono ?_
  rintro e W6 ⟨v4, rfl, ⟨r3, hr3s, rfl, hr3⟩, hk6, hb6⟩
  have hi5 : Inv s3 23 := by have := (hi4.try_ (dig 1) (now := 23) (by omega) (by omega)).1; rw [known4] at this; exact this
  have hr6 : W6.heap[W1.heap.size]? = some (.cells (dig 1) 31) := by rw [hk6.block _ hsz5 hnS]; exact hr5
  have hsz6 : W1.heap.size < W6.heap.size := Nat.lt_of_lt_of_le hsz5 hk6.size
  have hl6 := load_dig hD hr6
  have hr16 := (hk6.block _ z15 n1).trans hr15
  have hr26 := (hk6.block _ z25 n2).trans hr25
  have z16 : r1 < W6.heap.size := Nat.lt_of_lt_of_le z15 hk6.size
  have z26 : r2 < W6.heap.size := Nat.lt_of_lt_of_le z25 hk6.size
  have n3 : ¬ p.S r3 := fun q => absurd (hb5.lt _ q) (by omega)
  have z3 : r3 < W6.heap.size := (Array.getElem?_eq_some_iff.1 hr3).1
  have hkD : Kept p.S w W6 := hkC.trans hk6
  clear hc4 hkC hb5 hr5 hi4 hsz5 hk6 hl5 hr15 hr25 z15 z25 hr3s
  go_wp2_with (first
    | (with_reducible refine wpl_load 31 _ rfl rfl ?_ hl6 ?_
       · rfl
       simp only [Act.put, List.getElem_toArray, List.getElem_cons_zero, List.getElem_cons_succ, List.setIfInBounds_toArray, List.set_cons_zero, List.set_cons_succ]))
  -- Try at 28
  have hc5 := try_ct hb6 hi5 (by omega) hD 28 (by show (2 : Int) < _; omega)
  rw [known5.2] at hc5
  refine hc5.mono ?_
  rintro e W7 ⟨v5, rfl, hv5, hk7, hb7⟩
  have hr17 := (hk7.block _ z16 n1).trans hr16
  have hr27 := (hk7.block _ z26 n2).trans hr26
  have hr37 := (hk7.block _ z3 n3).trans hr3
  have hkE : Kept p.S w W7 := hkD.trans hk7
  have q1 : W7.cell? ⟨r1, 34, none⟩ = some (.int .u64 1) := by rw [cell_of_row _ _ _ _ _ _ hr17]; exact clm_at hD 3 7 1 false 2
  have q2 : W7.cell? ⟨r1, 33, none⟩ = some (.int .u64 7) := by rw [cell_of_row _ _ _ _ _ _ hr17]; exact clm_at hD 3 7 1 false 1
  have q3 : W7.cell? ⟨r2, 35, none⟩ = some (.bool true) := by rw [cell_of_row _ _ _ _ _ _ hr27]; exact clm_at hD 3 7 1 true 3
  have q4 : W7.cell? ⟨r3, 34, none⟩ = some (.int .u64 2) := by rw [cell_of_row _ _ _ _ _ _ hr37]; exact clm_at hD 3 7 2 false 2
  clear hc5 hkD hb6 hr6 hi5 hsz6 hk7 hl6 hr16 hr26 hr3 z16 z26 z3 hr17 hr27 hr37 hv5
  go_wp2_with fail
  go_ret
  exact ⟨rfl, hkE.mono (fun k hk q => absurd (hp k q) (by omega))⟩
end Go.Proofs.Ytbaehaleigpijaa
