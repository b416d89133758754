/- Try. -/
import Derived.Test.YtbaehaleigpijaaC3
namespace Go.Proofs.Ytbaehaleigpijaa
open Go.RowKit
set_option linter.unusedSimpArgs false
set_option linter.unusedVariables false

theorem build_clm' (a0 a1 a2 a3 a4 a5 a6 a7 a8 a9 a10 a11 a12 a13 a14 a15 a16 a17 a18 a19 a20 a21 a22 a23 a24 a25 a26 a27 a28 a29 a30 a31 n i c : Int) (w : World) : (Instr.build 33 #[(0, .agg #[.int .u8 a0, .int .u8 a1, .int .u8 a2, .int .u8 a3, .int .u8 a4, .int .u8 a5, .int .u8 a6, .int .u8 a7, .int .u8 a8, .int .u8 a9, .int .u8 a10, .int .u8 a11, .int .u8 a12, .int .u8 a13, .int .u8 a14, .int .u8 a15, .int .u8 a16, .int .u8 a17, .int .u8 a18, .int .u8 a19, .int .u8 a20, .int .u8 a21, .int .u8 a22, .int .u8 a23, .int .u8 a24, .int .u8 a25, .int .u8 a26, .int .u8 a27, .int .u8 a28, .int .u8 a29, .int .u8 a30, .int .u8 a31]), (1, .int .i64 n), (2, .int .u64 i), (3, .int .u64 c)]).run Try.prog w = .ok (.agg #[.int .u8 a0, .int .u8 a1, .int .u8 a2, .int .u8 a3, .int .u8 a4, .int .u8 a5, .int .u8 a6, .int .u8 a7, .int .u8 a8, .int .u8 a9, .int .u8 a10, .int .u8 a11, .int .u8 a12, .int .u8 a13, .int .u8 a14, .int .u8 a15, .int .u8 a16, .int .u8 a17, .int .u8 a18, .int .u8 a19, .int .u8 a20, .int .u8 a21, .int .u8 a22, .int .u8 a23, .int .u8 a24, .int .u8 a25, .int .u8 a26, .int .u8 a27, .int .u8 a28, .int .u8 a29, .int .u8 a30, .int .u8 a31, .int .i64 n, .int .u64 i, .int .u64 c, .bool false]) w := by kernel_rfl
theorem build_clm {D : Array Value} (hD : IsDig D) (n i c : Int) (w : World) : (Instr.build 33 #[(0, .agg D), (1, .int .i64 n), (2, .int .u64 i), (3, .int .u64 c)]).run Try.prog w = .ok (.agg (clm D n i c false)) w := by
  obtain ⟨cs, h1, h2, rfl⟩ := hD
  match cs, h1 with
  | [a0, a1, a2, a3, a4, a5, a6, a7, a8, a9, a10, a11, a12, a13, a14, a15, a16, a17, a18, a19, a20, a21, a22, a23, a24, a25, a26, a27, a28, a29, a30, a31], _ => exact build_clm' a0 a1 a2 a3 a4 a5 a6 a7 a8 a9 a10 a11 a12 a13 a14 a15 a16 a17 a18 a19 a20 a21 a22 a23 a24 a25 a26 a27 a28 a29 a30 a31 n i c w
theorem build_own' (a0 a1 a2 a3 a4 a5 a6 a7 a8 a9 a10 a11 a12 a13 a14 a15 a16 a17 a18 a19 a20 a21 a22 a23 a24 a25 a26 a27 a28 a29 a30 a31 n i c b : Int) (w : World) : (Instr.build 64 #[(0, .agg #[.int .u8 a0, .int .u8 a1, .int .u8 a2, .int .u8 a3, .int .u8 a4, .int .u8 a5, .int .u8 a6, .int .u8 a7, .int .u8 a8, .int .u8 a9, .int .u8 a10, .int .u8 a11, .int .u8 a12, .int .u8 a13, .int .u8 a14, .int .u8 a15, .int .u8 a16, .int .u8 a17, .int .u8 a18, .int .u8 a19, .int .u8 a20, .int .u8 a21, .int .u8 a22, .int .u8 a23, .int .u8 a24, .int .u8 a25, .int .u8 a26, .int .u8 a27, .int .u8 a28, .int .u8 a29, .int .u8 a30, .int .u8 a31, .int .i64 n, .int .u64 i, .int .u64 c, .bool false]), (1, .int .i64 b)]).run Try.prog w = .ok (.agg #[.int .u8 a0, .int .u8 a1, .int .u8 a2, .int .u8 a3, .int .u8 a4, .int .u8 a5, .int .u8 a6, .int .u8 a7, .int .u8 a8, .int .u8 a9, .int .u8 a10, .int .u8 a11, .int .u8 a12, .int .u8 a13, .int .u8 a14, .int .u8 a15, .int .u8 a16, .int .u8 a17, .int .u8 a18, .int .u8 a19, .int .u8 a20, .int .u8 a21, .int .u8 a22, .int .u8 a23, .int .u8 a24, .int .u8 a25, .int .u8 a26, .int .u8 a27, .int .u8 a28, .int .u8 a29, .int .u8 a30, .int .u8 a31, .int .i64 n, .int .u64 i, .int .u64 c, .bool false, .int .i64 b]) w := by kernel_rfl
theorem build_own {D : Array Value} (hD : IsDig D) (n i c b : Int) (w : World) : (Instr.build 64 #[(0, .agg (clm D n i c false)), (1, .int .i64 b)]).run Try.prog w = .ok (ownV n i (.agg D) (c, b)) w := by
  obtain ⟨cs, h1, h2, rfl⟩ := hD
  match cs, h1 with
  | [a0, a1, a2, a3, a4, a5, a6, a7, a8, a9, a10, a11, a12, a13, a14, a15, a16, a17, a18, a19, a20, a21, a22, a23, a24, a25, a26, a27, a28, a29, a30, a31], _ => exact build_own' a0 a1 a2 a3 a4 a5 a6 a7 a8 a9 a10 a11 a12 a13 a14 a15 a16 a17 a18 a19 a20 a21 a22 a23 a24 a25 a26 a27 a28 a29 a30 a31 n i c b w

set_option maxHeartbeats 1000000 in
theorem try_live {w : World} {B m1 m2 m3 : Nat} {id inc wait ttl count : Int} {O L U} (h : Bk w B m1 m2 m3 id inc wait ttl count O L U) {D : Array Value} (hD : IsDig D) {now : Int} {n : Nat} (hn : live U D now = some n) :
    Calls Try.prog 10 #[.pointer (some ⟨B, 0, none⟩), .agg D, .int .i64 now] w fun e w' => e = .returned (.tuple #[.slice none 0 0, .bool false]) ∧ Kept (fun _ => False) w w' := by
  have hk : Kept (fun _ => False) w (w.alloc (.cells D 31)) := (Kept.refl _ w).alloc _
  have hB1 := h.kept hk
  have hl := load_dig hD (heap_last w (.cells D 31))
  have hm := live_any hD U now _ (hB1.cell 5 _ rfl) (hB1.cell 7 _ rfl) hB1.u
  have h5 := hB1.cell 5 _ rfl
  rw [hn] at hm
  have HN := Lib.hid hn
  clear hn
  go_enter Try.func10, Try.ntmps10
  go_wp2_with fail
  refine (none_some B m1 _ h5).mono ?_
  rintro e w' ⟨rfl, rfl⟩
  go_wp2_with (first
    | (with_reducible refine wpl_load 31 _ rfl rfl ?_ hl ?_
       · rfl
       simp only [Act.put, List.getElem_toArray, List.getElem_cons_zero, List.getElem_cons_succ, List.setIfInBounds_toArray, List.set_cons_zero, List.set_cons_succ]))
  refine hm.mono ?_
  rintro e w' ⟨rfl, hq⟩
  unfold liveV
  go_wp2_with fail
  go_ret2
  exact ⟨rfl, hk.trans hq⟩

set_option maxHeartbeats 2000000 in
theorem try_has {w : World} {B m1 m2 m3 : Nat} {id inc wait ttl count : Int} {O L U} (h : Bk w B m1 m2 m3 id inc wait ttl count O L U) {D : Array Value} (hD : IsDig D) {now : Int} (hn : live U D now = none) {c b : Int} (ho : O (.agg D) = some (c, b))
    (hb : 0 ≤ b ∧ b ≤ 4611686018427387904) (hw : 0 ≤ wait ∧ wait ≤ 1000000) :
    Calls Try.prog 10 #[.pointer (some ⟨B, 0, none⟩), .agg D, .int .i64 now] w fun e w' => e = .returned (.tuple #[.slice none 0 0, .bool (decide (b + wait ≤ now))]) ∧ Kept (fun _ => False) w w' := by
  have hk : Kept (fun _ => False) w (w.alloc (.cells D 31)) := (Kept.refl _ w).alloc _
  have hB1 := h.kept hk
  have hl := load_dig hD (heap_last w (.cells D 31))
  have hm := live_any hD U now _ (hB1.cell 5 _ rfl) (hB1.cell 7 _ rfl) hB1.u
  have h5 := hB1.cell 5 _ rfl
  have hlt : w.heap.size < (w.alloc (.cells D 31)).heap.size := by simp
  obtain ⟨l, hkey⟩ := hD.key
  rw [hn] at hm
  have HN := Lib.hid hn
  have HO := Lib.hid ho
  clear hn ho
  go_enter Try.func10, Try.ntmps10
  go_wp2_with fail
  refine (none_some B m1 _ h5).mono ?_
  rintro e w' ⟨rfl, rfl⟩
  go_wp2_with (first
    | (with_reducible refine wpl_load 31 _ rfl rfl ?_ hl ?_
       · rfl
       simp only [Act.put, List.getElem_toArray, List.getElem_cons_zero, List.getElem_cons_succ, List.setIfInBounds_toArray, List.set_cons_zero, List.set_cons_succ]))
  refine hm.mono ?_
  rintro e W ⟨rfl, hq⟩
  have hWk : Kept (fun _ => False) w W := hk.trans hq
  have hh : W.heap[w.heap.size]? = some (.cells D 31) := by rw [hq.block _ hlt not_false]; exact heap_last w _
  have hltW : w.heap.size < W.heap.size := Nat.lt_of_lt_of_le hlt hq.size
  have hWB := h.kept hWk
  clear hq hl hm hlt hk h5 hB1
  unfold liveV
  go_wp2_with fail
  have hc5 : ∀ w', Kept (fun _ => False) W w' → w'.cell? ⟨B, 5, none⟩ = some (.map (some m1)) := fun w' q => (hWB.kept q).cell 5 _ rfl
  have hlk : ∀ w', Kept (fun _ => False) W w' → (Instr.lookup 55 (.map (some m1)) (.agg D) true).run Try.prog w' = .ok (.tuple #[.agg (D ++ #[.int .i64 id, .int .u64 inc, .int .u64 c, .bool false, .int .i64 b]), .bool true]) w' := fun w' q => by
    rw [MapIs.look lawD Try.underlying55 (hWB.kept q).o (zeroOwn _) hkey true]; simp [HO.out, ownV, Value.cells]
  have hst := fun wx : World => store_new (P := Try.prog) (ty := 64) (c := Z37) (c' := D ++ #[.int .i64 id, .int .u64 inc, .int .u64 c, .bool false, .int .i64 b]) (by rw [ownV_size hD (c, b)]; kernel_rfl) (by rw [ownV_size hD (c, b)]; rfl) (own_oneCell hD (c, b)) (w := wx) rfl
  refine wp_region_held_drew (S := (Kept (fun _ => False) W)) (by kernel_rfl) ((Kept.refl _ W).drew) (fun hHeld => ?_)
  refine held_q (v := ?_) (i := 0) rfl (by kernel_rfl) (by kernel_rfl) (by kernel_rfl) (fun _ _ _ h => h) (by rfl) hHeld ?_ ?_
  rotate_left
  · (intro w' hS'; go_simp <;> (with_reducible rfl))
  simp only [Act.put, List.getElem_toArray, List.getElem_cons_zero, List.getElem_cons_succ, List.setIfInBounds_toArray, List.set_cons_zero, List.set_cons_succ]
  refine held_q (v := ?_) (i := 1) rfl (by kernel_rfl) (by kernel_rfl) (by kernel_rfl) (fun _ _ _ h => h) (by rfl) hHeld ?_ ?_
  rotate_left
  · (intro w' hS'; go_simp <;> (with_reducible rfl))
  simp only [Act.put, List.getElem_toArray, List.getElem_cons_zero, List.getElem_cons_succ, List.setIfInBounds_toArray, List.set_cons_zero, List.set_cons_succ]
  refine held_q (v := ?_) (i := 2) rfl (by kernel_rfl) (by kernel_rfl) (by kernel_rfl) (fun _ _ _ h => h) (by rfl) hHeld ?_ ?_
  rotate_left
  · (intro w' hS'; go_simp <;> (with_reducible rfl))
  simp only [Act.put, List.getElem_toArray, List.getElem_cons_zero, List.getElem_cons_succ, List.setIfInBounds_toArray, List.set_cons_zero, List.set_cons_succ]
  refine held_q (v := ?_) (i := 3) rfl (by kernel_rfl) (by kernel_rfl) (by kernel_rfl) (fun _ _ _ h => h) (by rfl) hHeld ?_ ?_
  rotate_left
  · (intro w' hS'; go_simp <;> (with_reducible rfl))
  simp only [Act.put, List.getElem_toArray, List.getElem_cons_zero, List.getElem_cons_succ, List.setIfInBounds_toArray, List.set_cons_zero, List.set_cons_succ]
  refine held_q (i := 4) rfl (by kernel_rfl) (by kernel_rfl) (by kernel_rfl) (fun _ _ _ h => h) (by rfl) hHeld (fun w' hS' => exec_load 31 _ rfl rfl (load_dig hD (by rw [hS'.block _ hltW not_false]; exact hh))) ?_
  simp only [Act.put, List.getElem_toArray, List.getElem_cons_zero, List.getElem_cons_succ, List.setIfInBounds_toArray, List.set_cons_zero, List.set_cons_succ]
  refine held_q (i := 5) rfl (by kernel_rfl) (by kernel_rfl) (by kernel_rfl) (fun _ _ _ h => h) (by rfl) hHeld (fun w' hS' => exec_lookup 55 _ _ _ rfl rfl rfl (hlk _ hS')) ?_
  simp only [Act.put, List.getElem_toArray, List.getElem_cons_zero, List.getElem_cons_succ, List.setIfInBounds_toArray, List.set_cons_zero, List.set_cons_succ]
  refine held_q (v := ?_) (i := 6) rfl (by kernel_rfl) (by kernel_rfl) (by kernel_rfl) (fun _ _ _ h => h) (by rfl) hHeld ?_ ?_
  rotate_left
  · (intro w' hS'; go_simp <;> (with_reducible rfl))
  simp only [Act.put, List.getElem_toArray, List.getElem_cons_zero, List.getElem_cons_succ, List.setIfInBounds_toArray, List.set_cons_zero, List.set_cons_succ]
  refine held_q (v := ?_) (i := 7) rfl (by kernel_rfl) (by kernel_rfl) (by kernel_rfl) (fun _ _ _ h => h) (by rfl) hHeld ?_ ?_
  rotate_left
  · (intro w' hS'; go_simp <;> (with_reducible rfl))
  simp only [Act.put, List.getElem_toArray, List.getElem_cons_zero, List.getElem_cons_succ, List.setIfInBounds_toArray, List.set_cons_zero, List.set_cons_succ]
  refine held_q (v := ?_) (i := 8) rfl (by kernel_rfl) (by kernel_rfl) (by kernel_rfl) (fun _ _ _ h => h) (by rfl) hHeld ?_ ?_
  rotate_left
  · (intro w' hS'; go_simp <;> (with_reducible rfl))
  simp only [Act.put, List.getElem_toArray, List.getElem_cons_zero, List.getElem_cons_succ, List.setIfInBounds_toArray, List.set_cons_zero, List.set_cons_succ]
  refine held_v (i := 9) (v := .pointer (some ⟨(W.drew).heap.size, 0, none⟩)) (w1 := (W.drew).alloc (.cells Z37 64)) (by kernel_rfl) rfl (by rfl) ?_ ?_ (fun hHeld => ?_)
  · refine exec_alloc 64 ?_ ?_
    · rfl
    · exact zeroOwn _
  · exact hHeld.alloc _
  simp only [Act.put, List.getElem_toArray, List.getElem_cons_zero, List.getElem_cons_succ, List.setIfInBounds_toArray, List.set_cons_zero, List.set_cons_succ]
  refine held_s (i := 10) (w1 := W.drew.alloc (.cells (D ++ #[.int .i64 id, .int .u64 inc, .int .u64 c, .bool false, .int .i64 b]) 64)) (by kernel_rfl) rfl (by rfl) ?_ ?_ (fun hHeld => ?_)
  · refine exec_store (p := .pointer (some ⟨W.drew.heap.size, 0, none⟩)) (q := .agg (D ++ #[.int .i64 id, .int .u64 inc, .int .u64 c, .bool false, .int .i64 b])) 64 (.tmp 10) (.tmp 30) ?_ ?_ ?_ ?_
    · rfl
    · rfl
    · rfl
    · exact hst W.drew
  · exact ((Kept.refl _ W).drew).alloc _
  simp only [Act.put, List.getElem_toArray, List.getElem_cons_zero, List.getElem_cons_succ, List.setIfInBounds_toArray, List.set_cons_zero, List.set_cons_succ]
  refine held_q (v := ?_) (i := 11) rfl (by kernel_rfl) (by kernel_rfl) (by kernel_rfl) (fun _ _ _ h => h) (by rfl) hHeld ?_ ?_
  rotate_left
  · (intro w' hS'; go_simp <;> (with_reducible rfl))
  simp only [Act.put, List.getElem_toArray, List.getElem_cons_zero, List.getElem_cons_succ, List.setIfInBounds_toArray, List.set_cons_zero, List.set_cons_succ]
  refine wpAnyH_done (by kernel_rfl) ?_ _
  generalize hW2 : W.drew.alloc (.cells (D ++ #[.int .i64 id, .int .u64 inc, .int .u64 c, .bool false, .int .i64 b]) 64) = W2 at hHeld ⊢
  have hr2 : W2.heap[W.heap.size]? = some (.cells (D ++ #[.int .i64 id, .int .u64 inc, .int .u64 c, .bool false, .int .i64 b]) 64) := by rw [← hW2]; exact heap_last W.drew _
  have hcc : W2.cell? ⟨W.heap.size, 36, none⟩ = some (.int .i64 b) := by
    rw [cell_of_row _ _ _ _ _ _ hr2, Array.getElem?_append_right (by rw [hD.size]; omega), hD.size]; rfl
  have hc2 : W2.cell? ⟨B, 2, none⟩ = some (.int .i64 wait) := (hWB.kept hHeld).cell 2 _ rfl
  have HW2 := Lib.hid hW2
  clear hW2 hc5 hlk hst hr2
  go_wp2_with fail
  go_quiet (fail)
  go_wp2_with fail
  go_ret2
  exact ⟨by simp, hWk.trans (hHeld.drewN _)⟩
end Go.Proofs.Ytbaehaleigpijaa
