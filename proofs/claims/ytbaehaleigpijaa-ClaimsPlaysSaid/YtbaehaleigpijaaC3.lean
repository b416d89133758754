/- Drop. -/
import Derived.Test.YtbaehaleigpijaaC2
namespace Go.Proofs.Ytbaehaleigpijaa
open Go.RowKit
set_option linter.unusedSimpArgs false
set_option linter.unusedVariables false

def Z36 : Array Value := #[.int .u8 0, .int .u8 0, .int .u8 0, .int .u8 0, .int .u8 0, .int .u8 0, .int .u8 0, .int .u8 0, .int .u8 0, .int .u8 0, .int .u8 0, .int .u8 0, .int .u8 0, .int .u8 0, .int .u8 0, .int .u8 0, .int .u8 0, .int .u8 0, .int .u8 0, .int .u8 0, .int .u8 0, .int .u8 0, .int .u8 0, .int .u8 0, .int .u8 0, .int .u8 0, .int .u8 0, .int .u8 0, .int .u8 0, .int .u8 0, .int .u8 0, .int .u8 0, .int .i64 0, .int .u64 0, .int .u64 0, .bool false]
theorem zeroClm (w : World) : (zeroValue 33).run Try.prog w = .ok (.agg Z36) w := by kernel_rfl
theorem clm_size {D : Array Value} (hD : IsDig D) (n i c : Int) (g : Bool) : (clm D n i c g).size = 36 := by simp [hD.size]
theorem clm_oneCell {D : Array Value} (hD : IsDig D) (n i c : Int) (g : Bool) : (clm D n i c g).all (·.oneCell') = true := by
  rw [Array.all_append, hD.oneCell]; simp [Value.oneCell']
theorem clm_at {D : Array Value} (hD : IsDig D) (n i c : Int) (g : Bool) (j : Nat) : (clm D n i c g)[32 + j]? = (#[Value.int .i64 n, .int .u64 i, .int .u64 c, .bool g])[j]? := by
  rw [Array.getElem?_append_right (by rw [hD.size]; omega), hD.size]; congr 1; omega
theorem clm_set {D : Array Value} (hD : IsDig D) (n i c : Int) (g h : Bool) : (clm D n i c g).setIfInBounds 35 (.bool h) = clm D n i c h := by
  apply Array.ext'
  rw [Array.toList_setIfInBounds]
  simp only [clm, Array.toList_append]
  rw [List.set_append_right _ _ (by simp [hD.size])]
  simp [hD.size]
theorem field_own' (a0 a1 a2 a3 a4 a5 a6 a7 a8 a9 a10 a11 a12 a13 a14 a15 a16 a17 a18 a19 a20 a21 a22 a23 a24 a25 a26 a27 a28 a29 a30 a31 n i c b : Int) (w : World) : (Instr.field 64 (.agg #[.int .u8 a0, .int .u8 a1, .int .u8 a2, .int .u8 a3, .int .u8 a4, .int .u8 a5, .int .u8 a6, .int .u8 a7, .int .u8 a8, .int .u8 a9, .int .u8 a10, .int .u8 a11, .int .u8 a12, .int .u8 a13, .int .u8 a14, .int .u8 a15, .int .u8 a16, .int .u8 a17, .int .u8 a18, .int .u8 a19, .int .u8 a20, .int .u8 a21, .int .u8 a22, .int .u8 a23, .int .u8 a24, .int .u8 a25, .int .u8 a26, .int .u8 a27, .int .u8 a28, .int .u8 a29, .int .u8 a30, .int .u8 a31, .int .i64 n, .int .u64 i, .int .u64 c, .bool false, .int .i64 b]) 0).run Try.prog w = .ok (.agg #[.int .u8 a0, .int .u8 a1, .int .u8 a2, .int .u8 a3, .int .u8 a4, .int .u8 a5, .int .u8 a6, .int .u8 a7, .int .u8 a8, .int .u8 a9, .int .u8 a10, .int .u8 a11, .int .u8 a12, .int .u8 a13, .int .u8 a14, .int .u8 a15, .int .u8 a16, .int .u8 a17, .int .u8 a18, .int .u8 a19, .int .u8 a20, .int .u8 a21, .int .u8 a22, .int .u8 a23, .int .u8 a24, .int .u8 a25, .int .u8 a26, .int .u8 a27, .int .u8 a28, .int .u8 a29, .int .u8 a30, .int .u8 a31, .int .i64 n, .int .u64 i, .int .u64 c, .bool false]) w := by kernel_rfl
theorem field_own {D : Array Value} (hD : IsDig D) (n i c b : Int) (w : World) : (Instr.field 64 (.agg (D ++ #[.int .i64 n, .int .u64 i, .int .u64 c, .bool false, .int .i64 b])) 0).run Try.prog w = .ok (.agg (clm D n i c false)) w := by
  obtain ⟨cs, h1, h2, rfl⟩ := hD
  match cs, h1 with
  | [a0, a1, a2, a3, a4, a5, a6, a7, a8, a9, a10, a11, a12, a13, a14, a15, a16, a17, a18, a19, a20, a21, a22, a23, a24, a25, a26, a27, a28, a29, a30, a31], _ => exact field_own' a0 a1 a2 a3 a4 a5 a6 a7 a8 a9 a10 a11 a12 a13 a14 a15 a16 a17 a18 a19 a20 a21 a22 a23 a24 a25 a26 a27 a28 a29 a30 a31 n i c b w
theorem bslice_clm' (a0 a1 a2 a3 a4 a5 a6 a7 a8 a9 a10 a11 a12 a13 a14 a15 a16 a17 a18 a19 a20 a21 a22 a23 a24 a25 a26 a27 a28 a29 a30 a31 a32 a33 a34 a35 : Value) (w : World) : (Instr.buildSlice 36 1 #[(0, .agg #[a0, a1, a2, a3, a4, a5, a6, a7, a8, a9, a10, a11, a12, a13, a14, a15, a16, a17, a18, a19, a20, a21, a22, a23, a24, a25, a26, a27, a28, a29, a30, a31, a32, a33, a34, a35])]).run Try.prog w = .ok (.slice (some ⟨w.heap.size, 0, none⟩) 1 1) (w.alloc (.cells #[a0, a1, a2, a3, a4, a5, a6, a7, a8, a9, a10, a11, a12, a13, a14, a15, a16, a17, a18, a19, a20, a21, a22, a23, a24, a25, a26, a27, a28, a29, a30, a31, a32, a33, a34, a35] 33)) := by kernel_rfl
theorem bslice_clm {D : Array Value} (hD : IsDig D) (n i c : Int) (g : Bool) (w : World) : (Instr.buildSlice 36 1 #[(0, .agg (clm D n i c g))]).run Try.prog w = .ok (.slice (some ⟨w.heap.size, 0, none⟩) 1 1) (w.alloc (.cells (clm D n i c g) 33)) := by
  obtain ⟨cs, h1, h2, rfl⟩ := hD
  match cs, h1 with
  | [a0, a1, a2, a3, a4, a5, a6, a7, a8, a9, a10, a11, a12, a13, a14, a15, a16, a17, a18, a19, a20, a21, a22, a23, a24, a25, a26, a27, a28, a29, a30, a31], _ => exact bslice_clm' (.int .u8 a0) (.int .u8 a1) (.int .u8 a2) (.int .u8 a3) (.int .u8 a4) (.int .u8 a5) (.int .u8 a6) (.int .u8 a7) (.int .u8 a8) (.int .u8 a9) (.int .u8 a10) (.int .u8 a11) (.int .u8 a12) (.int .u8 a13) (.int .u8 a14) (.int .u8 a15) (.int .u8 a16) (.int .u8 a17) (.int .u8 a18) (.int .u8 a19) (.int .u8 a20) (.int .u8 a21) (.int .u8 a22) (.int .u8 a23) (.int .u8 a24) (.int .u8 a25) (.int .u8 a26) (.int .u8 a27) (.int .u8 a28) (.int .u8 a29) (.int .u8 a30) (.int .u8 a31) (.int .i64 n) (.int .u64 i) (.int .u64 c) (.bool g) w
theorem load_clm {c : Array Value} (hc : c.size = 36) {w : World} {b : Nat} {t : TypeId} {fr : Nat × Nat} (h : w.heap[b]? = some (.cells c t fr)) :
    (Instr.loadAt 33 (.pointer (some ⟨b, 0, none⟩))).run Try.prog w = .ok (.agg c) w :=
  load_row Try.underlying33 rfl h (by rw [hc]; kernel_rfl)

/-- What is sent: nothing, or one claim, in memory that was made since w. -/
def Sent (w w' : World) (v : Value) : Option (Array Value) → Prop
  | none => v = .slice none 0 0
  | some c => ∃ r, w.heap.size ≤ r ∧ v = .slice (some ⟨r, 0, none⟩) 1 1 ∧ w'.heap[r]? = some (.cells c 33 (0, 0))

set_option maxHeartbeats 1000000 in
theorem drop_none {w : World} {B m1 m2 m3 : Nat} {id inc wait ttl count : Int} {O L U} (h : Bk w B m1 m2 m3 id inc wait ttl count O L U) {D : Array Value} (hD : IsDig D) (ho : O (.agg D) = none) :
    Calls Try.prog 13 #[.pointer (some ⟨B, 0, none⟩), .agg D] w fun e w' => e = .returned (.slice none 0 0) ∧ Kept (fun _ => False) w w' := by
  have hk : Kept (fun _ => False) w (w.alloc (.cells D 31)) := (Kept.refl _ w).alloc _
  have hm := mine_any (h.kept hk) hD
  rw [ho] at hm
  have hl := load_dig hD (heap_last w (.cells D 31))
  have HO := Lib.hid ho
  clear ho
  go_enter Try.func13, Try.ntmps13
  go_wp2_with (first
    | (with_reducible refine wpl_load 31 _ rfl rfl ?_ hl ?_
       · rfl
       simp only [Act.put, List.getElem_toArray, List.getElem_cons_zero, List.getElem_cons_succ, List.setIfInBounds_toArray, List.set_cons_zero, List.set_cons_succ]))
  refine hm.mono ?_
  rintro e w' ⟨rfl, hq⟩
  go_wp2_with fail
  go_ret
  exact ⟨rfl, hk.trans hq⟩

set_option maxHeartbeats 2000000 in
theorem drop_some {w : World} {B m1 m2 m3 : Nat} {id inc wait ttl count : Int} {O L U} (h : Bk w B m1 m2 m3 id inc wait ttl count O L U) {D : Array Value} (hD : IsDig D) {c b : Int} (ho : O (.agg D) = some (c, b)) :
    Calls Try.prog 13 #[.pointer (some ⟨B, 0, none⟩), .agg D] w fun e w' => ∃ v, e = .returned v ∧ Sent w w' v (some (clm D id inc c true)) ∧ Kept (· = m1) w w' ∧
      MapIs Try.prog 31 w' m1 (put (fun x => (O x).map (ownV id inc x)) (.agg D) none) := by
  have hk : Kept (fun _ => False) w (w.alloc (.cells D 31)) := (Kept.refl _ w).alloc _
  have hm := mine_any (h.kept hk) hD
  have hl := load_dig hD (heap_last w (.cells D 31))
  have hlt : w.heap.size < (w.alloc (.cells D 31)).heap.size := by simp
  obtain ⟨l, hkey⟩ := hD.key
  rw [ho] at hm
  have HO := Lib.hid ho
  clear ho
  go_enter Try.func13, Try.ntmps13
  go_wp2_with (first
    | (with_reducible refine wpl_load 31 _ rfl rfl ?_ hl ?_
       · rfl
       simp only [Act.put, List.getElem_toArray, List.getElem_cons_zero, List.getElem_cons_succ, List.setIfInBounds_toArray, List.set_cons_zero, List.set_cons_succ]))
  refine hm.mono ?_
  rintro e W ⟨rfl, hq⟩
  have hWk : Kept (fun _ => False) w W := hk.trans hq
  have hh : W.heap[w.heap.size]? = some (.cells D 31) := by rw [hq.block _ hlt not_false]; exact heap_last w _
  have hltW : w.heap.size < W.heap.size := Nat.lt_of_lt_of_le hlt hq.size
  have hWB := h.kept hWk
  clear hq hl hm hlt hk
  go_wp2_with fail
  have hc5 : ∀ w', Kept (fun _ => False) W w' → w'.cell? ⟨B, 5, none⟩ = some (.map (some m1)) := fun w' q => (hWB.kept q).cell 5 _ rfl
  have hlk : ∀ w', Kept (fun _ => False) W w' → (Instr.lookup 55 (.map (some m1)) (.agg D) false).run Try.prog w' = .ok (.agg (D ++ #[.int .i64 id, .int .u64 inc, .int .u64 c, .bool false, .int .i64 b])) w' := fun w' q => by
    rw [MapIs.look lawD Try.underlying55 (hWB.kept q).o (zeroOwn _) hkey false]; simp [HO.out, ownV, Value.cells]
  have hst := fun wx : World => store_new (P := Try.prog) (ty := 33) (c := Z36) (c' := clm D id inc c false) (by rw [clm_size hD]; kernel_rfl) (by rw [clm_size hD]; rfl) (clm_oneCell hD _ _ _ _) (w := wx) rfl
  refine wp_region_held_drew (S := (Kept (fun _ => False) W)) (by kernel_rfl) ((Kept.refl _ W).drew) (fun hHeld => ?_)
  refine held_q (v := ?_) (i := 0) rfl (by kernel_rfl) (by kernel_rfl) (by kernel_rfl) (fun _ _ _ h => h) (by rfl) hHeld ?_ ?_
  rotate_left
  · (intro w' hS'; go_simp <;> (with_reducible rfl))
  simp only [Act.put, List.getElem_toArray, List.getElem_cons_zero, List.getElem_cons_succ, List.setIfInBounds_toArray, List.set_cons_zero, List.set_cons_succ]
  refine held_q (v := ?_) (i := 1) rfl (by kernel_rfl) (by kernel_rfl) (by kernel_rfl) (fun _ _ _ h => h) (by rfl) hHeld ?_ ?_
  rotate_left
  · (intro w' hS'; go_simp <;> (with_reducible rfl))
  simp only [Act.put, List.getElem_toArray, List.getElem_cons_zero, List.getElem_cons_succ, List.setIfInBounds_toArray, List.set_cons_zero, List.set_cons_succ]
  refine held_q (v := ?_) (i := 2) rfl (by kernel_rfl) (by kernel_rfl) (by kernel_rfl) (fun _ _ _ h => h) (by rfl) hHeld ?_ ?_
  rotate_left
  · (intro w' hS'; go_simp <;> (with_reducible rfl))
  simp only [Act.put, List.getElem_toArray, List.getElem_cons_zero, List.getElem_cons_succ, List.setIfInBounds_toArray, List.set_cons_zero, List.set_cons_succ]
  refine held_q (v := ?_) (i := 3) rfl (by kernel_rfl) (by kernel_rfl) (by kernel_rfl) (fun _ _ _ h => h) (by rfl) hHeld ?_ ?_
  rotate_left
  · (intro w' hS'; go_simp <;> (with_reducible rfl))
  simp only [Act.put, List.getElem_toArray, List.getElem_cons_zero, List.getElem_cons_succ, List.setIfInBounds_toArray, List.set_cons_zero, List.set_cons_succ]
  refine held_q (i := 4) rfl (by kernel_rfl) (by kernel_rfl) (by kernel_rfl) (fun _ _ _ h => h) (by rfl) hHeld (fun w' hS' => exec_load 31 _ rfl rfl (load_dig hD (by rw [hS'.block _ hltW not_false]; exact hh))) ?_
  simp only [Act.put, List.getElem_toArray, List.getElem_cons_zero, List.getElem_cons_succ, List.setIfInBounds_toArray, List.set_cons_zero, List.set_cons_succ]
  refine held_q (i := 5) rfl (by kernel_rfl) (by kernel_rfl) (by kernel_rfl) (fun _ _ _ h => h) (by rfl) hHeld (fun w' hS' => exec_lookup 55 _ _ _ rfl rfl rfl (hlk _ hS')) ?_
  simp only [Act.put, List.getElem_toArray, List.getElem_cons_zero, List.getElem_cons_succ, List.setIfInBounds_toArray, List.set_cons_zero, List.set_cons_succ]
  refine held_q (i := 6) rfl (by kernel_rfl) (by kernel_rfl) (by kernel_rfl) (fun _ _ _ h => h) (by rfl) hHeld (fun w' hS' => exec_field 64 _ _ rfl rfl (field_own hD id inc c b w')) ?_
  simp only [Act.put, List.getElem_toArray, List.getElem_cons_zero, List.getElem_cons_succ, List.setIfInBounds_toArray, List.set_cons_zero, List.set_cons_succ]
  refine held_v (i := 7) (v := .pointer (some ⟨(W.drew).heap.size, 0, none⟩)) (w1 := (W.drew).alloc (.cells Z36 33)) (by kernel_rfl) rfl (by rfl) ?_ ?_ (fun hHeld => ?_)
  · refine exec_alloc 33 ?_ ?_
    · rfl
    · exact zeroClm _
  · exact hHeld.alloc _
  simp only [Act.put, List.getElem_toArray, List.getElem_cons_zero, List.getElem_cons_succ, List.setIfInBounds_toArray, List.set_cons_zero, List.set_cons_succ]
  refine held_s (i := 8) (w1 := W.drew.alloc (.cells (clm D id inc c false) 33)) (by kernel_rfl) rfl (by rfl) ?_ ?_ (fun hHeld => ?_)
  · refine exec_store (p := .pointer (some ⟨W.drew.heap.size, 0, none⟩)) (q := .agg (clm D id inc c false)) 33 (.tmp 5) (.tmp 16) ?_ ?_ ?_ ?_
    · rfl
    · rfl
    · rfl
    · exact hst W.drew
  · exact ((Kept.refl _ W).drew).alloc _
  simp only [Act.put, List.getElem_toArray, List.getElem_cons_zero, List.getElem_cons_succ, List.setIfInBounds_toArray, List.set_cons_zero, List.set_cons_succ]
  refine wpAnyH_done (by kernel_rfl) ?_ _
  generalize hW2 : W.drew.alloc (.cells (clm D id inc c false) 33) = W2 at hHeld ⊢
  have hr2 : W2.heap[W.heap.size]? = some (.cells (clm D id inc c false) 33) := by rw [← hW2]; exact heap_last W.drew _
  have hcc : W2.cell? ⟨W.heap.size, 35, none⟩ = some (.bool false) := by rw [cell_of_row _ _ _ _ _ _ hr2]; exact clm_at hD id inc c false 3
  have hff : W2.frozen? ⟨W.heap.size, 35, none⟩ = false := by simp [World.frozen?, hr2]
  have HW2 := Lib.hid hW2
  clear hW2 hc5 hlk hst
  go_wp2_with fail
  generalize hW3 : W2.setCell ⟨W.heap.size, 35, none⟩ (.bool true) = W3
  have hk2 : Kept (fun _ => False) W W2 := hHeld
  have hk3 : Kept (fun _ => False) W W3 := by rw [← hW3]; exact hk2.setCell (fun q => absurd q (Nat.lt_irrefl _)) _
  have hr3 : W3.heap[W.heap.size]? = some (.cells (clm D id inc c true) 33 (0, 0)) := by rw [← hW3, heap_setCell_same hr2, clm_set hD]
  have hs3 : W.heap.size < W3.heap.size := (Array.getElem?_eq_some_iff.1 hr3).1
  have hB3 := hWB.kept hk3
  have hh3 : W3.heap[w.heap.size]? = some (.cells D 31) := by rw [hk3.block _ hltW not_false]; exact hh
  have HW3 := Lib.hid hW3
  clear hW3 hr2 hcc hff hHeld
  obtain ⟨o, hdel, hmap⟩ := MapIs.del lawD Try.underlying55 (w := W3.drew) (hB3.o) hkey
  have hmB : B ≠ m1 := fun e => by have := hB3.blk; rw [e] at this; obtain ⟨es, ck, h1, _⟩ := hB3.o; rw [h1] at this; cases this
  have hm1 : m1 < w.heap.size := h.o.lt
  have hc5 : ∀ w', Kept (· = m1) W3 w' → w'.cell? ⟨B, 5, none⟩ = some (.map (some m1)) := fun w' q => by rw [q.cell (p := ⟨B, 5, none⟩) hB3.lt hmB]; exact hB3.cell 5 _ rfl
  refine wp_region_held_drew (S := (Kept (· = m1) W3)) (by kernel_rfl) ((Kept.refl _ W3).drew) (fun hHeld => ?_)
  refine held_q (v := ?_) (i := 0) rfl (by kernel_rfl) (by kernel_rfl) (by kernel_rfl) (fun _ _ _ h => h) (by rfl) hHeld ?_ ?_
  rotate_left
  · (intro w' hS'; go_simp <;> (with_reducible rfl))
  simp only [Act.put, List.getElem_toArray, List.getElem_cons_zero, List.getElem_cons_succ, List.setIfInBounds_toArray, List.set_cons_zero, List.set_cons_succ]
  refine held_q (v := ?_) (i := 1) rfl (by kernel_rfl) (by kernel_rfl) (by kernel_rfl) (fun _ _ _ h => h) (by rfl) hHeld ?_ ?_
  rotate_left
  · (intro w' hS'; go_simp <;> (with_reducible rfl))
  simp only [Act.put, List.getElem_toArray, List.getElem_cons_zero, List.getElem_cons_succ, List.setIfInBounds_toArray, List.set_cons_zero, List.set_cons_succ]
  refine held_q (v := ?_) (i := 2) rfl (by kernel_rfl) (by kernel_rfl) (by kernel_rfl) (fun _ _ _ h => h) (by rfl) hHeld ?_ ?_
  rotate_left
  · (intro w' hS'; go_simp <;> (with_reducible rfl))
  simp only [Act.put, List.getElem_toArray, List.getElem_cons_zero, List.getElem_cons_succ, List.setIfInBounds_toArray, List.set_cons_zero, List.set_cons_succ]
  refine held_q (v := ?_) (i := 3) rfl (by kernel_rfl) (by kernel_rfl) (by kernel_rfl) (fun _ _ _ h => h) (by rfl) hHeld ?_ ?_
  rotate_left
  · (intro w' hS'; go_simp <;> (with_reducible rfl))
  simp only [Act.put, List.getElem_toArray, List.getElem_cons_zero, List.getElem_cons_succ, List.setIfInBounds_toArray, List.set_cons_zero, List.set_cons_succ]
  refine held_q (i := 4) rfl (by kernel_rfl) (by kernel_rfl) (by kernel_rfl) (fun _ _ _ h => h) (by rfl) hHeld (fun w' hS' => exec_load 31 _ rfl rfl (load_dig hD (by rw [hS'.block _ (Nat.lt_trans hltW hs3) (by omega)]; exact hh3))) ?_
  simp only [Act.put, List.getElem_toArray, List.getElem_cons_zero, List.getElem_cons_succ, List.setIfInBounds_toArray, List.set_cons_zero, List.set_cons_succ]
  refine held_v (i := 5) (v := .tuple #[]) (w1 := setBlk W3.drew m1 o) (by kernel_rfl) rfl (by rfl) ?_ ?_ (fun hHeld => ?_)
  · refine exec_delete (p := .map (some m1)) (q := .agg D) 55 31 (.tmp 21) (.tmp 22) ?_ ?_ ?_ ?_
    · rfl
    · rfl
    · rfl
    · exact hdel _
  · exact (Kept.refl (· = m1) W3).drew.setBlk (fun _ => rfl) _
  simp only [Act.put, List.getElem_toArray, List.getElem_cons_zero, List.getElem_cons_succ, List.setIfInBounds_toArray, List.set_cons_zero, List.set_cons_succ]
  refine wpAnyH_done (by kernel_rfl) ?_ _
  generalize hW4 : setBlk W3.drew m1 o = W4 at hHeld ⊢
  have hmap4 := hmap W4 (by rw [← hW4]; exact setBlk_at _ (by show m1 < W3.heap.size; omega))
  have hr4 : W4.heap[W.heap.size]? = some (.cells (clm D id inc c true) 33 (0, 0)) := by rw [hHeld.block _ hs3 (by omega)]; exact hr3
  have hl4 := load_clm (clm_size hD id inc c true) hr4
  have hb4 := bslice_clm hD id inc c true W4
  have HW4 := Lib.hid hW4
  clear hW4 hmap hdel hc5
  go_wp2_with (first
    | (with_reducible refine wpl_load 33 _ rfl rfl ?_ hl4 ?_
       · rfl
       simp only [Act.put, List.getElem_toArray, List.getElem_cons_zero, List.getElem_cons_succ, List.setIfInBounds_toArray, List.set_cons_zero, List.set_cons_succ])
    | (with_reducible refine wpl_bslice 36 _ _ rfl rfl ?_ hb4 ?_
       · (go_simp <;> rfl)
       simp only [Act.put, List.getElem_toArray, List.getElem_cons_zero, List.getElem_cons_succ, List.setIfInBounds_toArray, List.set_cons_zero, List.set_cons_succ]))
  have hkF : Kept (· = m1) w W4 := ((hWk.mono (fun _ _ q => q.elim)).trans (hk3.mono (fun _ _ q => q.elim))).trans hHeld
  go_ret
  exact ⟨_, rfl, ⟨W4.heap.size, hkF.size, rfl, heap_last W4 _⟩, hkF.alloc _, hmap4.of_block (Below.heap_alloc _ _ _ hmap4.lt)⟩
end Go.Proofs.Ytbaehaleigpijaa
