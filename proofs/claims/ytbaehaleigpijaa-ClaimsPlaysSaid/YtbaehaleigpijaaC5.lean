/- Try: a new claim. -/
import Derived.Test.YtbaehaleigpijaaC4
namespace Go.Proofs.Ytbaehaleigpijaa
open Go.RowKit
set_option linter.unusedSimpArgs false
set_option linter.unusedVariables false

set_option maxHeartbeats 4000000 in
theorem try_new {w : World} {B m1 m2 m3 : Nat} {id inc wait ttl count : Int} {O L U} (h : Bk w B m1 m2 m3 id inc wait ttl count O L U) {D : Array Value} (hD : IsDig D) {now : Int} (hn : live U D now = none) (ho : O (.agg D) = none)
    (hc0 : 0 ≤ count) (hc1 : count < 18446744073709551615) :
    Calls Try.prog 10 #[.pointer (some ⟨B, 0, none⟩), .agg D, .int .i64 now] w fun e w' => ∃ v, e = .returned (.tuple #[v, .bool false]) ∧ Sent w w' v (some (clm D id inc (count + 1) false)) ∧ Kept (fun k => k = B ∨ k = m1) w w' ∧
      w'.heap[B]? = some (.cells #[.int .i64 id, .int .u64 inc, .int .i64 wait, .int .i64 ttl, .int .u64 (count + 1), .map (some m1), .map (some m2), .map (some m3)] 59 (0, 0)) ∧
      MapIs Try.prog 31 w' m1 (put (fun x => (O x).map (ownV id inc x)) (.agg D) (some (ownV id inc (.agg D) (count + 1, now)))) := by
  have hk : Kept (fun _ => False) w (w.alloc (.cells D 31)) := (Kept.refl _ w).alloc _
  have hB1 := h.kept hk
  have hl := load_dig hD (heap_last w (.cells D 31))
  have hm := live_any hD U now _ (hB1.cell 5 _ rfl) (hB1.cell 7 _ rfl) hB1.u
  have h5 := hB1.cell 5 _ rfl
  have hlt : w.heap.size < (w.alloc (.cells D 31)).heap.size := by simp
  obtain ⟨l, hkey⟩ := hD.key
  rw [hn] at hm
  have HN := Lib.hid hn
  have HO := Lib.hid ho
  clear hn ho
  go_enter Try.func10, Try.ntmps10
  go_wp2_with fail
  refine (none_some B m1 _ h5).mono ?_
  rintro e w' ⟨rfl, rfl⟩
  go_wp2_with (first
    | (with_reducible refine wpl_load 31 _ rfl rfl ?_ hl ?_
       · rfl
       simp only [Act.put, List.getElem_toArray, List.getElem_cons_zero, List.getElem_cons_succ, List.setIfInBounds_toArray, List.set_cons_zero, List.set_cons_succ]))
  refine hm.mono ?_
  rintro e W ⟨rfl, hq⟩
  have hWk : Kept (fun _ => False) w W := hk.trans hq
  have hh : W.heap[w.heap.size]? = some (.cells D 31) := by rw [hq.block _ hlt not_false]; exact heap_last w _
  have hltW : w.heap.size < W.heap.size := Nat.lt_of_lt_of_le hlt hq.size
  have hWB := h.kept hWk
  have hBw : B < w.heap.size := h.lt
  have hm1w : m1 < w.heap.size := h.o.lt
  clear hq hl hm hlt hk h5 hB1
  unfold liveV
  go_wp2_with fail
  have hc5 : ∀ w', Kept (fun _ => False) W w' → w'.cell? ⟨B, 5, none⟩ = some (.map (some m1)) := fun w' q => (hWB.kept q).cell 5 _ rfl
  have hlk : ∀ w', Kept (fun _ => False) W w' → (Instr.lookup 55 (.map (some m1)) (.agg D) true).run Try.prog w' = .ok (.tuple #[.agg Z37, .bool false]) w' := fun w' q => by
    rw [MapIs.look lawD Try.underlying55 (hWB.kept q).o (zeroOwn _) hkey true]; simp [HO.out]
  have hst := fun wx : World => store_new (P := Try.prog) (ty := 64) (c := Z37) (c' := Z37) (by kernel_rfl) rfl Z37_one (w := wx) rfl
  refine wp_region_held_drew (S := (Kept (fun _ => False) W)) (by kernel_rfl) ((Kept.refl _ W).drew) (fun hHeld => ?_)
  refine held_q (v := ?_) (i := 0) rfl (by kernel_rfl) (by kernel_rfl) (by kernel_rfl) (fun _ _ _ h => h) (by rfl) hHeld ?_ ?_
  rotate_left
  · (intro w' hS'; go_simp <;> (with_reducible rfl))
  simp only [Act.put, List.getElem_toArray, List.getElem_cons_zero, List.getElem_cons_succ, List.setIfInBounds_toArray, List.set_cons_zero, List.set_cons_succ]
  refine held_q (v := ?_) (i := 1) rfl (by kernel_rfl) (by kernel_rfl) (by kernel_rfl) (fun _ _ _ h => h) (by rfl) hHeld ?_ ?_
  rotate_left
  · (intro w' hS'; go_simp <;> (with_reducible rfl))
  simp only [Act.put, List.getElem_toArray, List.getElem_cons_zero, List.getElem_cons_succ, List.setIfInBounds_toArray, List.set_cons_zero, List.set_cons_succ]
  refine held_q (v := ?_) (i := 2) rfl (by kernel_rfl) (by kernel_rfl) (by kernel_rfl) (fun _ _ _ h => h) (by rfl) hHeld ?_ ?_
  rotate_left
  · (intro w' hS'; go_simp <;> (with_reducible rfl))
  simp only [Act.put, List.getElem_toArray, List.getElem_cons_zero, List.getElem_cons_succ, List.setIfInBounds_toArray, List.set_cons_zero, List.set_cons_succ]
  refine held_q (v := ?_) (i := 3) rfl (by kernel_rfl) (by kernel_rfl) (by kernel_rfl) (fun _ _ _ h => h) (by rfl) hHeld ?_ ?_
  rotate_left
  · (intro w' hS'; go_simp <;> (with_reducible rfl))
  simp only [Act.put, List.getElem_toArray, List.getElem_cons_zero, List.getElem_cons_succ, List.setIfInBounds_toArray, List.set_cons_zero, List.set_cons_succ]
  refine held_q (i := 4) rfl (by kernel_rfl) (by kernel_rfl) (by kernel_rfl) (fun _ _ _ h => h) (by rfl) hHeld (fun w' hS' => exec_load 31 _ rfl rfl (load_dig hD (by rw [hS'.block _ hltW not_false]; exact hh))) ?_
  simp only [Act.put, List.getElem_toArray, List.getElem_cons_zero, List.getElem_cons_succ, List.setIfInBounds_toArray, List.set_cons_zero, List.set_cons_succ]
  refine held_q (i := 5) rfl (by kernel_rfl) (by kernel_rfl) (by kernel_rfl) (fun _ _ _ h => h) (by rfl) hHeld (fun w' hS' => exec_lookup 55 _ _ _ rfl rfl rfl (hlk _ hS')) ?_
  simp only [Act.put, List.getElem_toArray, List.getElem_cons_zero, List.getElem_cons_succ, List.setIfInBounds_toArray, List.set_cons_zero, List.set_cons_succ]
  refine held_q (v := ?_) (i := 6) rfl (by kernel_rfl) (by kernel_rfl) (by kernel_rfl) (fun _ _ _ h => h) (by rfl) hHeld ?_ ?_
  rotate_left
  · (intro w' hS'; go_simp <;> (with_reducible rfl))
  simp only [Act.put, List.getElem_toArray, List.getElem_cons_zero, List.getElem_cons_succ, List.setIfInBounds_toArray, List.set_cons_zero, List.set_cons_succ]
  refine held_q (v := ?_) (i := 7) rfl (by kernel_rfl) (by kernel_rfl) (by kernel_rfl) (fun _ _ _ h => h) (by rfl) hHeld ?_ ?_
  rotate_left
  · (intro w' hS'; go_simp <;> (with_reducible rfl))
  simp only [Act.put, List.getElem_toArray, List.getElem_cons_zero, List.getElem_cons_succ, List.setIfInBounds_toArray, List.set_cons_zero, List.set_cons_succ]
  refine held_q (v := ?_) (i := 8) rfl (by kernel_rfl) (by kernel_rfl) (by kernel_rfl) (fun _ _ _ h => h) (by rfl) hHeld ?_ ?_
  rotate_left
  · (intro w' hS'; go_simp <;> (with_reducible rfl))
  simp only [Act.put, List.getElem_toArray, List.getElem_cons_zero, List.getElem_cons_succ, List.setIfInBounds_toArray, List.set_cons_zero, List.set_cons_succ]
  refine held_v (i := 9) (v := .pointer (some ⟨(W.drew).heap.size, 0, none⟩)) (w1 := (W.drew).alloc (.cells Z37 64)) (by kernel_rfl) rfl (by rfl) ?_ ?_ (fun hHeld => ?_)
  · refine exec_alloc 64 ?_ ?_
    · rfl
    · exact zeroOwn _
  · exact hHeld.alloc _
  simp only [Act.put, List.getElem_toArray, List.getElem_cons_zero, List.getElem_cons_succ, List.setIfInBounds_toArray, List.set_cons_zero, List.set_cons_succ]
  refine held_s (i := 10) (w1 := W.drew.alloc (.cells Z37 64)) (by kernel_rfl) rfl (by rfl) ?_ ?_ (fun hHeld => ?_)
  · refine exec_store (p := .pointer (some ⟨W.drew.heap.size, 0, none⟩)) (q := .agg Z37) 64 (.tmp 10) (.tmp 30) ?_ ?_ ?_ ?_
    · rfl
    · rfl
    · rfl
    · exact hst W.drew
  · exact ((Kept.refl _ W).drew).alloc _
  simp only [Act.put, List.getElem_toArray, List.getElem_cons_zero, List.getElem_cons_succ, List.setIfInBounds_toArray, List.set_cons_zero, List.set_cons_succ]
  refine held_q (v := ?_) (i := 11) rfl (by kernel_rfl) (by kernel_rfl) (by kernel_rfl) (fun _ _ _ h => h) (by rfl) hHeld ?_ ?_
  rotate_left
  · (intro w' hS'; go_simp <;> (with_reducible rfl))
  simp only [Act.put, List.getElem_toArray, List.getElem_cons_zero, List.getElem_cons_succ, List.setIfInBounds_toArray, List.set_cons_zero, List.set_cons_succ]
  refine wpAnyH_done (by kernel_rfl) ?_ _
  generalize W.drew.alloc (.cells Z37 64) = W2 at hHeld ⊢
  have hB2 := hWB.kept hHeld
  have hc4 : W2.cell? ⟨B, 4, none⟩ = some (.int .u64 count) := hB2.cell 4 _ rfl
  have hf4 : W2.frozen? ⟨B, 4, none⟩ = false := by simp [World.frozen?, hB2.blk]
  have hh2 : W2.heap[w.heap.size]? = some (.cells D 31) := by rw [hHeld.block _ hltW not_false]; exact hh
  have hlt2 : w.heap.size < W2.heap.size := Nat.lt_of_lt_of_le hltW hHeld.size
  have hk2 : Kept (fun _ => False) w W2 := hWk.trans hHeld
  clear hc5 hlk hst hh hltW hWk hWB
  go_wp2_with fail
  have hr3 : (W2.setCell ⟨B, 4, none⟩ (.int .u64 (count + 1))).heap[B]? = some (.cells #[.int .i64 id, .int .u64 inc, .int .i64 wait, .int .i64 ttl, .int .u64 (count + 1), .map (some m1), .map (some m2), .map (some m3)] 59 (0, 0)) := by
    rw [heap_setCell_same hB2.blk]; rfl
  have hk3 : Kept (· = B) W2 (W2.setCell ⟨B, 4, none⟩ (.int .u64 (count + 1))) := (Kept.refl (· = B) W2).setCell (fun _ => rfl) _
  generalize W2.setCell ⟨B, 4, none⟩ (.int .u64 (count + 1)) = W3 at hr3 hk3 ⊢
  have hBW2 : B < W2.heap.size := hB2.lt
  have hneB : ∀ {k : Nat} {M}, MapIs Try.prog 31 W2 k M → B ≠ k := fun {k M} hm e => by
    obtain ⟨es, ck, h1, _⟩ := hm
    rw [← e, hB2.blk] at h1; cases h1
  have hm1B : B ≠ m1 := hneB hB2.o
  have hM3 : MapIs Try.prog 31 W3 m1 (fun x => (O x).map (ownV id inc x)) := hB2.o.kept hk3 (fun e => hm1B e.symm)
  have hh3 : W3.heap[w.heap.size]? = some (.cells D 31) := by rw [hk3.block _ hlt2 (by omega)]; exact hh2
  have hlt3 : w.heap.size < W3.heap.size := Nat.lt_of_lt_of_le hlt2 hk3.size
  have hBW3 : B < W3.heap.size := Nat.lt_of_lt_of_le hBW2 hk3.size
  have hkA : Kept (fun k => k = B ∨ k = m1) w W3 := (hk2.mono (fun _ _ q => q.elim)).trans (hk3.mono (fun _ _ q => .inl q))
  clear hc4 hf4 hh2 hlt2 hk3 hneB hBW2
  have hb : ∀ (j : Nat) (v : Value), (#[Value.int .i64 id, .int .u64 inc, .int .i64 wait, .int .i64 ttl, .int .u64 (count + 1), .map (some m1), .map (some m2), .map (some m3)])[j]? = some v → ∀ w', Kept (fun _ => False) W3 w' → w'.cell? ⟨B, j, none⟩ = some v := fun j v hv w' q => by
    rw [q.cell (p := ⟨B, j, none⟩) hBW3 not_false, cell_of_row W3 B j _ _ _ hr3]; exact hv
  have hb0 := hb 0 _ rfl
  have hb1 := hb 1 _ rfl
  have hb4 := hb 4 _ rfl
  clear hb
  have hst := fun wx : World => store_new (P := Try.prog) (ty := 33) (c := Z36) (c' := clm D id inc (count + 1) false) (by rw [clm_size hD]; kernel_rfl) (by rw [clm_size hD]; rfl) (clm_oneCell hD _ _ _ _) (w := wx) rfl
  refine wp_region_held_drew (S := (Kept (fun _ => False) W3)) (by kernel_rfl) ((Kept.refl _ W3).drew) (fun hHeld => ?_)
  refine held_q (i := 0) rfl (by kernel_rfl) (by kernel_rfl) (by kernel_rfl) (fun _ _ _ h => h) (by rfl) hHeld (fun w' hS' => exec_load 31 _ rfl rfl (load_dig hD (by rw [hS'.block _ hlt3 not_false]; exact hh3))) ?_
  simp only [Act.put, List.getElem_toArray, List.getElem_cons_zero, List.getElem_cons_succ, List.setIfInBounds_toArray, List.set_cons_zero, List.set_cons_succ]
  refine held_q (v := ?_) (i := 1) rfl (by kernel_rfl) (by kernel_rfl) (by kernel_rfl) (fun _ _ _ h => h) (by rfl) hHeld ?_ ?_
  rotate_left
  · (intro w' hS'; go_simp <;> (with_reducible rfl))
  simp only [Act.put, List.getElem_toArray, List.getElem_cons_zero, List.getElem_cons_succ, List.setIfInBounds_toArray, List.set_cons_zero, List.set_cons_succ]
  refine held_q (v := ?_) (i := 2) rfl (by kernel_rfl) (by kernel_rfl) (by kernel_rfl) (fun _ _ _ h => h) (by rfl) hHeld ?_ ?_
  rotate_left
  · (intro w' hS'; go_simp <;> (with_reducible rfl))
  simp only [Act.put, List.getElem_toArray, List.getElem_cons_zero, List.getElem_cons_succ, List.setIfInBounds_toArray, List.set_cons_zero, List.set_cons_succ]
  refine held_q (v := ?_) (i := 3) rfl (by kernel_rfl) (by kernel_rfl) (by kernel_rfl) (fun _ _ _ h => h) (by rfl) hHeld ?_ ?_
  rotate_left
  · (intro w' hS'; go_simp <;> (with_reducible rfl))
  simp only [Act.put, List.getElem_toArray, List.getElem_cons_zero, List.getElem_cons_succ, List.setIfInBounds_toArray, List.set_cons_zero, List.set_cons_succ]
  refine held_q (v := ?_) (i := 4) rfl (by kernel_rfl) (by kernel_rfl) (by kernel_rfl) (fun _ _ _ h => h) (by rfl) hHeld ?_ ?_
  rotate_left
  · (intro w' hS'; go_simp <;> (with_reducible rfl))
  simp only [Act.put, List.getElem_toArray, List.getElem_cons_zero, List.getElem_cons_succ, List.setIfInBounds_toArray, List.set_cons_zero, List.set_cons_succ]
  refine held_q (v := ?_) (i := 5) rfl (by kernel_rfl) (by kernel_rfl) (by kernel_rfl) (fun _ _ _ h => h) (by rfl) hHeld ?_ ?_
  rotate_left
  · (intro w' hS'; go_simp <;> (with_reducible rfl))
  simp only [Act.put, List.getElem_toArray, List.getElem_cons_zero, List.getElem_cons_succ, List.setIfInBounds_toArray, List.set_cons_zero, List.set_cons_succ]
  refine held_q (v := ?_) (i := 6) rfl (by kernel_rfl) (by kernel_rfl) (by kernel_rfl) (fun _ _ _ h => h) (by rfl) hHeld ?_ ?_
  rotate_left
  · (intro w' hS'; go_simp <;> (with_reducible rfl))
  simp only [Act.put, List.getElem_toArray, List.getElem_cons_zero, List.getElem_cons_succ, List.setIfInBounds_toArray, List.set_cons_zero, List.set_cons_succ]
  refine held_q (v := ?_) (i := 7) rfl (by kernel_rfl) (by kernel_rfl) (by kernel_rfl) (fun _ _ _ h => h) (by rfl) hHeld ?_ ?_
  rotate_left
  · (intro w' hS'; go_simp <;> (with_reducible rfl))
  simp only [Act.put, List.getElem_toArray, List.getElem_cons_zero, List.getElem_cons_succ, List.setIfInBounds_toArray, List.set_cons_zero, List.set_cons_succ]
  refine held_q (v := ?_) (i := 8) rfl (by kernel_rfl) (by kernel_rfl) (by kernel_rfl) (fun _ _ _ h => h) (by rfl) hHeld ?_ ?_
  rotate_left
  · (intro w' hS'; go_simp <;> (with_reducible rfl))
  simp only [Act.put, List.getElem_toArray, List.getElem_cons_zero, List.getElem_cons_succ, List.setIfInBounds_toArray, List.set_cons_zero, List.set_cons_succ]
  refine held_q (v := ?_) (i := 9) rfl (by kernel_rfl) (by kernel_rfl) (by kernel_rfl) (fun _ _ _ h => h) (by rfl) hHeld ?_ ?_
  rotate_left
  · (intro w' hS'; go_simp <;> (with_reducible rfl))
  simp only [Act.put, List.getElem_toArray, List.getElem_cons_zero, List.getElem_cons_succ, List.setIfInBounds_toArray, List.set_cons_zero, List.set_cons_succ]
  refine held_q (v := ?_) (i := 10) rfl (by kernel_rfl) (by kernel_rfl) (by kernel_rfl) (fun _ _ _ h => h) (by rfl) hHeld ?_ ?_
  rotate_left
  · (intro w' hS'; go_simp <;> (with_reducible rfl))
  simp only [Act.put, List.getElem_toArray, List.getElem_cons_zero, List.getElem_cons_succ, List.setIfInBounds_toArray, List.set_cons_zero, List.set_cons_succ]
  refine held_q (v := ?_) (i := 11) rfl (by kernel_rfl) (by kernel_rfl) (by kernel_rfl) (fun _ _ _ h => h) (by rfl) hHeld ?_ ?_
  rotate_left
  · (intro w' hS'; go_simp <;> (with_reducible rfl))
  simp only [Act.put, List.getElem_toArray, List.getElem_cons_zero, List.getElem_cons_succ, List.setIfInBounds_toArray, List.set_cons_zero, List.set_cons_succ]
  refine held_q (v := ?_) (i := 12) rfl (by kernel_rfl) (by kernel_rfl) (by kernel_rfl) (fun _ _ _ h => h) (by rfl) hHeld ?_ ?_
  rotate_left
  · (intro w' hS'; go_simp <;> (with_reducible rfl))
  simp only [Act.put, List.getElem_toArray, List.getElem_cons_zero, List.getElem_cons_succ, List.setIfInBounds_toArray, List.set_cons_zero, List.set_cons_succ]
  refine held_q (i := 13) rfl (by kernel_rfl) (by kernel_rfl) (by kernel_rfl) (fun _ _ _ h => h) (by rfl) hHeld (fun w' hS' => exec_build 33 _ rfl (by go_simp <;> rfl) (build_clm hD id inc (count + 1) w')) ?_
  simp only [Act.put, List.getElem_toArray, List.getElem_cons_zero, List.getElem_cons_succ, List.setIfInBounds_toArray, List.set_cons_zero, List.set_cons_succ]
  refine held_v (i := 14) (v := .pointer (some ⟨(W3.drew).heap.size, 0, none⟩)) (w1 := (W3.drew).alloc (.cells Z36 33)) (by kernel_rfl) rfl (by rfl) ?_ ?_ (fun hHeld => ?_)
  · refine exec_alloc 33 ?_ ?_
    · rfl
    · exact zeroClm _
  · exact hHeld.alloc _
  simp only [Act.put, List.getElem_toArray, List.getElem_cons_zero, List.getElem_cons_succ, List.setIfInBounds_toArray, List.set_cons_zero, List.set_cons_succ]
  refine held_s (i := 15) (w1 := W3.drew.alloc (.cells (clm D id inc (count + 1) false) 33)) (by kernel_rfl) rfl (by rfl) ?_ ?_ (fun hHeld => ?_)
  · refine exec_store (p := .pointer (some ⟨W3.drew.heap.size, 0, none⟩)) (q := .agg (clm D id inc (count + 1) false)) 33 (.tmp 12) (.tmp 62) ?_ ?_ ?_ ?_
    · rfl
    · rfl
    · rfl
    · exact hst W3.drew
  · exact ((Kept.refl _ W3).drew).alloc _
  simp only [Act.put, List.getElem_toArray, List.getElem_cons_zero, List.getElem_cons_succ, List.setIfInBounds_toArray, List.set_cons_zero, List.set_cons_succ]
  refine wpAnyH_done (by kernel_rfl) ?_ _
  have hr4 : (W3.drew.alloc (.cells (clm D id inc (count + 1) false) 33)).heap[W3.heap.size]? = some (.cells (clm D id inc (count + 1) false) 33) := heap_last W3.drew _
  generalize W3.drew.alloc (.cells (clm D id inc (count + 1) false) 33) = W4 at hHeld hr4 ⊢
  have hs4 : W3.heap.size < W4.heap.size := (Array.getElem?_eq_some_iff.1 hr4).1
  have hh4 : W4.heap[w.heap.size]? = some (.cells D 31) := by rw [hHeld.block _ hlt3 not_false]; exact hh3
  have hB4 : W4.heap[B]? = some (.cells #[.int .i64 id, .int .u64 inc, .int .i64 wait, .int .i64 ttl, .int .u64 (count + 1), .map (some m1), .map (some m2), .map (some m3)] 59 (0, 0)) := by rw [hHeld.block _ hBW3 not_false]; exact hr3
  have hM4 := hM3.kept hHeld not_false
  have hk4 : Kept (fun k => k = B ∨ k = m1) w W4 := hkA.trans (hHeld.mono (fun _ _ q => q.elim))
  have hm1W3 : m1 < W3.heap.size := hM3.lt
  obtain ⟨o, hupd, hmap⟩ := MapIs.store lawD Try.underlying55 (w := W4.drew) hM4 hkey (ownV id inc (.agg D) (count + 1, now))
  have hc5 : ∀ w', Kept (· = m1) W4 w' → w'.cell? ⟨B, 5, none⟩ = some (.map (some m1)) := fun w' q => by
    rw [q.cell (p := ⟨B, 5, none⟩) (show B < W4.heap.size by omega) hm1B, cell_of_row W4 B 5 _ _ _ hB4]; rfl
  clear hst hb0 hb1 hb4 hHeld hr3 hh3 hM3
  go_wp2_with fail
  refine wp_region_held_drew (S := (Kept (· = m1) W4)) (by kernel_rfl) ((Kept.refl _ W4).drew) (fun hHeld => ?_)
  refine held_q (v := ?_) (i := 0) rfl (by kernel_rfl) (by kernel_rfl) (by kernel_rfl) (fun _ _ _ h => h) (by rfl) hHeld ?_ ?_
  rotate_left
  · (intro w' hS'; go_simp <;> (with_reducible rfl))
  simp only [Act.put, List.getElem_toArray, List.getElem_cons_zero, List.getElem_cons_succ, List.setIfInBounds_toArray, List.set_cons_zero, List.set_cons_succ]
  refine held_q (v := ?_) (i := 1) rfl (by kernel_rfl) (by kernel_rfl) (by kernel_rfl) (fun _ _ _ h => h) (by rfl) hHeld ?_ ?_
  rotate_left
  · (intro w' hS'; go_simp <;> (with_reducible rfl))
  simp only [Act.put, List.getElem_toArray, List.getElem_cons_zero, List.getElem_cons_succ, List.setIfInBounds_toArray, List.set_cons_zero, List.set_cons_succ]
  refine held_q (v := ?_) (i := 2) rfl (by kernel_rfl) (by kernel_rfl) (by kernel_rfl) (fun _ _ _ h => h) (by rfl) hHeld ?_ ?_
  rotate_left
  · (intro w' hS'; go_simp <;> (with_reducible rfl))
  simp only [Act.put, List.getElem_toArray, List.getElem_cons_zero, List.getElem_cons_succ, List.setIfInBounds_toArray, List.set_cons_zero, List.set_cons_succ]
  refine held_q (v := ?_) (i := 3) rfl (by kernel_rfl) (by kernel_rfl) (by kernel_rfl) (fun _ _ _ h => h) (by rfl) hHeld ?_ ?_
  rotate_left
  · (intro w' hS'; go_simp <;> (with_reducible rfl))
  simp only [Act.put, List.getElem_toArray, List.getElem_cons_zero, List.getElem_cons_succ, List.setIfInBounds_toArray, List.set_cons_zero, List.set_cons_succ]
  refine held_q (i := 4) rfl (by kernel_rfl) (by kernel_rfl) (by kernel_rfl) (fun _ _ _ h => h) (by rfl) hHeld (fun w' hS' => exec_load 31 _ rfl rfl (load_dig hD (by rw [hS'.block _ (by omega) (by omega)]; exact hh4))) ?_
  simp only [Act.put, List.getElem_toArray, List.getElem_cons_zero, List.getElem_cons_succ, List.setIfInBounds_toArray, List.set_cons_zero, List.set_cons_succ]
  refine held_q (i := 5) rfl (by kernel_rfl) (by kernel_rfl) (by kernel_rfl) (fun _ _ _ h => h) (by rfl) hHeld (fun w' hS' => exec_load 33 _ rfl rfl (load_clm (clm_size hD id inc (count + 1) false) ((hS'.block W3.heap.size hs4 (by omega)).trans hr4))) ?_
  simp only [Act.put, List.getElem_toArray, List.getElem_cons_zero, List.getElem_cons_succ, List.setIfInBounds_toArray, List.set_cons_zero, List.set_cons_succ]
  refine held_q (v := ?_) (i := 6) rfl (by kernel_rfl) (by kernel_rfl) (by kernel_rfl) (fun _ _ _ h => h) (by rfl) hHeld ?_ ?_
  rotate_left
  · (intro w' hS'; go_simp <;> (with_reducible rfl))
  simp only [Act.put, List.getElem_toArray, List.getElem_cons_zero, List.getElem_cons_succ, List.setIfInBounds_toArray, List.set_cons_zero, List.set_cons_succ]
  refine held_q (i := 7) rfl (by kernel_rfl) (by kernel_rfl) (by kernel_rfl) (fun _ _ _ h => h) (by rfl) hHeld (fun w' hS' => exec_build 64 _ rfl (by go_simp <;> rfl) (build_own hD id inc (count + 1) now w')) ?_
  simp only [Act.put, List.getElem_toArray, List.getElem_cons_zero, List.getElem_cons_succ, List.setIfInBounds_toArray, List.set_cons_zero, List.set_cons_succ]
  refine held_s (i := 8) (w1 := setBlk W4.drew m1 o) (by kernel_rfl) rfl (by rfl) ?_ ?_ (fun hHeld => ?_)
  · refine exec_mapUpdate (p := .map (some m1)) (q := .agg D) (v := ownV id inc (.agg D) (count + 1, now)) 55 (.tmp 66) (.tmp 67) (.tmp 70) ?_ ?_ ?_ ?_ ?_
    · rfl
    · rfl
    · rfl
    · rfl
    · exact hupd
  · exact (Kept.refl (· = m1) W4).drew.setBlk (fun _ => rfl) _
  simp only [Act.put, List.getElem_toArray, List.getElem_cons_zero, List.getElem_cons_succ, List.setIfInBounds_toArray, List.set_cons_zero, List.set_cons_succ]
  refine wpAnyH_done (by kernel_rfl) ?_ _
  have hmap5 := hmap (setBlk W4.drew m1 o) (setBlk_at _ (by show m1 < W4.heap.size; omega))
  generalize setBlk W4.drew m1 o = W5 at hHeld hmap5 ⊢
  have hr5 : W5.heap[W3.heap.size]? = some (.cells (clm D id inc (count + 1) false) 33) := by rw [hHeld.block _ hs4 (by omega)]; exact hr4
  have hB5 : W5.heap[B]? = some (.cells #[.int .i64 id, .int .u64 inc, .int .i64 wait, .int .i64 ttl, .int .u64 (count + 1), .map (some m1), .map (some m2), .map (some m3)] 59 (0, 0)) := by rw [hHeld.block _ (by omega) hm1B]; exact hB4
  have hk5 : Kept (fun k => k = B ∨ k = m1) w W5 := hk4.trans (hHeld.mono (fun _ _ q => .inr q))
  have hBW5 : B < W5.heap.size := Nat.lt_of_lt_of_le (by omega) hHeld.size
  have hl5 := load_clm (clm_size hD id inc (count + 1) false) hr5
  have hb5 := bslice_clm hD id inc (count + 1) false W5
  clear hc5 hupd hmap hr4 hB4 hM4
  go_wp2_with (first
    | (with_reducible refine wpl_load 33 _ rfl rfl ?_ hl5 ?_
       · rfl
       simp only [Act.put, List.getElem_toArray, List.getElem_cons_zero, List.getElem_cons_succ, List.setIfInBounds_toArray, List.set_cons_zero, List.set_cons_succ])
    | (with_reducible refine wpl_bslice 36 _ _ rfl rfl ?_ hb5 ?_
       · (go_simp <;> rfl)
       simp only [Act.put, List.getElem_toArray, List.getElem_cons_zero, List.getElem_cons_succ, List.setIfInBounds_toArray, List.set_cons_zero, List.set_cons_succ]))
  go_ret2
  exact ⟨_, rfl, ⟨W5.heap.size, hk5.size, rfl, heap_last W5 _⟩, hk5.alloc _, by rw [Below.heap_alloc _ _ _ hBW5]; exact hB5, hmap5.of_block (Below.heap_alloc _ _ _ hmap5.lt)⟩
end Go.Proofs.Ytbaehaleigpijaa
