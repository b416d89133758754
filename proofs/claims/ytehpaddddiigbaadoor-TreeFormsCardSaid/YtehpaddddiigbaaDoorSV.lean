/- The document's Hash: New, Sum. -/
import Derived.Test.YtehpaddddiigbaaDoorSU
namespace Go.Proofs.YtehpaddddiigbaaDoor
open Go.RowKit
set_option maxRecDepth 100000
set_option linter.unusedSimpArgs false
set_option linter.unusedVariables false

/-- The words in memory. -/
def HashAt (w : World) (B : Nat) : Prop := ∃ T fr, w.heap[B]? = some (.cells ((kv .u32 hW).toArray ++ (kv .u32 kW).toArray) T fr)
theorem HashAt.lt {w : World} {B : Nat} (h : HashAt w B) : B < w.heap.size := by
  obtain ⟨T, fr, h⟩ := h
  exact (Array.getElem?_eq_some_iff.1 h).1
theorem HashAt.kept {S : Nat → Prop} {w w' : World} {B : Nat} (h : HashAt w B) (hk : Kept S w w') (hS : ¬ S B) : HashAt w' B := by
  have hl := h.lt
  obtain ⟨T, fr, h⟩ := h
  exact ⟨T, fr, (hk.block B hl hS).trans h⟩
theorem HashAt.ldH {w : World} {B : Nat} (h : HashAt w B) : (Instr.loadAt 64 (.pointer (some ⟨B, 0, none⟩))).run Tryd.prog w = .ok ((Value.agg (List.toArray (kv .u32 hW)))) w := by
  obtain ⟨T, fr, h⟩ := h
  exact run_loadAt_mid w B 0 64 (kv .u32 hW) _ (fun j u hu => by
    have hj : j < (kv .u32 hW).toArray.size := by simpa using (List.getElem?_eq_some_iff.1 hu).1
    rw [cell_of_row _ _ _ _ _ _ h, Nat.zero_add, Array.getElem?_append_left hj]
    simpa using hu) Tryd.underlying64 rfl (by rw [kv_len, hW_len]; kernel_rfl)
theorem HashAt.ldK {w : World} {B : Nat} (h : HashAt w B) : (Instr.loadAt 65 (.pointer (some ⟨B, 8, none⟩))).run Tryd.prog w = .ok ((Value.agg (List.toArray (kv .u32 kW)))) w := by
  obtain ⟨T, fr, h⟩ := h
  have h8 : (kv .u32 hW).toArray.size = 8 := by rw [List.size_toArray, kv_len, hW_len]
  exact run_loadAt_mid w B 8 65 (kv .u32 kW) _ (fun j u hu => by
    rw [cell_of_row _ _ _ _ _ _ h, Array.getElem?_append_right (by omega), h8, Nat.add_sub_cancel_left]
    simpa using hu) Tryd.underlying65 rfl (by rw [kv_len, kW_len]; kernel_rfl)
set_option maxHeartbeats 2000000 in
theorem hsum_ct {w : World} {B : Nat} {v : Value} {b : List UInt8} (hH : HashAt w B) (h : ByAt w v b) (hl : b.length ≤ 100000) :
    Calls Tryd.prog 40 #[.pointer (some ⟨B, 0, none⟩), v] w fun e w' => e = .returned ((Value.agg (List.toArray (kv .u8 (nv (shaL b)))))) ∧ Kept (fun _ => False) w w' := by
  have zz := zeroDig
  obtain ⟨va, vc, rfl⟩ := h.slc
  go_enter Tryd.func40, Tryd.ntmps40
  go_wp2_with (first
    | (with_reducible refine wpl_alloc 27 rfl rfl (zz _) ?_
       simp only [World.size_alloc, Act.put, List.getElem_toArray, List.getElem_cons_zero, List.getElem_cons_succ, List.setIfInBounds_toArray, List.set_cons_zero, List.set_cons_succ]))
  obtain ⟨X, hX⟩ : ∃ X, w.heap.size = X := ⟨_, rfl⟩
  have k0 := (Kept.refl (fun _ => False) w).alloc (.cells (kv .u8 z32).toArray 27)
  have n0 : Arr (w.alloc (.cells (kv .u8 z32).toArray 27)) X 27 .u8 z32 := Arr.new hX.symm
  have hBX : B < X := by have := hH.lt; omega
  have hH0 := hH.kept k0 not_false
  have h0 := h.kept k0
  rw [hX]
  generalize w.alloc (.cells (kv .u8 z32).toArray 27) = W0 at k0 n0 hH0 h0 ⊢
  have HX := Lib.hid hX
  clear zz hX
  refine wp_region_held_drew (S := (Kept (fun j => j = X) W0)) (by kernel_rfl) ((Kept.refl _ W0).drew) (fun hHeld => ?_)
  refine held_q (v := ?_) (i := 0) rfl (by kernel_rfl) (by kernel_rfl) (by kernel_rfl) (fun _ _ _ h => h) (by rfl) hHeld ?_ ?_
  rotate_left
  · (intro w' hS'; go_simp <;> (with_reducible rfl))
  simp only [Act.put, List.getElem_toArray, List.getElem_cons_zero, List.getElem_cons_succ, List.setIfInBounds_toArray, List.set_cons_zero, List.set_cons_succ]
  refine held_q (v := ?_) (i := 1) rfl (by kernel_rfl) (by kernel_rfl) (by kernel_rfl) (fun _ _ _ h => h) (by rfl) hHeld ?_ ?_
  rotate_left
  · (intro w' hS'; go_simp <;> (with_reducible rfl))
  simp only [Act.put, List.getElem_toArray, List.getElem_cons_zero, List.getElem_cons_succ, List.setIfInBounds_toArray, List.set_cons_zero, List.set_cons_succ]
  refine held_q (v := ?_) (i := 2) rfl (by kernel_rfl) (by kernel_rfl) (by kernel_rfl) (fun _ _ _ h => h) (by rfl) hHeld ?_ ?_
  rotate_left
  · (intro w' hS'; go_simp <;> (with_reducible rfl))
  simp only [Act.put, List.getElem_toArray, List.getElem_cons_zero, List.getElem_cons_succ, List.setIfInBounds_toArray, List.set_cons_zero, List.set_cons_succ]
  refine held_q (i := 3) rfl (by kernel_rfl) (by kernel_rfl) (by kernel_rfl) (fun _ _ _ h => h) (by rfl) hHeld (fun w' hS' => exec_load 64 _ rfl rfl ((hH0.kept hS' (by omega)).ldH)) ?_
  simp only [Act.put, List.getElem_toArray, List.getElem_cons_zero, List.getElem_cons_succ, List.setIfInBounds_toArray, List.set_cons_zero, List.set_cons_succ]
  refine held_q (v := ?_) (i := 4) rfl (by kernel_rfl) (by kernel_rfl) (by kernel_rfl) (fun _ _ _ h => h) (by rfl) hHeld ?_ ?_
  rotate_left
  · (intro w' hS'; go_simp <;> (with_reducible rfl))
  simp only [Act.put, List.getElem_toArray, List.getElem_cons_zero, List.getElem_cons_succ, List.setIfInBounds_toArray, List.set_cons_zero, List.set_cons_succ]
  refine held_q (v := ?_) (i := 5) rfl (by kernel_rfl) (by kernel_rfl) (by kernel_rfl) (fun _ _ _ h => h) (by rfl) hHeld ?_ ?_
  rotate_left
  · (intro w' hS'; go_simp <;> (with_reducible rfl))
  simp only [Act.put, List.getElem_toArray, List.getElem_cons_zero, List.getElem_cons_succ, List.setIfInBounds_toArray, List.set_cons_zero, List.set_cons_succ]
  refine held_q (v := ?_) (i := 6) rfl (by kernel_rfl) (by kernel_rfl) (by kernel_rfl) (fun _ _ _ h => h) (by rfl) hHeld ?_ ?_
  rotate_left
  · (intro w' hS'; go_simp <;> (with_reducible rfl))
  simp only [Act.put, List.getElem_toArray, List.getElem_cons_zero, List.getElem_cons_succ, List.setIfInBounds_toArray, List.set_cons_zero, List.set_cons_succ]
  refine held_q (i := 7) rfl (by kernel_rfl) (by kernel_rfl) (by kernel_rfl) (fun _ _ _ h => h) (by rfl) hHeld (fun w' hS' => exec_load 65 _ rfl rfl ((hH0.kept hS' (by omega)).ldK)) ?_
  simp only [Act.put, List.getElem_toArray, List.getElem_cons_zero, List.getElem_cons_succ, List.setIfInBounds_toArray, List.set_cons_zero, List.set_cons_succ]
  refine held_q (v := ?_) (i := 8) rfl (by kernel_rfl) (by kernel_rfl) (by kernel_rfl) (fun _ _ _ h => h) (by rfl) hHeld ?_ ?_
  rotate_left
  · (intro w' hS'; go_simp <;> (with_reducible rfl))
  simp only [Act.put, List.getElem_toArray, List.getElem_cons_zero, List.getElem_cons_succ, List.setIfInBounds_toArray, List.set_cons_zero, List.set_cons_succ]
  refine held_c (i := 9) (f := 59) (args := #[(Value.agg (List.toArray (kv .u32 hW))), (Value.agg (List.toArray (kv .u32 kW))), .slice va b.length vc]) (by kernel_rfl) rfl (by rfl) ?_ (rSum_ct (h0.kept (Kept.refl _ W0).drew) (by omega)) ?_
  · (go_simp <;> rfl)
  rintro e W1 ⟨rfl, k1⟩
  have hHeld := hHeld.trans (k1.mono (fun _ _ h => h.elim))
  refine ⟨_, rfl, hHeld, ?_⟩
  simp only [Act.put, List.getElem_toArray, List.getElem_cons_zero, List.getElem_cons_succ, List.setIfInBounds_toArray, List.set_cons_zero, List.set_cons_succ]
  have hXX := HX.out
  have k01 : Kept (fun _ => False) W0 W1 := (Kept.refl (fun _ => False) W0).drew.trans k1
  have hdl : (nv (shaL b)).length = 32 := shaL_len _
  have m2 := n0.stay k01 not_false
  have s1 := stDig m2 (m := nv (shaL b)) rfl hdl
  have p1 := m2.put (nv (shaL b))
  have kp : Kept (fun _ => False) w (W1.setRow X (kv .u8 (nv (shaL b))).toArray) := (k0.trans k01).setRow (fun h => absurd h (by omega)) _
  refine held_s (i := 10) (w1 := W1.setRow X (kv .u8 (nv (shaL b))).toArray) (by kernel_rfl) rfl (by rfl) (exec_store 27 _ _ rfl rfl rfl s1) (hHeld.setRow (fun _ => rfl) _) (fun hHeld => ?_)
  simp only [Act.put, List.getElem_toArray, List.getElem_cons_zero, List.getElem_cons_succ, List.setIfInBounds_toArray, List.set_cons_zero, List.set_cons_succ]
  refine wpAnyH_done (by kernel_rfl) ?_ _
  go_wp2_with fail
  refine bodyPost_ret (results_cell_row rfl _ _ _ _ _ _ _ rfl p1 Tryd.underlying27 rfl (by rw [List.size_toArray, kv_len, hdl]; kernel_rfl)) rfl ?_
  exact ⟨rfl, kp⟩
theorem bld_hash (w : World) : (Instr.build 69 #[(0, (Value.agg (List.toArray (kv .u32 hW)))), (1, (Value.agg (List.toArray (kv .u32 kW))))]).run Tryd.prog w = .ok (.agg ((kv .u32 hW).toArray ++ (kv .u32 kW).toArray)) w := by kernel_rfl
set_option maxHeartbeats 2000000 in
theorem hnew_ct (w : World) :
    Calls Tryd.prog 25 #[] w fun e w' => ∃ B, e = .returned (.pointer (some ⟨B, 0, none⟩)) ∧ HashAt w' B ∧ Kept (fun _ => False) w w' := by
  have zz := zeroW64
  have z8' := zeroW8
  go_enter Tryd.func25, Tryd.ntmps25
  go_wp2_with fail
  refine (words_ct w).mono ?_
  rintro e W ⟨rfl, k0⟩
  obtain ⟨X, hX⟩ : ∃ X, W.heap.size = X := ⟨_, rfl⟩
  have kk := fun (v : World) (o : Obj) => (Kept.refl (fun _ => False) v).alloc o
  have a0 : Arr ((W.alloc (.cells (kv .u32 z8).toArray 64)).alloc (.cells (kv .u32 z64).toArray 65)) X 64 .u32 z8 := (Arr.new hX.symm).stay (kk _ _) not_false
  have a1 : Arr ((W.alloc (.cells (kv .u32 z8).toArray 64)).alloc (.cells (kv .u32 z64).toArray 65)) (X + 1) 65 .u32 z64 := Arr.new (by rw [World.size_alloc, hX])
  have k1 := k0.trans ((kk W (.cells (kv .u32 z8).toArray 64)).trans (kk _ (.cells (kv .u32 z64).toArray 65)))
  have hsz : ((W.alloc (.cells (kv .u32 z8).toArray 64)).alloc (.cells (kv .u32 z64).toArray 65)).heap.size = X + 1 + 1 := by rw [World.size_alloc, World.size_alloc, hX]
  generalize hW0 : (W.alloc (.cells (kv .u32 z8).toArray 64)).alloc (.cells (kv .u32 z64).toArray 65) = W0 at a0 a1 k1 hsz
  have s0 := stW8 a0 (m := hW) rfl hW_len
  have p0 := a0.put hW
  have ks0 := (Kept.refl (fun j => j = X) W0).setRow (b := X) (fun _ => rfl) (kv .u32 hW).toArray
  have s1 := stW64 (a1.stay ks0 (by omega)) (m := kW) rfl kW_len
  have p1 := (a1.stay ks0 (by omega)).put kW
  have ks1 := (Kept.refl (fun j => j = X + 1) (W0.setRow X (kv .u32 hW).toArray)).setRow (b := X + 1) (fun _ => rfl) (kv .u32 kW).toArray
  have r0 := p0.stay ks1 (by omega)
  have hwX : w.heap.size ≤ X := by have := k0.size; omega
  have kf : Kept (fun _ => False) w ((W0.setRow X (kv .u32 hW).toArray).setRow (X + 1) (kv .u32 kW).toArray) := (k1.setRow (b := X) (fun h => absurd h (by omega)) _).setRow (b := X + 1) (fun h => absurd h (by omega)) _
  have l0 := ldW8 r0 hW_len
  have l1 := ldW64 p1 kW_len
  have bl := bld_hash ((W0.setRow X (kv .u32 hW).toArray).setRow (X + 1) (kv .u32 kW).toArray)
  clear a0 a1 k1 hsz p0 ks0 p1 ks1 r0 k0 hwX kk
  subst hX
  subst hW0
  go_wp2_with (first
    | (with_reducible refine wpl_alloc 64 rfl rfl (z8' _) ?_
       simp only [World.size_alloc, Act.put, List.getElem_toArray, List.getElem_cons_zero, List.getElem_cons_succ, List.setIfInBounds_toArray, List.set_cons_zero, List.set_cons_succ])
    | (with_reducible refine wpl_alloc 65 rfl rfl (zz _) ?_
       simp only [World.size_alloc, Act.put, List.getElem_toArray, List.getElem_cons_zero, List.getElem_cons_succ, List.setIfInBounds_toArray, List.set_cons_zero, List.set_cons_succ])
    | (with_reducible refine wpl_store 64 _ _ rfl rfl ?_ ?_ s0 ?_
       · rfl
       · rfl
       simp only [Act.put, List.getElem_toArray, List.getElem_cons_zero, List.getElem_cons_succ, List.setIfInBounds_toArray, List.set_cons_zero, List.set_cons_succ])
    | (with_reducible refine wpl_store 65 _ _ rfl rfl ?_ ?_ s1 ?_
       · rfl
       · rfl
       simp only [Act.put, List.getElem_toArray, List.getElem_cons_zero, List.getElem_cons_succ, List.setIfInBounds_toArray, List.set_cons_zero, List.set_cons_succ])
    | (with_reducible refine wpl_load 64 _ rfl rfl ?_ l0 ?_
       · rfl
       simp only [Act.put, List.getElem_toArray, List.getElem_cons_zero, List.getElem_cons_succ, List.setIfInBounds_toArray, List.set_cons_zero, List.set_cons_succ])
    | (with_reducible refine wpl_load 65 _ rfl rfl ?_ l1 ?_
       · rfl
       simp only [Act.put, List.getElem_toArray, List.getElem_cons_zero, List.getElem_cons_succ, List.setIfInBounds_toArray, List.set_cons_zero, List.set_cons_succ])
    | (with_reducible refine wpl_build 69 _ rfl rfl ?_ bl ?_
       · (go_simp <;> rfl)
       simp only [Act.put, List.getElem_toArray, List.getElem_cons_zero, List.getElem_cons_succ, List.setIfInBounds_toArray, List.set_cons_zero, List.set_cons_succ]))
  go_ret
  exact ⟨_, rfl, ⟨69, (0, 0), by rw [heap_at (by simp [World.setRow])]; simp⟩, kf.alloc _⟩
