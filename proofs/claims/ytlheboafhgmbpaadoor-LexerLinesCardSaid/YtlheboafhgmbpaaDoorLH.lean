/- The reader ends a word. -/
import Derived.Test.YtlheboafhgmbpaaDoorLG
namespace Go.Proofs.YtlheboafhgmbpaaDoor
open Go.RowKit
set_option maxRecDepth 100000
set_option linter.unusedSimpArgs false
set_option linter.unusedVariables false


set_option maxHeartbeats 1000000 in
theorem reset_ct {w : World} {R : Nat} {s p b ws : Value} (h : w.heap[R]? = some (.cells #[s, p, b, ws] 47 (0, 0))) :
    Calls Tryd.prog 30 #[.pointer (some ⟨R, 1, none⟩)] w fun e w' => e = .returned (.tuple #[]) ∧ w'.heap[R]? = some (.cells #[s, .pointer none, .slice none 0 0, ws] 47 (0, 0)) ∧ Kept (fun k => k = R) w w' := by
  have c1 : w.cell? ⟨R, 1, none⟩ = some p := by rw [cell_of_row _ _ _ _ _ _ h]; rfl
  have f1 : w.frozen? ⟨R, 1, none⟩ = false := by simp [World.frozen?, h]
  have h1 : (w.setCell ⟨R, 1, none⟩ (.pointer none)).heap[R]? = some (.cells #[s, .pointer none, b, ws] 47 (0, 0)) := by rw [heap_setCell_same h]; rfl
  have c2 : (w.setCell ⟨R, 1, none⟩ (.pointer none)).cell? ⟨R, 2, none⟩ = some b := by rw [cell_of_row _ _ _ _ _ _ h1]; rfl
  have f2 : (w.setCell ⟨R, 1, none⟩ (.pointer none)).frozen? ⟨R, 2, none⟩ = false := by simp [World.frozen?, h1]
  have h2 : ((w.setCell ⟨R, 1, none⟩ (.pointer none)).setCell ⟨R, 2, none⟩ (.slice none 0 0)).heap[R]? = some (.cells #[s, .pointer none, .slice none 0 0, ws] 47 (0, 0)) := by rw [heap_setCell_same h1]; rfl
  have k2 : Kept (fun k => k = R) w ((w.setCell ⟨R, 1, none⟩ (.pointer none)).setCell ⟨R, 2, none⟩ (.slice none 0 0)) :=
    ((Kept.refl (fun k => k = R) w).setCell (p := ⟨R, 1, none⟩) (fun _ => rfl) _).setCell (p := ⟨R, 2, none⟩) (fun _ => rfl) _
  have HF := Lib.hid (And.intro h2 k2)
  clear h h1 h2 k2
  go_enter Tryd.func30, Tryd.ntmps30
  go_wp2_with fail
  go_end0
  exact ⟨rfl, HF.out⟩
theorem bslice_s1 (x : List UInt8) (w : World) : (Instr.buildSlice 30 1 #[(0, str x)]).run Tryd.prog w = .ok (.slice (some ⟨w.heap.size, 0, none⟩) 1 1) (w.alloc (.cells #[str x] 9)) := by kernel_rfl
theorem store_ss {w : World} {R j n c : Nat} {a : Option Addr} {v0 : Value} (hc : w.cell? ⟨R, j, none⟩ = some v0) (hf : w.frozen? ⟨R, j, none⟩ = false) :
    (Instr.storeAt 30 (.pointer (some ⟨R, j, none⟩)) (.slice a n c)).run Tryd.prog w = .ok () (w.setCell ⟨R, j, none⟩ (.slice a n c)) := by
  go_simp
set_option maxRecDepth 100000 in
set_option maxHeartbeats 2000000 in
theorem end_ct {w : World} {B R : Nat} {st : RdS} (h : RdAt w B R st) (hl : st.words.length ≤ 900000) (hBw : B ≤ w.heap.size) :
    Calls Tryd.prog 18 #[.pointer (some ⟨R, 0, none⟩)] w fun e w' => e = .returned (.tuple #[]) ∧ RdAt w' B R st.stop ∧ Kept (RS w B R) w w' := by
  obtain ⟨hBR, p, b, ws, hR, hp, hb, hws, hn⟩ := h
  have hRl : R < w.heap.size := (Array.getElem?_eq_some_iff.1 hR).1
  have bs := fun w' => bslice_s1 st.word w'
  obtain ⟨aw, cw, hwf⟩ := row_form hws
  subst hwf
  have hT : ∀ k, (b.ownBlock = some k ∨ (Value.slice aw st.words.length cw).ownBlock = some k) → k ≠ R := fun k e => by
    rcases e with e | e
    · exact not_R hb hR (by decide) k e
    · exact not_R hws hR (by decide) k e
  have c3 : ∀ w', Kept (fun k => b.ownBlock = some k ∨ (Value.slice aw st.words.length cw).ownBlock = some k) w w' → w'.cell? ⟨R, 3, none⟩ = some (.slice aw st.words.length cw) := fun w' q => by
    rw [q.cell (p := ⟨R, 3, none⟩) hRl (fun e => hT R e rfl), cell_of_row _ _ _ _ _ _ hR]; rfl
  go_enter Tryd.func18, Tryd.ntmps18
  go_wp2_with fail
  refine tail_drew 13 (Kept (fun k => b.ownBlock = some k ∨ (Value.slice aw st.words.length cw).ownBlock = some k) w) (by kernel_rfl) ((Kept.refl _ w).drew) (fun hHeld => ?_)
  refine tail_q (v := ?_) (i := 0) rfl (by kernel_rfl) (by kernel_rfl) (by kernel_rfl) (by kernel_rfl) (by decide) (fun _ _ _ h => h) (by rfl) hHeld ?_ ?_
  rotate_left
  · (intro w' hS'; go_simp <;> (with_reducible rfl))
  simp only [Act.put, List.getElem_toArray, List.getElem_cons_zero, List.getElem_cons_succ, List.setIfInBounds_toArray, List.set_cons_zero, List.set_cons_succ]
  refine tail_q (v := ?_) (i := 1) rfl (by kernel_rfl) (by kernel_rfl) (by kernel_rfl) (by kernel_rfl) (by decide) (fun _ _ _ h => h) (by rfl) hHeld ?_ ?_
  rotate_left
  · (intro w' hS'; go_simp <;> (with_reducible rfl))
  simp only [Act.put, List.getElem_toArray, List.getElem_cons_zero, List.getElem_cons_succ, List.setIfInBounds_toArray, List.set_cons_zero, List.set_cons_succ]
  refine tail_q (v := ?_) (i := 2) rfl (by kernel_rfl) (by kernel_rfl) (by kernel_rfl) (by kernel_rfl) (by decide) (fun _ _ _ h => h) (by rfl) hHeld ?_ ?_
  rotate_left
  · (intro w' hS'; go_simp <;> (with_reducible rfl))
  simp only [Act.put, List.getElem_toArray, List.getElem_cons_zero, List.getElem_cons_succ, List.setIfInBounds_toArray, List.set_cons_zero, List.set_cons_succ]
  refine tail_q (v := ?_) (i := 3) rfl (by kernel_rfl) (by kernel_rfl) (by kernel_rfl) (by kernel_rfl) (by decide) (fun _ _ _ h => h) (by rfl) hHeld ?_ ?_
  rotate_left
  · (intro w' hS'; go_simp <;> (with_reducible rfl))
  simp only [Act.put, List.getElem_toArray, List.getElem_cons_zero, List.getElem_cons_succ, List.setIfInBounds_toArray, List.set_cons_zero, List.set_cons_succ]
  refine tail_q (v := ?_) (i := 4) rfl (by kernel_rfl) (by kernel_rfl) (by kernel_rfl) (by kernel_rfl) (by decide) (fun _ _ _ h => h) (by rfl) hHeld ?_ ?_
  rotate_left
  · (intro w' hS'; go_simp <;> (with_reducible rfl))
  simp only [Act.put, List.getElem_toArray, List.getElem_cons_zero, List.getElem_cons_succ, List.setIfInBounds_toArray, List.set_cons_zero, List.set_cons_succ]
  refine tail_q (v := ?_) (i := 5) rfl (by kernel_rfl) (by kernel_rfl) (by kernel_rfl) (by kernel_rfl) (by decide) (fun _ _ _ h => h) (by rfl) hHeld ?_ ?_
  rotate_left
  · (intro w' hS'; go_simp <;> (with_reducible rfl))
  simp only [Act.put, List.getElem_toArray, List.getElem_cons_zero, List.getElem_cons_succ, List.setIfInBounds_toArray, List.set_cons_zero, List.set_cons_succ]
  refine tail_q (v := ?_) (i := 6) rfl (by kernel_rfl) (by kernel_rfl) (by kernel_rfl) (by kernel_rfl) (by decide) (fun _ _ _ h => h) (by rfl) hHeld ?_ ?_
  rotate_left
  · (intro w' hS'; go_simp <;> (with_reducible rfl))
  simp only [Act.put, List.getElem_toArray, List.getElem_cons_zero, List.getElem_cons_succ, List.setIfInBounds_toArray, List.set_cons_zero, List.set_cons_succ]
  refine tail_q (v := ?_) (i := 7) rfl (by kernel_rfl) (by kernel_rfl) (by kernel_rfl) (by kernel_rfl) (by decide) (fun _ _ _ h => h) (by rfl) hHeld ?_ ?_
  rotate_left
  · (intro w' hS'; go_simp <;> (with_reducible rfl))
  simp only [Act.put, List.getElem_toArray, List.getElem_cons_zero, List.getElem_cons_succ, List.setIfInBounds_toArray, List.set_cons_zero, List.set_cons_succ]
  refine tail_c (i := 8) (f := 29) (args := #[.pointer (some ⟨R, 1, none⟩)]) (by kernel_rfl) rfl (by rfl) ?_ (show Calls Tryd.prog 29 #[.pointer (some ⟨R, 1, none⟩)] w.drew _ from string_ct hR hb hn) ?_
  · (go_simp <;> rfl)
  rintro e W1 ⟨rfl, k1⟩
  have k1 := (Kept.refl (fun k => b.ownBlock = some k) w).drew.trans k1
  have k1' : Kept (fun k => b.ownBlock = some k ∨ (Value.slice aw st.words.length cw).ownBlock = some k) w W1 := k1.mono (fun _ _ e => .inl e)
  refine ⟨_, rfl, k1', ?_⟩
  simp only [Act.put, List.getElem_toArray, List.getElem_cons_zero, List.getElem_cons_succ, List.setIfInBounds_toArray, List.set_cons_zero, List.set_cons_succ]
  have hws1 := row_stay hws k1 (fun k hk => rows_apart hb hws k hk)
  have hg := heap_last W1 (.cells #[str st.word] 9)
  obtain ⟨v', W2, ap, ho, hgr⟩ := app_str (c := 1) (hws1.alloc (.cells #[str st.word] 9)) st.word hg (by omega) (by have := k1.size; simp; have : B ≤ W1.heap.size := Nat.le_trans hBw k1.size; omega) 30
  have k2 : Kept (fun k => (Value.slice aw st.words.length cw).ownBlock = some k) W1 W2 := ((Kept.refl _ W1).alloc _).trans (grown_row hgr)
  have k2' : Kept (fun k => b.ownBlock = some k ∨ (Value.slice aw st.words.length cw).ownBlock = some k) w W2 := k1'.trans (k2.mono (fun _ _ e => .inr e))
  have hR2 : W2.heap[R]? = some (.cells #[.int .i64 (st.st : Int), p, b, .slice aw st.words.length cw] 47 (0, 0)) := by
    rw [k2'.block R hRl (fun e => hT R e rfl)]; exact hR
  have f3 : W2.frozen? ⟨R, 3, none⟩ = false := by simp [World.frozen?, hR2]
  have c3' : W2.cell? ⟨R, 3, none⟩ = some (.slice aw st.words.length cw) := by rw [cell_of_row _ _ _ _ _ _ hR2]; rfl
  obtain ⟨a2, c2, hvf⟩ := row_form ho
  subst hvf
  have st3 := store_ss (a := a2) (n := st.words.length + 1) (c := c2) c3' f3
  have hR3 : (W2.setCell ⟨R, 3, none⟩ (.slice a2 (st.words.length + 1) c2)).heap[R]? = some (.cells #[.int .i64 (st.st : Int), p, b, .slice a2 (st.words.length + 1) c2] 47 (0, 0)) := by rw [heap_setCell_same hR2]; rfl
  have k3 : Kept (fun k => k = R) W2 (W2.setCell ⟨R, 3, none⟩ (.slice a2 (st.words.length + 1) c2)) := (Kept.refl (fun k => k = R) W2).setCell (p := ⟨R, 3, none⟩) (fun _ => rfl) _
  have kk3 : Kept (RS w B R) w (W2.setCell ⟨R, 3, none⟩ (.slice a2 (st.words.length + 1) c2)) :=
    RS.trans (RS.trans (RS.row8 hb k1) (RS.rowS hws1 k2)) (RS.self hBR k3)
  have ho3 := row_stay ho k3 (fun k hk => not_R ho hR2 (by decide) k hk)
  have bs1 := bs W1
  clear hws hb hws1 hg hgr k2 hR2 c3 c3' f3 k3 hR hT bs
  refine tail_v (i := 9) (by kernel_rfl) rfl (by rfl) (exec_buildSlice 30 1 _ rfl (by go_simp <;> rfl) bs1) (k1'.alloc _) (fun hHeld => ?_)
  simp only [Act.put, List.getElem_toArray, List.getElem_cons_zero, List.getElem_cons_succ, List.setIfInBounds_toArray, List.set_cons_zero, List.set_cons_succ]
  refine tail_v (i := 10) (by kernel_rfl) rfl (by rfl) (exec_append 30 _ _ rfl rfl rfl ap) (k2') (fun hHeld => ?_)
  simp only [Act.put, List.getElem_toArray, List.getElem_cons_zero, List.getElem_cons_succ, List.setIfInBounds_toArray, List.set_cons_zero, List.set_cons_succ]
  refine tail_v (v := ?_) (i := 11) (by kernel_rfl) rfl (by rfl) ?_ hHeld (fun hHeld => ?_)
  rotate_left
  · (go_simp <;> (with_reducible rfl))
  simp only [Act.put, List.getElem_toArray, List.getElem_cons_zero, List.getElem_cons_succ, List.setIfInBounds_toArray, List.set_cons_zero, List.set_cons_succ]
  refine tail_v (v := ?_) (i := 12) (by kernel_rfl) rfl (by rfl) ?_ hHeld (fun hHeld => ?_)
  rotate_left
  · (go_simp <;> (with_reducible rfl))
  simp only [Act.put, List.getElem_toArray, List.getElem_cons_zero, List.getElem_cons_succ, List.setIfInBounds_toArray, List.set_cons_zero, List.set_cons_succ]
  refine tail_end (by kernel_rfl) rfl (by rfl) (exec_store 30 _ _ rfl rfl rfl st3) (by kernel_rfl) ?_
  simp only [Act.put, List.getElem_toArray, List.getElem_cons_zero, List.getElem_cons_succ, List.setIfInBounds_toArray, List.set_cons_zero, List.set_cons_succ]
  generalize W2.setCell ⟨R, 3, none⟩ (.slice a2 (st.words.length + 1) c2) = W3 at hR3 kk3 ho3 ⊢
  clear st3 ap hHeld bs1 k1 k1' k2' ho
  have rc := reset_ct hR3
  go_wp2_with fail
  refine rc.mono ?_
  rintro e W4 ⟨rfl, hR4, k4⟩
  have ho4 := row_stay ho3 k4 (fun k hk => not_R ho3 hR3 (by decide) k hk)
  have kk4 := RS.trans kk3 (RS.self hBR k4)
  have c0 : W4.cell? ⟨R, 0, none⟩ = some (.int .i64 (st.st : Int)) := by rw [cell_of_row _ _ _ _ _ _ hR4]; rfl
  have f0 : W4.frozen? ⟨R, 0, none⟩ = false := by simp [World.frozen?, hR4]
  have hR5 : (W4.setCell ⟨R, 0, none⟩ (.int .i64 0)).heap[R]? = some (.cells #[.int .i64 0, .pointer none, .slice none 0 0, .slice a2 (st.words.length + 1) c2] 47 (0, 0)) := by rw [heap_setCell_same hR4]; rfl
  have k5 : Kept (fun k => k = R) W4 (W4.setCell ⟨R, 0, none⟩ (.int .i64 0)) := (Kept.refl (fun k => k = R) W4).setCell (p := ⟨R, 0, none⟩) (fun _ => rfl) _
  have ho5 := row_stay ho4 k5 (fun k hk => not_R ho4 hR4 (by decide) k hk)
  have kk5 := RS.trans kk4 (RS.self hBR k5)
  have hfin : RdAt (W4.setCell ⟨R, 0, none⟩ (.int .i64 0)) B R st.stop :=
    ⟨hBR, _, _, _, hR5, .inl rfl, World.ownsRow_nil _ _ _ _, by simpa [RdS.stop] using ho5, fun _ => rfl⟩
  have HF := Lib.hid (And.intro hfin kk5)
  clear hfin kk5 ho5 k5 hR5 kk4 ho4 hR4 kk3 ho3 rc hR3
  go_wp2_with fail
  go_end0
  exact ⟨rfl, HF.out⟩
end Go.Proofs.YtlheboafhgmbpaaDoor
