/- The document's Try, where it sends nothing. -/
import Derived.Test.YtbaehaleigpijaaP5
namespace Go.Proofs.Ytbaehaleigpijaa
open Go.RowKit
set_option linter.unusedSimpArgs false
set_option linter.unusedVariables false
variable {b0 : Nat}

set_option maxHeartbeats 1000000 in
theorem rtry_live {w : World} {R : Nat} {s : St} {owns : List OwnE} {oths : List OthE} {vo vt : Value} (h : RbS b0 w R s owns oths vo vt) (hs : Refs s owns oths) {D : Array Value} (hD : IsDig D) {now : Int} (h0 : 0 ≤ now) {n : Nat} (hl : live s.U D now = some n) :
    Calls Try.prog 11 #[.pointer (some ⟨R, 0, none⟩), .agg D, .int .i64 now] w fun e w' => e = .returned (.tuple #[.slice none 0 0, .bool false]) ∧ Kept (fun _ => False) w w' := by
  have k1 : Kept (fun _ => False) w (w.alloc (.cells D 31)) := (Kept.refl _ w).alloc _
  have lc := rlive_ct (h.kept k1) hs hD h0
  rw [hl] at lc
  have hx := load_dig hD (heap_last w (.cells D 31))
  go_enter Try.func11, Try.ntmps11
  go_wp2_with (first
    | (with_reducible refine wpl_load 31 _ rfl rfl ?_ hx ?_
       · rfl
       simp only [Act.put, List.getElem_toArray, List.getElem_cons_zero, List.getElem_cons_succ, List.setIfInBounds_toArray, List.set_cons_zero, List.set_cons_succ]))
  refine lc.mono ?_
  rintro e W1 ⟨rfl, q1⟩
  simp only [liveV, Option.getD_some, Option.isSome_some]
  go_wp2_with fail
  go_ret2
  exact ⟨rfl, k1.trans q1⟩

set_option maxHeartbeats 1000000 in
theorem rtry_has {w : World} {R : Nat} {s : St} {owns : List OwnE} {oths : List OthE} {vo vt : Value} (h : RbS b0 w R s owns oths vo vt) (hs : Refs s owns oths) {D : Array Value} (hD : IsDig D) {now : Int} (h0 : 0 ≤ now) (hl : live s.U D now = none)
    {k b : Int} (ho : s.O (.agg D) = some (k, b)) (hb : 0 ≤ b ∧ b ≤ 4611686018427387904) (hwt : 0 ≤ s.wait ∧ s.wait ≤ 1000000) :
    Calls Try.prog 11 #[.pointer (some ⟨R, 0, none⟩), .agg D, .int .i64 now] w fun e w' => e = .returned (.tuple #[.slice none 0 0, .bool (decide (b + s.wait ≤ now))]) ∧ Kept (fun _ => False) w w' := by
  have k1 : Kept (fun _ => False) w (w.alloc (.cells D 31)) := (Kept.refl _ w).alloc _
  have lc := rlive_ct (h.kept k1) hs hD h0
  rw [hl] at lc
  have hx0 := heap_last w (.cells D 31)
  have zx : w.heap.size < (w.alloc (.cells D 31)).heap.size := by simp
  have hx := load_dig hD hx0
  go_enter Try.func11, Try.ntmps11
  go_wp2_with (first
    | (with_reducible refine wpl_load 31 _ rfl rfl ?_ hx ?_
       · rfl
       simp only [Act.put, List.getElem_toArray, List.getElem_cons_zero, List.getElem_cons_succ, List.setIfInBounds_toArray, List.set_cons_zero, List.set_cons_succ]))
  refine lc.mono ?_
  rintro e W1 ⟨rfl, q1⟩
  simp only [liveV, Option.getD_none, Option.isSome_none]
  have hx1 := load_dig hD ((q1.block _ zx not_false).trans hx0)
  have h1 := h.kept (k1.trans q1)
  clear hx lc
  go_wp2_with (first
    | (with_reducible refine wpl_load 31 _ rfl rfl ?_ hx1 ?_
       · rfl
       simp only [Act.put, List.getElem_toArray, List.getElem_cons_zero, List.getElem_cons_succ, List.setIfInBounds_toArray, List.set_cons_zero, List.set_cons_succ]))
  refine (own_ct h1 hD).mono ?_
  rintro e W2 ⟨q2, hown⟩
  obtain ⟨j, x, hj, hxD, rfl⟩ : ∃ (j : Nat) (x : OwnE), owns[j]? = some x ∧ x.D = D ∧ e = .returned (.int .i64 j) := by
    rcases hown with h' | ⟨hn, _⟩
    · exact h'
    · obtain ⟨j, x, a1, a2⟩ := hs.o2 D _ ho
      exact absurd a2 (hn j x a1)
  have h2 := h1.kept q2
  obtain ⟨g, cap, hv, hg, _, hra⟩ := row_at h2.own (fun e he => OwnE.len (h.digO e he)) hj
  have hxb : x.b = b := by
    have := hs.o1 j x hj
    rw [hxD, ho] at this
    injection this with this; injection this with _ this; exact this.symm
  have hDx := h.digO x (List.mem_of_getElem? hj)
  have cb : W2.cell? ⟨g, j * 37 + 36, none⟩ = some (.int .i64 b) := hra 36 _ (by simp [OwnE.cells, hDx.size, hxb])
  have hjl := (List.getElem?_eq_some_iff.1 hj).1
  have hml := row_le h2.own
  simp only [maxLen] at hml
  subst hv
  have c5 : ∀ w', Kept (fun _ => False) W2 w' → w'.cell? ⟨R, 5, none⟩ = some (.slice (some ⟨g, 0, none⟩) owns.length cap) := fun w' q => (h2.kept q).cell 5 _ rfl
  have c2 : ∀ w', Kept (fun _ => False) W2 w' → w'.cell? ⟨R, 2, none⟩ = some (.int .i64 s.wait) := fun w' q => (h2.kept q).cell 2 _ rfl
  have cbb : ∀ w', Kept (fun _ => False) W2 w' → w'.cell? ⟨g, j * 37 + 36, none⟩ = some (.int .i64 b) := fun w' q => (q.cell hg not_false).trans cb
  have hsum : IntKind.i64.wrap (b + s.wait) = b + s.wait := IntWalk.i64_in _ (by omega)
  have hX := Lib.hid hxD
  clear hx1 hxD hxb hj hown cb hra hDx h1 ho
  go_wp2_with fail
  refine wp_region_held_drew (S := (Kept (fun _ => False) W2)) (by kernel_rfl) ((Kept.refl _ W2).drew) (fun hHeld => ?_)
  refine held_q (v := ?_) (i := 0) rfl (by kernel_rfl) (by kernel_rfl) (by kernel_rfl) (fun _ _ _ h => h) (by rfl) hHeld ?_ ?_
  rotate_left
  · (intro w' hS'; go_simp <;> (with_reducible rfl))
  simp only [Act.put, List.getElem_toArray, List.getElem_cons_zero, List.getElem_cons_succ, List.setIfInBounds_toArray, List.set_cons_zero, List.set_cons_succ]
  refine held_q (v := ?_) (i := 1) rfl (by kernel_rfl) (by kernel_rfl) (by kernel_rfl) (fun _ _ _ h => h) (by rfl) hHeld ?_ ?_
  rotate_left
  · (intro w' hS'; go_simp <;> (with_reducible rfl))
  simp only [Act.put, List.getElem_toArray, List.getElem_cons_zero, List.getElem_cons_succ, List.setIfInBounds_toArray, List.set_cons_zero, List.set_cons_succ]
  refine held_q (v := ?_) (i := 2) rfl (by kernel_rfl) (by kernel_rfl) (by kernel_rfl) (fun _ _ _ h => h) (by rfl) hHeld ?_ ?_
  rotate_left
  · (intro w' hS'; go_simp <;> (with_reducible rfl))
  simp only [Act.put, List.getElem_toArray, List.getElem_cons_zero, List.getElem_cons_succ, List.setIfInBounds_toArray, List.set_cons_zero, List.set_cons_succ]
  refine held_q (v := ?_) (i := 3) rfl (by kernel_rfl) (by kernel_rfl) (by kernel_rfl) (fun _ _ _ h => h) (by rfl) hHeld ?_ ?_
  rotate_left
  · (intro w' hS'; go_simp <;> (with_reducible rfl))
  simp only [Act.put, List.getElem_toArray, List.getElem_cons_zero, List.getElem_cons_succ, List.setIfInBounds_toArray, List.set_cons_zero, List.set_cons_succ]
  refine held_q (v := ?_) (i := 4) rfl (by kernel_rfl) (by kernel_rfl) (by kernel_rfl) (fun _ _ _ h => h) (by rfl) hHeld ?_ ?_
  rotate_left
  · (intro w' hS'; go_simp <;> (with_reducible rfl))
  simp only [Act.put, List.getElem_toArray, List.getElem_cons_zero, List.getElem_cons_succ, List.setIfInBounds_toArray, List.set_cons_zero, List.set_cons_succ]
  refine held_q (v := ?_) (i := 5) rfl (by kernel_rfl) (by kernel_rfl) (by kernel_rfl) (fun _ _ _ h => h) (by rfl) hHeld ?_ ?_
  rotate_left
  · (intro w' hS'; go_simp <;> (with_reducible rfl))
  simp only [Act.put, List.getElem_toArray, List.getElem_cons_zero, List.getElem_cons_succ, List.setIfInBounds_toArray, List.set_cons_zero, List.set_cons_succ]
  refine held_q (v := ?_) (i := 6) rfl (by kernel_rfl) (by kernel_rfl) (by kernel_rfl) (fun _ _ _ h => h) (by rfl) hHeld ?_ ?_
  rotate_left
  · (intro w' hS'; go_simp <;> (with_reducible rfl))
  simp only [Act.put, List.getElem_toArray, List.getElem_cons_zero, List.getElem_cons_succ, List.setIfInBounds_toArray, List.set_cons_zero, List.set_cons_succ]
  refine held_q (v := ?_) (i := 7) rfl (by kernel_rfl) (by kernel_rfl) (by kernel_rfl) (fun _ _ _ h => h) (by rfl) hHeld ?_ ?_
  rotate_left
  · (intro w' hS'; go_simp <;> (with_reducible rfl))
  simp only [Act.put, List.getElem_toArray, List.getElem_cons_zero, List.getElem_cons_succ, List.setIfInBounds_toArray, List.set_cons_zero, List.set_cons_succ]
  refine held_q (v := ?_) (i := 8) rfl (by kernel_rfl) (by kernel_rfl) (by kernel_rfl) (fun _ _ _ h => h) (by rfl) hHeld ?_ ?_
  rotate_left
  · (intro w' hS'; go_simp <;> (with_reducible rfl))
  simp only [Act.put, List.getElem_toArray, List.getElem_cons_zero, List.getElem_cons_succ, List.setIfInBounds_toArray, List.set_cons_zero, List.set_cons_succ]
  refine held_q (v := ?_) (i := 9) rfl (by kernel_rfl) (by kernel_rfl) (by kernel_rfl) (fun _ _ _ h => h) (by rfl) hHeld ?_ ?_
  rotate_left
  · (intro w' hS'; go_simp <;> (with_reducible rfl))
  simp only [Act.put, List.getElem_toArray, List.getElem_cons_zero, List.getElem_cons_succ, List.setIfInBounds_toArray, List.set_cons_zero, List.set_cons_succ]
  refine held_q (v := ?_) (i := 10) rfl (by kernel_rfl) (by kernel_rfl) (by kernel_rfl) (fun _ _ _ h => h) (by rfl) hHeld ?_ ?_
  rotate_left
  · (intro w' hS'; go_simp <;> (with_reducible rfl))
  simp only [Act.put, List.getElem_toArray, List.getElem_cons_zero, List.getElem_cons_succ, List.setIfInBounds_toArray, List.set_cons_zero, List.set_cons_succ]
  refine held_q (v := ?_) (i := 11) rfl (by kernel_rfl) (by kernel_rfl) (by kernel_rfl) (fun _ _ _ h => h) (by rfl) hHeld ?_ ?_
  rotate_left
  · (intro w' hS'; go_simp <;> (with_reducible rfl))
  simp only [Act.put, List.getElem_toArray, List.getElem_cons_zero, List.getElem_cons_succ, List.setIfInBounds_toArray, List.set_cons_zero, List.set_cons_succ]
  refine held_q (v := ?_) (i := 12) rfl (by kernel_rfl) (by kernel_rfl) (by kernel_rfl) (fun _ _ _ h => h) (by rfl) hHeld ?_ ?_
  rotate_left
  · (intro w' hS'; go_simp <;> (with_reducible rfl))
  simp only [Act.put, List.getElem_toArray, List.getElem_cons_zero, List.getElem_cons_succ, List.setIfInBounds_toArray, List.set_cons_zero, List.set_cons_succ]
  refine held_q (v := ?_) (i := 13) rfl (by kernel_rfl) (by kernel_rfl) (by kernel_rfl) (fun _ _ _ h => h) (by rfl) hHeld ?_ ?_
  rotate_left
  · (intro w' hS'; go_simp <;> (with_reducible rfl))
  simp only [Act.put, List.getElem_toArray, List.getElem_cons_zero, List.getElem_cons_succ, List.setIfInBounds_toArray, List.set_cons_zero, List.set_cons_succ]
  refine held_q (v := ?_) (i := 14) rfl (by kernel_rfl) (by kernel_rfl) (by kernel_rfl) (fun _ _ _ h => h) (by rfl) hHeld ?_ ?_
  rotate_left
  · (intro w' hS'; go_simp <;> (with_reducible rfl))
  simp only [Act.put, List.getElem_toArray, List.getElem_cons_zero, List.getElem_cons_succ, List.setIfInBounds_toArray, List.set_cons_zero, List.set_cons_succ]
  refine held_q (v := ?_) (i := 15) rfl (by kernel_rfl) (by kernel_rfl) (by kernel_rfl) (fun _ _ _ h => h) (by rfl) hHeld ?_ ?_
  rotate_left
  · (intro w' hS'; go_simp <;> (with_reducible rfl))
  simp only [Act.put, List.getElem_toArray, List.getElem_cons_zero, List.getElem_cons_succ, List.setIfInBounds_toArray, List.set_cons_zero, List.set_cons_succ]
  refine held_q (v := ?_) (i := 16) rfl (by kernel_rfl) (by kernel_rfl) (by kernel_rfl) (fun _ _ _ h => h) (by rfl) hHeld ?_ ?_
  rotate_left
  · (intro w' hS'; go_simp <;> (with_reducible rfl))
  simp only [Act.put, List.getElem_toArray, List.getElem_cons_zero, List.getElem_cons_succ, List.setIfInBounds_toArray, List.set_cons_zero, List.set_cons_succ]
  refine wpAnyH_done (by kernel_rfl) ?_ _
  go_wp2_with fail
  go_ret2
  exact ⟨by simp, (k1.trans q1).trans (q2.trans hHeld)⟩
end Go.Proofs.Ytbaehaleigpijaa
