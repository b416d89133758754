/- The document's Try, where it sends. -/
import Derived.Test.YtbaehaleigpijaaP7
namespace Go.Proofs.Ytbaehaleigpijaa
open Go.RowKit
set_option linter.unusedSimpArgs false
set_option linter.unusedVariables false
variable {b0 : Nat}

set_option maxHeartbeats 2000000 in
theorem rtry_new {w : World} {R : Nat} {s : St} {owns : List OwnE} {oths : List OthE} {vo vt : Value} (h : RbS b0 w R s owns oths vo vt) (hs : Refs s owns oths) {D : Array Value} (hD : IsDig D) {now : Int} (h0 : 0 ≤ now) (hl : live s.U D now = none)
    (ho : s.O (.agg D) = none) (hc0 : 0 ≤ s.count) (hc1 : s.count < 1000000) (hn : owns.length ≤ 100000) :
    Calls Try.prog 11 #[.pointer (some ⟨R, 0, none⟩), .agg D, .int .i64 now] w fun e w' => ∃ v vo', e = .returned (.tuple #[v, .bool false]) ∧ Sent w w' v (some (clm D s.id s.inc (s.count + 1) false)) ∧ Kept (fun k => k = R ∨ vo.ownBlock = some k) w w' ∧
      RbS b0 w' R { s with count := s.count + 1, O := upd s.O (.agg D) (some (s.count + 1, now)) } (owns ++ [⟨D, s.count + 1, now⟩]) oths vo' vt := by
  have k1 : Kept (fun _ => False) w (w.alloc (.cells D 31)) := (Kept.refl _ w).alloc _
  have lc := rlive_ct (h.kept k1) hs hD h0
  rw [hl] at lc
  have hx0 := heap_last w (.cells D 31)
  have zx : w.heap.size < (w.alloc (.cells D 31)).heap.size := by simp
  have hx := load_dig hD hx0
  go_enter Try.func11, Try.ntmps11
  go_wp2_with (first
    | (with_reducible refine wpl_load 31 _ rfl rfl ?_ hx ?_
       · rfl
       simp only [Act.put, List.getElem_toArray, List.getElem_cons_zero, List.getElem_cons_succ, List.setIfInBounds_toArray, List.set_cons_zero, List.set_cons_succ]))
  refine lc.mono ?_
  rintro e W1 ⟨rfl, q1⟩
  simp only [liveV, Option.getD_none, Option.isSome_none]
  have hx1 := load_dig hD ((q1.block _ zx not_false).trans hx0)
  have h1 := h.kept (k1.trans q1)
  clear hx lc
  go_wp2_with (first
    | (with_reducible refine wpl_load 31 _ rfl rfl ?_ hx1 ?_
       · rfl
       simp only [Act.put, List.getElem_toArray, List.getElem_cons_zero, List.getElem_cons_succ, List.setIfInBounds_toArray, List.set_cons_zero, List.set_cons_succ]))
  refine (own_ct h1 hD).mono ?_
  rintro e W2 ⟨q2, hown⟩
  obtain rfl : e = .returned (.int .i64 (-1)) := by
    rcases hown with ⟨j, x, a1, a2, _⟩ | ⟨_, e2⟩
    · have := hs.o1 j x a1
      rw [a2, ho] at this; cases this
    · exact e2
  have h2 := h1.kept q2
  have c4 := h2.cell 4 _ rfl
  have f4 : W2.frozen? ⟨R, 4, none⟩ = false := by simp [World.frozen?, h2.blk]
  have hsum : IntKind.u64.wrap (s.count + 1) = s.count + 1 := IntWalk.u64_in _ (by omega)
  clear hx1 h1 ho hown
  go_upto_region 7 with fail
  have hr3 : (W2.setCell ⟨R, 4, none⟩ (.int .u64 (s.count + 1))).heap[R]? = some (.cells #[.int .i64 s.id, .int .u64 s.inc, .int .i64 s.wait, .int .i64 s.ttl, .int .u64 (s.count + 1), vo, vt] 50 (0, 0)) := by
    rw [heap_setCell_same h2.blk]; rfl
  have hk3 : Kept (· = R) W2 (W2.setCell ⟨R, 4, none⟩ (.int .u64 (s.count + 1))) := (Kept.refl (· = R) W2).setCell (fun _ => rfl) _
  generalize W2.setCell ⟨R, 4, none⟩ (.int .u64 (s.count + 1)) = W3 at hr3 hk3 ⊢
  have hRX : R ≠ w.heap.size := fun e => by have := h.lt; omega
  have q12 := q1.trans q2
  have zx2 := Nat.lt_of_lt_of_le zx q12.size
  have hh3 : W3.heap[w.heap.size]? = some (.cells D 31) := by rw [hk3.block _ zx2 (fun e => hRX e.symm), q12.block _ zx not_false]; exact hx0
  have zx3 := Nat.lt_of_lt_of_le zx2 hk3.size
  have hRW3 := (Array.getElem?_eq_some_iff.1 hr3).1
  have hb : ∀ (j : Nat) (v : Value), (#[Value.int .i64 s.id, .int .u64 s.inc, .int .i64 s.wait, .int .i64 s.ttl, .int .u64 (s.count + 1), vo, vt])[j]? = some v → ∀ w', Kept (fun _ => False) W3 w' → w'.cell? ⟨R, j, none⟩ = some v := fun j v hv w' q => by
    rw [q.cell (p := ⟨R, j, none⟩) hRW3 not_false, cell_of_row W3 R j _ _ _ hr3]; exact hv
  have hb0 := hb 0 _ rfl
  have hb1 := hb 1 _ rfl
  have hb4 := hb 4 _ rfl
  clear hb c4 f4
  have hst := fun wx : World => store_new (P := Try.prog) (ty := 33) (c := Z36) (c' := clm D s.id s.inc (s.count + 1) false) (by rw [clm_size hD]; kernel_rfl) (by rw [clm_size hD]; rfl) (clm_oneCell hD _ _ _ _) (w := wx) rfl
  refine wp_region_held_drew (S := (Kept (fun _ => False) W3)) (by kernel_rfl) ((Kept.refl _ W3).drew) (fun hHeld => ?_)
  refine held_q (i := 0) rfl (by kernel_rfl) (by kernel_rfl) (by kernel_rfl) (fun _ _ _ h => h) (by rfl) hHeld (fun w' hS' => exec_load 31 _ rfl rfl (load_dig hD (by rw [hS'.block _ zx3 not_false]; exact hh3))) ?_
  simp only [Act.put, List.getElem_toArray, List.getElem_cons_zero, List.getElem_cons_succ, List.setIfInBounds_toArray, List.set_cons_zero, List.set_cons_succ]
  refine held_q (v := ?_) (i := 1) rfl (by kernel_rfl) (by kernel_rfl) (by kernel_rfl) (fun _ _ _ h => h) (by rfl) hHeld ?_ ?_
  rotate_left
  · (intro w' hS'; go_simp <;> (with_reducible rfl))
  simp only [Act.put, List.getElem_toArray, List.getElem_cons_zero, List.getElem_cons_succ, List.setIfInBounds_toArray, List.set_cons_zero, List.set_cons_succ]
  refine held_q (v := ?_) (i := 2) rfl (by kernel_rfl) (by kernel_rfl) (by kernel_rfl) (fun _ _ _ h => h) (by rfl) hHeld ?_ ?_
  rotate_left
  · (intro w' hS'; go_simp <;> (with_reducible rfl))
  simp only [Act.put, List.getElem_toArray, List.getElem_cons_zero, List.getElem_cons_succ, List.setIfInBounds_toArray, List.set_cons_zero, List.set_cons_succ]
  refine held_q (v := ?_) (i := 3) rfl (by kernel_rfl) (by kernel_rfl) (by kernel_rfl) (fun _ _ _ h => h) (by rfl) hHeld ?_ ?_
  rotate_left
  · (intro w' hS'; go_simp <;> (with_reducible rfl))
  simp only [Act.put, List.getElem_toArray, List.getElem_cons_zero, List.getElem_cons_succ, List.setIfInBounds_toArray, List.set_cons_zero, List.set_cons_succ]
  refine held_q (v := ?_) (i := 4) rfl (by kernel_rfl) (by kernel_rfl) (by kernel_rfl) (fun _ _ _ h => h) (by rfl) hHeld ?_ ?_
  rotate_left
  · (intro w' hS'; go_simp <;> (with_reducible rfl))
  simp only [Act.put, List.getElem_toArray, List.getElem_cons_zero, List.getElem_cons_succ, List.setIfInBounds_toArray, List.set_cons_zero, List.set_cons_succ]
  refine held_q (v := ?_) (i := 5) rfl (by kernel_rfl) (by kernel_rfl) (by kernel_rfl) (fun _ _ _ h => h) (by rfl) hHeld ?_ ?_
  rotate_left
  · (intro w' hS'; go_simp <;> (with_reducible rfl))
  simp only [Act.put, List.getElem_toArray, List.getElem_cons_zero, List.getElem_cons_succ, List.setIfInBounds_toArray, List.set_cons_zero, List.set_cons_succ]
  refine held_q (v := ?_) (i := 6) rfl (by kernel_rfl) (by kernel_rfl) (by kernel_rfl) (fun _ _ _ h => h) (by rfl) hHeld ?_ ?_
  rotate_left
  · (intro w' hS'; go_simp <;> (with_reducible rfl))
  simp only [Act.put, List.getElem_toArray, List.getElem_cons_zero, List.getElem_cons_succ, List.setIfInBounds_toArray, List.set_cons_zero, List.set_cons_succ]
  refine held_q (v := ?_) (i := 7) rfl (by kernel_rfl) (by kernel_rfl) (by kernel_rfl) (fun _ _ _ h => h) (by rfl) hHeld ?_ ?_
  rotate_left
  · (intro w' hS'; go_simp <;> (with_reducible rfl))
  simp only [Act.put, List.getElem_toArray, List.getElem_cons_zero, List.getElem_cons_succ, List.setIfInBounds_toArray, List.set_cons_zero, List.set_cons_succ]
  refine held_q (v := ?_) (i := 8) rfl (by kernel_rfl) (by kernel_rfl) (by kernel_rfl) (fun _ _ _ h => h) (by rfl) hHeld ?_ ?_
  rotate_left
  · (intro w' hS'; go_simp <;> (with_reducible rfl))
  simp only [Act.put, List.getElem_toArray, List.getElem_cons_zero, List.getElem_cons_succ, List.setIfInBounds_toArray, List.set_cons_zero, List.set_cons_succ]
  refine held_q (v := ?_) (i := 9) rfl (by kernel_rfl) (by kernel_rfl) (by kernel_rfl) (fun _ _ _ h => h) (by rfl) hHeld ?_ ?_
  rotate_left
  · (intro w' hS'; go_simp <;> (with_reducible rfl))
  simp only [Act.put, List.getElem_toArray, List.getElem_cons_zero, List.getElem_cons_succ, List.setIfInBounds_toArray, List.set_cons_zero, List.set_cons_succ]
  refine held_q (v := ?_) (i := 10) rfl (by kernel_rfl) (by kernel_rfl) (by kernel_rfl) (fun _ _ _ h => h) (by rfl) hHeld ?_ ?_
  rotate_left
  · (intro w' hS'; go_simp <;> (with_reducible rfl))
  simp only [Act.put, List.getElem_toArray, List.getElem_cons_zero, List.getElem_cons_succ, List.setIfInBounds_toArray, List.set_cons_zero, List.set_cons_succ]
  refine held_q (v := ?_) (i := 11) rfl (by kernel_rfl) (by kernel_rfl) (by kernel_rfl) (fun _ _ _ h => h) (by rfl) hHeld ?_ ?_
  rotate_left
  · (intro w' hS'; go_simp <;> (with_reducible rfl))
  simp only [Act.put, List.getElem_toArray, List.getElem_cons_zero, List.getElem_cons_succ, List.setIfInBounds_toArray, List.set_cons_zero, List.set_cons_succ]
  refine held_q (v := ?_) (i := 12) rfl (by kernel_rfl) (by kernel_rfl) (by kernel_rfl) (fun _ _ _ h => h) (by rfl) hHeld ?_ ?_
  rotate_left
  · (intro w' hS'; go_simp <;> (with_reducible rfl))
  simp only [Act.put, List.getElem_toArray, List.getElem_cons_zero, List.getElem_cons_succ, List.setIfInBounds_toArray, List.set_cons_zero, List.set_cons_succ]
  refine held_q (i := 13) rfl (by kernel_rfl) (by kernel_rfl) (by kernel_rfl) (fun _ _ _ h => h) (by rfl) hHeld (fun w' hS' => exec_build 33 _ rfl (by go_simp <;> rfl) (build_clm hD s.id s.inc (s.count + 1) w')) ?_
  simp only [Act.put, List.getElem_toArray, List.getElem_cons_zero, List.getElem_cons_succ, List.setIfInBounds_toArray, List.set_cons_zero, List.set_cons_succ]
  refine held_v (i := 14) (v := .pointer (some ⟨(W3.drew).heap.size, 0, none⟩)) (w1 := (W3.drew).alloc (.cells Z36 33)) (by kernel_rfl) rfl (by rfl) ?_ ?_ (fun hHeld => ?_)
  · refine exec_alloc 33 ?_ ?_
    · rfl
    · exact zeroClm _
  · exact hHeld.alloc _
  simp only [Act.put, List.getElem_toArray, List.getElem_cons_zero, List.getElem_cons_succ, List.setIfInBounds_toArray, List.set_cons_zero, List.set_cons_succ]
  refine held_s (i := 15) (w1 := W3.drew.alloc (.cells (clm D s.id s.inc (s.count + 1) false) 33)) (by kernel_rfl) rfl (by rfl) ?_ ?_ (fun hHeld => ?_)
  · refine exec_store (p := .pointer (some ⟨W3.drew.heap.size, 0, none⟩)) (q := .agg (clm D s.id s.inc (s.count + 1) false)) 33 (.tmp 11) (.tmp 45) ?_ ?_ ?_ ?_
    · rfl
    · rfl
    · rfl
    · exact hst W3.drew
  · exact ((Kept.refl _ W3).drew).alloc _
  simp only [Act.put, List.getElem_toArray, List.getElem_cons_zero, List.getElem_cons_succ, List.setIfInBounds_toArray, List.set_cons_zero, List.set_cons_succ]
  refine wpAnyH_done (by kernel_rfl) ?_ _
  have hr4 : (W3.drew.alloc (.cells (clm D s.id s.inc (s.count + 1) false) 33)).heap[W3.heap.size]? = some (.cells (clm D s.id s.inc (s.count + 1) false) 33) := heap_last W3.drew _
  generalize W3.drew.alloc (.cells (clm D s.id s.inc (s.count + 1) false) 33) = W4 at hHeld hr4 ⊢
  have hR4 := (hHeld.block _ hRW3 not_false).trans hr3
  have hz4 := (Array.getElem?_eq_some_iff.1 hr4).1
  have voR : vo.ownBlock ≠ some R := fun e => by
    rcases h2.own.2 with ⟨rfl, _⟩ | ⟨g, cap, cur, rfl, _, hg, _⟩
    · cases e
    · have e : some g = some R := e
      injection e with e; subst e
      rw [h2.blk] at hg; injection hg with hg; injection hg with _ hg; exact absurd hg (by decide)
  have ho4 : W4.ownsRow b0 52 37 vo owns.length (owns.flatMap (OwnE.cells s.id s.inc)) :=
    row_kept (row_kept h2.own hk3 (fun k e q => voR (by rw [e, q]))) hHeld (fun _ _ => not_false)
  have hK4 := Lib.hid hHeld
  clear hb0 hb1 hb4 hst hr3 hHeld
  go_upto_region 8 with fail
  obtain ⟨ao, cap, hvo⟩ := row_form ho4
  have hR5 := hR4
  subst hvo
  have nC : ∀ {k}, k < W4.heap.size → k ≠ R → Value.ownBlock (.slice ao owns.length cap) ≠ some k → ∀ {w'}, Kept (fun k => k = R ∨ Value.ownBlock (.slice ao owns.length cap) = some k) W4 w' → w'.heap[k]? = W4.heap[k]? := fun h1 h2 h3 _ q => q.block _ h1 (fun e => e.elim h2 h3)
  have n1 : W3.heap.size ≠ R := fun e => by omega
  have n2 : Value.ownBlock (.slice ao owns.length cap) ≠ some W3.heap.size := fun e => by
    have := (World.ownsRow.lt (h2.own) _ e).2
    have := hk3.size
    omega
  refine wp_region_held_drew (S := (Kept (fun k => k = R ∨ Value.ownBlock (.slice ao owns.length cap) = some k) W4)) (by kernel_rfl) ((Kept.refl _ W4).drew) (fun hHeld => ?_)
  refine held_q (v := ?_) (i := 0) rfl (by kernel_rfl) (by kernel_rfl) (by kernel_rfl) (fun _ _ _ h => h) (by rfl) hHeld ?_ ?_
  rotate_left
  · (intro w' hS'; go_simp <;> (with_reducible rfl))
  simp only [Act.put, List.getElem_toArray, List.getElem_cons_zero, List.getElem_cons_succ, List.setIfInBounds_toArray, List.set_cons_zero, List.set_cons_succ]
  refine held_q (v := ?_) (i := 1) rfl (by kernel_rfl) (by kernel_rfl) (by kernel_rfl) (fun _ _ _ h => h) (by rfl) hHeld ?_ ?_
  rotate_left
  · (intro w' hS'; go_simp <;> (with_reducible rfl))
  simp only [Act.put, List.getElem_toArray, List.getElem_cons_zero, List.getElem_cons_succ, List.setIfInBounds_toArray, List.set_cons_zero, List.set_cons_succ]
  refine held_q (v := ?_) (i := 2) rfl (by kernel_rfl) (by kernel_rfl) (by kernel_rfl) (fun _ _ _ h => h) (by rfl) hHeld ?_ ?_
  rotate_left
  · (intro w' hS'; go_simp <;> (with_reducible rfl))
  simp only [Act.put, List.getElem_toArray, List.getElem_cons_zero, List.getElem_cons_succ, List.setIfInBounds_toArray, List.set_cons_zero, List.set_cons_succ]
  refine held_q (v := ?_) (i := 3) rfl (by kernel_rfl) (by kernel_rfl) (by kernel_rfl) (fun _ _ _ h => h) (by rfl) hHeld ?_ ?_
  rotate_left
  · (intro w' hS'; go_simp <;> (with_reducible rfl))
  simp only [Act.put, List.getElem_toArray, List.getElem_cons_zero, List.getElem_cons_succ, List.setIfInBounds_toArray, List.set_cons_zero, List.set_cons_succ]
  refine held_q (i := 5) rfl (by kernel_rfl) (by kernel_rfl) (by kernel_rfl) (fun _ _ _ h => h) (by rfl) hHeld (fun w' hS' => exec_load 33 _ rfl rfl (load_clm (clm_size hD s.id s.inc (s.count + 1) false) ((nC hz4 n1 n2 hS').trans hr4))) ?_
  simp only [Act.put, List.getElem_toArray, List.getElem_cons_zero, List.getElem_cons_succ, List.setIfInBounds_toArray, List.set_cons_zero, List.set_cons_succ]
  refine held_q (v := ?_) (i := 6) rfl (by kernel_rfl) (by kernel_rfl) (by kernel_rfl) (fun _ _ _ h => h) (by rfl) hHeld ?_ ?_
  rotate_left
  · (intro w' hS'; go_simp <;> (with_reducible rfl))
  simp only [Act.put, List.getElem_toArray, List.getElem_cons_zero, List.getElem_cons_succ, List.setIfInBounds_toArray, List.set_cons_zero, List.set_cons_succ]
  refine held_q (i := 7) rfl (by kernel_rfl) (by kernel_rfl) (by kernel_rfl) (fun _ _ _ h => h) (by rfl) hHeld (fun w' hS' => exec_build 52 _ rfl (by go_simp <;> rfl) (build_rown hD s.id s.inc (s.count + 1) false now w')) ?_
  simp only [Act.put, List.getElem_toArray, List.getElem_cons_zero, List.getElem_cons_succ, List.setIfInBounds_toArray, List.set_cons_zero, List.set_cons_succ]
  have hRV : W4.drew.heap[R]? = some (.cells #[.int .i64 s.id, .int .u64 s.inc, .int .i64 s.wait, .int .i64 s.ttl, .int .u64 (s.count + 1), .slice ao owns.length cap, vt] 50 (0, 0)) := hR4
  have cR : W4.drew.cell? ⟨R, 5, none⟩ = some (.slice ao owns.length cap) := by rw [cell_of_row _ _ _ _ _ _ hRV]; rfl
  have bs := bslice_own hD s.id s.inc (s.count + 1) false now W4.drew
  have hr5 := heap_last W4.drew (.cells (clm D s.id s.inc (s.count + 1) false ++ #[.int .i64 now]) 52)
  have k5 : Kept (fun _ => False) W4 (W4.drew.alloc (.cells (clm D s.id s.inc (s.count + 1) false ++ #[.int .i64 now]) 52)) := ((Kept.refl _ W4).drew).alloc _
  have z5 : W4.heap.size = W4.drew.heap.size := rfl
  generalize hW5 : W4.drew.alloc (.cells (clm D s.id s.inc (s.count + 1) false ++ #[.int .i64 now]) 52) = W5 at bs hr5 k5
  generalize hX : W4.drew.heap.size = X at bs hr5 z5
  have ho5 := row_kept ho4 k5 (fun _ _ => not_false)
  have hR5 := (k5.block _ (Array.getElem?_eq_some_iff.1 hR4).1 not_false).trans hR4
  have cR5 : W5.cell? ⟨R, 5, none⟩ = some (.slice ao owns.length cap) := by rw [cell_of_row _ _ _ _ _ _ hR5]; rfl
  obtain ⟨v6, W6, ap, ho6, hg6, hloc⟩ := append_own1 ho5 (by omega) hr5 (by simp [hD.size]) (by rw [Array.all_append, clm_oneCell hD]; simp [Value.oneCell']) (by have h1 := h2.far; have h3 := (Array.getElem?_eq_some_iff.1 hR5).1; omega) 47
  obtain ⟨a6, c6, hv6⟩ := row_form ho6
  subst hv6
  have k6 : Kept (fun k => k = R ∨ Value.ownBlock (.slice ao owns.length cap) = some k) W5 W6 := ⟨hg6.os, hg6.tape, hg6.output, hg6.size, fun k hk hs => hg6.block k hk (fun e => hs (.inr e.symm))⟩
  have q5 : Kept (fun k => k = R ∨ Value.ownBlock (.slice ao owns.length cap) = some k) W4 W5 := k5.upto
  have q6 := q5.trans' k6 (fun _ _ e => e)
  have hR6 := (hg6.block R (Array.getElem?_eq_some_iff.1 hR5).1 (fun e => voR e.symm)).trans hR5
  have cR6 : W6.cell? ⟨R, 5, none⟩ = some (.slice ao owns.length cap) := by rw [cell_of_row _ _ _ _ _ _ hR6]; rfl
  have fR6 : W6.frozen? ⟨R, 5, none⟩ = false := by simp [World.frozen?, hR6]
  have st7 := store_slice (n := owns.length + 1) (c := c6) (a := a6) cR6 fR6
  have q7 := q6.setCell (p := ⟨R, 5, none⟩) (fun _ => .inl rfl) (.slice a6 (owns.length + 1) c6)
  have vtR : vt.ownBlock ≠ some R := fun e => by
    rcases h2.oth.2 with ⟨rfl, _⟩ | ⟨g, cap, cur, rfl, _, hg, _⟩
    · cases e
    · have e : some g = some R := e
      injection e with e; subst e
      rw [h2.blk] at hg; injection hg with hg; injection hg with _ hg; exact absurd hg (by decide)
  have vtO : ∀ k, vt.ownBlock = some k → Value.ownBlock (.slice ao owns.length cap) ≠ some k := fun k e e' => by
    rcases h2.oth.2 with ⟨rfl, _⟩ | ⟨g, c1, cur, rfl, _, hg, _⟩
    · cases e
    · rcases h2.own.2 with ⟨hq, _⟩ | ⟨g', c2, cur', hq, _, hg', _⟩
      · rw [hq] at e'; cases e'
      · rw [hq] at e'
        have e : some g = some k := e
        have e' : some g' = some k := e'
        injection e with e; injection e' with e'; subst e; subst e'
        rw [hg] at hg'; injection hg' with hg'; injection hg' with _ hg'; exact absurd hg' (by decide)
  have hb7 := (nC hz4 n1 n2 q7).trans hr4
  have l7 := load_clm (clm_size hD s.id s.inc (s.count + 1) false) hb7
  have bs7 := bslice_clm hD s.id s.inc (s.count + 1) false (W6.setCell ⟨R, 5, none⟩ (.slice a6 (owns.length + 1) c6))
  have kR : Kept (· = R) W6 (W6.setCell ⟨R, 5, none⟩ (.slice a6 (owns.length + 1) c6)) := (Kept.refl (· = R) W6).setCell (p := ⟨R, 5, none⟩) (fun _ => rfl) _
  have v6R : Value.ownBlock (.slice a6 (owns.length + 1) c6) ≠ some R := fun e => by
    rcases hloc with e2 | e2
    · rw [e2] at e; exact voR e
    · rw [e2] at e; injection e with e
      have := (Array.getElem?_eq_some_iff.1 hR5).1; omega
  have ho7 := row_kept ho6 kR (fun k e q => v6R (by rw [e, q]))
  have ht7 := row_kept (row_kept (row_kept h2.oth hk3 (fun k e q => vtR (by rw [e, q]))) hK4.out (fun _ _ => not_false)) q7 (fun k e q => q.elim (fun q => vtR (by rw [e, q])) (vtO k e))
  have blk7 := heap_setCell_same (j := 5) hR6 (.slice a6 (owns.length + 1) c6)
  have kw : Kept (fun k => k = R ∨ Value.ownBlock (.slice ao owns.length cap) = some k) w W4 := ((k1.trans (q1.trans q2)).upto.trans (hk3.mono (T := fun k => k = R ∨ Value.ownBlock (.slice ao owns.length cap) = some k) (fun _ _ e => .inl e))).trans hK4.out.upto
  have kw7 := kw.trans q7
  have hb7' := (Array.getElem?_eq_some_iff.1 blk7).1
  have fin : ∀ x, RbS b0 ((W6.setCell ⟨R, 5, none⟩ (.slice a6 (owns.length + 1) c6)).alloc x) R { s with count := s.count + 1, O := upd s.O (.agg D) (some (s.count + 1, now)) } (owns ++ [⟨D, s.count + 1, now⟩]) oths (.slice a6 (owns.length + 1) c6) vt := fun x =>
    { blk := by rw [Below.heap_alloc _ _ _ hb7']; exact blk7
      own := by
        have e1 : (owns ++ [(⟨D, s.count + 1, now⟩ : OwnE)]).length = owns.length + 1 := by simp
        have e2 : (owns ++ [(⟨D, s.count + 1, now⟩ : OwnE)]).flatMap (OwnE.cells s.id s.inc) = owns.flatMap (OwnE.cells s.id s.inc) ++ (clm D s.id s.inc (s.count + 1) false ++ #[Value.int .i64 now]).toList := by simp [OwnE.cells]
        show World.ownsRow _ b0 _ 37 _ (owns ++ [(⟨D, s.count + 1, now⟩ : OwnE)]).length ((owns ++ [(⟨D, s.count + 1, now⟩ : OwnE)]).flatMap (OwnE.cells s.id s.inc))
        rw [e1, e2]
        exact row_kept ho7 ((Kept.refl (fun _ => False) _).alloc _) (fun _ _ => not_false)
      oth := row_kept ht7 ((Kept.refl (fun _ => False) _).alloc _) (fun _ _ => not_false)
      digO := fun e he => by
        rcases List.mem_append.1 he with h' | h'
        · exact h.digO e h'
        · simp only [List.mem_singleton] at h'; subst h'; exact hD
      digT := h.digT
      far := h.far }
  refine held_two (i := 4) (j := 8) (by kernel_rfl) rfl rfl (by rfl) (by rfl) (exec_load 47 _ rfl rfl (load_slice cR)) (exec_buildSlice 47 1 _ rfl (by go_simp <;> rfl) bs) hHeld q5 (fun hHeld => ?_) (fun hHeld => ?_)
  · simp only [Act.put, List.getElem_toArray, List.getElem_cons_zero, List.getElem_cons_succ, List.setIfInBounds_toArray, List.set_cons_zero, List.set_cons_succ]
    refine held_v (i := 8) (by kernel_rfl) rfl (by rfl) (exec_buildSlice 47 1 _ rfl (by go_simp <;> rfl) bs) q5 (fun hHeld => ?_)
    simp only [Act.put, List.getElem_toArray, List.getElem_cons_zero, List.getElem_cons_succ, List.setIfInBounds_toArray, List.set_cons_zero, List.set_cons_succ]
    refine held_v (i := 9) (by kernel_rfl) rfl (by rfl) (exec_append 47 _ _ rfl rfl rfl ap) q6 (fun hHeld => ?_)
    simp only [Act.put, List.getElem_toArray, List.getElem_cons_zero, List.getElem_cons_succ, List.setIfInBounds_toArray, List.set_cons_zero, List.set_cons_succ]
    refine held_q (v := ?_) (i := 10) rfl (by kernel_rfl) (by kernel_rfl) (by kernel_rfl) (fun _ _ _ h => h) (by rfl) hHeld ?_ ?_
    rotate_left
    · (intro w' hS'; go_simp <;> (with_reducible rfl))
    simp only [Act.put, List.getElem_toArray, List.getElem_cons_zero, List.getElem_cons_succ, List.setIfInBounds_toArray, List.set_cons_zero, List.set_cons_succ]
    refine held_q (v := ?_) (i := 11) rfl (by kernel_rfl) (by kernel_rfl) (by kernel_rfl) (fun _ _ _ h => h) (by rfl) hHeld ?_ ?_
    rotate_left
    · (intro w' hS'; go_simp <;> (with_reducible rfl))
    simp only [Act.put, List.getElem_toArray, List.getElem_cons_zero, List.getElem_cons_succ, List.setIfInBounds_toArray, List.set_cons_zero, List.set_cons_succ]
    refine held_s (i := 12) (by kernel_rfl) rfl (by rfl) (exec_store 47 _ _ rfl rfl rfl st7) q7 (fun hHeld => ?_)
    simp only [Act.put, List.getElem_toArray, List.getElem_cons_zero, List.getElem_cons_succ, List.setIfInBounds_toArray, List.set_cons_zero, List.set_cons_succ]
    refine wpAnyH_done (by kernel_rfl) ?_ _
    generalize W6.setCell ⟨R, 5, none⟩ (.slice a6 (owns.length + 1) c6) = W7 at l7 bs7 kw7 fin ⊢
    go_wp2_with (first
      | (with_reducible refine wpl_load 33 _ rfl rfl ?_ l7 ?_
         · rfl
         simp only [Act.put, List.getElem_toArray, List.getElem_cons_zero, List.getElem_cons_succ, List.setIfInBounds_toArray, List.set_cons_zero, List.set_cons_succ])
      | (with_reducible refine wpl_bslice 36 _ _ rfl rfl ?_ bs7 ?_
         · (go_simp <;> rfl)
         simp only [Act.put, List.getElem_toArray, List.getElem_cons_zero, List.getElem_cons_succ, List.setIfInBounds_toArray, List.set_cons_zero, List.set_cons_succ]))
    go_ret2
    exact ⟨_, _, rfl, ⟨W7.heap.size, kw7.size, rfl, heap_last W7 _⟩, kw7.alloc _, fin _⟩
  · simp only [Act.put, List.getElem_toArray, List.getElem_cons_zero, List.getElem_cons_succ, List.setIfInBounds_toArray, List.set_cons_zero, List.set_cons_succ]
    refine held_v (i := 4) (by kernel_rfl) rfl (by rfl) (exec_load 47 _ rfl rfl (load_slice cR5)) q5 (fun hHeld => ?_)
    simp only [Act.put, List.getElem_toArray, List.getElem_cons_zero, List.getElem_cons_succ, List.setIfInBounds_toArray, List.set_cons_zero, List.set_cons_succ]
    refine held_v (i := 9) (by kernel_rfl) rfl (by rfl) (exec_append 47 _ _ rfl rfl rfl ap) q6 (fun hHeld => ?_)
    simp only [Act.put, List.getElem_toArray, List.getElem_cons_zero, List.getElem_cons_succ, List.setIfInBounds_toArray, List.set_cons_zero, List.set_cons_succ]
    refine held_q (v := ?_) (i := 10) rfl (by kernel_rfl) (by kernel_rfl) (by kernel_rfl) (fun _ _ _ h => h) (by rfl) hHeld ?_ ?_
    rotate_left
    · (intro w' hS'; go_simp <;> (with_reducible rfl))
    simp only [Act.put, List.getElem_toArray, List.getElem_cons_zero, List.getElem_cons_succ, List.setIfInBounds_toArray, List.set_cons_zero, List.set_cons_succ]
    refine held_q (v := ?_) (i := 11) rfl (by kernel_rfl) (by kernel_rfl) (by kernel_rfl) (fun _ _ _ h => h) (by rfl) hHeld ?_ ?_
    rotate_left
    · (intro w' hS'; go_simp <;> (with_reducible rfl))
    simp only [Act.put, List.getElem_toArray, List.getElem_cons_zero, List.getElem_cons_succ, List.setIfInBounds_toArray, List.set_cons_zero, List.set_cons_succ]
    refine held_s (i := 12) (by kernel_rfl) rfl (by rfl) (exec_store 47 _ _ rfl rfl rfl st7) q7 (fun hHeld => ?_)
    simp only [Act.put, List.getElem_toArray, List.getElem_cons_zero, List.getElem_cons_succ, List.setIfInBounds_toArray, List.set_cons_zero, List.set_cons_succ]
    refine wpAnyH_done (by kernel_rfl) ?_ _
    generalize W6.setCell ⟨R, 5, none⟩ (.slice a6 (owns.length + 1) c6) = W7 at l7 bs7 kw7 fin ⊢
    go_wp2_with (first
      | (with_reducible refine wpl_load 33 _ rfl rfl ?_ l7 ?_
         · rfl
         simp only [Act.put, List.getElem_toArray, List.getElem_cons_zero, List.getElem_cons_succ, List.setIfInBounds_toArray, List.set_cons_zero, List.set_cons_succ])
      | (with_reducible refine wpl_bslice 36 _ _ rfl rfl ?_ bs7 ?_
         · (go_simp <;> rfl)
         simp only [Act.put, List.getElem_toArray, List.getElem_cons_zero, List.getElem_cons_succ, List.setIfInBounds_toArray, List.set_cons_zero, List.set_cons_succ]))
    go_ret2
    exact ⟨_, _, rfl, ⟨W7.heap.size, kw7.size, rfl, heap_last W7 _⟩, kw7.alloc _, fin _⟩
end Go.Proofs.Ytbaehaleigpijaa
