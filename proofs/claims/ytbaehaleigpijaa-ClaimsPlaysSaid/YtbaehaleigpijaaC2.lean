/- The book as it lies in memory; Mine. -/
import Derived.Test.YtbaehaleigpijaaQ1
import Derived.Test.YtbaehaleigpijaaC1
namespace Go.Proofs.Ytbaehaleigpijaa
open Go.RowKit
set_option linter.unusedSimpArgs false
set_option linter.unusedVariables false

/-- What a claim's cells are. -/
abbrev clm (D : Array Value) (node : Int) (inc count : Int) (gone : Bool) : Array Value := D ++ #[.int .i64 node, .int .u64 inc, .int .u64 count, .bool gone]
/-- An own claim's value, under the key x. -/
def ownV (id inc : Int) (x : Value) (o : Int × Int) : Value := .agg (x.cells ++ #[.int .i64 id, .int .u64 inc, .int .u64 o.1, .bool false, .int .i64 o.2])
def serV (s : Int × Int) : Value := .agg #[.int .u64 s.1, .int .u64 s.2]

/-- The book of 'claims', at block B: id, inc, wait, ttl, count; own claims by key: count and begin; last serials and leases by place. -/
structure Bk (w : World) (B m1 m2 m3 : Nat) (id inc wait ttl count : Int) (O : Value → Option (Int × Int)) (L : Value → Option (Int × Int)) (U : Value → Option Int) : Prop where
  blk : w.heap[B]? = some (.cells #[.int .i64 id, .int .u64 inc, .int .i64 wait, .int .i64 ttl, .int .u64 count, .map (some m1), .map (some m2), .map (some m3)] 59 (0, 0))
  o : MapIs Try.prog 31 w m1 (fun x => (O x).map (ownV id inc x))
  l : MapIs Try.prog 68 w m2 (fun x => (L x).map serV)
  u : MapIs Try.prog 68 w m3 (fun x => (U x).map (Value.int .i64))
  ne12 : m1 ≠ m2
  ne13 : m1 ≠ m3
  ne23 : m2 ≠ m3

theorem Bk.cell {w : World} {B m1 m2 m3 : Nat} {id inc wait ttl count : Int} {O L U} (h : Bk w B m1 m2 m3 id inc wait ttl count O L U) (j : Nat) (v : Value)
    (hv : (#[Value.int .i64 id, .int .u64 inc, .int .i64 wait, .int .i64 ttl, .int .u64 count, .map (some m1), .map (some m2), .map (some m3)])[j]? = some v) : w.cell? ⟨B, j, none⟩ = some v := by
  rw [cell_of_row w B j _ _ _ h.blk]; exact hv

theorem Bk.of_blocks {w w' : World} {B m1 m2 m3 : Nat} {id inc wait ttl count : Int} {O L U} (h : Bk w B m1 m2 m3 id inc wait ttl count O L U)
    (eB : w'.heap[B]? = w.heap[B]?) (e1 : w'.heap[m1]? = w.heap[m1]?) (e2 : w'.heap[m2]? = w.heap[m2]?) (e3 : w'.heap[m3]? = w.heap[m3]?) : Bk w' B m1 m2 m3 id inc wait ttl count O L U :=
  ⟨by rw [eB]; exact h.blk, h.o.of_block e1, h.l.of_block e2, h.u.of_block e3, h.ne12, h.ne13, h.ne23⟩

theorem Bk.lt {w : World} {B m1 m2 m3 : Nat} {id inc wait ttl count : Int} {O L U} (h : Bk w B m1 m2 m3 id inc wait ttl count O L U) : B < w.heap.size := (Array.getElem?_eq_some_iff.1 h.blk).1

theorem Bk.kept {w w' : World} {B m1 m2 m3 : Nat} {id inc wait ttl count : Int} {O L U} (h : Bk w B m1 m2 m3 id inc wait ttl count O L U) (q : Kept (fun _ => False) w w') : Bk w' B m1 m2 m3 id inc wait ttl count O L U :=
  h.of_blocks (q.block _ h.lt not_false) (q.block _ h.o.lt not_false) (q.block _ h.l.lt not_false) (q.block _ h.u.lt not_false)

/-- The zero of 'own'. -/
def Z37 : Array Value := #[.int .u8 0, .int .u8 0, .int .u8 0, .int .u8 0, .int .u8 0, .int .u8 0, .int .u8 0, .int .u8 0, .int .u8 0, .int .u8 0, .int .u8 0, .int .u8 0, .int .u8 0, .int .u8 0, .int .u8 0, .int .u8 0, .int .u8 0, .int .u8 0, .int .u8 0, .int .u8 0, .int .u8 0, .int .u8 0, .int .u8 0, .int .u8 0, .int .u8 0, .int .u8 0, .int .u8 0, .int .u8 0, .int .u8 0, .int .u8 0, .int .u8 0, .int .u8 0, .int .i64 0, .int .u64 0, .int .u64 0, .bool false, .int .i64 0]
theorem zeroOwn (w : World) : (zeroValue 64).run Try.prog w = .ok (.agg Z37) w := by kernel_rfl

theorem Z37_one : Z37.all (·.oneCell') = true := by simp [Z37, Value.oneCell']
theorem ownV_size {id inc : Int} {D : Array Value} (hD : IsDig D) (o : Int × Int) : (D ++ #[Value.int .i64 id, .int .u64 inc, .int .u64 o.1, .bool false, .int .i64 o.2]).size = 37 := by simp [hD.size]
theorem own_oneCell {id inc : Int} {D : Array Value} (hD : IsDig D) (o : Int × Int) : (D ++ #[Value.int .i64 id, .int .u64 inc, .int .u64 o.1, .bool false, .int .i64 o.2]).all (·.oneCell') = true := by
  rw [Array.all_append, hD.oneCell]; simp [Value.oneCell']

set_option maxHeartbeats 1000000 in
theorem mine_any {w : World} {B m1 m2 m3 : Nat} {id inc wait ttl count : Int} {O L U} (h : Bk w B m1 m2 m3 id inc wait ttl count O L U) {D : Array Value} (hD : IsDig D) :
    Calls Try.prog 20 #[.pointer (some ⟨B, 0, none⟩), .agg D] w fun e w' => e = .returned (.bool (O (.agg D)).isSome) ∧ Kept (fun _ => False) w w' := by
  have h0 := h
  have hB := h.lt
  obtain ⟨l, hl⟩ := hD.key
  have h5 : (w.alloc (.cells D 31)).cell? ⟨B, 5, none⟩ = some (.map (some m1)) := by rw [World.cell?_alloc_lt _ _ _ hB]; exact h.cell 5 _ rfl
  go_enter Try.func20, Try.ntmps20
  go_wp2_with fail
  refine (none_some B m1 _ h5).mono ?_
  rintro e w' ⟨rfl, rfl⟩
  go_wp2_with fail
  obtain ⟨W, hW⟩ : ∃ W, W = w.alloc (.cells D 31) := ⟨_, rfl⟩
  rw [← hW] at h5 ⊢
  have hk : Kept (fun _ => False) w W := by rw [hW]; exact (Kept.refl _ w).alloc _
  have hh : W.heap[w.heap.size]? = some (.cells D 31) := by rw [hW]; exact heap_last w _
  have hlt : w.heap.size < W.heap.size := by rw [hW]; simp
  have HW := Lib.hid hW
  clear hW
  have hWB := h.kept hk
  have hc5 : ∀ w', Kept (fun _ => False) W w' → w'.cell? ⟨B, 5, none⟩ = some (.map (some m1)) := fun w' q => (hWB.kept q).cell 5 _ rfl
  obtain ⟨V, hV, hV1, hlk⟩ : ∃ V : Array Value, V.size = 37 ∧ V.all (·.oneCell') = true ∧ ∀ w', Kept (fun _ => False) W w' →
      (Instr.lookup 55 (.map (some m1)) (.agg D) true).run Try.prog w' = .ok (.tuple #[.agg V, .bool (O (.agg D)).isSome]) w' := by
    cases ho : O (.agg D) with
    | none => exact ⟨Z37, rfl, Z37_one, fun w' q => by rw [MapIs.look lawD Try.underlying55 (hWB.kept q).o (zeroOwn _) hl true]; simp [ho]⟩
    | some o => exact ⟨_, ownV_size (id := id) (inc := inc) hD o, own_oneCell hD o, fun w' q => by rw [MapIs.look lawD Try.underlying55 (hWB.kept q).o (zeroOwn _) hl true]; simp [ho, ownV, Value.cells]⟩
  generalize hbb : (O (.agg D)).isSome = bb at hlk ⊢
  have HB := Lib.hid hbb
  clear hbb
  have hst := fun wx : World => store_new (P := Try.prog) (ty := 64) (c := Z37) (c' := V) (by rw [hV]; kernel_rfl) (by rw [hV]; rfl) hV1 (w := wx) rfl
  refine wp_region_held_drew (S := (Kept (fun _ => False) W)) (by kernel_rfl) ((Kept.refl _ W).drew) (fun hHeld => ?_)
  refine held_q (v := ?_) (i := 0) rfl (by kernel_rfl) (by kernel_rfl) (by kernel_rfl) (fun _ _ _ h => h) (by rfl) hHeld ?_ ?_
  rotate_left
  · (intro w' hS'; go_simp <;> (with_reducible rfl))
  simp only [Act.put, List.getElem_toArray, List.getElem_cons_zero, List.getElem_cons_succ, List.setIfInBounds_toArray, List.set_cons_zero, List.set_cons_succ]
  refine held_q (v := ?_) (i := 1) rfl (by kernel_rfl) (by kernel_rfl) (by kernel_rfl) (fun _ _ _ h => h) (by rfl) hHeld ?_ ?_
  rotate_left
  · (intro w' hS'; go_simp <;> (with_reducible rfl))
  simp only [Act.put, List.getElem_toArray, List.getElem_cons_zero, List.getElem_cons_succ, List.setIfInBounds_toArray, List.set_cons_zero, List.set_cons_succ]
  refine held_q (v := ?_) (i := 2) rfl (by kernel_rfl) (by kernel_rfl) (by kernel_rfl) (fun _ _ _ h => h) (by rfl) hHeld ?_ ?_
  rotate_left
  · (intro w' hS'; go_simp <;> (with_reducible rfl))
  simp only [Act.put, List.getElem_toArray, List.getElem_cons_zero, List.getElem_cons_succ, List.setIfInBounds_toArray, List.set_cons_zero, List.set_cons_succ]
  refine held_q (v := ?_) (i := 3) rfl (by kernel_rfl) (by kernel_rfl) (by kernel_rfl) (fun _ _ _ h => h) (by rfl) hHeld ?_ ?_
  rotate_left
  · (intro w' hS'; go_simp <;> (with_reducible rfl))
  simp only [Act.put, List.getElem_toArray, List.getElem_cons_zero, List.getElem_cons_succ, List.setIfInBounds_toArray, List.set_cons_zero, List.set_cons_succ]
  refine held_q (i := 4) rfl (by kernel_rfl) (by kernel_rfl) (by kernel_rfl) (fun _ _ _ h => h) (by rfl) hHeld (fun w' hS' => exec_load 31 _ rfl rfl (load_dig hD (by rw [hS'.block _ hlt not_false]; exact hh))) ?_
  simp only [Act.put, List.getElem_toArray, List.getElem_cons_zero, List.getElem_cons_succ, List.setIfInBounds_toArray, List.set_cons_zero, List.set_cons_succ]
  refine held_q (i := 5) rfl (by kernel_rfl) (by kernel_rfl) (by kernel_rfl) (fun _ _ _ h => h) (by rfl) hHeld (fun w' hS' => exec_lookup 55 _ _ _ rfl rfl rfl (hlk _ hS')) ?_
  simp only [Act.put, List.getElem_toArray, List.getElem_cons_zero, List.getElem_cons_succ, List.setIfInBounds_toArray, List.set_cons_zero, List.set_cons_succ]
  refine held_q (v := ?_) (i := 6) rfl (by kernel_rfl) (by kernel_rfl) (by kernel_rfl) (fun _ _ _ h => h) (by rfl) hHeld ?_ ?_
  rotate_left
  · (intro w' hS'; go_simp <;> (with_reducible rfl))
  simp only [Act.put, List.getElem_toArray, List.getElem_cons_zero, List.getElem_cons_succ, List.setIfInBounds_toArray, List.set_cons_zero, List.set_cons_succ]
  refine held_q (v := ?_) (i := 7) rfl (by kernel_rfl) (by kernel_rfl) (by kernel_rfl) (fun _ _ _ h => h) (by rfl) hHeld ?_ ?_
  rotate_left
  · (intro w' hS'; go_simp <;> (with_reducible rfl))
  simp only [Act.put, List.getElem_toArray, List.getElem_cons_zero, List.getElem_cons_succ, List.setIfInBounds_toArray, List.set_cons_zero, List.set_cons_succ]
  refine held_q (v := ?_) (i := 8) rfl (by kernel_rfl) (by kernel_rfl) (by kernel_rfl) (fun _ _ _ h => h) (by rfl) hHeld ?_ ?_
  rotate_left
  · (intro w' hS'; go_simp <;> (with_reducible rfl))
  simp only [Act.put, List.getElem_toArray, List.getElem_cons_zero, List.getElem_cons_succ, List.setIfInBounds_toArray, List.set_cons_zero, List.set_cons_succ]
  refine held_v (i := 9) (v := .pointer (some ⟨(W.drew).heap.size, 0, none⟩)) (w1 := (W.drew).alloc (.cells Z37 64)) (by kernel_rfl) rfl (by rfl) ?_ ?_ (fun hHeld => ?_)
  · refine exec_alloc 64 ?_ ?_
    · rfl
    · exact zeroOwn _
  · exact hHeld.alloc _
  simp only [Act.put, List.getElem_toArray, List.getElem_cons_zero, List.getElem_cons_succ, List.setIfInBounds_toArray, List.set_cons_zero, List.set_cons_succ]
  refine held_s (i := 10) (w1 := W.drew.alloc (.cells V 64)) (by kernel_rfl) rfl (by rfl) ?_ ?_ (fun hHeld => ?_)
  · refine exec_store (p := .pointer (some ⟨W.drew.heap.size, 0, none⟩)) (q := .agg V) 64 (.tmp 5) (.tmp 16) ?_ ?_ ?_ ?_
    · rfl
    · rfl
    · rfl
    · exact hst W.drew
  · exact ((Kept.refl _ W).drew).alloc _
  simp only [Act.put, List.getElem_toArray, List.getElem_cons_zero, List.getElem_cons_succ, List.setIfInBounds_toArray, List.set_cons_zero, List.set_cons_succ]
  refine held_q (v := ?_) (i := 11) rfl (by kernel_rfl) (by kernel_rfl) (by kernel_rfl) (fun _ _ _ h => h) (by rfl) hHeld ?_ ?_
  rotate_left
  · (intro w' hS'; go_simp <;> (with_reducible rfl))
  simp only [Act.put, List.getElem_toArray, List.getElem_cons_zero, List.getElem_cons_succ, List.setIfInBounds_toArray, List.set_cons_zero, List.set_cons_succ]
  refine wpAnyH_done (by kernel_rfl) ?_ _
  go_wp2_with fail
  go_ret
  exact ⟨by rw [HB.out]; rfl, hk.trans hHeld⟩
end Go.Proofs.Ytbaehaleigpijaa
