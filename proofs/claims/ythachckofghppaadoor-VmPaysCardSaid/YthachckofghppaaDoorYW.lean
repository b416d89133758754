/- (*vm.run).all: the deferred closure. -/
import Derived.Test.YthachckofghppaaDoorYD
import Derived.Defers
import Derived.Recover
import Derived.Laws.Pointers
namespace Go.Proofs.YthachckofghppaaDoor
open Go.RowKit
set_option maxRecDepth 100000
set_option linter.unusedSimpArgs false
set_option linter.unusedVariables false

set_option maxHeartbeats 2000000 in
theorem catch_idle (R : Nat) (w : World) :
    CallsD Tryd.prog 17 #[.pointer (some ⟨R, 0, none⟩)] .returning w fun e u' w' => e = .returned (.tuple #[]) ∧ u' = .returning ∧ w' = w := by
  refine callsD_of_wpS Tryd.func17 rfl fun c₀ cs hu => ?_
  apply wpS_seq
  apply wpS_region
  simp [wpOpsS, go_sem, recoverD, hu, Tryd.ntmps17, Exit.thenS]
  refine wpS_of_wp ?_
  go_wp2_with fail
  cases c₀
  simp_all [bodyPostS, results, Tryd.results17]
theorem ta_stop (c : Int) (w : World) : (Instr.typeAssert (.iface 51 (.agg #[.int .i64 c])) 20 51 true).run Tryd.prog w = .ok (.tuple #[.agg #[.int .i64 c], .bool true]) w := by kernel_rfl
theorem z_stop (w : World) : (zeroValue 51).run Tryd.prog w = .ok (.agg #[.int .i64 0]) w := by kernel_rfl
set_option maxHeartbeats 2000000 in
theorem catch_stop {R : Nat} {c0 c : Int} {older : List PanicEntry} {w : World} (hR : w.heap[R]? = some (.cells #[.int .i64 c0] 29 (0, 0))) :
    CallsD Tryd.prog 17 #[.pointer (some ⟨R, 0, none⟩)] (.panicking ({ v := .iface 51 (.agg #[.int .i64 c]), recovered := false } :: older)) w fun e u' w' =>
      e = .returned (.tuple #[]) ∧ u' = .panicking ({ v := .iface 51 (.agg #[.int .i64 c]), recovered := true } :: older) ∧ w'.heap[R]? = some (.cells #[.int .i64 c] 29 (0, 0)) ∧ Kept (fun k => k = R) w w' := by
  have hRl := (Array.getElem?_eq_some_iff.1 hR).1
  refine callsD_of_wpS Tryd.func17 rfl fun c₀ cs hu => ?_
  apply wpS_seq
  apply wpS_region
  simp [wpOpsS, go_sem, recoverD, hu, Tryd.ntmps17, Exit.thenS]
  refine wpS_of_wp ?_
  have ta := ta_stop c w
  have st := store_new (P := Tryd.prog) (ty := 51) (c := #[.int .i64 0]) (c' := #[.int .i64 c]) (by kernel_rfl) rfl (by simp [Value.oneCell']) (w := w) (b := w.heap.size) rfl
  rw [show (#[Value.pointer (some ⟨R, 0, none⟩)] ++ (Array.replicate 11 undef).setIfInBounds 3 (Value.iface 51 (.agg #[.int .i64 c])) : Array Value) = #[.pointer (some ⟨R, 0, none⟩), undef, undef, undef, .iface 51 (.agg #[.int .i64 c]), undef, undef, undef, undef, undef, undef, undef] from rfl]
  clear st
  go_upto_region 6 with fail
  clear ta
  have st := store_new (P := Tryd.prog) (ty := 51) (c := #[.int .i64 0]) (c' := #[.int .i64 c]) (by kernel_rfl) rfl (by simp [Value.oneCell']) (w := w) (b := w.heap.size) rfl
  have k1 : Kept (fun k => k = R) w (w.alloc (.cells #[.int .i64 c] 51)) := (Kept.refl (fun k => k = R) w).alloc _
  have hG := heap_last w (.cells #[.int .i64 c] 51)
  have hR1 : (w.alloc (.cells #[.int .i64 c] 51)).heap[R]? = some (.cells #[.int .i64 c0] 29 (0, 0)) := by rw [Below.heap_alloc _ _ _ hRl]; exact hR
  go_upto_region 7 with (first
    | (with_reducible refine wpl_alloc 51 rfl rfl (z_stop w) ?_
       simp only [World.size_alloc, Act.put, List.getElem_toArray, List.getElem_cons_zero, List.getElem_cons_succ, List.setIfInBounds_toArray, List.set_cons_zero, List.set_cons_succ])
    | (with_reducible refine wpl_store 51 _ _ rfl rfl ?_ ?_ st ?_
       · rfl
       · rfl
       simp only [Act.put, List.getElem_toArray, List.getElem_cons_zero, List.getElem_cons_succ, List.setIfInBounds_toArray, List.set_cons_zero, List.set_cons_succ]))
  clear st
  generalize w.alloc (.cells #[.int .i64 c] 51) = W1 at k1 hG hR1 ⊢
  generalize w.heap.size = G at hG ⊢
  have cG : W1.cell? ⟨G, 0, none⟩ = some (.int .i64 c) := by rw [cell_of_row _ _ _ _ _ _ hG]; rfl
  have cR : W1.cell? ⟨R, 0, none⟩ = some (.int .i64 c0) := by rw [cell_of_row _ _ _ _ _ _ hR1]; rfl
  have fR : W1.frozen? ⟨R, 0, none⟩ = false := by simp [World.frozen?, hR1]
  have hR2 := heap_setCell_same (j := 0) hR1 (.int .i64 c)
  have k2 := k1.setCell (p := ⟨R, 0, none⟩) (fun _ => rfl) (.int .i64 c)
  go_wp2_with fail
  cases c₀
  simp_all [bodyPostS, results, Tryd.results17]
end Go.Proofs.YthachckofghppaaDoor
