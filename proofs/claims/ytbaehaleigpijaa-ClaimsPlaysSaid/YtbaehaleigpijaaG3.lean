/- Op.claim. -/
import Derived.Test.YtbaehaleigpijaaG2
namespace Go.Proofs.Ytbaehaleigpijaa
open Go.RowKit
set_option linter.unusedSimpArgs false
set_option linter.unusedVariables false

theorem opr_load {o : OpR} (h : o.Ok) {w : World} {b : Nat} {t : TypeId} {fr : Nat × Nat} (hb : w.heap[b]? = some (.cells o.cells t fr)) :
    (Instr.loadAt 33 (.pointer (some ⟨b, 3, none⟩))).run Try.prog w = .ok (.agg (clm o.D o.n o.i o.c o.g)) w :=
  load_off (R := #[]) Try.underlying33 rfl (by rw [Array.append_empty]; exact hb) (by rw [clm_size h.dig]; kernel_rfl) rfl

set_option maxHeartbeats 1000000 in
theorem claim_ct {o : OpR} (ho : o.Ok) (w : World) :
    Calls Try.prog 16 #[.agg o.cells] w fun e w' => e = .returned (.agg (clm (dig (o.key % 3)) o.n o.i o.c o.g)) ∧ Kept (fun _ => False) w w' := by
  have hD := ho.dig
  have hkey : o.key % 3 = o.key.tmod 3 := by have := ho.key0; rw [Int.tmod_eq_emod_of_nonneg (by omega)]
  have hk0 : 0 ≤ o.key.tmod 3 ∧ o.key.tmod 3 < 256 := by rw [← hkey]; omega
  rw [hkey]; clear hkey
  go_enter Try.func16, Try.ntmps16
  generalize hP0 : w.alloc (.cells o.cells 35) = P0
  have kP0 : Kept (fun _ => False) w P0 := hP0 ▸ (Kept.refl _ w).alloc _
  have zP0 : P0.heap.size = w.heap.size + 1 := by rw [← hP0]; simp [World.size_alloc]
  generalize hP1 : P0.alloc (.cells Z36 33) = P1
  have kP1 : Kept (fun _ => False) w P1 := hP1 ▸ kP0.alloc _
  have zP1 : P1.heap.size = w.heap.size + 2 := by rw [← hP1]; simp [World.size_alloc]; omega
  have h1 : P1.heap[w.heap.size]? = some (.cells o.cells 35) := by
    rw [← hP1, Below.heap_alloc _ _ _ (by omega), ← hP0]; exact heap_last w _
  have h2 : P1.heap[P0.heap.size]? = some (.cells Z36 33) := by rw [← hP1]; exact heap_last P0 _
  generalize hP2 : P1.alloc (.cells (clm o.D o.n o.i o.c o.g) 33) = P2
  have kP2 : Kept (fun _ => False) w P2 := hP2 ▸ kP1.alloc _
  have hst := store_new (P := Try.prog) (ty := 33) (c := Z36) (c' := clm o.D o.n o.i o.c o.g) (by rw [clm_size hD]; kernel_rfl) (by rw [clm_size hD]; rfl) (clm_oneCell hD _ _ _ _) (w := P1) rfl
  rw [hP2] at hst
  have i1 : P2.heap[w.heap.size]? = some (.cells o.cells 35) := by rw [← hP2, Below.heap_alloc _ _ _ (by omega)]; exact h1
  have i2 : P2.heap[P0.heap.size]? = some (.cells Z36 33) := by rw [← hP2, Below.heap_alloc _ _ _ (by omega)]; exact h2
  have i3 : P2.heap[P1.heap.size]? = some (.cells (clm o.D o.n o.i o.c o.g) 33) := by rw [← hP2]; exact heap_last P1 _
  have c2 : P2.cell? ⟨w.heap.size, 2, none⟩ = some (.int .u8 o.key) := by rw [cell_of_row _ _ _ _ _ _ i1]; unfold OpR.cells; rw [Array.getElem?_append_left (by simp)]; rfl
  have hdg : IsDig (dig (o.key.tmod 3)) := dig_is hk0
  obtain ⟨hsh, j3⟩ := store_head (P := Try.prog) (ty := 31) (D' := dig (o.key.tmod 3)) i3 (by rw [hD.size, hdg.size]) (by rw [hdg.size]; kernel_rfl) hdg.oneCell
  generalize hP3 : P2.setCells P1.heap.size 0 (dig (o.key.tmod 3)).toList = P3 at hsh j3
  have kP3 : Kept (fun _ => False) w P3 := hP3 ▸ kP2.setCells (fun q => by omega) _ _
  have j2 : P3.heap[P0.heap.size]? = some (.cells Z36 33) := by rw [← hP3, setCells_other _ _ _ _ (by omega)]; exact i2
  have hs4 := store_row (P := Try.prog) (ty := 33) (c' := clm (dig (o.key.tmod 3)) o.n o.i o.c o.g) j2 (by rw [clm_size hdg]; kernel_rfl) (by rw [clm_size hdg]; rfl) (clm_oneCell hdg _ _ _ _)
  have l1 : P0.alloc (.cells Z36 33) = P1 := hP1
  have l2 := hP2
  have y1 := opr_load ho h1
  have y2 := load_clm (clm_size hdg o.n o.i o.c o.g) j3
  simp only [zP0, zP1] at hsh
  generalize hd : dig (o.key.tmod 3) = E at *
  go_wp2_with (first
    | (with_reducible refine wpl_load 33 _ rfl rfl ?_ y1 ?_
       · rfl
       simp only [Act.put, List.getElem_toArray, List.getElem_cons_zero, List.getElem_cons_succ, List.setIfInBounds_toArray, List.set_cons_zero, List.set_cons_succ])
    | (with_reducible refine wpl_load 33 _ rfl rfl ?_ y2 ?_
       · rfl
       simp only [Act.put, List.getElem_toArray, List.getElem_cons_zero, List.getElem_cons_succ, List.setIfInBounds_toArray, List.set_cons_zero, List.set_cons_succ])
    | (with_reducible refine wpl_alloc 33 rfl rfl (zeroClm _) ?_
       simp only [World.size_alloc, Act.put, List.getElem_toArray, List.getElem_cons_zero, List.getElem_cons_succ, List.setIfInBounds_toArray, List.set_cons_zero, List.set_cons_succ])
    | (with_reducible refine wpl_store 33 _ _ rfl rfl ?_ ?_ hst ?_
       · rfl
       · rfl
       simp only [Act.put, List.getElem_toArray, List.getElem_cons_zero, List.getElem_cons_succ, List.setIfInBounds_toArray, List.set_cons_zero, List.set_cons_succ])
    | (with_reducible refine wpl_store 33 _ _ rfl rfl ?_ ?_ hs4 ?_
       · rfl
       · rfl
       simp only [Act.put, List.getElem_toArray, List.getElem_cons_zero, List.getElem_cons_succ, List.setIfInBounds_toArray, List.set_cons_zero, List.set_cons_succ])
    | (with_reducible refine wpl_store 31 _ _ rfl rfl ?_ ?_ hsh ?_
       · rfl
       · rfl
       simp only [Act.put, List.getElem_toArray, List.getElem_cons_zero, List.getElem_cons_succ, List.setIfInBounds_toArray, List.set_cons_zero, List.set_cons_succ])
    | (with_reducible refine wpl_build 31 _ rfl rfl ?_ (hd ▸ build_dig (o.key.tmod 3) _) ?_
       · (go_simp <;> rfl)
       simp only [Act.put, List.getElem_toArray, List.getElem_cons_zero, List.getElem_cons_succ, List.setIfInBounds_toArray, List.set_cons_zero, List.set_cons_succ]))
  have j4 := setRow_heap P3 _ _ (clm E o.n o.i o.c o.g) _ _ j2
  refine bodyPost_ret (results_cell_row rfl _ _ _ _ _ _ _ rfl j4 Try.underlying33 rfl (by rw [clm_size hdg]; kernel_rfl)) rfl ?_
  exact ⟨rfl, kP3.setRow (fun q => by omega) _⟩
end Go.Proofs.Ytbaehaleigpijaa
