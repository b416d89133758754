/- The document's above; New. -/
import Derived.Test.YtbaehaleigpijaaP3
namespace Go.Proofs.Ytbaehaleigpijaa
open Go.RowKit
set_option linter.unusedSimpArgs false
set_option linter.unusedVariables false
variable {b0 : Nat}

set_option maxHeartbeats 1000000 in
theorem rabove_ct {D E : Array Value} (hD : IsDig D) (hE : IsDig E) (n1 a b : Int) (g1 : Bool) (n2 c d : Int) (g2 : Bool) (w : World) :
    Calls Try.prog 25 #[.agg (clm D n1 a b g1), .agg (clm E n2 c d g2)] w fun e w' => e = .returned (.bool (abv (a, b) (c, d))) ∧ Kept (fun _ => False) w w' := by
  have hk : Kept (fun _ => False) w ((w.alloc (.cells (clm D n1 a b g1) 33)).alloc (.cells (clm E n2 c d g2) 33)) := ((Kept.refl _ w).alloc _).alloc _
  have q1 : ((w.alloc (.cells (clm D n1 a b g1) 33)).alloc (.cells (clm E n2 c d g2) 33)).heap[w.heap.size]? = some (.cells (clm D n1 a b g1) 33) := by
    rw [Below.heap_alloc _ _ _ (by simp)]; exact heap_last w _
  have q2 : ((w.alloc (.cells (clm D n1 a b g1) 33)).alloc (.cells (clm E n2 c d g2) 33)).heap[w.heap.size + 1]? = some (.cells (clm E n2 c d g2) 33) := heap_at (by simp)
  have k1 : ((w.alloc (.cells (clm D n1 a b g1) 33)).alloc (.cells (clm E n2 c d g2) 33)).cell? ⟨w.heap.size, 33, none⟩ = some (.int .u64 a) := by rw [cell_of_row _ _ _ _ _ _ q1]; exact clm_at hD n1 a b g1 1
  have k2 : ((w.alloc (.cells (clm D n1 a b g1) 33)).alloc (.cells (clm E n2 c d g2) 33)).cell? ⟨w.heap.size, 34, none⟩ = some (.int .u64 b) := by rw [cell_of_row _ _ _ _ _ _ q1]; exact clm_at hD n1 a b g1 2
  have k3 : ((w.alloc (.cells (clm D n1 a b g1) 33)).alloc (.cells (clm E n2 c d g2) 33)).cell? ⟨w.heap.size + 1, 33, none⟩ = some (.int .u64 c) := by rw [cell_of_row _ _ _ _ _ _ q2]; exact clm_at hE n2 c d g2 1
  have k4 : ((w.alloc (.cells (clm D n1 a b g1) 33)).alloc (.cells (clm E n2 c d g2) 33)).cell? ⟨w.heap.size + 1, 34, none⟩ = some (.int .u64 d) := by rw [cell_of_row _ _ _ _ _ _ q2]; exact clm_at hE n2 c d g2 2
  clear q1 q2
  unfold abv
  by_cases h1 : c < a
  · go_enter Try.func25, Try.ntmps25
    go_wp2_with fail
    go_ret
    exact ⟨by simp [h1], hk⟩
  · by_cases h2 : a = c
    · subst h2
      have h2' : (a == a) = true := by simp
      go_enter Try.func25, Try.ntmps25
      go_wp2_with fail
      go_ret
      exact ⟨by simp, hk⟩
    · have h2' : (a == c) = false := by simp [h2]
      have H2 := Lib.hid h2
      clear h2
      go_enter Try.func25, Try.ntmps25
      go_wp2_with fail
      go_ret
      exact ⟨by simp [h1, H2.out], hk⟩
end Go.Proofs.Ytbaehaleigpijaa
