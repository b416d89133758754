/- The document's Hear: what no claim is. -/
import Derived.Test.YtbaehaleigpijaaPC
namespace Go.Proofs.Ytbaehaleigpijaa
open Go.RowKit
set_option linter.unusedSimpArgs false
set_option linter.unusedVariables false
variable {b0 : Nat}

/-- The document's test of age is the book's. -/
theorem old_doc (g : Bool) (p q : Int × Int) : (abv p q || (!g && !abv q p)) = if g = true then abv p q else !abv q p := by
  cases g with
  | true => simp
  | false =>
    have : abv p q = true → abv q p = false := by
      unfold abv
      intro h
      simp only [Bool.or_eq_true, decide_eq_true_eq, Bool.and_eq_true, beq_iff_eq] at h
      simp only [Bool.or_eq_false_iff, decide_eq_false_iff_not, Bool.and_eq_false_iff, beq_eq_false_iff_ne]
      omega
    cases h1 : abv p q with
    | true => simp [this h1]
    | false => simp
set_option maxRecDepth 100000 in
set_option maxHeartbeats 4000000 in
theorem rhear_bad {w : World} {R : Nat} {s : St} {owns : List OwnE} {oths : List OthE} {vo vt : Value} (h : RbS b0 w R s owns oths vo vt) {D : Array Value} (hD : IsDig D) {n i c : Int} {g : Bool} {now : Int} (hf : ¬ Fine s.id n i c) :
    Calls Try.prog 17 #[.pointer (some ⟨R, 0, none⟩), .agg (clm D n i c g), .int .i64 now] w fun e w' => e = .returned (.tuple #[.slice none 0 0, .int .i64 2]) ∧ Kept (fun _ => False) w w' := by
  have hk : Kept (fun _ => False) w (w.alloc (.cells (clm D n i c g) 33)) := (Kept.refl _ w).alloc _
  have h1 := h.kept hk
  have hr := heap_last w (.cells (clm D n i c g) 33)
  go_enter Try.func17, Try.ntmps17
  go_wp2_with fail
  generalize w.alloc (.cells (clm D n i c g) 33) = W at hk h1 hr ⊢
  have k0 := h1.cell 0 _ rfl
  have k1 : W.cell? ⟨w.heap.size, 32, none⟩ = some (.int .i64 n) := by rw [cell_of_row _ _ _ _ _ _ hr]; exact clm_at hD n i c g 0
  have k2 : W.cell? ⟨w.heap.size, 33, none⟩ = some (.int .u64 i) := by rw [cell_of_row _ _ _ _ _ _ hr]; exact clm_at hD n i c g 1
  have k3 : W.cell? ⟨w.heap.size, 34, none⟩ = some (.int .u64 c) := by rw [cell_of_row _ _ _ _ _ _ hr]; exact clm_at hD n i c g 2
  clear hr
  by_cases c1 : n < 0
  · go_quiet (fail)
    go_wp2_with fail
    go_ret2
    exact ⟨rfl, hk.drewN _⟩
  by_cases c2 : 15 < n
  · go_quiet (fail)
    go_wp2_with fail
    go_ret2
    exact ⟨rfl, hk.drewN _⟩
  by_cases c4 : 1099511627776 < i
  · go_quiet (fail)
    go_wp2_with fail
    go_ret2
    exact ⟨rfl, hk.drewN _⟩
  by_cases c5 : 1099511627776 < c
  · go_quiet (fail)
    go_wp2_with fail
    go_ret2
    exact ⟨rfl, hk.drewN _⟩
  by_cases c3 : n = s.id
  · have c3' : (n == s.id) = true := by simp [c3]
    have C3 := Lib.hid c3
    clear c3
    go_quiet (fail)
    go_wp2_with fail
    go_ret2
    exact ⟨rfl, hk.drewN _⟩
  exact absurd ⟨by omega, by omega, c3, by omega, by omega⟩ hf

end Go.Proofs.Ytbaehaleigpijaa
