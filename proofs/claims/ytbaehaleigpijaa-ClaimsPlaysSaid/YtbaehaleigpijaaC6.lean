/- above; New. -/
import Derived.Test.YtbaehaleigpijaaC5
namespace Go.Proofs.Ytbaehaleigpijaa
open Go.RowKit
set_option linter.unusedSimpArgs false
set_option linter.unusedVariables false

def abv (s o : Int × Int) : Bool := decide (o.1 < s.1) || (decide (s.1 = o.1) && decide (o.2 < s.2))

set_option maxHeartbeats 400000 in
theorem above_any (a b c d : Int) (w : World) :
    Calls Try.prog 24 #[serV (a, b), serV (c, d)] w fun e w' => e = .returned (.bool (abv (a, b) (c, d))) ∧ Kept (fun _ => False) w w' := by
  have hk : ∀ o1 o2, Kept (fun _ => False) w ((w.alloc o1).alloc o2) := fun o1 o2 => ((Kept.refl _ w).alloc _).alloc _
  unfold serV abv
  by_cases h1 : c < a
  · go_enter Try.func24, Try.ntmps24
    go_wp2
    go_ret
    exact ⟨by simp [h1], hk _ _⟩
  · by_cases h2 : a = c
    · subst h2
      have h2' : (a == a) = true := by simp
      go_enter Try.func24, Try.ntmps24
      go_wp2
      go_ret
      exact ⟨by simp, hk _ _⟩
    · have h2' : (a == c) = false := by simp [h2]
      go_enter Try.func24, Try.ntmps24
      go_wp2
      go_ret
      exact ⟨by simp [h1, h2], hk _ _⟩

theorem heap_at {w : World} {o : Obj} {k : Nat} (h : k = w.heap.size) : (w.alloc o).heap[k]? = some o := by subst h; exact heap_last w o
theorem made_at {P : Program} {k : TypeId} {w : World} {b : Nat} (h : b = w.heap.size) : MapIs P k (w.alloc (.map #[] 0)) b (fun _ => none) := by subst h; exact MapIs.made w
theorem made_in1 {P : Program} {k : TypeId} {w : World} {b : Nat} (h : b = w.heap.size) (o : Obj) : MapIs P k ((w.alloc (.map #[] 0)).alloc o) b (fun _ => none) :=
  (made_at h).of_block (Below.heap_alloc _ _ _ (made_at (P := P) (k := k) h).lt)
theorem made_in2 {P : Program} {k : TypeId} {w : World} {b : Nat} (h : b = w.heap.size) (o p : Obj) : MapIs P k (((w.alloc (.map #[] 0)).alloc o).alloc p) b (fun _ => none) :=
  (made_in1 h o).of_block (Below.heap_alloc _ _ _ (made_in1 (P := P) (k := k) h o).lt)
theorem made_in {P : Program} {k : TypeId} {w : World} {b : Nat} (h : b = w.heap.size) (o p q : Obj) : MapIs P k ((((w.alloc (.map #[] 0)).alloc o).alloc p).alloc q) b (fun _ => none) :=
  (made_in2 h o p).of_block (Below.heap_alloc _ _ _ (made_in2 (P := P) (k := k) h o p).lt)

def NewOk (id inc wait ttl : Int) : Prop := (0 ≤ id ∧ id < 16) ∧ inc ≤ 1099511627776 ∧ (0 ≤ wait ∧ wait ≤ 1000000) ∧ (0 ≤ ttl ∧ ttl ≤ 1000000)

set_option maxHeartbeats 1000000 in
theorem new_bad (id inc wait ttl : Int) (w : World) (h : ¬ NewOk id inc wait ttl) :
    Calls Try.prog 7 #[.int .i64 id, .int .u64 inc, .int .i64 wait, .int .i64 ttl] w fun e w' => e = .returned (.pointer none) ∧ w = w' := by
  unfold NewOk at h
  by_cases c1 : id < 0
  · go_enter Try.func7, Try.ntmps7
    go_wp2
    go_ret
    exact ⟨rfl, rfl⟩
  by_cases c2 : 16 ≤ id
  · go_enter Try.func7, Try.ntmps7
    go_wp2
    go_ret
    exact ⟨rfl, rfl⟩
  by_cases c3 : 1099511627776 < inc
  · go_enter Try.func7, Try.ntmps7
    go_wp2
    go_ret
    exact ⟨rfl, rfl⟩
  by_cases c4 : wait < 0
  · go_enter Try.func7, Try.ntmps7
    go_wp2
    go_ret
    exact ⟨rfl, rfl⟩
  by_cases c5 : 1000000 < wait
  · go_enter Try.func7, Try.ntmps7
    go_wp2
    go_ret
    exact ⟨rfl, rfl⟩
  by_cases c6 : ttl < 0
  · go_enter Try.func7, Try.ntmps7
    go_wp2
    go_ret
    exact ⟨rfl, rfl⟩
  by_cases c7 : 1000000 < ttl
  · go_enter Try.func7, Try.ntmps7
    go_wp2
    go_ret
    exact ⟨rfl, rfl⟩
  exact absurd ⟨⟨by omega, by omega⟩, by omega, ⟨by omega, by omega⟩, by omega, by omega⟩ h

set_option maxHeartbeats 1000000 in
theorem new_good (id inc wait ttl : Int) (w : World) (h : NewOk id inc wait ttl) :
    Calls Try.prog 7 #[.int .i64 id, .int .u64 inc, .int .i64 wait, .int .i64 ttl] w fun e w' => ∃ B m1 m2 m3, e = .returned (.pointer (some ⟨B, 0, none⟩)) ∧ Kept (fun _ => False) w w' ∧
      (w.heap.size ≤ B ∧ w.heap.size ≤ m1 ∧ w.heap.size ≤ m2 ∧ w.heap.size ≤ m3) ∧ Bk w' B m1 m2 m3 id inc wait ttl 0 (fun _ => none) (fun _ => none) (fun _ => none) := by
  obtain ⟨⟨a1, a2⟩, a3, ⟨a4, a5⟩, a6, a7⟩ := h
  have hmm := @run_makeMap Try.prog
  go_enter Try.func7, Try.ntmps7
  go_wp2
  go_ret
  refine ⟨w.heap.size + 3, w.heap.size, w.heap.size + 1, w.heap.size + 2, by simp, ((((Kept.refl _ w).alloc _).alloc _).alloc _).alloc _, ⟨by omega, by omega, by omega, by omega⟩, ?_, ?_, ?_, ?_, by omega, by omega, by omega⟩
  · exact heap_at (by simp)
  · exact made_in rfl _ _ _
  · exact made_in2 (by simp) _ _
  · exact made_in1 (by simp) _
end Go.Proofs.Ytbaehaleigpijaa
