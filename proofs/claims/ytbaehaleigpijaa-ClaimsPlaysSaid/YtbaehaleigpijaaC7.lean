/- Hear: refused. -/
import Derived.Test.YtbaehaleigpijaaC6
namespace Go.Proofs.Ytbaehaleigpijaa
open Go.RowKit
set_option linter.unusedSimpArgs false
set_option linter.unusedVariables false

def Z33 : Array Value := #[.int .u8 0, .int .u8 0, .int .u8 0, .int .u8 0, .int .u8 0, .int .u8 0, .int .u8 0, .int .u8 0, .int .u8 0, .int .u8 0, .int .u8 0, .int .u8 0, .int .u8 0, .int .u8 0, .int .u8 0, .int .u8 0, .int .u8 0, .int .u8 0, .int .u8 0, .int .u8 0, .int .u8 0, .int .u8 0, .int .u8 0, .int .u8 0, .int .u8 0, .int .u8 0, .int .u8 0, .int .u8 0, .int .u8 0, .int .u8 0, .int .u8 0, .int .u8 0, .int .i64 0]
theorem zeroPlc (w : World) : (zeroValue 68).run Try.prog w = .ok (.agg Z33) w := by kernel_rfl
theorem Z33_one : Z33.all (·.oneCell') = true := by simp [Z33, Value.oneCell']
def Z2 : Array Value := #[.int .u64 0, .int .u64 0]
theorem zeroSer (w : World) : (zeroValue 70).run Try.prog w = .ok (.agg Z2) w := by kernel_rfl
theorem plc_oneCell {D : Array Value} (hD : IsDig D) (n : Int) : (D ++ #[Value.int .i64 n]).all (·.oneCell') = true := by
  rw [Array.all_append, hD.oneCell]; simp [Value.oneCell']
theorem plc_size {D : Array Value} (hD : IsDig D) (n : Int) : (D ++ #[Value.int .i64 n]).size = 33 := by simp [hD.size]
theorem load_plc {D : Array Value} (hD : IsDig D) {n : Int} {w : World} {b : Nat} {t : TypeId} {fr : Nat × Nat} (h : w.heap[b]? = some (.cells (D ++ #[.int .i64 n]) t fr)) :
    (Instr.loadAt 68 (.pointer (some ⟨b, 0, none⟩))).run Try.prog w = .ok (plc D n) w :=
  load_row Try.underlying68 rfl h (by rw [plc_size hD]; kernel_rfl)
theorem load_dig_mid {D R : Array Value} (hD : IsDig D) {w : World} {b : Nat} {t : TypeId} {fr : Nat × Nat} (h : w.heap[b]? = some (.cells (D ++ R) t fr)) :
    (Instr.loadAt 31 (.pointer (some ⟨b, 0, none⟩))).run Try.prog w = .ok (.agg D) w :=
  load_mid Try.underlying31 rfl h (by rw [hD.size]; kernel_rfl)

/-- May a claim of node n be heard by node id? -/
def Fine (id n i c : Int) : Prop := 0 ≤ n ∧ n < 16 ∧ n ≠ id ∧ i ≤ 1099511627776 ∧ c ≤ 1099511627776

set_option maxHeartbeats 2000000 in
theorem hear_bad {w : World} {B m1 m2 m3 : Nat} {id inc wait ttl count : Int} {O L U} (h : Bk w B m1 m2 m3 id inc wait ttl count O L U) {D : Array Value} (hD : IsDig D) {n i c : Int} {g : Bool} {now : Int} (hf : ¬ Fine id n i c) :
    Calls Try.prog 15 #[.pointer (some ⟨B, 0, none⟩), .agg (clm D n i c g), .int .i64 now] w fun e w' => e = .returned (.tuple #[.slice none 0 0, .int .i64 2]) ∧ Kept (fun _ => False) w w' := by
  have hk : Kept (fun _ => False) w (w.alloc (.cells (clm D n i c g) 33)) := (Kept.refl _ w).alloc _
  have hB1 := h.kept hk
  have h5 := hB1.cell 5 _ rfl
  have hr := heap_last w (.cells (clm D n i c g) 33)
  go_enter Try.func15, Try.ntmps15
  go_wp2_with fail
  refine (none_some B m1 _ h5).mono ?_
  rintro e w' ⟨rfl, rfl⟩
  go_wp2_with fail
  generalize w.alloc (.cells (clm D n i c g) 33) = W at hk hB1 h5 hr ⊢
  have k0 := hB1.cell 0 _ rfl
  have k1 : W.cell? ⟨w.heap.size, 32, none⟩ = some (.int .i64 n) := by rw [cell_of_row _ _ _ _ _ _ hr]; exact clm_at hD n i c g 0
  have k2 : W.cell? ⟨w.heap.size, 33, none⟩ = some (.int .u64 i) := by rw [cell_of_row _ _ _ _ _ _ hr]; exact clm_at hD n i c g 1
  have k3 : W.cell? ⟨w.heap.size, 34, none⟩ = some (.int .u64 c) := by rw [cell_of_row _ _ _ _ _ _ hr]; exact clm_at hD n i c g 2
  clear h5 hr
  by_cases c1 : n < 0
  · go_quiet (fail)
    go_wp2_with fail
    go_ret2
    exact ⟨rfl, hk.drewN _⟩
  by_cases c2 : 16 ≤ n
  · go_quiet (fail)
    go_wp2_with fail
    go_ret2
    exact ⟨rfl, hk.drewN _⟩
  by_cases c3 : n = id
  · have c3' : (n == id) = true := by simp [c3]
    have C3 := Lib.hid c3
    clear c3
    go_quiet (fail)
    go_wp2_with fail
    go_ret2
    exact ⟨rfl, hk.drewN _⟩
  have c3' : (n == id) = false := by simp [c3]
  by_cases c4 : 1099511627776 < i
  · go_quiet (fail)
    go_wp2_with fail
    go_ret2
    exact ⟨rfl, hk.drewN _⟩
  by_cases c5 : 1099511627776 < c
  · go_quiet (fail)
    go_wp2_with fail
    go_ret2
    exact ⟨rfl, hk.drewN _⟩
  exact absurd ⟨by omega, by omega, c3, by omega, by omega⟩ hf
end Go.Proofs.Ytbaehaleigpijaa
