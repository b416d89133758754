/- The claims' book: small functions. -/
import Derived.Test.YtbaehaleigpijaaQ0
namespace Go.Proofs.Ytbaehaleigpijaa
open Go.RowKit
set_option linter.unusedSimpArgs false
set_option linter.unusedVariables false

set_option maxHeartbeats 400000 in
theorem none_nil (w : World) :
    Calls Try.prog 22 #[.pointer none] w fun e w' => e = .returned (.bool true) ∧ w = w' := by
  go_enter Try.func22, Try.ntmps22
  go_wp2
  go_ret
  exact ⟨rfl, rfl⟩

set_option maxHeartbeats 400000 in
theorem none_zero (B : Nat) (w : World) (h5 : w.cell? ⟨B, 5, none⟩ = some (.map none)) :
    Calls Try.prog 22 #[.pointer (some ⟨B, 0, none⟩)] w fun e w' => e = .returned (.bool true) ∧ w = w' := by
  have he := fun wx r => run_eql_map_nil (P := Try.prog) wx 55 31 64 r Try.underlying55
  go_enter Try.func22, Try.ntmps22
  go_wp2
  go_ret
  exact ⟨rfl, rfl⟩

set_option maxHeartbeats 400000 in
theorem none_some (B m : Nat) (w : World) (h5 : w.cell? ⟨B, 5, none⟩ = some (.map (some m))) :
    Calls Try.prog 22 #[.pointer (some ⟨B, 0, none⟩)] w fun e w' => e = .returned (.bool false) ∧ w = w' := by
  have he := fun wx r => run_eql_map_nil (P := Try.prog) wx 55 31 64 r Try.underlying55
  go_enter Try.func22, Try.ntmps22
  go_wp2
  go_ret
  exact ⟨rfl, rfl⟩

/-- A place's key. -/
abbrev plc (D : Array Value) (n : Int) : Value := .agg (D ++ #[.int .i64 n])
theorem build_plc' (a0 a1 a2 a3 a4 a5 a6 a7 a8 a9 a10 a11 a12 a13 a14 a15 a16 a17 a18 a19 a20 a21 a22 a23 a24 a25 a26 a27 a28 a29 a30 a31 n : Int) (w : World) : (Instr.build 68 #[(0, .agg #[.int .u8 a0, .int .u8 a1, .int .u8 a2, .int .u8 a3, .int .u8 a4, .int .u8 a5, .int .u8 a6, .int .u8 a7, .int .u8 a8, .int .u8 a9, .int .u8 a10, .int .u8 a11, .int .u8 a12, .int .u8 a13, .int .u8 a14, .int .u8 a15, .int .u8 a16, .int .u8 a17, .int .u8 a18, .int .u8 a19, .int .u8 a20, .int .u8 a21, .int .u8 a22, .int .u8 a23, .int .u8 a24, .int .u8 a25, .int .u8 a26, .int .u8 a27, .int .u8 a28, .int .u8 a29, .int .u8 a30, .int .u8 a31]), (1, .int .i64 n)]).run Try.prog w = .ok (.agg #[.int .u8 a0, .int .u8 a1, .int .u8 a2, .int .u8 a3, .int .u8 a4, .int .u8 a5, .int .u8 a6, .int .u8 a7, .int .u8 a8, .int .u8 a9, .int .u8 a10, .int .u8 a11, .int .u8 a12, .int .u8 a13, .int .u8 a14, .int .u8 a15, .int .u8 a16, .int .u8 a17, .int .u8 a18, .int .u8 a19, .int .u8 a20, .int .u8 a21, .int .u8 a22, .int .u8 a23, .int .u8 a24, .int .u8 a25, .int .u8 a26, .int .u8 a27, .int .u8 a28, .int .u8 a29, .int .u8 a30, .int .u8 a31, .int .i64 n]) w := by kernel_rfl
theorem build_plc {D : Array Value} (h : IsDig D) (n : Int) (w : World) : (Instr.build 68 #[(0, .agg D), (1, .int .i64 n)]).run Try.prog w = .ok (plc D n) w := by
  obtain ⟨cs, h1, h2, rfl⟩ := h
  match cs, h1 with
  | [a0, a1, a2, a3, a4, a5, a6, a7, a8, a9, a10, a11, a12, a13, a14, a15, a16, a17, a18, a19, a20, a21, a22, a23, a24, a25, a26, a27, a28, a29, a30, a31], _ => exact build_plc' a0 a1 a2 a3 a4 a5 a6 a7 a8 a9 a10 a11 a12 a13 a14 a15 a16 a17 a18 a19 a20 a21 a22 a23 a24 a25 a26 a27 a28 a29 a30 a31 n w
end Go.Proofs.Ytbaehaleigpijaa
