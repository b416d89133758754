/- One element more in a row of structs. -/
import Derived.Test.YtbaehaleigpijaaP6
import Derived.Maps.AppendAt
namespace Go.Proofs.Ytbaehaleigpijaa
open Go.RowKit
set_option linter.unusedSimpArgs false
set_option linter.unusedVariables false
variable {b0 : Nat}

theorem append_own1 {w : World} {v : Value} {n : Nat} {xs : List Value} (h : w.ownsRow b0 52 37 v n xs) (hn : n ≤ 1000000) {r : Nat} {c : Array Value} {t : TypeId} (hr : w.heap[r]? = some (.cells c t (0, 0))) (hc : c.size = 37) (h1 : c.all (·.oneCell') = true) (hb0 : b0 ≤ w.heap.size) (ty : TypeId) :
    ∃ v' w', (Builtin.append_ #[47, 47] ty #[v, .slice (some ⟨r, 0, none⟩) 1 1]).run Try.prog w = .ok v' w' ∧ w'.ownsRow b0 52 37 v' (n + 1) (xs ++ c.toList) ∧ w.grownBy w' v.ownBlock ∧
      (v'.ownBlock = v.ownBlock ∨ v'.ownBlock = some w.heap.size) := by
  obtain ⟨i, hi⟩ : ∃ i, Try.prog.info? 52 = some i := ⟨_, rfl⟩
  obtain ⟨z, hz⟩ : ∃ z, i.zero = some z := by injection hi with hi; subst hi; exact ⟨_, rfl⟩
  have hs : i.size = 37 := by injection hi with hi; subst hi; rfl
  have hzs : z.cells.size = 37 := by injection hi with hi; subst hi; injection hz with hz; subst hz; rfl
  have hby : i.bytes ≤ 1000 := by injection hi with hi; subst hi; decide
  obtain ⟨v', w', a1, a2, a3, _, a5⟩ := run_append_own_at (P := Try.prog) w b0 47 ty 52 i z 37 i.bytes Try.underlying47 hi hz hs rfl hzs (by omega) v n xs h ⟨r, 0, none⟩ 1 1 c.toList (by simp [hc])
    (fun j u hu => by rw [Addr.add_mid, Nat.zero_add, cell_of_row _ _ _ _ _ _ hr]; simpa using hu) (fun u hu => by rw [Array.all_eq_true_iff_forall_mem] at h1; exact h1 u (by simpa using hu)) (by simp only [maxLen]; omega)
    (by have : (n + 1) * i.bytes ≤ 1000001 * 1000 := Nat.mul_le_mul (by omega) hby; omega) hb0
  exact ⟨v', w', a1, a2, a3, a5⟩

theorem bslice_own' (a0 a1 a2 a3 a4 a5 a6 a7 a8 a9 a10 a11 a12 a13 a14 a15 a16 a17 a18 a19 a20 a21 a22 a23 a24 a25 a26 a27 a28 a29 a30 a31 a32 a33 a34 a35 a36 : Value) (w : World) : (Instr.buildSlice 47 1 #[(0, .agg #[a0, a1, a2, a3, a4, a5, a6, a7, a8, a9, a10, a11, a12, a13, a14, a15, a16, a17, a18, a19, a20, a21, a22, a23, a24, a25, a26, a27, a28, a29, a30, a31, a32, a33, a34, a35, a36])]).run Try.prog w = .ok (.slice (some ⟨w.heap.size, 0, none⟩) 1 1) (w.alloc (.cells #[a0, a1, a2, a3, a4, a5, a6, a7, a8, a9, a10, a11, a12, a13, a14, a15, a16, a17, a18, a19, a20, a21, a22, a23, a24, a25, a26, a27, a28, a29, a30, a31, a32, a33, a34, a35, a36] 52)) := by kernel_rfl
theorem bslice_own {D : Array Value} (hD : IsDig D) (n i c : Int) (g : Bool) (b : Int) (w : World) : (Instr.buildSlice 47 1 #[(0, .agg (clm D n i c g ++ #[.int .i64 b]))]).run Try.prog w = .ok (.slice (some ⟨w.heap.size, 0, none⟩) 1 1) (w.alloc (.cells (clm D n i c g ++ #[.int .i64 b]) 52)) := by
  obtain ⟨cs, h1, h2, rfl⟩ := hD
  match cs, h1 with
  | [a0, a1, a2, a3, a4, a5, a6, a7, a8, a9, a10, a11, a12, a13, a14, a15, a16, a17, a18, a19, a20, a21, a22, a23, a24, a25, a26, a27, a28, a29, a30, a31], _ => exact bslice_own' (.int .u8 a0) (.int .u8 a1) (.int .u8 a2) (.int .u8 a3) (.int .u8 a4) (.int .u8 a5) (.int .u8 a6) (.int .u8 a7) (.int .u8 a8) (.int .u8 a9) (.int .u8 a10) (.int .u8 a11) (.int .u8 a12) (.int .u8 a13) (.int .u8 a14) (.int .u8 a15) (.int .u8 a16) (.int .u8 a17) (.int .u8 a18) (.int .u8 a19) (.int .u8 a20) (.int .u8 a21) (.int .u8 a22) (.int .u8 a23) (.int .u8 a24) (.int .u8 a25) (.int .u8 a26) (.int .u8 a27) (.int .u8 a28) (.int .u8 a29) (.int .u8 a30) (.int .u8 a31) (.int .i64 n) (.int .u64 i) (.int .u64 c) (.bool g) (.int .i64 b) w
theorem exec_append {P : Program} {o : Oper} {a : Act} {w w1 : World} {p q v : Value} (t : TypeId) (x y : Operand) (ho : o.op = .call { callee := .builtin .append, args := #[x, y], argTypes := #[t, t] }) (hx : a.eval x = p) (hy : a.eval y = q)
    (h : (Builtin.append_ #[t, t] o.type #[p, q]).run P w = .ok v w1) : (execOp a.eval o).run P w = .ok (.value v) w1 := by
  unfold execOp
  simp only [ho, resolve, invoke, builtin, Sem.run_bind, Sem.run_pure, Result.andThen_ok]
  simp only [List.map_toArray, List.map_cons, List.map_nil, hx, hy, h, Result.andThen_ok]

theorem build_rown' (a0 a1 a2 a3 a4 a5 a6 a7 a8 a9 a10 a11 a12 a13 a14 a15 a16 a17 a18 a19 a20 a21 a22 a23 a24 a25 a26 a27 a28 a29 a30 a31 a32 a33 a34 a35 : Value) (b : Int) (w : World) : (Instr.build 52 #[(0, .agg #[a0, a1, a2, a3, a4, a5, a6, a7, a8, a9, a10, a11, a12, a13, a14, a15, a16, a17, a18, a19, a20, a21, a22, a23, a24, a25, a26, a27, a28, a29, a30, a31, a32, a33, a34, a35]), (1, .int .i64 b)]).run Try.prog w = .ok (.agg #[a0, a1, a2, a3, a4, a5, a6, a7, a8, a9, a10, a11, a12, a13, a14, a15, a16, a17, a18, a19, a20, a21, a22, a23, a24, a25, a26, a27, a28, a29, a30, a31, a32, a33, a34, a35, .int .i64 b]) w := by kernel_rfl
theorem build_rown {D : Array Value} (hD : IsDig D) (n i c : Int) (g : Bool) (b : Int) (w : World) : (Instr.build 52 #[(0, .agg (clm D n i c g)), (1, .int .i64 b)]).run Try.prog w = .ok (.agg (clm D n i c g ++ #[.int .i64 b])) w := by
  obtain ⟨cs, h1, h2, rfl⟩ := hD
  match cs, h1 with
  | [a0, a1, a2, a3, a4, a5, a6, a7, a8, a9, a10, a11, a12, a13, a14, a15, a16, a17, a18, a19, a20, a21, a22, a23, a24, a25, a26, a27, a28, a29, a30, a31], _ => exact build_rown' (.int .u8 a0) (.int .u8 a1) (.int .u8 a2) (.int .u8 a3) (.int .u8 a4) (.int .u8 a5) (.int .u8 a6) (.int .u8 a7) (.int .u8 a8) (.int .u8 a9) (.int .u8 a10) (.int .u8 a11) (.int .u8 a12) (.int .u8 a13) (.int .u8 a14) (.int .u8 a15) (.int .u8 a16) (.int .u8 a17) (.int .u8 a18) (.int .u8 a19) (.int .u8 a20) (.int .u8 a21) (.int .u8 a22) (.int .u8 a23) (.int .u8 a24) (.int .u8 a25) (.int .u8 a26) (.int .u8 a27) (.int .u8 a28) (.int .u8 a29) (.int .u8 a30) (.int .u8 a31) (.int .i64 n) (.int .u64 i) (.int .u64 c) (.bool g) b w
theorem store_slice {w : World} {R j n c : Nat} {a : Option Addr} {v0 : Value} (hc : w.cell? ⟨R, j, none⟩ = some v0) (hf : w.frozen? ⟨R, j, none⟩ = false) :
    (Instr.storeAt 47 (.pointer (some ⟨R, j, none⟩)) (.slice a n c)).run Try.prog w = .ok () (w.setCell ⟨R, j, none⟩ (.slice a n c)) := by
  go_simp
theorem load_slice {w : World} {R j n c : Nat} {a : Option Addr} (hc : w.cell? ⟨R, j, none⟩ = some (.slice a n c)) :
    (Instr.loadAt 47 (.pointer (some ⟨R, j, none⟩))).run Try.prog w = .ok (.slice a n c) w := by
  go_simp
end Go.Proofs.Ytbaehaleigpijaa
