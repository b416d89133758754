/- wire: rows one behind the other; AppendUint, AppendBytes. -/
import Derived.Test.YtfohljljoalmoaaDoorT2
import Derived.Laws.MakeOwn
namespace Go.Proofs.YtfohljljoalmoaaDoor
open Go.RowKit
set_option maxRecDepth 100000
set_option linter.unusedSimpArgs false
set_option linter.unusedVariables false

/-- A slice of slices that read as these rows. -/
def RowsAt (w : World) (v : Value) (rows : List (List UInt8)) : Prop :=
  ∃ (g : Nat) (vs : List Value) (cap : Nat), v = .slice (some ⟨g, 0, none⟩) rows.length cap ∧ vs.length = rows.length ∧ w.heap[g]? = some (.cells vs.toArray 44 (0, 0)) ∧ ∀ (j : Nat) l, rows[j]? = some l → ∃ x, vs[j]? = some x ∧ ByAt w x l
theorem grown_kept {w0 w w' : World} {row : Option Nat} (h : Kept (fun _ => False) w0 w) (hg : w.grownBy w' row) (hr : ∀ k, row = some k → w0.heap.size ≤ k) : Kept (fun _ => False) w0 w' :=
  ⟨hg.os.trans h.os, hg.tape.trans h.tape, hg.output.trans h.output, Nat.le_trans h.size hg.size, fun k hk _ => (hg.block k (Nat.lt_of_lt_of_le hk h.size) (fun e => by have := hr k e.symm; omega)).trans (h.block k hk not_false)⟩
theorem row_form {w : World} {base : Nat} {t : TypeId} {z : Nat} {v : Value} {n : Nat} {xs : List Value} (h : w.ownsRow base t z v n xs) : ∃ a cap, v = .slice a n cap := by
  rcases h.2 with ⟨rfl, rfl⟩ | ⟨g, cap, cur, rfl, _⟩
  · exact ⟨none, 0, rfl⟩
  · exact ⟨_, cap, rfl⟩

def total (rows : List (List UInt8)) : Nat := (rows.map List.length).sum
theorem total_flat (rows : List (List UInt8)) : (rows.flatten).length = total rows := by simp [total, List.length_flatten]
theorem total_take (rows : List (List UInt8)) (k : Nat) (hk : k < rows.length) : total (rows.take (k + 1)) = total (rows.take k) + rows[k].length := by
  unfold total
  rw [List.take_succ_eq_append_getElem hk, List.map_append, List.sum_append]; simp
theorem total_le (rows : List (List UInt8)) (k : Nat) : total (rows.take k) ≤ total rows := by
  unfold total
  conv => rhs; rw [← List.take_append_drop k rows]
  rw [List.map_append, List.sum_append]; omega
theorem flat_take (rows : List (List UInt8)) (k : Nat) (hk : k < rows.length) : (rows.take (k + 1)).flatten = (rows.take k).flatten ++ rows[k] := by
  rw [List.take_succ_eq_append_getElem hk, List.flatten_append]; simp
theorem exec_append {P : Program} {o : Oper} {a : Act} {w w1 : World} {p q v : Value} (t : TypeId) (x y : Operand) (ho : o.op = .call { callee := .builtin .append, args := #[x, y], argTypes := #[t, t] }) (hx : a.eval x = p) (hy : a.eval y = q)
    (h : (Builtin.append_ #[t, t] o.type #[p, q]).run P w = .ok v w1) : (execOp a.eval o).run P w = .ok (.value v) w1 := by
  unfold execOp
  simp only [ho, resolve, invoke, builtin, Sem.run_bind, Sem.run_pure, Result.andThen_ok]
  simp only [List.map_toArray, List.map_cons, List.map_nil, hx, hy, h, Result.andThen_ok]
theorem exec_make {P : Program} {o : Oper} {a : Act} {w w1 : World} {p q v : Value} (t : TypeId) (x y : Operand) (ho : o.op = .makeSlice t x y) (hx : a.eval x = p) (hy : a.eval y = q)
    (h : (Instr.makeSlice t p q).run P w = .ok v w1) : (execOp a.eval o).run P w = .ok (.value v) w1 := by
  unfold execOp; simp only [ho, hx, hy, Sem.run_bind, h, Result.andThen_ok]; rfl
theorem make_by (w : World) (n : Nat) (hn : n ≤ 1000000) : ∃ w', (Instr.makeSlice 44 (.int .i64 0) (.int .i64 (n : Int))).run Tryd.prog w = .ok (.slice (some ⟨w.heap.size, 0, none⟩) 0 n) w' ∧
    w'.ownsRow w.heap.size 5 1 (.slice (some ⟨w.heap.size, 0, none⟩) 0 n) 0 [] ∧ w.grownBy w' none := by
  obtain ⟨i, hi⟩ : ∃ i, Tryd.prog.info? 5 = some i := ⟨_, rfl⟩
  obtain ⟨z, hz⟩ : ∃ z, i.zero = some z := by injection hi with hi; subst hi; exact ⟨_, rfl⟩
  have hs : i.size = 1 := by injection hi with hi; subst hi; rfl
  have hby : i.bytes ≤ 1 := by injection hi with hi; subst hi; decide
  exact run_make_own w w.heap.size 44 5 i z 1 Tryd.underlying44 hi hz hs .i64 .i64 n (by have : i.bytes * n ≤ 1 * 1000000 := Nat.mul_le_mul hby hn; omega) (by simp only [maxLen]; omega) (Nat.le_refl _)

theorem formL_len (n : Nat) : (formL n).length ≤ 9 := by have := beD_len 8 n; simp [formL]; omega
theorem ByAt.slc {w : World} {v : Value} {l : List UInt8} (h : ByAt w v l) : ∃ a c, v = .slice a l.length c := by obtain ⟨a, c, h, _⟩ := h; exact ⟨a, c, h⟩
end Go.Proofs.YtfohljljoalmoaaDoor
