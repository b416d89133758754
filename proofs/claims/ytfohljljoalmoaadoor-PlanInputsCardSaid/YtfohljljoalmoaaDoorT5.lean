/- A tree's bytes. -/
import Derived.Test.YtfohljljoalmoaaDoorT4
namespace Go.Proofs.YtfohljljoalmoaaDoor
open Go.RowKit
set_option maxRecDepth 100000
set_option linter.unusedSimpArgs false
set_option linter.unusedVariables false

/-- The bytes of the first k files. -/
def filesL (l : List FileE) : List UInt8 := l.flatMap fun f => formL f.path.size ++ f.path.data.toList ++ (formL f.bytes.length ++ f.bytes)
def rawL (l : List FileE) : List UInt8 := formL l.length ++ filesL l
theorem filesL_take {l : List FileE} {k : Nat} {f : FileE} (h : l[k]? = some f) : filesL (l.take (k + 1)) = filesL (l.take k) ++ (formL f.path.size ++ f.path.data.toList ++ (formL f.bytes.length ++ f.bytes)) := by
  obtain ⟨hk, rfl⟩ := List.getElem?_eq_some_iff.1 h
  unfold filesL
  rw [List.take_succ_eq_append_getElem hk, List.flatMap_append]; simp
/-- '[]byte(s)'. -/
theorem conv_by (w : World) (s : ByteArray) (hs : s.size ≤ maxLen) : ∃ v w', (convert 9 44 (.string s)).run Tryd.prog w = .ok v w' ∧ ByAt w' v s.data.toList ∧ Kept (fun _ => False) w w' ∧ ∃ a n c, v = .slice a n c := by
  have h := run_bytes_of_string (P := Tryd.prog) w 9 44 5 s Tryd.underlying9 Tryd.underlying44 Tryd.underlying5
  refine ⟨_, _, h, ?_, ((Kept.refl _ w).drew).alloc _, _, _, _, rfl⟩
  have e : s.size = s.data.toList.length := by simp
  refine ⟨_, _, by rw [e], by rw [← e]; exact hs, fun _ => ⟨_, 0, rfl, by simp, fun j u hu => ?_⟩⟩
  rw [Nat.zero_add]
  have hj := (List.getElem?_eq_some_iff.1 hu).1
  rw [bv_len] at hj
  have hl : (w.drew.alloc (.cells (bytesRow s (grownCap w s.size 0 5)) 5 ((bytesRow s (grownCap w s.size 0 5)).size, (bytesRow s (grownCap w s.size 0 5)).size + 1))).heap[w.heap.size]? = _ := heap_last w.drew _
  rw [cell_of_row _ _ _ _ _ _ hl, ← hu]
  unfold bytesRow bv
  rw [Array.getElem?_append_left (by simpa using hj)]
  simp

theorem exec_conv {P : Program} {o : Oper} {a : Act} {w w1 : World} {p v : Value} (t u : TypeId) (x : Operand) (ho : o.op = .convert t u x) (hx : a.eval x = p)
    (h : (convert t u p).run P w = .ok v w1) : (execOp a.eval o).run P w = .ok (.value v) w1 := by
  unfold execOp; simp only [ho, hx, Sem.run_bind, h, Result.andThen_ok]; rfl
theorem filesL_len {l : List FileE} (h : ∀ f ∈ l, f.path.size ≤ 40 ∧ f.bytes.length ≤ 2000) : (filesL l).length ≤ l.length * 2058 := by
  induction l with
  | nil => simp [filesL]
  | cons f l ih =>
    have h1 := h f (by simp)
    have h2 := ih (fun g hg => h g (by simp [hg]))
    have e1 := formL_len f.path.size
    have e2 := formL_len f.bytes.length
    have e3 : f.path.data.toList.length = f.path.size := by simp
    unfold filesL at *
    rw [List.flatMap_cons, List.length_append, List.length_append, List.length_append, List.length_append, List.length_cons, e3]
    omega
end Go.Proofs.YtfohljljoalmoaaDoor
