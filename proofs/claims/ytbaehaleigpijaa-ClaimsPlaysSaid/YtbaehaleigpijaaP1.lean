/- The document's book in memory; equality of digests; above; own. -/
import Derived.Test.YtbaehaleigpijaaP0
import Derived.Laws.AppendOwn
namespace Go.Proofs.Ytbaehaleigpijaa
open Go.RowKit
set_option linter.unusedSimpArgs false
set_option linter.unusedVariables false
variable {b0 : Nat}

theorem equal_dig {D E : Array Value} (hD : IsDig D) (hE : IsDig E) (w : World) : ∃ r : Bool, (Op.equal 31 (.agg D) (.agg E)).run Try.prog w = .ok r w ∧ (r = true ↔ D = E) := by
  obtain ⟨l, hl⟩ := hD.key
  obtain ⟨m, hm⟩ := hE.key
  obtain ⟨r, h1, h2⟩ := run_equal_deep (P := Try.prog) w (m := 10) (by omega) (k := 31) (by kernel_rfl) (by kernel_rfl) hl hm
  refine ⟨r, h1, h2.trans ⟨fun e => ?_, fun e => ?_⟩⟩
  · subst e; exact agg_inj (lawD.inj hl hm)
  · subst e; rw [hl] at hm; injection hm
open Classical in
theorem exec_eql_dig {D E : Array Value} (hD : IsDig D) (hE : IsDig E) {o : Oper} {a : Act} {w : World} (x y : Operand) (ho : o.op = .binOp .eql 31 x y 31) (hx : a.eval x = .agg D) (hy : a.eval y = .agg E) :
    (execOp a.eval o).run Try.prog w = .ok (.value (.bool (decide (D = E)))) w := by
  have hg : Try.prog.eqGuardType Try.prog.depth 31 = false := by kernel_rfl
  obtain ⟨r, hE, hr⟩ := equal_dig hD hE w
  have hd : r = decide (D = E) := by
    by_cases e : D = E
    · rw [decide_eq_true e]; exact hr.2 e
    · rw [decide_eq_false e]; cases r with
      | true => exact absurd (hr.1 rfl) e
      | false => rfl
  subst hd
  unfold execOp
  simp only [ho, hx, hy, Sem.run_bind]
  have h1 : (eqGuard .eql 31 x y (.agg D) (.agg E)).run Try.prog w = .ok () w := by
    simp [eqGuard, Sem.run_bind, program, Sem.run, hg]
  have h2 : (binOp .eql 31 (.agg D) (.agg E)).run Try.prog w = .ok (.bool (decide (D = E))) w := by
    simp [binOp, Sem.run_bind, hE]
  simp only [h1, h2, Result.andThen_ok]
  rfl

def OwnE.cells (id inc : Int) (e : OwnE) : List Value := (clm e.D id inc e.k false).toList ++ [.int .i64 e.b]
def OthE.cells (e : OthE) : List Value := (clm e.D e.n e.i e.c e.g).toList ++ [.int .i64 e.u]
/-- The document's book in memory. -/
structure RbS (b0 : Nat) (w : World) (R : Nat) (s : St) (owns : List OwnE) (oths : List OthE) (vo vt : Value) : Prop where
  blk : w.heap[R]? = some (.cells #[.int .i64 s.id, .int .u64 s.inc, .int .i64 s.wait, .int .i64 s.ttl, .int .u64 s.count, vo, vt] 50 (0, 0))
  own : w.ownsRow b0 52 37 vo owns.length (owns.flatMap (OwnE.cells s.id s.inc))
  oth : w.ownsRow b0 74 37 vt oths.length (oths.flatMap OthE.cells)
  digO : ∀ e ∈ owns, IsDig e.D
  digT : ∀ e ∈ oths, IsDig e.D
  far : b0 ≤ R
theorem OwnE.len {id inc : Int} {e : OwnE} (h : IsDig e.D) : (e.cells id inc).length = 37 := by simp [OwnE.cells, h.size]
theorem OthE.len {e : OthE} (h : IsDig e.D) : e.cells.length = 37 := by simp [OthE.cells, h.size]
theorem flat_get {α : Type} {f : α → List Value} {z : Nat} : ∀ {l : List α} {j : Nat} {e : α}, (∀ e ∈ l, (f e).length = z) → l[j]? = some e → ∀ k, k < z → (l.flatMap f)[j * z + k]? = (f e)[k]?
  | [], j, e, _, h, _, _ => by simp at h
  | x :: l, 0, e, hz, h, k, hk => by
    simp only [List.getElem?_cons_zero, Option.some.injEq] at h
    subst h
    rw [List.flatMap_cons, Nat.zero_mul, Nat.zero_add, List.getElem?_append_left (by rw [hz x (by simp)]; exact hk)]
  | x :: l, j + 1, e, hz, h, k, hk => by
    rw [List.getElem?_cons_succ] at h
    rw [List.flatMap_cons, List.getElem?_append_right (by rw [hz x (by simp), Nat.succ_mul]; omega), hz x (by simp), Nat.succ_mul]
    rw [show j * z + z + k - z = j * z + k by omega]
    exact flat_get (fun e he => hz e (by simp [he])) h k hk
/-- The j-th entry's cells in memory. -/
theorem row_at {α : Type} {f : α → List Value} {w : World} {t : TypeId} {v : Value} {l : List α} (h : w.ownsRow b0 t 37 v l.length (l.flatMap f)) (hz : ∀ e ∈ l, (f e).length = 37) {j : Nat} {e : α} (hj : l[j]? = some e) :
    ∃ g cap, v = .slice (some ⟨g, 0, none⟩) l.length cap ∧ g < w.heap.size ∧ (∃ c, w.heap[g]? = some (.cells c t (0, 0))) ∧ w.rangeAt g (j * 37) (f e) := by
  have hjl := (List.getElem?_eq_some_iff.1 hj).1
  rcases h.2 with ⟨_, h0⟩ | ⟨g, cap, cur, rfl, _, hg, hn, _, hs, ht⟩
  · omega
  · refine ⟨g, cap, rfl, (Array.getElem?_eq_some_iff.1 hg).1, ⟨cur, hg⟩, fun k u hu => ?_⟩
    have hk : k < 37 := by have := (List.getElem?_eq_some_iff.1 hu).1; rw [hz e (List.mem_of_getElem? hj)] at this; exact this
    have h1 := flat_get (f := f) (z := 37) hz hj k hk
    rw [← ht, List.getElem?_take_of_lt (by have : (j + 1) * 37 ≤ l.length * 37 := Nat.mul_le_mul_right _ hjl; omega)] at h1
    rw [cell_of_row _ _ _ _ _ _ hg, ← hu, ← h1]
    simp
end Go.Proofs.Ytbaehaleigpijaa
