/- Keys of digests and of places. -/
import Derived.Test.YtbaehaleigpijaaM0
import Derived.Test.YtbaehaleigpijaaRows
import Derived.Deep.MidRow
import Derived.Deep.WholeRow
namespace Go.Proofs.Ytbaehaleigpijaa
open Go.RowKit
set_option linter.unusedSimpArgs false
set_option linter.unusedVariables false

theorem mapM_some {α β : Type} {f : α → Option β} : ∀ {L : List α}, (∀ x ∈ L, ∃ y, f x = some y) → ∃ ys, L.mapM f = some ys
  | [], _ => ⟨[], rfl⟩
  | a :: L, h => by
    obtain ⟨y, hy⟩ := h a (by simp)
    obtain ⟨ys, hys⟩ := mapM_some (L := L) (fun x hx => h x (by simp [hx]))
    exact ⟨y :: ys, by simp [hy, hys]⟩

theorem keyLits_arr {P : Program} {k e : TypeId} {q : IntKind} {n d : Nat} (hk : P.underlying k = some (.array n e)) (he : P.underlying e = some (.int q)) (hce : P.cellsOf e = 1) (hck : P.cellsOf k = n)
    {cs : List Int} (hl : cs.length = n) (hw : ∀ x ∈ cs, (Lit.int q x).wf = true) : ∃ l, P.keyLits (d + 2) k (cs.map (Value.int q)) = some l := by
  unfold Program.keyLits
  rw [hk]
  simp only [List.length_map, hck, hl, if_true]
  obtain ⟨ys, hys⟩ := mapM_some (f := fun i => P.keyLits (d + 1) e (((cs.map (Value.int q)).drop (i * P.cellsOf e)).take (P.cellsOf e))) (L := List.range n) (fun i hi => by
    have hi' : i < cs.length := by rw [hl]; simpa using hi
    refine ⟨[.int q cs[i]], ?_⟩
    rw [hce, Nat.mul_one, List.drop_eq_getElem_cons (by simpa using hi')]
    unfold Program.keyLits
    simp [he, hw cs[i] (List.getElem_mem hi')])
  exact ⟨ys.flatten, by rw [hys]; rfl⟩

theorem Try.laidOut : laidOutB Try.prog = true := by kernel_rfl
theorem lawD : WideMaps.KeyLaw Try.prog 31 := deep_law_gate Try.laidOut (of_decide_eq_true (by kernel_rfl)) (of_decide_eq_true (by kernel_rfl)) (by kernel_rfl) (by kernel_rfl)

/-- The cells of a digest. -/
def IsDig (D : Array Value) : Prop := ∃ cs : List Int, cs.length = 32 ∧ (∀ x ∈ cs, 0 ≤ x ∧ x < 256) ∧ D = (cs.map (Value.int .u8)).toArray
theorem IsDig.size {D : Array Value} (h : IsDig D) : D.size = 32 := by obtain ⟨cs, h1, _, rfl⟩ := h; simp [h1]
theorem IsDig.oneCell {D : Array Value} (h : IsDig D) : D.all (·.oneCell') = true := by
  obtain ⟨cs, h1, _, rfl⟩ := h
  exact all_oneCell_toArray (by intro v hv; simp at hv; obtain ⟨a, _, rfl⟩ := hv; rfl)

theorem sz_types : ∃ m, Try.prog.types.size = m + 2 := ⟨Try.prog.types.size - 2, by have : 2 ≤ Try.prog.types.size := of_decide_eq_true (by kernel_rfl); omega⟩
theorem wf_u8 {x : Int} (h : 0 ≤ x ∧ x < 256) : (Lit.int .u8 x).wf = true := by
  simp only [Lit.wf, Bool.and_eq_true, decide_eq_true_eq]; exact ⟨h.1, Int.le_of_lt_add_one h.2⟩

theorem IsDig.key {D : Array Value} (h : IsDig D) : ∃ l, keyOf Try.prog 31 (.agg D) = some l := by
  have hs := h.size
  obtain ⟨cs, h1, h2, rfl⟩ := h
  obtain ⟨m, hm⟩ := sz_types
  obtain ⟨l, hl⟩ := keyLits_arr (P := Try.prog) (d := m + 1) Try.underlying31 Try.underlying5 (by kernel_rfl) (by kernel_rfl) h1 (fun x hx => wf_u8 (h2 x hx))
  have hkt : Try.prog.keyType 31 = true := by kernel_rfl
  have hcc : Try.prog.cellsOf 31 = 32 := by kernel_rfl
  refine ⟨.string (keyBytes l), ?_⟩
  unfold keyOf
  rw [Try.underlying31]
  simp only [hkt, Value.formed, Try.underlying31, hcc, hs, hm, Value.cells, hl]
  rfl

theorem load_row {P : Program} {t ty : TypeId} {d : TypeDesc} (hu : P.underlying ty = some d) (hd : d.isRow = true) {w : World} {b : Nat} {D : Array Value} {fr : Nat × Nat} (h : w.heap[b]? = some (.cells D t fr))
    (hi : (P.info? ty).map (·.size) = some D.size) : (Instr.loadAt ty (.pointer (some ⟨b, 0, none⟩))).run P w = .ok (.agg D) w := by
  simp only [Instr.loadAt, Instr.sureAddr, Sem.run_bind, Sem.run_pure, Result.andThen_ok]
  rw [run_loadVar_row w b t ty D fr d h hu (by cases d <;> simp_all) hi]
theorem load_dig {D : Array Value} (hD : IsDig D) {w : World} {b : Nat} {t : TypeId} {fr : Nat × Nat} (h : w.heap[b]? = some (.cells D t fr)) :
    (Instr.loadAt 31 (.pointer (some ⟨b, 0, none⟩))).run Try.prog w = .ok (.agg D) w :=
  load_row Try.underlying31 rfl h (by rw [hD.size]; kernel_rfl)
theorem heap_last (w : World) (o : Obj) : (w.alloc o).heap[w.heap.size]? = some o := heap_alloc_last w o

theorem lawP : WideMaps.KeyLaw Try.prog 68 := deep_law_gate Try.laidOut (of_decide_eq_true (by kernel_rfl)) (of_decide_eq_true (by kernel_rfl)) (by kernel_rfl) (by kernel_rfl)

theorem IsDig.place {D : Array Value} (h : IsDig D) {n : Int} (hn : (Lit.int .i64 n).wf = true) : ∃ l, keyOf Try.prog 68 (.agg (D ++ #[.int .i64 n])) = some l := by
  have hs := h.size
  obtain ⟨cs, h1, h2, rfl⟩ := h
  obtain ⟨m, hm⟩ := sz_types
  obtain ⟨l, hl⟩ := keyLits_arr (P := Try.prog) (d := m) Try.underlying31 Try.underlying5 (by kernel_rfl) (by kernel_rfl) h1 (fun x hx => wf_u8 (h2 x hx))
  have hkt : Try.prog.keyType 68 = true := by kernel_rfl
  have hcc : Try.prog.cellsOf 68 = 33 := by kernel_rfl
  have hcd : Try.prog.cellsOf 31 = 32 := by kernel_rfl
  have hci : Try.prog.cellsOf 3 = 1 := by kernel_rfl
  have hK : Try.prog.keyLits (m + 3) 68 ((cs.map (Value.int .u8)) ++ [.int .i64 n]) = some (l ++ [.int .i64 n]) := by
    rw [show m + 3 = (m + 2) + 1 from rfl]
    unfold Program.keyLits
    rw [Try.underlying68]
    have e1 : (List.map (Value.int IntKind.u8) cs ++ [Value.int IntKind.i64 n]).take 32 = cs.map (Value.int .u8) := by rw [List.take_append_of_le_length (by simp [h1])]; simp [List.take_of_length_le, h1]
    have e3 : Try.prog.keyLits (m + 2) 3 [.int .i64 n] = some [.int .i64 n] := by unfold Program.keyLits; simp [Try.underlying3, hn]
    simp [hcc, hcd, hci, h1, e1, e3, hl]
  refine ⟨.string (keyBytes (l ++ [.int .i64 n])), ?_⟩
  unfold keyOf
  rw [Try.underlying68]
  simp only [hkt, Value.formed, Try.underlying68, hcc, hm, Value.cells, Array.toList_append, hK]
  simp [h1]
end Go.Proofs.Ytbaehaleigpijaa
