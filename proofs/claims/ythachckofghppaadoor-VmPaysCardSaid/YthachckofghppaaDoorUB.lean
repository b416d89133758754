/- slices.Insert at files. -/
import Derived.Test.YthachckofghppaaDoorUA
import Derived.Laws.CopyRow
import Derived.Lib.AppendZerosOnto
import Derived.Lib.Overlaps
namespace Go.Proofs.YthachckofghppaaDoor
open Go.RowKit
set_option maxRecDepth 100000
set_option linter.unusedSimpArgs false
set_option linter.unusedVariables false

section
variable {α : Type}
theorem ins_room {cur xs cs : List α} {k n : Nat} (hx : cur.take n = xs) (hl : xs.length = n) (hk : k ≤ n) (hc : n + cs.length ≤ cur.length) (c1 : List α) (h1 : c1 = cur.take (k + cs.length) ++ xs.drop k ++ cur.drop (k + cs.length + (xs.drop k).length)) :
    (c1.take k ++ cs ++ c1.drop (k + cs.length)).take (n + cs.length) = xs.take k ++ cs ++ xs.drop k ∧ (c1.take k ++ cs ++ c1.drop (k + cs.length)).length = cur.length ∧ c1.length = cur.length := by
  have hD : (xs.drop k).length = n - k := by rw [List.length_drop, hl]
  have hA : (cur.take (k + cs.length)).length = k + cs.length := by rw [List.length_take]; omega
  have e1 : c1.take k = xs.take k := by
    rw [h1, List.append_assoc, List.take_append_of_le_length (by omega), List.take_take, ← hx, List.take_take]
    congr 1; omega
  have e2 : c1.drop (k + cs.length) = xs.drop k ++ cur.drop (k + cs.length + (xs.drop k).length) := by
    rw [h1, List.append_assoc]
    exact List.drop_left' hA
  have e3 : (xs.take k).length = k := by rw [List.length_take]; omega
  rw [e1, e2]
  refine ⟨?_, ?_, ?_⟩
  · rw [← List.append_assoc]
    exact List.take_left' (by rw [List.length_append, List.length_append, e3, hD]; omega)
  · rw [List.length_append, List.length_append, List.length_append, e3, hD, List.length_drop]; omega
  · rw [h1, List.length_append, List.length_append, hA, hD, List.length_drop]; omega
theorem ins_grow {row cs D : List α} {k : Nat} (hk : k + cs.length + D.length ≤ row.length) (c1 : List α) (h1 : c1 = row.take k ++ cs ++ row.drop (k + cs.length)) :
    (c1.take (k + cs.length) ++ D ++ c1.drop (k + cs.length + D.length)).take (k + cs.length + D.length) = row.take k ++ cs ++ D ∧ (c1.take (k + cs.length) ++ D ++ c1.drop (k + cs.length + D.length)).length = row.length ∧ c1.length = row.length := by
  have hA : (row.take k ++ cs).length = k + cs.length := by rw [List.length_append, List.length_take]; omega
  have hl : c1.length = row.length := by rw [h1, List.length_append, hA, List.length_drop]; omega
  have e1 : c1.take (k + cs.length) = row.take k ++ cs := by rw [h1]; exact List.take_left' hA
  refine ⟨?_, ?_, hl⟩
  · rw [e1]
    exact List.take_left' (by rw [List.length_append, hA])
  · rw [e1, List.length_append, List.length_append, hA, List.length_drop, hl]; omega
end
theorem prs_app2 (p q : List (ByteArray × Value)) : prs (p ++ q) = prs p ++ prs q := by unfold prs; rw [List.flatMap_append]
theorem prs_take : ∀ (ps : List (ByteArray × Value)) (i : Nat), prs (ps.take i) = (prs ps).take (i * 2)
  | [], i => by simp [prs]
  | p :: ps, 0 => rfl
  | p :: ps, i + 1 => by rw [List.take_succ_cons, prs_cons, prs_cons, prs_take ps i, show (i + 1) * 2 = i * 2 + 1 + 1 by omega]; rfl
theorem prs_drop : ∀ (ps : List (ByteArray × Value)) (i : Nat), prs (ps.drop i) = (prs ps).drop (i * 2)
  | [], i => by simp [prs]
  | p :: ps, 0 => rfl
  | p :: ps, i + 1 => by rw [List.drop_succ_cons, prs_cons, prs_drop ps i, show (i + 1) * 2 = i * 2 + 1 + 1 by omega]; rfl
theorem prs_ins (ps : List (ByteArray × Value)) (i : Nat) (p : ByteArray) (x : Value) : prs (ps.take i ++ (p, x) :: ps.drop i) = (prs ps).take (i * 2) ++ [.string p, x] ++ (prs ps).drop (i * 2) := by
  rw [prs_app2, prs_cons, prs_take, prs_drop]; simp

theorem sizeF (w : World) : (sizeOf (Tryd.prog.elem 28)).run Tryd.prog w = .ok 2 w := by kernel_rfl
theorem sizeF2 (w : World) : (sizeOf 33).run Tryd.prog w = .ok 2 w := by kernel_rfl
theorem slLo {g n c k q : Nat} {z : Int} (hz : z = (k : Int)) (hk : k ≤ n) (hc : k < c) (w : World) :
    (Instr.sliceAt 28 (.slice (some ⟨g, q, none⟩) n c) (some (.int .i64 z)) none none).run Tryd.prog w = .ok (.slice (some ⟨g, q + k * 2, none⟩) (n - k) (c - k)) w := by
  subst hz
  rw [run_sliceAt_slice _ _ _ _ _ _ rfl, run_slice_l _ _ _ _ _ rfl _ _ (by omega) (by omega), sizeF]
  simp only [Result.andThen, sliced, Int.toNat_natCast]
  rw [if_neg (by omega)]
  simp [Addr.add]
theorem slLoAny {a : Option Addr} {n c k : Nat} {z : Int} (hz : z = (k : Int)) (hk : k ≤ n) : ∃ a' n' c', ∀ (w : World),
    (Instr.sliceAt 28 (.slice a n c) (some (.int .i64 z)) none none).run Tryd.prog w = .ok (.slice a' n' c') w := by
  subst hz
  refine ⟨if c = k then a else a.map (·.add (k * 2)), n - k, c - k, fun w => ?_⟩
  rw [run_sliceAt_slice _ _ _ _ _ _ rfl, run_slice_l _ _ _ _ _ rfl _ _ (by omega) (by omega), sizeF]
  simp only [Result.andThen, sliced, Int.toNat_natCast]
theorem slHi {g n c k : Nat} {z : Int} (hz : z = (k : Int)) (hk : k ≤ c) (hc : 0 < c) (w : World) :
    (Instr.sliceAt 28 (.slice (some ⟨g, 0, none⟩) n c) none (some (.int .i64 z)) none).run Tryd.prog w = .ok (.slice (some ⟨g, 0, none⟩) k c) w := by
  subst hz
  rw [run_sliceAt_slice _ _ _ _ _ _ rfl, run_slice_h _ _ _ _ _ rfl _ _ (by omega) (by omega), sizeF]
  simp only [Result.andThen, sliced, Int.toNat_natCast]
  rw [if_neg (by omega)]
  simp [Addr.add]
theorem copyF (w : World) (dT sT ty : TypeId) (g o dLen dCap : Nat) (a : Addr) (sLen sCap : Nat) (cur : Array Value) (t : TypeId) (cs : List Value)
    (hu : Tryd.prog.underlying dT = some (.slice 33))
    (hg : w.heap[g]? = some (.cells cur t (0, 0))) (hn : cs.length = Nat.min sLen dLen * 2)
    (hsrc : ∀ j v, cs[j]? = some v → w.cell? (a.add j) = some v) (hfit : o + cs.length ≤ cur.size) (h1 : ∀ v ∈ cs, v.oneCell' = true) :
    (Builtin.copy_ #[dT, sT] ty #[.slice (some ⟨g, o, none⟩) dLen dCap, .slice (some a) sLen sCap]).run Tryd.prog w =
      .ok (goInt (Nat.min sLen dLen)) (w.setRow g (cur.toList.take o ++ cs ++ cur.toList.drop (o + cs.length)).toArray) := by
  have hl := run_loadCells_list (P := Tryd.prog) w a cs hsrc
  have hst := run_storeCells_at Tryd.prog g o t cs 0 cur w hg (by simpa using hfit) h1
  simp [Builtin.copy_, run_underlying hu, Builtin.lenOf, Builtin.firstCells, sizeF2, ← hn, hl, hst]
theorem exec_copy {P : Program} {o : Oper} {a : Act} {w w1 : World} {p q v : Value} (t u : TypeId) (x y : Operand) (ho : o.op = .call { callee := .builtin .copy, args := #[x, y], argTypes := #[t, u] }) (hx : a.eval x = p) (hy : a.eval y = q)
    (h : (Builtin.copy_ #[t, u] o.type #[p, q]).run P w = .ok v w1) : (execOp a.eval o).run P w = .ok (.value v) w1 := by
  unfold execOp
  simp only [ho, resolve, invoke, builtin, Sem.run_bind, Sem.run_pure, Result.andThen_ok]
  simp only [List.map_toArray, List.map_cons, List.map_nil, hx, hy, h, Result.andThen_ok]
theorem exec_append2 {P : Program} {o : Oper} {a : Act} {w w1 : World} {p q v : Value} (t u : TypeId) (x y : Operand) (ho : o.op = .call { callee := .builtin .append, args := #[x, y], argTypes := #[t, u] }) (hx : a.eval x = p) (hy : a.eval y = q)
    (h : (Builtin.append_ #[t, u] o.type #[p, q]).run P w = .ok v w1) : (execOp a.eval o).run P w = .ok (.value v) w1 := by
  unfold execOp
  simp only [ho, resolve, invoke, builtin, Sem.run_bind, Sem.run_pure, Result.andThen_ok]
  simp only [List.map_toArray, List.map_cons, List.map_nil, hx, hy, h, Result.andThen_ok]
theorem append_26 (ty : TypeId) (a : Option Addr) (n c : Nat) (x : Value) (w : World) : (Builtin.append_ #[28, 27] ty #[.slice a n c, x]).run Tryd.prog w = (Builtin.append_ #[28, 28] ty #[.slice a n c, x]).run Tryd.prog w := by
  simp [Builtin.append_, run_underlying Tryd.underlying28, run_underlying Tryd.underlying27]
theorem overlaps_no {w : World} {gb g : Nat} {c0 cur : Array Value} {t : TypeId} {la ca lb cb o : Nat} (hgb : w.heap[gb]? = some (.cells c0 t (0, 0))) (hg : w.heap[g]? = some (.cells cur t (0, 0))) (hne : gb ≠ g) (hc : cur.size ≠ 0) :
    (callFunc 70 #[.slice (some ⟨gb, 0, none⟩) la ca, .slice (some ⟨g, o, none⟩) lb cb]).run Tryd.prog w = .ok (.value (.bool false)) w := by
  rw [run_callFunc_extern (P := Tryd.prog) (f := 70) (fn := Tryd.f70) (by kernel_rfl) (by kernel_rfl) (by kernel_rfl) (by kernel_rfl) (e := Extern.SlicesOverlaps.overlaps #[27, 27] #[4]) (by kernel_rfl),
    Lib.run_overlaps_apart w 27 4 33 Tryd.underlying27 2 sizeF2 ⟨gb, 0, none⟩ ⟨g, o, none⟩ la ca lb cb hne t t c0.size cur.size (by simp [World.shape?, hgb]) (by simp [World.shape?, hg]) hc (by simp [World.frozen?, hgb]) (by simp [World.frozen?, hgb])]
  rfl
end Go.Proofs.YthachckofghppaaDoor
