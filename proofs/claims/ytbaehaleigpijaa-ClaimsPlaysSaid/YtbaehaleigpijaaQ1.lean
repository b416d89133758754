/- Laws at a region's operations: what each makes of a world, for values of many cells; a drawn region step by step under a condition. -/
import Derived.Test.YtbaehaleigpijaaQ0
namespace Go.Proofs.Ytbaehaleigpijaa
open Go.RowKit
set_option linter.unusedSimpArgs false
set_option linter.unusedVariables false

section
variable {P : Program} {o : Oper} {a : Act} {w w1 : World} {v p q : Value}
theorem exec_load (ty : TypeId) (x : Operand) (ho : o.op = .load ty x) (hx : a.eval x = p) (h : (Instr.loadAt ty p).run P w = .ok v w) : (execOp a.eval o).run P w = .ok (.value v) w := by
  unfold execOp; simp only [ho, hx, Sem.run_bind, h, Result.andThen_ok]; rfl
theorem exec_build (ty : TypeId) (x : Array (Nat × Operand)) (ho : o.op = .build ty x) {p : Array (Nat × Value)} (hx : (x.map fun (i, x) => (i, a.eval x)) = p)
    (h : (Instr.build ty p).run P w = .ok v w) : (execOp a.eval o).run P w = .ok (.value v) w := by
  unfold execOp; simp only [ho, hx, Sem.run_bind, h, Result.andThen_ok]; rfl
theorem exec_field (ty : TypeId) (x : Operand) (i : Nat) (ho : o.op = .field ty x i) (hx : a.eval x = p) (h : (Instr.field ty p i).run P w = .ok v w) : (execOp a.eval o).run P w = .ok (.value v) w := by
  unfold execOp; simp only [ho, hx, Sem.run_bind, h, Result.andThen_ok]; rfl
theorem exec_lookup (ty : TypeId) (x y : Operand) (ok : Bool) (ho : o.op = .lookup ty x y ok) (hx : a.eval x = p) (hy : a.eval y = q)
    (h : (Instr.lookup ty p q ok).run P w = .ok v w) : (execOp a.eval o).run P w = .ok (.value v) w := by
  unfold execOp; simp only [ho, hx, hy, Sem.run_bind, h, Result.andThen_ok]; rfl
theorem exec_buildSlice (ty : TypeId) (n : Nat) (x : Array (Nat × Operand)) (ho : o.op = .buildSlice ty n x) {p : Array (Nat × Value)} (hx : (x.map fun (i, x) => (i, a.eval x)) = p)
    (h : (Instr.buildSlice ty n p).run P w = .ok v w1) : (execOp a.eval o).run P w = .ok (.value v) w1 := by
  unfold execOp; simp only [ho, hx, Sem.run_bind, h, Result.andThen_ok]; rfl
theorem exec_alloc (ty : TypeId) (ho : o.op = .alloc ty) {z : Array Value} (hz : (zeroValue ty).run P w = .ok (.agg z) w) :
    (execOp a.eval o).run P w = .ok (.value (.pointer (some ⟨w.heap.size, 0, none⟩))) (w.alloc (.cells z ty)) := by
  unfold execOp; simp only [ho, Instr.alloc, Sem.run_bind, hz, Result.andThen_ok]; rfl
theorem exec_store (ty : TypeId) (x y : Operand) (ho : o.op = .store ty x y) (hx : a.eval x = p) (hy : a.eval y = q) (h : (Instr.storeAt ty p q).run P w = .ok () w1) :
    (execOp a.eval o).run P w = .ok .skip w1 := by
  unfold execOp; simp only [ho, hx, hy, Sem.run_bind, h, Result.andThen_ok]; rfl
theorem exec_mapUpdate (ty : TypeId) (x y z : Operand) (ho : o.op = .mapUpdate ty x y z) (hx : a.eval x = p) (hy : a.eval y = q) (hz : a.eval z = v) (h : (Instr.mapUpdate ty p q v).run P w = .ok () w1) :
    (execOp a.eval o).run P w = .ok .skip w1 := by
  unfold execOp; simp only [ho, hx, hy, hz, Sem.run_bind, h, Result.andThen_ok]; rfl
/-- A whole value into a block that has just been made for it. -/
theorem store_new {ty : TypeId} {c c' : Array Value} (hi : (P.info? ty).map (·.size) = some c'.size) (ho : c.size = c'.size) (h1 : c'.all (·.oneCell') = true) {w : World} {b : Nat} (hb : b = w.heap.size) :
    (Instr.storeAt ty (.pointer (some ⟨b, 0, none⟩)) (.agg c')).run P (w.alloc (.cells c ty)) = .ok () (w.alloc (.cells c' ty)) := by
  subst hb
  simp only [Instr.storeAt, Instr.sureAddr, Sem.run_bind, Sem.run_pure, Result.andThen_ok]
  rw [run_storeVar_new w ty c c' hi ho h1]
end

section
variable {P : Program} {ops : Array Oper} {rest : List Oper} {o : Oper} {a : Act} {w w1 : World} {Q : Exit → Act → World → Prop} {v p q : Value}
theorem wpl_val (hgd : o.guard = none) (hrun : (execOp a.eval o).run P w = .ok (.value v) w1) (h : wpList P ops Q rest (a.put o.dst v) w1) : wpList P ops Q (o :: rest) a w :=
  wpList_plain hgd fun K hK => by unfold Oper.wp; rw [hrun]; exact hK _ _ h
theorem wpl_skip (hgd : o.guard = none) (hrun : (execOp a.eval o).run P w = .ok .skip w1) (h : wpList P ops Q rest (a.put o.dst undef) w1) : wpList P ops Q (o :: rest) a w :=
  wpList_plain hgd fun K hK => by unfold Oper.wp; rw [hrun]; exact hK _ _ h
theorem wpl_load (ty : TypeId) (x : Operand) (hgd : o.guard = none) (ho : o.op = .load ty x) (hx : a.eval x = p) (hf : (Instr.loadAt ty p).run P w = .ok v w) (h : wpList P ops Q rest (a.put o.dst v) w) : wpList P ops Q (o :: rest) a w :=
  wpl_val hgd (exec_load ty x ho hx hf) h
theorem wpl_load_g (ty : TypeId) (x : Operand) (hw : Region.wanted o (yielded ops a.tmps) = true) (ho : o.op = .load ty x) (hx : a.eval x = p) (hf : (Instr.loadAt ty p).run P w = .ok v w) (h : wpList P ops Q rest (a.put o.dst v) w) : wpList P ops Q (o :: rest) a w :=
  wpList_step fun K hK => by rw [if_pos hw]; unfold Oper.wp; rw [exec_load ty x ho hx hf]; exact hK _ _ h
theorem wpl_build (ty : TypeId) (x : Array (Nat × Operand)) (hgd : o.guard = none) (ho : o.op = .build ty x) {p : Array (Nat × Value)} (hx : (x.map fun (i, x) => (i, a.eval x)) = p) (hf : (Instr.build ty p).run P w = .ok v w) (h : wpList P ops Q rest (a.put o.dst v) w) : wpList P ops Q (o :: rest) a w :=
  wpl_val hgd (exec_build ty x ho hx hf) h
theorem wpl_bslice (ty : TypeId) (n : Nat) (x : Array (Nat × Operand)) (hgd : o.guard = none) (ho : o.op = .buildSlice ty n x) {p : Array (Nat × Value)} (hx : (x.map fun (i, x) => (i, a.eval x)) = p) (hf : (Instr.buildSlice ty n p).run P w = .ok v w1) (h : wpList P ops Q rest (a.put o.dst v) w1) : wpList P ops Q (o :: rest) a w :=
  wpl_val hgd (exec_buildSlice ty n x ho hx hf) h
theorem wpl_alloc (ty : TypeId) (hgd : o.guard = none) (ho : o.op = .alloc ty) {z : Array Value} (hz : (zeroValue ty).run P w = .ok (.agg z) w) (h : wpList P ops Q rest (a.put o.dst (.pointer (some ⟨w.heap.size, 0, none⟩))) (w.alloc (.cells z ty))) : wpList P ops Q (o :: rest) a w :=
  wpl_val hgd (exec_alloc ty ho hz) h
theorem wpl_store (ty : TypeId) (x y : Operand) (hgd : o.guard = none) (ho : o.op = .store ty x y) (hx : a.eval x = p) (hy : a.eval y = q) (hf : (Instr.storeAt ty p q).run P w = .ok () w1) (h : wpList P ops Q rest (a.put o.dst undef) w1) : wpList P ops Q (o :: rest) a w :=
  wpl_skip hgd (exec_store ty x y ho hx hy hf) h
end

theorem exec_delete {P : Program} {o : Oper} {a : Act} {w w1 : World} {p q v : Value} (tm tk : TypeId) (x y : Operand) (ho : o.op = .call { callee := .builtin .delete, args := #[x, y], argTypes := #[tm, tk] }) (hx : a.eval x = p) (hy : a.eval y = q)
    (h : (Builtin.delete_ #[tm, tk] o.type #[p, q]).run P w = .ok v w1) : (execOp a.eval o).run P w = .ok (.value v) w1 := by
  unfold execOp
  simp only [ho, resolve, invoke, builtin, Sem.run_bind, Sem.run_pure, Result.andThen_ok]
  simp only [List.map_toArray, List.map_cons, List.map_nil, hx, hy, h, Result.andThen_ok]

section
variable {P : Program} {ops : Array Oper} {Q : Exit → Act → World → Prop} {md : Region.Mode} {S : World → Prop}
theorem held_q {i : Nat} {oi : Oper} {v : Value} {fuel : Nat} {listed : Array Bool} {a : Act} {w : World} (hi : ops[i]? = some oi)
    (hs : Region.noSelect ops = true) (hf : Region.free md ops listed i = true) (hr : (Region.ready md ops listed).contains i = true)
    (hQ : ∀ c a w, Q (.panic c) (a.put oi.dst v) w → Q (.panic c) a w) (hw : Region.wanted oi (yielded ops a.tmps) = true) (hS : S w)
    (hy : ∀ w, S w → (execOp a.eval oi).run P w = .ok (.value v) w)
    (h : wpAnyH P md ops Q S fuel (listed.setIfInBounds i true) (a.put oi.dst v) w) : wpAnyH P md ops Q S (fuel + 1) listed a w :=
  wpAnyH_take hi hs hf hr hQ (.inl ⟨hw, hy⟩) hS h
theorem held_no {i : Nat} {oi : Oper} {fuel : Nat} {listed : Array Bool} {a : Act} {w : World} (hi : ops[i]? = some oi)
    (hs : Region.noSelect ops = true) (hf : Region.free md ops listed i = true) (hr : (Region.ready md ops listed).contains i = true)
    (hQ : ∀ c a w, Q (.panic c) (a.put oi.dst undef) w → Q (.panic c) a w) (hw : Region.wanted oi (yielded ops a.tmps) = false) (hS : S w)
    (h : wpAnyH P md ops Q S fuel (listed.setIfInBounds i true) (a.put oi.dst undef) w) : wpAnyH P md ops Q S (fuel + 1) listed a w :=
  wpAnyH_take hi hs hf hr hQ (.inr ⟨hw, rfl⟩) hS h
theorem held_v {i : Nat} {o : Oper} {v : Value} {fuel : Nat} {listed : Array Bool} {a : Act} {w w1 : World} (hr : Region.ready md ops listed = [i]) (ho : ops[i]? = some o)
    (hw : Region.wanted o (yielded ops a.tmps) = true) (hrun : (execOp a.eval o).run P w = .ok (.value v) w1) (hS : S w1)
    (h : S w1 → wpAnyH P md ops Q S fuel (listed.setIfInBounds i true) (a.put o.dst v) w1) : wpAnyH P md ops Q S (fuel + 1) listed a w := by
  refine wpAnyH_ready hr (by simp) (AllReadyH.cons ho (fun K hK => ?_) AllReadyH.nil)
  rw [if_pos hw]
  unfold Oper.wp
  rw [hrun]
  exact hK.out _ _ hS h
theorem held_s {i : Nat} {o : Oper} {fuel : Nat} {listed : Array Bool} {a : Act} {w w1 : World} (hr : Region.ready md ops listed = [i]) (ho : ops[i]? = some o)
    (hw : Region.wanted o (yielded ops a.tmps) = true) (hrun : (execOp a.eval o).run P w = .ok .skip w1) (hS : S w1)
    (h : S w1 → wpAnyH P md ops Q S fuel (listed.setIfInBounds i true) (a.put o.dst undef) w1) : wpAnyH P md ops Q S (fuel + 1) listed a w := by
  refine wpAnyH_ready hr (by simp) (AllReadyH.cons ho (fun K hK => ?_) AllReadyH.nil)
  rw [if_pos hw]
  unfold Oper.wp
  rw [hrun]
  exact hK.out _ _ hS h
theorem held_two {i j : Nat} {oi oj : Oper} {vi vj : Value} {fuel : Nat} {listed : Array Bool} {a : Act} {w wi wj : World} (hr : Region.ready md ops listed = [i, j]) (hi : ops[i]? = some oi) (hj : ops[j]? = some oj)
    (hwi : Region.wanted oi (yielded ops a.tmps) = true) (hwj : Region.wanted oj (yielded ops a.tmps) = true)
    (hruni : (execOp a.eval oi).run P w = .ok (.value vi) wi) (hrunj : (execOp a.eval oj).run P w = .ok (.value vj) wj) (hSi : S wi) (hSj : S wj)
    (h1 : S wi → wpAnyH P md ops Q S fuel (listed.setIfInBounds i true) (a.put oi.dst vi) wi)
    (h2 : S wj → wpAnyH P md ops Q S fuel (listed.setIfInBounds j true) (a.put oj.dst vj) wj) : wpAnyH P md ops Q S (fuel + 1) listed a w := by
  refine wpAnyH_ready hr (by simp) (AllReadyH.cons hi (fun K hK => ?_) (AllReadyH.cons hj (fun K hK => ?_) AllReadyH.nil))
  · rw [if_pos hwi]; unfold Oper.wp; rw [hruni]; exact hK.out _ _ hSi h1
  · rw [if_pos hwj]; unfold Oper.wp; rw [hrunj]; exact hK.out _ _ hSj h2
end
/-- A whole value into a whole block. -/
theorem store_row {P : Program} {t ty : TypeId} {c c' : Array Value} {w : World} {b : Nat} (hb : w.heap[b]? = some (.cells c t (0, 0))) (hi : (P.info? ty).map (·.size) = some c'.size) (ho : c.size = c'.size) (h1 : c'.all (·.oneCell') = true) :
    (Instr.storeAt ty (.pointer (some ⟨b, 0, none⟩)) (.agg c')).run P w = .ok () (w.setRow b c') := by
  simp only [Instr.storeAt, Instr.sureAddr, Sem.run_bind, Sem.run_pure, Result.andThen_ok]
  rw [run_storeVar_row w b t ty c c' hb hi ho h1]
theorem Kept.setRow {S : Nat → Prop} {a w : World} (h : Kept S a w) {b : Nat} (hb : b < a.heap.size → S b) (c : Array Value) : Kept S a (w.setRow b c) :=
  ⟨h.os, h.tape, h.output, by simpa [World.setRow] using h.size, fun k hk hs => by
    rw [setRow_other _ _ _ _ (fun e => by subst e; exact hs (hb hk))]; exact h.block k hk hs⟩
theorem load_mid {P : Program} {t ty : TypeId} {d : TypeDesc} (hu : P.underlying ty = some d) (hd : d.isRow = true) {w : World} {b : Nat} {D R : Array Value} {fr : Nat × Nat} (h : w.heap[b]? = some (.cells (D ++ R) t fr))
    (hi : (P.info? ty).map (·.size) = some D.size) : (Instr.loadAt ty (.pointer (some ⟨b, 0, none⟩))).run P w = .ok (.agg D) w := by
  have := run_loadAt_mid (P := P) w b 0 ty D.toList d (fun j v hv => by
    rw [Nat.zero_add, cell_of_row _ _ _ _ _ _ h]
    have hj : j < D.size := by simpa using (List.getElem?_eq_some_iff.1 hv).1
    rw [Array.getElem?_append_left hj]; simpa using hv) hu hd (by simpa using hi)
  simpa using this
end Go.Proofs.Ytbaehaleigpijaa
