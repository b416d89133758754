/- What a call keeps of memory; laws at a region's operations. -/
import Derived.WalkKit
import Derived.WalkSpells
import Derived.WalkLawsBesides
import Derived.Deep.QuietTactic
import Derived.BigQuiet
import Derived.RegionTactic
import Derived.Outline
import Derived.Lib.Hide
import Derived.IntWalk
import Derived.Deep.RegionHeld3
import Derived.Deep.MidRow
import Derived.Deep.WholeRow
import Derived.Test.YthachckofghppaaDoorRows
namespace Go.Proofs.YthachckofghppaaDoor
open Go.RowKit
set_option maxRecDepth 100000
set_option linter.unusedSimpArgs false
set_option linter.unusedVariables false

/-- Of what was there only the blocks in S may have turned. -/
structure Kept (S : Nat → Prop) (w w' : World) : Prop where
  os : w'.os = w.os
  tape : w'.tape = w.tape
  output : w'.output = w.output
  size : w.heap.size ≤ w'.heap.size
  block : ∀ k, k < w.heap.size → ¬ S k → w'.heap[k]? = w.heap[k]?

theorem Kept.refl (S : Nat → Prop) (w : World) : Kept S w w := ⟨rfl, rfl, rfl, Nat.le_refl _, fun _ _ _ => rfl⟩
theorem Kept.trans {S : Nat → Prop} {a b c : World} (h : Kept S a b) (k : Kept S b c) : Kept S a c :=
  ⟨k.os.trans h.os, k.tape.trans h.tape, k.output.trans h.output, Nat.le_trans h.size k.size,
    fun i hi hs => (k.block i (Nat.lt_of_lt_of_le hi h.size) hs).trans (h.block i hi hs)⟩
theorem Kept.mono {S T : Nat → Prop} {a b : World} (h : Kept S a b) (hT : ∀ k, k < a.heap.size → S k → T k) : Kept T a b :=
  ⟨h.os, h.tape, h.output, h.size, fun i hi hs => h.block i hi (fun hk => hs (hT i hi hk))⟩
/-- The later call may write what the earlier one had not yet made. -/
theorem Kept.trans' {S T : Nat → Prop} {a b c : World} (h : Kept S a b) (k : Kept T b c) (hT : ∀ k, k < a.heap.size → T k → S k) : Kept S a c :=
  ⟨k.os.trans h.os, k.tape.trans h.tape, k.output.trans h.output, Nat.le_trans h.size k.size,
    fun i hi hs => (k.block i (Nat.lt_of_lt_of_le hi h.size) (fun ht => hs (hT i hi ht))).trans (h.block i hi hs)⟩
theorem Kept.drew {S : Nat → Prop} {a w : World} (h : Kept S a w) : Kept S a w.drew := ⟨h.os, h.tape, h.output, h.size, h.block⟩
theorem Kept.drewN {S : Nat → Prop} {a w : World} (h : Kept S a w) (n : Nat) : Kept S a (w.drewN n) := ⟨h.os, h.tape, h.output, h.size, h.block⟩
theorem Kept.alloc {S : Nat → Prop} {a w : World} (h : Kept S a w) (o : Obj) : Kept S a (w.alloc o) :=
  h.trans ⟨rfl, rfl, rfl, by simp, fun k hk _ => Below.heap_alloc _ _ _ hk⟩
theorem Kept.setCell {S : Nat → Prop} {a w : World} (h : Kept S a w) {p : Addr} (hp : p.block < a.heap.size → S p.block) (u : Value) : Kept S a (w.setCell p u) :=
  ⟨h.os, h.tape, h.output, by simpa [World.setCell] using h.size, fun k hk hs => by
    rw [Below.heap_setCell _ _ _ _ (fun e => by subst e; exact hs (hp hk))]; exact h.block k hk hs⟩
theorem Kept.below {S : Nat → Prop} {B : Nat} {w w' : World} (h : Kept S w w') (hB : B ≤ w.heap.size) (hS : ∀ k, S k → B ≤ k) : Below B w w' :=
  ⟨h.os, h.tape, h.output, h.size, fun k hk => h.block k (by omega) (fun hs => by have := hS k hs; omega)⟩
theorem Kept.of_below {B : Nat} {w w' : World} (h : Below B w w') (hB : w.heap.size ≤ B) (S : Nat → Prop) : Kept S w w' :=
  ⟨h.os, h.tape, h.output, h.size, fun k hk _ => h.block k (by omega)⟩
theorem Kept.cell {S : Nat → Prop} {w w' : World} (h : Kept S w w') {p : Addr} (hp : p.block < w.heap.size) (hS : ¬ S p.block) : w'.cell? p = w.cell? p :=
  World.cell?_of_block (w := w) (h.block p.block hp hS)
theorem Kept.frozen {S : Nat → Prop} {w w' : World} (h : Kept S w w') {p : Addr} (hp : p.block < w.heap.size) (hS : ¬ S p.block) : w'.frozen? p = w.frozen? p :=
  World.frozen?_of_block (w := w) (h.block p.block hp hS)

/-- Nothing but draws. -/
def Drawn (w w' : World) : Prop := ∃ n, w' = w.drewN n
theorem Drawn.refl (w : World) : Drawn w w := ⟨0, rfl⟩
theorem Drawn.drewN {w w' : World} (h : Drawn w w') (n : Nat) : Drawn w (w'.drewN n) := by
  obtain ⟨m, rfl⟩ := h
  exact ⟨m + n, by simp [World.drewN, Nat.add_assoc]⟩
theorem Drawn.drew {w w' : World} (h : Drawn w w') : Drawn w w'.drew := h.drewN 1
theorem Drawn.heap {w w' : World} (h : Drawn w w') : w'.heap = w.heap := by obtain ⟨m, rfl⟩ := h; rfl
theorem Drawn.cell {w w' : World} (h : Drawn w w') (a : Addr) : w'.cell? a = w.cell? a := by obtain ⟨m, rfl⟩ := h; rfl
theorem Drawn.kept {S : Nat → Prop} {w w' : World} (h : Drawn w w') : Kept S w w' := by obtain ⟨m, rfl⟩ := h; exact (Kept.refl S w).drewN m

theorem heap_setCell_same {w : World} {b j : Nat} {C : Array Value} {t : TypeId} {fr : Nat × Nat} (h : w.heap[b]? = some (.cells C t fr)) (v : Value) :
    (w.setCell ⟨b, j, none⟩ v).heap[b]? = some (.cells (C.setIfInBounds j v) t fr) := by
  simp [World.setCell, Array.getElem?_modify, h]


theorem load_row {P : Program} {t ty : TypeId} {d : TypeDesc} (hu : P.underlying ty = some d) (hd : d.isRow = true) {w : World} {b : Nat} {D : Array Value} {fr : Nat × Nat} (h : w.heap[b]? = some (.cells D t fr))
    (hi : (P.info? ty).map (·.size) = some D.size) : (Instr.loadAt ty (.pointer (some ⟨b, 0, none⟩))).run P w = .ok (.agg D) w := by
  simp only [Instr.loadAt, Instr.sureAddr, Sem.run_bind, Sem.run_pure, Result.andThen_ok]
  rw [run_loadVar_row w b t ty D fr d h hu (by cases d <;> simp_all) hi]
theorem heap_last (w : World) (o : Obj) : (w.alloc o).heap[w.heap.size]? = some o := heap_alloc_last w o
theorem heap_at {w : World} {o : Obj} {k : Nat} (h : k = w.heap.size) : (w.alloc o).heap[k]? = some o := by subst h; exact heap_last w o

theorem quiet_of_run {P : Program} {o : Oper} {a : Act} {w : World} {v : Value} {K : Act → Prop} (h : ∀ n, (execOp a.eval o).run P (w.drewN n) = .ok (.value v) (w.drewN n)) (hk : K (a.put o.dst v)) :
    o.quiet P a (fun w' => ∃ n, w' = w.drewN n) K :=
  ⟨v, fun w' ⟨n, hw⟩ => by subst hw; unfold Oper.quietAt; rw [h n]; exact ⟨rfl, rfl⟩, hk⟩
theorem quiet_load {P : Program} {o : Oper} {a : Act} {w : World} {v : Value} {K : Act → Prop} (ty : TypeId) (x : Operand) (ho : o.op = .load ty x) (p : Value) (hx : a.eval x = p)
    (h : ∀ n, (Instr.loadAt ty p).run P (w.drewN n) = .ok v (w.drewN n)) (hk : K (a.put o.dst v)) : o.quiet P a (fun w' => ∃ n, w' = w.drewN n) K :=
  quiet_of_run (fun n => by unfold execOp; simp only [ho, hx, Sem.run_bind, h n, Result.andThen_ok]; rfl) hk
theorem quiet_build {P : Program} {o : Oper} {a : Act} {w : World} {v : Value} {K : Act → Prop} (ty : TypeId) (x : Array (Nat × Operand)) (ho : o.op = .build ty x) (p : Array (Nat × Value)) (hx : (x.map fun (i, x) => (i, a.eval x)) = p)
    (h : ∀ w, (Instr.build ty p).run P w = .ok v w) (hk : K (a.put o.dst v)) : o.quiet P a (fun w' => ∃ n, w' = w.drewN n) K :=
  quiet_of_run (fun n => by unfold execOp; simp only [ho, hx, Sem.run_bind, h _, Result.andThen_ok]; rfl) hk
theorem quiet_lookup {P : Program} {o : Oper} {a : Act} {w : World} {v : Value} {K : Act → Prop} (ty : TypeId) (x y : Operand) (ok : Bool) (ho : o.op = .lookup ty x y ok) (m k : Value) (hx : a.eval x = m) (hy : a.eval y = k)
    (h : ∀ n, (Instr.lookup ty m k ok).run P (w.drewN n) = .ok v (w.drewN n)) (hk : K (a.put o.dst v)) : o.quiet P a (fun w' => ∃ n, w' = w.drewN n) K :=
  quiet_of_run (fun n => by unfold execOp; simp only [ho, hx, hy, Sem.run_bind, h n, Result.andThen_ok]; rfl) hk

section
variable {P : Program} {o : Oper} {a : Act} {w w1 : World} {v p q : Value}
theorem exec_load (ty : TypeId) (x : Operand) (ho : o.op = .load ty x) (hx : a.eval x = p) (h : (Instr.loadAt ty p).run P w = .ok v w) : (execOp a.eval o).run P w = .ok (.value v) w := by
  unfold execOp; simp only [ho, hx, Sem.run_bind, h, Result.andThen_ok]; rfl
theorem exec_build (ty : TypeId) (x : Array (Nat × Operand)) (ho : o.op = .build ty x) {p : Array (Nat × Value)} (hx : (x.map fun (i, x) => (i, a.eval x)) = p)
    (h : (Instr.build ty p).run P w = .ok v w) : (execOp a.eval o).run P w = .ok (.value v) w := by
  unfold execOp; simp only [ho, hx, Sem.run_bind, h, Result.andThen_ok]; rfl
theorem exec_field (ty : TypeId) (x : Operand) (i : Nat) (ho : o.op = .field ty x i) (hx : a.eval x = p) (h : (Instr.field ty p i).run P w = .ok v w) : (execOp a.eval o).run P w = .ok (.value v) w := by
  unfold execOp; simp only [ho, hx, Sem.run_bind, h, Result.andThen_ok]; rfl
theorem exec_lookup (ty : TypeId) (x y : Operand) (ok : Bool) (ho : o.op = .lookup ty x y ok) (hx : a.eval x = p) (hy : a.eval y = q)
    (h : (Instr.lookup ty p q ok).run P w = .ok v w) : (execOp a.eval o).run P w = .ok (.value v) w := by
  unfold execOp; simp only [ho, hx, hy, Sem.run_bind, h, Result.andThen_ok]; rfl
theorem exec_buildSlice (ty : TypeId) (n : Nat) (x : Array (Nat × Operand)) (ho : o.op = .buildSlice ty n x) {p : Array (Nat × Value)} (hx : (x.map fun (i, x) => (i, a.eval x)) = p)
    (h : (Instr.buildSlice ty n p).run P w = .ok v w1) : (execOp a.eval o).run P w = .ok (.value v) w1 := by
  unfold execOp; simp only [ho, hx, Sem.run_bind, h, Result.andThen_ok]; rfl
theorem exec_alloc (ty : TypeId) (ho : o.op = .alloc ty) {z : Array Value} (hz : (zeroValue ty).run P w = .ok (.agg z) w) :
    (execOp a.eval o).run P w = .ok (.value (.pointer (some ⟨w.heap.size, 0, none⟩))) (w.alloc (.cells z ty)) := by
  unfold execOp; simp only [ho, Instr.alloc, Sem.run_bind, hz, Result.andThen_ok]; rfl
theorem exec_store (ty : TypeId) (x y : Operand) (ho : o.op = .store ty x y) (hx : a.eval x = p) (hy : a.eval y = q) (h : (Instr.storeAt ty p q).run P w = .ok () w1) :
    (execOp a.eval o).run P w = .ok .skip w1 := by
  unfold execOp; simp only [ho, hx, hy, Sem.run_bind, h, Result.andThen_ok]; rfl
theorem exec_mapUpdate (ty : TypeId) (x y z : Operand) (ho : o.op = .mapUpdate ty x y z) (hx : a.eval x = p) (hy : a.eval y = q) (hz : a.eval z = v) (h : (Instr.mapUpdate ty p q v).run P w = .ok () w1) :
    (execOp a.eval o).run P w = .ok .skip w1 := by
  unfold execOp; simp only [ho, hx, hy, hz, Sem.run_bind, h, Result.andThen_ok]; rfl
/-- A whole value into a block that has just been made for it. -/
theorem store_new {ty : TypeId} {c c' : Array Value} (hi : (P.info? ty).map (·.size) = some c'.size) (ho : c.size = c'.size) (h1 : c'.all (·.oneCell') = true) {w : World} {b : Nat} (hb : b = w.heap.size) :
    (Instr.storeAt ty (.pointer (some ⟨b, 0, none⟩)) (.agg c')).run P (w.alloc (.cells c ty)) = .ok () (w.alloc (.cells c' ty)) := by
  subst hb
  simp only [Instr.storeAt, Instr.sureAddr, Sem.run_bind, Sem.run_pure, Result.andThen_ok]
  rw [run_storeVar_new w ty c c' hi ho h1]
end

section
variable {P : Program} {ops : Array Oper} {rest : List Oper} {o : Oper} {a : Act} {w w1 : World} {Q : Exit → Act → World → Prop} {v p q : Value}
theorem wpl_val (hgd : o.guard = none) (hrun : (execOp a.eval o).run P w = .ok (.value v) w1) (h : wpList P ops Q rest (a.put o.dst v) w1) : wpList P ops Q (o :: rest) a w :=
  wpList_plain hgd fun K hK => by unfold Oper.wp; rw [hrun]; exact hK _ _ h
theorem wpl_skip (hgd : o.guard = none) (hrun : (execOp a.eval o).run P w = .ok .skip w1) (h : wpList P ops Q rest (a.put o.dst undef) w1) : wpList P ops Q (o :: rest) a w :=
  wpList_plain hgd fun K hK => by unfold Oper.wp; rw [hrun]; exact hK _ _ h
theorem wpl_load (ty : TypeId) (x : Operand) (hgd : o.guard = none) (ho : o.op = .load ty x) (hx : a.eval x = p) (hf : (Instr.loadAt ty p).run P w = .ok v w) (h : wpList P ops Q rest (a.put o.dst v) w) : wpList P ops Q (o :: rest) a w :=
  wpl_val hgd (exec_load ty x ho hx hf) h
theorem wpl_load_g (ty : TypeId) (x : Operand) (hw : Region.wanted o (yielded ops a.tmps) = true) (ho : o.op = .load ty x) (hx : a.eval x = p) (hf : (Instr.loadAt ty p).run P w = .ok v w) (h : wpList P ops Q rest (a.put o.dst v) w) : wpList P ops Q (o :: rest) a w :=
  wpList_step fun K hK => by rw [if_pos hw]; unfold Oper.wp; rw [exec_load ty x ho hx hf]; exact hK _ _ h
theorem wpl_build (ty : TypeId) (x : Array (Nat × Operand)) (hgd : o.guard = none) (ho : o.op = .build ty x) {p : Array (Nat × Value)} (hx : (x.map fun (i, x) => (i, a.eval x)) = p) (hf : (Instr.build ty p).run P w = .ok v w) (h : wpList P ops Q rest (a.put o.dst v) w) : wpList P ops Q (o :: rest) a w :=
  wpl_val hgd (exec_build ty x ho hx hf) h
theorem wpl_bslice (ty : TypeId) (n : Nat) (x : Array (Nat × Operand)) (hgd : o.guard = none) (ho : o.op = .buildSlice ty n x) {p : Array (Nat × Value)} (hx : (x.map fun (i, x) => (i, a.eval x)) = p) (hf : (Instr.buildSlice ty n p).run P w = .ok v w1) (h : wpList P ops Q rest (a.put o.dst v) w1) : wpList P ops Q (o :: rest) a w :=
  wpl_val hgd (exec_buildSlice ty n x ho hx hf) h
theorem wpl_alloc (ty : TypeId) (hgd : o.guard = none) (ho : o.op = .alloc ty) {z : Array Value} (hz : (zeroValue ty).run P w = .ok (.agg z) w) (h : wpList P ops Q rest (a.put o.dst (.pointer (some ⟨w.heap.size, 0, none⟩))) (w.alloc (.cells z ty))) : wpList P ops Q (o :: rest) a w :=
  wpl_val hgd (exec_alloc ty ho hz) h
theorem wpl_store (ty : TypeId) (x y : Operand) (hgd : o.guard = none) (ho : o.op = .store ty x y) (hx : a.eval x = p) (hy : a.eval y = q) (hf : (Instr.storeAt ty p q).run P w = .ok () w1) (h : wpList P ops Q rest (a.put o.dst undef) w1) : wpList P ops Q (o :: rest) a w :=
  wpl_skip hgd (exec_store ty x y ho hx hy hf) h
end

theorem exec_delete {P : Program} {o : Oper} {a : Act} {w w1 : World} {p q v : Value} (tm tk : TypeId) (x y : Operand) (ho : o.op = .call { callee := .builtin .delete, args := #[x, y], argTypes := #[tm, tk] }) (hx : a.eval x = p) (hy : a.eval y = q)
    (h : (Builtin.delete_ #[tm, tk] o.type #[p, q]).run P w = .ok v w1) : (execOp a.eval o).run P w = .ok (.value v) w1 := by
  unfold execOp
  simp only [ho, resolve, invoke, builtin, Sem.run_bind, Sem.run_pure, Result.andThen_ok]
  simp only [List.map_toArray, List.map_cons, List.map_nil, hx, hy, h, Result.andThen_ok]

section
variable {P : Program} {ops : Array Oper} {Q : Exit → Act → World → Prop} {md : Region.Mode} {S : World → Prop}
theorem held_q {i : Nat} {oi : Oper} {v : Value} {fuel : Nat} {listed : Array Bool} {a : Act} {w : World} (hi : ops[i]? = some oi)
    (hs : Region.noSelect ops = true) (hf : Region.free md ops listed i = true) (hr : (Region.ready md ops listed).contains i = true)
    (hQ : ∀ c a w, Q (.panic c) (a.put oi.dst v) w → Q (.panic c) a w) (hw : Region.wanted oi (yielded ops a.tmps) = true) (hS : S w)
    (hy : ∀ w, S w → (execOp a.eval oi).run P w = .ok (.value v) w)
    (h : wpAnyH P md ops Q S fuel (listed.setIfInBounds i true) (a.put oi.dst v) w) : wpAnyH P md ops Q S (fuel + 1) listed a w :=
  wpAnyH_take hi hs hf hr hQ (.inl ⟨hw, hy⟩) hS h
theorem held_no {i : Nat} {oi : Oper} {fuel : Nat} {listed : Array Bool} {a : Act} {w : World} (hi : ops[i]? = some oi)
    (hs : Region.noSelect ops = true) (hf : Region.free md ops listed i = true) (hr : (Region.ready md ops listed).contains i = true)
    (hQ : ∀ c a w, Q (.panic c) (a.put oi.dst undef) w → Q (.panic c) a w) (hw : Region.wanted oi (yielded ops a.tmps) = false) (hS : S w)
    (h : wpAnyH P md ops Q S fuel (listed.setIfInBounds i true) (a.put oi.dst undef) w) : wpAnyH P md ops Q S (fuel + 1) listed a w :=
  wpAnyH_take hi hs hf hr hQ (.inr ⟨hw, rfl⟩) hS h
theorem held_v {i : Nat} {o : Oper} {v : Value} {fuel : Nat} {listed : Array Bool} {a : Act} {w w1 : World} (hr : Region.ready md ops listed = [i]) (ho : ops[i]? = some o)
    (hw : Region.wanted o (yielded ops a.tmps) = true) (hrun : (execOp a.eval o).run P w = .ok (.value v) w1) (hS : S w1)
    (h : S w1 → wpAnyH P md ops Q S fuel (listed.setIfInBounds i true) (a.put o.dst v) w1) : wpAnyH P md ops Q S (fuel + 1) listed a w := by
  refine wpAnyH_ready hr (by simp) (AllReadyH.cons ho (fun K hK => ?_) AllReadyH.nil)
  rw [if_pos hw]
  unfold Oper.wp
  rw [hrun]
  exact hK.out _ _ hS h
theorem held_s {i : Nat} {o : Oper} {fuel : Nat} {listed : Array Bool} {a : Act} {w w1 : World} (hr : Region.ready md ops listed = [i]) (ho : ops[i]? = some o)
    (hw : Region.wanted o (yielded ops a.tmps) = true) (hrun : (execOp a.eval o).run P w = .ok .skip w1) (hS : S w1)
    (h : S w1 → wpAnyH P md ops Q S fuel (listed.setIfInBounds i true) (a.put o.dst undef) w1) : wpAnyH P md ops Q S (fuel + 1) listed a w := by
  refine wpAnyH_ready hr (by simp) (AllReadyH.cons ho (fun K hK => ?_) AllReadyH.nil)
  rw [if_pos hw]
  unfold Oper.wp
  rw [hrun]
  exact hK.out _ _ hS h
theorem held_two {i j : Nat} {oi oj : Oper} {vi vj : Value} {fuel : Nat} {listed : Array Bool} {a : Act} {w wi wj : World} (hr : Region.ready md ops listed = [i, j]) (hi : ops[i]? = some oi) (hj : ops[j]? = some oj)
    (hwi : Region.wanted oi (yielded ops a.tmps) = true) (hwj : Region.wanted oj (yielded ops a.tmps) = true)
    (hruni : (execOp a.eval oi).run P w = .ok (.value vi) wi) (hrunj : (execOp a.eval oj).run P w = .ok (.value vj) wj) (hSi : S wi) (hSj : S wj)
    (h1 : S wi → wpAnyH P md ops Q S fuel (listed.setIfInBounds i true) (a.put oi.dst vi) wi)
    (h2 : S wj → wpAnyH P md ops Q S fuel (listed.setIfInBounds j true) (a.put oj.dst vj) wj) : wpAnyH P md ops Q S (fuel + 1) listed a w := by
  refine wpAnyH_ready hr (by simp) (AllReadyH.cons hi (fun K hK => ?_) (AllReadyH.cons hj (fun K hK => ?_) AllReadyH.nil))
  · rw [if_pos hwi]; unfold Oper.wp; rw [hruni]; exact hK.out _ _ hSi h1
  · rw [if_pos hwj]; unfold Oper.wp; rw [hrunj]; exact hK.out _ _ hSj h2
end
/-- A whole value into a whole block. -/
theorem store_row {P : Program} {t ty : TypeId} {c c' : Array Value} {w : World} {b : Nat} (hb : w.heap[b]? = some (.cells c t (0, 0))) (hi : (P.info? ty).map (·.size) = some c'.size) (ho : c.size = c'.size) (h1 : c'.all (·.oneCell') = true) :
    (Instr.storeAt ty (.pointer (some ⟨b, 0, none⟩)) (.agg c')).run P w = .ok () (w.setRow b c') := by
  simp only [Instr.storeAt, Instr.sureAddr, Sem.run_bind, Sem.run_pure, Result.andThen_ok]
  rw [run_storeVar_row w b t ty c c' hb hi ho h1]
theorem Kept.setRow {S : Nat → Prop} {a w : World} (h : Kept S a w) {b : Nat} (hb : b < a.heap.size → S b) (c : Array Value) : Kept S a (w.setRow b c) :=
  ⟨h.os, h.tape, h.output, by simpa [World.setRow] using h.size, fun k hk hs => by
    rw [setRow_other _ _ _ _ (fun e => by subst e; exact hs (hb hk))]; exact h.block k hk hs⟩
theorem load_mid {P : Program} {t ty : TypeId} {d : TypeDesc} (hu : P.underlying ty = some d) (hd : d.isRow = true) {w : World} {b : Nat} {D R : Array Value} {fr : Nat × Nat} (h : w.heap[b]? = some (.cells (D ++ R) t fr))
    (hi : (P.info? ty).map (·.size) = some D.size) : (Instr.loadAt ty (.pointer (some ⟨b, 0, none⟩))).run P w = .ok (.agg D) w := by
  have := run_loadAt_mid (P := P) w b 0 ty D.toList d (fun j v hv => by
    rw [Nat.zero_add, cell_of_row _ _ _ _ _ _ h]
    have hj : j < D.size := by simpa using (List.getElem?_eq_some_iff.1 hv).1
    rw [Array.getElem?_append_left hj]; simpa using hv) hu hd (by simpa using hi)
  simpa using this

section
variable {P : Program} {ops : Array Oper} {Q : Exit → Act → World → Prop} {md : Region.Mode} {S : World → Prop}
theorem held_c {i : Nat} {o : Oper} {f : FuncId} {args : Array Value} {fuel : Nat} {listed : Array Bool} {a : Act} {w : World} (hr : Region.ready md ops listed = [i]) (ho : ops[i]? = some o)
    (hw : Region.wanted o (yielded ops a.tmps) = true) (hrun : (execOp a.eval o).run P w = .ok (.enter f args) w) {R : Ending → World → Prop} (hc : Calls P f args w R)
    (h : ∀ e w', R e w' → ∃ v, e = .returned v ∧ S w' ∧ wpAnyH P md ops Q S fuel (listed.setIfInBounds i true) (a.put o.dst v) w') : wpAnyH P md ops Q S (fuel + 1) listed a w := by
  refine wpAnyH_ready hr (by simp) (AllReadyH.cons ho (fun K hK => ?_) AllReadyH.nil)
  rw [if_pos hw]
  unfold Oper.wp
  rw [hrun]
  refine hc.mono fun e w' hR => ?_
  obtain ⟨v, rfl, hS, hn⟩ := h e w' hR
  exact hK.out _ _ hS (fun _ => hn)
end

theorem heap_setCells {b : Nat} {t : TypeId} {fr : Nat × Nat} : ∀ (l A X R : List Value) (w : World), X.length = l.length → w.heap[b]? = some (.cells (A ++ X ++ R).toArray t fr) →
    (w.setCells b A.length l).heap[b]? = some (.cells (A ++ l ++ R).toArray t fr)
  | [], A, X, R, w, hX, h => by
    obtain rfl : X = [] := List.eq_nil_of_length_eq_zero hX
    exact h
  | v :: l, A, x :: X, R, w, hX, h => by
    have h1 : (w.setCell ⟨b, A.length, none⟩ v).heap[b]? = some (.cells ((A ++ [v]) ++ X ++ R).toArray t fr) := by
      rw [heap_setCell_same h]
      congr 2
      apply Array.ext'
      rw [Array.toList_setIfInBounds]
      simp
    have := heap_setCells l (A ++ [v]) X R _ (by simpa using hX) h1
    simp only [List.length_append, List.length_cons, List.length_nil, List.append_assoc, List.cons_append, List.nil_append] at this
    simpa [World.setCells] using this
  | v :: l, A, [], R, w, hX, h => by simp at hX
theorem setCells_other {b : Nat} : ∀ (l : List Value) (o : Nat) (w : World) (k : Nat), k ≠ b → (w.setCells b o l).heap[k]? = w.heap[k]?
  | [], _, _, _, _ => rfl
  | v :: l, o, w, k, h => by rw [World.setCells, setCells_other l (o + 1) _ k h]; exact Below.heap_setCell _ _ _ _ h
theorem setCells_frame (b : Nat) : ∀ (l : List Value) (o : Nat) (w : World), (w.setCells b o l).os = w.os ∧ (w.setCells b o l).tape = w.tape ∧ (w.setCells b o l).output = w.output ∧ (w.setCells b o l).heap.size = w.heap.size
  | [], _, _ => ⟨rfl, rfl, rfl, rfl⟩
  | v :: l, o, w => by
    obtain ⟨h1, h2, h3, h4⟩ := setCells_frame b l (o + 1) (w.setCell ⟨b, o, none⟩ v)
    exact ⟨h1, h2, h3, by rw [World.setCells, h4]; simp [World.setCell]⟩
theorem Kept.setCells {S : Nat → Prop} {a w : World} (h : Kept S a w) {b : Nat} (hb : b < a.heap.size → S b) (o : Nat) (l : List Value) : Kept S a (w.setCells b o l) := by
  obtain ⟨h1, h2, h3, h4⟩ := setCells_frame b l o w
  exact ⟨h1.trans h.os, h2.trans h.tape, h3.trans h.output, by rw [h4]; exact h.size, fun k hk hs => by
    rw [setCells_other _ _ _ _ (fun e => by subst e; exact hs (hb hk))]; exact h.block k hk hs⟩

theorem load_off {P : Program} {t ty : TypeId} {d : TypeDesc} (hu : P.underlying ty = some d) (hd : d.isRow = true) {w : World} {b : Nat} {A D R : Array Value} {fr : Nat × Nat} (h : w.heap[b]? = some (.cells (A ++ D ++ R) t fr))
    (hi : (P.info? ty).map (·.size) = some D.size) {o : Nat} (ho : A.size = o) : (Instr.loadAt ty (.pointer (some ⟨b, o, none⟩))).run P w = .ok (.agg D) w := by
  have := run_loadAt_mid (P := P) w b o ty D.toList d (fun j v hv => by
    rw [cell_of_row _ _ _ _ _ _ h]
    have hj : j < D.size := by simpa using (List.getElem?_eq_some_iff.1 hv).1
    rw [Array.append_assoc, Array.getElem?_append_right (by omega), Array.getElem?_append_left (by omega)]
    rw [show o + j - A.size = j from by omega]; simpa using hv) hu hd (by simpa using hi)
  simpa using this
theorem store_head {P : Program} {t ty : TypeId} {w : World} {b : Nat} {D D' R : Array Value} (h : w.heap[b]? = some (.cells (D ++ R) t (0, 0))) (hs : D.size = D'.size) (hi : (P.info? ty).map (·.size) = some D'.size) (h1 : D'.all (·.oneCell') = true) :
    (Instr.storeAt ty (.pointer (some ⟨b, 0, none⟩)) (.agg D')).run P w = .ok () (w.setCells b 0 D'.toList) ∧ (w.setCells b 0 D'.toList).heap[b]? = some (.cells (D' ++ R) t (0, 0)) := by
  refine ⟨?_, ?_⟩
  · exact run_storeAt_mid w b 0 ty D' (fun j hj => ⟨by rw [Nat.zero_add, cell_of_row _ _ _ _ _ _ h, Array.getElem?_append_left (by omega)]; rw [Array.getElem?_eq_getElem (by omega)]; rfl, by simp [World.frozen?, h]⟩) hi h1
  · have := heap_setCells (b := b) (t := t) (fr := (0, 0)) D'.toList [] D.toList R.toList w (by simpa using hs) (by rw [h]; congr 2; apply Array.ext'; simp)
    rw [show ([] : List Value).length = 0 from rfl] at this
    rw [this]; congr 2; apply Array.ext'; simp
end Go.Proofs.YthachckofghppaaDoor
