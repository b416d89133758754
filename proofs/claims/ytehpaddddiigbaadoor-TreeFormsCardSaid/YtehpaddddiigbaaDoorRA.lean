/- Digests are equal or not. -/
import Derived.Test.YtehpaddddiigbaaDoorSY
import Derived.Test.YtehpaddddiigbaaDoorTK
import Derived.DeepKeys5
namespace Go.Proofs.YtehpaddddiigbaaDoor
open Go.RowKit
set_option maxRecDepth 100000
set_option linter.unusedSimpArgs false
set_option linter.unusedVariables false

theorem mapM_some {α β : Type} {f : α → Option β} : ∀ {L : List α}, (∀ x ∈ L, ∃ y, f x = some y) → ∃ ys, L.mapM f = some ys
  | [], _ => ⟨[], rfl⟩
  | a :: L, h => by
    obtain ⟨y, hy⟩ := h a (by simp)
    obtain ⟨ys, hys⟩ := mapM_some (L := L) (fun x hx => h x (by simp [hx]))
    exact ⟨y :: ys, by simp [hy, hys]⟩

theorem keyLits_arr {P : Program} {k e : TypeId} {q : IntKind} {n d : Nat} (hk : P.underlying k = some (.array n e)) (he : P.underlying e = some (.int q)) (hce : P.cellsOf e = 1) (hck : P.cellsOf k = n)
    {cs : List Int} (hl : cs.length = n) (hw : ∀ x ∈ cs, (Lit.int q x).wf = true) : ∃ l, P.keyLits (d + 2) k (cs.map (Value.int q)) = some l := by
  unfold Program.keyLits
  rw [hk]
  simp only [List.length_map, hck, hl, if_true]
  obtain ⟨ys, hys⟩ := mapM_some (f := fun i => P.keyLits (d + 1) e (((cs.map (Value.int q)).drop (i * P.cellsOf e)).take (P.cellsOf e))) (L := List.range n) (fun i hi => by
    have hi' : i < cs.length := by rw [hl]; simpa using hi
    refine ⟨[.int q cs[i]], ?_⟩
    rw [hce, Nat.mul_one, List.drop_eq_getElem_cons (by simpa using hi')]
    unfold Program.keyLits
    simp [he, hw cs[i] (List.getElem_mem hi')])
  exact ⟨ys.flatten, by rw [hys]; rfl⟩

theorem lawD : WideMaps.KeyLaw Tryd.prog 27 := deep_law_gate Tryd.laidOut (of_decide_eq_true (by kernel_rfl)) (of_decide_eq_true (by kernel_rfl)) (by kernel_rfl) (by kernel_rfl)

/-- The cells of a digest. -/
def IsDig (D : Array Value) : Prop := ∃ cs : List Int, cs.length = 32 ∧ (∀ x ∈ cs, 0 ≤ x ∧ x < 256) ∧ D = (cs.map (Value.int .u8)).toArray
theorem IsDig.size {D : Array Value} (h : IsDig D) : D.size = 32 := by obtain ⟨cs, h1, _, rfl⟩ := h; simp [h1]
theorem IsDig.oneCell {D : Array Value} (h : IsDig D) : D.all (·.oneCell') = true := by
  obtain ⟨cs, h1, _, rfl⟩ := h
  exact all_oneCell_toArray (by intro v hv; simp at hv; obtain ⟨a, _, rfl⟩ := hv; rfl)

theorem sz_types : ∃ m, Tryd.prog.types.size = m + 2 := ⟨Tryd.prog.types.size - 2, by have : 2 ≤ Tryd.prog.types.size := of_decide_eq_true (by kernel_rfl); omega⟩
theorem wf_u8 {x : Int} (h : 0 ≤ x ∧ x < 256) : (Lit.int .u8 x).wf = true := by
  simp only [Lit.wf, Bool.and_eq_true, decide_eq_true_eq]; exact ⟨h.1, Int.le_of_lt_add_one h.2⟩

theorem IsDig.key {D : Array Value} (h : IsDig D) : ∃ l, keyOf Tryd.prog 27 (.agg D) = some l := by
  have hs := h.size
  obtain ⟨cs, h1, h2, rfl⟩ := h
  obtain ⟨m, hm⟩ := sz_types
  obtain ⟨l, hl⟩ := keyLits_arr (P := Tryd.prog) (d := m + 1) Tryd.underlying27 Tryd.underlying5 (by kernel_rfl) (by kernel_rfl) h1 (fun x hx => wf_u8 (h2 x hx))
  have hkt : Tryd.prog.keyType 27 = true := by kernel_rfl
  have hcc : Tryd.prog.cellsOf 27 = 32 := by kernel_rfl
  refine ⟨.string (keyBytes l), ?_⟩
  unfold keyOf
  rw [Tryd.underlying27]
  simp only [hkt, Value.formed, Tryd.underlying27, hcc, hs, hm, Value.cells, hl]
  rfl

theorem agg_inj {D E : Array Value} (h : Value.agg D = .agg E) : D = E := by injection h
theorem equal_dig {D E : Array Value} (hD : IsDig D) (hE : IsDig E) (w : World) : ∃ r : Bool, (Op.equal 27 (.agg D) (.agg E)).run Tryd.prog w = .ok r w ∧ (r = true ↔ D = E) := by
  obtain ⟨l, hl⟩ := hD.key
  obtain ⟨m, hm⟩ := hE.key
  obtain ⟨r, h1, h2⟩ := run_equal_deep (P := Tryd.prog) w (m := 10) (by omega) (k := 27) (by kernel_rfl) (by kernel_rfl) hl hm
  refine ⟨r, h1, h2.trans ⟨fun e => ?_, fun e => ?_⟩⟩
  · subst e; exact agg_inj (lawD.inj hl hm)
  · subst e; rw [hl] at hm; injection hm
open Classical in
theorem exec_eql_dig {D E : Array Value} (hD : IsDig D) (hE : IsDig E) {o : Oper} {a : Act} {w : World} (x y : Operand) (ho : o.op = .binOp .eql 27 x y 27) (hx : a.eval x = .agg D) (hy : a.eval y = .agg E) :
    (execOp a.eval o).run Tryd.prog w = .ok (.value (.bool (decide (D = E)))) w := by
  have hg : Tryd.prog.eqGuardType Tryd.prog.depth 27 = false := by kernel_rfl
  obtain ⟨r, hE, hr⟩ := equal_dig hD hE w
  have hd : r = decide (D = E) := by
    by_cases e : D = E
    · rw [decide_eq_true e]; exact hr.2 e
    · rw [decide_eq_false e]; cases r with
      | true => exact absurd (hr.1 rfl) e
      | false => rfl
  subst hd
  unfold execOp
  simp only [ho, hx, hy, Sem.run_bind]
  have h1 : (eqGuard .eql 27 x y (.agg D) (.agg E)).run Tryd.prog w = .ok () w := by
    simp [eqGuard, Sem.run_bind, program, Sem.run, hg]
  have h2 : (binOp .eql 27 (.agg D) (.agg E)).run Tryd.prog w = .ok (.bool (decide (D = E))) w := by
    simp [binOp, Sem.run_bind, hE]
  simp only [h1, h2, Result.andThen_ok]
  rfl


theorem isDig_nv {l : List UInt8} (h : l.length = 32) : IsDig (kv .u8 (nv l)).toArray :=
  ⟨l.map fun b => (b.toNat : Int), by simp [h], fun x hx => by
    obtain ⟨b, _, rfl⟩ := List.mem_map.1 hx
    have := b.toNat_lt
    exact ⟨by omega, by omega⟩, by rw [nv_bv]; simp [bv]⟩
theorem dig_inj {a b : List UInt8} (h : (kv .u8 (nv a)).toArray = (kv .u8 (nv b)).toArray) : a = b := by
  rw [nv_bv, nv_bv] at h
  have h1 : bv a = bv b := by simpa using h
  unfold bv at h1
  revert b
  induction a with
  | nil => intro b _ h1; cases b with | nil => rfl | cons => simp at h1
  | cons x a ih =>
    intro b _ h1
    cases b with
    | nil => simp at h1
    | cons y b =>
      simp only [List.map_cons, List.cons.injEq, Value.int.injEq, true_and] at h1
      obtain ⟨h1, h2⟩ := h1
      have e : x = y := UInt8.toNat_inj.1 (by exact_mod_cast h1)
      rw [e, ih (by unfold bv; rw [h2]) h2]
theorem eql_dg {a b : List UInt8} (ha : a.length = 32) (hb : b.length = 32) {o : Oper} {c : Act} {w : World} (x y : Operand) (ho : o.op = .binOp .eql 27 x y 27) (hx : c.eval x = (Value.agg (List.toArray (kv .u8 (nv a))))) (hy : c.eval y = (Value.agg (List.toArray (kv .u8 (nv b))))) :
    (execOp c.eval o).run Tryd.prog w = .ok (.value (.bool (decide (a = b)))) w := by
  rw [exec_eql_dig (isDig_nv ha) (isDig_nv hb) x y ho hx hy]
  congr 3
  rw [decide_eq_decide]
  exact ⟨dig_inj, fun e => by rw [e]⟩
theorem neq_dg {a b : List UInt8} (ha : a.length = 32) (hb : b.length = 32) {o : Oper} {c : Act} {w : World} (x y : Operand) (ho : o.op = .binOp .neq 27 x y 27) (hx : c.eval x = (Value.agg (List.toArray (kv .u8 (nv a))))) (hy : c.eval y = (Value.agg (List.toArray (kv .u8 (nv b))))) :
    (execOp c.eval o).run Tryd.prog w = .ok (.value (.bool (!decide (a = b)))) w := by
  have hg : Tryd.prog.eqGuardType Tryd.prog.depth 27 = false := by kernel_rfl
  obtain ⟨r, hE, hr⟩ := equal_dig (isDig_nv ha) (isDig_nv hb) w
  have hd : r = decide (a = b) := by
    by_cases e : a = b
    · rw [decide_eq_true e]; exact hr.2 (by rw [e])
    · rw [decide_eq_false e]; cases r with
      | true => exact absurd (dig_inj (hr.1 rfl)) e
      | false => rfl
  subst hd
  unfold execOp
  simp only [ho, hx, hy, Sem.run_bind]
  have h1 : (eqGuard .neq 27 x y ((Value.agg (List.toArray (kv .u8 (nv a))))) ((Value.agg (List.toArray (kv .u8 (nv b)))))).run Tryd.prog w = .ok () w := by
    simp [eqGuard, Sem.run_bind, program, Sem.run, hg]
  have h2 : (binOp .neq 27 ((Value.agg (List.toArray (kv .u8 (nv a))))) ((Value.agg (List.toArray (kv .u8 (nv b)))))).run Tryd.prog w = .ok (.bool (!decide (a = b))) w := by
    simp [binOp, Sem.run_bind, hE]
  simp only [h1, h2, Result.andThen_ok]
  rfl
