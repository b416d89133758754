/- Bytes in memory, and strings in memory. -/
import Derived.Test.YtlheboafhgmbpaaDoorLC
import Derived.Laws.AppendOwn
import Derived.Laws.OwnMore
import Derived.Laws.MakeOwn
import Derived.Laws.IdiomStrings
import Derived.Lib.SlBytesConst
import Derived.WalkMore
import Derived.Lib.Overlaps
import Derived.Lib.SliceRun
namespace Go.Proofs.YtlheboafhgmbpaaDoor
open Go.RowKit
set_option maxRecDepth 100000
set_option linter.unusedSimpArgs false
set_option linter.unusedVariables false

def bv (l : List UInt8) : List Value := l.map fun b => Value.int .u8 (b.toNat : Int)
theorem bv_len (l : List UInt8) : (bv l).length = l.length := by simp [bv]
theorem bv_app (l m : List UInt8) : bv (l ++ m) = bv l ++ bv m := by simp [bv]
theorem bv_one (l : List UInt8) : ∀ u ∈ bv l, u.oneCell' = true := fun u hu => by
  simp only [bv, List.mem_map] at hu
  obtain ⟨b, _, rfl⟩ := hu
  rfl
theorem rangeAt_stay {S : Nat → Prop} {w w' : World} (h : Kept S w w') {b o : Nat} (hb : b < w.heap.size) (hS : ¬ S b) {l : List Value} (hr : w.rangeAt b o l) : w'.rangeAt b o l := fun j v hv => by
  have := hr j v hv
  unfold World.cell? at this ⊢
  rw [h.block b hb hS]; exact this
/-- A slice that reads as these bytes. -/
def ByAt (w : World) (v : Value) (l : List UInt8) : Prop :=
  ∃ (a : Option Addr) (cap : Nat), v = .slice a l.length cap ∧ l.length ≤ maxLen ∧ (l ≠ [] → ∃ b o, a = some ⟨b, o, none⟩ ∧ b < w.heap.size ∧ w.rangeAt b o (bv l))
theorem ByAt.kept {w w' : World} {v : Value} {l : List UInt8} (h : ByAt w v l) (hk : Kept (fun _ => False) w w') : ByAt w' v l := by
  obtain ⟨a, cap, h1, h2, h3⟩ := h
  refine ⟨a, cap, h1, h2, fun hl => ?_⟩
  obtain ⟨b, o, e, hb, hr⟩ := h3 hl
  exact ⟨b, o, e, Nat.lt_of_lt_of_le hb hk.size, rangeAt_stay hk hb not_false hr⟩
theorem ByAt.nil (w : World) (n : Nat) : ByAt w (.slice none 0 n) [] := ⟨none, n, rfl, Nat.zero_le _, fun h => absurd rfl h⟩
theorem ByAt.own {w : World} {base n : Nat} {v : Value} {l : List UInt8} (h : w.ownsRow base 5 1 v n (bv l)) : ByAt w v l := by
  have h0 := h.1
  rw [bv_len, Nat.mul_one] at h0
  subst h0
  rcases h.2 with ⟨rfl, h0⟩ | ⟨g, cap, cur, rfl, _, hg, hn, hc, hs, ht⟩
  · obtain rfl := List.eq_nil_of_length_eq_zero h0
    exact ByAt.nil w 0
  · refine ⟨_, cap, rfl, by omega, fun _ => ⟨g, 0, rfl, (Array.getElem?_eq_some_iff.1 hg).1, fun j u hu => ?_⟩⟩
    rw [Nat.zero_add, cell_of_row _ _ _ _ _ _ hg]
    rw [← ht, Nat.mul_one] at hu
    have hj : j < l.length := by have := (List.getElem?_eq_some_iff.1 hu).1; simp at this; omega
    rw [List.getElem?_take_of_lt hj] at hu
    simpa using hu
theorem app_by {w : World} {base n : Nat} {v x : Value} {xs : List Value} {l : List UInt8} (h : w.ownsRow base 5 1 v n xs) (hx : ByAt w x l) (hn : n + l.length ≤ 1000000) (hb : base ≤ w.heap.size) (ty : TypeId) :
    ∃ v' w', (Builtin.append_ #[22, 22] ty #[v, x]).run Tryd.prog w = .ok v' w' ∧ w'.ownsRow base 5 1 v' (n + l.length) (xs ++ bv l) ∧ w.grownBy w' v.ownBlock := by
  obtain ⟨i, hi⟩ : ∃ i, Tryd.prog.info? 5 = some i := ⟨_, rfl⟩
  obtain ⟨z, hz⟩ : ∃ z, i.zero = some z := by injection hi with hi; subst hi; exact ⟨_, rfl⟩
  have hs : i.size = 1 := by injection hi with hi; subst hi; rfl
  have hzs : z.cells.size = 1 := by injection hi with hi; subst hi; injection hz with hz; subst hz; rfl
  have hby : i.bytes ≤ 1 := by injection hi with hi; subst hi; decide
  obtain ⟨a, cap, rfl, hl, ha⟩ := hx
  cases a with
  | none =>
    have hl0 : l = [] := by
      apply Classical.byContradiction; intro hh
      obtain ⟨b, o, e, _⟩ := ha hh; cases e
    subst hl0
    refine ⟨v, w, ?_, by simpa [bv] using h, ⟨rfl, rfl, rfl, Nat.le_refl _, fun _ _ _ => rfl⟩⟩
    rcases h.2 with ⟨rfl, rfl⟩ | ⟨g, cap', cur, rfl, _, _, hnc, _⟩
    · simp [Builtin.append_, run_underlying Tryd.underlying22, sizeOf, typeInfo, hi, Builtin.lenOf, Builtin.firstCells]
    · simp [Builtin.append_, run_underlying Tryd.underlying22, sizeOf, typeInfo, hi, Builtin.lenOf, Builtin.firstCells, hnc, storeCells]
  | some ad =>
    obtain ⟨v', w', a1, a2, a3, _⟩ := run_append_own (P := Tryd.prog) w base 22 ty 5 i z 1 i.bytes Tryd.underlying22 hi hz hs rfl hzs (by omega) v n xs h ad l.length cap (bv l) (by simp [bv])
      (fun j u hu => by
        have hne : l ≠ [] := fun e => by subst e; simp [bv] at hu
        obtain ⟨b, o, e, _, hr⟩ := ha hne
        injection e with e; subst e
        rw [Addr.add_mid]; exact hr j u hu) (bv_one l) (by simp only [maxLen]; omega)
      (by have : (n + l.length) * i.bytes ≤ 1000000 * 1 := Nat.mul_le_mul hn hby; omega) hb
    exact ⟨v', w', a1, a2, a3⟩
theorem ByAt.slc {w : World} {v : Value} {l : List UInt8} (h : ByAt w v l) : ∃ a c, v = .slice a l.length c := by obtain ⟨a, c, h, _⟩ := h; exact ⟨a, c, h⟩
theorem grown_kept {w0 w w' : World} {row : Option Nat} (h : Kept (fun _ => False) w0 w) (hg : w.grownBy w' row) (hr : ∀ k, row = some k → w0.heap.size ≤ k) : Kept (fun _ => False) w0 w' :=
  ⟨hg.os.trans h.os, hg.tape.trans h.tape, hg.output.trans h.output, Nat.le_trans h.size hg.size, fun k hk _ => (hg.block k (Nat.lt_of_lt_of_le hk h.size) (fun e => by have := hr k e.symm; omega)).trans (h.block k hk not_false)⟩
theorem row_form {w : World} {base : Nat} {t : TypeId} {z : Nat} {v : Value} {n : Nat} {xs : List Value} (h : w.ownsRow base t z v n xs) : ∃ a cap, v = .slice a n cap := by
  rcases h.2 with ⟨rfl, rfl⟩ | ⟨g, cap, cur, rfl, _⟩
  · exact ⟨none, 0, rfl⟩
  · exact ⟨_, cap, rfl⟩
/-- ByAt, and the capacity is no less than the length. -/
def ByC (w : World) (v : Value) (l : List UInt8) : Prop := ByAt w v l ∧ ∃ a c, v = .slice a l.length c ∧ l.length ≤ c
theorem ByC.kept {w w' : World} {v : Value} {l : List UInt8} (h : ByC w v l) (hk : Kept (fun _ => False) w w') : ByC w' v l := ⟨h.1.kept hk, h.2⟩
theorem ByAt.cells {w : World} {a : Option Addr} {n c : Nat} {l : List UInt8} (h : ByAt w (.slice a n c) l) (hl : l ≠ []) : ∃ b o, a = some ⟨b, o, none⟩ ∧ b < w.heap.size ∧ w.rangeAt b o (bv l) := by
  obtain ⟨a', c', e, _, h3⟩ := h
  injection e with e1 _ _
  subst e1
  exact h3 hl
theorem sizeOf1 (w : World) : (sizeOf (Tryd.prog.elem 22)).run Tryd.prog w = .ok 1 w := by kernel_rfl
theorem ByC.drop {w : World} {v : Value} {l : List UInt8} (h : ByC w v l) {i : Nat} (hi : i ≤ l.length) : ∃ a' c', (∀ w', (Instr.sliceAt 22 v (some (.int .i64 i)) none none).run Tryd.prog w' = .ok (.slice a' (l.length - i) c') w') ∧ ByC w (.slice a' (l.length - i) c') (l.drop i) := by
  obtain ⟨h1, a, c, rfl, hc⟩ := h
  have hd : (l.drop i).length = l.length - i := by simp
  refine ⟨if c = i then a else a.map (·.add (i * 1)), c - i, fun w' => ?_, ?_, _, _, by rw [hd], by rw [hd]; omega⟩
  · rw [run_sliceAt_slice _ _ _ _ _ _ rfl, run_slice_l _ _ _ _ _ rfl _ _ (by omega) (by omega), sizeOf1]
    simp [Result.andThen, sliced]
  · have h1' := h1
    obtain ⟨_, _, _, hm, _⟩ := h1'
    refine ⟨_, c - i, by rw [hd], by rw [hd]; omega, fun hne => ?_⟩
    have hlne : l ≠ [] := fun e => by subst e; simp at hne
    obtain ⟨b, o, rfl, hb, hr⟩ := h1.cells hlne
    have hlt : i < l.length := by
      rcases Nat.lt_or_ge i l.length with h' | h'
      · exact h'
      · exact absurd (List.drop_eq_nil_of_le h') hne
    rw [if_neg (by omega)]
    refine ⟨b, o + i, by simp [Addr.add], hb, fun j u hu => ?_⟩
    have := hr (i + j) u (by rw [← hu]; simp [bv, List.getElem?_drop])
    rw [show o + i + j = o + (i + j) by omega]; exact this
theorem ByC.take {w : World} {v : Value} {l : List UInt8} (h : ByC w v l) {i : Nat} (hi : i ≤ l.length) : ∃ a' c', (∀ w', (Instr.sliceAt 22 v none (some (.int .i64 i)) none).run Tryd.prog w' = .ok (.slice a' i c') w') ∧ ByC w (.slice a' i c') (l.take i) := by
  obtain ⟨h1, a, c, rfl, hc⟩ := h
  have hd : (l.take i).length = i := by rw [List.length_take]; omega
  refine ⟨a, c, fun w' => ?_, ?_, _, _, by rw [hd], by omega⟩
  · rw [run_sliceAt_slice _ _ _ _ _ _ rfl, run_slice_h _ _ _ _ _ rfl _ _ (by omega) (by omega), sizeOf1]
    cases a with
    | none => simp [Result.andThen, sliced]
    | some a => simp [Result.andThen, sliced, Addr.add]
  · have h1' := h1
    obtain ⟨_, _, _, hm, _⟩ := h1'
    refine ⟨_, c, by rw [hd], by omega, fun hne => ?_⟩
    have hlne : l ≠ [] := fun e => by subst e; simp at hne
    obtain ⟨b, o, rfl, hb, hr⟩ := h1.cells hlne
    refine ⟨b, o, rfl, hb, fun j u hu => ?_⟩
    refine hr j u ?_
    have hj := (List.getElem?_eq_some_iff.1 hu).1
    rw [bv_len, hd] at hj
    rw [← hu]; simp [bv, List.getElem?_take, hj]
theorem conv_str {w : World} {v : Value} {l : List UInt8} (h : ByAt w v l) : (convert 22 9 v).run Tryd.prog w = .ok (.string ⟨l.toArray⟩) w := by
  obtain ⟨a, c, rfl, h2, h3⟩ := h
  cases a with
  | none =>
    have hl0 : l = [] := by
      apply Classical.byContradiction; intro hh
      obtain ⟨b, o, e, _⟩ := h3 hh; cases e
    subst hl0
    exact run_convert_bytes_nil w _ _ Tryd.underlying22 Tryd.underlying5 _ _ _ Tryd.underlying9
  | some ad =>
    refine run_convert_bytes_back w _ _ _ ad c l Tryd.underlying22 Tryd.underlying5 Tryd.underlying9 (fun j hj => ?_)
    obtain ⟨b, o, e, _, hr⟩ := h3 (fun e => by subst e; simp at hj)
    injection e with e; subst e
    rw [Addr.add_mid]
    exact hr j _ (by simp [bv, List.getElem?_eq_getElem hj])
theorem ByC.own {w : World} {base n : Nat} {v : Value} {l : List UInt8} (h : w.ownsRow base 5 1 v n (bv l)) : ByC w v l := by
  refine ⟨ByAt.own h, ?_⟩
  have h0 := h.1
  rw [bv_len, Nat.mul_one] at h0
  subst h0
  rcases h.2 with ⟨rfl, h0⟩ | ⟨g, cap, cur, rfl, _, _, hn, _⟩
  · exact ⟨none, 0, by rw [h0], by omega⟩
  · exact ⟨_, cap, rfl, hn⟩
theorem own_base {w : World} {base base' size n : Nat} {e : TypeId} {v : Value} {xs : List Value} (h : w.ownsRow base e size v n xs) (hb : base' ≤ base) : w.ownsRow base' e size v n xs :=
  ⟨h.1, h.2.elim Or.inl (fun ⟨g, cap, cur, hv, hg, r⟩ => Or.inr ⟨g, cap, cur, hv, Nat.le_trans hb hg, r⟩)⟩
theorem ByC.cap {w : World} {a : Option Addr} {n c : Nat} {l : List UInt8} (h : ByC w (.slice a n c) l) : n = l.length ∧ n ≤ c := by
  obtain ⟨_, a', c', e, hc⟩ := h
  injection e with e1 e2 e3
  subst e2 e3
  exact ⟨rfl, hc⟩
theorem slice_lh (a : Option Addr) (n c : Nat) {i j : Nat} (hij : i ≤ j) (hjc : j ≤ c) (w : World) : (Instr.sliceAt 22 (.slice a n c) (some (.int .i64 (i : Int))) (some (.int .i64 (j : Int))) none).run Tryd.prog w = .ok (.slice (if c = i then a else a.map (·.add i)) (j - i) (c - i)) w := by
  rw [run_sliceAt_slice _ _ _ _ _ _ rfl, run_slice_lh _ _ _ _ _ rfl _ _ _ _ (by omega) (by omega) (by omega), sizeOf1]
  simp [Result.andThen, sliced]
theorem ByC.mid {w : World} {a : Option Addr} {n c : Nat} {l : List UInt8} (h : ByC w (.slice a n c) l) {i j : Nat} (hij : i ≤ j) (hjn : j ≤ n) : ∃ a' c', (∀ w', (Instr.sliceAt 22 (.slice a n c) (some (.int .i64 (i : Int))) (some (.int .i64 (j : Int))) none).run Tryd.prog w' = .ok (.slice a' (j - i) c') w') ∧ ByC w (.slice a' (j - i) c') ((l.drop i).take (j - i)) := by
  obtain ⟨hn, hc⟩ := h.cap
  have hd : ((l.drop i).take (j - i)).length = j - i := by rw [List.length_take, List.length_drop]; omega
  refine ⟨if c = i then a else a.map (·.add i), c - i, fun w' => slice_lh a n c hij (by omega) w', ?_, _, _, by rw [hd], by omega⟩
  have h1' := h.1
  obtain ⟨_, _, _, hm, _⟩ := h1'
  refine ⟨_, c - i, by rw [hd], by omega, fun hne => ?_⟩
  have hlt : i < j := by
    rcases Nat.lt_or_ge i j with h' | h'
    · exact h'
    · exact absurd (List.eq_nil_of_length_eq_zero (by rw [hd]; omega)) hne
  have hlne : l ≠ [] := fun e => by subst e; simp at hn; omega
  obtain ⟨b, o, rfl, hb, hr⟩ := h.1.cells hlne
  rw [if_neg (by omega)]
  refine ⟨b, o + i, by simp [Addr.add], hb, fun k u hu => ?_⟩
  have hk := (List.getElem?_eq_some_iff.1 hu).1
  rw [bv_len, hd] at hk
  have := hr (i + k) u (by rw [← hu]; simp [bv, List.getElem?_take, hk])
  rw [show o + i + k = o + (i + k) by omega]; exact this
theorem row_kept {w w' : World} {base : Nat} {t : TypeId} {z : Nat} {v : Value} {n : Nat} {xs : List Value} (h : w.ownsRow base t z v n xs) (hk : Kept (fun _ => False) w w') : w'.ownsRow base t z v n xs := by
  refine ⟨h.1, ?_⟩
  rcases h.2 with h0 | ⟨g, cap, cur, rfl, hb, hg, hr⟩
  · exact .inl h0
  · exact .inr ⟨g, cap, cur, rfl, hb, by rw [hk.block g (Array.getElem?_eq_some_iff.1 hg).1 not_false]; exact hg, hr⟩
theorem exec_conv {P : Program} {o : Oper} {a : Act} {w w1 : World} {p v : Value} (t u : TypeId) (x : Operand) (ho : o.op = .convert t u x) (hx : a.eval x = p)
    (h : (convert t u p).run P w = .ok v w1) : (execOp a.eval o).run P w = .ok (.value v) w1 := by
  unfold execOp; simp only [ho, hx, Sem.run_bind, h, Result.andThen_ok]; rfl
theorem exec_append {P : Program} {o : Oper} {a : Act} {w w1 : World} {p q v : Value} (t : TypeId) (x y : Operand) (ho : o.op = .call { callee := .builtin .append, args := #[x, y], argTypes := #[t, t] }) (hx : a.eval x = p) (hy : a.eval y = q)
    (h : (Builtin.append_ #[t, t] o.type #[p, q]).run P w = .ok v w1) : (execOp a.eval o).run P w = .ok (.value v) w1 := by
  unfold execOp
  simp only [ho, resolve, invoke, builtin, Sem.run_bind, Sem.run_pure, Result.andThen_ok]
  simp only [List.map_toArray, List.map_cons, List.map_nil, hx, hy, h, Result.andThen_ok]
theorem exec_make {P : Program} {o : Oper} {a : Act} {w w1 : World} {p q v : Value} (t : TypeId) (x y : Operand) (ho : o.op = .makeSlice t x y) (hx : a.eval x = p) (hy : a.eval y = q)
    (h : (Instr.makeSlice t p q).run P w = .ok v w1) : (execOp a.eval o).run P w = .ok (.value v) w1 := by
  unfold execOp; simp only [ho, hx, hy, Sem.run_bind, h, Result.andThen_ok]; rfl
section
variable {P : Program} {o : Oper} {a : Act} {w w1 : World} {v p q q2 : Value}
theorem exec_slice_h (ty : TypeId) (x y : Operand) (ho : o.op = .slice ty x none (some y) none) (hx : a.eval x = p) (hy : a.eval y = q) (h : (Instr.sliceAt ty p none (some q) none).run P w = .ok v w) : (execOp a.eval o).run P w = .ok (.value v) w := by
  unfold execOp; simp only [ho, hx, hy, Option.map_some, Option.map_none, Sem.run_bind, h, Result.andThen_ok]; rfl
theorem exec_slice_l (ty : TypeId) (x y : Operand) (ho : o.op = .slice ty x (some y) none none) (hx : a.eval x = p) (hy : a.eval y = q) (h : (Instr.sliceAt ty p (some q) none none).run P w = .ok v w) : (execOp a.eval o).run P w = .ok (.value v) w := by
  unfold execOp; simp only [ho, hx, hy, Option.map_some, Option.map_none, Sem.run_bind, h, Result.andThen_ok]; rfl
theorem exec_slice_lh (ty : TypeId) (x y z : Operand) (ho : o.op = .slice ty x (some y) (some z) none) (hx : a.eval x = p) (hy : a.eval y = q) (hz : a.eval z = q2) (h : (Instr.sliceAt ty p (some q) (some q2) none).run P w = .ok v w) : (execOp a.eval o).run P w = .ok (.value v) w := by
  unfold execOp; simp only [ho, hx, hy, hz, Option.map_some, Option.map_none, Sem.run_bind, h, Result.andThen_ok]; rfl
end
/-- The i-th byte lies in its cell. -/
theorem ByC.byte {w : World} {a : Option Addr} {n c : Nat} {l : List UInt8} (h : ByC w (.slice a n c) l) {i : Nat} (hi : i < l.length) :
    ∃ b o, a = some ⟨b, o, none⟩ ∧ b < w.heap.size ∧ w.cell? ⟨b, o + i, none⟩ = some (.int .u8 ((l.getD i 0).toNat : Int)) := by
  obtain ⟨b, o, e, hb, hr⟩ := h.1.cells (fun e => by subst e; simp at hi)
  refine ⟨b, o, e, hb, hr i _ ?_⟩
  simp [bv, List.getD_eq_getElem?_getD, List.getElem?_eq_getElem hi]
def str (l : List UInt8) : Value := .string ⟨l.toArray⟩
def sv (ws : List (List UInt8)) : List Value := ws.map str
theorem sv_len (ws : List (List UInt8)) : (sv ws).length = ws.length := by simp [sv]
theorem sv_app (l m : List (List UInt8)) : sv (l ++ m) = sv l ++ sv m := by simp [sv]
theorem sv_one (ws : List (List UInt8)) : ∀ u ∈ sv ws, u.oneCell' = true := fun u hu => by
  simp only [sv, List.mem_map] at hu
  obtain ⟨b, _, rfl⟩ := hu
  rfl
/-- A slice that reads as these strings. -/
def StrsAt (w : World) (v : Value) (ws : List (List UInt8)) : Prop :=
  ∃ (a : Option Addr) (cap : Nat), v = .slice a ws.length cap ∧ ws.length ≤ maxLen ∧ (ws ≠ [] → ∃ b o, a = some ⟨b, o, none⟩ ∧ b < w.heap.size ∧ w.rangeAt b o (sv ws))
theorem StrsAt.kept {w w' : World} {v : Value} {l : List (List UInt8)} (h : StrsAt w v l) (hk : Kept (fun _ => False) w w') : StrsAt w' v l := by
  obtain ⟨a, cap, h1, h2, h3⟩ := h
  refine ⟨a, cap, h1, h2, fun hl => ?_⟩
  obtain ⟨b, o, e, hb, hr⟩ := h3 hl
  exact ⟨b, o, e, Nat.lt_of_lt_of_le hb hk.size, rangeAt_stay hk hb not_false hr⟩
theorem StrsAt.nil (w : World) (n : Nat) : StrsAt w (.slice none 0 n) [] := ⟨none, n, rfl, Nat.zero_le _, fun h => absurd rfl h⟩
theorem StrsAt.slc {w : World} {v : Value} {l : List (List UInt8)} (h : StrsAt w v l) : ∃ a c, v = .slice a l.length c := by obtain ⟨a, c, h, _⟩ := h; exact ⟨a, c, h⟩
theorem StrsAt.own {w : World} {base n : Nat} {v : Value} {l : List (List UInt8)} (h : w.ownsRow base 9 1 v n (sv l)) : StrsAt w v l := by
  have h0 := h.1
  rw [sv_len, Nat.mul_one] at h0
  subst h0
  rcases h.2 with ⟨rfl, h0⟩ | ⟨g, cap, cur, rfl, _, hg, hn, hc, hs, ht⟩
  · obtain rfl := List.eq_nil_of_length_eq_zero h0
    exact StrsAt.nil w 0
  · refine ⟨_, cap, rfl, by omega, fun _ => ⟨g, 0, rfl, (Array.getElem?_eq_some_iff.1 hg).1, fun j u hu => ?_⟩⟩
    rw [Nat.zero_add, cell_of_row _ _ _ _ _ _ hg]
    rw [← ht, Nat.mul_one] at hu
    have hj : j < l.length := by have := (List.getElem?_eq_some_iff.1 hu).1; simp at this; omega
    rw [List.getElem?_take_of_lt hj] at hu
    simpa using hu
/-- One string more. -/
theorem app_str {w : World} {base n : Nat} {v : Value} {ws : List (List UInt8)} (h : w.ownsRow base 9 1 v n (sv ws)) (x : List UInt8) {g : Nat} {fr : Nat × Nat} {c : Nat} (hx : w.heap[g]? = some (.cells #[str x] 9 fr)) (hn : n + 1 ≤ 1000000) (hb : base ≤ w.heap.size) (ty : TypeId) :
    ∃ v' w', (Builtin.append_ #[30, 30] ty #[v, .slice (some ⟨g, 0, none⟩) 1 c]).run Tryd.prog w = .ok v' w' ∧ w'.ownsRow base 9 1 v' (n + 1) (sv (ws ++ [x])) ∧ w.grownBy w' v.ownBlock := by
  obtain ⟨i, hi⟩ : ∃ i, Tryd.prog.info? 9 = some i := ⟨_, rfl⟩
  obtain ⟨z, hz⟩ : ∃ z, i.zero = some z := by injection hi with hi; subst hi; exact ⟨_, rfl⟩
  have hs : i.size = 1 := by injection hi with hi; subst hi; rfl
  have hzs : z.cells.size = 1 := by injection hi with hi; subst hi; injection hz with hz; subst hz; rfl
  have hby : i.bytes ≤ 16 := by injection hi with hi; subst hi; decide
  obtain ⟨v', w', a1, a2, a3, _⟩ := run_append_own (P := Tryd.prog) w base 30 ty 9 i z 1 i.bytes Tryd.underlying30 hi hz hs rfl hzs (by omega) v n (sv ws) h ⟨g, 0, none⟩ 1 c [str x] rfl
    (fun j u hu => by
      match j, hu with
      | 0, hu =>
        simp at hu; subst hu
        rw [Addr.add_mid, cell_of_row _ _ _ _ _ _ hx]; rfl) (fun u hu => by simp at hu; subst hu; rfl) (by simp only [maxLen]; omega)
    (by have : (n + 1) * i.bytes ≤ 1000000 * 16 := Nat.mul_le_mul hn hby; omega) hb
  refine ⟨v', w', a1, ?_, a3⟩
  rw [sv_app]; exact a2
end Go.Proofs.YtlheboafhgmbpaaDoor
