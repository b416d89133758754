/- Bytes in memory; wire's form of a number. -/
import Derived.Test.YtfohljljoalmoaaDoorT1
import Derived.Laws.AppendOwn
import Derived.Laws.OwnMore
import Derived.Laws.IdiomStrings
import Derived.Lib.SlBytesConst
import Derived.WalkMore
namespace Go.Proofs.YtfohljljoalmoaaDoor
open Go.RowKit
set_option maxRecDepth 100000
set_option linter.unusedSimpArgs false
set_option linter.unusedVariables false

def bv (l : List UInt8) : List Value := l.map fun b => Value.int .u8 (b.toNat : Int)
theorem bv_len (l : List UInt8) : (bv l).length = l.length := by simp [bv]
theorem bv_app (l m : List UInt8) : bv (l ++ m) = bv l ++ bv m := by simp [bv]
theorem bv_one (l : List UInt8) : ∀ u ∈ bv l, u.oneCell' = true := fun u hu => by
  simp only [bv, List.mem_map] at hu
  obtain ⟨b, _, rfl⟩ := hu
  rfl
theorem rangeAt_stay {S : Nat → Prop} {w w' : World} (h : Kept S w w') {b o : Nat} (hb : b < w.heap.size) (hS : ¬ S b) {l : List Value} (hr : w.rangeAt b o l) : w'.rangeAt b o l := fun j v hv => by
  have := hr j v hv
  unfold World.cell? at this ⊢
  rw [h.block b hb hS]; exact this
/-- A slice that reads as these bytes. -/
def ByAt (w : World) (v : Value) (l : List UInt8) : Prop :=
  ∃ (a : Option Addr) (cap : Nat), v = .slice a l.length cap ∧ l.length ≤ maxLen ∧ (l ≠ [] → ∃ b o, a = some ⟨b, o, none⟩ ∧ b < w.heap.size ∧ w.rangeAt b o (bv l))
theorem ByAt.kept {w w' : World} {v : Value} {l : List UInt8} (h : ByAt w v l) (hk : Kept (fun _ => False) w w') : ByAt w' v l := by
  obtain ⟨a, cap, h1, h2, h3⟩ := h
  refine ⟨a, cap, h1, h2, fun hl => ?_⟩
  obtain ⟨b, o, e, hb, hr⟩ := h3 hl
  exact ⟨b, o, e, Nat.lt_of_lt_of_le hb hk.size, rangeAt_stay hk hb not_false hr⟩
theorem ByAt.nil (w : World) (n : Nat) : ByAt w (.slice none 0 n) [] := ⟨none, n, rfl, Nat.zero_le _, fun h => absurd rfl h⟩
theorem ByAt.own {w : World} {base n : Nat} {v : Value} {l : List UInt8} (h : w.ownsRow base 5 1 v n (bv l)) : ByAt w v l := by
  have h0 := h.1
  rw [bv_len, Nat.mul_one] at h0
  subst h0
  rcases h.2 with ⟨rfl, h0⟩ | ⟨g, cap, cur, rfl, _, hg, hn, hc, hs, ht⟩
  · obtain rfl := List.eq_nil_of_length_eq_zero h0
    exact ByAt.nil w 0
  · refine ⟨_, cap, rfl, by omega, fun _ => ⟨g, 0, rfl, (Array.getElem?_eq_some_iff.1 hg).1, fun j u hu => ?_⟩⟩
    rw [Nat.zero_add, cell_of_row _ _ _ _ _ _ hg]
    rw [← ht, Nat.mul_one] at hu
    have hj : j < l.length := by have := (List.getElem?_eq_some_iff.1 hu).1; simp at this; omega
    rw [List.getElem?_take_of_lt hj] at hu
    simpa using hu
theorem app_by {w : World} {base n : Nat} {v x : Value} {xs : List Value} {l : List UInt8} (h : w.ownsRow base 5 1 v n xs) (hx : ByAt w x l) (hn : n + l.length ≤ 1000000) (hb : base ≤ w.heap.size) (ty : TypeId) :
    ∃ v' w', (Builtin.append_ #[44, 44] ty #[v, x]).run Tryd.prog w = .ok v' w' ∧ w'.ownsRow base 5 1 v' (n + l.length) (xs ++ bv l) ∧ w.grownBy w' v.ownBlock := by
  obtain ⟨i, hi⟩ : ∃ i, Tryd.prog.info? 5 = some i := ⟨_, rfl⟩
  obtain ⟨z, hz⟩ : ∃ z, i.zero = some z := by injection hi with hi; subst hi; exact ⟨_, rfl⟩
  have hs : i.size = 1 := by injection hi with hi; subst hi; rfl
  have hzs : z.cells.size = 1 := by injection hi with hi; subst hi; injection hz with hz; subst hz; rfl
  have hby : i.bytes ≤ 1 := by injection hi with hi; subst hi; decide
  obtain ⟨a, cap, rfl, hl, ha⟩ := hx
  cases a with
  | none =>
    have hl0 : l = [] := by
      apply Classical.byContradiction; intro hh
      obtain ⟨b, o, e, _⟩ := ha hh; cases e
    subst hl0
    refine ⟨v, w, ?_, by simpa [bv] using h, ⟨rfl, rfl, rfl, Nat.le_refl _, fun _ _ _ => rfl⟩⟩
    rcases h.2 with ⟨rfl, rfl⟩ | ⟨g, cap', cur, rfl, _, _, hnc, _⟩
    · simp [Builtin.append_, run_underlying Tryd.underlying44, sizeOf, typeInfo, hi, Builtin.lenOf, Builtin.firstCells]
    · simp [Builtin.append_, run_underlying Tryd.underlying44, sizeOf, typeInfo, hi, Builtin.lenOf, Builtin.firstCells, hnc, storeCells]
  | some ad =>
    obtain ⟨v', w', a1, a2, a3, _⟩ := run_append_own (P := Tryd.prog) w base 44 ty 5 i z 1 i.bytes Tryd.underlying44 hi hz hs rfl hzs (by omega) v n xs h ad l.length cap (bv l) (by simp [bv])
      (fun j u hu => by
        have hne : l ≠ [] := fun e => by subst e; simp [bv] at hu
        obtain ⟨b, o, e, _, hr⟩ := ha hne
        injection e with e; subst e
        rw [Addr.add_mid]; exact hr j u hu) (bv_one l) (by simp only [maxLen]; omega)
      (by have : (n + l.length) * i.bytes ≤ 1000000 * 1 := Nat.mul_le_mul hn hby; omega) hb
    exact ⟨v', w', a1, a2, a3⟩
/-- A number's digits, the great ones first. -/
def beD : Nat → Nat → List UInt8
  | 0, _ => []
  | f + 1, n => if n = 0 then [] else beD f (n / 256) ++ [UInt8.ofNat (n % 256)]
def formL (n : Nat) : List UInt8 := UInt8.ofNat (beD 8 n).length :: beD 8 n
theorem beD_len : ∀ f n, (beD f n).length ≤ f
  | 0, _ => Nat.le_refl _
  | f + 1, n => by
    unfold beD
    split
    · exact Nat.zero_le _
    · have := beD_len f (n / 256); simp; omega

section
variable {P : Program} {o : Oper} {a : Act} {w w1 : World} {v p q : Value}
theorem exec_slice_h (ty : TypeId) (x y : Operand) (ho : o.op = .slice ty x none (some y) none) (hx : a.eval x = p) (hy : a.eval y = q) (h : (Instr.sliceAt ty p none (some q) none).run P w = .ok v w) : (execOp a.eval o).run P w = .ok (.value v) w := by
  unfold execOp; simp only [ho, hx, hy, Option.map_some, Option.map_none, Sem.run_bind, h, Result.andThen_ok]; rfl
theorem exec_slice_l (ty : TypeId) (x y : Operand) (ho : o.op = .slice ty x (some y) none none) (hx : a.eval x = p) (hy : a.eval y = q) (h : (Instr.sliceAt ty p (some q) none none).run P w = .ok v w) : (execOp a.eval o).run P w = .ok (.value v) w := by
  unfold execOp; simp only [ho, hx, hy, Option.map_some, Option.map_none, Sem.run_bind, h, Result.andThen_ok]; rfl
end
def Z9 : Array Value := #[.int .u8 0, .int .u8 0, .int .u8 0, .int .u8 0, .int .u8 0, .int .u8 0, .int .u8 0, .int .u8 0, .int .u8 0]
end Go.Proofs.YtfohljljoalmoaaDoor
