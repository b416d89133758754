/- Bytes in memory; wire's form of a number. -/
import Derived.Test.YthachckofghppaaDoorT1
import Derived.Laws.AppendOwn
import Derived.Laws.OwnMore
import Derived.Laws.IdiomStrings
import Derived.Lib.SlBytesConst
import Derived.WalkMore
namespace Go.Proofs.YthachckofghppaaDoor
open Go.RowKit
set_option maxRecDepth 100000
set_option linter.unusedSimpArgs false
set_option linter.unusedVariables false

def bv (l : List UInt8) : List Value := l.map fun b => Value.int .u8 (b.toNat : Int)
theorem bv_len (l : List UInt8) : (bv l).length = l.length := by simp [bv]
theorem bv_app (l m : List UInt8) : bv (l ++ m) = bv l ++ bv m := by simp [bv]
theorem bv_one (l : List UInt8) : ∀ u ∈ bv l, u.oneCell' = true := fun u hu => by
  simp only [bv, List.mem_map] at hu
  obtain ⟨b, _, rfl⟩ := hu
  rfl
theorem rangeAt_stay {S : Nat → Prop} {w w' : World} (h : Kept S w w') {b o : Nat} (hb : b < w.heap.size) (hS : ¬ S b) {l : List Value} (hr : w.rangeAt b o l) : w'.rangeAt b o l := fun j v hv => by
  have := hr j v hv
  unfold World.cell? at this ⊢
  rw [h.block b hb hS]; exact this
/-- A slice that reads as these bytes. -/
def ByAt (w : World) (v : Value) (l : List UInt8) : Prop :=
  ∃ (a : Option Addr) (cap : Nat), v = .slice a l.length cap ∧ l.length ≤ maxLen ∧ (l ≠ [] → ∃ b o, a = some ⟨b, o, none⟩ ∧ b < w.heap.size ∧ w.rangeAt b o (bv l))
theorem ByAt.kept {w w' : World} {v : Value} {l : List UInt8} (h : ByAt w v l) (hk : Kept (fun _ => False) w w') : ByAt w' v l := by
  obtain ⟨a, cap, h1, h2, h3⟩ := h
  refine ⟨a, cap, h1, h2, fun hl => ?_⟩
  obtain ⟨b, o, e, hb, hr⟩ := h3 hl
  exact ⟨b, o, e, Nat.lt_of_lt_of_le hb hk.size, rangeAt_stay hk hb not_false hr⟩
theorem ByAt.nil (w : World) (n : Nat) : ByAt w (.slice none 0 n) [] := ⟨none, n, rfl, Nat.zero_le _, fun h => absurd rfl h⟩
theorem ByAt.own {w : World} {base n : Nat} {v : Value} {l : List UInt8} (h : w.ownsRow base 5 1 v n (bv l)) : ByAt w v l := by
  have h0 := h.1
  rw [bv_len, Nat.mul_one] at h0
  subst h0
  rcases h.2 with ⟨rfl, h0⟩ | ⟨g, cap, cur, rfl, _, hg, hn, hc, hs, ht⟩
  · obtain rfl := List.eq_nil_of_length_eq_zero h0
    exact ByAt.nil w 0
  · refine ⟨_, cap, rfl, by omega, fun _ => ⟨g, 0, rfl, (Array.getElem?_eq_some_iff.1 hg).1, fun j u hu => ?_⟩⟩
    rw [Nat.zero_add, cell_of_row _ _ _ _ _ _ hg]
    rw [← ht, Nat.mul_one] at hu
    have hj : j < l.length := by have := (List.getElem?_eq_some_iff.1 hu).1; simp at this; omega
    rw [List.getElem?_take_of_lt hj] at hu
    simpa using hu
theorem app_by {w : World} {base n : Nat} {v x : Value} {xs : List Value} {l : List UInt8} (h : w.ownsRow base 5 1 v n xs) (hx : ByAt w x l) (hn : n + l.length ≤ 1000000) (hb : base ≤ w.heap.size) (ty : TypeId) :
    ∃ v' w', (Builtin.append_ #[22, 22] ty #[v, x]).run Tryd.prog w = .ok v' w' ∧ w'.ownsRow base 5 1 v' (n + l.length) (xs ++ bv l) ∧ w.grownBy w' v.ownBlock := by
  obtain ⟨i, hi⟩ : ∃ i, Tryd.prog.info? 5 = some i := ⟨_, rfl⟩
  obtain ⟨z, hz⟩ : ∃ z, i.zero = some z := by injection hi with hi; subst hi; exact ⟨_, rfl⟩
  have hs : i.size = 1 := by injection hi with hi; subst hi; rfl
  have hzs : z.cells.size = 1 := by injection hi with hi; subst hi; injection hz with hz; subst hz; rfl
  have hby : i.bytes ≤ 1 := by injection hi with hi; subst hi; decide
  obtain ⟨a, cap, rfl, hl, ha⟩ := hx
  cases a with
  | none =>
    have hl0 : l = [] := by
      apply Classical.byContradiction; intro hh
      obtain ⟨b, o, e, _⟩ := ha hh; cases e
    subst hl0
    refine ⟨v, w, ?_, by simpa [bv] using h, ⟨rfl, rfl, rfl, Nat.le_refl _, fun _ _ _ => rfl⟩⟩
    rcases h.2 with ⟨rfl, rfl⟩ | ⟨g, cap', cur, rfl, _, _, hnc, _⟩
    · simp [Builtin.append_, run_underlying Tryd.underlying22, sizeOf, typeInfo, hi, Builtin.lenOf, Builtin.firstCells]
    · simp [Builtin.append_, run_underlying Tryd.underlying22, sizeOf, typeInfo, hi, Builtin.lenOf, Builtin.firstCells, hnc, storeCells]
  | some ad =>
    obtain ⟨v', w', a1, a2, a3, _⟩ := run_append_own (P := Tryd.prog) w base 22 ty 5 i z 1 i.bytes Tryd.underlying22 hi hz hs rfl hzs (by omega) v n xs h ad l.length cap (bv l) (by simp [bv])
      (fun j u hu => by
        have hne : l ≠ [] := fun e => by subst e; simp [bv] at hu
        obtain ⟨b, o, e, _, hr⟩ := ha hne
        injection e with e; subst e
        rw [Addr.add_mid]; exact hr j u hu) (bv_one l) (by simp only [maxLen]; omega)
      (by have : (n + l.length) * i.bytes ≤ 1000000 * 1 := Nat.mul_le_mul hn hby; omega) hb
    exact ⟨v', w', a1, a2, a3⟩
/-- A number's digits, the great ones first. -/
def beD : Nat → Nat → List UInt8
  | 0, _ => []
  | f + 1, n => if n = 0 then [] else beD f (n / 256) ++ [UInt8.ofNat (n % 256)]
def formL (n : Nat) : List UInt8 := UInt8.ofNat (beD 8 n).length :: beD 8 n
theorem beD_len : ∀ f n, (beD f n).length ≤ f
  | 0, _ => Nat.le_refl _
  | f + 1, n => by
    unfold beD
    split
    · exact Nat.zero_le _
    · have := beD_len f (n / 256); simp; omega

section
variable {P : Program} {o : Oper} {a : Act} {w w1 : World} {v p q : Value}
theorem exec_slice_h (ty : TypeId) (x y : Operand) (ho : o.op = .slice ty x none (some y) none) (hx : a.eval x = p) (hy : a.eval y = q) (h : (Instr.sliceAt ty p none (some q) none).run P w = .ok v w) : (execOp a.eval o).run P w = .ok (.value v) w := by
  unfold execOp; simp only [ho, hx, hy, Option.map_some, Option.map_none, Sem.run_bind, h, Result.andThen_ok]; rfl
theorem exec_slice_l (ty : TypeId) (x y : Operand) (ho : o.op = .slice ty x (some y) none none) (hx : a.eval x = p) (hy : a.eval y = q) (h : (Instr.sliceAt ty p (some q) none none).run P w = .ok v w) : (execOp a.eval o).run P w = .ok (.value v) w := by
  unfold execOp; simp only [ho, hx, hy, Option.map_some, Option.map_none, Sem.run_bind, h, Result.andThen_ok]; rfl
end
def Z9 : Array Value := #[.int .u8 0, .int .u8 0, .int .u8 0, .int .u8 0, .int .u8 0, .int .u8 0, .int .u8 0, .int .u8 0, .int .u8 0]
theorem zero9 (w : World) : (zeroValue 147).run Tryd.prog w = .ok (.agg Z9) w := by kernel_rfl

theorem slice9 (X : Nat) {q : Nat} (hq : q ≤ 8) (w : World) : (Instr.sliceAt 147 (.pointer (some ⟨X, 0, none⟩)) (some (.int .i64 q)) none none).run Tryd.prog w = .ok (.slice (some ⟨X, q, none⟩) (9 - q) (9 - q)) w := by
  have hl : Tryd.prog.arrayLen 147 = 9 := by kernel_rfl
  rw [run_sliceAt_array_l _ _ _ (by kernel_rfl) _ _ (by omega) (by rw [hl]; omega), hl]
  have : (sizeOf (Tryd.prog.elem 147)).run Tryd.prog w = .ok 1 w := by kernel_rfl
  rw [this]
  simp only [Result.andThen, slicedAt, Int.toNat_natCast]
  rw [if_neg (by omega)]
  congr 2
  unfold Addr.add
  split
  · have : q = 0 := by omega
    subst this; rfl
  · simp
set_option maxHeartbeats 2000000 in
theorem form_ct (n : Nat) (hn : n < 18446744073709551616) (w : World) :
    Calls Tryd.prog 103 #[.int .u64 n] w fun e w' => ∃ v, e = .returned v ∧ ByAt w' v (formL n) ∧ Kept (fun _ => False) w w' := by
  go_enter Tryd.func103, Tryd.ntmps103
  have z9 := zero9 w
  go_wp2_with fail
  go_step3
  go_wp2_with (first
    | (with_reducible refine wpl_alloc 147 rfl rfl z9 ?_
       simp only [World.size_alloc, Act.put, List.getElem_toArray, List.getElem_cons_zero, List.getElem_cons_succ, List.setIfInBounds_toArray, List.set_cons_zero, List.set_cons_succ]))
  go_step3
  go_wp2_with fail
  have k1 : Kept (fun _ => False) w (w.alloc (.cells Z9 147)) := (Kept.refl _ w).alloc _
  have h1 := heap_last w (.cells Z9 147)
  generalize w.alloc (.cells Z9 147) = W at k1 h1 ⊢
  generalize hX : w.heap.size = X at h1 ⊢
  go_loopw [0, 4] (fun x a wr => ∃ (q m : Nat) (ds : List UInt8) (A : List Value), x = .int .u64 m ∧ a = .int .i64 ((q : Int) + 1) ∧ q + 1 + ds.length = 9 ∧ A.length = q + 1 ∧ (∀ f, f = q → beD 8 n = beD f m ++ ds) ∧ m < 256 ^ q ∧ Kept (fun _ => False) w wr ∧ wr.heap[X]? = some (.cells (A ++ bv ds).toArray 147 (0, 0))) (fun _ a _ => (intOf a).toNat)
  case atStart => exact ⟨8, n, [], Z9.toList, rfl, rfl, rfl, rfl, fun f hf => (by subst hf; simp), by omega, k1, h1⟩
  case round =>
    obtain ⟨q, m, ds, A, rfl, rfl, hds, hA, hm, hm2, hkr, hh⟩ := hrel
    have hX2 : X < wr.heap.size := (Array.getElem?_eq_some_iff.1 hh).1
    have hfz : wr.frozen? ⟨X, q, none⟩ = false := by simp [World.frozen?, hh]
    have hlast : A.take q ++ [A[q]] = A := by rw [List.take_append_getElem]; exact List.take_of_length_le (by omega)
    have hc : wr.cell? ⟨X, q, none⟩ = some A[q] := by
      rw [cell_of_row _ _ _ _ _ _ hh]
      simp [List.getElem?_append_left (show q < A.length by omega)]
    have hset : ∀ v, (wr.setCell ⟨X, q, none⟩ v).heap[X]? = some (.cells (A.take q ++ v :: bv ds).toArray 147 (0, 0)) := fun v => by
      rw [heap_setCell_same hh]
      congr 2
      apply Array.ext'
      have hAB : A ++ bv ds = A.take q ++ (A[q] :: bv ds) := by
        have : (A.take q ++ [A[q]]) ++ bv ds = A.take q ++ (A[q] :: bv ds) := by rw [List.append_assoc]; rfl
        rw [hlast] at this; exact this
      rw [Array.toList_setIfInBounds, List.toList_toArray, hAB, List.set_append_right _ _ (by simp; omega), List.toList_toArray]
      rw [show q - (A.take q).length = 0 by simp; omega, List.set_cons_zero]
    have hfm := hm q rfl
    have hks : ∀ v, Kept (fun _ => False) w (wr.setCell ⟨X, q, none⟩ v) := fun v => hkr.setCell (p := ⟨X, q, none⟩) (fun h => by have h : X < w.heap.size := h; omega) v
    have hq9 : (q : Int) ≤ 8 := by omega
    generalize A[q] = v0 at hc hlast
    by_cases h0 : m = 0
    · subst h0
      have hb0 : ∀ f, beD f 0 = [] := fun f => by cases f <;> simp [beD]
      rw [hb0, List.nil_append] at hfm
      have HS := Lib.hid hset
      have HK := Lib.hid hks
      have HF := Lib.hid hfm
      clear hset hks hfm hm
      have sl := slice9 X (q := q) (by omega)
      go_wp2_with fail
      simp only [Exit.noGoto_ret]
      go_ret
      have hh2 := HS.out (.int .u8 (8 - (q : Int)))
      have hfl : formL n = UInt8.ofNat (8 - q) :: ds := by
        unfold formL; rw [HF.out]; congr 2; omega
      have hbl : bv (formL n) = .int .u8 (8 - (q : Int)) :: bv ds := by
        rw [hfl]
        show Value.int .u8 ((UInt8.ofNat (8 - q)).toNat : Int) :: bv ds = _
        have : ((UInt8.ofNat (8 - q)).toNat : Int) = 8 - (q : Int) := by
          have : (UInt8.ofNat (8 - q)).toNat = 8 - q := by simp; omega
          rw [this]; omega
        rw [this]
      refine ⟨_, rfl, ⟨some ⟨X, q, none⟩, 9 - q, ?_, ?_, fun _ => ⟨X, q, rfl, (Array.getElem?_eq_some_iff.1 hh2).1, fun j u hu => ?_⟩⟩, HK.out _⟩
      · congr 1; rw [hfl]; simp; omega
      · rw [hfl]; simp [maxLen]; omega
      · rw [cell_of_row _ _ _ _ _ _ hh2, ← hu, hbl]
        have hl : (A.take q).length = q := by simp; omega
        simp only [List.getElem?_toArray]
        rw [List.getElem?_append_right (by omega), hl]
        congr 1; omega
    · have hq1 : 1 ≤ q := by
        rcases Nat.eq_zero_or_pos q with h' | h'
        · subst h'; simp at hm2; omega
        · exact h'
      have e0 : ((m : Int) == 0) = false := by simp; omega
      have HS := Lib.hid hset
      have HK := Lib.hid hks
      have HF := Lib.hid hfm
      clear hset hks hfm hm
      go_wp2_with fail
      obtain ⟨r, rfl⟩ : ∃ r, q = r + 1 := ⟨q - 1, by omega⟩
      refine ⟨⟨r, m / 256, UInt8.ofNat (m % 256) :: ds, A.take (r + 1), by simp, by simp, by simp; omega, by simp; omega, fun f hf => ?_, ?_, HK.out _, ?_⟩, ?_⟩
      · subst hf
        rw [HF.out]
        conv => lhs; unfold beD
        rw [if_neg h0]; simp
      · have : 256 ^ (r + 1) = 256 ^ r * 256 := Nat.pow_succ ..
        exact Nat.div_lt_of_lt_mul (by omega)
      · rw [HS.out]
        congr 2
        show _ = (A.take (r + 1) ++ (Value.int .u8 ((UInt8.ofNat (m % 256)).toNat : Int) :: bv ds)).toArray
        have : ((UInt8.ofNat (m % 256)).toNat : Int) = (m : Int) % 256 := by
          have : (UInt8.ofNat (m % 256)).toNat = m % 256 := by simp
          rw [this]; omega
        rw [this]
      · simp [intOf]; omega
end Go.Proofs.YthachckofghppaaDoor
