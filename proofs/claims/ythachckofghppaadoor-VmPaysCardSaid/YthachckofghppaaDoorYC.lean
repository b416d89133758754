/- Slices of bytes; bytes.Count, Index, Split at ten (picked out of LD, LL, LM). -/
import Derived.Test.YthachckofghppaaDoorYB
import Derived.Test.YthachckofghppaaDoorWC
import Derived.Test.YthachckofghppaaDoorRF
import Derived.Test.YthachckofghppaaDoorTI
import Derived.Deep.OwnRows
import Derived.Laws.AppendOwn
import Derived.Laws.Externs
import Derived.Laws.IdiomStrings
import Derived.Laws.MakeOwn
import Derived.Laws.OwnMore
import Derived.Lib.BytesEntry
import Derived.Lib.IndexLaws
import Derived.Lib.Overlaps
import Derived.Lib.SlBytesConst
import Derived.Lib.SliceRun
import Derived.WalkMore
namespace Go.Proofs.YthachckofghppaaDoor
open Go.RowKit
set_option maxRecDepth 100000
set_option linter.unusedSimpArgs false
set_option linter.unusedVariables false

theorem ByC.own {w : World} {base n : Nat} {v : Value} {l : List UInt8} (h : w.ownsRow base 5 1 v n (bv l)) : ByC w v l := by
  refine ⟨ByAt.own h, ?_⟩
  have h0 := h.1
  rw [bv_len, Nat.mul_one] at h0
  subst h0
  rcases h.2 with ⟨rfl, h0⟩ | ⟨g, cap, cur, rfl, _, _, hn, _⟩
  · exact ⟨none, 0, by rw [h0], by omega⟩
  · exact ⟨_, cap, rfl, hn⟩
theorem ByC.cap {w : World} {a : Option Addr} {n c : Nat} {l : List UInt8} (h : ByC w (.slice a n c) l) : n = l.length ∧ n ≤ c := by
  obtain ⟨_, a', c', e, hc⟩ := h
  injection e with e1 e2 e3
  subst e2 e3
  exact ⟨rfl, hc⟩
theorem slice_lh (a : Option Addr) (n c : Nat) {i j : Nat} (hij : i ≤ j) (hjc : j ≤ c) (w : World) : (Instr.sliceAt 22 (.slice a n c) (some (.int .i64 (i : Int))) (some (.int .i64 (j : Int))) none).run Tryd.prog w = .ok (.slice (if c = i then a else a.map (·.add i)) (j - i) (c - i)) w := by
  rw [run_sliceAt_slice _ _ _ _ _ _ rfl, run_slice_lh _ _ _ _ _ rfl _ _ _ _ (by omega) (by omega) (by omega), sizeOf1]
  simp [Result.andThen, sliced]
theorem ByC.mid {w : World} {a : Option Addr} {n c : Nat} {l : List UInt8} (h : ByC w (.slice a n c) l) {i j : Nat} (hij : i ≤ j) (hjn : j ≤ n) : ∃ a' c', (∀ w', (Instr.sliceAt 22 (.slice a n c) (some (.int .i64 (i : Int))) (some (.int .i64 (j : Int))) none).run Tryd.prog w' = .ok (.slice a' (j - i) c') w') ∧ ByC w (.slice a' (j - i) c') ((l.drop i).take (j - i)) := by
  obtain ⟨hn, hc⟩ := h.cap
  have hd : ((l.drop i).take (j - i)).length = j - i := by rw [List.length_take, List.length_drop]; omega
  refine ⟨if c = i then a else a.map (·.add i), c - i, fun w' => slice_lh a n c hij (by omega) w', ?_, _, _, by rw [hd], by omega⟩
  have h1' := h.1
  obtain ⟨_, _, _, hm, _⟩ := h1'
  refine ⟨_, c - i, by rw [hd], by omega, fun hne => ?_⟩
  have hlt : i < j := by
    rcases Nat.lt_or_ge i j with h' | h'
    · exact h'
    · exact absurd (List.eq_nil_of_length_eq_zero (by rw [hd]; omega)) hne
  have hlne : l ≠ [] := fun e => by subst e; simp at hn; omega
  obtain ⟨b, o, rfl, hb, hr⟩ := h.1.cells hlne
  rw [if_neg (by omega)]
  refine ⟨b, o + i, by simp [Addr.add], hb, fun k u hu => ?_⟩
  have hk := (List.getElem?_eq_some_iff.1 hu).1
  rw [bv_len, hd] at hk
  have := hr (i + k) u (by rw [← hu]; simp [bv, List.getElem?_take, hk])
  rw [show o + i + k = o + (i + k) by omega]; exact this
/-- The i-th byte lies in its cell. -/
theorem ByC.byte {w : World} {a : Option Addr} {n c : Nat} {l : List UInt8} (h : ByC w (.slice a n c) l) {i : Nat} (hi : i < l.length) :
    ∃ b o, a = some ⟨b, o, none⟩ ∧ b < w.heap.size ∧ w.cell? ⟨b, o + i, none⟩ = some (.int .u8 ((l.getD i 0).toNat : Int)) := by
  obtain ⟨b, o, e, hb, hr⟩ := h.1.cells (fun e => by subst e; simp at hi)
  refine ⟨b, o, e, hb, hr i _ ?_⟩
  simp [bv, List.getD_eq_getElem?_getD, List.getElem?_eq_getElem hi]
section
variable {P : Program} {o : Oper} {a : Act} {w w1 : World} {v p q q2 : Value}
theorem exec_slice_lh (ty : TypeId) (x y z : Operand) (ho : o.op = .slice ty x (some y) (some z) none) (hx : a.eval x = p) (hy : a.eval y = q) (hz : a.eval z = q2) (h : (Instr.sliceAt ty p (some q) (some q2) none).run P w = .ok v w) : (execOp a.eval o).run P w = .ok (.value v) w := by
  unfold execOp; simp only [ho, hx, hy, hz, Option.map_some, Option.map_none, Sem.run_bind, h, Result.andThen_ok]; rfl
theorem exec_slice_hm (ty : TypeId) (x y z : Operand) (ho : o.op = .slice ty x none (some y) (some z)) (hx : a.eval x = p) (hy : a.eval y = q) (hz : a.eval z = q2) (h : (Instr.sliceAt ty p none (some q) (some q2)).run P w = .ok v w) : (execOp a.eval o).run P w = .ok (.value v) w := by
  unfold execOp; simp only [ho, hx, hy, hz, Option.map_some, Option.map_none, Sem.run_bind, h, Result.andThen_ok]; rfl
end
theorem run_bytesOf {w : World} {a : Option Addr} {n c : Nat} {l : List UInt8} (h : ByAt w (.slice a n c) l) : (Extern.Bytes.bytesOf (.slice a n c)).run Tryd.prog w = .ok ⟨l.toArray⟩ w := by
  obtain ⟨a', c', e, h2, h3⟩ := h
  injection e with e1 e2 e3
  subst e1 e2 e3
  cases a with
  | none =>
    have hl0 : l = [] := by
      apply Classical.byContradiction; intro hh
      obtain ⟨b, o, e, _⟩ := h3 hh; cases e
    subst hl0
    rfl
  | some ad =>
    have hl := Lib.run_loadBytesX (P := Tryd.prog) w (l.map fun b => (b.toNat : Int)) ad .empty (fun j x hj => by
      rw [List.getElem?_map] at hj
      cases hx : l[j]? with
      | none => rw [hx] at hj; cases hj
      | some y =>
        rw [hx] at hj
        injection hj with hj
        obtain ⟨b, o, e, _, hr⟩ := h3 (fun e => by subst e; simp at hx)
        injection e with e; subst e
        rw [Addr.add_mid, hr j (.int .u8 x) (by simp [bv, hx, hj])])
    rw [List.length_map] at hl
    have e1 : Lib.bytesOf (l.map fun b => (b.toNat : Int)) = l := by
      unfold Lib.bytesOf
      rw [List.map_map]
      conv => rhs; rw [← List.map_id l]
      apply List.map_congr_left
      intro x _
      simp
    rw [e1] at hl
    show (Extern.Bytes.loadBytes ad l.length .empty).run Tryd.prog w = _
    rw [hl]
    congr 1
    apply ByteArray.ext
    show (#[] : Array UInt8) ++ l.toArray = l.toArray
    simp
theorem run_count8 {w : World} {a : Option Addr} {n c : Nat} {l : List UInt8} (h : ByAt w (.slice a n c) l) : (Extern.BytealgCount.count #[.slice a n c, .int .u8 10]).run Tryd.prog w = .ok (.int .i64 (l.count 10 : Nat)) w := by
  have hs := Lib.run_countString (P := Tryd.prog) ⟨l.toArray⟩ 10 w
  change Sem.run Tryd.prog (do
    let b ← Extern.Bytes.bytesOf (.slice a n c)
    let c' ← Extern.Bytes.asByte (.int .u8 10)
    pure (goInt (b.foldl (fun n x => if x == c' then n + 1 else n) (0 : Nat)))) w = _
  change Sem.run Tryd.prog (do
    let b ← (pure ⟨l.toArray⟩ : Sem ByteArray)
    let c' ← Extern.Bytes.asByte (.int .u8 10)
    pure (goInt (b.foldl (fun n x => if x == c' then n + 1 else n) (0 : Nat)))) w = _ at hs
  rw [Sem.run_bind, run_bytesOf h]
  rw [Sem.run_bind] at hs
  exact hs
theorem run_index8 {w : World} {a : Option Addr} {n c : Nat} {l : List UInt8} (h : ByAt w (.slice a n c) l) : (Extern.BytealgIndexByte.indexByte #[.slice a n c, .int .u8 10]).run Tryd.prog w = .ok (.int .i64 (Lib.indexByte l 10)) w := by
  have hs := Lib.run_indexByteString (P := Tryd.prog) ⟨l.toArray⟩ 10 w
  change Sem.run Tryd.prog (do
    let b ← Extern.Bytes.bytesOf (.slice a n c)
    let c ← Extern.Bytes.asByte (.int .u8 10)
    match (List.range b.size).find? fun i => b[i]! == c with
    | some i => pure (goInt i)
    | none => pure (goInt (-1))) w = _
  change Sem.run Tryd.prog (do
    let b ← (pure ⟨l.toArray⟩ : Sem ByteArray)
    let c ← Extern.Bytes.asByte (.int .u8 10)
    match (List.range b.size).find? fun i => b[i]! == c with
    | some i => pure (goInt i)
    | none => pure (goInt (-1))) w = _ at hs
  rw [Sem.run_bind, run_bytesOf h]
  rw [Sem.run_bind] at hs
  exact hs
set_option maxHeartbeats 1000000 in
theorem count_ct {w : World} {a : Option Addr} {n c : Nat} {l : List UInt8} (h : ByAt w (.slice a n c) l) {b d : Nat} (hb : w.cell? ⟨b, 0, none⟩ = some (.int .u8 10)) :
    Calls Tryd.prog 54 #[.slice a n c, .slice (some ⟨b, 0, none⟩) 1 d] w fun e w' => e = .returned (.int .i64 (l.count 10 : Nat)) ∧ w' = w := by
  have rc := run_count8 h
  go_enter Tryd.func54, Tryd.ntmps54
  go_wp2_with fail
  rw [run_callFunc_extern Tryd.func73 (by kernel_rfl) (by kernel_rfl) (by kernel_rfl) (e := Extern.BytealgCount.count) (by kernel_rfl), rc]
  simp only [Result.andThen]
  rw [Oper.upon_value]
  go_wp2_with fail
  go_ret
  exact ⟨rfl, rfl⟩
set_option maxHeartbeats 1000000 in
theorem indexByte_ct {w : World} {a : Option Addr} {n c : Nat} {l : List UInt8} (h : ByAt w (.slice a n c) l) :
    Calls Tryd.prog 74 #[.slice a n c, .int .u8 10] w fun e w' => e = .returned (.int .i64 (Lib.indexByte l 10)) ∧ w' = w := by
  have rc := run_index8 h
  go_enter Tryd.func74, Tryd.ntmps74
  go_wp2_with fail
  rw [run_callFunc_extern Tryd.func96 (by kernel_rfl) (by kernel_rfl) (by kernel_rfl) (e := Extern.BytealgIndexByte.indexByte) (by kernel_rfl), rc]
  simp only [Result.andThen]
  rw [Oper.upon_value]
  go_wp2_with fail
  go_ret
  exact ⟨rfl, rfl⟩
set_option maxRecDepth 100000 in
set_option maxHeartbeats 1000000 in
theorem index_ct {w : World} {a : Option Addr} {n c : Nat} {l : List UInt8} (h : ByAt w (.slice a n c) l) {b d : Nat} (hb : w.cell? ⟨b, 0, none⟩ = some (.int .u8 10)) :
    Calls Tryd.prog 55 #[.slice a n c, .slice (some ⟨b, 0, none⟩) 1 d] w fun e w' => e = .returned (.int .i64 (Lib.indexByte l 10)) ∧ w' = w := by
  have rc := indexByte_ct h
  go_enter Tryd.func55, Tryd.ntmps55
  go_wp2_with fail
  refine rc.mono ?_
  rintro e w' ⟨rfl, hw⟩
  subst hw
  go_wp2_with fail
  go_ret
  exact ⟨rfl, rfl⟩
/-- The pieces between the tens. -/
def cutB : List UInt8 → List (List UInt8)
  | [] => [[]]
  | c :: r => if c == 10 then [] :: cutB r else match cutB r with
    | [] => [[c]]
    | p :: ps => (c :: p) :: ps
theorem cutB_ne : ∀ l, cutB l ≠ []
  | [] => by simp [cutB]
  | c :: r => by
    unfold cutB
    split
    · simp
    · split <;> simp
theorem cutB_len : ∀ l, (cutB l).length = l.count 10 + 1
  | [] => rfl
  | c :: r => by
    have ih := cutB_len r
    unfold cutB
    rw [List.count_cons]
    by_cases h : (c == 10) = true
    · simp [h, ih]
    · simp only [h, if_false, Bool.false_eq_true]
      cases hc : cutB r with
      | nil => exact absurd hc (cutB_ne r)
      | cons p ps => rw [hc] at ih; simp at ih ⊢; omega
theorem cutB_none : ∀ l : List UInt8, l.count 10 = 0 → cutB l = [l]
  | [], _ => rfl
  | c :: r, h => by
    rw [List.count_cons] at h
    have h1 : ¬ (c == 10) = true := fun e => by simp [e] at h
    have h2 : r.count 10 = 0 := by omega
    unfold cutB
    simp only [h1, if_false, Bool.false_eq_true, cutB_none r h2]
theorem index_hit : ∀ (l : List UInt8), l.count 10 ≠ 0 → ∃ i : Nat, Lib.indexByte l 10 = i ∧ i < l.length ∧ cutB l = l.take i :: cutB (l.drop (i + 1)) ∧ (l.drop (i + 1)).count 10 + 1 = l.count 10
  | [], h => absurd rfl h
  | c :: r, h => by
    by_cases h1 : (c == 10) = true
    · refine ⟨0, by unfold Lib.indexByte; rw [if_pos h1]; rfl, by simp, ?_, ?_⟩
      · conv => lhs; unfold cutB
        rw [if_pos h1]; rfl
      · rw [List.count_cons, if_pos h1]; rfl
    · have hr : r.count 10 ≠ 0 := by rw [List.count_cons, if_neg h1] at h; omega
      obtain ⟨i, e1, e2, e3, e4⟩ := index_hit r hr
      refine ⟨i + 1, ?_, by simp; omega, ?_, ?_⟩
      · unfold Lib.indexByte
        rw [if_neg h1, e1]
        have : ((i : Int) == -1) = false := by simp
        rw [this]; simp
      · conv => lhs; unfold cutB
        rw [if_neg h1, e3]; rfl
      · rw [List.count_cons, if_neg h1]; simpa using e4
theorem count_le_len (l : List UInt8) : l.count 10 ≤ l.length := List.count_le_length
theorem ByC.head {w : World} {a : Option Addr} {n c : Nat} {l : List UInt8} (h : ByC w (.slice a n c) l) {i : Nat} (hi : i ≤ l.length) : ByC w (.slice a i i) (l.take i) := by
  obtain ⟨h1, a', c', e, hc⟩ := h
  injection e with e1 e2 e3
  subst e1 e2 e3
  have hd : (l.take i).length = i := by rw [List.length_take]; omega
  have hm : l.length ≤ maxLen := by obtain ⟨_, _, _, hm, _⟩ := h1; exact hm
  refine ⟨⟨_, i, by rw [hd], by omega, fun hne => ?_⟩, _, _, by rw [hd], by omega⟩
  obtain ⟨b, o, rfl, hb, hr⟩ := h1.cells (fun e => by subst e; simp at hne)
  refine ⟨b, o, rfl, hb, fun j u hu => hr j u ?_⟩
  have hj := (List.getElem?_eq_some_iff.1 hu).1
  rw [bv_len, hd] at hj
  rw [← hu]; simp [bv, List.getElem?_take, hj]
theorem slice_hm (a : Option Addr) (n c : Nat) {i : Nat} (hi : i ≤ c) (w : World) : (Instr.sliceAt 22 (.slice a n c) none (some (.int .i64 (i : Int))) (some (.int .i64 (i : Int)))).run Tryd.prog w = .ok (.slice a i i) w := by
  have hi' : ¬ (c : Int) < (i : Int) := by omega
  go_simp
theorem minNat (a b : Nat) (h : a ≤ b) : min ((a : Int) + 1) ((b : Int) + 1) = (a : Int) + 1 := by omega
/-- The cells of the array under way. -/
def rowV (done : List Value) (N : Nat) : Array Value := (done ++ List.replicate (N - done.length) (Value.slice none 0 0)).toArray
theorem rowV_set {done : List Value} {N : Nat} (h : done.length < N) (v : Value) : (rowV done N).setIfInBounds done.length v = rowV (done ++ [v]) N := by
  unfold rowV
  apply Array.ext'
  rw [Array.toList_setIfInBounds, List.toList_toArray, List.set_append_right _ _ (Nat.le_refl _), Nat.sub_self]
  obtain ⟨m, hm⟩ : ∃ m, N - done.length = m + 1 := ⟨N - done.length - 1, by omega⟩
  rw [hm, List.replicate_succ, List.set_cons_zero]
  simp
  omega
theorem rowV_at {done : List Value} {N : Nat} (h : done.length < N) : (rowV done N)[done.length]? = some (.slice none 0 0) := by
  unfold rowV
  rw [List.getElem?_toArray, List.getElem?_append_right (Nat.le_refl _), Nat.sub_self]
  obtain ⟨m, hm⟩ : ∃ m, N - done.length = m + 1 := ⟨N - done.length - 1, by omega⟩
  rw [hm]; rfl
theorem rowV_full {done : List Value} {N : Nat} (h : done.length = N) : rowV done N = done.toArray := by unfold rowV; rw [h]; simp
theorem rowV_made (N : Nat) : madeCells #[Value.slice none 0 0] N = rowV [] N := by
  unfold rowV
  apply Array.ext'
  rw [toList_madeCells_one]; simp
/-- The pieces lie in l's own memory. -/
def PiecesAt (w : World) (vs : List Value) (ls : List (List UInt8)) : Prop := vs.length = ls.length ∧ ∀ (j : Nat) p, ls[j]? = some p → ∃ x, vs[j]? = some x ∧ ByC w x p
theorem PiecesAt.snoc {w : World} {vs : List Value} {ls : List (List UInt8)} (h : PiecesAt w vs ls) {x : Value} {p : List UInt8} (hx : ByC w x p) : PiecesAt w (vs ++ [x]) (ls ++ [p]) := by
  refine ⟨by simp [h.1], fun j q hq => ?_⟩
  by_cases e : j < ls.length
  · rw [List.getElem?_append_left e] at hq
    obtain ⟨y, h2, h3⟩ := h.2 j q hq
    exact ⟨y, by rw [List.getElem?_append_left (by rw [h.1]; exact e)]; exact h2, h3⟩
  · have hj := (List.getElem?_eq_some_iff.1 hq).1
    simp at hj
    obtain rfl : j = ls.length := by omega
    rw [List.getElem?_append_right (Nat.le_refl _)] at hq
    simp at hq
    subst hq
    exact ⟨x, by rw [List.getElem?_append_right (by rw [h.1]; exact Nat.le_refl _), h.1]; simp, hx⟩
/-- What Split hands back. -/
def SplitOut (w : World) (l : List UInt8) (e : Ending) (w' : World) : Prop := Kept (fun _ => False) w w' ∧ ∃ vs, PiecesAt w vs (cutB l) ∧
  e = .returned (.slice (some ⟨w.heap.size, 0, none⟩) (cutB l).length (cutB l).length) ∧ w'.heap[w.heap.size]? = some (.cells vs.toArray 22 (0, 0))
theorem sizeOfR (w : World) : (sizeOf (Tryd.prog.elem 75)).run Tryd.prog w = .ok 1 w := by kernel_rfl
theorem make_rows (N : Nat) (hN : N ≤ 200000) (w : World) : (Instr.makeSlice 75 (.int .i64 (N : Int)) (.int .i64 (N : Int))).run Tryd.prog w = .ok (.slice (some ⟨w.heap.size, 0, none⟩) N N) (w.alloc (.cells (rowV [] N) 22)) := by
  rw [← rowV_made]
  exact run_make_row' (P := Tryd.prog) 75 22 (.slice none 0 0) 24 Tryd.underlying75 (by kernel_rfl) rfl .i64 .i64 N (by omega) (by omega) w
set_option maxRecDepth 100000 in
set_option maxHeartbeats 4000000 in
theorem genSplit_ct {w : World} {a : Option Addr} {n c : Nat} {l : List UInt8} (h : ByC w (.slice a n c) l) (hl : l.length ≤ 100000) {b d : Nat} (hb : w.cell? ⟨b, 0, none⟩ = some (.int .u8 10)) :
    Calls Tryd.prog 58 #[.slice a n c, .slice (some ⟨b, 0, none⟩) 1 d, .int .i64 0, .int .i64 (-1)] w (SplitOut w l) := by
  obtain ⟨rfl, hc⟩ := h.cap
  have cc := count_ct h.1 (d := d) hb
  have hcl := count_le_len l
  obtain ⟨N, hN⟩ : ∃ N, l.count 10 = N := ⟨_, rfl⟩
  rw [hN] at cc hcl
  have hmin := minNat N l.length hcl
  have hN5 : N ≤ 100000 := by omega
  have mk := make_rows (N + 1) (by omega) w
  rw [Int.natCast_add] at mk
  have hbl : b < w.heap.size := by
    rcases Nat.lt_or_ge b w.heap.size with h' | h'
    · exact h'
    · simp [World.cell?, Array.getElem?_eq_none h'] at hb
  have ka : Kept (fun _ => False) w (w.alloc (.cells (rowV [] (N + 1)) 22)) := (Kept.refl _ w).alloc _
  have hA := heap_last w (.cells (rowV [] (N + 1)) 22)
  go_enter Tryd.func58, Tryd.ntmps58
  go_wp2_with fail
  refine cc.mono ?_
  rintro e w1 ⟨rfl, hw⟩
  subst hw
  go_wp2_with (first
    | (refine wpl_val rfl (exec_make 75 _ _ rfl rfl rfl mk) ?_))
  obtain ⟨A, hAe⟩ : ∃ A, w1.heap.size = A := ⟨_, rfl⟩
  have hP0 : PiecesAt w1 [] [] := ⟨rfl, fun j p hp => by simp at hp⟩
  have hb1 : (w1.alloc (.cells (rowV [] (N + 1)) 22)).cell? ⟨b, 0, none⟩ = some (.int .u8 10) := by rw [ka.cell (p := ⟨b, 0, none⟩) hbl not_false]; exact hb
  rw [hAe] at hA
  generalize w1.alloc (.cells (rowV [] (N + 1)) 22) = W at ka hA hb1 ⊢
  clear mk cc hmin
  rw [hAe]
  go_loopw [0, 10] (fun s i wr => ∃ (done : List Value) (D : List (List UInt8)) (t : List UInt8) (a' : Option Addr) (c' : Nat), s = .slice a' t.length c' ∧ i = .int .i64 done.length ∧ ByC w1 (.slice a' t.length c') t ∧ PiecesAt w1 done D ∧ cutB l = D ++ cutB t ∧ done.length + t.count 10 = N ∧ t.length ≤ 100000 ∧ wr.heap[A]? = some (.cells (rowV done (N + 1)) 22 (0, 0)) ∧ Kept (fun _ => False) w1 wr) (fun _ i _ => N - (intOf i).toNat)
  case atStart => exact ⟨[], [], l, a, c, rfl, rfl, h, hP0, rfl, by simpa using hN, hl, hA, ka⟩
  case round =>
    obtain ⟨done, D, t, a', c', rfl, rfl, hs, hD, hcut, hcnt, ht, hrow, hk⟩ := hrel
    have hAl : A < wr.heap.size := (Array.getElem?_eq_some_iff.1 hrow).1
    have hbr : wr.cell? ⟨b, 0, none⟩ = some (.int .u8 10) := by rw [hk.cell (p := ⟨b, 0, none⟩) hbl not_false]; exact hb
    have hfz : wr.frozen? ⟨A, done.length, none⟩ = false := by simp [World.frozen?, hrow]
    have hset : ∀ v, done.length < N + 1 → (wr.setCell ⟨A, done.length, none⟩ v).heap[A]? = some (.cells (rowV (done ++ [v]) (N + 1)) 22 (0, 0)) ∧ Kept (fun _ => False) w1 (wr.setCell ⟨A, done.length, none⟩ v) := fun v hv =>
      ⟨by rw [heap_setCell_same hrow, rowV_set hv], hk.setCell (p := ⟨A, done.length, none⟩) (fun e => by have e : A < w1.heap.size := e; omega) v⟩
    have hcell : done.length < N + 1 → wr.cell? ⟨A, done.length, none⟩ = some (.slice none 0 0) := fun hv => by rw [cell_of_row _ _ _ _ _ _ hrow]; exact rowV_at hv
    by_cases hlt : done.length < N
    · obtain ⟨i, e1, e2, e3, e4⟩ := index_hit t (by omega)
      have ic := index_ct (hs.1.kept hk) (d := d) hbr
      rw [e1] at ic
      have hc' : t.length ≤ c' := hs.cap.2
      have sl1 := fun w' => slice_hm a' t.length c' (i := i) (by omega) w'
      obtain ⟨a2, c2, sl2, hs2⟩ := hs.drop (i := i + 1) (by omega)
      have hs2' : ByC w1 (.slice a2 (t.drop (i + 1)).length c2) (t.drop (i + 1)) := by rw [List.length_drop]; exact hs2
      have sl2' : ∀ w', (Instr.sliceAt 22 (.slice a' t.length c') (some (.int .i64 ((i : Int) + 1))) none none).run Tryd.prog w' = .ok (.slice a2 (t.length - (i + 1)) c2) w' := sl2
      obtain ⟨hrow2, hk2⟩ := hset (.slice a' i i) (by omega)
      have hc1 := hcell (by omega)
      have c0 : ¬ ((i : Int) < 0) := by omega
      have hD2 := hD.snoc (hs.head (i := i) (by omega))
      have hlz : (done.length : Int) < (N : Int) + 1 := by omega
      have hlz2 : decide ((done.length : Int) < (N : Int)) = true := decide_eq_true (by omega)
      have HF := Lib.hid (And.intro hD2 (And.intro hs2' (And.intro hrow2 hk2)))
      have HC := Lib.hid (And.intro hcut (And.intro e3 (And.intro e4 hcnt)))
      clear hset hcell hD hD2 hs2 hs2' hrow2 hk2 hcut e3 e4 hcnt sl2 e1 hs h hP0 hN hcl
      go_wp2_with fail
      refine ic.mono ?_
      rintro e w2 ⟨rfl, hw⟩
      subst hw
      go_wp2_with (first
        | (refine wpl_val rfl (exec_slice_hm 22 _ _ _ rfl rfl rfl rfl (sl1 _)) ?_)
        | (refine wpl_val rfl (exec_slice_l 22 _ _ rfl rfl rfl (sl2' _)) ?_))
      obtain ⟨hD2, hs2, hrow2, hk2⟩ := HF.out
      obtain ⟨hcut, e3, e4, hcnt⟩ := HC.out
      have hl2 : (t.drop (i + 1)).length = t.length - (i + 1) := List.length_drop
      have hlen2 : (done ++ [Value.slice a' i i]).length = done.length + 1 := by simp
      go_roundw
      case rel => exact ⟨done ++ [.slice a' i i], D ++ [t.take i], t.drop (i + 1), a2, c2, by rw [hl2], by rw [hlen2]; go_num, hs2, hD2, by rw [hcut, e3]; simp, by rw [hlen2]; omega, by omega, hrow2, hk2⟩
      case measure => simp [intOf]; omega
    · have hdN : done.length = N := by omega
      have ht0 : t.count 10 = 0 := by omega
      have hfin : PiecesAt w1 (done ++ [.slice a' t.length c']) (cutB l) := by rw [hcut, cutB_none t ht0]; exact hD.snoc hs
      have hlen : (cutB l).length = N + 1 := by rw [cutB_len, hN]
      obtain ⟨hrow2, hk2⟩ := hset (.slice a' t.length c') (by omega)
      rw [rowV_full (by simp; omega)] at hrow2
      have hc1 := hcell (by omega)
      have hlz : (done.length : Int) < (N : Int) + 1 := by omega
      have hlz2 : decide ((done.length : Int) < (N : Int)) = false := decide_eq_false (by omega)
      have sl3 : ∀ w', (Instr.sliceAt 75 (.slice (some ⟨A, 0, none⟩) (N + 1) (N + 1)) none (some (.int .i64 ((done.length : Int) + 1))) none).run Tryd.prog w' = .ok (.slice (some ⟨A, 0, none⟩) (N + 1) (N + 1)) w' := fun w' => by
        rw [hdN, run_sliceAt_slice _ _ _ _ _ _ rfl, run_slice_h _ _ _ _ _ rfl _ _ (by omega) (by omega), sizeOfR]
        simp [Result.andThen, sliced, Addr.add, show ((N : Int) + 1).toNat = N + 1 by omega]
      have HF : SplitOut w1 l (.returned (.slice (some ⟨A, 0, none⟩) (N + 1) (N + 1))) (wr.setCell ⟨A, done.length, none⟩ (.slice a' t.length c')) := by
        refine ⟨hk2, _, hfin, ?_, ?_⟩
        · rw [hAe, hlen]
        · rw [hAe]; exact hrow2
      have HF := Lib.hid HF
      clear hset hcell hD hs hrow2 hk2 hcut hcnt h hP0 hN hcl hfin hlen ht0 hdN
      go_wp2_with fail
      go_ret
      exact HF.out
set_option maxHeartbeats 1000000 in
theorem split_ct {w : World} {a : Option Addr} {n c : Nat} {l : List UInt8} (h : ByC w (.slice a n c) l) (hl : l.length ≤ 100000) {b d : Nat} (hb : w.cell? ⟨b, 0, none⟩ = some (.int .u8 10)) :
    Calls Tryd.prog 41 #[.slice a n c, .slice (some ⟨b, 0, none⟩) 1 d] w (SplitOut w l) := by
  have gc := genSplit_ct h hl (d := d) hb
  go_enter Tryd.func41, Tryd.ntmps41
  go_wp2_with fail
  refine gc.mono ?_
  rintro e W ⟨k, vs, hp, rfl, hv⟩
  have HF : SplitOut w l (.returned (.slice (some ⟨w.heap.size, 0, none⟩) (cutB l).length (cutB l).length)) W := ⟨k, vs, hp, rfl, hv⟩
  clear gc k hp hv h
  go_wp2_with fail
  go_ret
  exact HF
end Go.Proofs.YthachckofghppaaDoor
