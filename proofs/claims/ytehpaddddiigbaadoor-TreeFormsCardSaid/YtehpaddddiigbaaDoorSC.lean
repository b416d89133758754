/- Arrays of numbers as blocks; digits, above. -/
import Derived.Test.YtehpaddddiigbaaDoorSB
namespace Go.Proofs.YtehpaddddiigbaaDoor
open Go.RowKit
set_option maxRecDepth 100000
set_option linter.unusedSimpArgs false
set_option linter.unusedVariables false

/-- Numbers of one kind as cells. -/
def kv (k : IntKind) (l : List Nat) : List Value := l.map fun (n : Nat) => Value.int k (n : Int)
theorem kv_len (k : IntKind) (l : List Nat) : (kv k l).length = l.length := by simp [kv]
theorem kv_set (k : IntKind) (l : List Nat) (j v : Nat) : kv k (l.set j v) = (kv k l).set j (.int k (v : Int)) := by simp [kv, List.map_set]
theorem kv_one (k : IntKind) (l : List Nat) : (kv k l).toArray.all (·.oneCell') = true := by
  rw [Array.all_eq_true]
  intro i hi
  simp only [List.getElem_toArray, kv, List.getElem_map]
  rfl
/-- A block that holds an array of numbers. -/
def Arr (w : World) (X : Nat) (t : TypeId) (k : IntKind) (l : List Nat) : Prop := w.heap[X]? = some (.cells (kv k l).toArray t (0, 0))
theorem Arr.lt {w : World} {X : Nat} {t : TypeId} {k : IntKind} {l : List Nat} (h : Arr w X t k l) : X < w.heap.size := (Array.getElem?_eq_some_iff.1 h).1
theorem Arr.cell {w : World} {X : Nat} {t : TypeId} {k : IntKind} {l : List Nat} (h : Arr w X t k l) {j : Nat} (hj : j < l.length) : w.cell? ⟨X, j, none⟩ = some (.int k (l.getD j 0 : Nat)) := by
  rw [cell_of_row _ _ _ _ _ _ h]
  simp [kv, hj, List.getElem?_eq_getElem]
theorem Arr.frozen {w : World} {X : Nat} {t : TypeId} {k : IntKind} {l : List Nat} (h : Arr w X t k l) (j : Nat) : w.frozen? ⟨X, j, none⟩ = false := by
  have h' : w.heap[X]? = some (.cells (kv k l).toArray t (0, 0)) := h
  simp [World.frozen?, h']
theorem Arr.set {w : World} {X : Nat} {t : TypeId} {k : IntKind} {l : List Nat} (h : Arr w X t k l) (j v : Nat) : Arr (w.setCell ⟨X, j, none⟩ (.int k (v : Int))) X t k (l.set j v) := by
  unfold Arr
  rw [heap_setCell_same h, kv_set]
  simp
theorem Arr.stay {S : Nat → Prop} {w w' : World} {X : Nat} {t : TypeId} {k : IntKind} {l : List Nat} (h : Arr w X t k l) (hk : Kept S w w') (hS : ¬ S X) : Arr w' X t k l := (hk.block X h.lt hS).trans h
theorem Arr.load {P : Program} {t ty : TypeId} {d : TypeDesc} (hu : P.underlying ty = some d) (hd : d.isRow = true) {w : World} {X : Nat} {k : IntKind} {l : List Nat} (h : Arr w X t k l) (hi : (P.info? ty).map (·.size) = some l.length) :
    (Instr.loadAt ty (.pointer (some ⟨X, 0, none⟩))).run P w = .ok ((Value.agg (List.toArray (kv k l)))) w := load_row hu hd h (by rw [hi]; simp [kv])
theorem Arr.store {P : Program} {t ty : TypeId} {w : World} {X : Nat} {k : IntKind} {l m : List Nat} (h : Arr w X t k l) (hi : (P.info? ty).map (·.size) = some m.length) (hl : l.length = m.length) :
    (Instr.storeAt ty (.pointer (some ⟨X, 0, none⟩)) ((Value.agg (List.toArray (kv k m))))).run P w = .ok () (w.setRow X (kv k m).toArray) := store_row h (by rw [hi]; simp [kv]) (by simp [kv, hl]) (kv_one k m)
theorem Arr.put {w : World} {X : Nat} {t : TypeId} {k : IntKind} {l : List Nat} (h : Arr w X t k l) (m : List Nat) : Arr (w.setRow X (kv k m).toArray) X t k m := by
  have h' : w.heap[X]? = some (.cells (kv k l).toArray t (0, 0)) := h
  unfold Arr
  simp [World.setRow, Array.getElem?_modify, h']
theorem Arr.new {w : World} {X : Nat} {t : TypeId} {k : IntKind} {l : List Nat} (hX : X = w.heap.size) : Arr (w.alloc (.cells (kv k l).toArray t)) X t k l := heap_at hX

def z10 : List Nat := List.replicate 10 0
theorem zeroU10 (w : World) : (zeroValue 95).run Tryd.prog w = .ok (.agg (kv .u64 z10).toArray) w := by kernel_rfl
theorem ldU10 {w : World} {X : Nat} {l : List Nat} {t : TypeId} (h : Arr w X t .u64 l) (hl : l.length = 10) : (Instr.loadAt 95 (.pointer (some ⟨X, 0, none⟩))).run Tryd.prog w = .ok ((Value.agg (List.toArray (kv .u64 l)))) w := h.load Tryd.underlying95 rfl (by rw [hl]; kernel_rfl)
theorem stU10 {w : World} {X : Nat} {l m : List Nat} {t : TypeId} (h : Arr w X t .u64 l) (hl : l.length = 10) (hm : m.length = 10) : (Instr.storeAt 95 (.pointer (some ⟨X, 0, none⟩)) ((Value.agg (List.toArray (kv .u64 m))))).run Tryd.prog w = .ok () (w.setRow X (kv .u64 m).toArray) := h.store (by rw [hm]; kernel_rfl) (by omega)

set_option maxHeartbeats 4000000 in
theorem above_ct (a b : List Nat) (ha : a.length = 10) (hb : b.length = 10) (da : ∀ d ∈ a, d < BB) (db : ∀ d ∈ b, d < BB) (w : World) :
    Calls Tryd.prog 68 #[(Value.agg (List.toArray (kv .u64 a))), (Value.agg (List.toArray (kv .u64 b)))] w fun e w' => e = .returned (.bool (decide (V b < V a))) ∧ Kept (fun _ => False) w w' := by
  go_enter Tryd.func68, Tryd.ntmps68
  go_wp2_with fail
  have hA : Arr (w.alloc (.cells (kv .u64 a).toArray 95)) w.heap.size 95 .u64 a := Arr.new rfl
  have k1 : Kept (fun _ => False) w (w.alloc (.cells (kv .u64 a).toArray 95)) := (Kept.refl _ w).alloc _
  have hs1 : (w.alloc (.cells (kv .u64 a).toArray 95)).heap.size = w.heap.size + 1 := World.size_alloc _ _
  generalize w.alloc (.cells (kv .u64 a).toArray 95) = W1 at hA k1 hs1 ⊢
  have hB : Arr (W1.alloc (.cells (kv .u64 b).toArray 95)) W1.heap.size 95 .u64 b := Arr.new rfl
  have k2 : Kept (fun _ => False) W1 (W1.alloc (.cells (kv .u64 b).toArray 95)) := (Kept.refl _ W1).alloc _
  have hA2 := hA.stay k2 not_false
  have k12 := k1.trans k2
  rw [hs1] at hB
  generalize W1.alloc (.cells (kv .u64 b).toArray 95) = W2 at hA2 hB k12 ⊢
  generalize w.heap.size = X at hA2 hB ⊢
  clear k1 k2 hA hs1
  go_loopw [5] (fun x wr => ∃ m : Nat, m ≤ 10 ∧ x = .int .i64 ((m : Int) - 1) ∧ Hid (a.drop m = b.drop m) ∧ Drawn W2 wr) (fun x _ => (intOf x + 1).toNat)
  case atStart => exact ⟨10, by omega, rfl, (by unfold Hid; rw [List.drop_eq_nil_of_le (by omega), List.drop_eq_nil_of_le (by omega)]), Drawn.refl _⟩
  case round =>
    obtain ⟨m, hm, rfl, HE, hd⟩ := hrel
    have kr : Kept (fun _ => False) w wr := k12.trans hd.kept
    have hAr := hA2.stay (S := fun _ => False) hd.kept not_false
    have hBr := hB.stay (S := fun _ => False) hd.kept not_false
    cases m with
    | zero =>
      have hr := Lib.hid (show decide (V b < V a) = false by have := HE.out; simp only [List.drop_zero] at this; rw [this]; simp)
      go_wp2_with fail
      go_ret
      exact ⟨by rw [hr.out] <;> rfl, kr⟩
    | succ k =>
      have c1 := hAr.cell (j := k) (by omega)
      have c2 := hBr.cell (j := k) (by omega)
      have hk9 : (k : Int) ≤ 9 := by omega
      have hi : (((k + 1 : Nat) : Int) - 1) = (k : Int) := by omega
      rw [hi]
      generalize hxa : a.getD k 0 = xa at c1
      generalize hxb : b.getD k 0 = xb at c2
      clear hAr hBr hA2 hB
      by_cases hab : xa = xb
      · have hab' : ((xa : Int) != (xb : Int)) = false := by simp [hab]
        have HE2 : Hid (a.drop k = b.drop k) := by
          unfold Hid
          rw [List.drop_eq_getElem_cons (show k < a.length by omega), List.drop_eq_getElem_cons (show k < b.length by omega), HE.out]
          congr 1
          rw [List.getD_eq_getElem?_getD, List.getElem?_eq_getElem (show k < a.length by omega)] at hxa
          rw [List.getD_eq_getElem?_getD, List.getElem?_eq_getElem (show k < b.length by omega)] at hxb
          simp at hxa hxb
          rw [hxa, hxb, hab]
        go_wp2_with fail
        go_quiet (fail)
        go_wp2_with fail
        go_roundw
        case rel => exact ⟨k, by omega, rfl, HE2, by first | exact hd.drewN _ | exact hd⟩
        case measure => simp [intOf]
      · have hab' : ((xa : Int) != (xb : Int)) = true := by simp; omega
        have hr : Hid (decide (xb < xa) = decide (V b < V a)) := by
          unfold Hid
          rcases Nat.lt_or_gt_of_ne hab with q | q
          · have := V_cmp (a := b) (b := a) (i := k) (by omega) (by omega) db da HE.out.symm (by rw [hxa, hxb]; exact q)
            rw [decide_eq_false (by omega), decide_eq_false (by omega)]
          · have := V_cmp (a := a) (b := b) (i := k) (by omega) (by omega) da db HE.out (by rw [hxa, hxb]; exact q)
            rw [decide_eq_true (by omega), decide_eq_true (by omega)]
        go_wp2_with fail
        go_quiet (fail)
        go_wp2_with fail
        go_quiet (fail)
        go_wp2_with fail
        go_ret
        exact ⟨by rw [← hr.out] <;> rfl, by first | exact kr.drewN _ | exact (kr.drewN _).drewN _ | exact kr⟩
