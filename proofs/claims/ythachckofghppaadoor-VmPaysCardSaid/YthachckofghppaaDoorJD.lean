/- program.one: may an instruction be. -/
import Derived.Test.YthachckofghppaaDoorYA
import Derived.Lib.OthersKept
import Derived.Lib.Strings
import Derived.Deep.DeepCutAuto
import Derived.Deep.CutBlock
namespace Go.Proofs.YthachckofghppaaDoor
open Go.RowKit
set_option maxRecDepth 100000
set_option linter.unusedSimpArgs false
set_option linter.unusedVariables false

structure InsE where
  op : Nat
  a : ByteArray
  b : ByteArray
  c : ByteArray
  n : Int
  m : Int
def insC (x : InsE) : List Value := [.int .u8 x.op, .string x.a, .string x.b, .string x.c, .int .i64 x.n, .int .i64 x.m]
structure InsE.Fits (x : InsE) : Prop where
  op : x.op < 256
  a : x.a.size ≤ maxLen
  b : x.b.size ≤ maxLen
  c : x.c.size ≤ maxLen
  n : -9223372036854775808 ≤ x.n ∧ x.n ≤ 9223372036854775807
  m : -9223372036854775808 ≤ x.m ∧ x.m ≤ 9223372036854775807
def FLDS : List (List UInt8) := [[], [112, 112, 46, 46, 46], [112, 112, 112, 46, 46], [112, 112, 46, 110, 110], [112, 87, 119, 46, 46], [112, 46, 46, 46, 46], [112, 112, 46, 46, 46], [112, 112, 46, 46, 46], [46, 46, 46, 106, 46], [112, 46, 46, 106, 46], [112, 112, 46, 106, 46], [46, 46, 46, 46, 46]]
def fldL (op : Nat) : List UInt8 := FLDS.getD op []
def fld (op : Nat) : ByteArray := ⟨(fldL op).toArray⟩
def InsE.t (x : InsE) : Nat → ByteArray
  | 0 => x.a
  | 1 => x.b
  | _ => x.c
def InsE.u (x : InsE) : Nat → Int
  | 0 => x.n
  | _ => x.m
def fldOk (x : InsE) (many : Int) (k : Nat) (c : UInt8) : Bool :=
  if c = 112 then pathB (x.t k)
  else if c = 119 then decide ((x.t k).size ≤ 40)
  else if c = 87 then decide ((x.t k).size ≤ 40) && !(x.t k).toList.isEmpty
  else if c = 110 then decide (0 ≤ x.u (k - 3)) && decide (x.u (k - 3) ≤ 2000)
  else if c = 106 then decide (0 ≤ x.u (k - 3)) && decide (x.u (k - 3) ≤ many)
  else if k < 3 then (x.t k).toList.isEmpty
  else x.u (k - 3) == 0
def oneOk (x : InsE) (many : Int) (k : Nat) : Bool := fldOk x many k ((fldL x.op).getD k 0)
def oneB (x : InsE) (many : Int) : Bool := decide (1 ≤ x.op) && decide (x.op ≤ 11) && allTo (oneOk x many) 5
theorem fld_len : ∀ op, op < 12 → 1 ≤ op → (fldL op).length = 5 := by decide
def kindAt (op k : Nat) : Bool := let c := (fldL op).getD k 0; ((c == 112 || c == 119 || c == 87) && decide (k < 3)) || ((c == 110 || c == 106) && decide (3 ≤ k)) || c == 46
theorem kind_at : ∀ (op : Fin 12) (k : Fin 5), 1 ≤ op.val → kindAt op.val k.val = true := by decide
theorem fld_at {op k : Nat} (h : op < 12) (h1 : 1 ≤ op) (hk : k < 5) : ((fldL op).getD k 0 = 112 ∧ k < 3) ∨ ((fldL op).getD k 0 = 119 ∧ k < 3) ∨ ((fldL op).getD k 0 = 87 ∧ k < 3) ∨ ((fldL op).getD k 0 = 110 ∧ 3 ≤ k) ∨ ((fldL op).getD k 0 = 106 ∧ 3 ≤ k) ∨ (fldL op).getD k 0 = 46 := by
  have := kind_at ⟨op, h⟩ ⟨k, hk⟩ h1
  unfold kindAt at this
  simp only [Bool.or_eq_true, Bool.and_eq_true, beq_iff_eq, decide_eq_true_eq] at this
  rcases this with (⟨(h | h) | h, h2⟩ | ⟨h | h, h2⟩) | h
  · exact .inl ⟨h, h2⟩
  · exact .inr (.inl ⟨h, h2⟩)
  · exact .inr (.inr (.inl ⟨h, h2⟩))
  · exact .inr (.inr (.inr (.inl ⟨h, h2⟩)))
  · exact .inr (.inr (.inr (.inr (.inl ⟨h, h2⟩))))
  · exact .inr (.inr (.inr (.inr (.inr h))))
/-- The table program.fields. -/
def FldTab (w : World) : Prop := 0 < w.heap.size ∧ ∀ k, k < 12 → w.cell? ⟨0, k, none⟩ = some (.string (fld k))
theorem FldTab.kept {w w' : World} (h : FldTab w) (hk : Kept (fun _ => False) w w') : FldTab w' :=
  ⟨Nat.lt_of_lt_of_le h.1 hk.size, fun k hk2 => by rw [hk.cell (p := ⟨0, k, none⟩) h.1 not_false]; exact h.2 k hk2⟩
def ZS3 : Array Value := #[.string ⟨#[]⟩, .string ⟨#[]⟩, .string ⟨#[]⟩]
def ZI2 : Array Value := #[.int .i64 0, .int .i64 0]
theorem zero3 (w : World) : (zeroValue 57).run Tryd.prog w = .ok (.agg ZS3) w := by kernel_rfl
theorem zero2 (w : World) : (zeroValue 58).run Tryd.prog w = .ok (.agg ZI2) w := by kernel_rfl
theorem kept_iterAt {w : World} {I : Nat} {s : ByteArray} {p : Nat} : Kept (fun i => i = I) w (w.iterAt I s p) :=
  ⟨rfl, rfl, rfl, by simp [World.iterAt], fun k _ hne => by
    show (w.heap.setIfInBounds I (.stringIter s p))[k]? = _
    rw [Array.getElem?_setIfInBounds_ne (fun e => hne e.symm)]⟩
theorem fld_size {op : Nat} (h : op < 12) (h1 : 1 ≤ op) : (fld op).size = 5 := by
  rw [Lib.size_eq]
  show (fldL op).toArray.toList.length = 5
  rw [List.toList_toArray]
  exact fld_len op h h1
theorem fld_get {op k : Nat} (h : op < 12) (h1 : 1 ≤ op) (hk : k < (fld op).size) : (fld op)[k]'hk = (fldL op).getD k 0 := by
  have h5 : k < (fldL op).length := by rw [fld_len op h h1]; rw [fld_size h h1] at hk; exact hk
  rw [List.getD_eq_getElem?_getD, List.getElem?_eq_getElem h5]
  show (fldL op).toArray[k] = _
  simp
set_option maxRecDepth 100000 in
set_option maxHeartbeats 8000000 in
theorem one_ct {w : World} (hT : FldTab w) (x : InsE) (hx : x.Fits) (many : Int) :
    Calls Tryd.prog 15 #[.agg (insC x).toArray, .int .i64 many] w fun e w' => e = .returned (.bool (oneB x many)) ∧ Kept (fun _ => False) w w' := by
  by_cases h1 : x.op < 1
  · have hf : oneB x many = false := by unfold oneB; rw [decide_eq_false (by omega)]; rfl
    have HF := Lib.hid hf
    clear hf
    obtain ⟨op, a, b, c, n, m⟩ := x
    unfold insC
    dsimp only at h1 HF ⊢
    go_enter Tryd.func15, Tryd.ntmps15
    go_wp2_with fail
    go_ret
    exact ⟨by rw [HF.out]; rfl, (Kept.refl _ w).alloc _⟩
  by_cases h11 : 11 < x.op
  · have hf : oneB x many = false := by unfold oneB; rw [decide_eq_false (show ¬ x.op ≤ 11 by omega)]; simp
    have HF := Lib.hid hf
    clear hf
    obtain ⟨op, a, b, c, n, m⟩ := x
    unfold insC
    dsimp only at h1 h11 HF ⊢
    go_enter Tryd.func15, Tryd.ntmps15
    go_wp2_with fail
    go_ret
    exact ⟨by rw [HF.out]; rfl, (Kept.refl _ w).alloc _⟩
  have hb : oneB x many = allTo (oneOk x many) 5 := by unfold oneB; rw [decide_eq_true (show 1 ≤ x.op by omega), decide_eq_true (show x.op ≤ 11 by omega)]; rfl
  have HB := Lib.hid hb
  clear hb
  have hmx := hx
  obtain ⟨X, hX⟩ : ∃ X, X = x := ⟨_, rfl⟩
  rw [← hX] at HB hx ⊢
  obtain ⟨op, a, b, c, n, m⟩ := x
  dsimp only at h1 h11
  have hargs : (insC X).toArray = #[.int .u8 op, .string a, .string b, .string c, .int .i64 n, .int .i64 m] := by rw [hX]; rfl
  rw [hargs]
  go_enter Tryd.func15, Tryd.ntmps15
  go_upto_region 3 with fail
  have k1 : Kept (fun _ => False) w (w.alloc (.cells #[.int .u8 op, .string a, .string b, .string c, .int .i64 n, .int .i64 m] 25)) := (Kept.refl _ w).alloc _
  have hb0 := heap_last w (.cells #[.int .u8 op, .string a, .string b, .string c, .int .i64 n, .int .i64 m] 25)
  generalize w.alloc (.cells #[.int .u8 op, .string a, .string b, .string c, .int .i64 n, .int .i64 m] 25) = W1 at k1 hb0 ⊢
  have hz0 := (Array.getElem?_eq_some_iff.1 hb0).1
  generalize w.heap.size = B at hb0 hz0 ⊢
  go_cut [5, 6] (fun s5 s6 wx => ∃ p5 p6 : Nat, s5 = .pointer (some ⟨p5, 0, none⟩) ∧ s6 = .pointer (some ⟨p6, 0, none⟩) ∧ Kept (fun _ => False) W1 wx ∧ wx.heap[p5]? = some (.cells #[.string a, .string b, .string c] 57 (0, 0)) ∧
    wx.heap[p6]? = some (.cells #[.int .i64 n, .int .i64 m] 58 (0, 0)))
  case first =>
    have cl : ∀ (j : Nat) (v : Value), #[Value.int .u8 op, .string a, .string b, .string c, .int .i64 n, .int .i64 m][j]? = some v → ∀ w', Kept (fun _ => False) W1 w' → w'.cell? ⟨B, j, none⟩ = some v := fun j v hj w' q => by rw [q.cell (p := ⟨B, j, none⟩) hz0 not_false, cell_of_row _ _ _ _ _ _ hb0]; exact hj
    have e1 := cl 1 _ rfl
    have e2 := cl 2 _ rfl
    have e3 := cl 3 _ rfl
    have e4 := cl 4 _ rfl
    have e5 := cl 5 _ rfl
    have hs5 := fun {wx : World} {b' : Nat} (hb : wx.heap[b']? = some (.cells ZS3 57 (0, 0))) => store_row (P := Tryd.prog) (ty := 57) (c' := #[.string a, .string b, .string c]) hb (by kernel_rfl) rfl (by simp [Value.oneCell'])
    have hs6 := fun {wx : World} {b' : Nat} (hb : wx.heap[b']? = some (.cells ZI2 58 (0, 0))) => store_row (P := Tryd.prog) (ty := 58) (c' := #[.int .i64 n, .int .i64 m]) hb (by kernel_rfl) rfl (by simp [Value.oneCell'])
    clear cl
    refine wp_region_held_drew (S := (Kept (fun _ => False) W1)) (by kernel_rfl) ((Kept.refl _ W1).drew) (fun hHeld => ?_)
    refine held_q (v := ?_) (i := 0) rfl (by kernel_rfl) (by kernel_rfl) (by kernel_rfl) (fun _ _ _ h => h) (by rfl) hHeld ?_ ?_
    rotate_left
    · (intro w' hS'; go_simp <;> (with_reducible rfl))
    simp only [Act.put, List.getElem_toArray, List.getElem_cons_zero, List.getElem_cons_succ, List.setIfInBounds_toArray, List.set_cons_zero, List.set_cons_succ]
    refine held_q (v := ?_) (i := 1) rfl (by kernel_rfl) (by kernel_rfl) (by kernel_rfl) (fun _ _ _ h => h) (by rfl) hHeld ?_ ?_
    rotate_left
    · (intro w' hS'; go_simp <;> (with_reducible rfl))
    simp only [Act.put, List.getElem_toArray, List.getElem_cons_zero, List.getElem_cons_succ, List.setIfInBounds_toArray, List.set_cons_zero, List.set_cons_succ]
    refine held_q (v := ?_) (i := 2) rfl (by kernel_rfl) (by kernel_rfl) (by kernel_rfl) (fun _ _ _ h => h) (by rfl) hHeld ?_ ?_
    rotate_left
    · (intro w' hS'; go_simp <;> (with_reducible rfl))
    simp only [Act.put, List.getElem_toArray, List.getElem_cons_zero, List.getElem_cons_succ, List.setIfInBounds_toArray, List.set_cons_zero, List.set_cons_succ]
    refine held_q (v := ?_) (i := 3) rfl (by kernel_rfl) (by kernel_rfl) (by kernel_rfl) (fun _ _ _ h => h) (by rfl) hHeld ?_ ?_
    rotate_left
    · (intro w' hS'; go_simp <;> (with_reducible rfl))
    simp only [Act.put, List.getElem_toArray, List.getElem_cons_zero, List.getElem_cons_succ, List.setIfInBounds_toArray, List.set_cons_zero, List.set_cons_succ]
    refine held_q (v := ?_) (i := 4) rfl (by kernel_rfl) (by kernel_rfl) (by kernel_rfl) (fun _ _ _ h => h) (by rfl) hHeld ?_ ?_
    rotate_left
    · (intro w' hS'; go_simp <;> (with_reducible rfl))
    simp only [Act.put, List.getElem_toArray, List.getElem_cons_zero, List.getElem_cons_succ, List.setIfInBounds_toArray, List.set_cons_zero, List.set_cons_succ]
    refine held_q (v := ?_) (i := 5) rfl (by kernel_rfl) (by kernel_rfl) (by kernel_rfl) (fun _ _ _ h => h) (by rfl) hHeld ?_ ?_
    rotate_left
    · (intro w' hS'; go_simp <;> (with_reducible rfl))
    simp only [Act.put, List.getElem_toArray, List.getElem_cons_zero, List.getElem_cons_succ, List.setIfInBounds_toArray, List.set_cons_zero, List.set_cons_succ]
    refine held_q (v := ?_) (i := 6) rfl (by kernel_rfl) (by kernel_rfl) (by kernel_rfl) (fun _ _ _ h => h) (by rfl) hHeld ?_ ?_
    rotate_left
    · (intro w' hS'; go_simp <;> (with_reducible rfl))
    simp only [Act.put, List.getElem_toArray, List.getElem_cons_zero, List.getElem_cons_succ, List.setIfInBounds_toArray, List.set_cons_zero, List.set_cons_succ]
    refine held_q (v := ?_) (i := 7) rfl (by kernel_rfl) (by kernel_rfl) (by kernel_rfl) (fun _ _ _ h => h) (by rfl) hHeld ?_ ?_
    rotate_left
    · (intro w' hS'; go_simp <;> (with_reducible rfl))
    simp only [Act.put, List.getElem_toArray, List.getElem_cons_zero, List.getElem_cons_succ, List.setIfInBounds_toArray, List.set_cons_zero, List.set_cons_succ]
    refine held_q (v := ?_) (i := 8) rfl (by kernel_rfl) (by kernel_rfl) (by kernel_rfl) (fun _ _ _ h => h) (by rfl) hHeld ?_ ?_
    rotate_left
    · (intro w' hS'; go_simp <;> (with_reducible rfl))
    simp only [Act.put, List.getElem_toArray, List.getElem_cons_zero, List.getElem_cons_succ, List.setIfInBounds_toArray, List.set_cons_zero, List.set_cons_succ]
    refine held_q (v := ?_) (i := 9) rfl (by kernel_rfl) (by kernel_rfl) (by kernel_rfl) (fun _ _ _ h => h) (by rfl) hHeld ?_ ?_
    rotate_left
    · (intro w' hS'; go_simp <;> (with_reducible rfl))
    simp only [Act.put, List.getElem_toArray, List.getElem_cons_zero, List.getElem_cons_succ, List.setIfInBounds_toArray, List.set_cons_zero, List.set_cons_succ]
    refine held_q (v := ?_) (i := 10) rfl (by kernel_rfl) (by kernel_rfl) (by kernel_rfl) (fun _ _ _ h => h) (by rfl) hHeld ?_ ?_
    rotate_left
    · (intro w' hS'; go_simp <;> (with_reducible rfl))
    simp only [Act.put, List.getElem_toArray, List.getElem_cons_zero, List.getElem_cons_succ, List.setIfInBounds_toArray, List.set_cons_zero, List.set_cons_succ]
    refine held_q (v := ?_) (i := 11) rfl (by kernel_rfl) (by kernel_rfl) (by kernel_rfl) (fun _ _ _ h => h) (by rfl) hHeld ?_ ?_
    rotate_left
    · (intro w' hS'; go_simp <;> (with_reducible rfl))
    simp only [Act.put, List.getElem_toArray, List.getElem_cons_zero, List.getElem_cons_succ, List.setIfInBounds_toArray, List.set_cons_zero, List.set_cons_succ]
    clear e1 e2 e3 e4 e5
    refine held_two (i := 12) (j := 13) (vi := .pointer (some ⟨W1.heap.size, 0, none⟩)) (vj := .pointer (some ⟨W1.heap.size, 0, none⟩)) (wi := W1.drew.alloc (.cells ZS3 57)) (wj := W1.drew.alloc (.cells ZI2 58)) (by kernel_rfl) rfl rfl (by rfl) (by rfl) ?_ ?_ ((Kept.refl _ W1).drew.alloc _) ((Kept.refl _ W1).drew.alloc _) (fun hHeld => ?_) (fun hHeld => ?_)
    · refine exec_alloc 57 ?_ (zero3 _)
      rfl
    · refine exec_alloc 58 ?_ (zero2 _)
      rfl
    · skip
      simp only [Act.put, List.getElem_toArray, List.getElem_cons_zero, List.getElem_cons_succ, List.setIfInBounds_toArray, List.set_cons_zero, List.set_cons_succ]
      have hz8 : (W1.drew.alloc (.cells ZS3 57)).heap[W1.heap.size]? = some (.cells ZS3 57 (0, 0)) := heap_last W1.drew _
      have hsz : (W1.drew.alloc (.cells ZS3 57)).heap.size = W1.heap.size + 1 := by simp
      generalize W1.drew.alloc (.cells ZS3 57) = WA at hHeld hz8 hsz ⊢
      refine held_v (i := 13) (v := .pointer (some ⟨(WA).heap.size, 0, none⟩)) (w1 := (WA).alloc (.cells ZI2 58)) (by kernel_rfl) rfl (by rfl) ?_ ?_ (fun hHeld => ?_)
      · refine exec_alloc 58 ?_ ?_
        · rfl
        · exact zero2 _
      · exact hHeld.alloc _
      simp only [Act.put, List.getElem_toArray, List.getElem_cons_zero, List.getElem_cons_succ, List.setIfInBounds_toArray, List.set_cons_zero, List.set_cons_succ]
      have hz9 : (WA.alloc (.cells ZI2 58)).heap[WA.heap.size]? = some (.cells ZI2 58 (0, 0)) := heap_last WA _
      have hz8' : (WA.alloc (.cells ZI2 58)).heap[W1.heap.size]? = some (.cells ZS3 57 (0, 0)) := by rw [Below.heap_alloc _ _ _ (by omega)]; exact hz8
      generalize WA.alloc (.cells ZI2 58) = WB at hHeld hz9 hz8' ⊢
      refine held_s (i := 14) (w1 := WB.setRow W1.heap.size #[.string a, .string b, .string c]) (by kernel_rfl) rfl (by rfl) ?_ ?_ (fun hHeld => ?_)
      · refine exec_store (p := .pointer (some ⟨W1.heap.size, 0, none⟩)) (q := .agg #[.string a, .string b, .string c]) 57 (.tmp 5) (.tmp 24) ?_ ?_ ?_ ?_
        · rfl
        · rfl
        · rfl
        · exact hs5 hz8'
      · exact hHeld.setRow (fun q => absurd q (by omega)) _
      simp only [Act.put, List.getElem_toArray, List.getElem_cons_zero, List.getElem_cons_succ, List.setIfInBounds_toArray, List.set_cons_zero, List.set_cons_succ]
      have hy8 := setRow_heap WB W1.heap.size ZS3 #[.string a, .string b, .string c] _ _ hz8'
      have hy9 := (setRow_other WB W1.heap.size WA.heap.size #[.string a, .string b, .string c] (by omega)).trans hz9
      generalize WB.setRow W1.heap.size #[.string a, .string b, .string c] = WC at hHeld hy8 hy9 ⊢
      refine held_s (i := 15) (w1 := WC.setRow WA.heap.size #[.int .i64 n, .int .i64 m]) (by kernel_rfl) rfl (by rfl) ?_ ?_ (fun hHeld => ?_)
      · refine exec_store (p := .pointer (some ⟨WA.heap.size, 0, none⟩)) (q := .agg #[.int .i64 n, .int .i64 m]) 58 (.tmp 6) (.tmp 29) ?_ ?_ ?_ ?_
        · rfl
        · rfl
        · rfl
        · exact hs6 hy9
      · exact hHeld.setRow (fun q => absurd q (by omega)) _
      simp only [Act.put, List.getElem_toArray, List.getElem_cons_zero, List.getElem_cons_succ, List.setIfInBounds_toArray, List.set_cons_zero, List.set_cons_succ]
      refine wpAnyH_done (by kernel_rfl) ?_ _
      have hx9 := setRow_heap WC WA.heap.size ZI2 #[.int .i64 n, .int .i64 m] _ _ hy9
      have hx8 := (setRow_other WC WA.heap.size W1.heap.size #[.int .i64 n, .int .i64 m] (by omega)).trans hy8
      generalize WC.setRow WA.heap.size #[.int .i64 n, .int .i64 m] = WD at hHeld hx8 hx9 ⊢
      go_wp2_with fail
      go_meet
      exact ⟨W1.heap.size, WA.heap.size, rfl, rfl, hHeld, hx8, hx9⟩
    · skip
      simp only [Act.put, List.getElem_toArray, List.getElem_cons_zero, List.getElem_cons_succ, List.setIfInBounds_toArray, List.set_cons_zero, List.set_cons_succ]
      have hz8 : (W1.drew.alloc (.cells ZI2 58)).heap[W1.heap.size]? = some (.cells ZI2 58 (0, 0)) := heap_last W1.drew _
      have hsz : (W1.drew.alloc (.cells ZI2 58)).heap.size = W1.heap.size + 1 := by simp
      generalize W1.drew.alloc (.cells ZI2 58) = WA at hHeld hz8 hsz ⊢
      refine held_v (i := 12) (v := .pointer (some ⟨(WA).heap.size, 0, none⟩)) (w1 := (WA).alloc (.cells ZS3 57)) (by kernel_rfl) rfl (by rfl) ?_ ?_ (fun hHeld => ?_)
      · refine exec_alloc 57 ?_ ?_
        · rfl
        · exact zero3 _
      · exact hHeld.alloc _
      simp only [Act.put, List.getElem_toArray, List.getElem_cons_zero, List.getElem_cons_succ, List.setIfInBounds_toArray, List.set_cons_zero, List.set_cons_succ]
      have hz9 : (WA.alloc (.cells ZS3 57)).heap[WA.heap.size]? = some (.cells ZS3 57 (0, 0)) := heap_last WA _
      have hz8' : (WA.alloc (.cells ZS3 57)).heap[W1.heap.size]? = some (.cells ZI2 58 (0, 0)) := by rw [Below.heap_alloc _ _ _ (by omega)]; exact hz8
      generalize WA.alloc (.cells ZS3 57) = WB at hHeld hz9 hz8' ⊢
      refine held_s (i := 14) (w1 := WB.setRow WA.heap.size #[.string a, .string b, .string c]) (by kernel_rfl) rfl (by rfl) ?_ ?_ (fun hHeld => ?_)
      · refine exec_store (p := .pointer (some ⟨WA.heap.size, 0, none⟩)) (q := .agg #[.string a, .string b, .string c]) 57 (.tmp 5) (.tmp 24) ?_ ?_ ?_ ?_
        · rfl
        · rfl
        · rfl
        · exact hs5 hz9
      · exact hHeld.setRow (fun q => absurd q (by omega)) _
      simp only [Act.put, List.getElem_toArray, List.getElem_cons_zero, List.getElem_cons_succ, List.setIfInBounds_toArray, List.set_cons_zero, List.set_cons_succ]
      have hy8 := setRow_heap WB WA.heap.size ZS3 #[.string a, .string b, .string c] _ _ hz9
      have hy9 := (setRow_other WB WA.heap.size W1.heap.size #[.string a, .string b, .string c] (by omega)).trans hz8'
      generalize WB.setRow WA.heap.size #[.string a, .string b, .string c] = WC at hHeld hy8 hy9 ⊢
      refine held_s (i := 15) (w1 := WC.setRow W1.heap.size #[.int .i64 n, .int .i64 m]) (by kernel_rfl) rfl (by rfl) ?_ ?_ (fun hHeld => ?_)
      · refine exec_store (p := .pointer (some ⟨W1.heap.size, 0, none⟩)) (q := .agg #[.int .i64 n, .int .i64 m]) 58 (.tmp 6) (.tmp 29) ?_ ?_ ?_ ?_
        · rfl
        · rfl
        · rfl
        · exact hs6 hy9
      · exact hHeld.setRow (fun q => absurd q (by omega)) _
      simp only [Act.put, List.getElem_toArray, List.getElem_cons_zero, List.getElem_cons_succ, List.setIfInBounds_toArray, List.set_cons_zero, List.set_cons_succ]
      refine wpAnyH_done (by kernel_rfl) ?_ _
      have hx9 := setRow_heap WC W1.heap.size ZI2 #[.int .i64 n, .int .i64 m] _ _ hy9
      have hx8 := (setRow_other WC W1.heap.size WA.heap.size #[.int .i64 n, .int .i64 m] (by omega)).trans hy8
      generalize WC.setRow W1.heap.size #[.int .i64 n, .int .i64 m] = WD at hHeld hx8 hx9 ⊢
      go_wp2_with fail
      go_meet
      exact ⟨WA.heap.size, W1.heap.size, rfl, rfl, hHeld, hx8, hx9⟩
  case rest =>
    obtain ⟨p5, p6, rfl, rfl, hkc, hp5, hp6⟩ := hcut
    obtain ⟨V, hV⟩ : ∃ V : World, V = wc := ⟨_, rfl⟩
    subst hV
    have hk2 : Kept (fun _ => False) w V := k1.trans hkc
    have hTV := hT.kept hk2
    have hb0c : V.heap[B]? = some (.cells #[.int .u8 op, .string a, .string b, .string c, .int .i64 n, .int .i64 m] 25) := by rw [hkc.block _ hz0 not_false]; exact hb0
    have hzc : B < V.heap.size := Nat.lt_of_lt_of_le hz0 hkc.size
    have hl5 : p5 < V.heap.size := (Array.getElem?_eq_some_iff.1 hp5).1
    have hl6 : p6 < V.heap.size := (Array.getElem?_eq_some_iff.1 hp6).1
    have e0 : V.cell? ⟨B, 0, none⟩ = some (.int .u8 op) := by rw [cell_of_row _ _ _ _ _ _ hb0c]; rfl
    have eg : V.cell? ⟨0, op, none⟩ = some (.string (fld op)) := hTV.2 op (by omega)
    have gop : decide ((op : Int) < 12) = true := decide_eq_true (by omega)
    have gop0 : (0 : Int) ≤ (op : Int) := by omega
    have gop12 : (op : Int) < 12 := by omega
    have gopn : op < 12 := by omega
    clear hkc k1 hb0 hz0 hb0c hT hTV
    go_wp2_with fail
    have hs5 := fld_size (show op < 12 by omega) (show 1 ≤ op by omega)
    have hI0 : (V.iter (fld op) 0).heap[V.heap.size]? = some (.stringIter (fld op) 0) := heap_last V _
    have k3 : Kept (fun _ => False) V (V.iter (fld op) 0) := (Kept.refl _ V).alloc _
    generalize V.iter (fld op) 0 = W3 at hI0 k3 ⊢
    have hp5' : W3.heap[p5]? = some (.cells #[.string a, .string b, .string c] 57) := by rw [k3.block _ hl5 not_false]; exact hp5
    have hp6' : W3.heap[p6]? = some (.cells #[.int .i64 n, .int .i64 m] 58) := by rw [k3.block _ hl6 not_false]; exact hp6
    have hz3 := k3.size
    have hVw := hk2.size
    have hback : ∀ {w' : World}, Kept (fun i => i = V.heap.size) W3 w' → Kept (fun _ => False) w w' := fun q => (hk2.trans k3).trans' q (fun i hi e => by omega)
    obtain ⟨I, hIe⟩ : ∃ I, I = V.heap.size := ⟨_, rfl⟩
    rw [← hIe] at hI0 hback ⊢
    have hXop : X.op = op := by rw [hX]
    have c5 : ∀ k, k < 3 → ∀ w', Kept (fun i => i = I) W3 w' → w'.cell? ⟨p5, k, none⟩ = some (.string (X.t k)) := fun k hk w' q => by
      rw [q.cell (p := ⟨p5, k, none⟩) (by show p5 < _; omega) (by show ¬ p5 = I; omega), cell_of_row _ _ _ _ _ _ hp5', hX]
      match k, hk with
      | 0, _ => rfl
      | 1, _ => rfl
      | 2, _ => rfl
    have c6 : ∀ k, k < 2 → ∀ w', Kept (fun i => i = I) W3 w' → w'.cell? ⟨p6, k, none⟩ = some (.int .i64 (X.u k)) := fun k hk w' q => by
      rw [q.cell (p := ⟨p6, k, none⟩) (by show p6 < _; omega) (by show ¬ p6 = I; omega), cell_of_row _ _ _ _ _ _ hp6', hX]
      match k, hk with
      | 0, _ => rfl
      | 1, _ => rfl
    have hsz : ∀ k, k < 3 → (X.t k).size ≤ maxLen := fun k hk => match k, hk with
      | 0, _ => hx.a
      | 1, _ => hx.b
      | 2, _ => hx.c
    clear hp5 hp6 hp5' hp6' k3 hk2 hX hmx hargs e0 eg hzc hIe
    go_loopw [] (fun wr => ∃ k : Nat, k ≤ 5 ∧ wr.heap[I]? = some (.stringIter (fld op) k) ∧ Hid (allTo (oneOk X many) k = true) ∧ Kept (fun i => i = I) W3 wr) (fun wr => 5 - wr.iterPos I)
    case atStart => exact ⟨0, by omega, hI0, rfl, Kept.refl _ _⟩
    case round =>
      obtain ⟨k, hk, hI, HA, hkr⟩ := hrel
      by_cases hlt : k < 5
      · have hlt' : k < (fld op).size := by omega
        have hcb := fld_get (show op < 12 by omega) (show 1 ≤ op by omega) hlt'
        have hca := fld_at (show op < 12 by omega) (show 1 ≤ op by omega) hlt
        have hnx0 : ∀ ty, (Instr.next (.pointer (some ⟨I, 0, none⟩)) true ty).run Tryd.prog wr = .ok (.tuple #[.bool true, .int .i64 k, .int .i32 ((fldL op).getD k 0).toNat]) (wr.iterAt I (fld op) (k + 1)) := fun ty => by
          rw [Lib.run_next_ascii_at (P := Tryd.prog) wr I (fld op) k ty hI hlt' (by rw [hcb]; rcases hca with h | h | h | h | h | h <;> (first | rw [h.1] | rw [h]) <;> decide), hcb]
        have hI4 := Lib.iterAt_heap wr I (fld op) k (k + 1) hI
        have hk4 : Kept (fun i => i = I) W3 (wr.iterAt I (fld op) (k + 1)) := hkr.trans kept_iterAt
        generalize wr.iterAt I (fld op) (k + 1) = W4 at hnx0 hI4 hk4
        have HNO : Hid (oneOk X many k = false → oneB X many = false) := fun e => by rw [HB.out, allTo_no e hlt]
        have HYES : Hid (oneOk X many k = true → allTo (oneOk X many) (k + 1) = true) := fun e => by
          show (allTo (oneOk X many) k && oneOk X many k) = true
          rw [HA.out, e]; rfl
        clear hcb hlt'
        rcases hca with ⟨hc, h3⟩ | ⟨hc, h3⟩ | ⟨hc, h3⟩ | ⟨hc, h3⟩ | ⟨hc, h3⟩ | hc
        · skip
          have hnx : ∀ ty, (Instr.next (.pointer (some ⟨I, 0, none⟩)) true ty).run Tryd.prog wr = .ok (.tuple #[.bool true, .int .i64 k, .int .i32 112]) W4 := fun ty => by rw [hnx0 ty, hc]; rfl
          have HOK : Hid (oneOk X many k = fldOk X many k 112) := by unfold Hid oneOk; rw [hXop, hc]
          clear hnx0 hc
          have ki : (k : Int) < 3 := by omega
          have t0 := c5 k h3 W4 hk4
          have pc := isPath_ct (X.t k) W4 (hsz k h3)
          clear c5 c6
          generalize hpb : pathB (X.t k) = pb at pc
          go_wp2_with fail
          refine pc.mono ?_
          rintro e W5 ⟨rfl, k5⟩
          have hI5 : W5.heap[I]? = some (.stringIter (fld op) (k + 1)) := by rw [k5.block _ (Array.getElem?_eq_some_iff.1 hI4).1 not_false]; exact hI4
          cases pb with
          | true =>
            have HT := Lib.hid (HYES.out (by rw [HOK.out]; exact hpb))
            clear HYES HNO HOK
            go_wp2_with fail
            go_roundw
            case rel => exact ⟨k + 1, by omega, hI5, HT.out, hk4.trans (k5.mono (fun _ _ q => q.elim))⟩
            case measure => simp [World.iterPos, hI5, hI]; omega
          | false =>
            have hk4 := hk4.trans (k5.mono (fun _ _ q => q.elim))
            have HF := Lib.hid (HNO.out (by rw [HOK.out]; exact hpb))
            clear HYES HNO HOK
            go_wp2_with fail
            go_ret
            exact ⟨by rw [HF.out]; rfl, hback hk4⟩
        · skip
          have hnx : ∀ ty, (Instr.next (.pointer (some ⟨I, 0, none⟩)) true ty).run Tryd.prog wr = .ok (.tuple #[.bool true, .int .i64 k, .int .i32 119]) W4 := fun ty => by rw [hnx0 ty, hc]; rfl
          have HOK : Hid (oneOk X many k = fldOk X many k 119) := by unfold Hid oneOk; rw [hXop, hc]
          clear hnx0 hc
          have ki : (k : Int) < 3 := by omega
          have t0 := c5 k h3 W4 hk4
          clear c5 c6
          by_cases h40 : (X.t k).size ≤ 40
          · have i40 : ((X.t k).size : Int) ≤ 40 := by omega
            have HT := Lib.hid (HYES.out (by rw [HOK.out]; exact decide_eq_true h40))
            clear HYES HNO HOK
            go_wp2_with fail
            go_roundw
            case rel => exact ⟨_, by omega, hI4, HT.out, hk4⟩
            case measure => simp [World.iterPos, hI4, hI]; omega
          · have i40 : ¬ ((X.t k).size : Int) ≤ 40 := by omega
            have HF := Lib.hid (HNO.out (by rw [HOK.out]; exact decide_eq_false h40))
            clear HYES HNO HOK
            go_wp2_with fail
            go_ret
            exact ⟨by rw [HF.out]; rfl, hback hk4⟩
        · skip
          have hnx : ∀ ty, (Instr.next (.pointer (some ⟨I, 0, none⟩)) true ty).run Tryd.prog wr = .ok (.tuple #[.bool true, .int .i64 k, .int .i32 87]) W4 := fun ty => by rw [hnx0 ty, hc]; rfl
          have HOK : Hid (oneOk X many k = fldOk X many k 87) := by unfold Hid oneOk; rw [hXop, hc]
          clear hnx0 hc
          have ki : (k : Int) < 3 := by omega
          have t0 := c5 k h3 W4 hk4
          clear c5 c6
          by_cases h40 : (X.t k).size ≤ 40
          · have i40 : ((X.t k).size : Int) ≤ 40 := by omega
            have d40 := decide_eq_true h40
            generalize he : (X.t k).toList.isEmpty = em
            cases em with
            | false =>
              have HT := Lib.hid (HYES.out (by rw [HOK.out]; show (decide ((X.t k).size ≤ 40) && !(X.t k).toList.isEmpty) = true; rw [d40, he]; rfl))
              clear HYES HNO HOK
              go_wp2_with fail
              go_roundw
              case rel => exact ⟨_, by omega, hI4, HT.out, hk4⟩
              case measure => simp [World.iterPos, hI4, hI]; omega
            | true =>
              have HF := Lib.hid (HNO.out (by rw [HOK.out]; show (decide ((X.t k).size ≤ 40) && !(X.t k).toList.isEmpty) = false; rw [d40, he]; rfl))
              clear HYES HNO HOK
              go_wp2_with fail
              go_ret
              exact ⟨by rw [HF.out]; rfl, hback hk4⟩
          · have i40 : ¬ ((X.t k).size : Int) ≤ 40 := by omega
            have HF := Lib.hid (HNO.out (by rw [HOK.out]; show (decide ((X.t k).size ≤ 40) && _) = false; rw [decide_eq_false h40]; rfl))
            clear HYES HNO HOK
            go_wp2_with fail
            go_ret
            exact ⟨by rw [HF.out]; rfl, hback hk4⟩
        · skip
          have hnx : ∀ ty, (Instr.next (.pointer (some ⟨I, 0, none⟩)) true ty).run Tryd.prog wr = .ok (.tuple #[.bool true, .int .i64 k, .int .i32 110]) W4 := fun ty => by rw [hnx0 ty, hc]; rfl
          have HOK : Hid (oneOk X many k = fldOk X many k 110) := by unfold Hid oneOk; rw [hXop, hc]
          clear hnx0 hc
          obtain ⟨j, rfl⟩ : ∃ j, k = j + 3 := ⟨k - 3, by omega⟩
          have hj2 : j < 2 := by omega
          have hj2i : (j : Int) < 2 := by omega
          have wj : IntKind.i64.wrap (j : Int) = (j : Int) := IntWalk.i64_in _ (by omega)
          have t1 := c6 j hj2 W4 hk4
          clear c5 c6
          by_cases g0 : 0 ≤ X.u j
          · by_cases g1 : X.u j ≤ 2000
            · have HT := Lib.hid (HYES.out (by rw [HOK.out]; show (decide (0 ≤ X.u (j + 3 - 3)) && decide (X.u (j + 3 - 3) ≤ 2000)) = true; rw [Nat.add_sub_cancel, decide_eq_true g0, decide_eq_true g1]; rfl))
              clear HYES HNO HOK
              go_wp2_with fail
              go_roundw
              case rel => exact ⟨_, by omega, hI4, HT.out, hk4⟩
              case measure => simp [World.iterPos, hI4, hI]; omega
            · have HF := Lib.hid (HNO.out (by rw [HOK.out]; show (decide (0 ≤ X.u (j + 3 - 3)) && decide (X.u (j + 3 - 3) ≤ 2000)) = false; rw [Nat.add_sub_cancel, decide_eq_false g1, Bool.and_false]))
              clear HYES HNO HOK
              go_wp2_with fail
              go_ret
              exact ⟨by rw [HF.out]; rfl, hback hk4⟩
          · have HF := Lib.hid (HNO.out (by rw [HOK.out]; show (decide (0 ≤ X.u (j + 3 - 3)) && decide (X.u (j + 3 - 3) ≤ 2000)) = false; rw [Nat.add_sub_cancel, decide_eq_false g0]; rfl))
            clear HYES HNO HOK
            go_wp2_with fail
            go_ret
            exact ⟨by rw [HF.out]; rfl, hback hk4⟩
        · skip
          have hnx : ∀ ty, (Instr.next (.pointer (some ⟨I, 0, none⟩)) true ty).run Tryd.prog wr = .ok (.tuple #[.bool true, .int .i64 k, .int .i32 106]) W4 := fun ty => by rw [hnx0 ty, hc]; rfl
          have HOK : Hid (oneOk X many k = fldOk X many k 106) := by unfold Hid oneOk; rw [hXop, hc]
          clear hnx0 hc
          obtain ⟨j, rfl⟩ : ∃ j, k = j + 3 := ⟨k - 3, by omega⟩
          have hj2 : j < 2 := by omega
          have hj2i : (j : Int) < 2 := by omega
          have wj : IntKind.i64.wrap (j : Int) = (j : Int) := IntWalk.i64_in _ (by omega)
          have t1 := c6 j hj2 W4 hk4
          clear c5 c6
          by_cases g0 : 0 ≤ X.u j
          · by_cases g1 : X.u j ≤ many
            · have HT := Lib.hid (HYES.out (by rw [HOK.out]; show (decide (0 ≤ X.u (j + 3 - 3)) && decide (X.u (j + 3 - 3) ≤ many)) = true; rw [Nat.add_sub_cancel, decide_eq_true g0, decide_eq_true g1]; rfl))
              clear HYES HNO HOK
              go_wp2_with fail
              go_roundw
              case rel => exact ⟨_, by omega, hI4, HT.out, hk4⟩
              case measure => simp [World.iterPos, hI4, hI]; omega
            · have HF := Lib.hid (HNO.out (by rw [HOK.out]; show (decide (0 ≤ X.u (j + 3 - 3)) && decide (X.u (j + 3 - 3) ≤ many)) = false; rw [Nat.add_sub_cancel, decide_eq_false g1, Bool.and_false]))
              clear HYES HNO HOK
              go_wp2_with fail
              go_ret
              exact ⟨by rw [HF.out]; rfl, hback hk4⟩
          · have HF := Lib.hid (HNO.out (by rw [HOK.out]; show (decide (0 ≤ X.u (j + 3 - 3)) && decide (X.u (j + 3 - 3) ≤ many)) = false; rw [Nat.add_sub_cancel, decide_eq_false g0]; rfl))
            clear HYES HNO HOK
            go_wp2_with fail
            go_ret
            exact ⟨by rw [HF.out]; rfl, hback hk4⟩
        · skip
          have hnx : ∀ ty, (Instr.next (.pointer (some ⟨I, 0, none⟩)) true ty).run Tryd.prog wr = .ok (.tuple #[.bool true, .int .i64 k, .int .i32 46]) W4 := fun ty => by rw [hnx0 ty, hc]; rfl
          have HOK : Hid (oneOk X many k = fldOk X many k 46) := by unfold Hid oneOk; rw [hXop, hc]
          clear hnx0 hc
          by_cases h3 : k < 3
          · have ki : (k : Int) < 3 := by omega
            have t0 := c5 k h3 W4 hk4
            clear c5 c6
            generalize he : (X.t k).toList.isEmpty = em
            cases em with
            | true =>
              have HT := Lib.hid (HYES.out (by rw [HOK.out]; show (if k < 3 then (X.t k).toList.isEmpty else X.u (k - 3) == 0) = true; rw [if_pos h3]; exact he))
              clear HYES HNO HOK
              go_wp2_with fail
              go_roundw
              case rel => exact ⟨_, by omega, hI4, HT.out, hk4⟩
              case measure => simp [World.iterPos, hI4, hI]; omega
            | false =>
              have HF := Lib.hid (HNO.out (by rw [HOK.out]; show (if k < 3 then (X.t k).toList.isEmpty else X.u (k - 3) == 0) = false; rw [if_pos h3]; exact he))
              clear HYES HNO HOK
              go_wp2_with fail
              go_ret
              exact ⟨by rw [HF.out]; rfl, hback hk4⟩
          · have h3 : 3 ≤ k := by omega
            obtain ⟨j, rfl⟩ : ∃ j, k = j + 3 := ⟨k - 3, by omega⟩
            have hj2 : j < 2 := by omega
            have hj2i : (j : Int) < 2 := by omega
            have wj : IntKind.i64.wrap (j : Int) = (j : Int) := IntWalk.i64_in _ (by omega)
            have t1 := c6 j hj2 W4 hk4
            clear c5 c6
            have ki : ¬ ((j : Int) + 3 < 3) := by omega
            generalize he : (X.u j == 0) = em
            cases em with
            | true =>
              have HT := Lib.hid (HYES.out (by rw [HOK.out]; show (if j + 3 < 3 then (X.t (j + 3)).toList.isEmpty else X.u (j + 3 - 3) == 0) = true; rw [if_neg (by omega), Nat.add_sub_cancel]; exact he))
              clear HYES HNO HOK
              go_wp2_with fail
              go_roundw
              case rel => exact ⟨_, by omega, hI4, HT.out, hk4⟩
              case measure => simp [World.iterPos, hI4, hI]; omega
            | false =>
              have HF := Lib.hid (HNO.out (by rw [HOK.out]; show (if j + 3 < 3 then (X.t (j + 3)).toList.isEmpty else X.u (j + 3 - 3) == 0) = false; rw [if_neg (by omega), Nat.add_sub_cancel]; exact he))
              clear HYES HNO HOK
              go_wp2_with fail
              go_ret
              exact ⟨by rw [HF.out]; rfl, hback hk4⟩
      · obtain rfl : k = 5 := by omega
        have hend := fun ty => Lib.run_next_end_at (P := Tryd.prog) wr I (fld op) 5 ty hI (by omega)
        have HF : Hid (oneB X many = true) := by unfold Hid; rw [HB.out, HA.out]
        clear c5 c6
        go_wp2_with fail
        go_ret
        exact ⟨by rw [HF.out]; rfl, hback hkr⟩
end Go.Proofs.YthachckofghppaaDoor
