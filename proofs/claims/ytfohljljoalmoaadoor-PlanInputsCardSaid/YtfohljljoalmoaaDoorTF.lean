/- wire.Uint. -/
import Derived.Test.YtfohljljoalmoaaDoorTC
namespace Go.Proofs.YtfohljljoalmoaaDoor
open Go.RowKit
set_option maxRecDepth 100000
set_option linter.unusedSimpArgs false
set_option linter.unusedVariables false

/-- ByAt, and the capacity is no less than the length. -/
def ByC (w : World) (v : Value) (l : List UInt8) : Prop := ByAt w v l ∧ ∃ a c, v = .slice a l.length c ∧ l.length ≤ c
theorem ByC.kept {w w' : World} {v : Value} {l : List UInt8} (h : ByC w v l) (hk : Kept (fun _ => False) w w') : ByC w' v l := ⟨h.1.kept hk, h.2⟩
theorem ByAt.cells {w : World} {a : Option Addr} {n c : Nat} {l : List UInt8} (h : ByAt w (.slice a n c) l) (hl : l ≠ []) : ∃ b o, a = some ⟨b, o, none⟩ ∧ b < w.heap.size ∧ w.rangeAt b o (bv l) := by
  obtain ⟨a', c', e, _, h3⟩ := h
  injection e with e1 _ _
  subst e1
  exact h3 hl
theorem sizeOf1 (w : World) : (sizeOf (Tryd.prog.elem 44)).run Tryd.prog w = .ok 1 w := by kernel_rfl
theorem ByC.drop {w : World} {v : Value} {l : List UInt8} (h : ByC w v l) {i : Nat} (hi : i ≤ l.length) : ∃ a' c', (∀ w', (Instr.sliceAt 44 v (some (.int .i64 i)) none none).run Tryd.prog w' = .ok (.slice a' (l.length - i) c') w') ∧ ByC w (.slice a' (l.length - i) c') (l.drop i) := by
  obtain ⟨h1, a, c, rfl, hc⟩ := h
  have hd : (l.drop i).length = l.length - i := by simp
  refine ⟨if c = i then a else a.map (·.add (i * 1)), c - i, fun w' => ?_, ?_, _, _, by rw [hd], by rw [hd]; omega⟩
  · rw [run_sliceAt_slice _ _ _ _ _ _ rfl, run_slice_l _ _ _ _ _ rfl _ _ (by omega) (by omega), sizeOf1]
    simp [Result.andThen, sliced]
  · have h1' := h1
    obtain ⟨_, _, _, hm, _⟩ := h1'
    refine ⟨_, c - i, by rw [hd], by rw [hd]; omega, fun hne => ?_⟩
    have hlne : l ≠ [] := fun e => by subst e; simp at hne
    obtain ⟨b, o, rfl, hb, hr⟩ := h1.cells hlne
    have hlt : i < l.length := by
      rcases Nat.lt_or_ge i l.length with h' | h'
      · exact h'
      · exact absurd (List.drop_eq_nil_of_le h') hne
    rw [if_neg (by omega)]
    refine ⟨b, o + i, by simp [Addr.add], hb, fun j u hu => ?_⟩
    have := hr (i + j) u (by rw [← hu]; simp [bv, List.getElem?_drop])
    rw [show o + i + j = o + (i + j) by omega]; exact this
theorem ByC.take {w : World} {v : Value} {l : List UInt8} (h : ByC w v l) {i : Nat} (hi : i ≤ l.length) : ∃ a' c', (∀ w', (Instr.sliceAt 44 v none (some (.int .i64 i)) none).run Tryd.prog w' = .ok (.slice a' i c') w') ∧ ByC w (.slice a' i c') (l.take i) := by
  obtain ⟨h1, a, c, rfl, hc⟩ := h
  have hd : (l.take i).length = i := by rw [List.length_take]; omega
  refine ⟨a, c, fun w' => ?_, ?_, _, _, by rw [hd], by omega⟩
  · rw [run_sliceAt_slice _ _ _ _ _ _ rfl, run_slice_h _ _ _ _ _ rfl _ _ (by omega) (by omega), sizeOf1]
    cases a with
    | none => simp [Result.andThen, sliced]
    | some a => simp [Result.andThen, sliced, Addr.add]
  · have h1' := h1
    obtain ⟨_, _, _, hm, _⟩ := h1'
    refine ⟨_, c, by rw [hd], by omega, fun hne => ?_⟩
    have hlne : l ≠ [] := fun e => by subst e; simp at hne
    obtain ⟨b, o, rfl, hb, hr⟩ := h1.cells hlne
    refine ⟨b, o, rfl, hb, fun j u hu => ?_⟩
    refine hr j u ?_
    have hj := (List.getElem?_eq_some_iff.1 hu).1
    rw [bv_len, hd] at hj
    rw [← hu]; simp [bv, List.getElem?_take, hj]

/-- A number out of its digits. -/
def beN (ds : List UInt8) : Nat := ds.foldl (fun n d => n * 256 + d.toNat) 0
theorem beN_snoc (ds : List UInt8) (d : UInt8) : beN (ds ++ [d]) = beN ds * 256 + d.toNat := by simp [beN]
theorem beN_acc : ∀ (ds : List UInt8) (n : Nat), ds.foldl (fun n d => n * 256 + d.toNat) n < (n + 1) * 256 ^ ds.length
  | [], n => by simp
  | d :: ds, n => by
    rw [List.foldl_cons, List.length_cons]
    have h1 := beN_acc ds (n * 256 + d.toNat)
    have h2 := d.toNat_lt
    have h3 : (n * 256 + d.toNat + 1) * 256 ^ ds.length ≤ ((n + 1) * 256) * 256 ^ ds.length := Nat.mul_le_mul_right _ (by omega)
    rw [Nat.pow_succ, Nat.mul_comm (256 ^ ds.length) 256, ← Nat.mul_assoc]
    omega
theorem beN_lt (ds : List UInt8) : beN ds < 256 ^ ds.length := by have := beN_acc ds 0; simpa [beN] using this
/-- The number at the head of these bytes, and how many bytes it takes. -/
def uintS : List UInt8 → Option (Nat × Nat)
  | [] => none
  | c :: r => if 8 < c.toNat then none else if 0 < c.toNat ∧ r.head? = some 0 then none else if r.length < c.toNat then none else some (beN (r.take c.toNat), 1 + c.toNat)
end Go.Proofs.YtfohljljoalmoaaDoor
