/- LexerBack's walk. -/
import Derived.Test.YtlheboafhgmbpaaDoorMA
import Derived.Test.YtlheboafhgmbpaaDoorLY
import Derived.Test.YtlheboafhgmbpaaDoorLK
import Derived.Laws.Runes
namespace Go.Proofs.YtlheboafhgmbpaaDoor
open Go.RowKit
set_option maxRecDepth 100000
set_option linter.unusedSimpArgs false
set_option linter.unusedVariables false

theorem encode_eq (c : Nat) (h : c ≤ 1114111) (h2 : c < 55296 ∨ 57343 < c) : Utf8.encode (c : Int) = ⟨(Lib.encodeRune (c : Int)).toArray⟩ := by
  have hv : Utf8.valid (c : Int) = true := by unfold Utf8.valid; simp; omega
  have e : (c : Int).toNat = c := by omega
  unfold Utf8.encode Lib.encodeRune
  rw [hv, e]
  simp only [if_true]
  by_cases h7 : c < 128
  · rw [if_pos h7, Lib.encodeRuneZ_one (by omega) (by omega)]; simp
  rw [if_neg h7]
  by_cases h11 : c < 2048
  · rw [if_pos h11, Lib.encodeRuneZ_two (by omega) (by omega)]
    have a1 : (192 + (c : Int) / 64).toNat = 192 + c / 64 := by omega
    have a2 : (128 + (c : Int) % 64).toNat = 128 + c % 64 := by omega
    simp [a1, a2]
  rw [if_neg h11]
  by_cases h16 : c < 65536
  · rw [if_pos h16, Lib.encodeRuneZ_three (by omega)]
    have a1 : (224 + (c : Int) / 4096).toNat = 224 + c / 4096 := by omega
    have a2 : (128 + (c : Int) / 64 % 64).toNat = 128 + c / 64 % 64 := by omega
    have a3 : (128 + (c : Int) % 64).toNat = 128 + c % 64 := by omega
    simp [a1, a2, a3]
  · rw [if_neg h16, Lib.encodeRuneZ_four (by omega) (by omega)]
    have a1 : (240 + (c : Int) / 262144).toNat = 240 + c / 262144 := by omega
    have a2 : (128 + (c : Int) / 4096 % 64).toNat = 128 + c / 4096 % 64 := by omega
    have a3 : (128 + (c : Int) / 64 % 64).toNat = 128 + c / 64 % 64 := by omega
    have a4 : (128 + (c : Int) % 64).toNat = 128 + c % 64 := by omega
    simp [a1, a2, a3, a4]
theorem conv_rune (c : Nat) (h : c ≤ 1114111) (h2 : c < 55296 ∨ 57343 < c) (w : World) : (convert 21 9 (.int .i32 (c : Int))).run Tryd.prog w = .ok (.string ⟨(Lib.encodeRune (c : Int)).toArray⟩) w := by
  rw [run_convert_int_string w 21 9 .i32 (c : Int) (by kernel_rfl) Tryd.underlying9, encode_eq c h h2]
/-- A row of bytes of the call's own, and beside it where a string is gone over. -/
structure BRow (w0 w : World) (J : Nat) (s : ByteArray) (pos : Nat) (v : Value) (ys : List UInt8) : Prop where
  kept : Kept (fun _ => False) w0 w
  row : w.ownsRow w0.heap.size 5 1 v ys.length (bv ys)
  it : w.heap[J]? = some (.stringIter s pos)
  far : w0.heap.size ≤ J
theorem BRow.size {w0 w : World} {J : Nat} {s : ByteArray} {pos : Nat} {v : Value} {ys : List UInt8} (h : BRow w0 w J s pos v ys) : w0.heap.size ≤ w.heap.size := h.kept.size
theorem BRow.alloc {w0 w : World} {J : Nat} {s : ByteArray} {pos : Nat} {v : Value} {ys : List UInt8} (h : BRow w0 w J s pos v ys) (o : Obj) : BRow w0 (w.alloc o) J s pos v ys := by
  have k : Kept (fun _ => False) w (w.alloc o) := (Kept.refl _ w).alloc _
  exact ⟨h.kept.trans k, row_kept h.row k, by rw [k.block J (Array.getElem?_eq_some_iff.1 h.it).1 not_false]; exact h.it, h.far⟩
theorem BRow.grown {w0 w w' : World} {J : Nat} {s : ByteArray} {pos : Nat} {v v' : Value} {ys zs : List UInt8} (h : BRow w0 w J s pos v ys) (hg : w.grownBy w' v.ownBlock) (hr : w'.ownsRow w0.heap.size 5 1 v' zs.length (bv zs)) : BRow w0 w' J s pos v' zs := by
  refine ⟨grown_kept h.kept hg (fun k e => (World.ownsRow.lt h.row k e).1), hr, ?_, h.far⟩
  rw [hg.block J (Array.getElem?_eq_some_iff.1 h.it).1 (fun e => ?_)]
  · exact h.it
  · obtain ⟨_, c, h2⟩ := own_type h.row e.symm
    rw [h.it] at h2
    injection h2 with h2
    cases h2
theorem BRow.app {w0 w : World} {J : Nat} {s : ByteArray} {pos : Nat} {v x : Value} {ys l : List UInt8} (h : BRow w0 w J s pos v ys) (hx : ByAt w x l) (hn : ys.length + l.length ≤ 1000000) (ty : TypeId) :
    ∃ a c zs w', zs = ys ++ l ∧ (Builtin.append_ #[22, 22] ty #[v, x]).run Tryd.prog w = .ok (.slice a zs.length c) w' ∧ BRow w0 w' J s pos (.slice a zs.length c) zs := by
  obtain ⟨v', w', ap, ho, hg⟩ := app_by h.row hx hn h.size ty
  rw [← bv_app, ← List.length_append] at ho
  obtain ⟨a', c', rfl⟩ := row_form ho
  exact ⟨a', c', _, w', rfl, ap, h.grown hg ho⟩
theorem BRow.txt {w0 w : World} {J : Nat} {s : ByteArray} {pos : Nat} {v : Value} {ys : List UInt8} (h : BRow w0 w J s pos v ys) (x : List UInt8) (hn : ys.length + x.length ≤ 1000000) (ty : TypeId) :
    ∃ a c zs w', zs = ys ++ x ∧ (Builtin.append_ #[22, 9] ty #[v, .string ⟨x.toArray⟩]).run Tryd.prog w = .ok (.slice a zs.length c) w' ∧ BRow w0 w' J s pos (.slice a zs.length c) zs := by
  obtain ⟨i, hi, hz, hs, hby⟩ : ∃ i, Tryd.prog.info? 5 = some i ∧ i.zero = some (.int .u8 0) ∧ i.size = 1 ∧ i.bytes = 1 := ⟨_, rfl, rfl, rfl, rfl⟩
  obtain ⟨v', w', a1, a2, a3, _⟩ := Lib.run_append_own_string (P := Tryd.prog) w w0.heap.size 22 9 ty 5 i Tryd.underlying22 Tryd.underlying9 hi hz hs hby v ys.length (bv ys) h.row ⟨x.toArray⟩ (by show ys.length + x.toArray.size ≤ _; simp [maxLen]; omega) (by show ys.length + x.toArray.size ≤ _; simp; omega) h.size
  have e1 : Lib.strCells ⟨x.toArray⟩ = bv x := by
    rw [Lib.strCells_eq]
    simp [Lib.byteCells, bv]
  have e2 : (⟨x.toArray⟩ : ByteArray).size = x.length := by show x.toArray.size = _; simp
  rw [e1, e2, ← bv_app, ← List.length_append] at a2
  obtain ⟨a, c, rfl⟩ := row_form a2
  exact ⟨a, c, ys ++ x, w', rfl, a1, h.grown a3 a2⟩
theorem BRow.next {w0 w : World} {J : Nat} {s : ByteArray} {pos : Nat} {v : Value} {ys : List UInt8} (h : BRow w0 w J s pos v ys) (pos' : Nat) : BRow w0 (w.iterAt J s pos') J s pos' v ys := by
  have k : Kept (fun k => k = J) w (w.iterAt J s pos') := ⟨rfl, rfl, rfl, by rw [Lib.iterAt_size]; exact Nat.le_refl _, fun i _ hi => Lib.iterAt_other w J i s pos' hi⟩
  refine ⟨h.kept.trans' k (fun i hi e => by have := h.far; omega), row_stay h.row k (fun i hi e => ?_), Lib.iterAt_heap w J s pos pos' h.it, h.far⟩
  subst e
  obtain ⟨_, c, h2⟩ := own_type h.row hi
  rw [h.it] at h2
  injection h2 with h2
  cases h2
theorem BRow.first {w0 w : World} {s : ByteArray} {v : Value} {ys : List UInt8} (hk : Kept (fun _ => False) w0 w) (hr : w.ownsRow w0.heap.size 5 1 v ys.length (bv ys)) : BRow w0 (w.iter s 0) w.heap.size s 0 v ys := by
  have k : Kept (fun _ => False) w (w.iter s 0) := (Kept.refl _ w).alloc _
  exact ⟨hk.trans k, row_kept hr k, heap_last w _, hk.size⟩
end Go.Proofs.YtlheboafhgmbpaaDoor
