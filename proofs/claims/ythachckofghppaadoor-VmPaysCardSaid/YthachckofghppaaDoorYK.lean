/- vm.pack's closure; slices.IndexFunc, DeleteFunc over files. -/
import Derived.Test.YthachckofghppaaDoorYE
import Derived.Laws.IdiomCopy
namespace Go.Proofs.YthachckofghppaaDoor
open Go.RowKit
set_option maxRecDepth 100000
set_option linter.unusedSimpArgs false
set_option linter.unusedVariables false

def FV (B1 B2 : Nat) : Value := .func (.func 46) #[] #[.pointer (some ⟨B1, 0, none⟩), .pointer (some ⟨B2, 0, none⟩)]
/-- Is this file the one that is left out? -/
def delP (d t : ByteArray) (f : FileE) : Bool := eqB (slashed d f.path) t
structure BoxS (w : World) (B : Nat) (s : ByteArray) : Prop where
  heap : w.heap[B]? = some (.cells #[.string s] 9 (0, 0))
  size : s.size ≤ 100000
theorem BoxS.kept {S : Nat → Prop} {w w' : World} {B : Nat} {s : ByteArray} (h : BoxS w B s) (k : Kept S w w') (hS : ¬ S B) : BoxS w' B s := ⟨by rw [k.block _ (Array.getElem?_eq_some_iff.1 h.heap).1 hS]; exact h.heap, h.size⟩
theorem BoxS.cell {w : World} {B : Nat} {s : ByteArray} (h : BoxS w B s) : w.cell? ⟨B, 0, none⟩ = some (.string s) := by rw [cell_of_row _ _ _ _ _ _ h.heap]; rfl
set_option maxHeartbeats 2000000 in
theorem pack1_ct {w : World} {B1 B2 : Nat} {d t p : ByteArray} {x : Value} (h1 : BoxS w B1 d) (h2 : BoxS w B2 t) (hp : p.size ≤ 100000) :
    Calls Tryd.prog 46 #[.agg #[.string p, x], .pointer (some ⟨B1, 0, none⟩), .pointer (some ⟨B2, 0, none⟩)] w fun e w' => e = .returned (.bool (eqB (slashed d p) t)) ∧ Kept (fun _ => False) w w' := by
  have k1 : Kept (fun _ => False) w (w.alloc (.cells #[.string p, x] 33)) := (Kept.refl _ w).alloc _
  have hp0 := heap_last w (.cells #[.string p, x] 33)
  have c1 := (h1.kept k1 not_false).cell
  have c2 := (h2.kept k1 not_false).cell
  have hd := h1.size
  have q1 : (9223372036854775807 < d.size + 1) = False := by simp; omega
  have q2 : (9223372036854775807 < d.size + 1 + p.size) = False := by simp; omega
  go_enter Tryd.func46, Tryd.ntmps46
  go_upto_region 1 with fail
  generalize w.alloc (.cells #[.string p, x] 33) = W1 at k1 hp0 c1 c2 ⊢
  generalize w.heap.size = G at hp0 ⊢
  have c3 : W1.cell? ⟨G, 0, none⟩ = some (.string p) := by rw [cell_of_row _ _ _ _ _ _ hp0]; rfl
  go_wp2_with fail
  go_ret
  exact ⟨rfl, k1⟩
set_option maxRecDepth 100000 in
set_option maxHeartbeats 4000000 in
theorem indexF_ct {w : World} {v : Value} {l : List FileE} (h : TreeAt w v l) (hl : l.length ≤ 1000) (hsz : ∀ f ∈ l, f.path.size ≤ 100000) {B1 B2 : Nat} {d t : ByteArray} (h1 : BoxS w B1 d) (h2 : BoxS w B2 t) :
    Calls Tryd.prog 63 #[v, FV B1 B2] w fun e w' => ((e = .returned (.int .i64 (-1)) ∧ ∀ f ∈ l, delP d t f = false) ∨ ∃ k : Nat, e = .returned (.int .i64 k) ∧ (∀ f ∈ l.take k, delP d t f = false) ∧ ∃ f, l[k]? = some f ∧ delP d t f = true) ∧ Kept (fun _ => False) w w' := by
  obtain ⟨a, c, rfl⟩ := h.slc
  unfold FV
  go_enter Tryd.func63, Tryd.ntmps63
  go_wp2_with fail
  go_loopg [8] l.length (fun gk i wr => ∃ k : Nat, gk = l.length - k ∧ k ≤ l.length ∧ i = .int .i64 k ∧ Hid (∀ f ∈ l.take k, delP d t f = false) ∧ Kept (fun _ => False) w wr)
  case atStart => exact ⟨0, by omega, by omega, rfl, fun f hf => by simp at hf, Kept.refl _ _⟩
  case round =>
    obtain ⟨k, rfl, hk, rfl, HA, hkr⟩ := hrel
    by_cases hlt : k < l.length
    · have hf : l[k]? = some l[k] := List.getElem?_eq_getElem hlt
      have htk : l.take (k + 1) = l.take k ++ [l[k]] := List.take_succ_eq_append_getElem hlt
      have hfs := hsz l[k] (List.getElem_mem hlt)
      generalize l[k] = f at hf htk hfs
      obtain ⟨_, b, o, x, rfl, hb, hr, hB⟩ := (h.kept hkr).file hf
      obtain ⟨xa, xc, hx⟩ := hB.slc
      subst hx
      have ld := load_file hr
      have pc := pack1_ct (h1.kept hkr not_false) (h2.kept hkr not_false) (x := .slice xa f.bytes.length xc) hfs
      have HF := Lib.hid hf
      have HD : Hid (delP d t f = eqB (slashed d f.path) t) := rfl
      have HN : Hid (delP d t f = false → ∀ g ∈ l.take (k + 1), delP d t g = false) := fun q g hg => by
        rw [htk] at hg
        rcases List.mem_append.1 hg with hg | hg
        · exact HA.out g hg
        · simp at hg; subst hg; exact q
      clear htk hf hr hB
      generalize eqB (slashed d f.path) t = q at pc HD
      go_wp2_with (first
        | (with_reducible refine wpl_load 33 _ rfl rfl ?_ ld ?_
           · rfl
           simp only [Act.put, List.getElem_toArray, List.getElem_cons_zero, List.getElem_cons_succ, List.setIfInBounds_toArray, List.set_cons_zero, List.set_cons_succ]))
      refine pc.mono ?_
      rintro e W ⟨rfl, k1⟩
      cases q with
      | true =>
        clear pc ld
        go_wp2_with fail
        go_ret
        exact ⟨.inr ⟨k, rfl, HA.out, f, HF.out, HD.out⟩, hkr.trans k1⟩
      | false =>
        have HZ := Lib.hid (HN.out HD.out)
        clear pc ld
        go_wp2_with fail
        go_roundg (l.length - (k + 1))
        case rel => exact ⟨k + 1, rfl, by omega, by go_num, HZ, hkr.trans k1⟩
        case measure => omega
    · obtain rfl : k = l.length := by omega
      have hin := HA.out
      rw [List.take_length] at hin
      have HX := Lib.hid hin
      clear hin
      go_wp2_with fail
      go_ret
      exact ⟨.inl ⟨rfl, HX.out⟩, hkr⟩
end Go.Proofs.YthachckofghppaaDoor
