/- The known case. -/
import Derived.Test.YthachckofghppaaDoorTB
namespace Go.Proofs.YthachckofghppaaDoor
open Go.RowKit
set_option maxRecDepth 100000
set_option linter.unusedSimpArgs false
set_option linter.unusedVariables false

theorem tree1 {w : World} {g c : Nat} {x : Value} {f : FileE} {t : TypeId} {fr : Nat × Nat} (h : w.heap[g]? = some (.cells #[.string f.path, x] t fr)) (hx : ByAt w x f.bytes) (hs : f.path.size ≤ maxLen) : TreeAt w (.slice (some ⟨g, 0, none⟩) 1 c) [f] :=
  ⟨_, c, rfl, by simp [maxLen], fun _ => ⟨g, 0, rfl, (Array.getElem?_eq_some_iff.1 h).1, fun j f' hf => by
    match j, hf with
    | 0, hf =>
      simp at hf; subst hf
      refine ⟨hs, x, fun i u hu => ?_, hx⟩
      rw [cell_of_row _ _ _ _ _ _ h, ← hu]
      simp⟩⟩
theorem bytes2 {w : World} {g c : Nat} {t : TypeId} {fr : Nat × Nat} (h : w.heap[g]? = some (.cells #[.int .u8 120, .int .u8 121] t fr)) : ByAt w (.slice (some ⟨g, 0, none⟩) 2 c) [120, 121] :=
  ⟨_, c, rfl, by simp [maxLen], fun _ => ⟨g, 0, rfl, (Array.getElem?_eq_some_iff.1 h).1, fun i u hu => by
    rw [cell_of_row _ _ _ _ _ _ h, ← hu]
    simp [bv]⟩⟩
theorem bslice_xy (w : World) : (Instr.buildSlice 22 2 #[(0, .int .u8 120), (1, .int .u8 121)]).run Tryd.prog w = .ok (.slice (some ⟨w.heap.size, 0, none⟩) 2 2) (w.alloc (.cells #[.int .u8 120, .int .u8 121] 5)) := by kernel_rfl
def sA : ByteArray := ⟨#[97]⟩
def sDE : ByteArray := ⟨#[100, 47, 101]⟩
def sDEA : ByteArray := ⟨#[100, 47, 101, 47, 97]⟩
def sD : ByteArray := ⟨#[100]⟩
def sEA : ByteArray := ⟨#[101, 47, 97]⟩
def tA : List FileE := [⟨sA, [120, 121]⟩]
theorem may_tA : mayB tA = true := by decide +kernel
theorem path_DE : pathB sDE = true := by decide +kernel
theorem path_D : pathB sD = true := by decide +kernel
theorem path_a__b : pathB ⟨#[97, 47, 47, 98]⟩ = false := by decide +kernel
theorem path_A : pathB ⟨#[65]⟩ = false := by decide +kernel
theorem raw_tA : rawL tA = [1, 1, 1, 1, 97, 1, 2, 120, 121] := by decide +kernel
theorem up_tA : tA.map (upF sDE) = [⟨sDEA, [120, 121]⟩] := by
  have : slashed sDE sA = sDEA := by decide +kernel
  simp only [tA, List.map, upF, this]
theorem may_u : mayB [⟨sDEA, [120, 121]⟩] = true := by decide +kernel
theorem below_u : belowL sD [⟨sDEA, [120, 121]⟩] = [⟨sEA, [120, 121]⟩] := by
  have h1 : hasB sDEA (dirS sD) = true := by decide +kernel
  have h2 : restS sD sDEA = sEA := by decide +kernel
  simp [belowL, h1, h2]
theorem same_u : sameB [⟨sEA, [120, 121]⟩] [⟨sEA, [120, 121]⟩] = true := by decide +kernel

section
variable {P : Program} {ops : Array Oper} {rest : List Oper} {o : Oper} {a : Act} {w w1 : World} {Q : Exit → Act → World → Prop} {v : Value}
theorem wpl_val_g (hw : Region.wanted o (yielded ops a.tmps) = true) (hrun : (execOp a.eval o).run P w = .ok (.value v) w1) (h : wpList P ops Q rest (a.put o.dst v) w1) : wpList P ops Q (o :: rest) a w :=
  wpList_step fun K hK => by rw [if_pos hw]; unfold Oper.wp; rw [hrun]; exact hK _ _ h
end
end Go.Proofs.YthachckofghppaaDoor
