/- The known case. -/
import Derived.Test.YtehpaddddiigbaaDoorTB
namespace Go.Proofs.YtehpaddddiigbaaDoor
open Go.RowKit
set_option maxRecDepth 100000
set_option linter.unusedSimpArgs false
set_option linter.unusedVariables false

theorem tree1 {w : World} {g c : Nat} {x : Value} {f : FileE} {t : TypeId} {fr : Nat × Nat} (h : w.heap[g]? = some (.cells #[.string f.path, x] t fr)) (hx : ByAt w x f.bytes) (hs : f.path.size ≤ maxLen) : TreeAt w (.slice (some ⟨g, 0, none⟩) 1 c) [f] :=
  ⟨_, c, rfl, by simp [maxLen], fun _ => ⟨g, 0, rfl, (Array.getElem?_eq_some_iff.1 h).1, fun j f' hf => by
    match j, hf with
    | 0, hf =>
      simp at hf; subst hf
      refine ⟨hs, x, fun i u hu => ?_, hx⟩
      rw [cell_of_row _ _ _ _ _ _ h, ← hu]
      simp⟩⟩
theorem bytes2 {w : World} {g c : Nat} {t : TypeId} {fr : Nat × Nat} (h : w.heap[g]? = some (.cells #[.int .u8 120, .int .u8 121] t fr)) : ByAt w (.slice (some ⟨g, 0, none⟩) 2 c) [120, 121] :=
  ⟨_, c, rfl, by simp [maxLen], fun _ => ⟨g, 0, rfl, (Array.getElem?_eq_some_iff.1 h).1, fun i u hu => by
    rw [cell_of_row _ _ _ _ _ _ h, ← hu]
    simp [bv]⟩⟩
theorem bslice_xy (w : World) : (Instr.buildSlice 32 2 #[(0, .int .u8 120), (1, .int .u8 121)]).run Tryd.prog w = .ok (.slice (some ⟨w.heap.size, 0, none⟩) 2 2) (w.alloc (.cells #[.int .u8 120, .int .u8 121] 5)) := by kernel_rfl
def sA : ByteArray := ⟨#[97]⟩
def sDE : ByteArray := ⟨#[100, 47, 101]⟩
def sDEA : ByteArray := ⟨#[100, 47, 101, 47, 97]⟩
def sD : ByteArray := ⟨#[100]⟩
def sEA : ByteArray := ⟨#[101, 47, 97]⟩
def tA : List FileE := [⟨sA, [120, 121]⟩]
theorem may_tA : mayB tA = true := by decide +kernel
theorem path_DE : pathB sDE = true := by decide +kernel
theorem path_D : pathB sD = true := by decide +kernel
theorem path_a__b : pathB ⟨#[97, 47, 47, 98]⟩ = false := by decide +kernel
theorem path_A : pathB ⟨#[65]⟩ = false := by decide +kernel
theorem raw_tA : rawL tA = [1, 1, 1, 1, 97, 1, 2, 120, 121] := by decide +kernel
theorem up_tA : tA.map (upF sDE) = [⟨sDEA, [120, 121]⟩] := by
  have : slashed sDE sA = sDEA := by decide +kernel
  simp only [tA, List.map, upF, this]
theorem may_u : mayB [⟨sDEA, [120, 121]⟩] = true := by decide +kernel
theorem below_u : belowL sD [⟨sDEA, [120, 121]⟩] = [⟨sEA, [120, 121]⟩] := by
  have h1 : hasB sDEA (dirS sD) = true := by decide +kernel
  have h2 : restS sD sDEA = sEA := by decide +kernel
  simp [belowL, h1, h2]
theorem same_u : sameB [⟨sEA, [120, 121]⟩] [⟨sEA, [120, 121]⟩] = true := by decide +kernel

section
variable {P : Program} {ops : Array Oper} {rest : List Oper} {o : Oper} {a : Act} {w w1 : World} {Q : Exit → Act → World → Prop} {v : Value}
theorem wpl_val_g (hw : Region.wanted o (yielded ops a.tmps) = true) (hrun : (execOp a.eval o).run P w = .ok (.value v) w1) (h : wpList P ops Q rest (a.put o.dst v) w1) : wpList P ops Q (o :: rest) a w :=
  wpList_step fun K hK => by rw [if_pos hw]; unfold Oper.wp; rw [hrun]; exact hK _ _ h
end
set_option maxRecDepth 100000 in
set_option maxHeartbeats 4000000 in
theorem known_ct (w : World) : Calls Tryd.prog 6 #[] w fun e w' => e = .returned (.bool true) ∧ Kept (fun _ => False) w w' := by
  have b1 := bslice_xy w
  have cv := Lib.run_convert_bytes_const (P := Tryd.prog) w 32 5 #[.int .u8 120, .int .u8 121] 2 2 Tryd.underlying32 Tryd.underlying5
  have k1 : Kept (fun _ => False) w (w.alloc (.cells #[.int .u8 120, .int .u8 121] 5 (2, 3))) := (Kept.refl _ w).alloc _
  have h1 := heap_last w (.cells #[.int .u8 120, .int .u8 121] 5 (2, 3))
  have cv : (convert 32 32 (.slice (some ⟨w.heap.size, 0, none⟩) 2 2)).run Tryd.prog (w.alloc (.cells #[.int .u8 120, .int .u8 121] 5)) = .ok (.slice (some ⟨w.heap.size, 0, none⟩) 2 2) (w.alloc (.cells #[.int .u8 120, .int .u8 121] 5 (2, 3))) := cv
  generalize w.alloc (.cells #[.int .u8 120, .int .u8 121] 5 (2, 3)) = W1 at cv k1 h1
  have bf := build_f ⟨#[97]⟩ (some ⟨w.heap.size, 0, none⟩) 2 2 W1
  have b2 := bslice_f1 ⟨#[97]⟩ (some ⟨w.heap.size, 0, none⟩) 2 2 W1
  have k2 : Kept (fun _ => False) W1 (W1.alloc (.cells #[.string ⟨#[97]⟩, .slice (some ⟨w.heap.size, 0, none⟩) 2 2] 41)) := (Kept.refl _ W1).alloc _
  have h2 := heap_last W1 (.cells #[.string ⟨#[97]⟩, .slice (some ⟨w.heap.size, 0, none⟩) 2 2] 41)
  generalize W1.alloc (.cells #[.string ⟨#[97]⟩, .slice (some ⟨w.heap.size, 0, none⟩) 2 2] 41) = W2 at b2 k2 h2
  have hB := (bytes2 (c := 2) h1).kept k2
  have ht : TreeAt W2 (.slice (some ⟨W1.heap.size, 0, none⟩) 1 1) tA := tree1 (f := ⟨sA, [120, 121]⟩) h2 hB (by simp [sA, maxLen]; decide)
  have hi := mayIs may_tA
  go_enter Tryd.func6, Tryd.ntmps6
  go_wp2_with (first
    | (with_reducible refine wpl_bslice 32 _ _ rfl rfl ?_ b1 ?_
       · (go_simp <;> rfl)
       simp only [Act.put, List.getElem_toArray, List.getElem_cons_zero, List.getElem_cons_succ, List.setIfInBounds_toArray, List.set_cons_zero, List.set_cons_succ])
    | (refine wpl_val rfl (exec_conv 32 32 _ rfl rfl cv) ?_)
    | (with_reducible refine wpl_build 41 _ rfl rfl ?_ bf ?_
       · (go_simp <;> rfl)
       simp only [Act.put, List.getElem_toArray, List.getElem_cons_zero, List.getElem_cons_succ, List.setIfInBounds_toArray, List.set_cons_zero, List.set_cons_succ])
    | (with_reducible refine wpl_bslice 23 _ _ rfl rfl ?_ b2 ?_
       · (go_simp <;> rfl)
       simp only [Act.put, List.getElem_toArray, List.getElem_cons_zero, List.getElem_cons_succ, List.setIfInBounds_toArray, List.set_cons_zero, List.set_cons_succ]))
  refine (bytes_ct ht may_tA (fun f hf => ⟨(hi.file f hf).2.1, (hi.file f hf).2.2⟩) hi.len).mono ?_
  rintro e W3 ⟨v3, rfl, h3, k3⟩
  rw [raw_tA] at h3
  obtain ⟨a3, c3, hv3⟩ := h3.slc
  subst hv3
  have u4 := under_ct (ht.kept k3) may_tA path_DE
  clear b1 cv bf b2
  go_wp2_with fail
  refine u4.mono ?_
  rintro e W4 ⟨hr, k4⟩
  obtain ⟨v4, rfl, h4⟩ : ∃ v4, e = .returned (.tuple #[v4, .int .i64 0]) ∧ TreeAt W4 v4 [⟨sDEA, [120, 121]⟩] := by
    rcases hr with ⟨_, v4, h, h4⟩ | ⟨hf, _⟩
    · rw [up_tA] at h4; exact ⟨v4, h, h4⟩
    · rw [up_tA, may_u] at hf; cases hf
  obtain ⟨a4, c4, hv4⟩ := h4.slc
  subst hv4
  have h4 : TreeAt W4 (.slice a4 1 c4) [⟨sDEA, [120, 121]⟩] := h4
  obtain ⟨_, b, o, x, rfl, hbl, hrx, _⟩ := h4.file (j := 0) rfl
  have cp : W4.cell? ⟨b, o, none⟩ = some (.string ⟨#[100, 47, 101, 47, 97]⟩) := hrx 0 _ rfl
  have cs : (convert 32 9 (.slice a3 9 c3)).run Tryd.prog W4 = .ok (.string ⟨#[1, 1, 1, 1, 97, 1, 2, 120, 121]⟩) W4 := conv_str (h3.kept k4)
  have bc := below_ct h4 may_u path_D
  clear u4 hrx
  go_wp2_with fail
  refine bc.mono ?_
  rintro e W5 ⟨v5, rfl, h5, k5⟩
  rw [below_u] at h5
  obtain ⟨a5, c5, hv5⟩ := h5.slc
  subst hv5
  have h5 : TreeAt W5 (.slice a5 1 c5) [⟨sEA, [120, 121]⟩] := h5
  clear bc cs cp
  have kw5 := (((k1.trans k2).trans k3).trans k4).trans k5
  clear k1 k2 k3 k4 k5 h1 h2 hB ht hi h3 h4 hbl
  have k1 : Kept (fun _ => False) W5 ((W5.alloc (.cells #[.int .u8 120, .int .u8 121] 5 (2, 3))).alloc (.cells #[.string ⟨#[101, 47, 97]⟩, .slice (some ⟨W5.heap.size, 0, none⟩) 2 2] 41)) := ((Kept.refl _ W5).alloc _).alloc _
  have h1 : ((W5.alloc (.cells #[.int .u8 120, .int .u8 121] 5 (2, 3))).alloc (.cells #[.string ⟨#[101, 47, 97]⟩, .slice (some ⟨W5.heap.size, 0, none⟩) 2 2] 41)).heap[W5.heap.size]? = some (.cells #[.int .u8 120, .int .u8 121] 5 (2, 3)) := by
    rw [Below.heap_alloc _ _ _ (by simp)]; exact heap_last W5 _
  have h2 : ((W5.alloc (.cells #[.int .u8 120, .int .u8 121] 5 (2, 3))).alloc (.cells #[.string ⟨#[101, 47, 97]⟩, .slice (some ⟨W5.heap.size, 0, none⟩) 2 2] 41)).heap[W5.heap.size + 1]? = some (.cells #[.string ⟨#[101, 47, 97]⟩, .slice (some ⟨W5.heap.size, 0, none⟩) 2 2] 41) := heap_at (by simp)
  have ht : TreeAt ((W5.alloc (.cells #[.int .u8 120, .int .u8 121] 5 (2, 3))).alloc (.cells #[.string ⟨#[101, 47, 97]⟩, .slice (some ⟨W5.heap.size, 0, none⟩) 2 2] 41)) (.slice (some ⟨W5.heap.size + 1, 0, none⟩) 1 1) [⟨sEA, [120, 121]⟩] := tree1 (f := ⟨sEA, [120, 121]⟩) h2 (bytes2 (c := 2) h1) (by simp [sEA, maxLen]; decide)
  have sc := same_ct (h5.kept k1) ht (by simp) (by simp)
  rw [same_u] at sc
  clear h1 h2 ht h5
  have cv : (convert 32 32 (.slice (some ⟨W5.heap.size, 0, none⟩) 2 2)).run Tryd.prog (W5.alloc (.cells #[.int .u8 120, .int .u8 121] 5)) = .ok (.slice (some ⟨W5.heap.size, 0, none⟩) 2 2) (W5.alloc (.cells #[.int .u8 120, .int .u8 121] 5 (2, 3))) := Lib.run_convert_bytes_const (P := Tryd.prog) W5 32 5 #[.int .u8 120, .int .u8 121] 2 2 Tryd.underlying32 Tryd.underlying5
  go_wp2_with fail
  refine sc.mono ?_
  rintro e W8 ⟨rfl, k8⟩
  have i1 := isPath_ct ⟨#[97, 47, 47, 98]⟩ W8 (by simp [maxLen]; decide)
  rw [path_a__b] at i1
  have kw8 := (kw5.trans k1).trans k8
  clear sc k1 k8 kw5
  go_wp2_with fail
  refine i1.mono ?_
  rintro e W9 ⟨rfl, k9⟩
  have i2 := isPath_ct ⟨#[65]⟩ W9 (by simp [maxLen]; decide)
  rw [path_A] at i2
  clear i1
  go_wp2_with fail
  refine i2.mono ?_
  rintro e W10 ⟨rfl, k10⟩
  go_wp2_with fail
  go_ret
  exact ⟨rfl, (kw8.trans k9).trans k10⟩
end Go.Proofs.YtehpaddddiigbaaDoor
