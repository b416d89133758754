/- The known case of layer 16. -/
import Derived.Test.YtfohljljoalmoaaDoorJH
namespace Go.Proofs.YtfohljljoalmoaaDoor
open Go.RowKit
set_option maxRecDepth 100000
set_option linter.unusedSimpArgs false
set_option linter.unusedVariables false

def kT : TgtE := ⟨⟨#[97]⟩, [⟨#[98]⟩], 0, []⟩
def kX : List FileE := [⟨⟨#[120]⟩, [49]⟩]
def kY : List FileE := [⟨⟨#[121]⟩, [50]⟩]
def kO : List FileE := [⟨⟨#[105, 110, 47, 98, 47, 121]⟩, [50]⟩, ⟨⟨#[115, 114, 99, 47, 120]⟩, [49]⟩]
theorem k_ok : okI kT kX [kY] = true := by decide +kernel
theorem k_may : mayB kO = true := by decide +kernel
theorem k_all : allF kX (depsZ kT [kY]) = [⟨⟨#[115, 114, 99, 47, 120]⟩, [49]⟩, ⟨⟨#[105, 110, 47, 98, 47, 121]⟩, [50]⟩] := by
  have h1 : slashed srcS ⟨#[120]⟩ = ⟨#[115, 114, 99, 47, 120]⟩ := by decide +kernel
  have h2 : slashed (inS ⟨#[98]⟩) ⟨#[121]⟩ = ⟨#[105, 110, 47, 98, 47, 121]⟩ := by decide +kernel
  simp [allF, depsZ, kT, kX, kY, depF, upF, h1, h2]
theorem k_ins : insO kX (depsZ kT [kY]) = some kO := by
  refine (insO_iff (okI_deps k_ok).1).2 ⟨k_may, ?_⟩
  rw [k_all]
  exact List.Perm.swap _ _ _
theorem bytes1 {w : World} {g c : Nat} {b : UInt8} {t : TypeId} {fr : Nat × Nat} (h : w.heap[g]? = some (.cells #[.int .u8 b.toNat] t fr)) : ByAt w (.slice (some ⟨g, 0, none⟩) 1 c) [b] :=
  ⟨_, c, rfl, by simp [maxLen], fun _ => ⟨g, 0, rfl, (Array.getElem?_eq_some_iff.1 h).1, fun i u hu => by
    rw [cell_of_row _ _ _ _ _ _ h, ← hu]
    simp [bv]⟩⟩
theorem row1 {w : World} {g z : Nat} {xs : List Value} {t : TypeId} {fr : Nat × Nat} (h : w.heap[g]? = some (.cells xs.toArray t fr)) : RowAt w z (.slice (some ⟨g, 0, none⟩) 1 1) [xs] :=
  ⟨_, 1, rfl, Nat.le_refl _, by simp [maxLen], fun _ => ⟨g, 0, rfl, (Array.getElem?_eq_some_iff.1 h).1, fun j ys hj i u hu => by
    cases j with
    | zero =>
      simp only [List.getElem?_cons_zero, Option.some.injEq] at hj
      subst hj
      rw [cell_of_row _ _ _ _ _ _ h]
      rw [← hu]
      simp
    | succ j => simp at hj⟩⟩
theorem bs_s (s : ByteArray) (w : World) : (Instr.buildSlice 22 1 #[(0, .string s)]).run Tryd.prog w = .ok (.slice (some ⟨w.heap.size, 0, none⟩) 1 1) (w.alloc (.cells #[.string s] 9)) := by kernel_rfl
theorem bs_b (b : Int) (w : World) : (Instr.buildSlice 44 1 #[(0, .int .u8 b)]).run Tryd.prog w = .ok (.slice (some ⟨w.heap.size, 0, none⟩) 1 1) (w.alloc (.cells #[.int .u8 b] 5)) := by kernel_rfl
theorem bs_t (a : Option Addr) (n c : Nat) (w : World) : (Instr.buildSlice 28 1 #[(0, .slice a n c)]).run Tryd.prog w = .ok (.slice (some ⟨w.heap.size, 0, none⟩) 1 1) (w.alloc (.cells #[.slice a n c] 27)) := by kernel_rfl
theorem bd_t (s : ByteArray) (a : Option Addr) (n c : Nat) (w : World) : (Instr.build 25 #[(0, .string s), (1, .slice a n c)]).run Tryd.prog w = .ok (.agg #[.string s, .slice a n c, .int .i64 0, .slice none 0 0]) w := by kernel_rfl
theorem cv_b (b : Int) (w : World) : (convert 44 44 (.slice (some ⟨w.heap.size, 0, none⟩) 1 1)).run Tryd.prog (w.alloc (.cells #[.int .u8 b] 5)) = .ok (.slice (some ⟨w.heap.size, 0, none⟩) 1 1) (w.alloc (.cells #[.int .u8 b] 5 (1, 2))) :=
  Lib.run_convert_bytes_const (P := Tryd.prog) w 44 5 #[.int .u8 b] 1 1 Tryd.underlying44 Tryd.underlying5
set_option maxRecDepth 100000 in
set_option maxHeartbeats 4000000 in
theorem known16_ct {w : World} (hT : FldTab w) : Calls Tryd.prog 8 #[] w fun e w' => e = .returned (.bool true) ∧ Kept (fun _ => False) w w' := by
  have b0 := bs_s ⟨#[98]⟩ w
  have k0 : Kept (fun _ => False) w (w.alloc (.cells #[.string ⟨#[98]⟩] 9)) := (Kept.refl _ w).alloc _
  have h0 := heap_last w (.cells #[.string ⟨#[98]⟩] 9)
  generalize w.alloc (.cells #[.string ⟨#[98]⟩] 9) = W0 at b0 k0 h0
  generalize w.heap.size = B0 at b0 h0
  have bt := bd_t ⟨#[97]⟩ (some ⟨B0, 0, none⟩) 1 1 W0
  have b1 := bs_b 49 W0
  have cv1 := cv_b 49 W0
  have k1 : Kept (fun _ => False) W0 (W0.alloc (.cells #[.int .u8 49] 5 (1, 2))) := (Kept.refl _ W0).alloc _
  have h1 := heap_last W0 (.cells #[.int .u8 49] 5 (1, 2))
  generalize W0.alloc (.cells #[.int .u8 49] 5 (1, 2)) = W1 at cv1 k1 h1
  have bf1 := build_f ⟨#[120]⟩ (some ⟨W0.heap.size, 0, none⟩) 1 1 W1
  have b2 := bslice_f1 ⟨#[120]⟩ (some ⟨W0.heap.size, 0, none⟩) 1 1 W1
  have k2 : Kept (fun _ => False) W1 (W1.alloc (.cells #[.string ⟨#[120]⟩, .slice (some ⟨W0.heap.size, 0, none⟩) 1 1] 46)) := (Kept.refl _ W1).alloc _
  have h2 := heap_last W1 (.cells #[.string ⟨#[120]⟩, .slice (some ⟨W0.heap.size, 0, none⟩) 1 1] 46)
  generalize W1.alloc (.cells #[.string ⟨#[120]⟩, .slice (some ⟨W0.heap.size, 0, none⟩) 1 1] 46) = W2 at b2 k2 h2
  have htX : TreeAt W2 (.slice (some ⟨W1.heap.size, 0, none⟩) 1 1) kX := tree1 (f := ⟨⟨#[120]⟩, [49]⟩) h2 ((bytes1 (b := 49) (c := 1) h1).kept k2) (by simp [maxLen]; decide)
  have b3 := bs_b 50 W2
  have cv3 := cv_b 50 W2
  have k3 : Kept (fun _ => False) W2 (W2.alloc (.cells #[.int .u8 50] 5 (1, 2))) := (Kept.refl _ W2).alloc _
  have h3 := heap_last W2 (.cells #[.int .u8 50] 5 (1, 2))
  generalize W2.alloc (.cells #[.int .u8 50] 5 (1, 2)) = W3 at cv3 k3 h3
  have bf3 := build_f ⟨#[121]⟩ (some ⟨W2.heap.size, 0, none⟩) 1 1 W3
  have b4 := bslice_f1 ⟨#[121]⟩ (some ⟨W2.heap.size, 0, none⟩) 1 1 W3
  have k4 : Kept (fun _ => False) W3 (W3.alloc (.cells #[.string ⟨#[121]⟩, .slice (some ⟨W2.heap.size, 0, none⟩) 1 1] 46)) := (Kept.refl _ W3).alloc _
  have h4 := heap_last W3 (.cells #[.string ⟨#[121]⟩, .slice (some ⟨W2.heap.size, 0, none⟩) 1 1] 46)
  generalize W3.alloc (.cells #[.string ⟨#[121]⟩, .slice (some ⟨W2.heap.size, 0, none⟩) 1 1] 46) = W4 at b4 k4 h4
  have htY : TreeAt W4 (.slice (some ⟨W3.heap.size, 0, none⟩) 1 1) kY := tree1 (f := ⟨⟨#[121]⟩, [50]⟩) h4 ((bytes1 (b := 50) (c := 1) h3).kept k4) (by simp [maxLen]; decide)
  have b5 := bs_t (some ⟨W3.heap.size, 0, none⟩) 1 1 W4
  have k5 : Kept (fun _ => False) W4 (W4.alloc (.cells #[.slice (some ⟨W3.heap.size, 0, none⟩) 1 1] 27)) := (Kept.refl _ W4).alloc _
  have h5 := heap_last W4 (.cells #[.slice (some ⟨W3.heap.size, 0, none⟩) 1 1] 27)
  generalize W4.alloc (.cells #[.slice (some ⟨W3.heap.size, 0, none⟩) 1 1] 27) = W5 at b5 k5 h5
  have k05 := (((k1.trans k2).trans k3).trans k4).trans k5
  have K5 := k0.trans k05
  have hd : DepsAt W5 (.slice (some ⟨B0, 0, none⟩) 1 1) kT.deps := ⟨(row1 (xs := [.string ⟨#[98]⟩]) h0).kept k05, fun d hd => by simp [kT] at hd; subst hd; simp [maxLen]; decide⟩
  have htg : TgtAt W5 kT (.slice (some ⟨B0, 0, none⟩) 1 1) (.slice none 0 0) := ⟨by simp [kT, maxLen]; decide, hd, RowAt.nil _ _ _, fun x hx => by simp [kT] at hx⟩
  have hts : TreesAt W5 (.slice (some ⟨W4.heap.size, 0, none⟩) 1 1) [kY] := ⟨[.slice (some ⟨W3.heap.size, 0, none⟩) 1 1], rfl, row1 (xs := [.slice (some ⟨W3.heap.size, 0, none⟩) 1 1]) h5, fun j l hl => by
    cases j with
    | zero =>
      simp only [List.getElem?_cons_zero, Option.some.injEq] at hl
      subst hl
      exact ⟨_, rfl, htY.kept k5⟩
    | succ j => simp at hl⟩
  have ic := inputs_ct (hT.kept K5) htg (htX.kept ((k3.trans k4).trans k5)) hts
  rw [show tgtC kT (.slice (some ⟨B0, 0, none⟩) 1 1) (.slice none 0 0) = #[.string ⟨#[97]⟩, .slice (some ⟨B0, 0, none⟩) 1 1, .int .i64 0, .slice none 0 0] from rfl] at ic
  clear h0 h1 h2 h3 h4 h5 hd htg hts htX htY k0 k1 k2 k3 k4 k5 k05
  go_enter Tryd.func8, Tryd.ntmps8
  go_wp2_with (first
    | (with_reducible refine wpl_bslice 22 _ _ rfl rfl ?_ b0 ?_
       · (go_simp <;> rfl)
       simp only [Act.put, List.getElem_toArray, List.getElem_cons_zero, List.getElem_cons_succ, List.setIfInBounds_toArray, List.set_cons_zero, List.set_cons_succ])
    | (with_reducible refine wpl_build 25 _ rfl rfl ?_ bt ?_
       · (go_simp <;> rfl)
       simp only [Act.put, List.getElem_toArray, List.getElem_cons_zero, List.getElem_cons_succ, List.setIfInBounds_toArray, List.set_cons_zero, List.set_cons_succ])
    | (with_reducible refine wpl_bslice 44 _ _ rfl rfl ?_ b1 ?_
       · (go_simp <;> rfl)
       simp only [Act.put, List.getElem_toArray, List.getElem_cons_zero, List.getElem_cons_succ, List.setIfInBounds_toArray, List.set_cons_zero, List.set_cons_succ])
    | (with_reducible refine wpl_bslice 44 _ _ rfl rfl ?_ b3 ?_
       · (go_simp <;> rfl)
       simp only [Act.put, List.getElem_toArray, List.getElem_cons_zero, List.getElem_cons_succ, List.setIfInBounds_toArray, List.set_cons_zero, List.set_cons_succ])
    | (refine wpl_val rfl (exec_conv 44 44 _ rfl rfl cv1) ?_)
    | (refine wpl_val rfl (exec_conv 44 44 _ rfl rfl cv3) ?_)
    | (with_reducible refine wpl_build 46 _ rfl rfl ?_ bf1 ?_
       · (go_simp <;> rfl)
       simp only [Act.put, List.getElem_toArray, List.getElem_cons_zero, List.getElem_cons_succ, List.setIfInBounds_toArray, List.set_cons_zero, List.set_cons_succ])
    | (with_reducible refine wpl_build 46 _ rfl rfl ?_ bf3 ?_
       · (go_simp <;> rfl)
       simp only [Act.put, List.getElem_toArray, List.getElem_cons_zero, List.getElem_cons_succ, List.setIfInBounds_toArray, List.set_cons_zero, List.set_cons_succ])
    | (with_reducible refine wpl_bslice 27 _ _ rfl rfl ?_ b2 ?_
       · (go_simp <;> rfl)
       simp only [Act.put, List.getElem_toArray, List.getElem_cons_zero, List.getElem_cons_succ, List.setIfInBounds_toArray, List.set_cons_zero, List.set_cons_succ])
    | (with_reducible refine wpl_bslice 27 _ _ rfl rfl ?_ b4 ?_
       · (go_simp <;> rfl)
       simp only [Act.put, List.getElem_toArray, List.getElem_cons_zero, List.getElem_cons_succ, List.setIfInBounds_toArray, List.set_cons_zero, List.set_cons_succ])
    | (with_reducible refine wpl_bslice 28 _ _ rfl rfl ?_ b5 ?_
       · (go_simp <;> rfl)
       simp only [Act.put, List.getElem_toArray, List.getElem_cons_zero, List.getElem_cons_succ, List.setIfInBounds_toArray, List.set_cons_zero, List.set_cons_succ]))
  refine ic.mono ?_
  rintro e W6 ⟨ho, k6⟩
  obtain ⟨v, rfl, ht⟩ : ∃ v, e = .returned (.tuple #[v, .int .i64 0]) ∧ TreeAt W6 v kO := by
    rcases ho with ⟨h1, _⟩ | ⟨_, ⟨h1, _⟩ | ⟨o, v', h1, he, ht⟩⟩
    · rw [k_ok] at h1; cases h1
    · rw [k_ins] at h1; cases h1
    · rw [k_ins] at h1; injection h1 with h1; subst h1; exact ⟨v', he, ht⟩
  obtain ⟨a, c, hv⟩ := ht.slc
  have hv : v = .slice a 2 c := hv
  subst hv
  obtain ⟨_, b, o, y, rfl, hbl, hrx, hB⟩ := ht.file (j := 0) rfl
  obtain ⟨_, b', o', y', hbe, hbl', hrx', _⟩ := ht.file (j := 1) rfl
  injection hbe with hbe
  injection hbe with e1 e2 _
  subst e1; subst e2
  have c0 : W6.cell? ⟨b, o, none⟩ = some (.string ⟨#[105, 110, 47, 98, 47, 121]⟩) := hrx 0 _ rfl
  have c1 : W6.cell? ⟨b, o + 1, none⟩ = some y := hrx 1 _ rfl
  have c2 : W6.cell? ⟨b, o + 2, none⟩ = some (.string ⟨#[115, 114, 99, 47, 120]⟩) := hrx' 0 _ rfl
  obtain ⟨a7, c7, rfl⟩ := hB.slc
  have cs : (convert 44 9 (.slice a7 1 c7)).run Tryd.prog W6 = .ok (.string ⟨#[50]⟩) W6 := conv_str hB
  clear ic b0 bt b1 cv1 bf1 b2 b3 cv3 bf3 b4 b5 hrx hrx' hB
  go_wp2_with fail
  go_ret
  exact ⟨rfl, K5.trans k6⟩
end Go.Proofs.YtfohljljoalmoaaDoor
