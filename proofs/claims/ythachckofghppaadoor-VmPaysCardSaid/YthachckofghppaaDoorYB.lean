/- Programs in memory, program.May (picked out of JF). -/
import Derived.Test.YthachckofghppaaDoorJD
namespace Go.Proofs.YthachckofghppaaDoor
open Go.RowKit
set_option maxRecDepth 100000
set_option linter.unusedSimpArgs false
set_option linter.unusedVariables false

theorem insC_len (x : InsE) : (insC x).length = 6 := rfl
def ProgAt (w : World) (v : Value) (p : List InsE) : Prop := RowAt w 6 v (p.map insC) ∧ ∀ x ∈ p, x.Fits
theorem ProgAt.kept {w w' : World} {v : Value} {p : List InsE} (h : ProgAt w v p) (hk : Kept (fun _ => False) w w') : ProgAt w' v p := ⟨h.1.kept hk, h.2⟩
theorem ProgAt.slc {w : World} {v : Value} {p : List InsE} (h : ProgAt w v p) : ∃ a c, v = .slice a p.length c ∧ p.length ≤ c ∧ p.length ≤ maxLen := by
  obtain ⟨a, c, h1, h2, h3⟩ := h.1.slc
  rw [List.length_map] at h1 h2 h3
  exact ⟨a, c, h1, h2, h3⟩
theorem load_ins {w : World} {b o : Nat} {x : InsE} (h : w.rangeAt b o (insC x)) : (Instr.loadAt 25 (.pointer (some ⟨b, o, none⟩))).run Tryd.prog w = .ok (.agg (insC x).toArray) w := by
  have := run_loadAt_mid (P := Tryd.prog) w b o 25 (insC x) _ h Tryd.underlying25 rfl (by kernel_rfl)
  simpa using this
theorem ProgAt.elem {w : World} {a : Option Addr} {n c : Nat} {p : List InsE} (h : ProgAt w (.slice a n c) p) {j : Nat} {x : InsE} (hj : p[j]? = some x) :
    x.Fits ∧ ∃ b o, a = some ⟨b, o, none⟩ ∧ b < w.heap.size ∧ (Instr.loadAt 25 (.pointer (some ⟨b, o + j * 6, none⟩))).run Tryd.prog w = .ok (.agg (insC x).toArray) w := by
  obtain ⟨b, o, e, hb, hr⟩ := h.1.elem (j := j) (xs := insC x) (by rw [List.getElem?_map, hj]; rfl)
  exact ⟨h.2 x (List.mem_of_getElem? hj), b, o, e, hb, load_ins hr⟩
def insOk (p : List InsE) (i : Nat) : Bool := match p[i]? with
  | none => true
  | some x => oneB x p.length
def progB (p : List InsE) : Bool := decide (p.length ≤ 30) && allTo (insOk p) p.length
def FM (B : Nat) : Value := .func (.func 14) #[] #[.pointer (some ⟨B, 0, none⟩)]
set_option maxRecDepth 100000 in
set_option maxHeartbeats 2000000 in
theorem may1_ct {w : World} (hT : FldTab w) {B : Nat} {a : Option Addr} {n c : Nat} (hB : w.heap[B]? = some (.cells #[.slice a n c] 26 (0, 0))) {x : InsE} (hx : x.Fits) :
    Calls Tryd.prog 14 #[.agg (insC x).toArray, .pointer (some ⟨B, 0, none⟩)] w fun e w' => e = .returned (.bool (!oneB x n)) ∧ Kept (fun _ => False) w w' := by
  have k1 : Kept (fun _ => False) w (w.alloc (.cells (insC x).toArray 25)) := (Kept.refl _ w).alloc _
  have ld : (Instr.loadAt 25 (.pointer (some ⟨w.heap.size, 0, none⟩))).run Tryd.prog (w.alloc (.cells (insC x).toArray 25)) = .ok (.agg (insC x).toArray) (w.alloc (.cells (insC x).toArray 25)) :=
    load_row Tryd.underlying25 rfl (heap_last w _) (by kernel_rfl)
  have c0 : (w.alloc (.cells (insC x).toArray 25)).cell? ⟨B, 0, none⟩ = some (.slice a n c) := by
    rw [k1.cell (p := ⟨B, 0, none⟩) (Array.getElem?_eq_some_iff.1 hB).1 not_false, cell_of_row _ _ _ _ _ _ hB]; rfl
  have oc := one_ct (hT.kept k1) x hx n
  go_enter Tryd.func14, Tryd.ntmps14
  go_wp2_with (first
    | (with_reducible refine wpl_load 25 _ rfl rfl ?_ ld ?_
       · rfl
       simp only [Act.put, List.getElem_toArray, List.getElem_cons_zero, List.getElem_cons_succ, List.setIfInBounds_toArray, List.set_cons_zero, List.set_cons_succ]))
  refine oc.mono ?_
  rintro e W ⟨rfl, k2⟩
  go_wp2_with fail
  go_ret
  exact ⟨rfl, k1.trans k2⟩
set_option maxRecDepth 100000 in
set_option maxHeartbeats 2000000 in
theorem indexI_ct {w : World} (hT : FldTab w) {v : Value} {p : List InsE} (h : ProgAt w v p) {B : Nat} {a : Option Addr} {n c : Nat} (hB : w.heap[B]? = some (.cells #[.slice a n c] 26 (0, 0))) :
    Calls Tryd.prog 21 #[v, FM B] w fun e w' => (∃ r : Int, e = .returned (.int .i64 r) ∧ decide ((0 : Int) ≤ r) = !p.all fun x => oneB x n) ∧ Kept (fun _ => False) w w' := by
  obtain ⟨a', c', rfl, hc, hm⟩ := h.slc
  simp only [maxLen] at hm
  unfold FM
  have hzB := (Array.getElem?_eq_some_iff.1 hB).1
  go_enter Tryd.func21, Tryd.ntmps21
  go_wp2_with fail
  go_loopg [8] p.length (fun gk i wr => ∃ k : Nat, gk = p.length - k ∧ k ≤ p.length ∧ i = .int .i64 k ∧ Hid ((p.take k).all (fun x => oneB x n) = true) ∧ Kept (fun _ => False) w wr)
  case atStart => exact ⟨0, by omega, by omega, rfl, rfl, Kept.refl _ _⟩
  case round =>
    obtain ⟨k, rfl, hk, rfl, HA, hkr⟩ := hrel
    by_cases hlt : k < p.length
    · have hf : p[k]? = some p[k] := List.getElem?_eq_getElem hlt
      have htk : p.take (k + 1) = p.take k ++ [p[k]] := List.take_succ_eq_append_getElem hlt
      generalize p[k] = x at hf htk
      obtain ⟨hx, b, o, rfl, hb, ld⟩ := (h.kept hkr).elem hf
      have hBr : wr.heap[B]? = some (.cells #[.slice a n c] 26 (0, 0)) := by rw [hkr.block _ hzB not_false]; exact hB
      have mc := may1_ct (hT.kept hkr) hBr hx
      have HN : Hid ((p.take (k + 1)).all (fun x => oneB x n) = oneB x n) := by
        unfold Hid
        rw [htk, List.all_append, HA.out]; simp
      have HY : Hid (oneB x n = false → (p.all fun x => oneB x n) = false) := by
        unfold Hid
        intro hq
        rw [List.all_eq_false]
        exact ⟨x, List.mem_of_getElem? hf, by rw [hq]; simp⟩
      clear htk hf hBr
      generalize oneB x n = q at HN HY mc
      go_wp2_with (first
        | (with_reducible refine wpl_load 25 _ rfl rfl ?_ ld ?_
           · rfl
           simp only [Act.put, List.getElem_toArray, List.getElem_cons_zero, List.getElem_cons_succ, List.setIfInBounds_toArray, List.set_cons_zero, List.set_cons_succ]))
      refine mc.mono ?_
      rintro e W ⟨rfl, k1⟩
      cases q with
      | false =>
        have HF := Lib.hid (HY.out rfl)
        clear HY HN mc
        go_wp2_with fail
        go_ret
        exact ⟨⟨_, rfl, by rw [HF.out]; simp⟩, hkr.trans k1⟩
      | true =>
        clear HY mc
        go_wp2_with fail
        go_roundg (p.length - (k + 1))
        case rel => exact ⟨k + 1, rfl, by omega, by go_num, HN.out, hkr.trans k1⟩
        case measure => omega
    · obtain rfl : k = p.length := by omega
      have hin := HA.out
      rw [List.take_length] at hin
      have HX := Lib.hid hin
      clear hin
      go_wp2_with fail
      go_ret
      exact ⟨⟨_, rfl, by rw [HX.out]; rfl⟩, hkr⟩
theorem contI_ct {w : World} (hT : FldTab w) {v : Value} {p : List InsE} (h : ProgAt w v p) {B : Nat} {a : Option Addr} {n c : Nat} (hB : w.heap[B]? = some (.cells #[.slice a n c] 26 (0, 0))) :
    Calls Tryd.prog 13 #[v, FM B] w fun e w' => e = .returned (.bool (!p.all fun x => oneB x n)) ∧ Kept (fun _ => False) w w' := by
  have ic := indexI_ct hT h hB
  obtain ⟨a', c', rfl, hc, hm⟩ := h.slc
  unfold FM at ic ⊢
  go_enter Tryd.func13, Tryd.ntmps13
  go_wp2_with fail
  refine ic.mono ?_
  rintro e W ⟨⟨r, rfl, hr⟩, k1⟩
  have HR := Lib.hid hr
  clear hr ic
  go_wp2_with fail
  go_ret
  exact ⟨by rw [← HR.out]; rfl, k1⟩
theorem progB_eq (p : List InsE) : progB p = (decide (p.length ≤ 30) && p.all fun x => oneB x p.length) := by
  unfold progB
  congr 1
  rw [Bool.eq_iff_iff, allTo_iff, List.all_eq_true]
  constructor
  · intro h x hx
    obtain ⟨i, hi, rfl⟩ := List.getElem_of_mem hx
    have := h i hi
    unfold insOk at this
    rw [List.getElem?_eq_getElem hi] at this
    exact this
  · intro h i hi
    unfold insOk
    rw [List.getElem?_eq_getElem hi]
    exact h _ (List.getElem_mem hi)
set_option maxRecDepth 100000 in
set_option maxHeartbeats 2000000 in
theorem pmay_ct {w : World} (hT : FldTab w) {v : Value} {p : List InsE} (h : ProgAt w v p) :
    Calls Tryd.prog 9 #[v] w fun e w' => e = .returned (.bool (progB p)) ∧ Kept (fun _ => False) w w' := by
  obtain ⟨a, c, rfl, hc, hm⟩ := h.slc
  simp only [maxLen] at hm
  have hp := progB_eq p
  have k1 : Kept (fun _ => False) w (w.alloc (.cells #[.slice a p.length c] 26)) := (Kept.refl _ w).alloc _
  have hB := heap_last w (.cells #[.slice a p.length c] 26)
  by_cases h30 : p.length ≤ 30
  · have i30 : (p.length : Int) ≤ 30 := by omega
    rw [decide_eq_true h30] at hp
    have HP := Lib.hid hp
    clear hp
    go_enter Tryd.func9, Tryd.ntmps9
    go_wp2_with fail
    generalize w.alloc (.cells #[.slice a p.length c] 26) = W at k1 hB ⊢
    generalize w.heap.size = B at hB ⊢
    have cc := contI_ct (hT.kept k1) (h.kept k1) hB
    unfold FM at cc
    refine cc.mono ?_
    rintro e W2 ⟨rfl, k2⟩
    clear cc
    go_wp2_with fail
    go_ret
    exact ⟨by rw [HP.out]; simp, k1.trans k2⟩
  · have i30 : ¬ (p.length : Int) ≤ 30 := by omega
    rw [decide_eq_false h30] at hp
    have HP := Lib.hid hp
    clear hp
    go_enter Tryd.func9, Tryd.ntmps9
    go_wp2_with fail
    go_ret
    exact ⟨by rw [HP.out]; rfl, k1⟩
end Go.Proofs.YthachckofghppaaDoor
