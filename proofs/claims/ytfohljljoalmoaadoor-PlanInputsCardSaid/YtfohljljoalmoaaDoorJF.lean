/- program.May, parser.body, parser.named, parser.May of one target. -/
import Derived.Test.YtfohljljoalmoaaDoorJD
namespace Go.Proofs.YtfohljljoalmoaaDoor
open Go.RowKit
set_option maxRecDepth 100000
set_option linter.unusedSimpArgs false
set_option linter.unusedVariables false

theorem insC_len (x : InsE) : (insC x).length = 6 := rfl
def ProgAt (w : World) (v : Value) (p : List InsE) : Prop := RowAt w 6 v (p.map insC) ∧ ∀ x ∈ p, x.Fits
theorem ProgAt.kept {w w' : World} {v : Value} {p : List InsE} (h : ProgAt w v p) (hk : Kept (fun _ => False) w w') : ProgAt w' v p := ⟨h.1.kept hk, h.2⟩
theorem ProgAt.slc {w : World} {v : Value} {p : List InsE} (h : ProgAt w v p) : ∃ a c, v = .slice a p.length c ∧ p.length ≤ c ∧ p.length ≤ maxLen := by
  obtain ⟨a, c, h1, h2, h3⟩ := h.1.slc
  rw [List.length_map] at h1 h2 h3
  exact ⟨a, c, h1, h2, h3⟩
theorem load_ins {w : World} {b o : Nat} {x : InsE} (h : w.rangeAt b o (insC x)) : (Instr.loadAt 48 (.pointer (some ⟨b, o, none⟩))).run Tryd.prog w = .ok (.agg (insC x).toArray) w := by
  have := run_loadAt_mid (P := Tryd.prog) w b o 48 (insC x) _ h Tryd.underlying48 rfl (by kernel_rfl)
  simpa using this
theorem ProgAt.elem {w : World} {a : Option Addr} {n c : Nat} {p : List InsE} (h : ProgAt w (.slice a n c) p) {j : Nat} {x : InsE} (hj : p[j]? = some x) :
    x.Fits ∧ ∃ b o, a = some ⟨b, o, none⟩ ∧ b < w.heap.size ∧ (Instr.loadAt 48 (.pointer (some ⟨b, o + j * 6, none⟩))).run Tryd.prog w = .ok (.agg (insC x).toArray) w := by
  obtain ⟨b, o, e, hb, hr⟩ := h.1.elem (j := j) (xs := insC x) (by rw [List.getElem?_map, hj]; rfl)
  exact ⟨h.2 x (List.mem_of_getElem? hj), b, o, e, hb, load_ins hr⟩
def insOk (p : List InsE) (i : Nat) : Bool := match p[i]? with
  | none => true
  | some x => oneB x p.length
def progB (p : List InsE) : Bool := decide (p.length ≤ 30) && allTo (insOk p) p.length
def FM (B : Nat) : Value := .func (.func 83) #[] #[.pointer (some ⟨B, 0, none⟩)]
set_option maxRecDepth 100000 in
set_option maxHeartbeats 2000000 in
theorem may1_ct {w : World} (hT : FldTab w) {B : Nat} {a : Option Addr} {n c : Nat} (hB : w.heap[B]? = some (.cells #[.slice a n c] 23 (0, 0))) {x : InsE} (hx : x.Fits) :
    Calls Tryd.prog 83 #[.agg (insC x).toArray, .pointer (some ⟨B, 0, none⟩)] w fun e w' => e = .returned (.bool (!oneB x n)) ∧ Kept (fun _ => False) w w' := by
  have k1 : Kept (fun _ => False) w (w.alloc (.cells (insC x).toArray 48)) := (Kept.refl _ w).alloc _
  have ld : (Instr.loadAt 48 (.pointer (some ⟨w.heap.size, 0, none⟩))).run Tryd.prog (w.alloc (.cells (insC x).toArray 48)) = .ok (.agg (insC x).toArray) (w.alloc (.cells (insC x).toArray 48)) :=
    load_row Tryd.underlying48 rfl (heap_last w _) (by kernel_rfl)
  have c0 : (w.alloc (.cells (insC x).toArray 48)).cell? ⟨B, 0, none⟩ = some (.slice a n c) := by
    rw [k1.cell (p := ⟨B, 0, none⟩) (Array.getElem?_eq_some_iff.1 hB).1 not_false, cell_of_row _ _ _ _ _ _ hB]; rfl
  have oc := one_ct (hT.kept k1) x hx n
  go_enter Tryd.func83, Tryd.ntmps83
  go_wp2_with (first
    | (with_reducible refine wpl_load 48 _ rfl rfl ?_ ld ?_
       · rfl
       simp only [Act.put, List.getElem_toArray, List.getElem_cons_zero, List.getElem_cons_succ, List.setIfInBounds_toArray, List.set_cons_zero, List.set_cons_succ]))
  refine oc.mono ?_
  rintro e W ⟨rfl, k2⟩
  go_wp2_with fail
  go_ret
  exact ⟨rfl, k1.trans k2⟩
set_option maxRecDepth 100000 in
set_option maxHeartbeats 2000000 in
theorem indexI_ct {w : World} (hT : FldTab w) {v : Value} {p : List InsE} (h : ProgAt w v p) {B : Nat} {a : Option Addr} {n c : Nat} (hB : w.heap[B]? = some (.cells #[.slice a n c] 23 (0, 0))) :
    Calls Tryd.prog 95 #[v, FM B] w fun e w' => (∃ r : Int, e = .returned (.int .i64 r) ∧ decide ((0 : Int) ≤ r) = !p.all fun x => oneB x n) ∧ Kept (fun _ => False) w w' := by
  obtain ⟨a', c', rfl, hc, hm⟩ := h.slc
  simp only [maxLen] at hm
  unfold FM
  have hzB := (Array.getElem?_eq_some_iff.1 hB).1
  go_enter Tryd.func95, Tryd.ntmps95
  go_wp2_with fail
  go_loopg [8] p.length (fun gk i wr => ∃ k : Nat, gk = p.length - k ∧ k ≤ p.length ∧ i = .int .i64 k ∧ Hid ((p.take k).all (fun x => oneB x n) = true) ∧ Kept (fun _ => False) w wr)
  case atStart => exact ⟨0, by omega, by omega, rfl, rfl, Kept.refl _ _⟩
  case round =>
    obtain ⟨k, rfl, hk, rfl, HA, hkr⟩ := hrel
    by_cases hlt : k < p.length
    · have hf : p[k]? = some p[k] := List.getElem?_eq_getElem hlt
      have htk : p.take (k + 1) = p.take k ++ [p[k]] := List.take_succ_eq_append_getElem hlt
      generalize p[k] = x at hf htk
      obtain ⟨hx, b, o, rfl, hb, ld⟩ := (h.kept hkr).elem hf
      have hBr : wr.heap[B]? = some (.cells #[.slice a n c] 23 (0, 0)) := by rw [hkr.block _ hzB not_false]; exact hB
      have mc := may1_ct (hT.kept hkr) hBr hx
      have HN : Hid ((p.take (k + 1)).all (fun x => oneB x n) = oneB x n) := by
        unfold Hid
        rw [htk, List.all_append, HA.out]; simp
      have HY : Hid (oneB x n = false → (p.all fun x => oneB x n) = false) := by
        unfold Hid
        intro hq
        rw [List.all_eq_false]
        exact ⟨x, List.mem_of_getElem? hf, by rw [hq]; simp⟩
      clear htk hf hBr
      generalize oneB x n = q at HN HY mc
      go_wp2_with (first
        | (with_reducible refine wpl_load 48 _ rfl rfl ?_ ld ?_
           · rfl
           simp only [Act.put, List.getElem_toArray, List.getElem_cons_zero, List.getElem_cons_succ, List.setIfInBounds_toArray, List.set_cons_zero, List.set_cons_succ]))
      refine mc.mono ?_
      rintro e W ⟨rfl, k1⟩
      cases q with
      | false =>
        have HF := Lib.hid (HY.out rfl)
        clear HY HN mc
        go_wp2_with fail
        go_ret
        exact ⟨⟨_, rfl, by rw [HF.out]; simp⟩, hkr.trans k1⟩
      | true =>
        clear HY mc
        go_wp2_with fail
        go_roundg (p.length - (k + 1))
        case rel => exact ⟨k + 1, rfl, by omega, by go_num, HN.out, hkr.trans k1⟩
        case measure => omega
    · obtain rfl : k = p.length := by omega
      have hin := HA.out
      rw [List.take_length] at hin
      have HX := Lib.hid hin
      clear hin
      go_wp2_with fail
      go_ret
      exact ⟨⟨_, rfl, by rw [HX.out]; rfl⟩, hkr⟩
theorem contI_ct {w : World} (hT : FldTab w) {v : Value} {p : List InsE} (h : ProgAt w v p) {B : Nat} {a : Option Addr} {n c : Nat} (hB : w.heap[B]? = some (.cells #[.slice a n c] 23 (0, 0))) :
    Calls Tryd.prog 82 #[v, FM B] w fun e w' => e = .returned (.bool (!p.all fun x => oneB x n)) ∧ Kept (fun _ => False) w w' := by
  have ic := indexI_ct hT h hB
  obtain ⟨a', c', rfl, hc, hm⟩ := h.slc
  unfold FM at ic ⊢
  go_enter Tryd.func82, Tryd.ntmps82
  go_wp2_with fail
  refine ic.mono ?_
  rintro e W ⟨⟨r, rfl, hr⟩, k1⟩
  have HR := Lib.hid hr
  clear hr ic
  go_wp2_with fail
  go_ret
  exact ⟨by rw [← HR.out]; rfl, k1⟩
theorem progB_eq (p : List InsE) : progB p = (decide (p.length ≤ 30) && p.all fun x => oneB x p.length) := by
  unfold progB
  congr 1
  rw [Bool.eq_iff_iff, allTo_iff, List.all_eq_true]
  constructor
  · intro h x hx
    obtain ⟨i, hi, rfl⟩ := List.getElem_of_mem hx
    have := h i hi
    unfold insOk at this
    rw [List.getElem?_eq_getElem hi] at this
    exact this
  · intro h i hi
    unfold insOk
    rw [List.getElem?_eq_getElem hi]
    exact h _ (List.getElem_mem hi)
set_option maxRecDepth 100000 in
set_option maxHeartbeats 2000000 in
theorem pmay_ct {w : World} (hT : FldTab w) {v : Value} {p : List InsE} (h : ProgAt w v p) :
    Calls Tryd.prog 71 #[v] w fun e w' => e = .returned (.bool (progB p)) ∧ Kept (fun _ => False) w w' := by
  obtain ⟨a, c, rfl, hc, hm⟩ := h.slc
  simp only [maxLen] at hm
  have hp := progB_eq p
  have k1 : Kept (fun _ => False) w (w.alloc (.cells #[.slice a p.length c] 23)) := (Kept.refl _ w).alloc _
  have hB := heap_last w (.cells #[.slice a p.length c] 23)
  by_cases h30 : p.length ≤ 30
  · have i30 : (p.length : Int) ≤ 30 := by omega
    rw [decide_eq_true h30] at hp
    have HP := Lib.hid hp
    clear hp
    go_enter Tryd.func71, Tryd.ntmps71
    go_wp2_with fail
    generalize w.alloc (.cells #[.slice a p.length c] 23) = W at k1 hB ⊢
    generalize w.heap.size = B at hB ⊢
    have cc := contI_ct (hT.kept k1) (h.kept k1) hB
    unfold FM at cc
    refine cc.mono ?_
    rintro e W2 ⟨rfl, k2⟩
    clear cc
    go_wp2_with fail
    go_ret
    exact ⟨by rw [HP.out]; simp, k1.trans k2⟩
  · have i30 : ¬ (p.length : Int) ≤ 30 := by omega
    rw [decide_eq_false h30] at hp
    have HP := Lib.hid hp
    clear hp
    go_enter Tryd.func71, Tryd.ntmps71
    go_wp2_with fail
    go_ret
    exact ⟨by rw [HP.out]; rfl, k1⟩

structure TgtE where
  name : ByteArray
  deps : List ByteArray
  fuel : Int
  prog : List InsE
def tgtC (x : TgtE) (vd vp : Value) : Array Value := #[.string x.name, vd, .int .i64 x.fuel, vp]
structure TgtAt (w : World) (x : TgtE) (vd vp : Value) : Prop where
  name : x.name.size ≤ maxLen
  deps : DepsAt w vd x.deps
  prog : ProgAt w vp x.prog
theorem TgtAt.kept {w w' : World} {x : TgtE} {vd vp : Value} (h : TgtAt w x vd vp) (hk : Kept (fun _ => False) w w') : TgtAt w' x vd vp := ⟨h.name, h.deps.kept hk, h.prog.kept hk⟩
def bodyB (x : TgtE) : Bool := decide (0 ≤ x.fuel) && decide (x.fuel ≤ 20000) && progB x.prog
set_option maxRecDepth 100000 in
set_option maxHeartbeats 2000000 in
theorem body_ct {w : World} (hT : FldTab w) {x : TgtE} {vd vp : Value} (h : TgtAt w x vd vp) :
    Calls Tryd.prog 48 #[.agg (tgtC x vd vp)] w fun e w' => e = .returned (.bool (bodyB x)) ∧ Kept (fun _ => False) w w' := by
  have pm := fun w' (q : Kept (fun _ => False) w w') => pmay_ct (hT.kept q) (h.prog.kept q)
  have hb : bodyB x = (decide (0 ≤ x.fuel) && decide (x.fuel ≤ 20000) && progB x.prog) := rfl
  have HB := Lib.hid hb
  clear hb
  obtain ⟨a1, c1, hv1, _⟩ := h.deps.slc
  obtain ⟨a2, c2, hv2, _⟩ := h.prog.slc
  unfold tgtC
  generalize progB x.prog = pb at pm HB
  generalize x.fuel = fu at HB ⊢
  subst hv1
  subst hv2
  have k1 : Kept (fun _ => False) w (w.alloc (.cells #[.string x.name, .slice a1 x.deps.length c1, .int .i64 fu, .slice a2 x.prog.length c2] 25)) := (Kept.refl _ w).alloc _
  by_cases h0 : 0 ≤ fu
  · by_cases h2 : fu ≤ 20000
    · rw [decide_eq_true h0, decide_eq_true h2] at HB
      go_enter Tryd.func48, Tryd.ntmps48
      go_wp2_with fail
      refine (pm _ k1).mono ?_
      rintro e W ⟨rfl, k2⟩
      go_wp2_with fail
      go_ret
      exact ⟨by rw [HB.out]; rfl, k1.trans k2⟩
    · rw [decide_eq_false h2, Bool.and_false, Bool.false_and] at HB
      go_enter Tryd.func48, Tryd.ntmps48
      go_wp2_with fail
      go_ret
      exact ⟨by rw [HB.out]; rfl, k1⟩
  · rw [decide_eq_false h0, Bool.false_and, Bool.false_and] at HB
    go_enter Tryd.func48, Tryd.ntmps48
    go_wp2_with fail
    go_ret
    exact ⟨by rw [HB.out]; rfl, k1⟩
def FN0 (B : Nat) : Value := .func (.func 70) #[] #[.pointer (some ⟨B, 0, none⟩)]
set_option maxRecDepth 100000 in
theorem indexT0_ct (w : World) (a : Option Addr) (c B : Nat) :
    Calls Tryd.prog 81 #[.slice a 0 c, FN0 B] w fun e w' => e = .returned (.int .i64 (-1)) ∧ w' = w := by
  unfold FN0
  go_enter Tryd.func81, Tryd.ntmps81
  go_wp2_with fail
  refine wp_loop_rounds 1 ?_
  rw [rounds_succ]
  go_wp2_with fail
  go_ret
  exact ⟨rfl, rfl⟩
set_option maxRecDepth 100000 in
theorem contT0_ct (w : World) (a : Option Addr) (c B : Nat) :
    Calls Tryd.prog 69 #[.slice a 0 c, FN0 B] w fun e w' => e = .returned (.bool false) ∧ w' = w := by
  have ic := indexT0_ct w a c B
  unfold FN0 at ic ⊢
  go_enter Tryd.func69, Tryd.ntmps69
  go_wp2_with fail
  refine ic.mono ?_
  rintro e W ⟨rfl, rfl⟩
  clear ic
  go_wp2_with fail
  go_ret
  exact ⟨rfl, rfl⟩
set_option maxRecDepth 100000 in
theorem named0_ct (w : World) (a : Option Addr) (c : Nat) (s : ByteArray) :
    Calls Tryd.prog 47 #[.slice a 0 c, .string s] w fun e w' => e = .returned (.bool false) ∧ Kept (fun _ => False) w w' := by
  have k1 : Kept (fun _ => False) w (w.alloc (.cells #[.string s] 9)) := (Kept.refl _ w).alloc _
  have cc := contT0_ct (w.alloc (.cells #[.string s] 9)) a c w.heap.size
  unfold FN0 at cc
  go_enter Tryd.func47, Tryd.ntmps47
  go_wp2_with fail
  refine cc.mono ?_
  rintro e W ⟨rfl, rfl⟩
  clear cc
  go_wp2_with fail
  go_ret
  exact ⟨rfl, k1⟩
def mayT (x : TgtE) : Bool := headB x.name x.deps && bodyB x
theorem slice1 (w : World) (g : Nat) : (Instr.sliceAt 54 (.slice (some ⟨g, 0, none⟩) 1 1) none (some (.int .i64 0)) none).run Tryd.prog w = .ok (.slice (some ⟨g, 0, none⟩) 0 1) w := by kernel_rfl
set_option maxRecDepth 100000 in
set_option maxHeartbeats 4000000 in
theorem may_one_ct {w : World} (hT : FldTab w) {x : TgtE} {vd vp : Value} (h : TgtAt w x vd vp) {g : Nat} (hg : w.heap[g]? = some (.cells (tgtC x vd vp) 25 (0, 0))) :
    Calls Tryd.prog 25 #[.slice (some ⟨g, 0, none⟩) 1 1] w fun e w' => e = .returned (.bool (mayT x)) ∧ Kept (fun _ => False) w w' := by
  have hzg := (Array.getElem?_eq_some_iff.1 hg).1
  have ld : (Instr.loadAt 25 (.pointer (some ⟨g, 0, none⟩))).run Tryd.prog w = .ok (.agg (tgtC x vd vp)) w := load_row Tryd.underlying25 rfl hg (by kernel_rfl)
  obtain ⟨a1, c1, hv1, _⟩ := h.deps.slc
  obtain ⟨a2, c2, hv2, _⟩ := h.prog.slc
  subst hv1
  subst hv2
  unfold tgtC at ld
  have zt : ∀ w, (zeroValue 25).run Tryd.prog w = .ok (.agg #[.string ⟨#[]⟩, .slice none 0 0, .int .i64 0, .slice none 0 0]) w := fun w => by kernel_rfl
  have st := store_new (P := Tryd.prog) (ty := 25) (c := #[.string ⟨#[]⟩, .slice none 0 0, .int .i64 0, .slice none 0 0]) (c' := #[.string x.name, .slice a1 x.deps.length c1, .int .i64 x.fuel, .slice a2 x.prog.length c2]) (by kernel_rfl) rfl (by simp [Value.oneCell']) (w := w) (b := w.heap.size) rfl
  go_enter Tryd.func25, Tryd.ntmps25
  go_wp2_with fail
  refine wp_loop_rounds 2 ?_
  rw [rounds_succ]
  go_upto_region 4 with (first
    | (with_reducible refine wpl_load 25 _ rfl rfl ?_ ld ?_
       · rfl
       simp only [Act.put, List.getElem_toArray, List.getElem_cons_zero, List.getElem_cons_succ, List.setIfInBounds_toArray, List.set_cons_zero, List.set_cons_succ])
    | (with_reducible refine wpl_alloc 25 rfl rfl (zt _) ?_
       simp only [World.size_alloc, Act.put, List.getElem_toArray, List.getElem_cons_zero, List.getElem_cons_succ, List.setIfInBounds_toArray, List.set_cons_zero, List.set_cons_succ])
    | (with_reducible refine wpl_store 25 _ _ rfl rfl ?_ ?_ st ?_
       · rfl
       · rfl
       simp only [Act.put, List.getElem_toArray, List.getElem_cons_zero, List.getElem_cons_succ, List.setIfInBounds_toArray, List.set_cons_zero, List.set_cons_succ]))
  have k1 : Kept (fun _ => False) w (w.alloc (.cells #[.string x.name, .slice a1 x.deps.length c1, .int .i64 x.fuel, .slice a2 x.prog.length c2] 25)) := (Kept.refl _ w).alloc _
  have hb0 := heap_last w (.cells #[.string x.name, .slice a1 x.deps.length c1, .int .i64 x.fuel, .slice a2 x.prog.length c2] 25)
  generalize w.alloc (.cells #[.string x.name, .slice a1 x.deps.length c1, .int .i64 x.fuel, .slice a2 x.prog.length c2] 25) = W at k1 hb0 ⊢
  have hz0 := (Array.getElem?_eq_some_iff.1 hb0).1
  clear st
  generalize w.heap.size = B at hb0 hz0 ⊢
  have hbW : ∀ w', Kept (fun _ => False) W w' → w'.heap[B]? = some (.cells #[.string x.name, .slice a1 x.deps.length c1, .int .i64 x.fuel, .slice a2 x.prog.length c2] 25) := fun w' q => by rw [q.block _ hz0 not_false]; exact hb0
  have e0 : ∀ w', Kept (fun _ => False) W w' → w'.cell? ⟨B, 0, none⟩ = some (.string x.name) := fun w' q => by rw [cell_of_row _ _ _ _ _ _ (hbW w' q)]; rfl
  have e1 : ∀ w', Kept (fun _ => False) W w' → w'.cell? ⟨B, 1, none⟩ = some (.slice a1 x.deps.length c1) := fun w' q => by rw [cell_of_row _ _ _ _ _ _ (hbW w' q)]; rfl
  have ldB : ∀ w', Kept (fun _ => False) W w' → (Instr.loadAt 25 (.pointer (some ⟨B, 0, none⟩))).run Tryd.prog w' = .ok (.agg #[.string x.name, .slice a1 x.deps.length c1, .int .i64 x.fuel, .slice a2 x.prog.length c2]) w' := fun w' q => load_row Tryd.underlying25 rfl (hbW w' q) (by kernel_rfl)
  have hc := fun w' (q : Kept (fun _ => False) W w') => head_ct (name := x.name) h.name (h.deps.kept (k1.trans q))
  have bc := fun w' (q : Kept (fun _ => False) W w') => body_ct (hT.kept (k1.trans q)) (h.kept (k1.trans q))
  have hmt : mayT x = (headB x.name x.deps && bodyB x) := rfl
  unfold tgtC at bc
  have HM := Lib.hid hmt
  clear hmt hb0 hbW ld hg
  generalize headB x.name x.deps = hb at hc HM
  generalize bodyB x = bb at bc HM
  cases hb with
  | false =>
    rw [Bool.false_and] at HM
    refine wp_region_held_drew (S := (Kept (fun _ => False) W)) (by kernel_rfl) ((Kept.refl _ W).drew) (fun hHeld => ?_)
    refine held_q (v := ?_) (i := 0) rfl (by kernel_rfl) (by kernel_rfl) (by kernel_rfl) (fun _ _ _ h => h) (by rfl) hHeld ?_ ?_
    rotate_left
    · (intro w' hS'; go_simp <;> (with_reducible rfl))
    simp only [Act.put, List.getElem_toArray, List.getElem_cons_zero, List.getElem_cons_succ, List.setIfInBounds_toArray, List.set_cons_zero, List.set_cons_succ]
    refine held_q (v := ?_) (i := 1) rfl (by kernel_rfl) (by kernel_rfl) (by kernel_rfl) (fun _ _ _ h => h) (by rfl) hHeld ?_ ?_
    rotate_left
    · (intro w' hS'; go_simp <;> (with_reducible rfl))
    simp only [Act.put, List.getElem_toArray, List.getElem_cons_zero, List.getElem_cons_succ, List.setIfInBounds_toArray, List.set_cons_zero, List.set_cons_succ]
    refine held_q (v := ?_) (i := 2) rfl (by kernel_rfl) (by kernel_rfl) (by kernel_rfl) (fun _ _ _ h => h) (by rfl) hHeld ?_ ?_
    rotate_left
    · (intro w' hS'; go_simp <;> (with_reducible rfl))
    simp only [Act.put, List.getElem_toArray, List.getElem_cons_zero, List.getElem_cons_succ, List.setIfInBounds_toArray, List.set_cons_zero, List.set_cons_succ]
    refine held_q (v := ?_) (i := 3) rfl (by kernel_rfl) (by kernel_rfl) (by kernel_rfl) (fun _ _ _ h => h) (by rfl) hHeld ?_ ?_
    rotate_left
    · (intro w' hS'; go_simp <;> (with_reducible rfl))
    simp only [Act.put, List.getElem_toArray, List.getElem_cons_zero, List.getElem_cons_succ, List.setIfInBounds_toArray, List.set_cons_zero, List.set_cons_succ]
    refine held_c (i := 4) (f := 46) (args := #[.string x.name, .slice a1 x.deps.length c1]) (by kernel_rfl) rfl (by rfl) ?_ (hc _ hHeld) ?_
    · (go_simp <;> rfl)
    rintro e W2 ⟨rfl, kq⟩
    have hHeld := hHeld.trans kq
    refine ⟨_, rfl, hHeld, ?_⟩
    simp only [Act.put, List.getElem_toArray, List.getElem_cons_zero, List.getElem_cons_succ, List.setIfInBounds_toArray, List.set_cons_zero, List.set_cons_succ]
    refine held_q (v := ?_) (i := 5) rfl (by kernel_rfl) (by kernel_rfl) (by kernel_rfl) (fun _ _ _ h => h) (by rfl) hHeld ?_ ?_
    rotate_left
    · (intro w' hS'; go_simp <;> (with_reducible rfl))
    simp only [Act.put, List.getElem_toArray, List.getElem_cons_zero, List.getElem_cons_succ, List.setIfInBounds_toArray, List.set_cons_zero, List.set_cons_succ]
    refine held_q (v := ?_) (i := 6) rfl (by kernel_rfl) (by kernel_rfl) (by kernel_rfl) (fun _ _ _ h => h) (by rfl) hHeld ?_ ?_
    rotate_left
    · (intro w' hS'; go_simp <;> (with_reducible rfl))
    simp only [Act.put, List.getElem_toArray, List.getElem_cons_zero, List.getElem_cons_succ, List.setIfInBounds_toArray, List.set_cons_zero, List.set_cons_succ]
    refine held_no (i := 7) rfl (by kernel_rfl) (by kernel_rfl) (by kernel_rfl) (fun _ _ _ h => h) (by rfl) hHeld ?_
    simp only [Act.put, List.getElem_toArray, List.getElem_cons_zero, List.getElem_cons_succ, List.setIfInBounds_toArray, List.set_cons_zero, List.set_cons_succ]
    refine held_no (i := 8) rfl (by kernel_rfl) (by kernel_rfl) (by kernel_rfl) (fun _ _ _ h => h) (by rfl) hHeld ?_
    simp only [Act.put, List.getElem_toArray, List.getElem_cons_zero, List.getElem_cons_succ, List.setIfInBounds_toArray, List.set_cons_zero, List.set_cons_succ]
    refine held_no (i := 9) rfl (by kernel_rfl) (by kernel_rfl) (by kernel_rfl) (fun _ _ _ h => h) (by rfl) hHeld ?_
    simp only [Act.put, List.getElem_toArray, List.getElem_cons_zero, List.getElem_cons_succ, List.setIfInBounds_toArray, List.set_cons_zero, List.set_cons_succ]
    refine held_no (i := 10) rfl (by kernel_rfl) (by kernel_rfl) (by kernel_rfl) (fun _ _ _ h => h) (by rfl) hHeld ?_
    simp only [Act.put, List.getElem_toArray, List.getElem_cons_zero, List.getElem_cons_succ, List.setIfInBounds_toArray, List.set_cons_zero, List.set_cons_succ]
    refine held_no (i := 11) rfl (by kernel_rfl) (by kernel_rfl) (by kernel_rfl) (fun _ _ _ h => h) (by rfl) hHeld ?_
    simp only [Act.put, List.getElem_toArray, List.getElem_cons_zero, List.getElem_cons_succ, List.setIfInBounds_toArray, List.set_cons_zero, List.set_cons_succ]
    refine held_no (i := 12) rfl (by kernel_rfl) (by kernel_rfl) (by kernel_rfl) (fun _ _ _ h => h) (by rfl) hHeld ?_
    simp only [Act.put, List.getElem_toArray, List.getElem_cons_zero, List.getElem_cons_succ, List.setIfInBounds_toArray, List.set_cons_zero, List.set_cons_succ]
    refine held_q (v := ?_) (i := 13) rfl (by kernel_rfl) (by kernel_rfl) (by kernel_rfl) (fun _ _ _ h => h) (by rfl) hHeld ?_ ?_
    rotate_left
    · (intro w' hS'; go_simp <;> (with_reducible rfl))
    simp only [Act.put, List.getElem_toArray, List.getElem_cons_zero, List.getElem_cons_succ, List.setIfInBounds_toArray, List.set_cons_zero, List.set_cons_succ]
    refine held_q (v := ?_) (i := 14) rfl (by kernel_rfl) (by kernel_rfl) (by kernel_rfl) (fun _ _ _ h => h) (by rfl) hHeld ?_ ?_
    rotate_left
    · (intro w' hS'; go_simp <;> (with_reducible rfl))
    simp only [Act.put, List.getElem_toArray, List.getElem_cons_zero, List.getElem_cons_succ, List.setIfInBounds_toArray, List.set_cons_zero, List.set_cons_succ]
    refine held_no (i := 15) rfl (by kernel_rfl) (by kernel_rfl) (by kernel_rfl) (fun _ _ _ h => h) (by rfl) hHeld ?_
    simp only [Act.put, List.getElem_toArray, List.getElem_cons_zero, List.getElem_cons_succ, List.setIfInBounds_toArray, List.set_cons_zero, List.set_cons_succ]
    refine held_no (i := 16) rfl (by kernel_rfl) (by kernel_rfl) (by kernel_rfl) (fun _ _ _ h => h) (by rfl) hHeld ?_
    simp only [Act.put, List.getElem_toArray, List.getElem_cons_zero, List.getElem_cons_succ, List.setIfInBounds_toArray, List.set_cons_zero, List.set_cons_succ]
    refine held_no (i := 17) rfl (by kernel_rfl) (by kernel_rfl) (by kernel_rfl) (fun _ _ _ h => h) (by rfl) hHeld ?_
    simp only [Act.put, List.getElem_toArray, List.getElem_cons_zero, List.getElem_cons_succ, List.setIfInBounds_toArray, List.set_cons_zero, List.set_cons_succ]
    refine held_q (v := ?_) (i := 18) rfl (by kernel_rfl) (by kernel_rfl) (by kernel_rfl) (fun _ _ _ h => h) (by rfl) hHeld ?_ ?_
    rotate_left
    · (intro w' hS'; go_simp <;> (with_reducible rfl))
    simp only [Act.put, List.getElem_toArray, List.getElem_cons_zero, List.getElem_cons_succ, List.setIfInBounds_toArray, List.set_cons_zero, List.set_cons_succ]
    refine wpAnyH_done (by kernel_rfl) ?_ _
    go_wp2_with fail
    go_ret
    exact ⟨by rw [HM.out]; rfl, k1.trans hHeld⟩
  | true =>
    rw [Bool.true_and] at HM
    have nc := fun w' => named0_ct w' (some ⟨g, 0, none⟩) 1 x.name
    cases bb with
    | false =>
      refine wp_region_held_drew (S := (Kept (fun _ => False) W)) (by kernel_rfl) ((Kept.refl _ W).drew) (fun hHeld => ?_)
      refine held_q (v := ?_) (i := 0) rfl (by kernel_rfl) (by kernel_rfl) (by kernel_rfl) (fun _ _ _ h => h) (by rfl) hHeld ?_ ?_
      rotate_left
      · (intro w' hS'; go_simp <;> (with_reducible rfl))
      simp only [Act.put, List.getElem_toArray, List.getElem_cons_zero, List.getElem_cons_succ, List.setIfInBounds_toArray, List.set_cons_zero, List.set_cons_succ]
      refine held_q (v := ?_) (i := 1) rfl (by kernel_rfl) (by kernel_rfl) (by kernel_rfl) (fun _ _ _ h => h) (by rfl) hHeld ?_ ?_
      rotate_left
      · (intro w' hS'; go_simp <;> (with_reducible rfl))
      simp only [Act.put, List.getElem_toArray, List.getElem_cons_zero, List.getElem_cons_succ, List.setIfInBounds_toArray, List.set_cons_zero, List.set_cons_succ]
      refine held_q (v := ?_) (i := 2) rfl (by kernel_rfl) (by kernel_rfl) (by kernel_rfl) (fun _ _ _ h => h) (by rfl) hHeld ?_ ?_
      rotate_left
      · (intro w' hS'; go_simp <;> (with_reducible rfl))
      simp only [Act.put, List.getElem_toArray, List.getElem_cons_zero, List.getElem_cons_succ, List.setIfInBounds_toArray, List.set_cons_zero, List.set_cons_succ]
      refine held_q (v := ?_) (i := 3) rfl (by kernel_rfl) (by kernel_rfl) (by kernel_rfl) (fun _ _ _ h => h) (by rfl) hHeld ?_ ?_
      rotate_left
      · (intro w' hS'; go_simp <;> (with_reducible rfl))
      simp only [Act.put, List.getElem_toArray, List.getElem_cons_zero, List.getElem_cons_succ, List.setIfInBounds_toArray, List.set_cons_zero, List.set_cons_succ]
      refine held_c (i := 4) (f := 46) (args := #[.string x.name, .slice a1 x.deps.length c1]) (by kernel_rfl) rfl (by rfl) ?_ (hc _ hHeld) ?_
      · (go_simp <;> rfl)
      rintro e W2 ⟨rfl, kq⟩
      have hHeld := hHeld.trans kq
      refine ⟨_, rfl, hHeld, ?_⟩
      simp only [Act.put, List.getElem_toArray, List.getElem_cons_zero, List.getElem_cons_succ, List.setIfInBounds_toArray, List.set_cons_zero, List.set_cons_succ]
      refine held_q (v := ?_) (i := 5) rfl (by kernel_rfl) (by kernel_rfl) (by kernel_rfl) (fun _ _ _ h => h) (by rfl) hHeld ?_ ?_
      rotate_left
      · (intro w' hS'; go_simp <;> (with_reducible rfl))
      simp only [Act.put, List.getElem_toArray, List.getElem_cons_zero, List.getElem_cons_succ, List.setIfInBounds_toArray, List.set_cons_zero, List.set_cons_succ]
      refine held_q (v := ?_) (i := 6) rfl (by kernel_rfl) (by kernel_rfl) (by kernel_rfl) (fun _ _ _ h => h) (by rfl) hHeld ?_ ?_
      rotate_left
      · (intro w' hS'; go_simp <;> (with_reducible rfl))
      simp only [Act.put, List.getElem_toArray, List.getElem_cons_zero, List.getElem_cons_succ, List.setIfInBounds_toArray, List.set_cons_zero, List.set_cons_succ]
      refine held_q (v := ?_) (i := 7) rfl (by kernel_rfl) (by kernel_rfl) (by kernel_rfl) (fun _ _ _ h => h) (by rfl) hHeld ?_ ?_
      rotate_left
      · (intro w' hS'; go_simp <;> (with_reducible rfl))
      simp only [Act.put, List.getElem_toArray, List.getElem_cons_zero, List.getElem_cons_succ, List.setIfInBounds_toArray, List.set_cons_zero, List.set_cons_succ]
      refine held_q (v := ?_) (i := 8) rfl (by kernel_rfl) (by kernel_rfl) (by kernel_rfl) (fun _ _ _ h => h) (by rfl) hHeld ?_ ?_
      rotate_left
      · (intro w' hS'; go_simp <;> (with_reducible rfl))
      simp only [Act.put, List.getElem_toArray, List.getElem_cons_zero, List.getElem_cons_succ, List.setIfInBounds_toArray, List.set_cons_zero, List.set_cons_succ]
      refine held_q (i := 9) rfl (by kernel_rfl) (by kernel_rfl) (by kernel_rfl) (fun _ _ _ h => h) (by rfl) hHeld (fun w' hS' => exec_slice_h 54 _ _ rfl rfl rfl (slice1 _ _)) ?_
      simp only [Act.put, List.getElem_toArray, List.getElem_cons_zero, List.getElem_cons_succ, List.setIfInBounds_toArray, List.set_cons_zero, List.set_cons_succ]
      refine held_q (v := ?_) (i := 10) rfl (by kernel_rfl) (by kernel_rfl) (by kernel_rfl) (fun _ _ _ h => h) (by rfl) hHeld ?_ ?_
      rotate_left
      · (intro w' hS'; go_simp <;> (with_reducible rfl))
      simp only [Act.put, List.getElem_toArray, List.getElem_cons_zero, List.getElem_cons_succ, List.setIfInBounds_toArray, List.set_cons_zero, List.set_cons_succ]
      refine held_q (v := ?_) (i := 11) rfl (by kernel_rfl) (by kernel_rfl) (by kernel_rfl) (fun _ _ _ h => h) (by rfl) hHeld ?_ ?_
      rotate_left
      · (intro w' hS'; go_simp <;> (with_reducible rfl))
      simp only [Act.put, List.getElem_toArray, List.getElem_cons_zero, List.getElem_cons_succ, List.setIfInBounds_toArray, List.set_cons_zero, List.set_cons_succ]
      refine held_c (i := 12) (f := 47) (args := #[.slice (some ⟨g, 0, none⟩) 0 1, .string x.name]) (by kernel_rfl) rfl (by rfl) ?_ (nc _) ?_
      · (go_simp <;> rfl)
      rintro e W3 ⟨rfl, kq⟩
      have hHeld := hHeld.trans kq
      refine ⟨_, rfl, hHeld, ?_⟩
      simp only [Act.put, List.getElem_toArray, List.getElem_cons_zero, List.getElem_cons_succ, List.setIfInBounds_toArray, List.set_cons_zero, List.set_cons_succ]
      refine held_q (v := ?_) (i := 13) rfl (by kernel_rfl) (by kernel_rfl) (by kernel_rfl) (fun _ _ _ h => h) (by rfl) hHeld ?_ ?_
      rotate_left
      · (intro w' hS'; go_simp <;> (with_reducible rfl))
      simp only [Act.put, List.getElem_toArray, List.getElem_cons_zero, List.getElem_cons_succ, List.setIfInBounds_toArray, List.set_cons_zero, List.set_cons_succ]
      refine held_q (v := ?_) (i := 14) rfl (by kernel_rfl) (by kernel_rfl) (by kernel_rfl) (fun _ _ _ h => h) (by rfl) hHeld ?_ ?_
      rotate_left
      · (intro w' hS'; go_simp <;> (with_reducible rfl))
      simp only [Act.put, List.getElem_toArray, List.getElem_cons_zero, List.getElem_cons_succ, List.setIfInBounds_toArray, List.set_cons_zero, List.set_cons_succ]
      refine held_q (i := 15) rfl (by kernel_rfl) (by kernel_rfl) (by kernel_rfl) (fun _ _ _ h => h) (by rfl) hHeld (fun w' hS' => exec_load 25 _ rfl rfl (ldB w' hS')) ?_
      simp only [Act.put, List.getElem_toArray, List.getElem_cons_zero, List.getElem_cons_succ, List.setIfInBounds_toArray, List.set_cons_zero, List.set_cons_succ]
      refine held_c (i := 16) (f := 48) (args := #[.agg #[.string x.name, .slice a1 x.deps.length c1, .int .i64 x.fuel, .slice a2 x.prog.length c2]]) (by kernel_rfl) rfl (by rfl) ?_ (bc _ hHeld) ?_
      · (go_simp <;> rfl)
      rintro e W4 ⟨rfl, kq⟩
      have hHeld := hHeld.trans kq
      refine ⟨_, rfl, hHeld, ?_⟩
      simp only [Act.put, List.getElem_toArray, List.getElem_cons_zero, List.getElem_cons_succ, List.setIfInBounds_toArray, List.set_cons_zero, List.set_cons_succ]
      refine held_q (v := ?_) (i := 17) rfl (by kernel_rfl) (by kernel_rfl) (by kernel_rfl) (fun _ _ _ h => h) (by rfl) hHeld ?_ ?_
      rotate_left
      · (intro w' hS'; go_simp <;> (with_reducible rfl))
      simp only [Act.put, List.getElem_toArray, List.getElem_cons_zero, List.getElem_cons_succ, List.setIfInBounds_toArray, List.set_cons_zero, List.set_cons_succ]
      refine held_q (v := ?_) (i := 18) rfl (by kernel_rfl) (by kernel_rfl) (by kernel_rfl) (fun _ _ _ h => h) (by rfl) hHeld ?_ ?_
      rotate_left
      · (intro w' hS'; go_simp <;> (with_reducible rfl))
      simp only [Act.put, List.getElem_toArray, List.getElem_cons_zero, List.getElem_cons_succ, List.setIfInBounds_toArray, List.set_cons_zero, List.set_cons_succ]
      refine wpAnyH_done (by kernel_rfl) ?_ _
      go_wp2_with fail
      go_ret
      exact ⟨by rw [HM.out]; rfl, k1.trans hHeld⟩
    | true =>
      refine wp_region_held_drew (S := (Kept (fun _ => False) W)) (by kernel_rfl) ((Kept.refl _ W).drew) (fun hHeld => ?_)
      refine held_q (v := ?_) (i := 0) rfl (by kernel_rfl) (by kernel_rfl) (by kernel_rfl) (fun _ _ _ h => h) (by rfl) hHeld ?_ ?_
      rotate_left
      · (intro w' hS'; go_simp <;> (with_reducible rfl))
      simp only [Act.put, List.getElem_toArray, List.getElem_cons_zero, List.getElem_cons_succ, List.setIfInBounds_toArray, List.set_cons_zero, List.set_cons_succ]
      refine held_q (v := ?_) (i := 1) rfl (by kernel_rfl) (by kernel_rfl) (by kernel_rfl) (fun _ _ _ h => h) (by rfl) hHeld ?_ ?_
      rotate_left
      · (intro w' hS'; go_simp <;> (with_reducible rfl))
      simp only [Act.put, List.getElem_toArray, List.getElem_cons_zero, List.getElem_cons_succ, List.setIfInBounds_toArray, List.set_cons_zero, List.set_cons_succ]
      refine held_q (v := ?_) (i := 2) rfl (by kernel_rfl) (by kernel_rfl) (by kernel_rfl) (fun _ _ _ h => h) (by rfl) hHeld ?_ ?_
      rotate_left
      · (intro w' hS'; go_simp <;> (with_reducible rfl))
      simp only [Act.put, List.getElem_toArray, List.getElem_cons_zero, List.getElem_cons_succ, List.setIfInBounds_toArray, List.set_cons_zero, List.set_cons_succ]
      refine held_q (v := ?_) (i := 3) rfl (by kernel_rfl) (by kernel_rfl) (by kernel_rfl) (fun _ _ _ h => h) (by rfl) hHeld ?_ ?_
      rotate_left
      · (intro w' hS'; go_simp <;> (with_reducible rfl))
      simp only [Act.put, List.getElem_toArray, List.getElem_cons_zero, List.getElem_cons_succ, List.setIfInBounds_toArray, List.set_cons_zero, List.set_cons_succ]
      refine held_c (i := 4) (f := 46) (args := #[.string x.name, .slice a1 x.deps.length c1]) (by kernel_rfl) rfl (by rfl) ?_ (hc _ hHeld) ?_
      · (go_simp <;> rfl)
      rintro e W2 ⟨rfl, kq⟩
      have hHeld := hHeld.trans kq
      refine ⟨_, rfl, hHeld, ?_⟩
      simp only [Act.put, List.getElem_toArray, List.getElem_cons_zero, List.getElem_cons_succ, List.setIfInBounds_toArray, List.set_cons_zero, List.set_cons_succ]
      refine held_q (v := ?_) (i := 5) rfl (by kernel_rfl) (by kernel_rfl) (by kernel_rfl) (fun _ _ _ h => h) (by rfl) hHeld ?_ ?_
      rotate_left
      · (intro w' hS'; go_simp <;> (with_reducible rfl))
      simp only [Act.put, List.getElem_toArray, List.getElem_cons_zero, List.getElem_cons_succ, List.setIfInBounds_toArray, List.set_cons_zero, List.set_cons_succ]
      refine held_q (v := ?_) (i := 6) rfl (by kernel_rfl) (by kernel_rfl) (by kernel_rfl) (fun _ _ _ h => h) (by rfl) hHeld ?_ ?_
      rotate_left
      · (intro w' hS'; go_simp <;> (with_reducible rfl))
      simp only [Act.put, List.getElem_toArray, List.getElem_cons_zero, List.getElem_cons_succ, List.setIfInBounds_toArray, List.set_cons_zero, List.set_cons_succ]
      refine held_q (v := ?_) (i := 7) rfl (by kernel_rfl) (by kernel_rfl) (by kernel_rfl) (fun _ _ _ h => h) (by rfl) hHeld ?_ ?_
      rotate_left
      · (intro w' hS'; go_simp <;> (with_reducible rfl))
      simp only [Act.put, List.getElem_toArray, List.getElem_cons_zero, List.getElem_cons_succ, List.setIfInBounds_toArray, List.set_cons_zero, List.set_cons_succ]
      refine held_q (v := ?_) (i := 8) rfl (by kernel_rfl) (by kernel_rfl) (by kernel_rfl) (fun _ _ _ h => h) (by rfl) hHeld ?_ ?_
      rotate_left
      · (intro w' hS'; go_simp <;> (with_reducible rfl))
      simp only [Act.put, List.getElem_toArray, List.getElem_cons_zero, List.getElem_cons_succ, List.setIfInBounds_toArray, List.set_cons_zero, List.set_cons_succ]
      refine held_q (i := 9) rfl (by kernel_rfl) (by kernel_rfl) (by kernel_rfl) (fun _ _ _ h => h) (by rfl) hHeld (fun w' hS' => exec_slice_h 54 _ _ rfl rfl rfl (slice1 _ _)) ?_
      simp only [Act.put, List.getElem_toArray, List.getElem_cons_zero, List.getElem_cons_succ, List.setIfInBounds_toArray, List.set_cons_zero, List.set_cons_succ]
      refine held_q (v := ?_) (i := 10) rfl (by kernel_rfl) (by kernel_rfl) (by kernel_rfl) (fun _ _ _ h => h) (by rfl) hHeld ?_ ?_
      rotate_left
      · (intro w' hS'; go_simp <;> (with_reducible rfl))
      simp only [Act.put, List.getElem_toArray, List.getElem_cons_zero, List.getElem_cons_succ, List.setIfInBounds_toArray, List.set_cons_zero, List.set_cons_succ]
      refine held_q (v := ?_) (i := 11) rfl (by kernel_rfl) (by kernel_rfl) (by kernel_rfl) (fun _ _ _ h => h) (by rfl) hHeld ?_ ?_
      rotate_left
      · (intro w' hS'; go_simp <;> (with_reducible rfl))
      simp only [Act.put, List.getElem_toArray, List.getElem_cons_zero, List.getElem_cons_succ, List.setIfInBounds_toArray, List.set_cons_zero, List.set_cons_succ]
      refine held_c (i := 12) (f := 47) (args := #[.slice (some ⟨g, 0, none⟩) 0 1, .string x.name]) (by kernel_rfl) rfl (by rfl) ?_ (nc _) ?_
      · (go_simp <;> rfl)
      rintro e W3 ⟨rfl, kq⟩
      have hHeld := hHeld.trans kq
      refine ⟨_, rfl, hHeld, ?_⟩
      simp only [Act.put, List.getElem_toArray, List.getElem_cons_zero, List.getElem_cons_succ, List.setIfInBounds_toArray, List.set_cons_zero, List.set_cons_succ]
      refine held_q (v := ?_) (i := 13) rfl (by kernel_rfl) (by kernel_rfl) (by kernel_rfl) (fun _ _ _ h => h) (by rfl) hHeld ?_ ?_
      rotate_left
      · (intro w' hS'; go_simp <;> (with_reducible rfl))
      simp only [Act.put, List.getElem_toArray, List.getElem_cons_zero, List.getElem_cons_succ, List.setIfInBounds_toArray, List.set_cons_zero, List.set_cons_succ]
      refine held_q (v := ?_) (i := 14) rfl (by kernel_rfl) (by kernel_rfl) (by kernel_rfl) (fun _ _ _ h => h) (by rfl) hHeld ?_ ?_
      rotate_left
      · (intro w' hS'; go_simp <;> (with_reducible rfl))
      simp only [Act.put, List.getElem_toArray, List.getElem_cons_zero, List.getElem_cons_succ, List.setIfInBounds_toArray, List.set_cons_zero, List.set_cons_succ]
      refine held_q (i := 15) rfl (by kernel_rfl) (by kernel_rfl) (by kernel_rfl) (fun _ _ _ h => h) (by rfl) hHeld (fun w' hS' => exec_load 25 _ rfl rfl (ldB w' hS')) ?_
      simp only [Act.put, List.getElem_toArray, List.getElem_cons_zero, List.getElem_cons_succ, List.setIfInBounds_toArray, List.set_cons_zero, List.set_cons_succ]
      refine held_c (i := 16) (f := 48) (args := #[.agg #[.string x.name, .slice a1 x.deps.length c1, .int .i64 x.fuel, .slice a2 x.prog.length c2]]) (by kernel_rfl) rfl (by rfl) ?_ (bc _ hHeld) ?_
      · (go_simp <;> rfl)
      rintro e W4 ⟨rfl, kq⟩
      have hHeld := hHeld.trans kq
      refine ⟨_, rfl, hHeld, ?_⟩
      simp only [Act.put, List.getElem_toArray, List.getElem_cons_zero, List.getElem_cons_succ, List.setIfInBounds_toArray, List.set_cons_zero, List.set_cons_succ]
      refine held_q (v := ?_) (i := 17) rfl (by kernel_rfl) (by kernel_rfl) (by kernel_rfl) (fun _ _ _ h => h) (by rfl) hHeld ?_ ?_
      rotate_left
      · (intro w' hS'; go_simp <;> (with_reducible rfl))
      simp only [Act.put, List.getElem_toArray, List.getElem_cons_zero, List.getElem_cons_succ, List.setIfInBounds_toArray, List.set_cons_zero, List.set_cons_succ]
      refine held_q (v := ?_) (i := 18) rfl (by kernel_rfl) (by kernel_rfl) (by kernel_rfl) (fun _ _ _ h => h) (by rfl) hHeld ?_ ?_
      rotate_left
      · (intro w' hS'; go_simp <;> (with_reducible rfl))
      simp only [Act.put, List.getElem_toArray, List.getElem_cons_zero, List.getElem_cons_succ, List.setIfInBounds_toArray, List.set_cons_zero, List.set_cons_succ]
      refine wpAnyH_done (by kernel_rfl) ?_ _
      go_wp2_with fail
      rw [rounds_succ]
      go_wp2_with fail
      go_ret
      exact ⟨by rw [HM.out]; rfl, k1.trans hHeld⟩
end Go.Proofs.YtfohljljoalmoaaDoor
