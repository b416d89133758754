/- The texts JH, JI, JK, JJ in one. -/
import Derived.Test.YtfohljljoalmoaaDoorJG
import Derived.Test.YtfohljljoalmoaaDoorUD
import Derived.Deep.OwnRows
import Derived.Test.YtfohljljoalmoaaDoorTO
namespace Go.Proofs.YtfohljljoalmoaaDoor
/- The document's Great, of a target, sources and outs: it tells something, and keeps all. -/
open Go.RowKit
set_option maxRecDepth 100000
set_option linter.unusedSimpArgs false
set_option linter.unusedVariables false

set_option maxRecDepth 100000 in
set_option maxHeartbeats 2000000 in
theorem great6_ct {w : World} {v : Value} {p : List InsE} (h : ProgAt w v p) :
    Calls Tryd.prog 45 #[v] w fun e w' => (∃ g, e = .returned (.bool g)) ∧ Kept (fun _ => False) w w' := by
  obtain ⟨a, c, rfl, hc, hm⟩ := h.slc
  simp only [maxLen] at hm
  by_cases h60 : p.length > 60
  · have i60 : (60 : Int) < (p.length : Int) := by omega
    go_enter Tryd.func45, Tryd.ntmps45
    go_wp2_with fail
    go_ret
    exact ⟨⟨_, rfl⟩, Kept.refl _ _⟩
  have i60 : ¬ (60 : Int) < (p.length : Int) := by omega
  go_enter Tryd.func45, Tryd.ntmps45
  go_wp2_with fail
  go_loopg [3] p.length (fun gk i wr => ∃ k : Nat, gk = p.length - k ∧ k ≤ p.length ∧ i = .int .i64 k ∧ Kept (fun _ => False) w wr)
  case atStart => exact ⟨0, by omega, by omega, rfl, Kept.refl _ _⟩
  case round =>
    obtain ⟨k, rfl, hk, rfl, hkr⟩ := hrel
    by_cases hlt : k < p.length
    · have hf : p[k]? = some p[k] := List.getElem?_eq_getElem hlt
      generalize p[k] = x at hf
      obtain ⟨b, o, rfl, hb, hr⟩ := (h.1.kept hkr).elem (j := k) (xs := insC x) (by rw [List.getElem?_map, hf]; rfl)
      have c1 : ∀ w', Kept (fun _ => False) wr w' → w'.cell? ⟨b, o + k * 6 + 1, none⟩ = some (.string x.a) := fun w' q => (q.cell (p := ⟨b, o + k * 6 + 1, none⟩) hb not_false).trans (hr 1 _ rfl)
      have c2 : ∀ w', Kept (fun _ => False) wr w' → w'.cell? ⟨b, o + k * 6 + 2, none⟩ = some (.string x.b) := fun w' q => (q.cell (p := ⟨b, o + k * 6 + 2, none⟩) hb not_false).trans (hr 2 _ rfl)
      have c3 : ∀ w', Kept (fun _ => False) wr w' → w'.cell? ⟨b, o + k * 6 + 3, none⟩ = some (.string x.c) := fun w' q => (q.cell (p := ⟨b, o + k * 6 + 3, none⟩) hb not_false).trans (hr 3 _ rfl)
      clear hf hr
      generalize hq : decide ((300 : Int) < IntKind.i64.wrap (IntKind.i64.wrap ((x.a.size : Int) + (x.b.size : Int)) + (x.c.size : Int))) = q
      go_wp2_with fail
      refine wp_region_held_drew (S := (Kept (fun _ => False) wr)) (by kernel_rfl) ((Kept.refl _ wr).drew) (fun hHeld => ?_)
      refine held_q (v := ?_) (i := 0) rfl (by kernel_rfl) (by kernel_rfl) (by kernel_rfl) (fun _ _ _ h => h) (by rfl) hHeld ?_ ?_
      rotate_left
      · (intro w' hS'; go_simp <;> (with_reducible rfl))
      simp only [Act.put, List.getElem_toArray, List.getElem_cons_zero, List.getElem_cons_succ, List.setIfInBounds_toArray, List.set_cons_zero, List.set_cons_succ]
      refine held_q (v := ?_) (i := 1) rfl (by kernel_rfl) (by kernel_rfl) (by kernel_rfl) (fun _ _ _ h => h) (by rfl) hHeld ?_ ?_
      rotate_left
      · (intro w' hS'; go_simp <;> (with_reducible rfl))
      simp only [Act.put, List.getElem_toArray, List.getElem_cons_zero, List.getElem_cons_succ, List.setIfInBounds_toArray, List.set_cons_zero, List.set_cons_succ]
      refine held_q (v := ?_) (i := 2) rfl (by kernel_rfl) (by kernel_rfl) (by kernel_rfl) (fun _ _ _ h => h) (by rfl) hHeld ?_ ?_
      rotate_left
      · (intro w' hS'; go_simp <;> (with_reducible rfl))
      simp only [Act.put, List.getElem_toArray, List.getElem_cons_zero, List.getElem_cons_succ, List.setIfInBounds_toArray, List.set_cons_zero, List.set_cons_succ]
      refine held_q (v := ?_) (i := 3) rfl (by kernel_rfl) (by kernel_rfl) (by kernel_rfl) (fun _ _ _ h => h) (by rfl) hHeld ?_ ?_
      rotate_left
      · (intro w' hS'; go_simp <;> (with_reducible rfl))
      simp only [Act.put, List.getElem_toArray, List.getElem_cons_zero, List.getElem_cons_succ, List.setIfInBounds_toArray, List.set_cons_zero, List.set_cons_succ]
      refine held_q (v := ?_) (i := 4) rfl (by kernel_rfl) (by kernel_rfl) (by kernel_rfl) (fun _ _ _ h => h) (by rfl) hHeld ?_ ?_
      rotate_left
      · (intro w' hS'; go_simp <;> (with_reducible rfl))
      simp only [Act.put, List.getElem_toArray, List.getElem_cons_zero, List.getElem_cons_succ, List.setIfInBounds_toArray, List.set_cons_zero, List.set_cons_succ]
      refine held_q (v := ?_) (i := 5) rfl (by kernel_rfl) (by kernel_rfl) (by kernel_rfl) (fun _ _ _ h => h) (by rfl) hHeld ?_ ?_
      rotate_left
      · (intro w' hS'; go_simp <;> (with_reducible rfl))
      simp only [Act.put, List.getElem_toArray, List.getElem_cons_zero, List.getElem_cons_succ, List.setIfInBounds_toArray, List.set_cons_zero, List.set_cons_succ]
      refine held_q (v := ?_) (i := 6) rfl (by kernel_rfl) (by kernel_rfl) (by kernel_rfl) (fun _ _ _ h => h) (by rfl) hHeld ?_ ?_
      rotate_left
      · (intro w' hS'; go_simp <;> (with_reducible rfl))
      simp only [Act.put, List.getElem_toArray, List.getElem_cons_zero, List.getElem_cons_succ, List.setIfInBounds_toArray, List.set_cons_zero, List.set_cons_succ]
      refine held_q (v := ?_) (i := 7) rfl (by kernel_rfl) (by kernel_rfl) (by kernel_rfl) (fun _ _ _ h => h) (by rfl) hHeld ?_ ?_
      rotate_left
      · (intro w' hS'; go_simp <;> (with_reducible rfl))
      simp only [Act.put, List.getElem_toArray, List.getElem_cons_zero, List.getElem_cons_succ, List.setIfInBounds_toArray, List.set_cons_zero, List.set_cons_succ]
      refine held_q (v := ?_) (i := 8) rfl (by kernel_rfl) (by kernel_rfl) (by kernel_rfl) (fun _ _ _ h => h) (by rfl) hHeld ?_ ?_
      rotate_left
      · (intro w' hS'; go_simp <;> (with_reducible rfl))
      simp only [Act.put, List.getElem_toArray, List.getElem_cons_zero, List.getElem_cons_succ, List.setIfInBounds_toArray, List.set_cons_zero, List.set_cons_succ]
      refine held_q (v := ?_) (i := 9) rfl (by kernel_rfl) (by kernel_rfl) (by kernel_rfl) (fun _ _ _ h => h) (by rfl) hHeld ?_ ?_
      rotate_left
      · (intro w' hS'; go_simp <;> (with_reducible rfl))
      simp only [Act.put, List.getElem_toArray, List.getElem_cons_zero, List.getElem_cons_succ, List.setIfInBounds_toArray, List.set_cons_zero, List.set_cons_succ]
      refine held_q (v := ?_) (i := 10) rfl (by kernel_rfl) (by kernel_rfl) (by kernel_rfl) (fun _ _ _ h => h) (by rfl) hHeld ?_ ?_
      rotate_left
      · (intro w' hS'; go_simp <;> (with_reducible rfl))
      simp only [Act.put, List.getElem_toArray, List.getElem_cons_zero, List.getElem_cons_succ, List.setIfInBounds_toArray, List.set_cons_zero, List.set_cons_succ]
      refine held_q (v := ?_) (i := 11) rfl (by kernel_rfl) (by kernel_rfl) (by kernel_rfl) (fun _ _ _ h => h) (by rfl) hHeld ?_ ?_
      rotate_left
      · (intro w' hS'; go_simp <;> (with_reducible rfl))
      simp only [Act.put, List.getElem_toArray, List.getElem_cons_zero, List.getElem_cons_succ, List.setIfInBounds_toArray, List.set_cons_zero, List.set_cons_succ]
      refine held_q (v := ?_) (i := 12) rfl (by kernel_rfl) (by kernel_rfl) (by kernel_rfl) (fun _ _ _ h => h) (by rfl) hHeld ?_ ?_
      rotate_left
      · (intro w' hS'; go_simp <;> (with_reducible rfl))
      simp only [Act.put, List.getElem_toArray, List.getElem_cons_zero, List.getElem_cons_succ, List.setIfInBounds_toArray, List.set_cons_zero, List.set_cons_succ]
      refine held_q (v := ?_) (i := 13) rfl (by kernel_rfl) (by kernel_rfl) (by kernel_rfl) (fun _ _ _ h => h) (by rfl) hHeld ?_ ?_
      rotate_left
      · (intro w' hS'; go_simp <;> (with_reducible rfl))
      simp only [Act.put, List.getElem_toArray, List.getElem_cons_zero, List.getElem_cons_succ, List.setIfInBounds_toArray, List.set_cons_zero, List.set_cons_succ]
      refine held_q (v := ?_) (i := 14) rfl (by kernel_rfl) (by kernel_rfl) (by kernel_rfl) (fun _ _ _ h => h) (by rfl) hHeld ?_ ?_
      rotate_left
      · (intro w' hS'; go_simp <;> (with_reducible rfl))
      simp only [Act.put, List.getElem_toArray, List.getElem_cons_zero, List.getElem_cons_succ, List.setIfInBounds_toArray, List.set_cons_zero, List.set_cons_succ]
      refine held_q (v := ?_) (i := 15) rfl (by kernel_rfl) (by kernel_rfl) (by kernel_rfl) (fun _ _ _ h => h) (by rfl) hHeld ?_ ?_
      rotate_left
      · (intro w' hS'; go_simp <;> (with_reducible rfl))
      simp only [Act.put, List.getElem_toArray, List.getElem_cons_zero, List.getElem_cons_succ, List.setIfInBounds_toArray, List.set_cons_zero, List.set_cons_succ]
      refine held_q (v := ?_) (i := 16) rfl (by kernel_rfl) (by kernel_rfl) (by kernel_rfl) (fun _ _ _ h => h) (by rfl) hHeld ?_ ?_
      rotate_left
      · (intro w' hS'; go_simp <;> (with_reducible rfl))
      simp only [Act.put, List.getElem_toArray, List.getElem_cons_zero, List.getElem_cons_succ, List.setIfInBounds_toArray, List.set_cons_zero, List.set_cons_succ]
      refine held_q (v := ?_) (i := 17) rfl (by kernel_rfl) (by kernel_rfl) (by kernel_rfl) (fun _ _ _ h => h) (by rfl) hHeld ?_ ?_
      rotate_left
      · (intro w' hS'; go_simp <;> (with_reducible rfl))
      simp only [Act.put, List.getElem_toArray, List.getElem_cons_zero, List.getElem_cons_succ, List.setIfInBounds_toArray, List.set_cons_zero, List.set_cons_succ]
      refine held_q (v := ?_) (i := 18) rfl (by kernel_rfl) (by kernel_rfl) (by kernel_rfl) (fun _ _ _ h => h) (by rfl) hHeld ?_ ?_
      rotate_left
      · (intro w' hS'; go_simp <;> (with_reducible rfl))
      simp only [Act.put, List.getElem_toArray, List.getElem_cons_zero, List.getElem_cons_succ, List.setIfInBounds_toArray, List.set_cons_zero, List.set_cons_succ]
      refine held_q (v := ?_) (i := 19) rfl (by kernel_rfl) (by kernel_rfl) (by kernel_rfl) (fun _ _ _ h => h) (by rfl) hHeld ?_ ?_
      rotate_left
      · (intro w' hS'; go_simp <;> (with_reducible rfl))
      simp only [Act.put, List.getElem_toArray, List.getElem_cons_zero, List.getElem_cons_succ, List.setIfInBounds_toArray, List.set_cons_zero, List.set_cons_succ]
      refine held_q (v := ?_) (i := 20) rfl (by kernel_rfl) (by kernel_rfl) (by kernel_rfl) (fun _ _ _ h => h) (by rfl) hHeld ?_ ?_
      rotate_left
      · (intro w' hS'; go_simp <;> (with_reducible rfl))
      simp only [Act.put, List.getElem_toArray, List.getElem_cons_zero, List.getElem_cons_succ, List.setIfInBounds_toArray, List.set_cons_zero, List.set_cons_succ]
      refine wpAnyH_done (by kernel_rfl) ?_ _
      cases q with
      | true =>
        go_wp2_with fail
        go_ret
        exact ⟨⟨_, rfl⟩, hkr.trans hHeld⟩
      | false =>
        go_wp2_with fail
        go_roundg (p.length - (k + 1))
        case rel => exact ⟨k + 1, rfl, by omega, by go_num, hkr.trans hHeld⟩
        case measure => omega
    · obtain rfl : k = p.length := by omega
      go_wp2_with fail
      go_ret
      exact ⟨⟨_, rfl⟩, hkr⟩
set_option maxRecDepth 100000 in
set_option maxHeartbeats 4000000 in
theorem great14_ct {w : World} {x : TgtE} {vd vp : Value} (h : TgtAt w x vd vp) {g : Nat} (hg : w.heap[g]? = some (.cells (tgtC x vd vp) 25 (0, 0))) :
    Calls Tryd.prog 21 #[.slice (some ⟨g, 0, none⟩) 1 1] w fun e w' => (∃ g, e = .returned (.bool g)) ∧ Kept (fun _ => False) w w' := by
  obtain ⟨a1, c1, a2, c2, rfl, rfl, hc1, hc2, hm1⟩ := h.words
  simp only [maxLen] at hm1
  unfold tgtC at hg
  have hzg := (Array.getElem?_eq_some_iff.1 hg).1
  have hbW : ∀ w', Kept (fun _ => False) w w' → w'.heap[g]? = some (.cells #[.string x.name, .slice a1 x.deps.length c1, .int .i64 x.fuel, .slice a2 x.prog.length c2] 25) := fun w' q => by rw [q.block _ hzg not_false]; exact hg
  have e0 : ∀ w', Kept (fun _ => False) w w' → w'.cell? ⟨g, 0, none⟩ = some (.string x.name) := fun w' q => by rw [cell_of_row _ _ _ _ _ _ (hbW w' q)]; rfl
  have e1 : ∀ w', Kept (fun _ => False) w w' → w'.cell? ⟨g, 1, none⟩ = some (.slice a1 x.deps.length c1) := fun w' q => by rw [cell_of_row _ _ _ _ _ _ (hbW w' q)]; rfl
  have e3 : ∀ w', Kept (fun _ => False) w w' → w'.cell? ⟨g, 3, none⟩ = some (.slice a2 x.prog.length c2) := fun w' q => by rw [cell_of_row _ _ _ _ _ _ (hbW w' q)]; rfl
  have e0w := e0 _ (Kept.refl _ w)
  have e1w := e1 _ (Kept.refl _ w)
  have e3w := e3 _ (Kept.refl _ w)
  have gc := great6_ct h.prog
  by_cases h100 : x.name.size > 100
  · have i100 : (100 : Int) < (x.name.size : Int) := by omega
    go_enter Tryd.func21, Tryd.ntmps21
    go_wp2_with fail
    refine wp_loop_rounds 2 ?_
    rw [rounds_succ]
    go_wp2_with fail
    go_ret
    exact ⟨⟨_, rfl⟩, Kept.refl _ _⟩
  have i100 : ¬ (100 : Int) < (x.name.size : Int) := by omega
  by_cases h20 : x.deps.length > 20
  · have i20 : (20 : Int) < (x.deps.length : Int) := by omega
    go_enter Tryd.func21, Tryd.ntmps21
    go_wp2_with fail
    refine wp_loop_rounds 2 ?_
    rw [rounds_succ]
    go_wp2_with fail
    go_ret
    exact ⟨⟨_, rfl⟩, Kept.refl _ _⟩
  have i20 : ¬ (20 : Int) < (x.deps.length : Int) := by omega
  go_enter Tryd.func21, Tryd.ntmps21
  go_wp2_with fail
  refine wp_loop_rounds 2 ?_
  rw [rounds_succ]
  go_wp2_with fail
  refine gc.mono ?_
  rintro e W ⟨⟨q, rfl⟩, k1⟩
  cases q with
  | true =>
    go_wp2_with fail
    go_ret
    exact ⟨⟨_, rfl⟩, k1⟩
  | false =>
    have e1W := e1 _ k1
    go_wp2_with fail
    go_loopg [4] x.deps.length (fun gk i wr => ∃ k : Nat, gk = x.deps.length - k ∧ k ≤ x.deps.length ∧ i = .int .i64 k ∧ Kept (fun _ => False) w wr)
    case atStart => exact ⟨0, by omega, by omega, rfl, k1⟩
    case round =>
      obtain ⟨k, rfl, hk, rfl, hkr⟩ := hrel
      have e1r := e1 _ hkr
      by_cases hlt : k < x.deps.length
      · have hf : x.deps[k]? = some x.deps[k] := List.getElem?_eq_getElem hlt
        generalize x.deps[k] = d at hf
        obtain ⟨_, b, o, rfl, hb, hcell⟩ := (h.deps.kept hkr).elem hf
        clear hf
        by_cases hd : d.size > 100
        · have id : (100 : Int) < (d.size : Int) := by omega
          go_wp2_with fail
          go_ret
          exact ⟨⟨_, rfl⟩, hkr⟩
        · have id : ¬ (100 : Int) < (d.size : Int) := by omega
          go_wp2_with fail
          go_roundg (x.deps.length - (k + 1))
          case rel => exact ⟨k + 1, rfl, by omega, by go_num, hkr⟩
          case measure => omega
      · obtain rfl : k = x.deps.length := by omega
        go_wp2_with fail
        rw [rounds_succ]
        go_wp2_with fail
        go_ret
        exact ⟨⟨_, rfl⟩, hkr⟩
set_option maxRecDepth 100000 in
set_option maxHeartbeats 4000000 in
theorem great16_ct {w : World} {x : TgtE} {vd vp vs vo : Value} {ls : List FileE} {ts : List (List FileE)} (h : TgtAt w x vd vp) (hs : TreeAt w vs ls) (ho : TreesAt w vo ts) :
    Calls Tryd.prog 7 #[.agg (tgtC x vd vp), vs, vo] w fun e w' => (∃ g, e = .returned (.bool g)) ∧ Kept (fun _ => False) w w' := by
  obtain ⟨a1, c1, a2, c2, rfl, rfl, hc1, hc2, hm1⟩ := h.words
  obtain ⟨a3, c3, rfl⟩ := hs.slc
  obtain ⟨a4, c4, rfl, hc4, hm4⟩ := ho.slc
  simp only [maxLen] at hm1 hm4
  unfold tgtC
  have k1 : Kept (fun _ => False) w (w.alloc (.cells #[.string x.name, .slice a1 x.deps.length c1, .int .i64 x.fuel, .slice a2 x.prog.length c2] 25)) := (Kept.refl _ w).alloc _
  have hb0 := heap_last w (.cells #[.string x.name, .slice a1 x.deps.length c1, .int .i64 x.fuel, .slice a2 x.prog.length c2] 25)
  have ldB : (Instr.loadAt 25 (.pointer (some ⟨w.heap.size, 0, none⟩))).run Tryd.prog (w.alloc (.cells #[.string x.name, .slice a1 x.deps.length c1, .int .i64 x.fuel, .slice a2 x.prog.length c2] 25)) = .ok (.agg #[.string x.name, .slice a1 x.deps.length c1, .int .i64 x.fuel, .slice a2 x.prog.length c2]) _ := load_row Tryd.underlying25 rfl hb0 (by kernel_rfl)
  go_enter Tryd.func7, Tryd.ntmps7
  go_upto_region 1 with fail
  generalize w.alloc (.cells #[.string x.name, .slice a1 x.deps.length c1, .int .i64 x.fuel, .slice a2 x.prog.length c2] 25) = W1 at k1 hb0 ldB ⊢
  generalize w.heap.size = B at hb0 ldB ⊢
  have bs := bslice_tg x.name a1 a2 x.deps.length c1 x.prog.length c2 x.fuel W1
  have k2 : Kept (fun _ => False) w (W1.alloc (.cells #[.string x.name, .slice a1 x.deps.length c1, .int .i64 x.fuel, .slice a2 x.prog.length c2] 25)) := k1.alloc _
  have hg := heap_last W1 (.cells #[.string x.name, .slice a1 x.deps.length c1, .int .i64 x.fuel, .slice a2 x.prog.length c2] 25)
  generalize W1.alloc (.cells #[.string x.name, .slice a1 x.deps.length c1, .int .i64 x.fuel, .slice a2 x.prog.length c2] 25) = W2 at bs k2 hg
  generalize W1.heap.size = G at bs hg
  have gc := great14_ct (h.kept k2) hg
  go_wp2_with (first
    | (with_reducible refine wpl_load 25 _ rfl rfl ?_ ldB ?_
       · rfl
       simp only [Act.put, List.getElem_toArray, List.getElem_cons_zero, List.getElem_cons_succ, List.setIfInBounds_toArray, List.set_cons_zero, List.set_cons_succ])
    | (with_reducible refine wpl_bslice 54 _ _ rfl rfl ?_ bs ?_
       · (go_simp <;> rfl)
       simp only [Act.put, List.getElem_toArray, List.getElem_cons_zero, List.getElem_cons_succ, List.setIfInBounds_toArray, List.set_cons_zero, List.set_cons_succ]))
  refine gc.mono ?_
  rintro e W3 ⟨⟨q, rfl⟩, k3⟩
  have K3 := k2.trans k3
  clear bs ldB hb0 hg gc
  cases q with
  | true =>
    go_wp2_with fail
    go_ret
    exact ⟨⟨_, rfl⟩, K3⟩
  | false =>
    go_wp2_with fail
    refine (great_ct (hs.kept K3)).mono ?_
    rintro e W4 ⟨⟨q, rfl⟩, k4⟩
    have K4 := K3.trans k4
    cases q with
    | true =>
      go_wp2_with fail
      go_ret
      exact ⟨⟨_, rfl⟩, K4⟩
    | false =>
      by_cases h10 : ts.length > 10
      · have i10 : (10 : Int) < (ts.length : Int) := by omega
        go_wp2_with fail
        go_ret
        exact ⟨⟨_, rfl⟩, K4⟩
      · have i10 : ¬ (10 : Int) < (ts.length : Int) := by omega
        go_wp2_with fail
        go_loopg [7] ts.length (fun gk i wr => ∃ k : Nat, gk = ts.length - k ∧ k ≤ ts.length ∧ i = .int .i64 k ∧ Kept (fun _ => False) w wr)
        case atStart => exact ⟨0, by omega, by omega, rfl, K4⟩
        case round =>
          obtain ⟨k, rfl, hk, rfl, hkr⟩ := hrel
          by_cases hlt : k < ts.length
          · have hf : ts[k]? = some ts[k] := List.getElem?_eq_getElem hlt
            generalize ts[k] = l at hf
            obtain ⟨b, o, v, rfl, hb, hcell, ht⟩ := (ho.kept hkr).elem hf
            have gc := great_ct ht
            obtain ⟨a8, c8, rfl⟩ := ht.slc
            clear hf
            go_wp2_with fail
            refine gc.mono ?_
            rintro e W5 ⟨⟨q, rfl⟩, k5⟩
            clear gc
            cases q with
            | true =>
              go_wp2_with fail
              go_ret
              exact ⟨⟨_, rfl⟩, hkr.trans k5⟩
            | false =>
              go_wp2_with fail
              go_roundg (ts.length - (k + 1))
              case rel => exact ⟨k + 1, rfl, by omega, by go_num, hkr.trans k5⟩
              case measure => omega
          · obtain rfl : k = ts.length := by omega
            go_wp2_with fail
            go_ret
            exact ⟨⟨_, rfl⟩, hkr⟩

/- The known case of layer 16. -/

def kT : TgtE := ⟨⟨#[97]⟩, [⟨#[98]⟩], 0, []⟩
def kX : List FileE := [⟨⟨#[120]⟩, [49]⟩]
def kY : List FileE := [⟨⟨#[121]⟩, [50]⟩]
def kO : List FileE := [⟨⟨#[105, 110, 47, 98, 47, 121]⟩, [50]⟩, ⟨⟨#[115, 114, 99, 47, 120]⟩, [49]⟩]
theorem k_ok : okI kT kX [kY] = true := by decide +kernel
theorem k_may : mayB kO = true := by decide +kernel
theorem k_all : allF kX (depsZ kT [kY]) = [⟨⟨#[115, 114, 99, 47, 120]⟩, [49]⟩, ⟨⟨#[105, 110, 47, 98, 47, 121]⟩, [50]⟩] := by
  have h1 : slashed srcS ⟨#[120]⟩ = ⟨#[115, 114, 99, 47, 120]⟩ := by decide +kernel
  have h2 : slashed (inS ⟨#[98]⟩) ⟨#[121]⟩ = ⟨#[105, 110, 47, 98, 47, 121]⟩ := by decide +kernel
  simp [allF, depsZ, kT, kX, kY, depF, upF, h1, h2]
theorem k_ins : insO kX (depsZ kT [kY]) = some kO := by
  refine (insO_iff (okI_deps k_ok).1).2 ⟨k_may, ?_⟩
  rw [k_all]
  exact List.Perm.swap _ _ _
theorem bytes1 {w : World} {g c : Nat} {b : UInt8} {t : TypeId} {fr : Nat × Nat} (h : w.heap[g]? = some (.cells #[.int .u8 b.toNat] t fr)) : ByAt w (.slice (some ⟨g, 0, none⟩) 1 c) [b] :=
  ⟨_, c, rfl, by simp [maxLen], fun _ => ⟨g, 0, rfl, (Array.getElem?_eq_some_iff.1 h).1, fun i u hu => by
    rw [cell_of_row _ _ _ _ _ _ h, ← hu]
    simp [bv]⟩⟩
theorem row1 {w : World} {g z : Nat} {xs : List Value} {t : TypeId} {fr : Nat × Nat} (h : w.heap[g]? = some (.cells xs.toArray t fr)) : RowAt w z (.slice (some ⟨g, 0, none⟩) 1 1) [xs] :=
  ⟨_, 1, rfl, Nat.le_refl _, by simp [maxLen], fun _ => ⟨g, 0, rfl, (Array.getElem?_eq_some_iff.1 h).1, fun j ys hj i u hu => by
    cases j with
    | zero =>
      simp only [List.getElem?_cons_zero, Option.some.injEq] at hj
      subst hj
      rw [cell_of_row _ _ _ _ _ _ h]
      rw [← hu]
      simp
    | succ j => simp at hj⟩⟩
theorem bs_s (s : ByteArray) (w : World) : (Instr.buildSlice 22 1 #[(0, .string s)]).run Tryd.prog w = .ok (.slice (some ⟨w.heap.size, 0, none⟩) 1 1) (w.alloc (.cells #[.string s] 9)) := by kernel_rfl
theorem bs_b (b : Int) (w : World) : (Instr.buildSlice 44 1 #[(0, .int .u8 b)]).run Tryd.prog w = .ok (.slice (some ⟨w.heap.size, 0, none⟩) 1 1) (w.alloc (.cells #[.int .u8 b] 5)) := by kernel_rfl
theorem bs_t (a : Option Addr) (n c : Nat) (w : World) : (Instr.buildSlice 28 1 #[(0, .slice a n c)]).run Tryd.prog w = .ok (.slice (some ⟨w.heap.size, 0, none⟩) 1 1) (w.alloc (.cells #[.slice a n c] 27)) := by kernel_rfl
theorem bd_t (s : ByteArray) (a : Option Addr) (n c : Nat) (w : World) : (Instr.build 25 #[(0, .string s), (1, .slice a n c)]).run Tryd.prog w = .ok (.agg #[.string s, .slice a n c, .int .i64 0, .slice none 0 0]) w := by kernel_rfl
theorem cv_b (b : Int) (w : World) : (convert 44 44 (.slice (some ⟨w.heap.size, 0, none⟩) 1 1)).run Tryd.prog (w.alloc (.cells #[.int .u8 b] 5)) = .ok (.slice (some ⟨w.heap.size, 0, none⟩) 1 1) (w.alloc (.cells #[.int .u8 b] 5 (1, 2))) :=
  Lib.run_convert_bytes_const (P := Tryd.prog) w 44 5 #[.int .u8 b] 1 1 Tryd.underlying44 Tryd.underlying5
set_option maxRecDepth 100000 in
set_option maxHeartbeats 4000000 in
theorem known16_ct {w : World} (hT : FldTab w) : Calls Tryd.prog 8 #[] w fun e w' => e = .returned (.bool true) ∧ Kept (fun _ => False) w w' := by
  have b0 := bs_s ⟨#[98]⟩ w
  have k0 : Kept (fun _ => False) w (w.alloc (.cells #[.string ⟨#[98]⟩] 9)) := (Kept.refl _ w).alloc _
  have h0 := heap_last w (.cells #[.string ⟨#[98]⟩] 9)
  generalize w.alloc (.cells #[.string ⟨#[98]⟩] 9) = W0 at b0 k0 h0
  generalize w.heap.size = B0 at b0 h0
  have bt := bd_t ⟨#[97]⟩ (some ⟨B0, 0, none⟩) 1 1 W0
  have b1 := bs_b 49 W0
  have cv1 := cv_b 49 W0
  have k1 : Kept (fun _ => False) W0 (W0.alloc (.cells #[.int .u8 49] 5 (1, 2))) := (Kept.refl _ W0).alloc _
  have h1 := heap_last W0 (.cells #[.int .u8 49] 5 (1, 2))
  generalize W0.alloc (.cells #[.int .u8 49] 5 (1, 2)) = W1 at cv1 k1 h1
  have bf1 := build_f ⟨#[120]⟩ (some ⟨W0.heap.size, 0, none⟩) 1 1 W1
  have b2 := bslice_f1 ⟨#[120]⟩ (some ⟨W0.heap.size, 0, none⟩) 1 1 W1
  have k2 : Kept (fun _ => False) W1 (W1.alloc (.cells #[.string ⟨#[120]⟩, .slice (some ⟨W0.heap.size, 0, none⟩) 1 1] 46)) := (Kept.refl _ W1).alloc _
  have h2 := heap_last W1 (.cells #[.string ⟨#[120]⟩, .slice (some ⟨W0.heap.size, 0, none⟩) 1 1] 46)
  generalize W1.alloc (.cells #[.string ⟨#[120]⟩, .slice (some ⟨W0.heap.size, 0, none⟩) 1 1] 46) = W2 at b2 k2 h2
  have htX : TreeAt W2 (.slice (some ⟨W1.heap.size, 0, none⟩) 1 1) kX := tree1 (f := ⟨⟨#[120]⟩, [49]⟩) h2 ((bytes1 (b := 49) (c := 1) h1).kept k2) (by simp [maxLen]; decide)
  have b3 := bs_b 50 W2
  have cv3 := cv_b 50 W2
  have k3 : Kept (fun _ => False) W2 (W2.alloc (.cells #[.int .u8 50] 5 (1, 2))) := (Kept.refl _ W2).alloc _
  have h3 := heap_last W2 (.cells #[.int .u8 50] 5 (1, 2))
  generalize W2.alloc (.cells #[.int .u8 50] 5 (1, 2)) = W3 at cv3 k3 h3
  have bf3 := build_f ⟨#[121]⟩ (some ⟨W2.heap.size, 0, none⟩) 1 1 W3
  have b4 := bslice_f1 ⟨#[121]⟩ (some ⟨W2.heap.size, 0, none⟩) 1 1 W3
  have k4 : Kept (fun _ => False) W3 (W3.alloc (.cells #[.string ⟨#[121]⟩, .slice (some ⟨W2.heap.size, 0, none⟩) 1 1] 46)) := (Kept.refl _ W3).alloc _
  have h4 := heap_last W3 (.cells #[.string ⟨#[121]⟩, .slice (some ⟨W2.heap.size, 0, none⟩) 1 1] 46)
  generalize W3.alloc (.cells #[.string ⟨#[121]⟩, .slice (some ⟨W2.heap.size, 0, none⟩) 1 1] 46) = W4 at b4 k4 h4
  have htY : TreeAt W4 (.slice (some ⟨W3.heap.size, 0, none⟩) 1 1) kY := tree1 (f := ⟨⟨#[121]⟩, [50]⟩) h4 ((bytes1 (b := 50) (c := 1) h3).kept k4) (by simp [maxLen]; decide)
  have b5 := bs_t (some ⟨W3.heap.size, 0, none⟩) 1 1 W4
  have k5 : Kept (fun _ => False) W4 (W4.alloc (.cells #[.slice (some ⟨W3.heap.size, 0, none⟩) 1 1] 27)) := (Kept.refl _ W4).alloc _
  have h5 := heap_last W4 (.cells #[.slice (some ⟨W3.heap.size, 0, none⟩) 1 1] 27)
  generalize W4.alloc (.cells #[.slice (some ⟨W3.heap.size, 0, none⟩) 1 1] 27) = W5 at b5 k5 h5
  have k05 := (((k1.trans k2).trans k3).trans k4).trans k5
  have K5 := k0.trans k05
  have hd : DepsAt W5 (.slice (some ⟨B0, 0, none⟩) 1 1) kT.deps := ⟨(row1 (xs := [.string ⟨#[98]⟩]) h0).kept k05, fun d hd => by simp [kT] at hd; subst hd; simp [maxLen]; decide⟩
  have htg : TgtAt W5 kT (.slice (some ⟨B0, 0, none⟩) 1 1) (.slice none 0 0) := ⟨by simp [kT, maxLen]; decide, hd, RowAt.nil _ _ _, fun x hx => by simp [kT] at hx⟩
  have hts : TreesAt W5 (.slice (some ⟨W4.heap.size, 0, none⟩) 1 1) [kY] := ⟨[.slice (some ⟨W3.heap.size, 0, none⟩) 1 1], rfl, row1 (xs := [.slice (some ⟨W3.heap.size, 0, none⟩) 1 1]) h5, fun j l hl => by
    cases j with
    | zero =>
      simp only [List.getElem?_cons_zero, Option.some.injEq] at hl
      subst hl
      exact ⟨_, rfl, htY.kept k5⟩
    | succ j => simp at hl⟩
  have ic := inputs_ct (hT.kept K5) htg (htX.kept ((k3.trans k4).trans k5)) hts
  rw [show tgtC kT (.slice (some ⟨B0, 0, none⟩) 1 1) (.slice none 0 0) = #[.string ⟨#[97]⟩, .slice (some ⟨B0, 0, none⟩) 1 1, .int .i64 0, .slice none 0 0] from rfl] at ic
  clear h0 h1 h2 h3 h4 h5 hd htg hts htX htY k0 k1 k2 k3 k4 k5 k05
  go_enter Tryd.func8, Tryd.ntmps8
  go_wp2_with (first
    | (with_reducible refine wpl_bslice 22 _ _ rfl rfl ?_ b0 ?_
       · (go_simp <;> rfl)
       simp only [Act.put, List.getElem_toArray, List.getElem_cons_zero, List.getElem_cons_succ, List.setIfInBounds_toArray, List.set_cons_zero, List.set_cons_succ])
    | (with_reducible refine wpl_build 25 _ rfl rfl ?_ bt ?_
       · (go_simp <;> rfl)
       simp only [Act.put, List.getElem_toArray, List.getElem_cons_zero, List.getElem_cons_succ, List.setIfInBounds_toArray, List.set_cons_zero, List.set_cons_succ])
    | (with_reducible refine wpl_bslice 44 _ _ rfl rfl ?_ b1 ?_
       · (go_simp <;> rfl)
       simp only [Act.put, List.getElem_toArray, List.getElem_cons_zero, List.getElem_cons_succ, List.setIfInBounds_toArray, List.set_cons_zero, List.set_cons_succ])
    | (with_reducible refine wpl_bslice 44 _ _ rfl rfl ?_ b3 ?_
       · (go_simp <;> rfl)
       simp only [Act.put, List.getElem_toArray, List.getElem_cons_zero, List.getElem_cons_succ, List.setIfInBounds_toArray, List.set_cons_zero, List.set_cons_succ])
    | (refine wpl_val rfl (exec_conv 44 44 _ rfl rfl cv1) ?_)
    | (refine wpl_val rfl (exec_conv 44 44 _ rfl rfl cv3) ?_)
    | (with_reducible refine wpl_build 46 _ rfl rfl ?_ bf1 ?_
       · (go_simp <;> rfl)
       simp only [Act.put, List.getElem_toArray, List.getElem_cons_zero, List.getElem_cons_succ, List.setIfInBounds_toArray, List.set_cons_zero, List.set_cons_succ])
    | (with_reducible refine wpl_build 46 _ rfl rfl ?_ bf3 ?_
       · (go_simp <;> rfl)
       simp only [Act.put, List.getElem_toArray, List.getElem_cons_zero, List.getElem_cons_succ, List.setIfInBounds_toArray, List.set_cons_zero, List.set_cons_succ])
    | (with_reducible refine wpl_bslice 27 _ _ rfl rfl ?_ b2 ?_
       · (go_simp <;> rfl)
       simp only [Act.put, List.getElem_toArray, List.getElem_cons_zero, List.getElem_cons_succ, List.setIfInBounds_toArray, List.set_cons_zero, List.set_cons_succ])
    | (with_reducible refine wpl_bslice 27 _ _ rfl rfl ?_ b4 ?_
       · (go_simp <;> rfl)
       simp only [Act.put, List.getElem_toArray, List.getElem_cons_zero, List.getElem_cons_succ, List.setIfInBounds_toArray, List.set_cons_zero, List.set_cons_succ])
    | (with_reducible refine wpl_bslice 28 _ _ rfl rfl ?_ b5 ?_
       · (go_simp <;> rfl)
       simp only [Act.put, List.getElem_toArray, List.getElem_cons_zero, List.getElem_cons_succ, List.setIfInBounds_toArray, List.set_cons_zero, List.set_cons_succ]))
  refine ic.mono ?_
  rintro e W6 ⟨ho, k6⟩
  obtain ⟨v, rfl, ht⟩ : ∃ v, e = .returned (.tuple #[v, .int .i64 0]) ∧ TreeAt W6 v kO := by
    rcases ho with ⟨h1, _⟩ | ⟨_, ⟨h1, _⟩ | ⟨o, v', h1, he, ht⟩⟩
    · rw [k_ok] at h1; cases h1
    · rw [k_ins] at h1; cases h1
    · rw [k_ins] at h1; injection h1 with h1; subst h1; exact ⟨v', he, ht⟩
  obtain ⟨a, c, hv⟩ := ht.slc
  have hv : v = .slice a 2 c := hv
  subst hv
  obtain ⟨_, b, o, y, rfl, hbl, hrx, hB⟩ := ht.file (j := 0) rfl
  obtain ⟨_, b', o', y', hbe, hbl', hrx', _⟩ := ht.file (j := 1) rfl
  injection hbe with hbe
  injection hbe with e1 e2 _
  subst e1; subst e2
  have c0 : W6.cell? ⟨b, o, none⟩ = some (.string ⟨#[105, 110, 47, 98, 47, 121]⟩) := hrx 0 _ rfl
  have c1 : W6.cell? ⟨b, o + 1, none⟩ = some y := hrx 1 _ rfl
  have c2 : W6.cell? ⟨b, o + 2, none⟩ = some (.string ⟨#[115, 114, 99, 47, 120]⟩) := hrx' 0 _ rfl
  obtain ⟨a7, c7, rfl⟩ := hB.slc
  have cs : (convert 44 9 (.slice a7 1 c7)).run Tryd.prog W6 = .ok (.string ⟨#[50]⟩) W6 := conv_str hB
  clear ic b0 bt b1 cv1 bf1 b2 b3 cv3 bf3 b4 b5 hrx hrx' hB
  go_wp2_with fail
  go_ret
  exact ⟨rfl, K5.trans k6⟩

/- A drawn region whose last operation waits for all others; rows of texts and of trees of a call's own. -/

section
variable {P : Program} {ops : Array Oper} {Q : Exit → Act → World → Prop} {md : Region.Mode} {S : World → Prop} {z : Nat}
/-- Operation z waits for operation i. -/
def waitsFor (md : Region.Mode) (ops : Array Oper) (z i : Nat) : Bool :=
  match ops[z]? with
  | none => false
  | some o => o.after.any fun e => Region.binds md e && e.on == i
/-- Whatever order is drawn from here on; S holds behind each operation but z. -/
def TailHeld (P : Program) (md : Region.Mode) (ops : Array Oper) (Q : Exit → Act → World → Prop) (S : World → Prop) (z : Nat) : Nat → Array Bool → Act → World → Prop
  | 0, l, a, w => Region.ready md ops l = [] ∧ Q .normal a w
  | n + 1, l, a, w => (Region.ready md ops l = [] → Q .normal a w) ∧
      ∀ j ∈ Region.ready md ops l, wpOp P ops Q j (fun a' w' => (j ≠ z → S w') ∧ TailHeld P md ops Q S z n (l.setIfInBounds j true) a' w') a w
theorem TailHeld.any : ∀ (n : Nat) (l : Array Bool) (a : Act) (w : World), TailHeld P md ops Q S z n l a w → wpAny P md ops Q n l a w
  | 0, _, _, _, h => h
  | n + 1, _, _, _, h => ⟨h.1, fun j hj => wpOp_mono (fun a' w' h' => TailHeld.any n _ a' w' h'.2) (h.2 j hj)⟩
theorem TailHeld.quiet {i : Nat} {oi : Oper} {v : Value} (hi : ops[i]? = some oi) (hsel : ∀ (j : Nat) (o : Oper) cs b, ops[j]? = some o → o.op ≠ .select cs b)
    (hQ : ∀ c a w, Q (.panic c) (a.put oi.dst v) w → Q (.panic c) a w) (hz : waitsFor md ops z i = true) (hiz : i ≠ z) :
    ∀ (n : Nat) (l : Array Bool) (a : Act) (w : World),
      (∀ j oj, ops[j]? = some oj → j ≠ i → l.getD j true = false → (∀ e ∈ oj.after, Region.binds md e = true → e.on ≠ i) → oi.apart ops oj = true) →
      i ∈ Region.ready md ops l → YieldsIf P ops S oi v a → S w →
      TailHeld P md ops Q S z n (l.setIfInBounds i true) (a.put oi.dst v) w → TailHeld P md ops Q S z (n + 1) l a w := by
  intro n
  induction n with
  | zero =>
    intro l a w _ hr hy hS H
    constructor
    · intro e; rw [e] at hr; cases hr
    · intro j hj
      rcases Decidable.em (j = i) with rfl | hji
      · exact hy.wpOp hi hS ⟨fun _ => hS, H⟩
      · exact absurd (ready_mono hj hji) (by rw [H.1]; simp)
  | succ n ih =>
    intro l a w hfree hr hy hS H
    constructor
    · intro e; rw [e] at hr; cases hr
    · intro j hj
      rcases Decidable.em (j = i) with rfl | hji
      · exact hy.wpOp hi hS ⟨fun _ => hS, H⟩
      · obtain ⟨hun, oj, hoj, hall⟩ := mem_ready.1 hj
        have hno : ∀ e ∈ oj.after, Region.binds md e = true → e.on ≠ i := by
          intro e he hb q
          have h1 := hall e he hb
          have h0 := (mem_ready.1 hr).1
          rw [q] at h1
          by_cases hs : i < l.size
          · simp [hs] at h0 h1; rw [h0] at h1; cases h1
          · simp [Array.getElem?_eq_none (Nat.not_lt.1 hs)] at h1
        have hjz : j ≠ z := by
          rintro rfl
          unfold waitsFor at hz
          rw [hoj] at hz
          obtain ⟨k, hk, hz⟩ := Array.any_eq_true.1 hz
          simp only [Bool.and_eq_true, beq_iff_eq] at hz
          exact hno _ (Array.getElem_mem hk) hz.1 hz.2
        have step := wpOp_putIf hoj (hfree j oj hoj hji hun hno) (fun cs b => hsel i oi cs b hi) (fun cs b => hsel j oj cs b hoj) hQ hy (H.2 j (ready_mono hj hji))
        refine wpOp_mono (fun a' w' ⟨hy', hS', h'⟩ => ⟨hS', ih (l.setIfInBounds j true) a' w' ?_ (ready_mono hr (Ne.symm hji)) hy' (hS' hjz) ?_⟩) step
        · intro k ok hk hki hku hkn
          refine hfree k ok hk hki ?_ hkn
          rcases Decidable.em (j = k) with rfl | hjk
          · exact hun
          · rw [getD_set_ne true hjk] at hku; exact hku
        · rw [Array.setIfInBounds_comm _ _ hji]; exact h'
theorem tail_q {i : Nat} {oi : Oper} {v : Value} {n : Nat} {l : Array Bool} {a : Act} {w : World} (hi : ops[i]? = some oi)
    (hs : Region.noSelect ops = true) (hf : Region.free md ops l i = true) (hr : (Region.ready md ops l).contains i = true) (hz : waitsFor md ops z i = true) (hiz : i ≠ z)
    (hQ : ∀ c a w, Q (.panic c) (a.put oi.dst v) w → Q (.panic c) a w) (hw : Region.wanted oi (yielded ops a.tmps) = true) (hS : S w)
    (hy : ∀ w, S w → (execOp a.eval oi).run P w = .ok (.value v) w)
    (h : TailHeld P md ops Q S z n (l.setIfInBounds i true) (a.put oi.dst v) w) : TailHeld P md ops Q S z (n + 1) l a w :=
  TailHeld.quiet hi (Region.noSelect_spec hs) hQ hz hiz n l a w (Region.free_spec hi hf) (by simpa using hr) (.inl ⟨hw, hy⟩) hS h
theorem tail_no {i : Nat} {oi : Oper} {n : Nat} {l : Array Bool} {a : Act} {w : World} (hi : ops[i]? = some oi)
    (hs : Region.noSelect ops = true) (hf : Region.free md ops l i = true) (hr : (Region.ready md ops l).contains i = true) (hz : waitsFor md ops z i = true) (hiz : i ≠ z)
    (hQ : ∀ c a w, Q (.panic c) (a.put oi.dst undef) w → Q (.panic c) a w) (hw : Region.wanted oi (yielded ops a.tmps) = false) (hS : S w)
    (h : TailHeld P md ops Q S z n (l.setIfInBounds i true) (a.put oi.dst undef) w) : TailHeld P md ops Q S z (n + 1) l a w :=
  TailHeld.quiet hi (Region.noSelect_spec hs) hQ hz hiz n l a w (Region.free_spec hi hf) (by simpa using hr) (.inr ⟨hw, rfl⟩) hS h
theorem tail_ready {i : Nat} {o : Oper} {n : Nat} {l : Array Bool} {a : Act} {w : World} (hr : Region.ready md ops l = [i]) (ho : ops[i]? = some o)
    (h : wpOp P ops Q i (fun a' w' => (i ≠ z → S w') ∧ TailHeld P md ops Q S z n (l.setIfInBounds i true) a' w') a w) : TailHeld P md ops Q S z (n + 1) l a w :=
  ⟨fun e => (by rw [hr] at e; cases e), fun j hj => by rw [hr, List.mem_singleton] at hj; subst hj; exact h⟩
theorem tail_v {i : Nat} {o : Oper} {v : Value} {n : Nat} {l : Array Bool} {a : Act} {w w1 : World} (hr : Region.ready md ops l = [i]) (ho : ops[i]? = some o)
    (hw : Region.wanted o (yielded ops a.tmps) = true) (hrun : (execOp a.eval o).run P w = .ok (.value v) w1) (hS : S w1)
    (h : S w1 → TailHeld P md ops Q S z n (l.setIfInBounds i true) (a.put o.dst v) w1) : TailHeld P md ops Q S z (n + 1) l a w := by
  refine tail_ready hr ho ?_
  unfold wpOp
  simp only [ho, hw, if_true, Oper.wp, hrun, Oper.upon]
  exact .inl ⟨fun _ => hS, h hS⟩
theorem tail_s {i : Nat} {o : Oper} {n : Nat} {l : Array Bool} {a : Act} {w w1 : World} (hr : Region.ready md ops l = [i]) (ho : ops[i]? = some o)
    (hw : Region.wanted o (yielded ops a.tmps) = true) (hrun : (execOp a.eval o).run P w = .ok .skip w1) (hS : S w1)
    (h : S w1 → TailHeld P md ops Q S z n (l.setIfInBounds i true) (a.put o.dst undef) w1) : TailHeld P md ops Q S z (n + 1) l a w := by
  refine tail_ready hr ho ?_
  unfold wpOp
  simp only [ho, hw, if_true, Oper.wp, hrun, Oper.upon]
  exact .inl ⟨fun _ => hS, h hS⟩
theorem tail_end {o : Oper} {n : Nat} {l : Array Bool} {a : Act} {w w1 : World} (hr : Region.ready md ops l = [z]) (ho : ops[z]? = some o)
    (hw : Region.wanted o (yielded ops a.tmps) = true) (hrun : (execOp a.eval o).run P w = .ok .skip w1)
    (hd : Region.ready md ops (l.setIfInBounds z true) = []) (h : Q .normal (a.put o.dst undef) w1) : TailHeld P md ops Q S z (n + 1) l a w := by
  refine tail_ready hr ho ?_
  unfold wpOp
  simp only [ho, hw, if_true, Oper.wp, hrun, Oper.upon]
  refine .inl ⟨fun e => absurd rfl e, ?_⟩
  cases n with
  | zero => exact ⟨hd, h⟩
  | succ n => exact ⟨fun _ => h, by rw [hd]; simp⟩
theorem tail_drew {id : Nat} {a : Act} {w : World} (z : Nat) (S : World → Prop) (hm : P.follows .mixedOrders = true) (hS : S w.drew)
    (h : S w.drew → TailHeld P .any ops Q S z ops.size (Array.replicate ops.size false) a w.drew) : (Code.region id ops true).wp P Q a w :=
  wp_region_any hm (TailHeld.any _ _ _ _ (h hS))
theorem tail_c {i : Nat} {o : Oper} {f : FuncId} {args : Array Value} {n : Nat} {l : Array Bool} {a : Act} {w : World} (hr : Region.ready md ops l = [i]) (ho : ops[i]? = some o)
    (hw : Region.wanted o (yielded ops a.tmps) = true) (hrun : (execOp a.eval o).run P w = .ok (.enter f args) w) {R : Ending → World → Prop} (hc : Calls P f args w R)
    (h : ∀ e w', R e w' → ∃ v, e = .returned v ∧ S w' ∧ TailHeld P md ops Q S z n (l.setIfInBounds i true) (a.put o.dst v) w') : TailHeld P md ops Q S z (n + 1) l a w := by
  refine tail_ready hr ho ?_
  unfold wpOp
  simp only [ho, hw, if_true, Oper.wp, hrun]
  refine .inl (hc.mono fun e w' hR => ?_)
  obtain ⟨v, rfl, hS, hn⟩ := h e w' hR
  exact ⟨fun _ => hS, hn⟩
end
theorem grown_row {w w' : World} {row : Option Nat} (hg : w.grownBy w' row) : Kept (fun k => row = some k) w w' :=
  ⟨hg.os, hg.tape, hg.output, hg.size, fun k hk hs => hg.block k hk (fun e => hs e.symm)⟩
theorem row_stay {w w' : World} {base : Nat} {t : TypeId} {z : Nat} {v : Value} {n : Nat} {xs : List Value} {S : Nat → Prop} (h : w.ownsRow base t z v n xs) (hk : Kept S w w') (hS : ∀ k, v.ownBlock = some k → ¬ S k) : w'.ownsRow base t z v n xs := by
  refine ⟨h.1, ?_⟩
  rcases h.2 with h0 | ⟨g, cap, cur, rfl, hb, hg, r⟩
  · exact .inl h0
  · exact .inr ⟨g, cap, cur, rfl, hb, by rw [hk.block g (Array.getElem?_eq_some_iff.1 hg).1 (hS g rfl)]; exact hg, r⟩
theorem own_type {w : World} {base : Nat} {t : TypeId} {z : Nat} {v : Value} {n : Nat} {xs : List Value} (h : w.ownsRow base t z v n xs) {k : Nat} (hk : v.ownBlock = some k) : base ≤ k ∧ ∃ c, w.heap[k]? = some (.cells c t (0, 0)) := by
  rcases h.2 with ⟨rfl, _⟩ | ⟨g, cap, cur, rfl, hb, hg, r⟩
  · cases hk
  · have hk : some g = some k := hk
    injection hk with hk; subst hk
    exact ⟨hb, cur, hg⟩
theorem wpl_append {P : Program} {ops : Array Oper} {rest : List Oper} {o : Oper} {a : Act} {w w1 : World} {Q : Exit → Act → World → Prop} {v p q : Value} (t : TypeId) (x y : Operand) (hgd : o.guard = none) (ho : o.op = .call { callee := .builtin .append, args := #[x, y], argTypes := #[t, t] }) (hx : a.eval x = p) (hy : a.eval y = q)
    (hf : (Builtin.append_ #[t, t] o.type #[p, q]).run P w = .ok v w1) (h : wpList P ops Q rest (a.put o.dst v) w1) : wpList P ops Q (o :: rest) a w :=
  wpl_val hgd (exec_append t x y ho hx hy hf) h
theorem alloc_row {w : World} {base : Nat} {t : TypeId} {z : Nat} {v : Value} {n : Nat} {xs : List Value} (h : w.ownsRow base t z v n xs) (o : Obj) : (w.alloc o).ownsRow base t z v n xs := row_kept h ((Kept.refl (fun _ => False) w).alloc o)
theorem RowAt.own {w : World} {base : Nat} {t : TypeId} {v : Value} {n : Nat} {xs : List Value} (h : w.ownsRow base t 1 v n xs) (hl : xs.length = n) (hm : n ≤ maxLen) : RowAt w 1 v (xs.map fun x => [x]) := by
  subst hl
  rcases h.2 with ⟨rfl, h0⟩ | ⟨g, cap, cur, rfl, hb, hg, h1, h2, h3⟩
  · rw [List.eq_nil_of_length_eq_zero h0]; exact RowAt.nil _ _ _
  · refine ⟨some ⟨g, 0, none⟩, cap, by rw [List.length_map], by rw [List.length_map]; exact h1, by rw [List.length_map]; exact hm, fun _ => ⟨g, 0, rfl, (Array.getElem?_eq_some_iff.1 hg).1, fun j ys hj i u hu => ?_⟩⟩
    rw [List.getElem?_map] at hj
    cases hx : xs[j]? with
    | none => rw [hx] at hj; cases hj
    | some y =>
      rw [hx] at hj
      simp only [Option.map_some, Option.some.injEq] at hj
      subst hj
      cases i with
      | succ i => simp at hu
      | zero =>
        simp only [List.getElem?_cons_zero, Option.some.injEq] at hu
        subst hu
        rw [cell_of_row _ _ _ _ _ _ hg, Nat.zero_add, Nat.mul_one, Nat.add_zero]
        have hj := (List.getElem?_eq_some_iff.1 hx).1
        rw [← h3.2, Nat.mul_one, List.getElem?_take_of_lt hj] at hx
        simpa using hx
/-- One more in a row of the call's own. -/
theorem push_s {w : World} {base n : Nat} {v : Value} {xs : List Value} (h : w.ownsRow base 9 1 v n xs) {u : Value} (h1 : u.oneCell' = true) {g : Nat} {fr : Nat × Nat} {c : Nat} (hx : w.heap[g]? = some (.cells #[u] 9 fr)) (hn : n + 1 ≤ 1000000) (hb : base ≤ w.heap.size) (ty : TypeId) :
    ∃ a' c' w', (Builtin.append_ #[22, 22] ty #[v, .slice (some ⟨g, 0, none⟩) 1 c]).run Tryd.prog w = .ok (.slice a' (n + 1) c') w' ∧ w'.ownsRow base 9 1 (.slice a' (n + 1) c') (n + 1) (xs ++ [u]) ∧ w.grownBy w' v.ownBlock := by
  obtain ⟨i, hi⟩ : ∃ i, Tryd.prog.info? 9 = some i := ⟨_, rfl⟩
  obtain ⟨z, hz⟩ : ∃ z, i.zero = some z := by injection hi with hi; subst hi; exact ⟨_, rfl⟩
  have hs : i.size = 1 := by injection hi with hi; subst hi; rfl
  have hzs : z.cells.size = 1 := by injection hi with hi; subst hi; injection hz with hz; subst hz; rfl
  have hby : i.bytes ≤ 16 := by injection hi with hi; subst hi; decide
  obtain ⟨v', w', a1, a2, a3, _⟩ := run_append_own (P := Tryd.prog) w base 22 ty 9 i z 1 i.bytes Tryd.underlying22 hi hz hs rfl hzs (by omega) v n xs h ⟨g, 0, none⟩ 1 c [u] rfl
    (fun j y hu => by
      match j, hu with
      | 0, hu =>
        simp at hu; subst hu
        rw [Addr.add_mid, cell_of_row _ _ _ _ _ _ hx]; rfl) (fun y hu => by simp at hu; subst hu; exact h1) (by simp only [maxLen]; omega)
    (by have : (n + 1) * i.bytes ≤ 1000000 * 16 := Nat.mul_le_mul hn hby; omega) hb
  obtain ⟨a', c', rfl⟩ := row_form a2
  exact ⟨a', c', w', a1, a2, a3⟩
/-- One more in a row of the call's own. -/
theorem push_t {w : World} {base n : Nat} {v : Value} {xs : List Value} (h : w.ownsRow base 27 1 v n xs) {u : Value} (h1 : u.oneCell' = true) {g : Nat} {fr : Nat × Nat} {c : Nat} (hx : w.heap[g]? = some (.cells #[u] 27 fr)) (hn : n + 1 ≤ 1000000) (hb : base ≤ w.heap.size) (ty : TypeId) :
    ∃ a' c' w', (Builtin.append_ #[28, 28] ty #[v, .slice (some ⟨g, 0, none⟩) 1 c]).run Tryd.prog w = .ok (.slice a' (n + 1) c') w' ∧ w'.ownsRow base 27 1 (.slice a' (n + 1) c') (n + 1) (xs ++ [u]) ∧ w.grownBy w' v.ownBlock := by
  obtain ⟨i, hi⟩ : ∃ i, Tryd.prog.info? 27 = some i := ⟨_, rfl⟩
  obtain ⟨z, hz⟩ : ∃ z, i.zero = some z := by injection hi with hi; subst hi; exact ⟨_, rfl⟩
  have hs : i.size = 1 := by injection hi with hi; subst hi; rfl
  have hzs : z.cells.size = 1 := by injection hi with hi; subst hi; injection hz with hz; subst hz; rfl
  have hby : i.bytes ≤ 24 := by injection hi with hi; subst hi; decide
  obtain ⟨v', w', a1, a2, a3, _⟩ := run_append_own (P := Tryd.prog) w base 28 ty 27 i z 1 i.bytes Tryd.underlying28 hi hz hs rfl hzs (by omega) v n xs h ⟨g, 0, none⟩ 1 c [u] rfl
    (fun j y hu => by
      match j, hu with
      | 0, hu =>
        simp at hu; subst hu
        rw [Addr.add_mid, cell_of_row _ _ _ _ _ _ hx]; rfl) (fun y hu => by simp at hu; subst hu; exact h1) (by simp only [maxLen]; omega)
    (by have : (n + 1) * i.bytes ≤ 1000000 * 24 := Nat.mul_le_mul hn hby; omega) hb
  obtain ⟨a', c', rfl⟩ := row_form a2
  exact ⟨a', c', w', a1, a2, a3⟩

/- PlanOrder's walk. -/

def rotL {α : Type} (l : List α) (t : Nat) : List α := l.drop t ++ l.take t
theorem rot_len {α : Type} (l : List α) (t : Nat) : (rotL l t).length = l.length := by
  unfold rotL; rw [List.length_append, List.length_drop, List.length_take]; omega
theorem rot_perm {α : Type} (l : List α) (t : Nat) : (rotL l t).Perm l := by
  unfold rotL
  refine List.perm_append_comm.trans ?_
  rw [List.take_append_drop]
theorem rot_zip {α β : Type} {l : List α} {m : List β} (h : l.length = m.length) (t : Nat) : (rotL l t).zip (rotL m t) = rotL (l.zip m) t := by
  unfold rotL
  rw [List.zip_append (by rw [List.length_drop, List.length_drop, h])]
  simp only [List.zip, List.drop_zipWith, List.take_zipWith]
theorem rot_at {α : Type} {l : List α} {t k : Nat} (ht : t < l.length) (hk : k < l.length) : (rotL l t)[k]? = l[(k + t) % l.length]? := by
  unfold rotL
  by_cases h : k + t < l.length
  · rw [Nat.mod_eq_of_lt h, List.getElem?_append_left (by rw [List.length_drop]; omega), List.getElem?_drop, Nat.add_comm]
  · rw [List.getElem?_append_right (by rw [List.length_drop]; omega), List.length_drop, List.getElem?_take_of_lt (by omega)]
    congr 1
    rw [Nat.mod_eq_sub_mod (by omega), Nat.mod_eq_of_lt (by omega)]
    omega
theorem u64_nn (n : Int) : 0 ≤ IntKind.u64.wrap n := by
  simp [IntKind.wrap, IntKind.bits, IntKind.signed]; omega
theorem turn_at (turn : Int) (n : Nat) (hn : 0 < n) : ∃ t0 : Nat, t0 < n ∧ (IntKind.u64.wrap turn).tmod (n : Int) = (t0 : Int) := by
  have hun : 0 ≤ IntKind.u64.wrap turn := u64_nn turn
  generalize IntKind.u64.wrap turn = u at hun
  rw [Int.tmod_eq_emod_of_nonneg hun]
  have h1 : 0 ≤ u % (n : Int) := Int.emod_nonneg _ (by omega)
  have h2 : u % (n : Int) < n := Int.emod_lt_of_pos _ (by omega)
  exact ⟨(u % (n : Int)).toNat, by omega, by omega⟩
theorem turn_mod {k t0 n j : Nat} (hj : j = (k + t0) % n) : ((k : Int) + (t0 : Int)).tmod (n : Int) = (j : Int) := by
  rw [Int.tmod_eq_emod_of_nonneg (by omega), hj]; push_cast; rfl
theorem wrap_small {x : Int} (h : 0 ≤ x ∧ x ≤ 1000) : wrap64 x = x := IntWalk.wrap64_in _ (by omega)

theorem store_sl {w : World} {R j n c : Nat} {a : Option Addr} {v0 : Value} (hc : w.cell? ⟨R, j, none⟩ = some v0) (hf : w.frozen? ⟨R, j, none⟩ = false) :
    (Instr.storeAt 22 (.pointer (some ⟨R, j, none⟩)) (.slice a n c)).run Tryd.prog w = .ok () (w.setCell ⟨R, j, none⟩ (.slice a n c)) := by
  go_simp
theorem own_not {w : World} {base : Nat} {t t' : TypeId} {z : Nat} {v : Value} {n : Nat} {xs : List Value} (h : w.ownsRow base t z v n xs) {D : Nat} {cs : Array Value} (hD : w.heap[D]? = some (.cells cs t' (0, 0))) (ht : t ≠ t') : ∀ k, v.ownBlock = some k → k ≠ D := fun k hk e => by
  subst e
  obtain ⟨_, c, h2⟩ := own_type h hk
  rw [hD] at h2
  injection h2 with h2; injection h2 with _ h2
  exact ht h2.symm
theorem own_apart {w : World} {base b2 : Nat} {t t' : TypeId} {z z2 : Nat} {v u : Value} {n m : Nat} {xs ys : List Value} (h : w.ownsRow base t z v n xs) (h2 : w.ownsRow b2 t' z2 u m ys) (ht : t ≠ t') : ∀ k, v.ownBlock = some k → ¬ u.ownBlock = some k := fun k hk e => by
  obtain ⟨_, c, q⟩ := own_type h2 e
  exact own_not h q ht k hk rfl
theorem rot_take {α : Type} {l : List α} {t k n j : Nat} {y : α} (hl : l.length = n) (ht : t < n) (hk : k < n) (hj : j = (k + t) % n) (hy : l[j]? = some y) : (rotL l t).take (k + 1) = (rotL l t).take k ++ [y] := by
  have hr : (rotL l t)[k]? = some y := by rw [rot_at (by omega) (by omega), hl, ← hj]; exact hy
  have hlt : k < (rotL l t).length := (List.getElem?_eq_some_iff.1 hr).1
  rw [List.take_succ_eq_append_getElem hlt]
  congr 2
  rw [List.getElem?_eq_getElem hlt] at hr
  injection hr
theorem okI_rot {x : TgtE} {ls : List FileE} {ts : List (List FileE)} (h : okI x ls ts = true) (t : Nat) : okI ⟨x.name, rotL x.deps t, x.fuel, x.prog⟩ ls (rotL ts t) = true := by
  unfold okI mayT at *
  simp only [Bool.and_eq_true, beq_iff_eq] at h ⊢
  obtain ⟨⟨⟨⟨h1, h2⟩, h3⟩, h4⟩, h5⟩ := h
  obtain ⟨q1, q2, q3, q4⟩ := headIs.1 h1
  refine ⟨⟨⟨⟨headIs.2 ⟨q1, by rw [rot_len]; exact q2, fun d hd => q3 d ((rot_perm _ _).mem_iff.1 hd), (rot_perm _ _).nodup_iff.2 q4⟩, h2⟩, h3⟩, ?_⟩, by rw [rot_len, rot_len, h5]⟩
  rw [List.all_eq_true] at h4 ⊢
  exact fun l hl => h4 l ((rot_perm _ _).mem_iff.1 hl)
theorem ins_rot {x : TgtE} {ls o : List FileE} {ts : List (List FileE)} (h : okI x ls ts = true) (hi : insO ls (depsZ x ts) = some o) (t : Nat) : insO ls (depsZ ⟨x.name, rotL x.deps t, x.fuel, x.prog⟩ (rotL ts t)) = some o := by
  obtain ⟨h1, h2, _⟩ := okI_deps h
  have e : depsZ ⟨x.name, rotL x.deps t, x.fuel, x.prog⟩ (rotL ts t) = rotL (depsZ x ts) t := rot_zip h2.symm t
  rw [e]
  exact insO_perm h1 (rot_perm _ _) hi
set_option maxRecDepth 100000 in
set_option maxHeartbeats 8000000 in
theorem order_law {w : World} (hT : FldTab w) {x : TgtE} {vd vp vs vo : Value} {ls : List FileE} {ts : List (List FileE)} (h : TgtAt w x vd vp) (hs : TreeAt w vs ls) (ho : TreesAt w vo ts) (turn : Int) (ht : -9223372036854775808 ≤ turn ∧ turn ≤ 9223372036854775807) :
    Calls Tryd.prog 3 #[.agg (tgtC x vd vp), vs, vo, .int .i64 turn] w fun e w' => e = .returned (.bool true) ∧ Kept (fun _ => False) w w' := by
  obtain ⟨a1, c1, a2, c2, rfl, rfl, hc1, hc2, hm1⟩ := h.words
  obtain ⟨a3, c3, rfl⟩ := hs.slc
  obtain ⟨a4, c4, rfl, hc4, hm4⟩ := ho.slc
  simp only [maxLen] at hm1 hm4
  unfold tgtC
  have k1 : Kept (fun _ => False) w (w.alloc (.cells #[.string x.name, .slice a1 x.deps.length c1, .int .i64 x.fuel, .slice a2 x.prog.length c2] 25)) := (Kept.refl _ w).alloc _
  have hb0 := heap_last w (.cells #[.string x.name, .slice a1 x.deps.length c1, .int .i64 x.fuel, .slice a2 x.prog.length c2] 25)
  go_enter Tryd.func3, Tryd.ntmps3
  go_upto_region 1 with fail
  generalize w.alloc (.cells #[.string x.name, .slice a1 x.deps.length c1, .int .i64 x.fuel, .slice a2 x.prog.length c2] 25) = W1 at k1 hb0 ⊢
  have hzB := (Array.getElem?_eq_some_iff.1 hb0).1
  have hBw : w.heap.size = w.heap.size := rfl
  generalize hBe : w.heap.size = B at hb0 hzB ⊢
  have hbW : ∀ w', Kept (fun _ => False) W1 w' → w'.heap[B]? = some (.cells #[.string x.name, .slice a1 x.deps.length c1, .int .i64 x.fuel, .slice a2 x.prog.length c2] 25) := fun w' q => by rw [q.block _ hzB not_false]; exact hb0
  have ldB : ∀ w', Kept (fun _ => False) W1 w' → (Instr.loadAt 25 (.pointer (some ⟨B, 0, none⟩))).run Tryd.prog w' = .ok (.agg #[.string x.name, .slice a1 x.deps.length c1, .int .i64 x.fuel, .slice a2 x.prog.length c2]) w' := fun w' q => load_row Tryd.underlying25 rfl (hbW w' q) (by kernel_rfl)
  have ld1 := ldB W1 (Kept.refl _ _)
  have gc := great16_ct (h.kept k1) (hs.kept k1) (ho.kept k1)
  unfold tgtC at gc
  clear hBw hBe
  go_wp2_with (first
    | (with_reducible refine wpl_load 25 _ rfl rfl ?_ ld1 ?_
       · rfl
       simp only [Act.put, List.getElem_toArray, List.getElem_cons_zero, List.getElem_cons_succ, List.setIfInBounds_toArray, List.set_cons_zero, List.set_cons_succ]))
  refine gc.mono ?_
  rintro e W2 ⟨⟨q, rfl⟩, k2⟩
  have K2 := k1.trans k2
  clear gc ld1
  cases q with
  | true =>
    go_wp2_with fail
    refine (known16_ct (hT.kept (K2))).mono ?_
    rintro e Wk ⟨rfl, kk⟩
    go_wp2_with fail
    go_ret
    exact ⟨rfl, (K2).trans kk⟩
  | false =>
    have ld2 := ldB W2 k2
    have ic := inputs_ct (hT.kept K2) (h.kept K2) (hs.kept K2) (ho.kept K2)
    unfold tgtC at ic
    go_wp2_with (first
      | (with_reducible refine wpl_load 25 _ rfl rfl ?_ ld2 ?_
         · rfl
         simp only [Act.put, List.getElem_toArray, List.getElem_cons_zero, List.getElem_cons_succ, List.setIfInBounds_toArray, List.set_cons_zero, List.set_cons_succ]))
    refine ic.mono ?_
    rintro e W3 ⟨hi, k3⟩
    have K3 := K2.trans k3
    clear ic ld2
    rcases hi with ⟨_, rfl⟩ | ⟨_, ⟨_, rfl⟩ | ⟨o, v', hio, rfl, hto⟩⟩
    · go_wp2_with fail
      refine (known16_ct (hT.kept (K3))).mono ?_
      rintro e Wk ⟨rfl, kk⟩
      go_wp2_with fail
      go_ret
      exact ⟨rfl, (K3).trans kk⟩
    · go_wp2_with fail
      refine (known16_ct (hT.kept (K3))).mono ?_
      rintro e Wk ⟨rfl, kk⟩
      go_wp2_with fail
      go_ret
      exact ⟨rfl, (K3).trans kk⟩
    · obtain ⟨a5, c5, rfl⟩ := hto.slc
      rename_i hok
      by_cases h0 : ts.length = 0
      · have i0 : ((ts.length : Int) == 0) = true := by rw [h0]; rfl
        go_wp2_with fail
        refine (known16_ct (hT.kept (K3))).mono ?_
        rintro e Wk ⟨rfl, kk⟩
        go_wp2_with fail
        go_ret
        exact ⟨rfl, (K3).trans kk⟩
      · have i0 : ((ts.length : Int) == 0) = false := beq_eq_false_iff_ne.2 (by omega)
        have ld3 := ldB W3 (k2.trans k3)
        have zt : ∀ w, (zeroValue 25).run Tryd.prog w = .ok (.agg #[.string ⟨#[]⟩, .slice none 0 0, .int .i64 0, .slice none 0 0]) w := fun w => by kernel_rfl
        have st := store_new (P := Tryd.prog) (ty := 25) (c := #[.string ⟨#[]⟩, .slice none 0 0, .int .i64 0, .slice none 0 0]) (c' := #[.string x.name, .slice a1 x.deps.length c1, .int .i64 x.fuel, .slice a2 x.prog.length c2]) (by kernel_rfl) rfl (by simp [Value.oneCell']) (w := W3) (b := W3.heap.size) rfl
        go_upto_region 7 with (first
          | (with_reducible refine wpl_load 25 _ rfl rfl ?_ ld3 ?_
             · rfl
             simp only [Act.put, List.getElem_toArray, List.getElem_cons_zero, List.getElem_cons_succ, List.setIfInBounds_toArray, List.set_cons_zero, List.set_cons_succ])
          | (with_reducible refine wpl_alloc 25 rfl rfl (zt _) ?_
             simp only [World.size_alloc, Act.put, List.getElem_toArray, List.getElem_cons_zero, List.getElem_cons_succ, List.setIfInBounds_toArray, List.set_cons_zero, List.set_cons_succ])
          | (with_reducible refine wpl_store 25 _ _ rfl rfl ?_ ?_ st ?_
             · rfl
             · rfl
             simp only [Act.put, List.getElem_toArray, List.getElem_cons_zero, List.getElem_cons_succ, List.setIfInBounds_toArray, List.set_cons_zero, List.set_cons_succ]))
        have k4 : Kept (fun _ => False) W3 (W3.alloc (.cells #[.string x.name, .slice a1 x.deps.length c1, .int .i64 x.fuel, .slice a2 x.prog.length c2] 25)) := (Kept.refl _ W3).alloc _
        have hD4 := heap_last W3 (.cells #[.string x.name, .slice a1 x.deps.length c1, .int .i64 x.fuel, .slice a2 x.prog.length c2] 25)
        generalize W3.alloc (.cells #[.string x.name, .slice a1 x.deps.length c1, .int .i64 x.fuel, .slice a2 x.prog.length c2] 25) = W4 at k4 hD4 ⊢
        obtain ⟨D, hDe⟩ : ∃ D, D = W3.heap.size := ⟨_, rfl⟩
        have hDz : W3.heap.size ≤ D := by omega
        have hDz2 : D ≤ W3.heap.size := by omega
        rw [← hDe] at hD4 ⊢
        clear st zt ld3 hDe
        have e41 : W4.cell? ⟨D, 1, none⟩ = some (.slice a1 x.deps.length c1) := by rw [cell_of_row _ _ _ _ _ _ hD4]; rfl
        have f41 : W4.frozen? ⟨D, 1, none⟩ = false := by simp [World.frozen?, hD4]
        go_upto_region 8 with fail
        have hD5 : (W4.setCell ⟨D, 1, none⟩ (.slice none 0 0)).heap[D]? = some (.cells #[.string x.name, .slice none 0 0, .int .i64 x.fuel, .slice a2 x.prog.length c2] 25) := by rw [heap_setCell_same hD4]; rfl
        have k5 : Kept (fun i => D ≤ i) W3 (W4.setCell ⟨D, 1, none⟩ (.slice none 0 0)) := (k4.mono (fun _ _ q => q.elim)).setCell (p := ⟨D, 1, none⟩) (fun _ => Nat.le_refl _) _
        clear e41 f41 hD4 k4
        generalize W4.setCell ⟨D, 1, none⟩ (.slice none 0 0) = W5 at hD5 k5 ⊢
        obtain ⟨vs, hvl, hvr, hve⟩ := ho
        obtain ⟨hdo, hlen, h5, hnd, hnm, hmy⟩ := okI_deps hok
        have hn : x.deps.length = ts.length := hlen.symm
        have HLEN := Lib.hid hn
        have HX := Lib.hid (And.intro hok (And.intro hio (And.intro hdo hnd)))
        obtain ⟨n, hne⟩ : ∃ n, n = ts.length := ⟨_, rfl⟩
        have hdn : x.deps.length = n := by omega
        have hvn : vs.length = n := by omega
        have hn5 : n ≤ 5 := by omega
        have hn1 : 0 < n := by omega
        rw [← hne] at hm4 hc4 i0 hvl hvr ⊢
        obtain ⟨t0, hlt0, hm0⟩ := turn_at turn n hn1
        have HM0 := Lib.hid hm0
        clear hm0
        have hD5z := (Array.getElem?_eq_some_iff.1 hD5).1
        clear hok hio hdo hnd hnm hmy hlen hn hne hvl h0 i0 ht hbW
        go_wp2_with fail
        go_loopg [12, 41] n (fun gk s12 s41 wr => ∃ (k : Nat) (a : Option Addr) (c : Nat) (a' : Option Addr) (c' : Nat), gk = n - k ∧ k ≤ n ∧ s41 = .int .i64 k ∧ s12 = .slice a' k c' ∧ wr.heap[D]? = some (.cells #[.string x.name, .slice a k c, .int .i64 x.fuel, .slice a2 x.prog.length c2] 25) ∧
          wr.ownsRow D 9 1 (.slice a k c) k (((rotL x.deps t0).take k).map Value.string) ∧ wr.ownsRow D 27 1 (.slice a' k c') k ((rotL vs t0).take k) ∧ Kept (fun i => D ≤ i) W3 wr)
        case atStart => exact ⟨0, none, 0, none, 0, by omega, by omega, rfl, rfl, hD5, World.ownsRow_nil _ _ _ _, World.ownsRow_nil _ _ _ _, k5⟩
        case round =>
          obtain ⟨k, a6, c6, a7, c7, rfl, hk, rfl, rfl, hD, hrs, hrt, hkr⟩ := hrel
          have K3r : Kept (fun _ => False) W3 wr := hkr.mono (fun i hi e => by omega)
          have Kr := K3.trans K3r
          by_cases hlt : k < n
          · have gk : (k : Int) < (n : Int) := by omega
            have gn0 : ((n : Int) == 0) = false := beq_eq_false_iff_ne.2 (by omega)
            have b1 : 0 ≤ (t0 : Int) ∧ (t0 : Int) ≤ 1000 := by omega
            have b2 : 0 ≤ (k : Int) + (t0 : Int) ∧ (k : Int) + (t0 : Int) ≤ 1000 := by omega
            have bn : 0 ≤ (n : Int) ∧ (n : Int) ≤ 18446744073709551615 := by omega
            obtain ⟨j, hj⟩ : ∃ j, j = (k + t0) % n := ⟨_, rfl⟩
            have hjn : j < n := by rw [hj]; exact Nat.mod_lt _ hn1
            have HV : Hid ((wrap64 ((k : Int) + wrap64 ((IntKind.u64.wrap turn).tmod (n : Int)))).tmod (n : Int) = (j : Int)) := by
              unfold Hid
              rw [HM0.out, wrap_small b1, wrap_small b2]
              exact turn_mod hj
            have HJ := Lib.hid hj
            have gn1 : IntKind.u64.wrap (n : Int) = (n : Int) := IntWalk.u64_in _ bn
            clear hj b1 b2 bn
            go_upto_region 13 with fail
            rw [HV.out]
            clear gn1 gn0 gk
            have hjd : x.deps[j]? = some (x.deps[j]'(by omega)) := List.getElem?_eq_getElem _
            generalize x.deps[j]'(by omega) = d at hjd
            have hjv : vs[j]? = some (vs[j]'(by omega)) := List.getElem?_eq_getElem _
            generalize vs[j]'(by omega) = v at hjv
            have hlz : j < ts.length := by have := HLEN.out; omega
            have hjt : ts[j]? = some ts[j] := List.getElem?_eq_getElem hlz
            obtain ⟨y, hy, htr⟩ := hve j _ hjt
            rw [hjv] at hy
            injection hy with hy
            subst hy
            obtain ⟨av, cv, hvs⟩ := htr.slc
            subst hvs
            have HR1 := Lib.hid (rot_take hdn hlt0 hlt HJ.out hjd)
            have HR2 := Lib.hid (rot_take hvn hlt0 hlt HJ.out hjv)
            obtain ⟨_, b, q, rfl, hb, hcell⟩ := h.deps.elem hjd
            obtain ⟨b2, q2, hae, hb2, hcell2⟩ := hvr.elem (j := j) (xs := [.slice av ts[j].length cv]) (by rw [List.getElem?_map, hjv]; rfl)
            subst hae
            have hcell2 : w.cell? ⟨b2, q2 + j, none⟩ = some (.slice av ts[j].length cv) := by have := hcell2 0 _ rfl; rw [Nat.mul_one] at this; exact this
            have hsz3 := K3.size
            have hsz1 := (k2.trans k3).size
            have hbD : b < D := by omega
            have hBD : B < D := by omega
            have hb2D : b2 < D := by omega
            have hown : ∀ i, (Value.slice a6 k c6).ownBlock = some i → D ≤ i := fun i hi => (own_type hrs hi).1
            have hnot : ∀ i, (Value.slice a6 k c6).ownBlock = some i → i ≠ D := own_not hrs hD (by decide)
            have hDr : D < wr.heap.size := (Array.getElem?_eq_some_iff.1 hD).1
            have hBr : B < wr.heap.size := by omega
            have hbr : b < wr.heap.size := by omega
            have cY : ∀ w', Kept (fun i => (Value.slice a6 k c6).ownBlock = some i) wr w' → w'.cell? ⟨D, 1, none⟩ = some (.slice a6 k c6) := fun w' q => by
              rw [q.cell (p := ⟨D, 1, none⟩) hDr (fun e => hnot D e rfl), cell_of_row _ _ _ _ _ _ hD]; rfl
            have hB13 := (k2.trans k3).trans K3r
            have cB : ∀ w', Kept (fun i => (Value.slice a6 k c6).ownBlock = some i) wr w' → w'.cell? ⟨B, 1, none⟩ = some (.slice (some ⟨b, q, none⟩) x.deps.length c1) := fun w' z => by
              rw [z.cell (p := ⟨B, 1, none⟩) hBr (fun e => by have := hown B e; omega), hB13.cell (p := ⟨B, 1, none⟩) hzB not_false, cell_of_row _ _ _ _ _ _ hb0]; rfl
            have cS : ∀ w', Kept (fun i => (Value.slice a6 k c6).ownBlock = some i) wr w' → w'.cell? ⟨b, q + j, none⟩ = some (.string d) := fun w' z => by
              rw [z.cell (p := ⟨b, q + j, none⟩) hbr (fun e => by have := hown b e; omega), Kr.cell (p := ⟨b, q + j, none⟩) hb not_false]; exact hcell
            have gj : (j : Int) < (n : Int) := by omega
            have gj0 : (0 : Int) ≤ (j : Int) := by omega
            have hrs' : wr.drew.ownsRow D 9 1 (.slice a6 k c6) k (((rotL x.deps t0).take k).map Value.string) := row_kept hrs ((Kept.refl _ wr).drew)
            have hg := heap_last wr.drew (.cells #[.string d] 9)
            have bs1 := bs_s d wr.drew
            obtain ⟨a8, c8, W7, ap, ho7, hgr⟩ := push_s (c := 1) (alloc_row hrs' (.cells #[.string d] 9)) (u := .string d) rfl hg (by omega) (by have : wr.drew.heap.size = wr.heap.size := rfl; simp; omega) 22
            have k7 : Kept (fun i => (Value.slice a6 k c6).ownBlock = some i) wr W7 := (((Kept.refl _ wr).drew).alloc _).trans (grown_row hgr)
            have k7a : Kept (fun i => (Value.slice a6 k c6).ownBlock = some i) wr (wr.drew.alloc (.cells #[.string d] 9)) := ((Kept.refl _ wr).drew).alloc _
            have hD7 : W7.heap[D]? = some (.cells #[.string x.name, .slice a6 k c6, .int .i64 x.fuel, .slice a2 x.prog.length c2] 25) := by rw [k7.block D hDr (fun e => hnot D e rfl)]; exact hD
            have c7' : W7.cell? ⟨D, 1, none⟩ = some (.slice a6 k c6) := cY W7 k7
            have f7' : W7.frozen? ⟨D, 1, none⟩ = false := by simp [World.frozen?, hD7]
            have st8 := store_sl (a := a8) (n := k + 1) (c := c8) c7' f7'
            have hD8 : (W7.setCell ⟨D, 1, none⟩ (.slice a8 (k + 1) c8)).heap[D]? = some (.cells #[.string x.name, .slice a8 (k + 1) c8, .int .i64 x.fuel, .slice a2 x.prog.length c2] 25) := by rw [heap_setCell_same hD7]; rfl
            have k8 : Kept (fun i => i = D) W7 (W7.setCell ⟨D, 1, none⟩ (.slice a8 (k + 1) c8)) := (Kept.refl (fun i => i = D) W7).setCell (p := ⟨D, 1, none⟩) (fun _ => rfl) _
            have ho8 := row_stay ho7 k8 (fun i hi e => own_not ho7 hD7 (by decide) i hi e)
            have hrt7 := row_stay hrt k7 (own_apart hrt hrs (by decide))
            have hrt8 := row_stay hrt7 k8 (fun i hi e => own_not hrt7 hD7 (by decide) i hi e)
            have hkr8 : Kept (fun i => D ≤ i) W3 (W7.setCell ⟨D, 1, none⟩ (.slice a8 (k + 1) c8)) := (hkr.trans (k7.mono (fun i _ e => hown i e))).trans (k8.mono (fun i _ e => by omega))
            clear hrs hrs' hg hgr hD hnot hD7 c7' f7' k8 hrt hrt7 ho7
            refine tail_drew 10 (Kept (fun i => (Value.slice a6 k c6).ownBlock = some i) wr) (by kernel_rfl) ((Kept.refl _ wr).drew) (fun hHeld => ?_)
            refine tail_q (v := ?_) (i := 0) rfl (by kernel_rfl) (by kernel_rfl) (by kernel_rfl) (by kernel_rfl) (by decide) (fun _ _ _ h => h) (by rfl) hHeld ?_ ?_
            rotate_left
            · (intro w' hS'; go_simp <;> (with_reducible rfl))
            simp only [Act.put, List.getElem_toArray, List.getElem_cons_zero, List.getElem_cons_succ, List.setIfInBounds_toArray, List.set_cons_zero, List.set_cons_succ]
            refine tail_q (v := ?_) (i := 1) rfl (by kernel_rfl) (by kernel_rfl) (by kernel_rfl) (by kernel_rfl) (by decide) (fun _ _ _ h => h) (by rfl) hHeld ?_ ?_
            rotate_left
            · (intro w' hS'; go_simp <;> (with_reducible rfl))
            simp only [Act.put, List.getElem_toArray, List.getElem_cons_zero, List.getElem_cons_succ, List.setIfInBounds_toArray, List.set_cons_zero, List.set_cons_succ]
            refine tail_q (v := ?_) (i := 2) rfl (by kernel_rfl) (by kernel_rfl) (by kernel_rfl) (by kernel_rfl) (by decide) (fun _ _ _ h => h) (by rfl) hHeld ?_ ?_
            rotate_left
            · (intro w' hS'; go_simp <;> (with_reducible rfl))
            simp only [Act.put, List.getElem_toArray, List.getElem_cons_zero, List.getElem_cons_succ, List.setIfInBounds_toArray, List.set_cons_zero, List.set_cons_succ]
            refine tail_q (v := ?_) (i := 3) rfl (by kernel_rfl) (by kernel_rfl) (by kernel_rfl) (by kernel_rfl) (by decide) (fun _ _ _ h => h) (by rfl) hHeld ?_ ?_
            rotate_left
            · (intro w' hS'; go_simp <;> (with_reducible rfl))
            simp only [Act.put, List.getElem_toArray, List.getElem_cons_zero, List.getElem_cons_succ, List.setIfInBounds_toArray, List.set_cons_zero, List.set_cons_succ]
            refine tail_q (v := ?_) (i := 4) rfl (by kernel_rfl) (by kernel_rfl) (by kernel_rfl) (by kernel_rfl) (by decide) (fun _ _ _ h => h) (by rfl) hHeld ?_ ?_
            rotate_left
            · (intro w' hS'; go_simp <;> (with_reducible rfl))
            simp only [Act.put, List.getElem_toArray, List.getElem_cons_zero, List.getElem_cons_succ, List.setIfInBounds_toArray, List.set_cons_zero, List.set_cons_succ]
            refine tail_q (v := ?_) (i := 5) rfl (by kernel_rfl) (by kernel_rfl) (by kernel_rfl) (by kernel_rfl) (by decide) (fun _ _ _ h => h) (by rfl) hHeld ?_ ?_
            rotate_left
            · (intro w' hS'; go_simp <;> (with_reducible rfl))
            simp only [Act.put, List.getElem_toArray, List.getElem_cons_zero, List.getElem_cons_succ, List.setIfInBounds_toArray, List.set_cons_zero, List.set_cons_succ]
            refine tail_q (v := ?_) (i := 6) rfl (by kernel_rfl) (by kernel_rfl) (by kernel_rfl) (by kernel_rfl) (by decide) (fun _ _ _ h => h) (by rfl) hHeld ?_ ?_
            rotate_left
            · (intro w' hS'; go_simp <;> (with_reducible rfl))
            simp only [Act.put, List.getElem_toArray, List.getElem_cons_zero, List.getElem_cons_succ, List.setIfInBounds_toArray, List.set_cons_zero, List.set_cons_succ]
            refine tail_v (i := 7) (by kernel_rfl) rfl (by rfl) (exec_buildSlice 22 1 _ rfl (by go_simp <;> rfl) bs1) (k7a) (fun hHeld => ?_)
            simp only [Act.put, List.getElem_toArray, List.getElem_cons_zero, List.getElem_cons_succ, List.setIfInBounds_toArray, List.set_cons_zero, List.set_cons_succ]
            refine tail_v (i := 8) (by kernel_rfl) rfl (by rfl) (exec_append 22 _ _ rfl rfl rfl ap) (k7) (fun hHeld => ?_)
            simp only [Act.put, List.getElem_toArray, List.getElem_cons_zero, List.getElem_cons_succ, List.setIfInBounds_toArray, List.set_cons_zero, List.set_cons_succ]
            refine tail_v (v := ?_) (i := 9) (by kernel_rfl) rfl (by rfl) ?_ hHeld (fun hHeld => ?_)
            rotate_left
            · (go_simp <;> (with_reducible rfl))
            simp only [Act.put, List.getElem_toArray, List.getElem_cons_zero, List.getElem_cons_succ, List.setIfInBounds_toArray, List.set_cons_zero, List.set_cons_succ]
            refine tail_end (by kernel_rfl) rfl (by rfl) (exec_store 22 _ _ rfl rfl rfl st8) (by kernel_rfl) ?_
            simp only [Act.put, List.getElem_toArray, List.getElem_cons_zero, List.getElem_cons_succ, List.setIfInBounds_toArray, List.set_cons_zero, List.set_cons_succ]
            generalize W7.setCell ⟨D, 1, none⟩ (.slice a8 (k + 1) c8) = W8 at hD8 ho8 hrt8 hkr8 ⊢
            have K8 := K3.trans (hkr8.mono (fun i hi e => by omega))
            clear cY cB cS bs1 ap st8 k7 k7a hown hDr hBr hbr hcell
            have c9 : W8.cell? ⟨b2, q2 + j, none⟩ = some (.slice av ts[j].length cv) := by rw [K8.cell (p := ⟨b2, q2 + j, none⟩) hb2 not_false]; exact hcell2
            have bs2 := bs_t av ts[j].length cv W8
            have hg9 := heap_last W8 (.cells #[.slice av ts[j].length cv] 27)
            have hD8z := (Array.getElem?_eq_some_iff.1 hD8).1
            obtain ⟨a9, c9', W9, ap9, ho9, hgr9⟩ := push_t (c := 1) (alloc_row hrt8 (.cells #[.slice av ts[j].length cv] 27)) (u := .slice av ts[j].length cv) rfl hg9 (by omega) (by simp; omega) 28
            have k9 : Kept (fun i => (Value.slice a7 k c7).ownBlock = some i) W8 W9 := ((Kept.refl _ W8).alloc _).trans (grown_row hgr9)
            have hD9 : W9.heap[D]? = some (.cells #[.string x.name, .slice a8 (k + 1) c8, .int .i64 x.fuel, .slice a2 x.prog.length c2] 25) := by rw [k9.block D hD8z (fun e => own_not hrt8 hD8 (by decide) D e rfl)]; exact hD8
            have hos9 := row_stay ho8 k9 (own_apart ho8 hrt8 (by decide))
            have hkr9 : Kept (fun i => D ≤ i) W3 W9 := hkr8.trans (k9.mono (fun i _ e => (own_type hrt8 e).1))
            have HT1 : Hid (((rotL x.deps t0).take k).map Value.string ++ [.string d] = ((rotL x.deps t0).take (k + 1)).map Value.string) := by unfold Hid; rw [HR1.out, List.map_append]; rfl
            have HT2 : Hid ((rotL vs t0).take k ++ [.slice av ts[j].length cv] = (rotL vs t0).take (k + 1)) := HR2.out.symm
            rw [HT1.out] at hos9
            rw [HT2.out] at ho9
            clear hrt8 ho8 hD8 hg9 hgr9 k9 HT1 HT2 HR1 HR2 hjd hjv hjt htr hve hvr hkr8
            go_wp2_with (first
              | (with_reducible refine wpl_bslice 28 _ _ rfl rfl ?_ bs2 ?_
                 · (go_simp <;> rfl)
                 simp only [Act.put, List.getElem_toArray, List.getElem_cons_zero, List.getElem_cons_succ, List.setIfInBounds_toArray, List.set_cons_zero, List.set_cons_succ])
              | (with_reducible refine wpl_append 28 _ _ rfl rfl ?_ ?_ ap9 ?_
                 · rfl
                 · rfl
                 simp only [Act.put, List.getElem_toArray, List.getElem_cons_zero, List.getElem_cons_succ, List.setIfInBounds_toArray, List.set_cons_zero, List.set_cons_succ]))
            go_roundg (n - (k + 1))
            case rel => exact ⟨k + 1, a8, c8, a9, c9', rfl, by omega, by go_num, rfl, hD9, hos9, ho9, hkr9⟩
            case measure => omega
          · obtain rfl : k = n := by omega
            obtain ⟨hok, hio, hdo, hnd⟩ := HX.out
            have hl1 : (rotL x.deps t0).length = k := by rw [rot_len]; exact hdn
            have hl2 : (rotL vs t0).length = k := by rw [rot_len]; exact hvn
            rw [List.take_of_length_le (Nat.le_of_eq hl1)] at hrs
            rw [List.take_of_length_le (Nat.le_of_eq hl2)] at hrt
            have hmk : k ≤ maxLen := by simp only [maxLen]; omega
            have hrd : DepsAt wr (.slice a6 k c6) (rotL x.deps t0) := ⟨by
              have := RowAt.own hrs (by rw [List.length_map]; exact hl1) hmk
              rw [List.map_map] at this
              exact this, fun d hd => h.deps.2 d ((rot_perm _ _).mem_iff.1 hd)⟩
            have hty : TgtAt wr ⟨x.name, rotL x.deps t0, x.fuel, x.prog⟩ (.slice a6 k c6) (.slice a2 x.prog.length c2) := ⟨h.name, hrd, (h.prog.kept Kr)⟩
            have hto2 : TreesAt wr (.slice a7 k c7) (rotL ts t0) := ⟨rotL vs t0, by rw [rot_len, rot_len, hvn, ← HLEN.out, hdn], RowAt.own hrt hl2 hmk, fun j l hl => by
              have hjk : j < k := by
                have := (List.getElem?_eq_some_iff.1 hl).1
                rw [rot_len, ← HLEN.out, hdn] at this; exact this
              rw [rot_at (by rw [← HLEN.out, hdn]; exact hlt0) (by rw [← HLEN.out, hdn]; exact hjk)] at hl
              obtain ⟨y, hy, hyt⟩ := hve _ l hl
              refine ⟨y, ?_, hyt.kept Kr⟩
              rw [rot_at (by omega) (by omega), hvn, ← hy, ← HLEN.out, hdn]⟩
            have hok2 := okI_rot hok t0
            have hio2 := ins_rot hok hio t0
            have ic := inputs_ct (hT.kept Kr) hty (hs.kept Kr) hto2
            have ldD : (Instr.loadAt 25 (.pointer (some ⟨D, 0, none⟩))).run Tryd.prog wr = .ok (.agg #[.string x.name, .slice a6 k c6, .int .i64 x.fuel, .slice a2 x.prog.length c2]) wr := load_row Tryd.underlying25 rfl hD (by kernel_rfl)
            unfold tgtC at ic
            dsimp only at ic
            have HO := Lib.hid (And.intro hok2 hio2)
            have gkk : ¬ ((k : Int) < (k : Int)) := by omega
            clear hok hio hdo hnd hl1 hl2 hrs hrt hrd hty hto2 hok2 hio2 hD hve hvr
            go_wp2_with (first
              | (with_reducible refine wpl_load 25 _ rfl rfl ?_ ldD ?_
                 · rfl
                 simp only [Act.put, List.getElem_toArray, List.getElem_cons_zero, List.getElem_cons_succ, List.setIfInBounds_toArray, List.set_cons_zero, List.set_cons_succ]))
            refine ic.mono ?_
            rintro e W6 ⟨hi2, k6⟩
            obtain ⟨v6, rfl, ht6⟩ : ∃ v, e = .returned (.tuple #[v, .int .i64 0]) ∧ TreeAt W6 v o := by
              obtain ⟨ho1, ho2⟩ := HO.out
              rcases hi2 with ⟨q1, _⟩ | ⟨_, ⟨q1, _⟩ | ⟨o', v', q1, he, hte⟩⟩
              · rw [ho1] at q1; cases q1
              · rw [ho2] at q1; cases q1
              · rw [ho2] at q1; injection q1 with q1; subst q1; exact ⟨v', he, hte⟩
            obtain ⟨a10, c10, rfl⟩ := ht6.slc
            have sc := rSame_ct (hto.kept (K3r.trans k6)) ht6
            rw [sameB_rfl] at sc
            clear ic ldD hi2
            go_wp2_with fail
            refine sc.mono ?_
            rintro e W7 ⟨rfl, k7⟩
            clear sc
            go_wp2_with fail
            refine (known16_ct (hT.kept ((Kr.trans k6).trans k7))).mono ?_
            rintro e Wk ⟨rfl, kk⟩
            go_wp2_with fail
            go_ret
            exact ⟨rfl, ((Kr.trans k6).trans k7).trans kk⟩

end Go.Proofs.YtfohljljoalmoaaDoor
