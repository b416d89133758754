/- The document's Great, of a target, sources and outs: it tells something, and keeps all. -/
import Derived.Test.YtfohljljoalmoaaDoorJG
import Derived.Test.YtfohljljoalmoaaDoorUD
namespace Go.Proofs.YtfohljljoalmoaaDoor
open Go.RowKit
set_option maxRecDepth 100000
set_option linter.unusedSimpArgs false
set_option linter.unusedVariables false

set_option maxRecDepth 100000 in
set_option maxHeartbeats 2000000 in
theorem great6_ct {w : World} {v : Value} {p : List InsE} (h : ProgAt w v p) :
    Calls Tryd.prog 45 #[v] w fun e w' => (∃ g, e = .returned (.bool g)) ∧ Kept (fun _ => False) w w' := by
  obtain ⟨a, c, rfl, hc, hm⟩ := h.slc
  simp only [maxLen] at hm
  by_cases h60 : p.length > 60
  · have i60 : (60 : Int) < (p.length : Int) := by omega
    go_enter Tryd.func45, Tryd.ntmps45
    go_wp2_with fail
    go_ret
    exact ⟨⟨_, rfl⟩, Kept.refl _ _⟩
  have i60 : ¬ (60 : Int) < (p.length : Int) := by omega
  go_enter Tryd.func45, Tryd.ntmps45
  go_wp2_with fail
  go_loopg [3] p.length (fun gk i wr => ∃ k : Nat, gk = p.length - k ∧ k ≤ p.length ∧ i = .int .i64 k ∧ Kept (fun _ => False) w wr)
  case atStart => exact ⟨0, by omega, by omega, rfl, Kept.refl _ _⟩
  case round =>
    obtain ⟨k, rfl, hk, rfl, hkr⟩ := hrel
    by_cases hlt : k < p.length
    · have hf : p[k]? = some p[k] := List.getElem?_eq_getElem hlt
      generalize p[k] = x at hf
      obtain ⟨b, o, rfl, hb, hr⟩ := (h.1.kept hkr).elem (j := k) (xs := insC x) (by rw [List.getElem?_map, hf]; rfl)
      have c1 : ∀ w', Kept (fun _ => False) wr w' → w'.cell? ⟨b, o + k * 6 + 1, none⟩ = some (.string x.a) := fun w' q => (q.cell (p := ⟨b, o + k * 6 + 1, none⟩) hb not_false).trans (hr 1 _ rfl)
      have c2 : ∀ w', Kept (fun _ => False) wr w' → w'.cell? ⟨b, o + k * 6 + 2, none⟩ = some (.string x.b) := fun w' q => (q.cell (p := ⟨b, o + k * 6 + 2, none⟩) hb not_false).trans (hr 2 _ rfl)
      have c3 : ∀ w', Kept (fun _ => False) wr w' → w'.cell? ⟨b, o + k * 6 + 3, none⟩ = some (.string x.c) := fun w' q => (q.cell (p := ⟨b, o + k * 6 + 3, none⟩) hb not_false).trans (hr 3 _ rfl)
      clear hf hr
      generalize hq : decide ((300 : Int) < IntKind.i64.wrap (IntKind.i64.wrap ((x.a.size : Int) + (x.b.size : Int)) + (x.c.size : Int))) = q
      go_wp2_with fail
      refine wp_region_held_drew (S := (Kept (fun _ => False) wr)) (by kernel_rfl) ((Kept.refl _ wr).drew) (fun hHeld => ?_)
      refine held_q (v := ?_) (i := 0) rfl (by kernel_rfl) (by kernel_rfl) (by kernel_rfl) (fun _ _ _ h => h) (by rfl) hHeld ?_ ?_
      rotate_left
      · (intro w' hS'; go_simp <;> (with_reducible rfl))
      simp only [Act.put, List.getElem_toArray, List.getElem_cons_zero, List.getElem_cons_succ, List.setIfInBounds_toArray, List.set_cons_zero, List.set_cons_succ]
      refine held_q (v := ?_) (i := 1) rfl (by kernel_rfl) (by kernel_rfl) (by kernel_rfl) (fun _ _ _ h => h) (by rfl) hHeld ?_ ?_
      rotate_left
      · (intro w' hS'; go_simp <;> (with_reducible rfl))
      simp only [Act.put, List.getElem_toArray, List.getElem_cons_zero, List.getElem_cons_succ, List.setIfInBounds_toArray, List.set_cons_zero, List.set_cons_succ]
      refine held_q (v := ?_) (i := 2) rfl (by kernel_rfl) (by kernel_rfl) (by kernel_rfl) (fun _ _ _ h => h) (by rfl) hHeld ?_ ?_
      rotate_left
      · (intro w' hS'; go_simp <;> (with_reducible rfl))
      simp only [Act.put, List.getElem_toArray, List.getElem_cons_zero, List.getElem_cons_succ, List.setIfInBounds_toArray, List.set_cons_zero, List.set_cons_succ]
      refine held_q (v := ?_) (i := 3) rfl (by kernel_rfl) (by kernel_rfl) (by kernel_rfl) (fun _ _ _ h => h) (by rfl) hHeld ?_ ?_
      rotate_left
      · (intro w' hS'; go_simp <;> (with_reducible rfl))
      simp only [Act.put, List.getElem_toArray, List.getElem_cons_zero, List.getElem_cons_succ, List.setIfInBounds_toArray, List.set_cons_zero, List.set_cons_succ]
      refine held_q (v := ?_) (i := 4) rfl (by kernel_rfl) (by kernel_rfl) (by kernel_rfl) (fun _ _ _ h => h) (by rfl) hHeld ?_ ?_
      rotate_left
      · (intro w' hS'; go_simp <;> (with_reducible rfl))
      simp only [Act.put, List.getElem_toArray, List.getElem_cons_zero, List.getElem_cons_succ, List.setIfInBounds_toArray, List.set_cons_zero, List.set_cons_succ]
      refine held_q (v := ?_) (i := 5) rfl (by kernel_rfl) (by kernel_rfl) (by kernel_rfl) (fun _ _ _ h => h) (by rfl) hHeld ?_ ?_
      rotate_left
      · (intro w' hS'; go_simp <;> (with_reducible rfl))
      simp only [Act.put, List.getElem_toArray, List.getElem_cons_zero, List.getElem_cons_succ, List.setIfInBounds_toArray, List.set_cons_zero, List.set_cons_succ]
      refine held_q (v := ?_) (i := 6) rfl (by kernel_rfl) (by kernel_rfl) (by kernel_rfl) (fun _ _ _ h => h) (by rfl) hHeld ?_ ?_
      rotate_left
      · (intro w' hS'; go_simp <;> (with_reducible rfl))
      simp only [Act.put, List.getElem_toArray, List.getElem_cons_zero, List.getElem_cons_succ, List.setIfInBounds_toArray, List.set_cons_zero, List.set_cons_succ]
      refine held_q (v := ?_) (i := 7) rfl (by kernel_rfl) (by kernel_rfl) (by kernel_rfl) (fun _ _ _ h => h) (by rfl) hHeld ?_ ?_
      rotate_left
      · (intro w' hS'; go_simp <;> (with_reducible rfl))
      simp only [Act.put, List.getElem_toArray, List.getElem_cons_zero, List.getElem_cons_succ, List.setIfInBounds_toArray, List.set_cons_zero, List.set_cons_succ]
      refine held_q (v := ?_) (i := 8) rfl (by kernel_rfl) (by kernel_rfl) (by kernel_rfl) (fun _ _ _ h => h) (by rfl) hHeld ?_ ?_
      rotate_left
      · (intro w' hS'; go_simp <;> (with_reducible rfl))
      simp only [Act.put, List.getElem_toArray, List.getElem_cons_zero, List.getElem_cons_succ, List.setIfInBounds_toArray, List.set_cons_zero, List.set_cons_succ]
      refine held_q (v := ?_) (i := 9) rfl (by kernel_rfl) (by kernel_rfl) (by kernel_rfl) (fun _ _ _ h => h) (by rfl) hHeld ?_ ?_
      rotate_left
      · (intro w' hS'; go_simp <;> (with_reducible rfl))
      simp only [Act.put, List.getElem_toArray, List.getElem_cons_zero, List.getElem_cons_succ, List.setIfInBounds_toArray, List.set_cons_zero, List.set_cons_succ]
      refine held_q (v := ?_) (i := 10) rfl (by kernel_rfl) (by kernel_rfl) (by kernel_rfl) (fun _ _ _ h => h) (by rfl) hHeld ?_ ?_
      rotate_left
      · (intro w' hS'; go_simp <;> (with_reducible rfl))
      simp only [Act.put, List.getElem_toArray, List.getElem_cons_zero, List.getElem_cons_succ, List.setIfInBounds_toArray, List.set_cons_zero, List.set_cons_succ]
      refine held_q (v := ?_) (i := 11) rfl (by kernel_rfl) (by kernel_rfl) (by kernel_rfl) (fun _ _ _ h => h) (by rfl) hHeld ?_ ?_
      rotate_left
      · (intro w' hS'; go_simp <;> (with_reducible rfl))
      simp only [Act.put, List.getElem_toArray, List.getElem_cons_zero, List.getElem_cons_succ, List.setIfInBounds_toArray, List.set_cons_zero, List.set_cons_succ]
      refine held_q (v := ?_) (i := 12) rfl (by kernel_rfl) (by kernel_rfl) (by kernel_rfl) (fun _ _ _ h => h) (by rfl) hHeld ?_ ?_
      rotate_left
      · (intro w' hS'; go_simp <;> (with_reducible rfl))
      simp only [Act.put, List.getElem_toArray, List.getElem_cons_zero, List.getElem_cons_succ, List.setIfInBounds_toArray, List.set_cons_zero, List.set_cons_succ]
      refine held_q (v := ?_) (i := 13) rfl (by kernel_rfl) (by kernel_rfl) (by kernel_rfl) (fun _ _ _ h => h) (by rfl) hHeld ?_ ?_
      rotate_left
      · (intro w' hS'; go_simp <;> (with_reducible rfl))
      simp only [Act.put, List.getElem_toArray, List.getElem_cons_zero, List.getElem_cons_succ, List.setIfInBounds_toArray, List.set_cons_zero, List.set_cons_succ]
      refine held_q (v := ?_) (i := 14) rfl (by kernel_rfl) (by kernel_rfl) (by kernel_rfl) (fun _ _ _ h => h) (by rfl) hHeld ?_ ?_
      rotate_left
      · (intro w' hS'; go_simp <;> (with_reducible rfl))
      simp only [Act.put, List.getElem_toArray, List.getElem_cons_zero, List.getElem_cons_succ, List.setIfInBounds_toArray, List.set_cons_zero, List.set_cons_succ]
      refine held_q (v := ?_) (i := 15) rfl (by kernel_rfl) (by kernel_rfl) (by kernel_rfl) (fun _ _ _ h => h) (by rfl) hHeld ?_ ?_
      rotate_left
      · (intro w' hS'; go_simp <;> (with_reducible rfl))
      simp only [Act.put, List.getElem_toArray, List.getElem_cons_zero, List.getElem_cons_succ, List.setIfInBounds_toArray, List.set_cons_zero, List.set_cons_succ]
      refine held_q (v := ?_) (i := 16) rfl (by kernel_rfl) (by kernel_rfl) (by kernel_rfl) (fun _ _ _ h => h) (by rfl) hHeld ?_ ?_
      rotate_left
      · (intro w' hS'; go_simp <;> (with_reducible rfl))
      simp only [Act.put, List.getElem_toArray, List.getElem_cons_zero, List.getElem_cons_succ, List.setIfInBounds_toArray, List.set_cons_zero, List.set_cons_succ]
      refine held_q (v := ?_) (i := 17) rfl (by kernel_rfl) (by kernel_rfl) (by kernel_rfl) (fun _ _ _ h => h) (by rfl) hHeld ?_ ?_
      rotate_left
      · (intro w' hS'; go_simp <;> (with_reducible rfl))
      simp only [Act.put, List.getElem_toArray, List.getElem_cons_zero, List.getElem_cons_succ, List.setIfInBounds_toArray, List.set_cons_zero, List.set_cons_succ]
      refine held_q (v := ?_) (i := 18) rfl (by kernel_rfl) (by kernel_rfl) (by kernel_rfl) (fun _ _ _ h => h) (by rfl) hHeld ?_ ?_
      rotate_left
      · (intro w' hS'; go_simp <;> (with_reducible rfl))
      simp only [Act.put, List.getElem_toArray, List.getElem_cons_zero, List.getElem_cons_succ, List.setIfInBounds_toArray, List.set_cons_zero, List.set_cons_succ]
      refine held_q (v := ?_) (i := 19) rfl (by kernel_rfl) (by kernel_rfl) (by kernel_rfl) (fun _ _ _ h => h) (by rfl) hHeld ?_ ?_
      rotate_left
      · (intro w' hS'; go_simp <;> (with_reducible rfl))
      simp only [Act.put, List.getElem_toArray, List.getElem_cons_zero, List.getElem_cons_succ, List.setIfInBounds_toArray, List.set_cons_zero, List.set_cons_succ]
      refine held_q (v := ?_) (i := 20) rfl (by kernel_rfl) (by kernel_rfl) (by kernel_rfl) (fun _ _ _ h => h) (by rfl) hHeld ?_ ?_
      rotate_left
      · (intro w' hS'; go_simp <;> (with_reducible rfl))
      simp only [Act.put, List.getElem_toArray, List.getElem_cons_zero, List.getElem_cons_succ, List.setIfInBounds_toArray, List.set_cons_zero, List.set_cons_succ]
      refine wpAnyH_done (by kernel_rfl) ?_ _
      cases q with
      | true =>
        go_wp2_with fail
        go_ret
        exact ⟨⟨_, rfl⟩, hkr.trans hHeld⟩
      | false =>
        go_wp2_with fail
        go_roundg (p.length - (k + 1))
        case rel => exact ⟨k + 1, rfl, by omega, by go_num, hkr.trans hHeld⟩
        case measure => omega
    · obtain rfl : k = p.length := by omega
      go_wp2_with fail
      go_ret
      exact ⟨⟨_, rfl⟩, hkr⟩
set_option maxRecDepth 100000 in
set_option maxHeartbeats 4000000 in
theorem great14_ct {w : World} {x : TgtE} {vd vp : Value} (h : TgtAt w x vd vp) {g : Nat} (hg : w.heap[g]? = some (.cells (tgtC x vd vp) 25 (0, 0))) :
    Calls Tryd.prog 21 #[.slice (some ⟨g, 0, none⟩) 1 1] w fun e w' => (∃ g, e = .returned (.bool g)) ∧ Kept (fun _ => False) w w' := by
  obtain ⟨a1, c1, a2, c2, rfl, rfl, hc1, hc2, hm1⟩ := h.words
  simp only [maxLen] at hm1
  unfold tgtC at hg
  have hzg := (Array.getElem?_eq_some_iff.1 hg).1
  have hbW : ∀ w', Kept (fun _ => False) w w' → w'.heap[g]? = some (.cells #[.string x.name, .slice a1 x.deps.length c1, .int .i64 x.fuel, .slice a2 x.prog.length c2] 25) := fun w' q => by rw [q.block _ hzg not_false]; exact hg
  have e0 : ∀ w', Kept (fun _ => False) w w' → w'.cell? ⟨g, 0, none⟩ = some (.string x.name) := fun w' q => by rw [cell_of_row _ _ _ _ _ _ (hbW w' q)]; rfl
  have e1 : ∀ w', Kept (fun _ => False) w w' → w'.cell? ⟨g, 1, none⟩ = some (.slice a1 x.deps.length c1) := fun w' q => by rw [cell_of_row _ _ _ _ _ _ (hbW w' q)]; rfl
  have e3 : ∀ w', Kept (fun _ => False) w w' → w'.cell? ⟨g, 3, none⟩ = some (.slice a2 x.prog.length c2) := fun w' q => by rw [cell_of_row _ _ _ _ _ _ (hbW w' q)]; rfl
  have e0w := e0 _ (Kept.refl _ w)
  have e1w := e1 _ (Kept.refl _ w)
  have e3w := e3 _ (Kept.refl _ w)
  have gc := great6_ct h.prog
  by_cases h100 : x.name.size > 100
  · have i100 : (100 : Int) < (x.name.size : Int) := by omega
    go_enter Tryd.func21, Tryd.ntmps21
    go_wp2_with fail
    refine wp_loop_rounds 2 ?_
    rw [rounds_succ]
    go_wp2_with fail
    go_ret
    exact ⟨⟨_, rfl⟩, Kept.refl _ _⟩
  have i100 : ¬ (100 : Int) < (x.name.size : Int) := by omega
  by_cases h20 : x.deps.length > 20
  · have i20 : (20 : Int) < (x.deps.length : Int) := by omega
    go_enter Tryd.func21, Tryd.ntmps21
    go_wp2_with fail
    refine wp_loop_rounds 2 ?_
    rw [rounds_succ]
    go_wp2_with fail
    go_ret
    exact ⟨⟨_, rfl⟩, Kept.refl _ _⟩
  have i20 : ¬ (20 : Int) < (x.deps.length : Int) := by omega
  go_enter Tryd.func21, Tryd.ntmps21
  go_wp2_with fail
  refine wp_loop_rounds 2 ?_
  rw [rounds_succ]
  go_wp2_with fail
  refine gc.mono ?_
  rintro e W ⟨⟨q, rfl⟩, k1⟩
  cases q with
  | true =>
    go_wp2_with fail
    go_ret
    exact ⟨⟨_, rfl⟩, k1⟩
  | false =>
    have e1W := e1 _ k1
    go_wp2_with fail
    go_loopg [4] x.deps.length (fun gk i wr => ∃ k : Nat, gk = x.deps.length - k ∧ k ≤ x.deps.length ∧ i = .int .i64 k ∧ Kept (fun _ => False) w wr)
    case atStart => exact ⟨0, by omega, by omega, rfl, k1⟩
    case round =>
      obtain ⟨k, rfl, hk, rfl, hkr⟩ := hrel
      have e1r := e1 _ hkr
      by_cases hlt : k < x.deps.length
      · have hf : x.deps[k]? = some x.deps[k] := List.getElem?_eq_getElem hlt
        generalize x.deps[k] = d at hf
        obtain ⟨_, b, o, rfl, hb, hcell⟩ := (h.deps.kept hkr).elem hf
        clear hf
        by_cases hd : d.size > 100
        · have id : (100 : Int) < (d.size : Int) := by omega
          go_wp2_with fail
          go_ret
          exact ⟨⟨_, rfl⟩, hkr⟩
        · have id : ¬ (100 : Int) < (d.size : Int) := by omega
          go_wp2_with fail
          go_roundg (x.deps.length - (k + 1))
          case rel => exact ⟨k + 1, rfl, by omega, by go_num, hkr⟩
          case measure => omega
      · obtain rfl : k = x.deps.length := by omega
        go_wp2_with fail
        rw [rounds_succ]
        go_wp2_with fail
        go_ret
        exact ⟨⟨_, rfl⟩, hkr⟩
set_option maxRecDepth 100000 in
set_option maxHeartbeats 4000000 in
theorem great16_ct {w : World} {x : TgtE} {vd vp vs vo : Value} {ls : List FileE} {ts : List (List FileE)} (h : TgtAt w x vd vp) (hs : TreeAt w vs ls) (ho : TreesAt w vo ts) :
    Calls Tryd.prog 7 #[.agg (tgtC x vd vp), vs, vo] w fun e w' => (∃ g, e = .returned (.bool g)) ∧ Kept (fun _ => False) w w' := by
  obtain ⟨a1, c1, a2, c2, rfl, rfl, hc1, hc2, hm1⟩ := h.words
  obtain ⟨a3, c3, rfl⟩ := hs.slc
  obtain ⟨a4, c4, rfl, hc4, hm4⟩ := ho.slc
  simp only [maxLen] at hm1 hm4
  unfold tgtC
  have k1 : Kept (fun _ => False) w (w.alloc (.cells #[.string x.name, .slice a1 x.deps.length c1, .int .i64 x.fuel, .slice a2 x.prog.length c2] 25)) := (Kept.refl _ w).alloc _
  have hb0 := heap_last w (.cells #[.string x.name, .slice a1 x.deps.length c1, .int .i64 x.fuel, .slice a2 x.prog.length c2] 25)
  have ldB : (Instr.loadAt 25 (.pointer (some ⟨w.heap.size, 0, none⟩))).run Tryd.prog (w.alloc (.cells #[.string x.name, .slice a1 x.deps.length c1, .int .i64 x.fuel, .slice a2 x.prog.length c2] 25)) = .ok (.agg #[.string x.name, .slice a1 x.deps.length c1, .int .i64 x.fuel, .slice a2 x.prog.length c2]) _ := load_row Tryd.underlying25 rfl hb0 (by kernel_rfl)
  go_enter Tryd.func7, Tryd.ntmps7
  go_upto_region 1 with fail
  generalize w.alloc (.cells #[.string x.name, .slice a1 x.deps.length c1, .int .i64 x.fuel, .slice a2 x.prog.length c2] 25) = W1 at k1 hb0 ldB ⊢
  generalize w.heap.size = B at hb0 ldB ⊢
  have bs := bslice_tg x.name a1 a2 x.deps.length c1 x.prog.length c2 x.fuel W1
  have k2 : Kept (fun _ => False) w (W1.alloc (.cells #[.string x.name, .slice a1 x.deps.length c1, .int .i64 x.fuel, .slice a2 x.prog.length c2] 25)) := k1.alloc _
  have hg := heap_last W1 (.cells #[.string x.name, .slice a1 x.deps.length c1, .int .i64 x.fuel, .slice a2 x.prog.length c2] 25)
  generalize W1.alloc (.cells #[.string x.name, .slice a1 x.deps.length c1, .int .i64 x.fuel, .slice a2 x.prog.length c2] 25) = W2 at bs k2 hg
  generalize W1.heap.size = G at bs hg
  have gc := great14_ct (h.kept k2) hg
  go_wp2_with (first
    | (with_reducible refine wpl_load 25 _ rfl rfl ?_ ldB ?_
       · rfl
       simp only [Act.put, List.getElem_toArray, List.getElem_cons_zero, List.getElem_cons_succ, List.setIfInBounds_toArray, List.set_cons_zero, List.set_cons_succ])
    | (with_reducible refine wpl_bslice 54 _ _ rfl rfl ?_ bs ?_
       · (go_simp <;> rfl)
       simp only [Act.put, List.getElem_toArray, List.getElem_cons_zero, List.getElem_cons_succ, List.setIfInBounds_toArray, List.set_cons_zero, List.set_cons_succ]))
  refine gc.mono ?_
  rintro e W3 ⟨⟨q, rfl⟩, k3⟩
  have K3 := k2.trans k3
  clear bs ldB hb0 hg gc
  cases q with
  | true =>
    go_wp2_with fail
    go_ret
    exact ⟨⟨_, rfl⟩, K3⟩
  | false =>
    go_wp2_with fail
    refine (great_ct (hs.kept K3)).mono ?_
    rintro e W4 ⟨⟨q, rfl⟩, k4⟩
    have K4 := K3.trans k4
    cases q with
    | true =>
      go_wp2_with fail
      go_ret
      exact ⟨⟨_, rfl⟩, K4⟩
    | false =>
      by_cases h10 : ts.length > 10
      · have i10 : (10 : Int) < (ts.length : Int) := by omega
        go_wp2_with fail
        go_ret
        exact ⟨⟨_, rfl⟩, K4⟩
      · have i10 : ¬ (10 : Int) < (ts.length : Int) := by omega
        go_wp2_with fail
        go_loopg [7] ts.length (fun gk i wr => ∃ k : Nat, gk = ts.length - k ∧ k ≤ ts.length ∧ i = .int .i64 k ∧ Kept (fun _ => False) w wr)
        case atStart => exact ⟨0, by omega, by omega, rfl, K4⟩
        case round =>
          obtain ⟨k, rfl, hk, rfl, hkr⟩ := hrel
          by_cases hlt : k < ts.length
          · have hf : ts[k]? = some ts[k] := List.getElem?_eq_getElem hlt
            generalize ts[k] = l at hf
            obtain ⟨b, o, v, rfl, hb, hcell, ht⟩ := (ho.kept hkr).elem hf
            have gc := great_ct ht
            obtain ⟨a8, c8, rfl⟩ := ht.slc
            clear hf
            go_wp2_with fail
            refine gc.mono ?_
            rintro e W5 ⟨⟨q, rfl⟩, k5⟩
            clear gc
            cases q with
            | true =>
              go_wp2_with fail
              go_ret
              exact ⟨⟨_, rfl⟩, hkr.trans k5⟩
            | false =>
              go_wp2_with fail
              go_roundg (ts.length - (k + 1))
              case rel => exact ⟨k + 1, rfl, by omega, by go_num, hkr.trans k5⟩
              case measure => omega
          · obtain rfl : k = ts.length := by omega
            go_wp2_with fail
            go_ret
            exact ⟨⟨_, rfl⟩, hkr⟩
end Go.Proofs.YtfohljljoalmoaaDoor
