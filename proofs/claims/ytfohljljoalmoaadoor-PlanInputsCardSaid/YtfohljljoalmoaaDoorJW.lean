/- The document's May, of a program and of one target. -/
import Derived.Test.YtfohljljoalmoaaDoorJU
import Derived.Test.YtfohljljoalmoaaDoorJV
namespace Go.Proofs.YtfohljljoalmoaaDoor
open Go.RowKit
set_option maxRecDepth 100000
set_option linter.unusedSimpArgs false
set_option linter.unusedVariables false

set_option maxRecDepth 100000 in
set_option maxHeartbeats 2000000 in
theorem rprog_ct {w : World} {v : Value} {p : List InsE} (h : ProgAt w v p) :
    Calls Tryd.prog 56 #[v] w fun e w' => e = .returned (.bool (progB p)) ∧ Kept (fun _ => False) w w' := by
  obtain ⟨a, c, rfl, hc, hm⟩ := h.slc
  simp only [maxLen] at hm
  have hpe := progB_eq p
  by_cases h30 : p.length ≤ 30
  · have i30 : ¬ (30 : Int) < (p.length : Int) := by omega
    have HP : Hid (progB p = p.all fun x => oneB x p.length) := by unfold Hid; rw [hpe, decide_eq_true h30]; rfl
    clear hpe
    go_enter Tryd.func56, Tryd.ntmps56
    go_wp2_with fail
    go_loopg [3] p.length (fun gk i wr => ∃ k : Nat, gk = p.length - k ∧ k ≤ p.length ∧ i = .int .i64 k ∧ Hid ((p.take k).all (fun x => oneB x p.length) = true) ∧ Kept (fun _ => False) w wr)
    case atStart => exact ⟨0, by omega, by omega, rfl, rfl, Kept.refl _ _⟩
    case round =>
      obtain ⟨k, rfl, hk, rfl, HA, hkr⟩ := hrel
      by_cases hlt : k < p.length
      · have hf : p[k]? = some p[k] := List.getElem?_eq_getElem hlt
        have htk : p.take (k + 1) = p.take k ++ [p[k]] := List.take_succ_eq_append_getElem hlt
        generalize p[k] = x at hf htk
        obtain ⟨hx, b, o, rfl, hb, ld⟩ := (h.kept hkr).elem hf
        have mc := rone_ct (w := wr) x hx (p.length : Int)
        have HN : Hid ((p.take (k + 1)).all (fun x => oneB x p.length) = oneB x p.length) := by
          unfold Hid
          rw [htk, List.all_append, HA.out]; simp
        have HY : Hid (oneB x p.length = false → progB p = false) := by
          unfold Hid
          intro hq
          rw [HP.out, List.all_eq_false]
          exact ⟨x, List.mem_of_getElem? hf, by rw [hq]; simp⟩
        clear htk hf
        generalize oneB x p.length = q at HN HY mc
        go_wp2_with (first
          | (with_reducible refine wpl_load 48 _ rfl rfl ?_ ld ?_
             · rfl
             simp only [Act.put, List.getElem_toArray, List.getElem_cons_zero, List.getElem_cons_succ, List.setIfInBounds_toArray, List.set_cons_zero, List.set_cons_succ]))
        refine mc.mono ?_
        rintro e W ⟨rfl, k1⟩
        cases q with
        | false =>
          have HF := Lib.hid (HY.out rfl)
          clear HY HN mc
          go_wp2_with fail
          go_ret
          exact ⟨by rw [HF.out]; rfl, hkr.trans k1⟩
        | true =>
          clear HY mc
          go_wp2_with fail
          go_roundg (p.length - (k + 1))
          case rel => exact ⟨k + 1, rfl, by omega, by go_num, HN.out, hkr.trans k1⟩
          case measure => omega
      · obtain rfl : k = p.length := by omega
        have hin := HA.out
        rw [List.take_length] at hin
        have HX : Hid (progB p = true) := by unfold Hid; rw [HP.out]; exact hin
        clear hin
        go_wp2_with fail
        go_ret
        exact ⟨by rw [HX.out]; rfl, hkr⟩
  · have i30 : (30 : Int) < (p.length : Int) := by omega
    have HP : Hid (progB p = false) := by unfold Hid; rw [hpe, decide_eq_false h30]; rfl
    clear hpe
    go_enter Tryd.func56, Tryd.ntmps56
    go_wp2_with fail
    go_ret
    exact ⟨by rw [HP.out]; rfl, Kept.refl _ _⟩
set_option maxRecDepth 100000 in
theorem rfind1_ct {w : World} {s : ByteArray} {g : Nat} {v1 v2 v3 : Value} (hg : w.heap[g]? = some (.cells #[.string s, v1, v2, v3] 25 (0, 0))) :
    Calls Tryd.prog 55 #[.slice (some ⟨g, 0, none⟩) 1 1, .string s] w fun e w' => e = .returned (.int .i64 0) ∧ Kept (fun _ => False) w w' := by
  have e0 : w.cell? ⟨g, 0, none⟩ = some (.string s) := by rw [cell_of_row _ _ _ _ _ _ hg]; rfl
  have ess : (s.toList == s.toList) = true := by simp
  go_enter Tryd.func55, Tryd.ntmps55
  go_wp2_with fail
  refine wp_loop_rounds 2 ?_
  rw [rounds_succ]
  go_wp2_with fail
  go_ret
  exact ⟨rfl, Kept.refl _ _⟩
set_option maxRecDepth 100000 in
set_option maxHeartbeats 4000000 in
theorem rmay_one_ct {w : World} {x : TgtE} {vd vp : Value} (h : TgtAt w x vd vp) {g : Nat} (hg : w.heap[g]? = some (.cells (tgtC x vd vp) 25 (0, 0))) :
    Calls Tryd.prog 29 #[.slice (some ⟨g, 0, none⟩) 1 1] w fun e w' => e = .returned (.bool (mayT x)) ∧ Kept (fun _ => False) w w' := by
  have hzg := (Array.getElem?_eq_some_iff.1 hg).1
  have ld : (Instr.loadAt 25 (.pointer (some ⟨g, 0, none⟩))).run Tryd.prog w = .ok (.agg (tgtC x vd vp)) w := load_row Tryd.underlying25 rfl hg (by kernel_rfl)
  obtain ⟨a1, c1, hv1, _⟩ := h.deps.slc
  obtain ⟨a2, c2, hv2, _⟩ := h.prog.slc
  subst hv1
  subst hv2
  unfold tgtC at ld
  have zt : ∀ w, (zeroValue 25).run Tryd.prog w = .ok (.agg #[.string ⟨#[]⟩, .slice none 0 0, .int .i64 0, .slice none 0 0]) w := fun w => by kernel_rfl
  have st := store_new (P := Tryd.prog) (ty := 25) (c := #[.string ⟨#[]⟩, .slice none 0 0, .int .i64 0, .slice none 0 0]) (c' := #[.string x.name, .slice a1 x.deps.length c1, .int .i64 x.fuel, .slice a2 x.prog.length c2]) (by kernel_rfl) rfl (by simp [Value.oneCell']) (w := w) (b := w.heap.size) rfl
  go_enter Tryd.func29, Tryd.ntmps29
  go_wp2_with fail
  refine wp_loop_rounds 2 ?_
  rw [rounds_succ]
  go_upto_region 7 with (first
    | (with_reducible refine wpl_load 25 _ rfl rfl ?_ ld ?_
       · rfl
       simp only [Act.put, List.getElem_toArray, List.getElem_cons_zero, List.getElem_cons_succ, List.setIfInBounds_toArray, List.set_cons_zero, List.set_cons_succ])
    | (with_reducible refine wpl_alloc 25 rfl rfl (zt _) ?_
       simp only [World.size_alloc, Act.put, List.getElem_toArray, List.getElem_cons_zero, List.getElem_cons_succ, List.setIfInBounds_toArray, List.set_cons_zero, List.set_cons_succ])
    | (with_reducible refine wpl_store 25 _ _ rfl rfl ?_ ?_ st ?_
       · rfl
       · rfl
       simp only [Act.put, List.getElem_toArray, List.getElem_cons_zero, List.getElem_cons_succ, List.setIfInBounds_toArray, List.set_cons_zero, List.set_cons_succ]))
  have k1 : Kept (fun _ => False) w (w.alloc (.cells #[.string x.name, .slice a1 x.deps.length c1, .int .i64 x.fuel, .slice a2 x.prog.length c2] 25)) := (Kept.refl _ w).alloc _
  have hb0 := heap_last w (.cells #[.string x.name, .slice a1 x.deps.length c1, .int .i64 x.fuel, .slice a2 x.prog.length c2] 25)
  generalize w.alloc (.cells #[.string x.name, .slice a1 x.deps.length c1, .int .i64 x.fuel, .slice a2 x.prog.length c2] 25) = W at k1 hb0 ⊢
  have hz0 := (Array.getElem?_eq_some_iff.1 hb0).1
  clear st ld zt
  generalize w.heap.size = B at hb0 hz0 ⊢
  have hgr : ∀ w', Kept (fun _ => False) w w' → w'.heap[g]? = some (.cells #[.string x.name, .slice a1 x.deps.length c1, .int .i64 x.fuel, .slice a2 x.prog.length c2] 25) := fun w' q => by rw [q.block _ hzg not_false]; exact hg
  have hbW : ∀ w', Kept (fun _ => False) W w' → w'.heap[B]? = some (.cells #[.string x.name, .slice a1 x.deps.length c1, .int .i64 x.fuel, .slice a2 x.prog.length c2] 25) := fun w' q => by rw [q.block _ hz0 not_false]; exact hb0
  have e0 : ∀ w', Kept (fun _ => False) W w' → w'.cell? ⟨B, 0, none⟩ = some (.string x.name) := fun w' q => by rw [cell_of_row _ _ _ _ _ _ (hbW w' q)]; rfl
  have e1 : ∀ w', Kept (fun _ => False) W w' → w'.cell? ⟨B, 1, none⟩ = some (.slice a1 x.deps.length c1) := fun w' q => by rw [cell_of_row _ _ _ _ _ _ (hbW w' q)]; rfl
  have e2 : ∀ w', Kept (fun _ => False) W w' → w'.cell? ⟨B, 2, none⟩ = some (.int .i64 x.fuel) := fun w' q => by rw [cell_of_row _ _ _ _ _ _ (hbW w' q)]; rfl
  have e3 : ∀ w', Kept (fun _ => False) W w' → w'.cell? ⟨B, 3, none⟩ = some (.slice a2 x.prog.length c2) := fun w' q => by rw [cell_of_row _ _ _ _ _ _ (hbW w' q)]; rfl
  have e0w := e0 W (Kept.refl _ _)
  have e1w := e1 W (Kept.refl _ _)
  have hc := rhead_ct (name := x.name) h.name (h.deps.kept k1)
  have pc := fun w' (q : Kept (fun _ => False) W w') => rprog_ct (h.prog.kept (k1.trans q))
  have hmt : mayT x = (headB x.name x.deps && (decide (0 ≤ x.fuel) && decide (x.fuel ≤ 20000) && progB x.prog)) := rfl
  have HM := Lib.hid hmt
  clear hmt hb0 hbW hg
  generalize headB x.name x.deps = hb at hc HM
  generalize progB x.prog = pb at pc HM
  go_wp2_with fail
  refine hc.mono ?_
  rintro e W2 ⟨rfl, k2⟩
  have K2 := k1.trans k2
  clear hc
  cases hb with
  | false =>
    rw [Bool.false_and] at HM
    go_wp2_with fail
    go_ret
    exact ⟨by rw [HM.out]; rfl, K2⟩
  | true =>
    rw [Bool.true_and] at HM
    have e02 := e0 W2 k2
    go_wp2_with fail
    refine (rfind1_ct (hgr _ K2)).mono ?_
    rintro e W3 ⟨rfl, k3⟩
    have K3 := K2.trans k3
    have e23 := e2 W3 (k2.trans k3)
    have e33 := e3 W3 (k2.trans k3)
    generalize x.fuel = fu at HM e23 ⊢
    by_cases h0 : 0 ≤ fu
    · have i0 : ¬ fu < 0 := by omega
      by_cases h2 : fu ≤ 20000
      · have i2 : ¬ 20000 < fu := by omega
        rw [decide_eq_true h0, decide_eq_true h2] at HM
        go_wp2_with fail
        refine (pc W3 (k2.trans k3)).mono ?_
        rintro e W4 ⟨rfl, k4⟩
        cases pb with
        | false =>
          go_wp2_with fail
          go_ret
          exact ⟨by rw [HM.out]; rfl, K3.trans k4⟩
        | true =>
          go_wp2_with fail
          rw [rounds_succ]
          go_wp2_with fail
          go_ret
          exact ⟨by rw [HM.out]; rfl, K3.trans k4⟩
      · have i2 : 20000 < fu := by omega
        rw [decide_eq_false h2, Bool.and_false, Bool.false_and] at HM
        go_wp2_with fail
        go_ret
        exact ⟨by rw [HM.out]; rfl, K3⟩
    · have i0 : fu < 0 := by omega
      rw [decide_eq_false h0, Bool.false_and, Bool.false_and] at HM
      go_wp2_with fail
      go_ret
      exact ⟨by rw [HM.out]; rfl, K3⟩
end Go.Proofs.YtfohljljoalmoaaDoor
