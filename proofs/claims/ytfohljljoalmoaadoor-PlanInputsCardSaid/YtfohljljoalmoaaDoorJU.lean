/- The document's one, of an instruction. -/
import Derived.Test.YtfohljljoalmoaaDoorJF
import Derived.Test.YtfohljljoalmoaaDoorTN
namespace Go.Proofs.YtfohljljoalmoaaDoor
open Go.RowKit
set_option maxRecDepth 100000
set_option linter.unusedSimpArgs false
set_option linter.unusedVariables false

theorem one_lit {x : InsE} {many : Int} {op : Nat} (h : x.op = op) (h1 : 1 ≤ op) (h2 : op ≤ 11) : oneB x many = (fldOk x many 0 ((fldL op).getD 0 0) && fldOk x many 1 ((fldL op).getD 1 0) && fldOk x many 2 ((fldL op).getD 2 0) && fldOk x many 3 ((fldL op).getD 3 0) && fldOk x many 4 ((fldL op).getD 4 0)) := by
  unfold oneB
  rw [h, decide_eq_true h1, decide_eq_true h2]
  simp only [allTo, oneOk, h, Bool.true_and]
theorem fldOk_p (x : InsE) (many : Int) (k : Nat) : fldOk x many k 112 = pathB (x.t k) := rfl
theorem fldOk_w (x : InsE) (many : Int) (k : Nat) : fldOk x many k 119 = decide ((x.t k).size ≤ 40) := rfl
theorem fldOk_W (x : InsE) (many : Int) (k : Nat) : fldOk x many k 87 = (decide ((x.t k).size ≤ 40) && !(x.t k).toList.isEmpty) := rfl
theorem fldOk_n (x : InsE) (many : Int) (k : Nat) : fldOk x many k 110 = (decide (0 ≤ x.u (k - 3)) && decide (x.u (k - 3) ≤ 2000)) := rfl
theorem fldOk_j (x : InsE) (many : Int) (k : Nat) : fldOk x many k 106 = (decide (0 ≤ x.u (k - 3)) && decide (x.u (k - 3) ≤ many)) := rfl
theorem fldOk_s (x : InsE) (many : Int) (k : Nat) (h : k < 3) : fldOk x many k 46 = (x.t k).toList.isEmpty := by show (if k < 3 then _ else _) = _; rw [if_pos h]
theorem fldOk_z (x : InsE) (many : Int) (k : Nat) (h : ¬ k < 3) : fldOk x many k 46 = (x.u (k - 3) == 0) := by show (if k < 3 then _ else _) = _; rw [if_neg h]
theorem end_bool {v : Value} {b c : Bool} (h : v = .bool b) (hb : b = c) : Ending.returned v = Ending.returned (.bool c) := by rw [h, hb]
set_option maxRecDepth 100000 in
set_option maxHeartbeats 8000000 in
theorem rone_ct {w : World} (x : InsE) (hx : x.Fits) (many : Int) :
    Calls Tryd.prog 76 #[.agg (insC x).toArray, .int .i64 many] w fun e w' => e = .returned (.bool (oneB x many)) ∧ Kept (fun _ => False) w w' := by
  obtain ⟨X, hX⟩ : ∃ X, X = x := ⟨_, rfl⟩
  rw [← hX]
  obtain ⟨op, a, b, c, n, m⟩ := x
  have hargs : (insC X).toArray = #[.int .u8 op, .string a, .string b, .string c, .int .i64 n, .int .i64 m] := by rw [hX]; rfl
  rw [hargs]
  clear hargs
  have hXop : X.op = op := by rw [hX]
  have pa := fun w' => (rIsPath_ct a w' hx.a).mono (R' := fun e w2 => e = .returned (.bool (pathB a)) ∧ Kept (fun _ => False) w' w2) (fun e w2 ⟨h1, h2⟩ => ⟨h1, by rw [h2]; exact Kept.refl _ _⟩)
  have pb := fun w' => (rIsPath_ct b w' hx.b).mono (R' := fun e w2 => e = .returned (.bool (pathB b)) ∧ Kept (fun _ => False) w' w2) (fun e w2 ⟨h1, h2⟩ => ⟨h1, by rw [h2]; exact Kept.refl _ _⟩)
  have pc := fun w' => (rIsPath_ct c w' hx.c).mono (R' := fun e w2 => e = .returned (.bool (pathB c)) ∧ Kept (fun _ => False) w' w2) (fun e w2 ⟨h1, h2⟩ => ⟨h1, by rw [h2]; exact Kept.refl _ _⟩)
  go_enter Tryd.func76, Tryd.ntmps76
  go_upto_region 1 with fail
  have k1 : Kept (fun _ => False) w (w.alloc (.cells #[.int .u8 op, .string a, .string b, .string c, .int .i64 n, .int .i64 m] 48)) := (Kept.refl _ w).alloc _
  have hb0 := heap_last w (.cells #[.int .u8 op, .string a, .string b, .string c, .int .i64 n, .int .i64 m] 48)
  generalize w.alloc (.cells #[.int .u8 op, .string a, .string b, .string c, .int .i64 n, .int .i64 m] 48) = W1 at k1 hb0 ⊢
  have hz0 := (Array.getElem?_eq_some_iff.1 hb0).1
  generalize w.heap.size = B at hb0 hz0 ⊢
  have cl : ∀ w', Kept (fun _ => False) W1 w' → ∀ (j : Nat), w'.cell? ⟨B, j, none⟩ = #[Value.int .u8 op, .string a, .string b, .string c, .int .i64 n, .int .i64 m][j]? := fun w' q j => by rw [q.cell (p := ⟨B, j, none⟩) hz0 not_false, cell_of_row _ _ _ _ _ _ hb0]
  have e1 : ∀ w', Kept (fun _ => False) W1 w' → w'.cell? ⟨B, 1, none⟩ = some (.string a) := fun w' q => cl w' q 1
  have e2 : ∀ w', Kept (fun _ => False) W1 w' → w'.cell? ⟨B, 2, none⟩ = some (.string b) := fun w' q => cl w' q 2
  have e3 : ∀ w', Kept (fun _ => False) W1 w' → w'.cell? ⟨B, 3, none⟩ = some (.string c) := fun w' q => cl w' q 3
  have HCL := Lib.hid cl
  have hbW : ∀ w', Kept (fun _ => False) W1 w' → w'.heap[B]? = some (.cells #[.int .u8 op, .string a, .string b, .string c, .int .i64 n, .int .i64 m] 48) := fun w' q => by rw [q.block _ hz0 not_false]; exact hb0
  have HBW := Lib.hid hbW
  clear cl hbW hb0
  refine wp_region_held_drew (S := (Kept (fun _ => False) W1)) (by kernel_rfl) ((Kept.refl _ W1).drew) (fun hHeld => ?_)
  refine held_q (v := ?_) (i := 0) rfl (by kernel_rfl) (by kernel_rfl) (by kernel_rfl) (fun _ _ _ h => h) (by rfl) hHeld ?_ ?_
  rotate_left
  · (intro w' hS'; go_simp <;> (with_reducible rfl))
  simp only [Act.put, List.getElem_toArray, List.getElem_cons_zero, List.getElem_cons_succ, List.setIfInBounds_toArray, List.set_cons_zero, List.set_cons_succ]
  refine held_q (v := ?_) (i := 1) rfl (by kernel_rfl) (by kernel_rfl) (by kernel_rfl) (fun _ _ _ h => h) (by rfl) hHeld ?_ ?_
  rotate_left
  · (intro w' hS'; go_simp <;> (with_reducible rfl))
  simp only [Act.put, List.getElem_toArray, List.getElem_cons_zero, List.getElem_cons_succ, List.setIfInBounds_toArray, List.set_cons_zero, List.set_cons_succ]
  refine held_q (v := ?_) (i := 3) rfl (by kernel_rfl) (by kernel_rfl) (by kernel_rfl) (fun _ _ _ h => h) (by rfl) hHeld ?_ ?_
  rotate_left
  · (intro w' hS'; go_simp <;> (with_reducible rfl))
  simp only [Act.put, List.getElem_toArray, List.getElem_cons_zero, List.getElem_cons_succ, List.setIfInBounds_toArray, List.set_cons_zero, List.set_cons_succ]
  refine held_q (v := ?_) (i := 4) rfl (by kernel_rfl) (by kernel_rfl) (by kernel_rfl) (fun _ _ _ h => h) (by rfl) hHeld ?_ ?_
  rotate_left
  · (intro w' hS'; go_simp <;> (with_reducible rfl))
  simp only [Act.put, List.getElem_toArray, List.getElem_cons_zero, List.getElem_cons_succ, List.setIfInBounds_toArray, List.set_cons_zero, List.set_cons_succ]
  refine held_q (v := ?_) (i := 6) rfl (by kernel_rfl) (by kernel_rfl) (by kernel_rfl) (fun _ _ _ h => h) (by rfl) hHeld ?_ ?_
  rotate_left
  · (intro w' hS'; go_simp <;> (with_reducible rfl))
  simp only [Act.put, List.getElem_toArray, List.getElem_cons_zero, List.getElem_cons_succ, List.setIfInBounds_toArray, List.set_cons_zero, List.set_cons_succ]
  refine held_q (v := ?_) (i := 7) rfl (by kernel_rfl) (by kernel_rfl) (by kernel_rfl) (fun _ _ _ h => h) (by rfl) hHeld ?_ ?_
  rotate_left
  · (intro w' hS'; go_simp <;> (with_reducible rfl))
  simp only [Act.put, List.getElem_toArray, List.getElem_cons_zero, List.getElem_cons_succ, List.setIfInBounds_toArray, List.set_cons_zero, List.set_cons_succ]
  refine held_c (i := 2) (f := 34) (args := #[.string a]) (by kernel_rfl) rfl (by rfl) ?_ (pa _) ?_
  · (go_simp <;> rfl)
  rintro e W2 ⟨rfl, kq⟩
  have hHeld := hHeld.trans kq
  refine ⟨_, rfl, hHeld, ?_⟩
  simp only [Act.put, List.getElem_toArray, List.getElem_cons_zero, List.getElem_cons_succ, List.setIfInBounds_toArray, List.set_cons_zero, List.set_cons_succ]
  refine held_c (i := 5) (f := 34) (args := #[.string b]) (by kernel_rfl) rfl (by rfl) ?_ (pb _) ?_
  · (go_simp <;> rfl)
  rintro e W3 ⟨rfl, kq⟩
  have hHeld := hHeld.trans kq
  refine ⟨_, rfl, hHeld, ?_⟩
  simp only [Act.put, List.getElem_toArray, List.getElem_cons_zero, List.getElem_cons_succ, List.setIfInBounds_toArray, List.set_cons_zero, List.set_cons_succ]
  refine held_c (i := 8) (f := 34) (args := #[.string c]) (by kernel_rfl) rfl (by rfl) ?_ (pc _) ?_
  · (go_simp <;> rfl)
  rintro e W4 ⟨rfl, kq⟩
  have hHeld := hHeld.trans kq
  refine ⟨_, rfl, hHeld, ?_⟩
  simp only [Act.put, List.getElem_toArray, List.getElem_cons_zero, List.getElem_cons_succ, List.setIfInBounds_toArray, List.set_cons_zero, List.set_cons_succ]
  refine held_v (v := ?_) (i := 9) (by kernel_rfl) rfl (by rfl) ?_ hHeld (fun hHeld => ?_)
  rotate_left
  · (go_simp <;> (with_reducible rfl))
  simp only [Act.put, List.getElem_toArray, List.getElem_cons_zero, List.getElem_cons_succ, List.setIfInBounds_toArray, List.set_cons_zero, List.set_cons_succ]
  refine held_v (v := ?_) (i := 10) (by kernel_rfl) rfl (by rfl) ?_ hHeld (fun hHeld => ?_)
  rotate_left
  · (go_simp <;> (with_reducible rfl))
  simp only [Act.put, List.getElem_toArray, List.getElem_cons_zero, List.getElem_cons_succ, List.setIfInBounds_toArray, List.set_cons_zero, List.set_cons_succ]
  refine held_v (v := ?_) (i := 11) (by kernel_rfl) rfl (by rfl) ?_ hHeld (fun hHeld => ?_)
  rotate_left
  · (go_simp <;> (with_reducible rfl))
  simp only [Act.put, List.getElem_toArray, List.getElem_cons_zero, List.getElem_cons_succ, List.setIfInBounds_toArray, List.set_cons_zero, List.set_cons_succ]
  refine wpAnyH_done (by kernel_rfl) ?_ _
  have cl := HCL.out W4 hHeld
  have e0 : W4.cell? ⟨B, 0, none⟩ = some (.int .u8 op) := cl 0
  have e1 : W4.cell? ⟨B, 1, none⟩ = some (.string a) := cl 1
  have e2 : W4.cell? ⟨B, 2, none⟩ = some (.string b) := cl 2
  have e3 : W4.cell? ⟨B, 3, none⟩ = some (.string c) := cl 3
  have e4 : W4.cell? ⟨B, 4, none⟩ = some (.int .i64 n) := cl 4
  have e5 : W4.cell? ⟨B, 5, none⟩ = some (.int .i64 m) := cl 5
  have hbb := HBW.out W4 hHeld
  have K4 := k1.trans hHeld
  clear cl pa pb pc HCL HBW k1 hHeld
  generalize hpa : pathB a = qa
  generalize hpb : pathB b = qb
  generalize hpc : pathB c = qc
  have HP := Lib.hid (And.intro hpa (And.intro hpb hpc))
  clear hpa hpb hpc
  have HX := Lib.hid hX
  clear hX
  by_cases o : op = 1
  · skip
    subst o
    have HO := Lib.hid (one_lit (many := many) hXop (by omega) (by omega))
    clear hXop
    go_wp2_with fail
    all_goals
      go_ret
      refine ⟨end_bool rfl ?_, K4⟩
      obtain ⟨hpa, hpb, hpc⟩ := HP.out
      rw [HO.out, HX.out]
      simp only [fldL, FLDS, List.getD_cons_zero, List.getD_cons_succ, fldOk_p, fldOk_w, fldOk_W, fldOk_n, fldOk_j, fldOk_s _ _ 0 (by omega), fldOk_s _ _ 1 (by omega), fldOk_s _ _ 2 (by omega), fldOk_z _ _ 3 (by omega), fldOk_z _ _ 4 (by omega), InsE.t, InsE.u, hpa, hpb, hpc]
      simp_all <;> first | (intros; omega) | (rw [decide_eq_true (show b.size ≤ 40 by omega), decide_eq_true (show c.size ≤ 40 by omega)]; simp)
  by_cases o : op = 2
  · skip
    subst o
    have HO := Lib.hid (one_lit (many := many) hXop (by omega) (by omega))
    clear hXop
    go_wp2_with fail
    all_goals
      go_ret
      refine ⟨end_bool rfl ?_, K4⟩
      obtain ⟨hpa, hpb, hpc⟩ := HP.out
      rw [HO.out, HX.out]
      simp only [fldL, FLDS, List.getD_cons_zero, List.getD_cons_succ, fldOk_p, fldOk_w, fldOk_W, fldOk_n, fldOk_j, fldOk_s _ _ 0 (by omega), fldOk_s _ _ 1 (by omega), fldOk_s _ _ 2 (by omega), fldOk_z _ _ 3 (by omega), fldOk_z _ _ 4 (by omega), InsE.t, InsE.u, hpa, hpb, hpc]
      simp_all <;> first | (intros; omega) | (rw [decide_eq_true (show b.size ≤ 40 by omega), decide_eq_true (show c.size ≤ 40 by omega)]; simp)
  by_cases o : op = 3
  · skip
    subst o
    have HO := Lib.hid (one_lit (many := many) hXop (by omega) (by omega))
    clear hXop
    go_wp2_with fail
    all_goals
      go_ret
      refine ⟨end_bool rfl ?_, K4⟩
      obtain ⟨hpa, hpb, hpc⟩ := HP.out
      rw [HO.out, HX.out]
      simp only [fldL, FLDS, List.getD_cons_zero, List.getD_cons_succ, fldOk_p, fldOk_w, fldOk_W, fldOk_n, fldOk_j, fldOk_s _ _ 0 (by omega), fldOk_s _ _ 1 (by omega), fldOk_s _ _ 2 (by omega), fldOk_z _ _ 3 (by omega), fldOk_z _ _ 4 (by omega), InsE.t, InsE.u, hpa, hpb, hpc]
      simp_all <;> first | (intros; omega) | (rw [decide_eq_true (show b.size ≤ 40 by omega), decide_eq_true (show c.size ≤ 40 by omega)]; simp)
  by_cases o : op = 4
  · skip
    subst o
    have HO := Lib.hid (one_lit (many := many) hXop (by omega) (by omega))
    clear hXop
    go_wp2_with fail
    all_goals
      go_ret
      refine ⟨end_bool rfl ?_, K4⟩
      obtain ⟨hpa, hpb, hpc⟩ := HP.out
      rw [HO.out, HX.out]
      simp only [fldL, FLDS, List.getD_cons_zero, List.getD_cons_succ, fldOk_p, fldOk_w, fldOk_W, fldOk_n, fldOk_j, fldOk_s _ _ 0 (by omega), fldOk_s _ _ 1 (by omega), fldOk_s _ _ 2 (by omega), fldOk_z _ _ 3 (by omega), fldOk_z _ _ 4 (by omega), InsE.t, InsE.u, hpa, hpb, hpc]
      simp_all <;> first | (intros; omega) | (rw [decide_eq_true (show b.size ≤ 40 by omega), decide_eq_true (show c.size ≤ 40 by omega)]; simp)
  by_cases o : op = 5
  · skip
    subst o
    have HO := Lib.hid (one_lit (many := many) hXop (by omega) (by omega))
    clear hXop
    go_wp2_with fail
    all_goals
      go_ret
      refine ⟨end_bool rfl ?_, K4⟩
      obtain ⟨hpa, hpb, hpc⟩ := HP.out
      rw [HO.out, HX.out]
      simp only [fldL, FLDS, List.getD_cons_zero, List.getD_cons_succ, fldOk_p, fldOk_w, fldOk_W, fldOk_n, fldOk_j, fldOk_s _ _ 0 (by omega), fldOk_s _ _ 1 (by omega), fldOk_s _ _ 2 (by omega), fldOk_z _ _ 3 (by omega), fldOk_z _ _ 4 (by omega), InsE.t, InsE.u, hpa, hpb, hpc]
      simp_all <;> first | (intros; omega) | (rw [decide_eq_true (show b.size ≤ 40 by omega), decide_eq_true (show c.size ≤ 40 by omega)]; simp)
  by_cases o : op = 6
  · skip
    subst o
    have HO := Lib.hid (one_lit (many := many) hXop (by omega) (by omega))
    clear hXop
    go_wp2_with fail
    all_goals
      go_ret
      refine ⟨end_bool rfl ?_, K4⟩
      obtain ⟨hpa, hpb, hpc⟩ := HP.out
      rw [HO.out, HX.out]
      simp only [fldL, FLDS, List.getD_cons_zero, List.getD_cons_succ, fldOk_p, fldOk_w, fldOk_W, fldOk_n, fldOk_j, fldOk_s _ _ 0 (by omega), fldOk_s _ _ 1 (by omega), fldOk_s _ _ 2 (by omega), fldOk_z _ _ 3 (by omega), fldOk_z _ _ 4 (by omega), InsE.t, InsE.u, hpa, hpb, hpc]
      simp_all <;> first | (intros; omega) | (rw [decide_eq_true (show b.size ≤ 40 by omega), decide_eq_true (show c.size ≤ 40 by omega)]; simp)
  by_cases o : op = 7
  · skip
    subst o
    have HO := Lib.hid (one_lit (many := many) hXop (by omega) (by omega))
    clear hXop
    go_wp2_with fail
    all_goals
      go_ret
      refine ⟨end_bool rfl ?_, K4⟩
      obtain ⟨hpa, hpb, hpc⟩ := HP.out
      rw [HO.out, HX.out]
      simp only [fldL, FLDS, List.getD_cons_zero, List.getD_cons_succ, fldOk_p, fldOk_w, fldOk_W, fldOk_n, fldOk_j, fldOk_s _ _ 0 (by omega), fldOk_s _ _ 1 (by omega), fldOk_s _ _ 2 (by omega), fldOk_z _ _ 3 (by omega), fldOk_z _ _ 4 (by omega), InsE.t, InsE.u, hpa, hpb, hpc]
      simp_all <;> first | (intros; omega) | (rw [decide_eq_true (show b.size ≤ 40 by omega), decide_eq_true (show c.size ≤ 40 by omega)]; simp)
  by_cases o : op = 8
  · skip
    subst o
    have HO := Lib.hid (one_lit (many := many) hXop (by omega) (by omega))
    clear hXop
    go_wp2_with fail
    all_goals
      go_ret
      refine ⟨end_bool rfl ?_, K4⟩
      obtain ⟨hpa, hpb, hpc⟩ := HP.out
      rw [HO.out, HX.out]
      simp only [fldL, FLDS, List.getD_cons_zero, List.getD_cons_succ, fldOk_p, fldOk_w, fldOk_W, fldOk_n, fldOk_j, fldOk_s _ _ 0 (by omega), fldOk_s _ _ 1 (by omega), fldOk_s _ _ 2 (by omega), fldOk_z _ _ 3 (by omega), fldOk_z _ _ 4 (by omega), InsE.t, InsE.u, hpa, hpb, hpc]
      simp_all <;> first | (intros; omega) | (rw [decide_eq_true (show b.size ≤ 40 by omega), decide_eq_true (show c.size ≤ 40 by omega)]; simp)
  by_cases o : op = 9
  · skip
    subst o
    have HO := Lib.hid (one_lit (many := many) hXop (by omega) (by omega))
    clear hXop
    go_wp2_with fail
    all_goals
      go_ret
      refine ⟨end_bool rfl ?_, K4⟩
      obtain ⟨hpa, hpb, hpc⟩ := HP.out
      rw [HO.out, HX.out]
      simp only [fldL, FLDS, List.getD_cons_zero, List.getD_cons_succ, fldOk_p, fldOk_w, fldOk_W, fldOk_n, fldOk_j, fldOk_s _ _ 0 (by omega), fldOk_s _ _ 1 (by omega), fldOk_s _ _ 2 (by omega), fldOk_z _ _ 3 (by omega), fldOk_z _ _ 4 (by omega), InsE.t, InsE.u, hpa, hpb, hpc]
      simp_all <;> first | (intros; omega) | (rw [decide_eq_true (show b.size ≤ 40 by omega), decide_eq_true (show c.size ≤ 40 by omega)]; simp)
  by_cases o : op = 10
  · skip
    subst o
    have HO := Lib.hid (one_lit (many := many) hXop (by omega) (by omega))
    clear hXop
    go_wp2_with fail
    all_goals
      go_ret
      refine ⟨end_bool rfl ?_, K4⟩
      obtain ⟨hpa, hpb, hpc⟩ := HP.out
      rw [HO.out, HX.out]
      simp only [fldL, FLDS, List.getD_cons_zero, List.getD_cons_succ, fldOk_p, fldOk_w, fldOk_W, fldOk_n, fldOk_j, fldOk_s _ _ 0 (by omega), fldOk_s _ _ 1 (by omega), fldOk_s _ _ 2 (by omega), fldOk_z _ _ 3 (by omega), fldOk_z _ _ 4 (by omega), InsE.t, InsE.u, hpa, hpb, hpc]
      simp_all <;> first | (intros; omega) | (rw [decide_eq_true (show b.size ≤ 40 by omega), decide_eq_true (show c.size ≤ 40 by omega)]; simp)
  by_cases o : op = 11
  · subst o
    have ld : (Instr.loadAt 48 (.pointer (some ⟨B, 0, none⟩))).run Tryd.prog W4 = .ok (.agg #[.int .u8 (11 : Nat), .string a, .string b, .string c, .int .i64 n, .int .i64 m]) W4 := load_row Tryd.underlying48 rfl hbb (by kernel_rfl)
    have bd : (Instr.build 48 #[(0, .int .u8 11)]).run Tryd.prog W4 = .ok (.agg #[.int .u8 11, .string ⟨#[]⟩, .string ⟨#[]⟩, .string ⟨#[]⟩, .int .i64 0, .int .i64 0]) W4 := by kernel_rfl
    have HO := Lib.hid (one_lit (many := many) hXop (by omega) (by omega))
    clear hXop
    go_wp2_with (first
      | (with_reducible refine wpl_load 48 _ rfl rfl ?_ ld ?_
         · rfl
         simp only [Act.put, List.getElem_toArray, List.getElem_cons_zero, List.getElem_cons_succ, List.setIfInBounds_toArray, List.set_cons_zero, List.set_cons_succ])
      | (with_reducible refine wpl_build 48 _ rfl rfl ?_ bd ?_
         · (go_simp <;> rfl)
         simp only [Act.put, List.getElem_toArray, List.getElem_cons_zero, List.getElem_cons_succ, List.setIfInBounds_toArray, List.set_cons_zero, List.set_cons_succ]))
    all_goals
      go_ret
      refine ⟨end_bool rfl ?_, K4⟩
      obtain ⟨hpa, hpb, hpc⟩ := HP.out
      rw [HO.out, HX.out]
      simp only [fldL, FLDS, List.getD_cons_zero, List.getD_cons_succ, fldOk_p, fldOk_w, fldOk_W, fldOk_n, fldOk_j, fldOk_s _ _ 0 (by omega), fldOk_s _ _ 1 (by omega), fldOk_s _ _ 2 (by omega), fldOk_z _ _ 3 (by omega), fldOk_z _ _ 4 (by omega), InsE.t, InsE.u, hpa, hpb, hpc]
      simp_all <;> first | (intros; omega) | (rw [decide_eq_true (show b.size ≤ 40 by omega), decide_eq_true (show c.size ≤ 40 by omega)]; simp)
  have HF : Hid (oneB X many = false) := by
    unfold Hid oneB
    rw [hXop]
    by_cases h1 : 1 ≤ op
    · rw [decide_eq_false (show ¬ op ≤ 11 by omega)]; simp
    · rw [decide_eq_false h1]; rfl
  have n1 : ((op : Int) == 1) = false := beq_eq_false_iff_ne.2 (by omega)
  have n2 : ((op : Int) == 2) = false := beq_eq_false_iff_ne.2 (by omega)
  have n3 : ((op : Int) == 3) = false := beq_eq_false_iff_ne.2 (by omega)
  have n4 : ((op : Int) == 4) = false := beq_eq_false_iff_ne.2 (by omega)
  have n5 : ((op : Int) == 5) = false := beq_eq_false_iff_ne.2 (by omega)
  have n6 : ((op : Int) == 6) = false := beq_eq_false_iff_ne.2 (by omega)
  have n7 : ((op : Int) == 7) = false := beq_eq_false_iff_ne.2 (by omega)
  have n8 : ((op : Int) == 8) = false := beq_eq_false_iff_ne.2 (by omega)
  have n9 : ((op : Int) == 9) = false := beq_eq_false_iff_ne.2 (by omega)
  have n10 : ((op : Int) == 10) = false := beq_eq_false_iff_ne.2 (by omega)
  have n11 : ((op : Int) == 11) = false := beq_eq_false_iff_ne.2 (by omega)
  go_wp2_with fail
  all_goals
    go_ret
    exact ⟨by rw [HF.out]; rfl, K4⟩
end Go.Proofs.YtfohljljoalmoaaDoor
