/- vm.step: Slice, Sort (printed by wip/gen_step.py). -/
import Derived.Test.YthachckofghppaaDoorYQ
namespace Go.Proofs.YthachckofghppaaDoor
open Go.RowKit
set_option maxRecDepth 100000
set_option linter.unusedSimpArgs false
set_option linter.unusedVariables false


set_option maxRecDepth 100000 in
set_option maxHeartbeats 8000000 in
theorem step3_ct {w : World} {X : Nat} {F : Int} {s : VmS} (h : RunAt w X F s) {x : InsE} (hx : x.Fits) {many : Int} (hok : oneB x many = true) (hmany : many ≤ 900) (hop : x.op = 3) (hpl : s.pl ≤ 900) (hle : s.us + 1 ≤ F) :
    Calls Tryd.prog 18 #[.pointer (some ⟨X, 0, none⟩), .agg (insC x).toArray] w fun e w' => VOut X F (stepV F x s) e w' ∧ Kept (fun k => k = X) w w' := by
  obtain ⟨op, xa, xb, xc, n, m⟩ := x
  dsimp only at hop
  obtain ⟨fs, pl, us⟩ := s
  dsimp only at hpl
  obtain ⟨o1, o2, hfl⟩ := one_at hok
  have hpl0 : 0 ≤ pl := h.pl0
  have hus0 : 0 ≤ us := h.us0
  have hF1 : F ≤ 20000 := h.F1
  have hS : stepV F ⟨op, xa, xb, xc, n, m⟩ ⟨fs, pl, us⟩ = doV F ⟨op, xa, xb, xc, n, m⟩ ⟨fs, pl + 1, us + 1⟩ := by
    unfold stepV payV
    rw [if_pos hle]
  have pc0 : payV F ⟨fs, pl, us⟩ 1 = .go ⟨fs, pl, us + 1⟩ := by unfold payV; rw [if_pos hle]
  obtain ⟨_, ha, hb, hc, hn, hm2⟩ := hx
  dsimp only at ha hb hc hn hm2
  subst hop
  obtain ⟨vf0, hx0, _⟩ := h.cells
  have hXw := (Array.getElem?_eq_some_iff.1 hx0).1
  clear hx0
  unfold insC
  have k1 : Kept (fun _ => False) w (w.alloc (.cells #[.int .u8 3, .string xa, .string xb, .string xc, .int .i64 n, .int .i64 m] 25)) := (Kept.refl _ w).alloc _
  have hb0 := heap_last w (.cells #[.int .u8 3, .string xa, .string xb, .string xc, .int .i64 n, .int .i64 m] 25)
  go_enter Tryd.func18, Tryd.ntmps18
  go_upto_region 1 with fail
  generalize w.alloc (.cells #[.int .u8 3, .string xa, .string xb, .string xc, .int .i64 n, .int .i64 m] 25) = W1 at k1 hb0 ⊢
  generalize hBe : w.heap.size = B at hb0 ⊢
  have hBX : ¬ B = X := by omega
  have hBl := (Array.getElem?_eq_some_iff.1 hb0).1
  have hr1 := h.kept k1
  have bW : ∀ w', Kept (fun k => k = X) W1 w' → w'.heap[B]? = some (.cells #[.int .u8 3, .string xa, .string xb, .string xc, .int .i64 n, .int .i64 m] 25 (0, 0)) := fun w' z => by rw [z.block _ hBl hBX]; exact hb0
  have pc := pay_ct hr1 (n := 1) (by omega) (by omega)
  rw [pc0] at pc
  clear hb0 pc0
  go_wp2_with fail
  refine pc.mono ?_
  rintro e W2 ⟨⟨rfl, hr2⟩, k2⟩
  clear pc
  obtain ⟨vf, hx2, _⟩ := hr2.cells
  have cX1 : W2.cell? ⟨X, 1, none⟩ = some (.int .i64 pl) := by rw [cell_of_row _ _ _ _ _ _ hx2]; rfl
  have fX1 : W2.frozen? ⟨X, 1, none⟩ = false := by simp [World.frozen?, hx2]
  go_upto_region 3 with fail
  have hr3 := hr2.setP (u := pl + 1) (by omega) (by omega)
  have k3 := k2.setX (X := X) (S := fun k => k = X) rfl 1 (.int .i64 (pl + 1))
  clear hx2 cX1 fX1 hr2 k2
  generalize W2.setCell ⟨X, 1, none⟩ (.int .i64 (pl + 1)) = W3 at hr3 k3 ⊢
  dsimp only at hr3
  have kw3 := k1.x.trans k3
  have bC : ∀ w', Kept (fun k => k = X) W3 w' → w'.heap[B]? = some (.cells #[.int .u8 3, .string xa, .string xb, .string xc, .int .i64 n, .int .i64 m] 25 (0, 0)) := fun w' z => bW w' (k3.trans z)
  have cA : ∀ w', Kept (fun k => k = X) W3 w' → w'.cell? ⟨B, 1, none⟩ = some (.string xa) := fun w' z => by rw [cell_of_row _ _ _ _ _ _ (bC w' z)]; rfl
  have cB : ∀ w', Kept (fun k => k = X) W3 w' → w'.cell? ⟨B, 2, none⟩ = some (.string xb) := fun w' z => by rw [cell_of_row _ _ _ _ _ _ (bC w' z)]; rfl
  have cC : ∀ w', Kept (fun k => k = X) W3 w' → w'.cell? ⟨B, 3, none⟩ = some (.string xc) := fun w' z => by rw [cell_of_row _ _ _ _ _ _ (bC w' z)]; rfl
  have cN : ∀ w', Kept (fun k => k = X) W3 w' → w'.cell? ⟨B, 4, none⟩ = some (.int .i64 n) := fun w' z => by rw [cell_of_row _ _ _ _ _ _ (bC w' z)]; rfl
  have cM : ∀ w', Kept (fun k => k = X) W3 w' → w'.cell? ⟨B, 5, none⟩ = some (.int .i64 m) := fun w' z => by rw [cell_of_row _ _ _ _ _ _ (bC w' z)]; rfl
  have cO : W3.cell? ⟨B, 0, none⟩ = some (.int .u8 3) := by rw [cell_of_row _ _ _ _ _ _ (bC W3 (Kept.refl _ _))]; rfl
  have HD := Lib.hid (hS.trans (show doV F ⟨3, xa, xb, xc, n, m⟩ ⟨fs, pl + 1, us + 1⟩ = getPut F ⟨fs, pl + 1, us + 1⟩ xa xb fun b => partL b n.toNat m.toNat from rfl))
  have hrd := hr3.kept (Kept.drew (Kept.refl (fun _ => False) W3))
  clear bW bC hS hok
  have f3 := hfl 3 (by omega)
  have f4 := hfl 4 (by omega)
  simp only [fldOk, fldL, FLDS, InsE.u, List.getD] at f3 f4
  simp at f3 f4
  obtain ⟨n2, rfl⟩ := Int.eq_ofNat_of_zero_le f3.1
  obtain ⟨m2, rfl⟩ := Int.eq_ofNat_of_zero_le f4.1
  have hn2 : n2 ≤ 1000000 := by omega
  have hm3 : m2 ≤ 1000000 := by omega
  clear hfl f3 f4
  go_wp2_with fail
  cases hg : getV ⟨fs, pl + 1, us + 1⟩ xa with
  | none =>
    have HD : Hid (stepV F ⟨3, xa, xb, xc, n2, m2⟩ ⟨fs, pl, us⟩ = .stop 70 (us + 1)) := by unfold Hid; rw [HD.out]; unfold getPut; rw [hg]
    refine wp_region_held_drew (S := (Kept (fun k => k = X) W3)) (by kernel_rfl) ((Kept.refl (fun k => k = X) W3).drew) (fun hHeld => ?_)
    refine held_q (v := ?_) (i := 0) rfl (by kernel_rfl) (by kernel_rfl) (by kernel_rfl) (fun _ _ _ h => h) (by rfl) hHeld ?_ ?_
    rotate_left
    · (intro w' hS'; go_simp <;> (with_reducible rfl))
    simp only [Act.put, List.getElem_toArray, List.getElem_cons_zero, List.getElem_cons_succ, List.setIfInBounds_toArray, List.set_cons_zero, List.set_cons_succ]
    refine held_q (v := ?_) (i := 1) rfl (by kernel_rfl) (by kernel_rfl) (by kernel_rfl) (fun _ _ _ h => h) (by rfl) hHeld ?_ ?_
    rotate_left
    · (intro w' hS'; go_simp <;> (with_reducible rfl))
    simp only [Act.put, List.getElem_toArray, List.getElem_cons_zero, List.getElem_cons_succ, List.setIfInBounds_toArray, List.set_cons_zero, List.set_cons_succ]
    refine held_q (v := ?_) (i := 2) rfl (by kernel_rfl) (by kernel_rfl) (by kernel_rfl) (fun _ _ _ h => h) (by rfl) hHeld ?_ ?_
    rotate_left
    · (intro w' hS'; go_simp <;> (with_reducible rfl))
    simp only [Act.put, List.getElem_toArray, List.getElem_cons_zero, List.getElem_cons_succ, List.setIfInBounds_toArray, List.set_cons_zero, List.set_cons_succ]
    refine held_q (v := ?_) (i := 3) rfl (by kernel_rfl) (by kernel_rfl) (by kernel_rfl) (fun _ _ _ h => h) (by rfl) hHeld ?_ ?_
    rotate_left
    · (intro w' hS'; go_simp <;> (with_reducible rfl))
    simp only [Act.put, List.getElem_toArray, List.getElem_cons_zero, List.getElem_cons_succ, List.setIfInBounds_toArray, List.set_cons_zero, List.set_cons_succ]
    refine held_q (v := ?_) (i := 4) rfl (by kernel_rfl) (by kernel_rfl) (by kernel_rfl) (fun _ _ _ h => h) (by rfl) hHeld ?_ ?_
    rotate_left
    · (intro w' hS'; go_simp <;> (with_reducible rfl))
    simp only [Act.put, List.getElem_toArray, List.getElem_cons_zero, List.getElem_cons_succ, List.setIfInBounds_toArray, List.set_cons_zero, List.set_cons_succ]
    refine held_q (v := ?_) (i := 5) rfl (by kernel_rfl) (by kernel_rfl) (by kernel_rfl) (fun _ _ _ h => h) (by rfl) hHeld ?_ ?_
    rotate_left
    · (intro w' hS'; go_simp <;> (with_reducible rfl))
    simp only [Act.put, List.getElem_toArray, List.getElem_cons_zero, List.getElem_cons_succ, List.setIfInBounds_toArray, List.set_cons_zero, List.set_cons_succ]
    refine held_q (v := ?_) (i := 7) rfl (by kernel_rfl) (by kernel_rfl) (by kernel_rfl) (fun _ _ _ h => h) (by rfl) hHeld ?_ ?_
    rotate_left
    · (intro w' hS'; go_simp <;> (with_reducible rfl))
    simp only [Act.put, List.getElem_toArray, List.getElem_cons_zero, List.getElem_cons_succ, List.setIfInBounds_toArray, List.set_cons_zero, List.set_cons_succ]
    refine held_q (v := ?_) (i := 8) rfl (by kernel_rfl) (by kernel_rfl) (by kernel_rfl) (fun _ _ _ h => h) (by rfl) hHeld ?_ ?_
    rotate_left
    · (intro w' hS'; go_simp <;> (with_reducible rfl))
    simp only [Act.put, List.getElem_toArray, List.getElem_cons_zero, List.getElem_cons_succ, List.setIfInBounds_toArray, List.set_cons_zero, List.set_cons_succ]
    refine held_q (v := ?_) (i := 9) rfl (by kernel_rfl) (by kernel_rfl) (by kernel_rfl) (fun _ _ _ h => h) (by rfl) hHeld ?_ ?_
    rotate_left
    · (intro w' hS'; go_simp <;> (with_reducible rfl))
    simp only [Act.put, List.getElem_toArray, List.getElem_cons_zero, List.getElem_cons_succ, List.setIfInBounds_toArray, List.set_cons_zero, List.set_cons_succ]
    refine held_q (v := ?_) (i := 10) rfl (by kernel_rfl) (by kernel_rfl) (by kernel_rfl) (fun _ _ _ h => h) (by rfl) hHeld ?_ ?_
    rotate_left
    · (intro w' hS'; go_simp <;> (with_reducible rfl))
    simp only [Act.put, List.getElem_toArray, List.getElem_cons_zero, List.getElem_cons_succ, List.setIfInBounds_toArray, List.set_cons_zero, List.set_cons_succ]
    refine held_cp (i := 6) (f := 24) (args := #[.pointer (some ⟨X, 0, none⟩), .string xa]) (by kernel_rfl) rfl (by rfl) ?_ (vget_no hrd hg) ?_
    · (go_simp <;> rfl)
    rintro e w' ⟨rfl, hr4, k4⟩
    refine .inr ⟨_, rfl, ?_⟩
    go_wp2_with fail
    exact ⟨rfl, VOut.bad HD.out ⟨_, hr4, rfl⟩, kw3.trans (hHeld.trans k4.x)⟩
  | some b =>
    have HD : Hid (stepV F ⟨3, xa, xb, xc, n2, m2⟩ ⟨fs, pl, us⟩ = putV F ⟨fs, pl + 1, us + 1⟩ xb (partL b n2 m2)) := by unfold Hid; rw [HD.out]; unfold getPut; rw [hg]; rfl
    have hbl := getV_len hr3 hg
    have hbl2 : (partL b n2 m2).length ≤ 100000 := Nat.le_trans (partL_len b n2 m2) hbl
    cases hR : putV F ⟨fs, pl + 1, us + 1⟩ xb (partL b n2 m2) with
    | stop c2 u2 =>
      rw [hR] at HD
      refine wp_region_held_drew (S := (Kept (fun k => k = X) W3)) (by kernel_rfl) ((Kept.refl (fun k => k = X) W3).drew) (fun hHeld => ?_)
      refine held_q (v := ?_) (i := 0) rfl (by kernel_rfl) (by kernel_rfl) (by kernel_rfl) (fun _ _ _ h => h) (by rfl) hHeld ?_ ?_
      rotate_left
      · (intro w' hS'; go_simp <;> (with_reducible rfl))
      simp only [Act.put, List.getElem_toArray, List.getElem_cons_zero, List.getElem_cons_succ, List.setIfInBounds_toArray, List.set_cons_zero, List.set_cons_succ]
      refine held_q (v := ?_) (i := 1) rfl (by kernel_rfl) (by kernel_rfl) (by kernel_rfl) (fun _ _ _ h => h) (by rfl) hHeld ?_ ?_
      rotate_left
      · (intro w' hS'; go_simp <;> (with_reducible rfl))
      simp only [Act.put, List.getElem_toArray, List.getElem_cons_zero, List.getElem_cons_succ, List.setIfInBounds_toArray, List.set_cons_zero, List.set_cons_succ]
      refine held_q (v := ?_) (i := 2) rfl (by kernel_rfl) (by kernel_rfl) (by kernel_rfl) (fun _ _ _ h => h) (by rfl) hHeld ?_ ?_
      rotate_left
      · (intro w' hS'; go_simp <;> (with_reducible rfl))
      simp only [Act.put, List.getElem_toArray, List.getElem_cons_zero, List.getElem_cons_succ, List.setIfInBounds_toArray, List.set_cons_zero, List.set_cons_succ]
      refine held_q (v := ?_) (i := 3) rfl (by kernel_rfl) (by kernel_rfl) (by kernel_rfl) (fun _ _ _ h => h) (by rfl) hHeld ?_ ?_
      rotate_left
      · (intro w' hS'; go_simp <;> (with_reducible rfl))
      simp only [Act.put, List.getElem_toArray, List.getElem_cons_zero, List.getElem_cons_succ, List.setIfInBounds_toArray, List.set_cons_zero, List.set_cons_succ]
      refine held_q (v := ?_) (i := 4) rfl (by kernel_rfl) (by kernel_rfl) (by kernel_rfl) (fun _ _ _ h => h) (by rfl) hHeld ?_ ?_
      rotate_left
      · (intro w' hS'; go_simp <;> (with_reducible rfl))
      simp only [Act.put, List.getElem_toArray, List.getElem_cons_zero, List.getElem_cons_succ, List.setIfInBounds_toArray, List.set_cons_zero, List.set_cons_succ]
      refine held_q (v := ?_) (i := 5) rfl (by kernel_rfl) (by kernel_rfl) (by kernel_rfl) (fun _ _ _ h => h) (by rfl) hHeld ?_ ?_
      rotate_left
      · (intro w' hS'; go_simp <;> (with_reducible rfl))
      simp only [Act.put, List.getElem_toArray, List.getElem_cons_zero, List.getElem_cons_succ, List.setIfInBounds_toArray, List.set_cons_zero, List.set_cons_succ]
      refine held_q (v := ?_) (i := 7) rfl (by kernel_rfl) (by kernel_rfl) (by kernel_rfl) (fun _ _ _ h => h) (by rfl) hHeld ?_ ?_
      rotate_left
      · (intro w' hS'; go_simp <;> (with_reducible rfl))
      simp only [Act.put, List.getElem_toArray, List.getElem_cons_zero, List.getElem_cons_succ, List.setIfInBounds_toArray, List.set_cons_zero, List.set_cons_succ]
      refine held_q (v := ?_) (i := 8) rfl (by kernel_rfl) (by kernel_rfl) (by kernel_rfl) (fun _ _ _ h => h) (by rfl) hHeld ?_ ?_
      rotate_left
      · (intro w' hS'; go_simp <;> (with_reducible rfl))
      simp only [Act.put, List.getElem_toArray, List.getElem_cons_zero, List.getElem_cons_succ, List.setIfInBounds_toArray, List.set_cons_zero, List.set_cons_succ]
      refine held_q (v := ?_) (i := 9) rfl (by kernel_rfl) (by kernel_rfl) (by kernel_rfl) (fun _ _ _ h => h) (by rfl) hHeld ?_ ?_
      rotate_left
      · (intro w' hS'; go_simp <;> (with_reducible rfl))
      simp only [Act.put, List.getElem_toArray, List.getElem_cons_zero, List.getElem_cons_succ, List.setIfInBounds_toArray, List.set_cons_zero, List.set_cons_succ]
      refine held_q (v := ?_) (i := 10) rfl (by kernel_rfl) (by kernel_rfl) (by kernel_rfl) (fun _ _ _ h => h) (by rfl) hHeld ?_ ?_
      rotate_left
      · (intro w' hS'; go_simp <;> (with_reducible rfl))
      simp only [Act.put, List.getElem_toArray, List.getElem_cons_zero, List.getElem_cons_succ, List.setIfInBounds_toArray, List.set_cons_zero, List.set_cons_succ]
      refine held_c (i := 6) (f := 24) (args := #[.pointer (some ⟨X, 0, none⟩), .string xa]) (by kernel_rfl) rfl (by rfl) ?_ (vget_yes hrd hg) ?_
      · (go_simp <;> rfl)
      rintro e W4 ⟨v4, rfl, hb4, hr4, k4⟩
      have hHeld := hHeld.trans k4.x
      refine ⟨_, rfl, hHeld, ?_⟩
      simp only [Act.put, List.getElem_toArray, List.getElem_cons_zero, List.getElem_cons_succ, List.setIfInBounds_toArray, List.set_cons_zero, List.set_cons_succ]
      refine held_c (i := 11) (f := 26) (args := #[v4, .int .i64 n2, .int .i64 m2]) (by kernel_rfl) rfl (by rfl) ?_ (part_ct hb4 n2 m2 hn2 hm3) ?_
      · (go_simp <;> rfl)
      rintro e W5 ⟨v5, rfl, hb5, rfl⟩
      have hHeld := hHeld
      refine ⟨_, rfl, hHeld, ?_⟩
      simp only [Act.put, List.getElem_toArray, List.getElem_cons_zero, List.getElem_cons_succ, List.setIfInBounds_toArray, List.set_cons_zero, List.set_cons_succ]
      refine held_cp (i := 12) (f := 23) (args := #[.pointer (some ⟨X, 0, none⟩), .string xb, v5]) (by kernel_rfl) rfl (by rfl) ?_ (put_stop hr4 hb hb5.a hbl2 hR) ?_
      · (go_simp <;> rfl)
      rintro e w' ⟨rfl, hr9, k9⟩
      refine .inr ⟨_, rfl, ?_⟩
      go_wp2_with fail
      exact ⟨rfl, VOut.bad HD.out hr9, kw3.trans (hHeld.trans k9)⟩
    | go s5 =>
      rw [hR] at HD
      refine wp_region_held_drew (S := (Kept (fun k => k = X) W3)) (by kernel_rfl) ((Kept.refl (fun k => k = X) W3).drew) (fun hHeld => ?_)
      refine held_q (v := ?_) (i := 0) rfl (by kernel_rfl) (by kernel_rfl) (by kernel_rfl) (fun _ _ _ h => h) (by rfl) hHeld ?_ ?_
      rotate_left
      · (intro w' hS'; go_simp <;> (with_reducible rfl))
      simp only [Act.put, List.getElem_toArray, List.getElem_cons_zero, List.getElem_cons_succ, List.setIfInBounds_toArray, List.set_cons_zero, List.set_cons_succ]
      refine held_q (v := ?_) (i := 1) rfl (by kernel_rfl) (by kernel_rfl) (by kernel_rfl) (fun _ _ _ h => h) (by rfl) hHeld ?_ ?_
      rotate_left
      · (intro w' hS'; go_simp <;> (with_reducible rfl))
      simp only [Act.put, List.getElem_toArray, List.getElem_cons_zero, List.getElem_cons_succ, List.setIfInBounds_toArray, List.set_cons_zero, List.set_cons_succ]
      refine held_q (v := ?_) (i := 2) rfl (by kernel_rfl) (by kernel_rfl) (by kernel_rfl) (fun _ _ _ h => h) (by rfl) hHeld ?_ ?_
      rotate_left
      · (intro w' hS'; go_simp <;> (with_reducible rfl))
      simp only [Act.put, List.getElem_toArray, List.getElem_cons_zero, List.getElem_cons_succ, List.setIfInBounds_toArray, List.set_cons_zero, List.set_cons_succ]
      refine held_q (v := ?_) (i := 3) rfl (by kernel_rfl) (by kernel_rfl) (by kernel_rfl) (fun _ _ _ h => h) (by rfl) hHeld ?_ ?_
      rotate_left
      · (intro w' hS'; go_simp <;> (with_reducible rfl))
      simp only [Act.put, List.getElem_toArray, List.getElem_cons_zero, List.getElem_cons_succ, List.setIfInBounds_toArray, List.set_cons_zero, List.set_cons_succ]
      refine held_q (v := ?_) (i := 4) rfl (by kernel_rfl) (by kernel_rfl) (by kernel_rfl) (fun _ _ _ h => h) (by rfl) hHeld ?_ ?_
      rotate_left
      · (intro w' hS'; go_simp <;> (with_reducible rfl))
      simp only [Act.put, List.getElem_toArray, List.getElem_cons_zero, List.getElem_cons_succ, List.setIfInBounds_toArray, List.set_cons_zero, List.set_cons_succ]
      refine held_q (v := ?_) (i := 5) rfl (by kernel_rfl) (by kernel_rfl) (by kernel_rfl) (fun _ _ _ h => h) (by rfl) hHeld ?_ ?_
      rotate_left
      · (intro w' hS'; go_simp <;> (with_reducible rfl))
      simp only [Act.put, List.getElem_toArray, List.getElem_cons_zero, List.getElem_cons_succ, List.setIfInBounds_toArray, List.set_cons_zero, List.set_cons_succ]
      refine held_q (v := ?_) (i := 7) rfl (by kernel_rfl) (by kernel_rfl) (by kernel_rfl) (fun _ _ _ h => h) (by rfl) hHeld ?_ ?_
      rotate_left
      · (intro w' hS'; go_simp <;> (with_reducible rfl))
      simp only [Act.put, List.getElem_toArray, List.getElem_cons_zero, List.getElem_cons_succ, List.setIfInBounds_toArray, List.set_cons_zero, List.set_cons_succ]
      refine held_q (v := ?_) (i := 8) rfl (by kernel_rfl) (by kernel_rfl) (by kernel_rfl) (fun _ _ _ h => h) (by rfl) hHeld ?_ ?_
      rotate_left
      · (intro w' hS'; go_simp <;> (with_reducible rfl))
      simp only [Act.put, List.getElem_toArray, List.getElem_cons_zero, List.getElem_cons_succ, List.setIfInBounds_toArray, List.set_cons_zero, List.set_cons_succ]
      refine held_q (v := ?_) (i := 9) rfl (by kernel_rfl) (by kernel_rfl) (by kernel_rfl) (fun _ _ _ h => h) (by rfl) hHeld ?_ ?_
      rotate_left
      · (intro w' hS'; go_simp <;> (with_reducible rfl))
      simp only [Act.put, List.getElem_toArray, List.getElem_cons_zero, List.getElem_cons_succ, List.setIfInBounds_toArray, List.set_cons_zero, List.set_cons_succ]
      refine held_q (v := ?_) (i := 10) rfl (by kernel_rfl) (by kernel_rfl) (by kernel_rfl) (fun _ _ _ h => h) (by rfl) hHeld ?_ ?_
      rotate_left
      · (intro w' hS'; go_simp <;> (with_reducible rfl))
      simp only [Act.put, List.getElem_toArray, List.getElem_cons_zero, List.getElem_cons_succ, List.setIfInBounds_toArray, List.set_cons_zero, List.set_cons_succ]
      refine held_c (i := 6) (f := 24) (args := #[.pointer (some ⟨X, 0, none⟩), .string xa]) (by kernel_rfl) rfl (by rfl) ?_ (vget_yes hrd hg) ?_
      · (go_simp <;> rfl)
      rintro e W4 ⟨v4, rfl, hb4, hr4, k4⟩
      have hHeld := hHeld.trans k4.x
      refine ⟨_, rfl, hHeld, ?_⟩
      simp only [Act.put, List.getElem_toArray, List.getElem_cons_zero, List.getElem_cons_succ, List.setIfInBounds_toArray, List.set_cons_zero, List.set_cons_succ]
      refine held_c (i := 11) (f := 26) (args := #[v4, .int .i64 n2, .int .i64 m2]) (by kernel_rfl) rfl (by rfl) ?_ (part_ct hb4 n2 m2 hn2 hm3) ?_
      · (go_simp <;> rfl)
      rintro e W5 ⟨v5, rfl, hb5, rfl⟩
      have hHeld := hHeld
      refine ⟨_, rfl, hHeld, ?_⟩
      simp only [Act.put, List.getElem_toArray, List.getElem_cons_zero, List.getElem_cons_succ, List.setIfInBounds_toArray, List.set_cons_zero, List.set_cons_succ]
      refine held_c (i := 12) (f := 23) (args := #[.pointer (some ⟨X, 0, none⟩), .string xb, v5]) (by kernel_rfl) rfl (by rfl) ?_ (put_go hr4 hb hb5.a hbl2 hR) ?_
      · (go_simp <;> rfl)
      rintro e W9 ⟨rfl, hr9, k9⟩
      have hHeld := hHeld.trans k9
      refine ⟨_, rfl, hHeld, ?_⟩
      simp only [Act.put, List.getElem_toArray, List.getElem_cons_zero, List.getElem_cons_succ, List.setIfInBounds_toArray, List.set_cons_zero, List.set_cons_succ]
      refine wpAnyH_done (by kernel_rfl) ?_ _
      go_wp2_with fail
      go_end0
      exact ⟨VOut.good HD.out hr9, kw3.trans hHeld⟩
set_option maxRecDepth 100000 in
set_option maxHeartbeats 8000000 in
theorem step5_ct {w : World} {X : Nat} {F : Int} {s : VmS} (h : RunAt w X F s) {x : InsE} (hx : x.Fits) {many : Int} (hok : oneB x many = true) (hmany : many ≤ 900) (hop : x.op = 5) (hpl : s.pl ≤ 900) (hle : s.us + 1 ≤ F) :
    Calls Tryd.prog 18 #[.pointer (some ⟨X, 0, none⟩), .agg (insC x).toArray] w fun e w' => VOut X F (stepV F x s) e w' ∧ Kept (fun k => k = X) w w' := by
  obtain ⟨op, xa, xb, xc, n, m⟩ := x
  dsimp only at hop
  obtain ⟨fs, pl, us⟩ := s
  dsimp only at hpl
  obtain ⟨o1, o2, hfl⟩ := one_at hok
  have hpl0 : 0 ≤ pl := h.pl0
  have hus0 : 0 ≤ us := h.us0
  have hF1 : F ≤ 20000 := h.F1
  have hS : stepV F ⟨op, xa, xb, xc, n, m⟩ ⟨fs, pl, us⟩ = doV F ⟨op, xa, xb, xc, n, m⟩ ⟨fs, pl + 1, us + 1⟩ := by
    unfold stepV payV
    rw [if_pos hle]
  have pc0 : payV F ⟨fs, pl, us⟩ 1 = .go ⟨fs, pl, us + 1⟩ := by unfold payV; rw [if_pos hle]
  obtain ⟨_, ha, hb, hc, hn, hm2⟩ := hx
  dsimp only at ha hb hc hn hm2
  subst hop
  obtain ⟨vf0, hx0, _⟩ := h.cells
  have hXw := (Array.getElem?_eq_some_iff.1 hx0).1
  clear hx0
  unfold insC
  have k1 : Kept (fun _ => False) w (w.alloc (.cells #[.int .u8 5, .string xa, .string xb, .string xc, .int .i64 n, .int .i64 m] 25)) := (Kept.refl _ w).alloc _
  have hb0 := heap_last w (.cells #[.int .u8 5, .string xa, .string xb, .string xc, .int .i64 n, .int .i64 m] 25)
  go_enter Tryd.func18, Tryd.ntmps18
  go_upto_region 1 with fail
  generalize w.alloc (.cells #[.int .u8 5, .string xa, .string xb, .string xc, .int .i64 n, .int .i64 m] 25) = W1 at k1 hb0 ⊢
  generalize hBe : w.heap.size = B at hb0 ⊢
  have hBX : ¬ B = X := by omega
  have hBl := (Array.getElem?_eq_some_iff.1 hb0).1
  have hr1 := h.kept k1
  have bW : ∀ w', Kept (fun k => k = X) W1 w' → w'.heap[B]? = some (.cells #[.int .u8 5, .string xa, .string xb, .string xc, .int .i64 n, .int .i64 m] 25 (0, 0)) := fun w' z => by rw [z.block _ hBl hBX]; exact hb0
  have pc := pay_ct hr1 (n := 1) (by omega) (by omega)
  rw [pc0] at pc
  clear hb0 pc0
  go_wp2_with fail
  refine pc.mono ?_
  rintro e W2 ⟨⟨rfl, hr2⟩, k2⟩
  clear pc
  obtain ⟨vf, hx2, _⟩ := hr2.cells
  have cX1 : W2.cell? ⟨X, 1, none⟩ = some (.int .i64 pl) := by rw [cell_of_row _ _ _ _ _ _ hx2]; rfl
  have fX1 : W2.frozen? ⟨X, 1, none⟩ = false := by simp [World.frozen?, hx2]
  go_upto_region 3 with fail
  have hr3 := hr2.setP (u := pl + 1) (by omega) (by omega)
  have k3 := k2.setX (X := X) (S := fun k => k = X) rfl 1 (.int .i64 (pl + 1))
  clear hx2 cX1 fX1 hr2 k2
  generalize W2.setCell ⟨X, 1, none⟩ (.int .i64 (pl + 1)) = W3 at hr3 k3 ⊢
  dsimp only at hr3
  have kw3 := k1.x.trans k3
  have bC : ∀ w', Kept (fun k => k = X) W3 w' → w'.heap[B]? = some (.cells #[.int .u8 5, .string xa, .string xb, .string xc, .int .i64 n, .int .i64 m] 25 (0, 0)) := fun w' z => bW w' (k3.trans z)
  have cA : ∀ w', Kept (fun k => k = X) W3 w' → w'.cell? ⟨B, 1, none⟩ = some (.string xa) := fun w' z => by rw [cell_of_row _ _ _ _ _ _ (bC w' z)]; rfl
  have cB : ∀ w', Kept (fun k => k = X) W3 w' → w'.cell? ⟨B, 2, none⟩ = some (.string xb) := fun w' z => by rw [cell_of_row _ _ _ _ _ _ (bC w' z)]; rfl
  have cC : ∀ w', Kept (fun k => k = X) W3 w' → w'.cell? ⟨B, 3, none⟩ = some (.string xc) := fun w' z => by rw [cell_of_row _ _ _ _ _ _ (bC w' z)]; rfl
  have cN : ∀ w', Kept (fun k => k = X) W3 w' → w'.cell? ⟨B, 4, none⟩ = some (.int .i64 n) := fun w' z => by rw [cell_of_row _ _ _ _ _ _ (bC w' z)]; rfl
  have cM : ∀ w', Kept (fun k => k = X) W3 w' → w'.cell? ⟨B, 5, none⟩ = some (.int .i64 m) := fun w' z => by rw [cell_of_row _ _ _ _ _ _ (bC w' z)]; rfl
  have cO : W3.cell? ⟨B, 0, none⟩ = some (.int .u8 5) := by rw [cell_of_row _ _ _ _ _ _ (bC W3 (Kept.refl _ _))]; rfl
  have HD := Lib.hid (hS.trans (show doV F ⟨5, xa, xb, xc, n, m⟩ ⟨fs, pl + 1, us + 1⟩ = getPut F ⟨fs, pl + 1, us + 1⟩ xa xa fun b => sortL b from rfl))
  have hrd := hr3.kept (Kept.drew (Kept.refl (fun _ => False) W3))
  clear bW bC hS hok
  go_wp2_with fail
  cases hg : getV ⟨fs, pl + 1, us + 1⟩ xa with
  | none =>
    have HD : Hid (stepV F ⟨5, xa, xb, xc, n, m⟩ ⟨fs, pl, us⟩ = .stop 70 (us + 1)) := by unfold Hid; rw [HD.out]; unfold getPut; rw [hg]
    refine wp_region_held_drew (S := (Kept (fun k => k = X) W3)) (by kernel_rfl) ((Kept.refl (fun k => k = X) W3).drew) (fun hHeld => ?_)
    refine held_q (v := ?_) (i := 0) rfl (by kernel_rfl) (by kernel_rfl) (by kernel_rfl) (fun _ _ _ h => h) (by rfl) hHeld ?_ ?_
    rotate_left
    · (intro w' hS'; go_simp <;> (with_reducible rfl))
    simp only [Act.put, List.getElem_toArray, List.getElem_cons_zero, List.getElem_cons_succ, List.setIfInBounds_toArray, List.set_cons_zero, List.set_cons_succ]
    refine held_q (v := ?_) (i := 1) rfl (by kernel_rfl) (by kernel_rfl) (by kernel_rfl) (fun _ _ _ h => h) (by rfl) hHeld ?_ ?_
    rotate_left
    · (intro w' hS'; go_simp <;> (with_reducible rfl))
    simp only [Act.put, List.getElem_toArray, List.getElem_cons_zero, List.getElem_cons_succ, List.setIfInBounds_toArray, List.set_cons_zero, List.set_cons_succ]
    refine held_q (v := ?_) (i := 2) rfl (by kernel_rfl) (by kernel_rfl) (by kernel_rfl) (fun _ _ _ h => h) (by rfl) hHeld ?_ ?_
    rotate_left
    · (intro w' hS'; go_simp <;> (with_reducible rfl))
    simp only [Act.put, List.getElem_toArray, List.getElem_cons_zero, List.getElem_cons_succ, List.setIfInBounds_toArray, List.set_cons_zero, List.set_cons_succ]
    refine held_q (v := ?_) (i := 3) rfl (by kernel_rfl) (by kernel_rfl) (by kernel_rfl) (fun _ _ _ h => h) (by rfl) hHeld ?_ ?_
    rotate_left
    · (intro w' hS'; go_simp <;> (with_reducible rfl))
    simp only [Act.put, List.getElem_toArray, List.getElem_cons_zero, List.getElem_cons_succ, List.setIfInBounds_toArray, List.set_cons_zero, List.set_cons_succ]
    refine held_q (v := ?_) (i := 4) rfl (by kernel_rfl) (by kernel_rfl) (by kernel_rfl) (fun _ _ _ h => h) (by rfl) hHeld ?_ ?_
    rotate_left
    · (intro w' hS'; go_simp <;> (with_reducible rfl))
    simp only [Act.put, List.getElem_toArray, List.getElem_cons_zero, List.getElem_cons_succ, List.setIfInBounds_toArray, List.set_cons_zero, List.set_cons_succ]
    refine held_q (v := ?_) (i := 5) rfl (by kernel_rfl) (by kernel_rfl) (by kernel_rfl) (fun _ _ _ h => h) (by rfl) hHeld ?_ ?_
    rotate_left
    · (intro w' hS'; go_simp <;> (with_reducible rfl))
    simp only [Act.put, List.getElem_toArray, List.getElem_cons_zero, List.getElem_cons_succ, List.setIfInBounds_toArray, List.set_cons_zero, List.set_cons_succ]
    refine held_cp (i := 6) (f := 24) (args := #[.pointer (some ⟨X, 0, none⟩), .string xa]) (by kernel_rfl) rfl (by rfl) ?_ (vget_no hrd hg) ?_
    · (go_simp <;> rfl)
    rintro e w' ⟨rfl, hr4, k4⟩
    refine .inr ⟨_, rfl, ?_⟩
    go_wp2_with fail
    exact ⟨rfl, VOut.bad HD.out ⟨_, hr4, rfl⟩, kw3.trans (hHeld.trans k4.x)⟩
  | some b =>
    have HD : Hid (stepV F ⟨5, xa, xb, xc, n, m⟩ ⟨fs, pl, us⟩ = putV F ⟨fs, pl + 1, us + 1⟩ xa (sortL b)) := by unfold Hid; rw [HD.out]; unfold getPut; rw [hg]
    have hbl := getV_len hr3 hg
    have hbl2 : (sortL b).length ≤ 100000 := by rw [sortL_len]; exact hbl
    cases hR : putV F ⟨fs, pl + 1, us + 1⟩ xa (sortL b) with
    | stop c2 u2 =>
      rw [hR] at HD
      refine wp_region_held_drew (S := (Kept (fun k => k = X) W3)) (by kernel_rfl) ((Kept.refl (fun k => k = X) W3).drew) (fun hHeld => ?_)
      refine held_q (v := ?_) (i := 0) rfl (by kernel_rfl) (by kernel_rfl) (by kernel_rfl) (fun _ _ _ h => h) (by rfl) hHeld ?_ ?_
      rotate_left
      · (intro w' hS'; go_simp <;> (with_reducible rfl))
      simp only [Act.put, List.getElem_toArray, List.getElem_cons_zero, List.getElem_cons_succ, List.setIfInBounds_toArray, List.set_cons_zero, List.set_cons_succ]
      refine held_q (v := ?_) (i := 1) rfl (by kernel_rfl) (by kernel_rfl) (by kernel_rfl) (fun _ _ _ h => h) (by rfl) hHeld ?_ ?_
      rotate_left
      · (intro w' hS'; go_simp <;> (with_reducible rfl))
      simp only [Act.put, List.getElem_toArray, List.getElem_cons_zero, List.getElem_cons_succ, List.setIfInBounds_toArray, List.set_cons_zero, List.set_cons_succ]
      refine held_q (v := ?_) (i := 2) rfl (by kernel_rfl) (by kernel_rfl) (by kernel_rfl) (fun _ _ _ h => h) (by rfl) hHeld ?_ ?_
      rotate_left
      · (intro w' hS'; go_simp <;> (with_reducible rfl))
      simp only [Act.put, List.getElem_toArray, List.getElem_cons_zero, List.getElem_cons_succ, List.setIfInBounds_toArray, List.set_cons_zero, List.set_cons_succ]
      refine held_q (v := ?_) (i := 3) rfl (by kernel_rfl) (by kernel_rfl) (by kernel_rfl) (fun _ _ _ h => h) (by rfl) hHeld ?_ ?_
      rotate_left
      · (intro w' hS'; go_simp <;> (with_reducible rfl))
      simp only [Act.put, List.getElem_toArray, List.getElem_cons_zero, List.getElem_cons_succ, List.setIfInBounds_toArray, List.set_cons_zero, List.set_cons_succ]
      refine held_q (v := ?_) (i := 4) rfl (by kernel_rfl) (by kernel_rfl) (by kernel_rfl) (fun _ _ _ h => h) (by rfl) hHeld ?_ ?_
      rotate_left
      · (intro w' hS'; go_simp <;> (with_reducible rfl))
      simp only [Act.put, List.getElem_toArray, List.getElem_cons_zero, List.getElem_cons_succ, List.setIfInBounds_toArray, List.set_cons_zero, List.set_cons_succ]
      refine held_q (v := ?_) (i := 5) rfl (by kernel_rfl) (by kernel_rfl) (by kernel_rfl) (fun _ _ _ h => h) (by rfl) hHeld ?_ ?_
      rotate_left
      · (intro w' hS'; go_simp <;> (with_reducible rfl))
      simp only [Act.put, List.getElem_toArray, List.getElem_cons_zero, List.getElem_cons_succ, List.setIfInBounds_toArray, List.set_cons_zero, List.set_cons_succ]
      refine held_c (i := 6) (f := 24) (args := #[.pointer (some ⟨X, 0, none⟩), .string xa]) (by kernel_rfl) rfl (by rfl) ?_ (vget_yes hrd hg) ?_
      · (go_simp <;> rfl)
      rintro e W4 ⟨v4, rfl, hb4, hr4, k4⟩
      have hHeld := hHeld.trans k4.x
      refine ⟨_, rfl, hHeld, ?_⟩
      simp only [Act.put, List.getElem_toArray, List.getElem_cons_zero, List.getElem_cons_succ, List.setIfInBounds_toArray, List.set_cons_zero, List.set_cons_succ]
      refine held_c (i := 7) (f := 28) (args := #[v4]) (by kernel_rfl) rfl (by rfl) ?_ (sorted_ct hb4.at hbl) ?_
      · (go_simp <;> rfl)
      rintro e W5 ⟨v5, rfl, hb5, k5⟩
      have hHeld := hHeld.trans k5.x
      refine ⟨_, rfl, hHeld, ?_⟩
      simp only [Act.put, List.getElem_toArray, List.getElem_cons_zero, List.getElem_cons_succ, List.setIfInBounds_toArray, List.set_cons_zero, List.set_cons_succ]
      refine held_cp (i := 8) (f := 23) (args := #[.pointer (some ⟨X, 0, none⟩), .string xa, v5]) (by kernel_rfl) rfl (by rfl) ?_ (put_stop (hr4.kept k5) ha (hb5.x hr4.lt).a hbl2 hR) ?_
      · (go_simp <;> rfl)
      rintro e w' ⟨rfl, hr9, k9⟩
      refine .inr ⟨_, rfl, ?_⟩
      go_wp2_with fail
      exact ⟨rfl, VOut.bad HD.out hr9, kw3.trans (hHeld.trans k9)⟩
    | go s5 =>
      rw [hR] at HD
      refine wp_region_held_drew (S := (Kept (fun k => k = X) W3)) (by kernel_rfl) ((Kept.refl (fun k => k = X) W3).drew) (fun hHeld => ?_)
      refine held_q (v := ?_) (i := 0) rfl (by kernel_rfl) (by kernel_rfl) (by kernel_rfl) (fun _ _ _ h => h) (by rfl) hHeld ?_ ?_
      rotate_left
      · (intro w' hS'; go_simp <;> (with_reducible rfl))
      simp only [Act.put, List.getElem_toArray, List.getElem_cons_zero, List.getElem_cons_succ, List.setIfInBounds_toArray, List.set_cons_zero, List.set_cons_succ]
      refine held_q (v := ?_) (i := 1) rfl (by kernel_rfl) (by kernel_rfl) (by kernel_rfl) (fun _ _ _ h => h) (by rfl) hHeld ?_ ?_
      rotate_left
      · (intro w' hS'; go_simp <;> (with_reducible rfl))
      simp only [Act.put, List.getElem_toArray, List.getElem_cons_zero, List.getElem_cons_succ, List.setIfInBounds_toArray, List.set_cons_zero, List.set_cons_succ]
      refine held_q (v := ?_) (i := 2) rfl (by kernel_rfl) (by kernel_rfl) (by kernel_rfl) (fun _ _ _ h => h) (by rfl) hHeld ?_ ?_
      rotate_left
      · (intro w' hS'; go_simp <;> (with_reducible rfl))
      simp only [Act.put, List.getElem_toArray, List.getElem_cons_zero, List.getElem_cons_succ, List.setIfInBounds_toArray, List.set_cons_zero, List.set_cons_succ]
      refine held_q (v := ?_) (i := 3) rfl (by kernel_rfl) (by kernel_rfl) (by kernel_rfl) (fun _ _ _ h => h) (by rfl) hHeld ?_ ?_
      rotate_left
      · (intro w' hS'; go_simp <;> (with_reducible rfl))
      simp only [Act.put, List.getElem_toArray, List.getElem_cons_zero, List.getElem_cons_succ, List.setIfInBounds_toArray, List.set_cons_zero, List.set_cons_succ]
      refine held_q (v := ?_) (i := 4) rfl (by kernel_rfl) (by kernel_rfl) (by kernel_rfl) (fun _ _ _ h => h) (by rfl) hHeld ?_ ?_
      rotate_left
      · (intro w' hS'; go_simp <;> (with_reducible rfl))
      simp only [Act.put, List.getElem_toArray, List.getElem_cons_zero, List.getElem_cons_succ, List.setIfInBounds_toArray, List.set_cons_zero, List.set_cons_succ]
      refine held_q (v := ?_) (i := 5) rfl (by kernel_rfl) (by kernel_rfl) (by kernel_rfl) (fun _ _ _ h => h) (by rfl) hHeld ?_ ?_
      rotate_left
      · (intro w' hS'; go_simp <;> (with_reducible rfl))
      simp only [Act.put, List.getElem_toArray, List.getElem_cons_zero, List.getElem_cons_succ, List.setIfInBounds_toArray, List.set_cons_zero, List.set_cons_succ]
      refine held_c (i := 6) (f := 24) (args := #[.pointer (some ⟨X, 0, none⟩), .string xa]) (by kernel_rfl) rfl (by rfl) ?_ (vget_yes hrd hg) ?_
      · (go_simp <;> rfl)
      rintro e W4 ⟨v4, rfl, hb4, hr4, k4⟩
      have hHeld := hHeld.trans k4.x
      refine ⟨_, rfl, hHeld, ?_⟩
      simp only [Act.put, List.getElem_toArray, List.getElem_cons_zero, List.getElem_cons_succ, List.setIfInBounds_toArray, List.set_cons_zero, List.set_cons_succ]
      refine held_c (i := 7) (f := 28) (args := #[v4]) (by kernel_rfl) rfl (by rfl) ?_ (sorted_ct hb4.at hbl) ?_
      · (go_simp <;> rfl)
      rintro e W5 ⟨v5, rfl, hb5, k5⟩
      have hHeld := hHeld.trans k5.x
      refine ⟨_, rfl, hHeld, ?_⟩
      simp only [Act.put, List.getElem_toArray, List.getElem_cons_zero, List.getElem_cons_succ, List.setIfInBounds_toArray, List.set_cons_zero, List.set_cons_succ]
      refine held_c (i := 8) (f := 23) (args := #[.pointer (some ⟨X, 0, none⟩), .string xa, v5]) (by kernel_rfl) rfl (by rfl) ?_ (put_go (hr4.kept k5) ha (hb5.x hr4.lt).a hbl2 hR) ?_
      · (go_simp <;> rfl)
      rintro e W9 ⟨rfl, hr9, k9⟩
      have hHeld := hHeld.trans k9
      refine ⟨_, rfl, hHeld, ?_⟩
      simp only [Act.put, List.getElem_toArray, List.getElem_cons_zero, List.getElem_cons_succ, List.setIfInBounds_toArray, List.set_cons_zero, List.set_cons_succ]
      refine wpAnyH_done (by kernel_rfl) ?_ _
      go_wp2_with fail
      go_end0
      exact ⟨VOut.good HD.out hr9, kw3.trans hHeld⟩
end Go.Proofs.YthachckofghppaaDoor
