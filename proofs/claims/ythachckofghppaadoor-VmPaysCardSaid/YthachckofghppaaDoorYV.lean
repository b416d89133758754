/- vm.step: Concat. -/
import Derived.Test.YthachckofghppaaDoorYQ
namespace Go.Proofs.YthachckofghppaaDoor
open Go.RowKit
set_option maxRecDepth 100000
set_option linter.unusedSimpArgs false
set_option linter.unusedVariables false


theorem vget_yesS {w : World} {X : Nat} {F : Int} {s : VmS} (h : RunAt w X F s) {p : ByteArray} {b : List UInt8} (hg : getV s p = some b) :
    Calls Tryd.prog 24 #[.pointer (some ⟨X, 0, none⟩), .string p] w fun e w' => ∃ a c, e = .returned (.slice a b.length c) ∧ ByX X w' (.slice a b.length c) b ∧ RunAt w' X F s ∧ Kept (fun _ => False) w w' :=
  (vget_yes h hg).mono fun e w' ⟨v, e1, e2, e3, e4⟩ => by
    obtain ⟨a, c, hv⟩ := e2.slc
    subst hv
    exact ⟨a, c, e1, e2, e3, e4⟩
theorem getV_len2 {w : World} {X : Nat} {F : Int} {s : VmS} (h : RunAt w X F s) {p : ByteArray} {b : List UInt8} (hg : getV s p = some b) : b.length ≤ 2000 := by
  unfold getV at hg
  split at hg
  · cases hq : s.fs[posL s.fs p]? with
    | none => rw [hq] at hg; cases hg
    | some f =>
      rw [hq] at hg
      injection hg with hg
      subst hg
      have := ((mayIs h.may).file f (List.mem_of_getElem? hq)).2.2
      exact this
  · cases hg
theorem bs2 (a : Option Addr) (n c : Nat) (a2 : Option Addr) (n2 c2 : Nat) (w : World) : (Instr.buildSlice 75 2 #[(0, .slice a n c), (1, .slice a2 n2 c2)]).run Tryd.prog w = .ok (.slice (some ⟨w.heap.size, 0, none⟩) 2 2) (w.alloc (.cells #[.slice a n c, .slice a2 n2 c2] 22)) := by kernel_rfl
set_option maxRecDepth 100000 in
set_option maxHeartbeats 8000000 in
theorem step2_ct {w : World} {X : Nat} {F : Int} {s : VmS} (h : RunAt w X F s) {x : InsE} (hx : x.Fits) {many : Int} (hok : oneB x many = true) (hmany : many ≤ 900) (hop : x.op = 2) (hpl : s.pl ≤ 900) (hle : s.us + 1 ≤ F) :
    Calls Tryd.prog 18 #[.pointer (some ⟨X, 0, none⟩), .agg (insC x).toArray] w fun e w' => VOut X F (stepV F x s) e w' ∧ Kept (fun k => k = X) w w' := by
  obtain ⟨op, xa, xb, xc, n, m⟩ := x
  dsimp only at hop
  obtain ⟨fs, pl, us⟩ := s
  dsimp only at hpl
  obtain ⟨o1, o2, hfl⟩ := one_at hok
  have hpl0 : 0 ≤ pl := h.pl0
  have hus0 : 0 ≤ us := h.us0
  have hF1 : F ≤ 20000 := h.F1
  have hS : stepV F ⟨op, xa, xb, xc, n, m⟩ ⟨fs, pl, us⟩ = doV F ⟨op, xa, xb, xc, n, m⟩ ⟨fs, pl + 1, us + 1⟩ := by
    unfold stepV payV
    rw [if_pos hle]
  have pc0 : payV F ⟨fs, pl, us⟩ 1 = .go ⟨fs, pl, us + 1⟩ := by unfold payV; rw [if_pos hle]
  obtain ⟨_, ha, hb, hc, hn, hm2⟩ := hx
  dsimp only at ha hb hc hn hm2
  subst hop
  obtain ⟨vf0, hx0, _⟩ := h.cells
  have hXw := (Array.getElem?_eq_some_iff.1 hx0).1
  clear hx0
  unfold insC
  have k1 : Kept (fun _ => False) w (w.alloc (.cells #[.int .u8 2, .string xa, .string xb, .string xc, .int .i64 n, .int .i64 m] 25)) := (Kept.refl _ w).alloc _
  have hb0 := heap_last w (.cells #[.int .u8 2, .string xa, .string xb, .string xc, .int .i64 n, .int .i64 m] 25)
  go_enter Tryd.func18, Tryd.ntmps18
  go_upto_region 1 with fail
  generalize w.alloc (.cells #[.int .u8 2, .string xa, .string xb, .string xc, .int .i64 n, .int .i64 m] 25) = W1 at k1 hb0 ⊢
  generalize hBe : w.heap.size = B at hb0 ⊢
  have hBX : ¬ B = X := by omega
  have hBl := (Array.getElem?_eq_some_iff.1 hb0).1
  have hr1 := h.kept k1
  have bW : ∀ w', Kept (fun k => k = X) W1 w' → w'.heap[B]? = some (.cells #[.int .u8 2, .string xa, .string xb, .string xc, .int .i64 n, .int .i64 m] 25 (0, 0)) := fun w' z => by rw [z.block _ hBl hBX]; exact hb0
  have pc := pay_ct hr1 (n := 1) (by omega) (by omega)
  rw [pc0] at pc
  clear hb0 pc0
  go_wp2_with fail
  refine pc.mono ?_
  rintro e W2 ⟨⟨rfl, hr2⟩, k2⟩
  clear pc
  obtain ⟨vf, hx2, _⟩ := hr2.cells
  have cX1 : W2.cell? ⟨X, 1, none⟩ = some (.int .i64 pl) := by rw [cell_of_row _ _ _ _ _ _ hx2]; rfl
  have fX1 : W2.frozen? ⟨X, 1, none⟩ = false := by simp [World.frozen?, hx2]
  go_upto_region 3 with fail
  have hr3 := hr2.setP (u := pl + 1) (by omega) (by omega)
  have k3 := k2.setX (X := X) (S := fun k => k = X) rfl 1 (.int .i64 (pl + 1))
  clear hx2 cX1 fX1 hr2 k2
  generalize W2.setCell ⟨X, 1, none⟩ (.int .i64 (pl + 1)) = W3 at hr3 k3 ⊢
  dsimp only at hr3
  have kw3 := k1.x.trans k3
  have bC : ∀ w', Kept (fun k => k = X) W3 w' → w'.heap[B]? = some (.cells #[.int .u8 2, .string xa, .string xb, .string xc, .int .i64 n, .int .i64 m] 25 (0, 0)) := fun w' z => bW w' (k3.trans z)
  have cA : ∀ w', Kept (fun k => k = X) W3 w' → w'.cell? ⟨B, 1, none⟩ = some (.string xa) := fun w' z => by rw [cell_of_row _ _ _ _ _ _ (bC w' z)]; rfl
  have cB : ∀ w', Kept (fun k => k = X) W3 w' → w'.cell? ⟨B, 2, none⟩ = some (.string xb) := fun w' z => by rw [cell_of_row _ _ _ _ _ _ (bC w' z)]; rfl
  have cC : ∀ w', Kept (fun k => k = X) W3 w' → w'.cell? ⟨B, 3, none⟩ = some (.string xc) := fun w' z => by rw [cell_of_row _ _ _ _ _ _ (bC w' z)]; rfl
  have cN : ∀ w', Kept (fun k => k = X) W3 w' → w'.cell? ⟨B, 4, none⟩ = some (.int .i64 n) := fun w' z => by rw [cell_of_row _ _ _ _ _ _ (bC w' z)]; rfl
  have cM : ∀ w', Kept (fun k => k = X) W3 w' → w'.cell? ⟨B, 5, none⟩ = some (.int .i64 m) := fun w' z => by rw [cell_of_row _ _ _ _ _ _ (bC w' z)]; rfl
  have cO : W3.cell? ⟨B, 0, none⟩ = some (.int .u8 2) := by rw [cell_of_row _ _ _ _ _ _ (bC W3 (Kept.refl _ _))]; rfl
  have HD := Lib.hid (hS.trans (show doV F ⟨2, xa, xb, xc, n, m⟩ ⟨fs, pl + 1, us + 1⟩ = get2 ⟨fs, pl + 1, us + 1⟩ xa xb fun p q => putV F ⟨fs, pl + 1, us + 1⟩ xc (p ++ q) from rfl))
  have hrd := hr3.kept (Kept.drew (Kept.refl (fun _ => False) W3))
  clear bW bC hS hok
  clear hfl
  go_wp2_with fail
  cases hg : getV ⟨fs, pl + 1, us + 1⟩ xa with
  | none =>
    have HD : Hid (stepV F ⟨2, xa, xb, xc, n, m⟩ ⟨fs, pl, us⟩ = .stop 70 (us + 1)) := by unfold Hid; rw [HD.out]; unfold get2; rw [hg]
    refine wp_region_held_drew (S := (Kept (fun k => k = X) W3)) (by kernel_rfl) ((Kept.refl (fun k => k = X) W3).drew) (fun hHeld => ?_)
    refine held_q (v := ?_) (i := 0) rfl (by kernel_rfl) (by kernel_rfl) (by kernel_rfl) (fun _ _ _ h => h) (by rfl) hHeld ?_ ?_
    rotate_left
    · (intro w' hS'; go_simp <;> (with_reducible rfl))
    simp only [Act.put, List.getElem_toArray, List.getElem_cons_zero, List.getElem_cons_succ, List.setIfInBounds_toArray, List.set_cons_zero, List.set_cons_succ]
    refine held_q (v := ?_) (i := 1) rfl (by kernel_rfl) (by kernel_rfl) (by kernel_rfl) (fun _ _ _ h => h) (by rfl) hHeld ?_ ?_
    rotate_left
    · (intro w' hS'; go_simp <;> (with_reducible rfl))
    simp only [Act.put, List.getElem_toArray, List.getElem_cons_zero, List.getElem_cons_succ, List.setIfInBounds_toArray, List.set_cons_zero, List.set_cons_succ]
    refine held_q (v := ?_) (i := 2) rfl (by kernel_rfl) (by kernel_rfl) (by kernel_rfl) (fun _ _ _ h => h) (by rfl) hHeld ?_ ?_
    rotate_left
    · (intro w' hS'; go_simp <;> (with_reducible rfl))
    simp only [Act.put, List.getElem_toArray, List.getElem_cons_zero, List.getElem_cons_succ, List.setIfInBounds_toArray, List.set_cons_zero, List.set_cons_succ]
    refine held_q (v := ?_) (i := 3) rfl (by kernel_rfl) (by kernel_rfl) (by kernel_rfl) (fun _ _ _ h => h) (by rfl) hHeld ?_ ?_
    rotate_left
    · (intro w' hS'; go_simp <;> (with_reducible rfl))
    simp only [Act.put, List.getElem_toArray, List.getElem_cons_zero, List.getElem_cons_succ, List.setIfInBounds_toArray, List.set_cons_zero, List.set_cons_succ]
    refine held_q (v := ?_) (i := 4) rfl (by kernel_rfl) (by kernel_rfl) (by kernel_rfl) (fun _ _ _ h => h) (by rfl) hHeld ?_ ?_
    rotate_left
    · (intro w' hS'; go_simp <;> (with_reducible rfl))
    simp only [Act.put, List.getElem_toArray, List.getElem_cons_zero, List.getElem_cons_succ, List.setIfInBounds_toArray, List.set_cons_zero, List.set_cons_succ]
    refine held_q (v := ?_) (i := 5) rfl (by kernel_rfl) (by kernel_rfl) (by kernel_rfl) (fun _ _ _ h => h) (by rfl) hHeld ?_ ?_
    rotate_left
    · (intro w' hS'; go_simp <;> (with_reducible rfl))
    simp only [Act.put, List.getElem_toArray, List.getElem_cons_zero, List.getElem_cons_succ, List.setIfInBounds_toArray, List.set_cons_zero, List.set_cons_succ]
    refine held_q (v := ?_) (i := 7) rfl (by kernel_rfl) (by kernel_rfl) (by kernel_rfl) (fun _ _ _ h => h) (by rfl) hHeld ?_ ?_
    rotate_left
    · (intro w' hS'; go_simp <;> (with_reducible rfl))
    simp only [Act.put, List.getElem_toArray, List.getElem_cons_zero, List.getElem_cons_succ, List.setIfInBounds_toArray, List.set_cons_zero, List.set_cons_succ]
    refine held_q (v := ?_) (i := 8) rfl (by kernel_rfl) (by kernel_rfl) (by kernel_rfl) (fun _ _ _ h => h) (by rfl) hHeld ?_ ?_
    rotate_left
    · (intro w' hS'; go_simp <;> (with_reducible rfl))
    simp only [Act.put, List.getElem_toArray, List.getElem_cons_zero, List.getElem_cons_succ, List.setIfInBounds_toArray, List.set_cons_zero, List.set_cons_succ]
    refine held_q (v := ?_) (i := 9) rfl (by kernel_rfl) (by kernel_rfl) (by kernel_rfl) (fun _ _ _ h => h) (by rfl) hHeld ?_ ?_
    rotate_left
    · (intro w' hS'; go_simp <;> (with_reducible rfl))
    simp only [Act.put, List.getElem_toArray, List.getElem_cons_zero, List.getElem_cons_succ, List.setIfInBounds_toArray, List.set_cons_zero, List.set_cons_succ]
    refine held_cp (i := 6) (f := 24) (args := #[.pointer (some ⟨X, 0, none⟩), .string xa]) (by kernel_rfl) rfl (by rfl) ?_ (vget_no hrd hg) ?_
    · (go_simp <;> rfl)
    rintro e w' ⟨rfl, hr4, k4⟩
    refine .inr ⟨_, rfl, ?_⟩
    go_wp2_with fail
    exact ⟨rfl, VOut.bad HD.out ⟨_, hr4, rfl⟩, kw3.trans (hHeld.trans k4.x)⟩
  | some b =>
    cases hg2 : getV ⟨fs, pl + 1, us + 1⟩ xb with
    | none =>
      have HD : Hid (stepV F ⟨2, xa, xb, xc, n, m⟩ ⟨fs, pl, us⟩ = .stop 70 (us + 1)) := by unfold Hid; rw [HD.out]; unfold get2; rw [hg, hg2]
      refine wp_region_held_drew (S := (Kept (fun k => k = X) W3)) (by kernel_rfl) ((Kept.refl (fun k => k = X) W3).drew) (fun hHeld => ?_)
      refine held_q (v := ?_) (i := 0) rfl (by kernel_rfl) (by kernel_rfl) (by kernel_rfl) (fun _ _ _ h => h) (by rfl) hHeld ?_ ?_
      rotate_left
      · (intro w' hS'; go_simp <;> (with_reducible rfl))
      simp only [Act.put, List.getElem_toArray, List.getElem_cons_zero, List.getElem_cons_succ, List.setIfInBounds_toArray, List.set_cons_zero, List.set_cons_succ]
      refine held_q (v := ?_) (i := 1) rfl (by kernel_rfl) (by kernel_rfl) (by kernel_rfl) (fun _ _ _ h => h) (by rfl) hHeld ?_ ?_
      rotate_left
      · (intro w' hS'; go_simp <;> (with_reducible rfl))
      simp only [Act.put, List.getElem_toArray, List.getElem_cons_zero, List.getElem_cons_succ, List.setIfInBounds_toArray, List.set_cons_zero, List.set_cons_succ]
      refine held_q (v := ?_) (i := 2) rfl (by kernel_rfl) (by kernel_rfl) (by kernel_rfl) (fun _ _ _ h => h) (by rfl) hHeld ?_ ?_
      rotate_left
      · (intro w' hS'; go_simp <;> (with_reducible rfl))
      simp only [Act.put, List.getElem_toArray, List.getElem_cons_zero, List.getElem_cons_succ, List.setIfInBounds_toArray, List.set_cons_zero, List.set_cons_succ]
      refine held_q (v := ?_) (i := 3) rfl (by kernel_rfl) (by kernel_rfl) (by kernel_rfl) (fun _ _ _ h => h) (by rfl) hHeld ?_ ?_
      rotate_left
      · (intro w' hS'; go_simp <;> (with_reducible rfl))
      simp only [Act.put, List.getElem_toArray, List.getElem_cons_zero, List.getElem_cons_succ, List.setIfInBounds_toArray, List.set_cons_zero, List.set_cons_succ]
      refine held_q (v := ?_) (i := 4) rfl (by kernel_rfl) (by kernel_rfl) (by kernel_rfl) (fun _ _ _ h => h) (by rfl) hHeld ?_ ?_
      rotate_left
      · (intro w' hS'; go_simp <;> (with_reducible rfl))
      simp only [Act.put, List.getElem_toArray, List.getElem_cons_zero, List.getElem_cons_succ, List.setIfInBounds_toArray, List.set_cons_zero, List.set_cons_succ]
      refine held_q (v := ?_) (i := 5) rfl (by kernel_rfl) (by kernel_rfl) (by kernel_rfl) (fun _ _ _ h => h) (by rfl) hHeld ?_ ?_
      rotate_left
      · (intro w' hS'; go_simp <;> (with_reducible rfl))
      simp only [Act.put, List.getElem_toArray, List.getElem_cons_zero, List.getElem_cons_succ, List.setIfInBounds_toArray, List.set_cons_zero, List.set_cons_succ]
      refine held_q (v := ?_) (i := 7) rfl (by kernel_rfl) (by kernel_rfl) (by kernel_rfl) (fun _ _ _ h => h) (by rfl) hHeld ?_ ?_
      rotate_left
      · (intro w' hS'; go_simp <;> (with_reducible rfl))
      simp only [Act.put, List.getElem_toArray, List.getElem_cons_zero, List.getElem_cons_succ, List.setIfInBounds_toArray, List.set_cons_zero, List.set_cons_succ]
      refine held_q (v := ?_) (i := 8) rfl (by kernel_rfl) (by kernel_rfl) (by kernel_rfl) (fun _ _ _ h => h) (by rfl) hHeld ?_ ?_
      rotate_left
      · (intro w' hS'; go_simp <;> (with_reducible rfl))
      simp only [Act.put, List.getElem_toArray, List.getElem_cons_zero, List.getElem_cons_succ, List.setIfInBounds_toArray, List.set_cons_zero, List.set_cons_succ]
      refine held_q (v := ?_) (i := 9) rfl (by kernel_rfl) (by kernel_rfl) (by kernel_rfl) (fun _ _ _ h => h) (by rfl) hHeld ?_ ?_
      rotate_left
      · (intro w' hS'; go_simp <;> (with_reducible rfl))
      simp only [Act.put, List.getElem_toArray, List.getElem_cons_zero, List.getElem_cons_succ, List.setIfInBounds_toArray, List.set_cons_zero, List.set_cons_succ]
      refine held_c (i := 6) (f := 24) (args := #[.pointer (some ⟨X, 0, none⟩), .string xa]) (by kernel_rfl) rfl (by rfl) ?_ (vget_yesS hrd hg) ?_
      · (go_simp <;> rfl)
      rintro e W4 ⟨a4, c4, rfl, hb4, hr4, k4⟩
      have hHeld := hHeld.trans k4.x
      refine ⟨_, rfl, hHeld, ?_⟩
      simp only [Act.put, List.getElem_toArray, List.getElem_cons_zero, List.getElem_cons_succ, List.setIfInBounds_toArray, List.set_cons_zero, List.set_cons_succ]
      refine held_cp (i := 10) (f := 24) (args := #[.pointer (some ⟨X, 0, none⟩), .string xb]) (by kernel_rfl) rfl (by rfl) ?_ (vget_no hr4 hg2) ?_
      · (go_simp <;> rfl)
      rintro e w' ⟨rfl, hr5, k5⟩
      refine .inr ⟨_, rfl, ?_⟩
      go_wp2_with fail
      exact ⟨rfl, VOut.bad HD.out ⟨_, hr5, rfl⟩, kw3.trans (hHeld.trans k5.x)⟩
    | some b2 =>
      have HD : Hid (stepV F ⟨2, xa, xb, xc, n, m⟩ ⟨fs, pl, us⟩ = putV F ⟨fs, pl + 1, us + 1⟩ xc (b ++ b2)) := by unfold Hid; rw [HD.out]; unfold get2; rw [hg, hg2]
      have hbl := getV_len2 hr3 hg
      have hbl2 := getV_len2 hr3 hg2
      have hbl3 : (b ++ b2).length ≤ 100000 := by rw [List.length_append]; omega
      cases hR : putV F ⟨fs, pl + 1, us + 1⟩ xc (b ++ b2) with
      | stop c2 u2 =>
        rw [hR] at HD
        refine wp_region_held_drew (S := (Kept (fun k => k = X) W3)) (by kernel_rfl) ((Kept.refl (fun k => k = X) W3).drew) (fun hHeld => ?_)
        refine held_q (v := ?_) (i := 0) rfl (by kernel_rfl) (by kernel_rfl) (by kernel_rfl) (fun _ _ _ h => h) (by rfl) hHeld ?_ ?_
        rotate_left
        · (intro w' hS'; go_simp <;> (with_reducible rfl))
        simp only [Act.put, List.getElem_toArray, List.getElem_cons_zero, List.getElem_cons_succ, List.setIfInBounds_toArray, List.set_cons_zero, List.set_cons_succ]
        refine held_q (v := ?_) (i := 1) rfl (by kernel_rfl) (by kernel_rfl) (by kernel_rfl) (fun _ _ _ h => h) (by rfl) hHeld ?_ ?_
        rotate_left
        · (intro w' hS'; go_simp <;> (with_reducible rfl))
        simp only [Act.put, List.getElem_toArray, List.getElem_cons_zero, List.getElem_cons_succ, List.setIfInBounds_toArray, List.set_cons_zero, List.set_cons_succ]
        refine held_q (v := ?_) (i := 2) rfl (by kernel_rfl) (by kernel_rfl) (by kernel_rfl) (fun _ _ _ h => h) (by rfl) hHeld ?_ ?_
        rotate_left
        · (intro w' hS'; go_simp <;> (with_reducible rfl))
        simp only [Act.put, List.getElem_toArray, List.getElem_cons_zero, List.getElem_cons_succ, List.setIfInBounds_toArray, List.set_cons_zero, List.set_cons_succ]
        refine held_q (v := ?_) (i := 3) rfl (by kernel_rfl) (by kernel_rfl) (by kernel_rfl) (fun _ _ _ h => h) (by rfl) hHeld ?_ ?_
        rotate_left
        · (intro w' hS'; go_simp <;> (with_reducible rfl))
        simp only [Act.put, List.getElem_toArray, List.getElem_cons_zero, List.getElem_cons_succ, List.setIfInBounds_toArray, List.set_cons_zero, List.set_cons_succ]
        refine held_q (v := ?_) (i := 4) rfl (by kernel_rfl) (by kernel_rfl) (by kernel_rfl) (fun _ _ _ h => h) (by rfl) hHeld ?_ ?_
        rotate_left
        · (intro w' hS'; go_simp <;> (with_reducible rfl))
        simp only [Act.put, List.getElem_toArray, List.getElem_cons_zero, List.getElem_cons_succ, List.setIfInBounds_toArray, List.set_cons_zero, List.set_cons_succ]
        refine held_q (v := ?_) (i := 5) rfl (by kernel_rfl) (by kernel_rfl) (by kernel_rfl) (fun _ _ _ h => h) (by rfl) hHeld ?_ ?_
        rotate_left
        · (intro w' hS'; go_simp <;> (with_reducible rfl))
        simp only [Act.put, List.getElem_toArray, List.getElem_cons_zero, List.getElem_cons_succ, List.setIfInBounds_toArray, List.set_cons_zero, List.set_cons_succ]
        refine held_q (v := ?_) (i := 7) rfl (by kernel_rfl) (by kernel_rfl) (by kernel_rfl) (fun _ _ _ h => h) (by rfl) hHeld ?_ ?_
        rotate_left
        · (intro w' hS'; go_simp <;> (with_reducible rfl))
        simp only [Act.put, List.getElem_toArray, List.getElem_cons_zero, List.getElem_cons_succ, List.setIfInBounds_toArray, List.set_cons_zero, List.set_cons_succ]
        refine held_q (v := ?_) (i := 8) rfl (by kernel_rfl) (by kernel_rfl) (by kernel_rfl) (fun _ _ _ h => h) (by rfl) hHeld ?_ ?_
        rotate_left
        · (intro w' hS'; go_simp <;> (with_reducible rfl))
        simp only [Act.put, List.getElem_toArray, List.getElem_cons_zero, List.getElem_cons_succ, List.setIfInBounds_toArray, List.set_cons_zero, List.set_cons_succ]
        refine held_q (v := ?_) (i := 9) rfl (by kernel_rfl) (by kernel_rfl) (by kernel_rfl) (fun _ _ _ h => h) (by rfl) hHeld ?_ ?_
        rotate_left
        · (intro w' hS'; go_simp <;> (with_reducible rfl))
        simp only [Act.put, List.getElem_toArray, List.getElem_cons_zero, List.getElem_cons_succ, List.setIfInBounds_toArray, List.set_cons_zero, List.set_cons_succ]
        refine held_c (i := 6) (f := 24) (args := #[.pointer (some ⟨X, 0, none⟩), .string xa]) (by kernel_rfl) rfl (by rfl) ?_ (vget_yesS hrd hg) ?_
        · (go_simp <;> rfl)
        rintro e W4 ⟨a4, c4, rfl, hb4, hr4, k4⟩
        have hHeld := hHeld.trans k4.x
        refine ⟨_, rfl, hHeld, ?_⟩
        simp only [Act.put, List.getElem_toArray, List.getElem_cons_zero, List.getElem_cons_succ, List.setIfInBounds_toArray, List.set_cons_zero, List.set_cons_succ]
        refine held_c (i := 10) (f := 24) (args := #[.pointer (some ⟨X, 0, none⟩), .string xb]) (by kernel_rfl) rfl (by rfl) ?_ (vget_yesS hr4 hg2) ?_
        · (go_simp <;> rfl)
        rintro e W5 ⟨a5, c5, rfl, hb5, hr5, k5⟩
        have hHeld := hHeld.trans k5.x
        refine ⟨_, rfl, hHeld, ?_⟩
        simp only [Act.put, List.getElem_toArray, List.getElem_cons_zero, List.getElem_cons_succ, List.setIfInBounds_toArray, List.set_cons_zero, List.set_cons_succ]
        refine held_v (i := 11) (by kernel_rfl) rfl (by rfl) (exec_buildSlice 75 2 _ rfl (by go_simp <;> rfl) (bs2 a4 b.length c4 a5 b2.length c5 W5)) (hHeld.alloc _) (fun hHeld => ?_)
        simp only [Act.put, List.getElem_toArray, List.getElem_cons_zero, List.getElem_cons_succ, List.setIfInBounds_toArray, List.set_cons_zero, List.set_cons_succ]
        refine held_c (i := 12) (f := 25) (args := #[.slice (some ⟨W5.heap.size, 0, none⟩) 2 2]) (by kernel_rfl) rfl (by rfl) ?_ (concatB_ct (hb4.kept (k5.trans ((Kept.refl (fun _ => False) W5).alloc _)).x).at.1 (hb5.kept ((Kept.refl (fun _ => False) W5).alloc _).x).at.1 (by omega) (by omega) (heap_last W5 _)) ?_
        · (go_simp <;> rfl)
        rintro e W6 ⟨v6, rfl, ho6, k6⟩
        have hHeld := hHeld.trans k6.x
        refine ⟨_, rfl, hHeld, ?_⟩
        simp only [Act.put, List.getElem_toArray, List.getElem_cons_zero, List.getElem_cons_succ, List.setIfInBounds_toArray, List.set_cons_zero, List.set_cons_succ]
        refine held_cp (i := 13) (f := 23) (args := #[.pointer (some ⟨X, 0, none⟩), .string xc, v6]) (by kernel_rfl) rfl (by rfl) ?_ (put_stop (hr5.kept (((Kept.refl (fun _ => False) W5).alloc _).trans k6)) hc ((ByB.own ho6).x (Nat.lt_of_lt_of_le hr5.lt (by simp))).a hbl3 hR) ?_
        · (go_simp <;> rfl)
        rintro e w' ⟨rfl, hr9, k9⟩
        refine .inr ⟨_, rfl, ?_⟩
        go_wp2_with fail
        exact ⟨rfl, VOut.bad HD.out hr9, kw3.trans (hHeld.trans k9)⟩
      | go s5 =>
        rw [hR] at HD
        refine wp_region_held_drew (S := (Kept (fun k => k = X) W3)) (by kernel_rfl) ((Kept.refl (fun k => k = X) W3).drew) (fun hHeld => ?_)
        refine held_q (v := ?_) (i := 0) rfl (by kernel_rfl) (by kernel_rfl) (by kernel_rfl) (fun _ _ _ h => h) (by rfl) hHeld ?_ ?_
        rotate_left
        · (intro w' hS'; go_simp <;> (with_reducible rfl))
        simp only [Act.put, List.getElem_toArray, List.getElem_cons_zero, List.getElem_cons_succ, List.setIfInBounds_toArray, List.set_cons_zero, List.set_cons_succ]
        refine held_q (v := ?_) (i := 1) rfl (by kernel_rfl) (by kernel_rfl) (by kernel_rfl) (fun _ _ _ h => h) (by rfl) hHeld ?_ ?_
        rotate_left
        · (intro w' hS'; go_simp <;> (with_reducible rfl))
        simp only [Act.put, List.getElem_toArray, List.getElem_cons_zero, List.getElem_cons_succ, List.setIfInBounds_toArray, List.set_cons_zero, List.set_cons_succ]
        refine held_q (v := ?_) (i := 2) rfl (by kernel_rfl) (by kernel_rfl) (by kernel_rfl) (fun _ _ _ h => h) (by rfl) hHeld ?_ ?_
        rotate_left
        · (intro w' hS'; go_simp <;> (with_reducible rfl))
        simp only [Act.put, List.getElem_toArray, List.getElem_cons_zero, List.getElem_cons_succ, List.setIfInBounds_toArray, List.set_cons_zero, List.set_cons_succ]
        refine held_q (v := ?_) (i := 3) rfl (by kernel_rfl) (by kernel_rfl) (by kernel_rfl) (fun _ _ _ h => h) (by rfl) hHeld ?_ ?_
        rotate_left
        · (intro w' hS'; go_simp <;> (with_reducible rfl))
        simp only [Act.put, List.getElem_toArray, List.getElem_cons_zero, List.getElem_cons_succ, List.setIfInBounds_toArray, List.set_cons_zero, List.set_cons_succ]
        refine held_q (v := ?_) (i := 4) rfl (by kernel_rfl) (by kernel_rfl) (by kernel_rfl) (fun _ _ _ h => h) (by rfl) hHeld ?_ ?_
        rotate_left
        · (intro w' hS'; go_simp <;> (with_reducible rfl))
        simp only [Act.put, List.getElem_toArray, List.getElem_cons_zero, List.getElem_cons_succ, List.setIfInBounds_toArray, List.set_cons_zero, List.set_cons_succ]
        refine held_q (v := ?_) (i := 5) rfl (by kernel_rfl) (by kernel_rfl) (by kernel_rfl) (fun _ _ _ h => h) (by rfl) hHeld ?_ ?_
        rotate_left
        · (intro w' hS'; go_simp <;> (with_reducible rfl))
        simp only [Act.put, List.getElem_toArray, List.getElem_cons_zero, List.getElem_cons_succ, List.setIfInBounds_toArray, List.set_cons_zero, List.set_cons_succ]
        refine held_q (v := ?_) (i := 7) rfl (by kernel_rfl) (by kernel_rfl) (by kernel_rfl) (fun _ _ _ h => h) (by rfl) hHeld ?_ ?_
        rotate_left
        · (intro w' hS'; go_simp <;> (with_reducible rfl))
        simp only [Act.put, List.getElem_toArray, List.getElem_cons_zero, List.getElem_cons_succ, List.setIfInBounds_toArray, List.set_cons_zero, List.set_cons_succ]
        refine held_q (v := ?_) (i := 8) rfl (by kernel_rfl) (by kernel_rfl) (by kernel_rfl) (fun _ _ _ h => h) (by rfl) hHeld ?_ ?_
        rotate_left
        · (intro w' hS'; go_simp <;> (with_reducible rfl))
        simp only [Act.put, List.getElem_toArray, List.getElem_cons_zero, List.getElem_cons_succ, List.setIfInBounds_toArray, List.set_cons_zero, List.set_cons_succ]
        refine held_q (v := ?_) (i := 9) rfl (by kernel_rfl) (by kernel_rfl) (by kernel_rfl) (fun _ _ _ h => h) (by rfl) hHeld ?_ ?_
        rotate_left
        · (intro w' hS'; go_simp <;> (with_reducible rfl))
        simp only [Act.put, List.getElem_toArray, List.getElem_cons_zero, List.getElem_cons_succ, List.setIfInBounds_toArray, List.set_cons_zero, List.set_cons_succ]
        refine held_c (i := 6) (f := 24) (args := #[.pointer (some ⟨X, 0, none⟩), .string xa]) (by kernel_rfl) rfl (by rfl) ?_ (vget_yesS hrd hg) ?_
        · (go_simp <;> rfl)
        rintro e W4 ⟨a4, c4, rfl, hb4, hr4, k4⟩
        have hHeld := hHeld.trans k4.x
        refine ⟨_, rfl, hHeld, ?_⟩
        simp only [Act.put, List.getElem_toArray, List.getElem_cons_zero, List.getElem_cons_succ, List.setIfInBounds_toArray, List.set_cons_zero, List.set_cons_succ]
        refine held_c (i := 10) (f := 24) (args := #[.pointer (some ⟨X, 0, none⟩), .string xb]) (by kernel_rfl) rfl (by rfl) ?_ (vget_yesS hr4 hg2) ?_
        · (go_simp <;> rfl)
        rintro e W5 ⟨a5, c5, rfl, hb5, hr5, k5⟩
        have hHeld := hHeld.trans k5.x
        refine ⟨_, rfl, hHeld, ?_⟩
        simp only [Act.put, List.getElem_toArray, List.getElem_cons_zero, List.getElem_cons_succ, List.setIfInBounds_toArray, List.set_cons_zero, List.set_cons_succ]
        refine held_v (i := 11) (by kernel_rfl) rfl (by rfl) (exec_buildSlice 75 2 _ rfl (by go_simp <;> rfl) (bs2 a4 b.length c4 a5 b2.length c5 W5)) (hHeld.alloc _) (fun hHeld => ?_)
        simp only [Act.put, List.getElem_toArray, List.getElem_cons_zero, List.getElem_cons_succ, List.setIfInBounds_toArray, List.set_cons_zero, List.set_cons_succ]
        refine held_c (i := 12) (f := 25) (args := #[.slice (some ⟨W5.heap.size, 0, none⟩) 2 2]) (by kernel_rfl) rfl (by rfl) ?_ (concatB_ct (hb4.kept (k5.trans ((Kept.refl (fun _ => False) W5).alloc _)).x).at.1 (hb5.kept ((Kept.refl (fun _ => False) W5).alloc _).x).at.1 (by omega) (by omega) (heap_last W5 _)) ?_
        · (go_simp <;> rfl)
        rintro e W6 ⟨v6, rfl, ho6, k6⟩
        have hHeld := hHeld.trans k6.x
        refine ⟨_, rfl, hHeld, ?_⟩
        simp only [Act.put, List.getElem_toArray, List.getElem_cons_zero, List.getElem_cons_succ, List.setIfInBounds_toArray, List.set_cons_zero, List.set_cons_succ]
        refine held_c (i := 13) (f := 23) (args := #[.pointer (some ⟨X, 0, none⟩), .string xc, v6]) (by kernel_rfl) rfl (by rfl) ?_ (put_go (hr5.kept (((Kept.refl (fun _ => False) W5).alloc _).trans k6)) hc ((ByB.own ho6).x (Nat.lt_of_lt_of_le hr5.lt (by simp))).a hbl3 hR) ?_
        · (go_simp <;> rfl)
        rintro e W9 ⟨rfl, hr9, k9⟩
        have hHeld := hHeld.trans k9
        refine ⟨_, rfl, hHeld, ?_⟩
        simp only [Act.put, List.getElem_toArray, List.getElem_cons_zero, List.getElem_cons_succ, List.setIfInBounds_toArray, List.set_cons_zero, List.set_cons_succ]
        refine wpAnyH_done (by kernel_rfl) ?_ _
        go_wp2_with fail
        go_end0
        exact ⟨VOut.good HD.out hr9, kw3.trans hHeld⟩
end Go.Proofs.YthachckofghppaaDoor
