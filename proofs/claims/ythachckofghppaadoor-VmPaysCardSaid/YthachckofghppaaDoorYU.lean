/- vm.step: IfEmpty, IfSame. -/
import Derived.Test.YthachckofghppaaDoorYQ
namespace Go.Proofs.YthachckofghppaaDoor
open Go.RowKit
set_option maxRecDepth 100000
set_option linter.unusedSimpArgs false
set_option linter.unusedVariables false


def gotB (l : List FileE) (s : ByteArray) : List UInt8 := if thereB l s = true then ((l[posL l s]?).map (·.bytes)).getD [] else []
theorem get9_ct {w : World} {v : Value} {l : List FileE} (h : TreeAt w v l) (hm : mayB l = true) (s : ByteArray) :
    Calls Tryd.prog 31 #[v, .string s] w fun e w' => ∃ a c bb, e = .returned (.tuple #[.slice a (gotB l s).length c, .bool bb]) ∧ Kept (fun _ => False) w w' :=
  (get_ctS h s).mono fun e w' ⟨h1, h2⟩ => by
    rcases h1 with ⟨v', f, e1, e2, e3, e4, _⟩ | ⟨e1, e3⟩
    · rw [hm, Bool.true_and] at e1
      obtain ⟨a, c, hv⟩ := e4.slc
      have : gotB l s = f.bytes := by unfold gotB; rw [if_pos e1, e2]; rfl
      exact ⟨a, c, true, by rw [e3, hv, this], h2⟩
    · rw [hm, Bool.true_and] at e1
      have : gotB l s = [] := by unfold gotB; rw [if_neg (by rw [e1]; simp)]
      exact ⟨none, 0, false, by rw [e3, this]; rfl, h2⟩
set_option maxRecDepth 100000 in
set_option maxHeartbeats 8000000 in
theorem step9_ct {w : World} {X : Nat} {F : Int} {s : VmS} (h : RunAt w X F s) {x : InsE} (hx : x.Fits) {many : Int} (hok : oneB x many = true) (hmany : many ≤ 900) (hop : x.op = 9) (hpl : s.pl ≤ 900) (hle : s.us + 1 ≤ F) :
    Calls Tryd.prog 18 #[.pointer (some ⟨X, 0, none⟩), .agg (insC x).toArray] w fun e w' => VOut X F (stepV F x s) e w' ∧ Kept (fun k => k = X) w w' := by
  obtain ⟨op, xa, xb, xc, n, m⟩ := x
  dsimp only at hop
  obtain ⟨fs, pl, us⟩ := s
  dsimp only at hpl
  obtain ⟨o1, o2, hfl⟩ := one_at hok
  have hpl0 : 0 ≤ pl := h.pl0
  have hus0 : 0 ≤ us := h.us0
  have hF1 : F ≤ 20000 := h.F1
  have hS : stepV F ⟨op, xa, xb, xc, n, m⟩ ⟨fs, pl, us⟩ = doV F ⟨op, xa, xb, xc, n, m⟩ ⟨fs, pl + 1, us + 1⟩ := by
    unfold stepV payV
    rw [if_pos hle]
  have pc0 : payV F ⟨fs, pl, us⟩ 1 = .go ⟨fs, pl, us + 1⟩ := by unfold payV; rw [if_pos hle]
  obtain ⟨_, ha, hb, hc, hn, hm2⟩ := hx
  dsimp only at ha hb hc hn hm2
  subst hop
  obtain ⟨vf0, hx0, _⟩ := h.cells
  have hXw := (Array.getElem?_eq_some_iff.1 hx0).1
  clear hx0
  unfold insC
  have k1 : Kept (fun _ => False) w (w.alloc (.cells #[.int .u8 9, .string xa, .string xb, .string xc, .int .i64 n, .int .i64 m] 25)) := (Kept.refl _ w).alloc _
  have hb0 := heap_last w (.cells #[.int .u8 9, .string xa, .string xb, .string xc, .int .i64 n, .int .i64 m] 25)
  go_enter Tryd.func18, Tryd.ntmps18
  go_upto_region 1 with fail
  generalize w.alloc (.cells #[.int .u8 9, .string xa, .string xb, .string xc, .int .i64 n, .int .i64 m] 25) = W1 at k1 hb0 ⊢
  generalize hBe : w.heap.size = B at hb0 ⊢
  have hBX : ¬ B = X := by omega
  have hBl := (Array.getElem?_eq_some_iff.1 hb0).1
  have hr1 := h.kept k1
  have bW : ∀ w', Kept (fun k => k = X) W1 w' → w'.heap[B]? = some (.cells #[.int .u8 9, .string xa, .string xb, .string xc, .int .i64 n, .int .i64 m] 25 (0, 0)) := fun w' z => by rw [z.block _ hBl hBX]; exact hb0
  have pc := pay_ct hr1 (n := 1) (by omega) (by omega)
  rw [pc0] at pc
  clear hb0 pc0
  go_wp2_with fail
  refine pc.mono ?_
  rintro e W2 ⟨⟨rfl, hr2⟩, k2⟩
  clear pc
  obtain ⟨vf, hx2, _⟩ := hr2.cells
  have cX1 : W2.cell? ⟨X, 1, none⟩ = some (.int .i64 pl) := by rw [cell_of_row _ _ _ _ _ _ hx2]; rfl
  have fX1 : W2.frozen? ⟨X, 1, none⟩ = false := by simp [World.frozen?, hx2]
  go_upto_region 3 with fail
  have hr3 := hr2.setP (u := pl + 1) (by omega) (by omega)
  have k3 := k2.setX (X := X) (S := fun k => k = X) rfl 1 (.int .i64 (pl + 1))
  clear hx2 cX1 fX1 hr2 k2
  generalize W2.setCell ⟨X, 1, none⟩ (.int .i64 (pl + 1)) = W3 at hr3 k3 ⊢
  dsimp only at hr3
  have kw3 := k1.x.trans k3
  have bC : ∀ w', Kept (fun k => k = X) W3 w' → w'.heap[B]? = some (.cells #[.int .u8 9, .string xa, .string xb, .string xc, .int .i64 n, .int .i64 m] 25 (0, 0)) := fun w' z => bW w' (k3.trans z)
  have cA : ∀ w', Kept (fun k => k = X) W3 w' → w'.cell? ⟨B, 1, none⟩ = some (.string xa) := fun w' z => by rw [cell_of_row _ _ _ _ _ _ (bC w' z)]; rfl
  have cB : ∀ w', Kept (fun k => k = X) W3 w' → w'.cell? ⟨B, 2, none⟩ = some (.string xb) := fun w' z => by rw [cell_of_row _ _ _ _ _ _ (bC w' z)]; rfl
  have cC : ∀ w', Kept (fun k => k = X) W3 w' → w'.cell? ⟨B, 3, none⟩ = some (.string xc) := fun w' z => by rw [cell_of_row _ _ _ _ _ _ (bC w' z)]; rfl
  have cN : ∀ w', Kept (fun k => k = X) W3 w' → w'.cell? ⟨B, 4, none⟩ = some (.int .i64 n) := fun w' z => by rw [cell_of_row _ _ _ _ _ _ (bC w' z)]; rfl
  have cM : ∀ w', Kept (fun k => k = X) W3 w' → w'.cell? ⟨B, 5, none⟩ = some (.int .i64 m) := fun w' z => by rw [cell_of_row _ _ _ _ _ _ (bC w' z)]; rfl
  have cO : W3.cell? ⟨B, 0, none⟩ = some (.int .u8 9) := by rw [cell_of_row _ _ _ _ _ _ (bC W3 (Kept.refl _ _))]; rfl
  have HD := Lib.hid (hS.trans (show doV F ⟨9, xa, xb, xc, n, m⟩ ⟨fs, pl + 1, us + 1⟩ = if ((getV ⟨fs, pl + 1, us + 1⟩ xa).getD []).isEmpty then .go ⟨fs, n, us + 1⟩ else .go ⟨fs, pl + 1, us + 1⟩ from rfl))
  have hrd := hr3.kept (Kept.drew (Kept.refl (fun _ => False) W3))
  clear bW bC hS hok
  have f3 := hfl 3 (by omega)
  simp only [fldOk, fldL, FLDS, InsE.u, List.getD] at f3
  simp at f3
  obtain ⟨vf3, hx3, ht3⟩ := hr3.cells
  have hz3 := (Array.getElem?_eq_some_iff.1 hx3).1
  have cX0 : ∀ w', Kept (fun _ => False) W3 w' → w'.cell? ⟨X, 0, none⟩ = some vf3 := fun w' z => by rw [cell_of_row _ _ _ _ _ _ (show w'.heap[X]? = some _ by rw [z.block _ hz3 not_false]; exact hx3)]; rfl
  have cA3 : ∀ w', Kept (fun _ => False) W3 w' → w'.cell? ⟨B, 1, none⟩ = some (.string xa) := fun w' z => cA w' z.x
  have hm3 : mayB fs = true := hr3.may
  have gc := fun w' (z : Kept (fun _ => False) W3 w') => get9_ct (ht3.kept z.x).at hm3 xa
  have hge : (getV ⟨fs, pl + 1, us + 1⟩ xa).getD [] = gotB fs xa := by
    unfold getV gotB
    by_cases q : thereB fs xa = true
    · rw [if_pos q, if_pos q]
    · rw [if_neg q, if_neg q]; rfl
  rw [hge] at HD
  clear hge
  generalize gotB fs xa = G at gc HD
  obtain ⟨av, cv, hvf⟩ := ht3.at.slc
  subst hvf
  clear hx3 ht3 hfl cA
  go_wp2_with fail
  refine wp_region_held_drew (S := (Kept (fun _ => False) W3)) (by kernel_rfl) ((Kept.refl _ W3).drew) (fun hHeld => ?_)
  refine held_q (v := ?_) (i := 0) rfl (by kernel_rfl) (by kernel_rfl) (by kernel_rfl) (fun _ _ _ h => h) (by rfl) hHeld ?_ ?_
  rotate_left
  · (intro w' hS'; go_simp <;> (with_reducible rfl))
  simp only [Act.put, List.getElem_toArray, List.getElem_cons_zero, List.getElem_cons_succ, List.setIfInBounds_toArray, List.set_cons_zero, List.set_cons_succ]
  refine held_q (v := ?_) (i := 1) rfl (by kernel_rfl) (by kernel_rfl) (by kernel_rfl) (fun _ _ _ h => h) (by rfl) hHeld ?_ ?_
  rotate_left
  · (intro w' hS'; go_simp <;> (with_reducible rfl))
  simp only [Act.put, List.getElem_toArray, List.getElem_cons_zero, List.getElem_cons_succ, List.setIfInBounds_toArray, List.set_cons_zero, List.set_cons_succ]
  refine held_q (v := ?_) (i := 2) rfl (by kernel_rfl) (by kernel_rfl) (by kernel_rfl) (fun _ _ _ h => h) (by rfl) hHeld ?_ ?_
  rotate_left
  · (intro w' hS'; go_simp <;> (with_reducible rfl))
  simp only [Act.put, List.getElem_toArray, List.getElem_cons_zero, List.getElem_cons_succ, List.setIfInBounds_toArray, List.set_cons_zero, List.set_cons_succ]
  refine held_q (v := ?_) (i := 3) rfl (by kernel_rfl) (by kernel_rfl) (by kernel_rfl) (fun _ _ _ h => h) (by rfl) hHeld ?_ ?_
  rotate_left
  · (intro w' hS'; go_simp <;> (with_reducible rfl))
  simp only [Act.put, List.getElem_toArray, List.getElem_cons_zero, List.getElem_cons_succ, List.setIfInBounds_toArray, List.set_cons_zero, List.set_cons_succ]
  refine held_q (v := ?_) (i := 4) rfl (by kernel_rfl) (by kernel_rfl) (by kernel_rfl) (fun _ _ _ h => h) (by rfl) hHeld ?_ ?_
  rotate_left
  · (intro w' hS'; go_simp <;> (with_reducible rfl))
  simp only [Act.put, List.getElem_toArray, List.getElem_cons_zero, List.getElem_cons_succ, List.setIfInBounds_toArray, List.set_cons_zero, List.set_cons_succ]
  refine held_q (v := ?_) (i := 5) rfl (by kernel_rfl) (by kernel_rfl) (by kernel_rfl) (fun _ _ _ h => h) (by rfl) hHeld ?_ ?_
  rotate_left
  · (intro w' hS'; go_simp <;> (with_reducible rfl))
  simp only [Act.put, List.getElem_toArray, List.getElem_cons_zero, List.getElem_cons_succ, List.setIfInBounds_toArray, List.set_cons_zero, List.set_cons_succ]
  refine held_c (i := 6) (f := 31) (args := #[.slice av fs.length cv, .string xa]) (by kernel_rfl) rfl (by rfl) ?_ (gc _ hHeld) ?_
  · (go_simp <;> rfl)
  rintro e W4 ⟨a4, c4, bb, rfl, k4⟩
  have hHeld := hHeld.trans k4
  refine ⟨_, rfl, hHeld, ?_⟩
  simp only [Act.put, List.getElem_toArray, List.getElem_cons_zero, List.getElem_cons_succ, List.setIfInBounds_toArray, List.set_cons_zero, List.set_cons_succ]
  refine held_q (v := ?_) (i := 7) rfl (by kernel_rfl) (by kernel_rfl) (by kernel_rfl) (fun _ _ _ h => h) (by rfl) hHeld ?_ ?_
  rotate_left
  · (intro w' hS'; go_simp <;> (with_reducible rfl))
  simp only [Act.put, List.getElem_toArray, List.getElem_cons_zero, List.getElem_cons_succ, List.setIfInBounds_toArray, List.set_cons_zero, List.set_cons_succ]
  refine held_q (v := ?_) (i := 8) rfl (by kernel_rfl) (by kernel_rfl) (by kernel_rfl) (fun _ _ _ h => h) (by rfl) hHeld ?_ ?_
  rotate_left
  · (intro w' hS'; go_simp <;> (with_reducible rfl))
  simp only [Act.put, List.getElem_toArray, List.getElem_cons_zero, List.getElem_cons_succ, List.setIfInBounds_toArray, List.set_cons_zero, List.set_cons_succ]
  refine held_q (v := ?_) (i := 9) rfl (by kernel_rfl) (by kernel_rfl) (by kernel_rfl) (fun _ _ _ h => h) (by rfl) hHeld ?_ ?_
  rotate_left
  · (intro w' hS'; go_simp <;> (with_reducible rfl))
  simp only [Act.put, List.getElem_toArray, List.getElem_cons_zero, List.getElem_cons_succ, List.setIfInBounds_toArray, List.set_cons_zero, List.set_cons_succ]
  refine held_q (v := ?_) (i := 10) rfl (by kernel_rfl) (by kernel_rfl) (by kernel_rfl) (fun _ _ _ h => h) (by rfl) hHeld ?_ ?_
  rotate_left
  · (intro w' hS'; go_simp <;> (with_reducible rfl))
  simp only [Act.put, List.getElem_toArray, List.getElem_cons_zero, List.getElem_cons_succ, List.setIfInBounds_toArray, List.set_cons_zero, List.set_cons_succ]
  refine held_q (v := ?_) (i := 11) rfl (by kernel_rfl) (by kernel_rfl) (by kernel_rfl) (fun _ _ _ h => h) (by rfl) hHeld ?_ ?_
  rotate_left
  · (intro w' hS'; go_simp <;> (with_reducible rfl))
  simp only [Act.put, List.getElem_toArray, List.getElem_cons_zero, List.getElem_cons_succ, List.setIfInBounds_toArray, List.set_cons_zero, List.set_cons_succ]
  refine wpAnyH_done (by kernel_rfl) ?_ _
  have hr4 := hr3.kept hHeld
  obtain ⟨vf4, hx4, _⟩ := hr4.cells
  have fX1 : W4.frozen? ⟨X, 1, none⟩ = false := by simp [World.frozen?, hx4]
  have cX1 : W4.cell? ⟨X, 1, none⟩ = some (.int .i64 (pl + 1)) := by rw [cell_of_row _ _ _ _ _ _ hx4]; rfl
  have cN4 := cN W4 hHeld.x
  have hr5 := hr4.setP (u := n) f3.1 (by omega)
  clear hx4 gc cX0 cA3
  by_cases hG : G = []
  · subst hG
    go_wp2_with fail
    go_end0
    exact ⟨VOut.good (by rw [HD.out]; rfl) hr5, (kw3.trans hHeld.x).setX rfl _ _⟩
  · have hg0 : G.length ≠ 0 := fun e => hG (List.eq_nil_of_length_eq_zero e)
    have hGi : G.isEmpty = false := by cases G with
      | nil => exact absurd rfl hG
      | cons _ _ => rfl
    rw [hGi] at HD
    clear hGi hG
    have d0 : decide ((G.length : Int) = 0) = false := decide_eq_false (by omega)
    go_wp2_with fail
    go_end0
    exact ⟨VOut.good (by rw [HD.out]; rfl) hr4, kw3.trans hHeld.x⟩
set_option maxRecDepth 100000 in
set_option maxHeartbeats 8000000 in
theorem step10_ct {w : World} {X : Nat} {F : Int} {s : VmS} (h : RunAt w X F s) {x : InsE} (hx : x.Fits) {many : Int} (hok : oneB x many = true) (hmany : many ≤ 900) (hop : x.op = 10) (hpl : s.pl ≤ 900) (hle : s.us + 1 ≤ F) :
    Calls Tryd.prog 18 #[.pointer (some ⟨X, 0, none⟩), .agg (insC x).toArray] w fun e w' => VOut X F (stepV F x s) e w' ∧ Kept (fun k => k = X) w w' := by
  obtain ⟨op, xa, xb, xc, n, m⟩ := x
  dsimp only at hop
  obtain ⟨fs, pl, us⟩ := s
  dsimp only at hpl
  obtain ⟨o1, o2, hfl⟩ := one_at hok
  have hpl0 : 0 ≤ pl := h.pl0
  have hus0 : 0 ≤ us := h.us0
  have hF1 : F ≤ 20000 := h.F1
  have hS : stepV F ⟨op, xa, xb, xc, n, m⟩ ⟨fs, pl, us⟩ = doV F ⟨op, xa, xb, xc, n, m⟩ ⟨fs, pl + 1, us + 1⟩ := by
    unfold stepV payV
    rw [if_pos hle]
  have pc0 : payV F ⟨fs, pl, us⟩ 1 = .go ⟨fs, pl, us + 1⟩ := by unfold payV; rw [if_pos hle]
  obtain ⟨_, ha, hb, hc, hn, hm2⟩ := hx
  dsimp only at ha hb hc hn hm2
  subst hop
  obtain ⟨vf0, hx0, _⟩ := h.cells
  have hXw := (Array.getElem?_eq_some_iff.1 hx0).1
  clear hx0
  unfold insC
  have k1 : Kept (fun _ => False) w (w.alloc (.cells #[.int .u8 10, .string xa, .string xb, .string xc, .int .i64 n, .int .i64 m] 25)) := (Kept.refl _ w).alloc _
  have hb0 := heap_last w (.cells #[.int .u8 10, .string xa, .string xb, .string xc, .int .i64 n, .int .i64 m] 25)
  go_enter Tryd.func18, Tryd.ntmps18
  go_upto_region 1 with fail
  generalize w.alloc (.cells #[.int .u8 10, .string xa, .string xb, .string xc, .int .i64 n, .int .i64 m] 25) = W1 at k1 hb0 ⊢
  generalize hBe : w.heap.size = B at hb0 ⊢
  have hBX : ¬ B = X := by omega
  have hBl := (Array.getElem?_eq_some_iff.1 hb0).1
  have hr1 := h.kept k1
  have bW : ∀ w', Kept (fun k => k = X) W1 w' → w'.heap[B]? = some (.cells #[.int .u8 10, .string xa, .string xb, .string xc, .int .i64 n, .int .i64 m] 25 (0, 0)) := fun w' z => by rw [z.block _ hBl hBX]; exact hb0
  have pc := pay_ct hr1 (n := 1) (by omega) (by omega)
  rw [pc0] at pc
  clear hb0 pc0
  go_wp2_with fail
  refine pc.mono ?_
  rintro e W2 ⟨⟨rfl, hr2⟩, k2⟩
  clear pc
  obtain ⟨vf, hx2, _⟩ := hr2.cells
  have cX1 : W2.cell? ⟨X, 1, none⟩ = some (.int .i64 pl) := by rw [cell_of_row _ _ _ _ _ _ hx2]; rfl
  have fX1 : W2.frozen? ⟨X, 1, none⟩ = false := by simp [World.frozen?, hx2]
  go_upto_region 3 with fail
  have hr3 := hr2.setP (u := pl + 1) (by omega) (by omega)
  have k3 := k2.setX (X := X) (S := fun k => k = X) rfl 1 (.int .i64 (pl + 1))
  clear hx2 cX1 fX1 hr2 k2
  generalize W2.setCell ⟨X, 1, none⟩ (.int .i64 (pl + 1)) = W3 at hr3 k3 ⊢
  dsimp only at hr3
  have kw3 := k1.x.trans k3
  have bC : ∀ w', Kept (fun k => k = X) W3 w' → w'.heap[B]? = some (.cells #[.int .u8 10, .string xa, .string xb, .string xc, .int .i64 n, .int .i64 m] 25 (0, 0)) := fun w' z => bW w' (k3.trans z)
  have cA : ∀ w', Kept (fun k => k = X) W3 w' → w'.cell? ⟨B, 1, none⟩ = some (.string xa) := fun w' z => by rw [cell_of_row _ _ _ _ _ _ (bC w' z)]; rfl
  have cB : ∀ w', Kept (fun k => k = X) W3 w' → w'.cell? ⟨B, 2, none⟩ = some (.string xb) := fun w' z => by rw [cell_of_row _ _ _ _ _ _ (bC w' z)]; rfl
  have cC : ∀ w', Kept (fun k => k = X) W3 w' → w'.cell? ⟨B, 3, none⟩ = some (.string xc) := fun w' z => by rw [cell_of_row _ _ _ _ _ _ (bC w' z)]; rfl
  have cN : ∀ w', Kept (fun k => k = X) W3 w' → w'.cell? ⟨B, 4, none⟩ = some (.int .i64 n) := fun w' z => by rw [cell_of_row _ _ _ _ _ _ (bC w' z)]; rfl
  have cM : ∀ w', Kept (fun k => k = X) W3 w' → w'.cell? ⟨B, 5, none⟩ = some (.int .i64 m) := fun w' z => by rw [cell_of_row _ _ _ _ _ _ (bC w' z)]; rfl
  have cO : W3.cell? ⟨B, 0, none⟩ = some (.int .u8 10) := by rw [cell_of_row _ _ _ _ _ _ (bC W3 (Kept.refl _ _))]; rfl
  have HD := Lib.hid (hS.trans (show doV F ⟨10, xa, xb, xc, n, m⟩ ⟨fs, pl + 1, us + 1⟩ = get2 ⟨fs, pl + 1, us + 1⟩ xa xb fun p q => if p == q then .go ⟨fs, n, us + 1⟩ else .go ⟨fs, pl + 1, us + 1⟩ from rfl))
  have hrd := hr3.kept (Kept.drew (Kept.refl (fun _ => False) W3))
  clear bW bC hS hok
  have f3 := hfl 3 (by omega)
  simp only [fldOk, fldL, FLDS, InsE.u, List.getD] at f3
  simp at f3
  clear hfl
  go_wp2_with fail
  cases hg : getV ⟨fs, pl + 1, us + 1⟩ xa with
  | none =>
    have HD : Hid (stepV F ⟨10, xa, xb, xc, n, m⟩ ⟨fs, pl, us⟩ = .stop 70 (us + 1)) := by unfold Hid; rw [HD.out]; unfold get2; rw [hg]
    refine wp_region_held_drew (S := (Kept (fun k => k = X) W3)) (by kernel_rfl) ((Kept.refl (fun k => k = X) W3).drew) (fun hHeld => ?_)
    refine held_q (v := ?_) (i := 0) rfl (by kernel_rfl) (by kernel_rfl) (by kernel_rfl) (fun _ _ _ h => h) (by rfl) hHeld ?_ ?_
    rotate_left
    · (intro w' hS'; go_simp <;> (with_reducible rfl))
    simp only [Act.put, List.getElem_toArray, List.getElem_cons_zero, List.getElem_cons_succ, List.setIfInBounds_toArray, List.set_cons_zero, List.set_cons_succ]
    refine held_q (v := ?_) (i := 1) rfl (by kernel_rfl) (by kernel_rfl) (by kernel_rfl) (fun _ _ _ h => h) (by rfl) hHeld ?_ ?_
    rotate_left
    · (intro w' hS'; go_simp <;> (with_reducible rfl))
    simp only [Act.put, List.getElem_toArray, List.getElem_cons_zero, List.getElem_cons_succ, List.setIfInBounds_toArray, List.set_cons_zero, List.set_cons_succ]
    refine held_q (v := ?_) (i := 2) rfl (by kernel_rfl) (by kernel_rfl) (by kernel_rfl) (fun _ _ _ h => h) (by rfl) hHeld ?_ ?_
    rotate_left
    · (intro w' hS'; go_simp <;> (with_reducible rfl))
    simp only [Act.put, List.getElem_toArray, List.getElem_cons_zero, List.getElem_cons_succ, List.setIfInBounds_toArray, List.set_cons_zero, List.set_cons_succ]
    refine held_q (v := ?_) (i := 4) rfl (by kernel_rfl) (by kernel_rfl) (by kernel_rfl) (fun _ _ _ h => h) (by rfl) hHeld ?_ ?_
    rotate_left
    · (intro w' hS'; go_simp <;> (with_reducible rfl))
    simp only [Act.put, List.getElem_toArray, List.getElem_cons_zero, List.getElem_cons_succ, List.setIfInBounds_toArray, List.set_cons_zero, List.set_cons_succ]
    refine held_q (v := ?_) (i := 5) rfl (by kernel_rfl) (by kernel_rfl) (by kernel_rfl) (fun _ _ _ h => h) (by rfl) hHeld ?_ ?_
    rotate_left
    · (intro w' hS'; go_simp <;> (with_reducible rfl))
    simp only [Act.put, List.getElem_toArray, List.getElem_cons_zero, List.getElem_cons_succ, List.setIfInBounds_toArray, List.set_cons_zero, List.set_cons_succ]
    refine held_q (v := ?_) (i := 6) rfl (by kernel_rfl) (by kernel_rfl) (by kernel_rfl) (fun _ _ _ h => h) (by rfl) hHeld ?_ ?_
    rotate_left
    · (intro w' hS'; go_simp <;> (with_reducible rfl))
    simp only [Act.put, List.getElem_toArray, List.getElem_cons_zero, List.getElem_cons_succ, List.setIfInBounds_toArray, List.set_cons_zero, List.set_cons_succ]
    refine held_cp (i := 3) (f := 24) (args := #[.pointer (some ⟨X, 0, none⟩), .string xa]) (by kernel_rfl) rfl (by rfl) ?_ (vget_no hrd hg) ?_
    · (go_simp <;> rfl)
    rintro e w' ⟨rfl, hr4, k4⟩
    refine .inr ⟨_, rfl, ?_⟩
    go_wp2_with fail
    exact ⟨rfl, VOut.bad HD.out ⟨_, hr4, rfl⟩, kw3.trans (hHeld.trans k4.x)⟩
  | some b =>
    cases hg2 : getV ⟨fs, pl + 1, us + 1⟩ xb with
    | none =>
      have HD : Hid (stepV F ⟨10, xa, xb, xc, n, m⟩ ⟨fs, pl, us⟩ = .stop 70 (us + 1)) := by unfold Hid; rw [HD.out]; unfold get2; rw [hg, hg2]
      refine wp_region_held_drew (S := (Kept (fun k => k = X) W3)) (by kernel_rfl) ((Kept.refl (fun k => k = X) W3).drew) (fun hHeld => ?_)
      refine held_q (v := ?_) (i := 0) rfl (by kernel_rfl) (by kernel_rfl) (by kernel_rfl) (fun _ _ _ h => h) (by rfl) hHeld ?_ ?_
      rotate_left
      · (intro w' hS'; go_simp <;> (with_reducible rfl))
      simp only [Act.put, List.getElem_toArray, List.getElem_cons_zero, List.getElem_cons_succ, List.setIfInBounds_toArray, List.set_cons_zero, List.set_cons_succ]
      refine held_q (v := ?_) (i := 1) rfl (by kernel_rfl) (by kernel_rfl) (by kernel_rfl) (fun _ _ _ h => h) (by rfl) hHeld ?_ ?_
      rotate_left
      · (intro w' hS'; go_simp <;> (with_reducible rfl))
      simp only [Act.put, List.getElem_toArray, List.getElem_cons_zero, List.getElem_cons_succ, List.setIfInBounds_toArray, List.set_cons_zero, List.set_cons_succ]
      refine held_q (v := ?_) (i := 2) rfl (by kernel_rfl) (by kernel_rfl) (by kernel_rfl) (fun _ _ _ h => h) (by rfl) hHeld ?_ ?_
      rotate_left
      · (intro w' hS'; go_simp <;> (with_reducible rfl))
      simp only [Act.put, List.getElem_toArray, List.getElem_cons_zero, List.getElem_cons_succ, List.setIfInBounds_toArray, List.set_cons_zero, List.set_cons_succ]
      refine held_q (v := ?_) (i := 4) rfl (by kernel_rfl) (by kernel_rfl) (by kernel_rfl) (fun _ _ _ h => h) (by rfl) hHeld ?_ ?_
      rotate_left
      · (intro w' hS'; go_simp <;> (with_reducible rfl))
      simp only [Act.put, List.getElem_toArray, List.getElem_cons_zero, List.getElem_cons_succ, List.setIfInBounds_toArray, List.set_cons_zero, List.set_cons_succ]
      refine held_q (v := ?_) (i := 5) rfl (by kernel_rfl) (by kernel_rfl) (by kernel_rfl) (fun _ _ _ h => h) (by rfl) hHeld ?_ ?_
      rotate_left
      · (intro w' hS'; go_simp <;> (with_reducible rfl))
      simp only [Act.put, List.getElem_toArray, List.getElem_cons_zero, List.getElem_cons_succ, List.setIfInBounds_toArray, List.set_cons_zero, List.set_cons_succ]
      refine held_q (v := ?_) (i := 6) rfl (by kernel_rfl) (by kernel_rfl) (by kernel_rfl) (fun _ _ _ h => h) (by rfl) hHeld ?_ ?_
      rotate_left
      · (intro w' hS'; go_simp <;> (with_reducible rfl))
      simp only [Act.put, List.getElem_toArray, List.getElem_cons_zero, List.getElem_cons_succ, List.setIfInBounds_toArray, List.set_cons_zero, List.set_cons_succ]
      refine held_c (i := 3) (f := 24) (args := #[.pointer (some ⟨X, 0, none⟩), .string xa]) (by kernel_rfl) rfl (by rfl) ?_ (vget_yes hrd hg) ?_
      · (go_simp <;> rfl)
      rintro e W4 ⟨v4, rfl, hb4, hr4, k4⟩
      have hHeld := hHeld.trans k4.x
      refine ⟨_, rfl, hHeld, ?_⟩
      simp only [Act.put, List.getElem_toArray, List.getElem_cons_zero, List.getElem_cons_succ, List.setIfInBounds_toArray, List.set_cons_zero, List.set_cons_succ]
      refine held_cp (i := 7) (f := 24) (args := #[.pointer (some ⟨X, 0, none⟩), .string xb]) (by kernel_rfl) rfl (by rfl) ?_ (vget_no hr4 hg2) ?_
      · (go_simp <;> rfl)
      rintro e w' ⟨rfl, hr5, k5⟩
      refine .inr ⟨_, rfl, ?_⟩
      go_wp2_with fail
      exact ⟨rfl, VOut.bad HD.out ⟨_, hr5, rfl⟩, kw3.trans (hHeld.trans k5.x)⟩
    | some b2 =>
      have HD : Hid (stepV F ⟨10, xa, xb, xc, n, m⟩ ⟨fs, pl, us⟩ = if b == b2 then .go ⟨fs, n, us + 1⟩ else .go ⟨fs, pl + 1, us + 1⟩) := by unfold Hid; rw [HD.out]; unfold get2; rw [hg, hg2]
      refine wp_region_held_drew (S := (Kept (fun k => k = X) W3)) (by kernel_rfl) ((Kept.refl (fun k => k = X) W3).drew) (fun hHeld => ?_)
      refine held_q (v := ?_) (i := 0) rfl (by kernel_rfl) (by kernel_rfl) (by kernel_rfl) (fun _ _ _ h => h) (by rfl) hHeld ?_ ?_
      rotate_left
      · (intro w' hS'; go_simp <;> (with_reducible rfl))
      simp only [Act.put, List.getElem_toArray, List.getElem_cons_zero, List.getElem_cons_succ, List.setIfInBounds_toArray, List.set_cons_zero, List.set_cons_succ]
      refine held_q (v := ?_) (i := 1) rfl (by kernel_rfl) (by kernel_rfl) (by kernel_rfl) (fun _ _ _ h => h) (by rfl) hHeld ?_ ?_
      rotate_left
      · (intro w' hS'; go_simp <;> (with_reducible rfl))
      simp only [Act.put, List.getElem_toArray, List.getElem_cons_zero, List.getElem_cons_succ, List.setIfInBounds_toArray, List.set_cons_zero, List.set_cons_succ]
      refine held_q (v := ?_) (i := 2) rfl (by kernel_rfl) (by kernel_rfl) (by kernel_rfl) (fun _ _ _ h => h) (by rfl) hHeld ?_ ?_
      rotate_left
      · (intro w' hS'; go_simp <;> (with_reducible rfl))
      simp only [Act.put, List.getElem_toArray, List.getElem_cons_zero, List.getElem_cons_succ, List.setIfInBounds_toArray, List.set_cons_zero, List.set_cons_succ]
      refine held_q (v := ?_) (i := 4) rfl (by kernel_rfl) (by kernel_rfl) (by kernel_rfl) (fun _ _ _ h => h) (by rfl) hHeld ?_ ?_
      rotate_left
      · (intro w' hS'; go_simp <;> (with_reducible rfl))
      simp only [Act.put, List.getElem_toArray, List.getElem_cons_zero, List.getElem_cons_succ, List.setIfInBounds_toArray, List.set_cons_zero, List.set_cons_succ]
      refine held_q (v := ?_) (i := 5) rfl (by kernel_rfl) (by kernel_rfl) (by kernel_rfl) (fun _ _ _ h => h) (by rfl) hHeld ?_ ?_
      rotate_left
      · (intro w' hS'; go_simp <;> (with_reducible rfl))
      simp only [Act.put, List.getElem_toArray, List.getElem_cons_zero, List.getElem_cons_succ, List.setIfInBounds_toArray, List.set_cons_zero, List.set_cons_succ]
      refine held_q (v := ?_) (i := 6) rfl (by kernel_rfl) (by kernel_rfl) (by kernel_rfl) (fun _ _ _ h => h) (by rfl) hHeld ?_ ?_
      rotate_left
      · (intro w' hS'; go_simp <;> (with_reducible rfl))
      simp only [Act.put, List.getElem_toArray, List.getElem_cons_zero, List.getElem_cons_succ, List.setIfInBounds_toArray, List.set_cons_zero, List.set_cons_succ]
      refine held_c (i := 3) (f := 24) (args := #[.pointer (some ⟨X, 0, none⟩), .string xa]) (by kernel_rfl) rfl (by rfl) ?_ (vget_yes hrd hg) ?_
      · (go_simp <;> rfl)
      rintro e W4 ⟨v4, rfl, hb4, hr4, k4⟩
      have hHeld := hHeld.trans k4.x
      refine ⟨_, rfl, hHeld, ?_⟩
      simp only [Act.put, List.getElem_toArray, List.getElem_cons_zero, List.getElem_cons_succ, List.setIfInBounds_toArray, List.set_cons_zero, List.set_cons_succ]
      refine held_c (i := 7) (f := 24) (args := #[.pointer (some ⟨X, 0, none⟩), .string xb]) (by kernel_rfl) rfl (by rfl) ?_ (vget_yes hr4 hg2) ?_
      · (go_simp <;> rfl)
      rintro e W5 ⟨v5, rfl, hb5, hr5, k5⟩
      have hHeld := hHeld.trans k5.x
      refine ⟨_, rfl, hHeld, ?_⟩
      simp only [Act.put, List.getElem_toArray, List.getElem_cons_zero, List.getElem_cons_succ, List.setIfInBounds_toArray, List.set_cons_zero, List.set_cons_succ]
      refine held_c (i := 8) (f := 32) (args := #[v4, v5]) (by kernel_rfl) rfl (by rfl) ?_ (bytesEqual_ct (hb4.kept k5.x).at.1 hb5.at.1) ?_
      · (go_simp <;> rfl)
      rintro e W6 ⟨rfl, k6⟩
      have hHeld := hHeld.trans k6.x
      refine ⟨_, rfl, hHeld, ?_⟩
      simp only [Act.put, List.getElem_toArray, List.getElem_cons_zero, List.getElem_cons_succ, List.setIfInBounds_toArray, List.set_cons_zero, List.set_cons_succ]
      refine wpAnyH_done (by kernel_rfl) ?_ _
      have hr6 := hr5.kept k6
      obtain ⟨vf6, hx6, _⟩ := hr6.cells
      have fX1 : W6.frozen? ⟨X, 1, none⟩ = false := by simp [World.frozen?, hx6]
      have cX1 : W6.cell? ⟨X, 1, none⟩ = some (.int .i64 (pl + 1)) := by rw [cell_of_row _ _ _ _ _ _ hx6]; rfl
      have cN6 := cN W6 hHeld
      have hr7 := hr6.setP (u := n) f3.1 (by omega)
      clear hx6
      generalize (b == b2) = q at HD ⊢
      cases q with
      | true =>
        go_wp2_with fail
        go_end0
        exact ⟨VOut.good (by rw [HD.out]; rfl) hr7, (kw3.trans hHeld).setX rfl _ _⟩
      | false =>
        go_wp2_with fail
        go_end0
        exact ⟨VOut.good (by rw [HD.out]; rfl) hr6, kw3.trans hHeld⟩
end Go.Proofs.YthachckofghppaaDoor
