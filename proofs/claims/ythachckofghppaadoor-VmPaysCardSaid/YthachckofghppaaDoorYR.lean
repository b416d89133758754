/- vm.step: Jump, Fail (printed by wip/gen_step.py). -/
import Derived.Test.YthachckofghppaaDoorYO
namespace Go.Proofs.YthachckofghppaaDoor
open Go.RowKit
set_option maxRecDepth 100000
set_option linter.unusedSimpArgs false
set_option linter.unusedVariables false


set_option maxRecDepth 100000 in
set_option maxHeartbeats 8000000 in
theorem step8_ct {w : World} {X : Nat} {F : Int} {s : VmS} (h : RunAt w X F s) {x : InsE} (hx : x.Fits) {many : Int} (hok : oneB x many = true) (hmany : many ≤ 900) (hop : x.op = 8) (hpl : s.pl ≤ 900) (hle : s.us + 1 ≤ F) :
    Calls Tryd.prog 18 #[.pointer (some ⟨X, 0, none⟩), .agg (insC x).toArray] w fun e w' => VOut X F (stepV F x s) e w' ∧ Kept (fun k => k = X) w w' := by
  obtain ⟨op, xa, xb, xc, n, m⟩ := x
  dsimp only at hop
  obtain ⟨fs, pl, us⟩ := s
  dsimp only at hpl
  obtain ⟨o1, o2, hfl⟩ := one_at hok
  have hpl0 : 0 ≤ pl := h.pl0
  have hus0 : 0 ≤ us := h.us0
  have hF1 : F ≤ 20000 := h.F1
  have hS : stepV F ⟨op, xa, xb, xc, n, m⟩ ⟨fs, pl, us⟩ = doV F ⟨op, xa, xb, xc, n, m⟩ ⟨fs, pl + 1, us + 1⟩ := by
    unfold stepV payV
    rw [if_pos hle]
  have pc0 : payV F ⟨fs, pl, us⟩ 1 = .go ⟨fs, pl, us + 1⟩ := by unfold payV; rw [if_pos hle]
  obtain ⟨_, ha, hb, hc, hn, hm2⟩ := hx
  dsimp only at ha hb hc hn hm2
  subst hop
  obtain ⟨vf0, hx0, _⟩ := h.cells
  have hXw := (Array.getElem?_eq_some_iff.1 hx0).1
  clear hx0
  unfold insC
  have k1 : Kept (fun _ => False) w (w.alloc (.cells #[.int .u8 8, .string xa, .string xb, .string xc, .int .i64 n, .int .i64 m] 25)) := (Kept.refl _ w).alloc _
  have hb0 := heap_last w (.cells #[.int .u8 8, .string xa, .string xb, .string xc, .int .i64 n, .int .i64 m] 25)
  go_enter Tryd.func18, Tryd.ntmps18
  go_upto_region 1 with fail
  generalize w.alloc (.cells #[.int .u8 8, .string xa, .string xb, .string xc, .int .i64 n, .int .i64 m] 25) = W1 at k1 hb0 ⊢
  generalize hBe : w.heap.size = B at hb0 ⊢
  have hBX : ¬ B = X := by omega
  have hBl := (Array.getElem?_eq_some_iff.1 hb0).1
  have hr1 := h.kept k1
  have bW : ∀ w', Kept (fun k => k = X) W1 w' → w'.heap[B]? = some (.cells #[.int .u8 8, .string xa, .string xb, .string xc, .int .i64 n, .int .i64 m] 25 (0, 0)) := fun w' z => by rw [z.block _ hBl hBX]; exact hb0
  have pc := pay_ct hr1 (n := 1) (by omega) (by omega)
  rw [pc0] at pc
  clear hb0 pc0
  go_wp2_with fail
  refine pc.mono ?_
  rintro e W2 ⟨⟨rfl, hr2⟩, k2⟩
  clear pc
  obtain ⟨vf, hx2, _⟩ := hr2.cells
  have cX1 : W2.cell? ⟨X, 1, none⟩ = some (.int .i64 pl) := by rw [cell_of_row _ _ _ _ _ _ hx2]; rfl
  have fX1 : W2.frozen? ⟨X, 1, none⟩ = false := by simp [World.frozen?, hx2]
  go_upto_region 3 with fail
  have hr3 := hr2.setP (u := pl + 1) (by omega) (by omega)
  have k3 := k2.setX (X := X) (S := fun k => k = X) rfl 1 (.int .i64 (pl + 1))
  clear hx2 cX1 fX1 hr2 k2
  generalize W2.setCell ⟨X, 1, none⟩ (.int .i64 (pl + 1)) = W3 at hr3 k3 ⊢
  dsimp only at hr3
  have kw3 := k1.x.trans k3
  have bC : ∀ w', Kept (fun k => k = X) W3 w' → w'.heap[B]? = some (.cells #[.int .u8 8, .string xa, .string xb, .string xc, .int .i64 n, .int .i64 m] 25 (0, 0)) := fun w' z => bW w' (k3.trans z)
  have cA : ∀ w', Kept (fun k => k = X) W3 w' → w'.cell? ⟨B, 1, none⟩ = some (.string xa) := fun w' z => by rw [cell_of_row _ _ _ _ _ _ (bC w' z)]; rfl
  have cB : ∀ w', Kept (fun k => k = X) W3 w' → w'.cell? ⟨B, 2, none⟩ = some (.string xb) := fun w' z => by rw [cell_of_row _ _ _ _ _ _ (bC w' z)]; rfl
  have cC : ∀ w', Kept (fun k => k = X) W3 w' → w'.cell? ⟨B, 3, none⟩ = some (.string xc) := fun w' z => by rw [cell_of_row _ _ _ _ _ _ (bC w' z)]; rfl
  have cN : ∀ w', Kept (fun k => k = X) W3 w' → w'.cell? ⟨B, 4, none⟩ = some (.int .i64 n) := fun w' z => by rw [cell_of_row _ _ _ _ _ _ (bC w' z)]; rfl
  have cM : ∀ w', Kept (fun k => k = X) W3 w' → w'.cell? ⟨B, 5, none⟩ = some (.int .i64 m) := fun w' z => by rw [cell_of_row _ _ _ _ _ _ (bC w' z)]; rfl
  have cO : W3.cell? ⟨B, 0, none⟩ = some (.int .u8 8) := by rw [cell_of_row _ _ _ _ _ _ (bC W3 (Kept.refl _ _))]; rfl
  have HD := Lib.hid (hS.trans (show doV F ⟨8, xa, xb, xc, n, m⟩ ⟨fs, pl + 1, us + 1⟩ = .go ⟨fs, n, us + 1⟩ from rfl))
  have hrd := hr3.kept (Kept.drew (Kept.refl (fun _ => False) W3))
  clear bW bC hS hok
  have f3 := hfl 3 (by omega)
  simp only [fldOk, fldL, FLDS, InsE.u, List.getD] at f3
  simp at f3
  clear hfl
  obtain ⟨vf3, hx3, _⟩ := hr3.cells
  have fX1 : W3.frozen? ⟨X, 1, none⟩ = false := by simp [World.frozen?, hx3]
  have cX1 : W3.cell? ⟨X, 1, none⟩ = some (.int .i64 (pl + 1)) := by rw [cell_of_row _ _ _ _ _ _ hx3]; rfl
  have cN3 := cN W3 (Kept.refl _ _)
  have hr5 := hr3.setP (u := n) f3.1 (by omega)
  clear hx3
  go_wp2_with fail
  go_end0
  exact ⟨VOut.good HD.out hr5, kw3.setX rfl _ _⟩
set_option maxRecDepth 100000 in
set_option maxHeartbeats 8000000 in
theorem step11_ct {w : World} {X : Nat} {F : Int} {s : VmS} (h : RunAt w X F s) {x : InsE} (hx : x.Fits) {many : Int} (hok : oneB x many = true) (hmany : many ≤ 900) (hop : x.op = 11) (hpl : s.pl ≤ 900) (hle : s.us + 1 ≤ F) :
    Calls Tryd.prog 18 #[.pointer (some ⟨X, 0, none⟩), .agg (insC x).toArray] w fun e w' => VOut X F (stepV F x s) e w' ∧ Kept (fun k => k = X) w w' := by
  obtain ⟨op, xa, xb, xc, n, m⟩ := x
  dsimp only at hop
  obtain ⟨fs, pl, us⟩ := s
  dsimp only at hpl
  obtain ⟨o1, o2, hfl⟩ := one_at hok
  have hpl0 : 0 ≤ pl := h.pl0
  have hus0 : 0 ≤ us := h.us0
  have hF1 : F ≤ 20000 := h.F1
  have hS : stepV F ⟨op, xa, xb, xc, n, m⟩ ⟨fs, pl, us⟩ = doV F ⟨op, xa, xb, xc, n, m⟩ ⟨fs, pl + 1, us + 1⟩ := by
    unfold stepV payV
    rw [if_pos hle]
  have pc0 : payV F ⟨fs, pl, us⟩ 1 = .go ⟨fs, pl, us + 1⟩ := by unfold payV; rw [if_pos hle]
  obtain ⟨_, ha, hb, hc, hn, hm2⟩ := hx
  dsimp only at ha hb hc hn hm2
  subst hop
  obtain ⟨vf0, hx0, _⟩ := h.cells
  have hXw := (Array.getElem?_eq_some_iff.1 hx0).1
  clear hx0
  unfold insC
  have k1 : Kept (fun _ => False) w (w.alloc (.cells #[.int .u8 11, .string xa, .string xb, .string xc, .int .i64 n, .int .i64 m] 25)) := (Kept.refl _ w).alloc _
  have hb0 := heap_last w (.cells #[.int .u8 11, .string xa, .string xb, .string xc, .int .i64 n, .int .i64 m] 25)
  go_enter Tryd.func18, Tryd.ntmps18
  go_upto_region 1 with fail
  generalize w.alloc (.cells #[.int .u8 11, .string xa, .string xb, .string xc, .int .i64 n, .int .i64 m] 25) = W1 at k1 hb0 ⊢
  generalize hBe : w.heap.size = B at hb0 ⊢
  have hBX : ¬ B = X := by omega
  have hBl := (Array.getElem?_eq_some_iff.1 hb0).1
  have hr1 := h.kept k1
  have bW : ∀ w', Kept (fun k => k = X) W1 w' → w'.heap[B]? = some (.cells #[.int .u8 11, .string xa, .string xb, .string xc, .int .i64 n, .int .i64 m] 25 (0, 0)) := fun w' z => by rw [z.block _ hBl hBX]; exact hb0
  have pc := pay_ct hr1 (n := 1) (by omega) (by omega)
  rw [pc0] at pc
  clear hb0 pc0
  go_wp2_with fail
  refine pc.mono ?_
  rintro e W2 ⟨⟨rfl, hr2⟩, k2⟩
  clear pc
  obtain ⟨vf, hx2, _⟩ := hr2.cells
  have cX1 : W2.cell? ⟨X, 1, none⟩ = some (.int .i64 pl) := by rw [cell_of_row _ _ _ _ _ _ hx2]; rfl
  have fX1 : W2.frozen? ⟨X, 1, none⟩ = false := by simp [World.frozen?, hx2]
  go_upto_region 3 with fail
  have hr3 := hr2.setP (u := pl + 1) (by omega) (by omega)
  have k3 := k2.setX (X := X) (S := fun k => k = X) rfl 1 (.int .i64 (pl + 1))
  clear hx2 cX1 fX1 hr2 k2
  generalize W2.setCell ⟨X, 1, none⟩ (.int .i64 (pl + 1)) = W3 at hr3 k3 ⊢
  dsimp only at hr3
  have kw3 := k1.x.trans k3
  have bC : ∀ w', Kept (fun k => k = X) W3 w' → w'.heap[B]? = some (.cells #[.int .u8 11, .string xa, .string xb, .string xc, .int .i64 n, .int .i64 m] 25 (0, 0)) := fun w' z => bW w' (k3.trans z)
  have cA : ∀ w', Kept (fun k => k = X) W3 w' → w'.cell? ⟨B, 1, none⟩ = some (.string xa) := fun w' z => by rw [cell_of_row _ _ _ _ _ _ (bC w' z)]; rfl
  have cB : ∀ w', Kept (fun k => k = X) W3 w' → w'.cell? ⟨B, 2, none⟩ = some (.string xb) := fun w' z => by rw [cell_of_row _ _ _ _ _ _ (bC w' z)]; rfl
  have cC : ∀ w', Kept (fun k => k = X) W3 w' → w'.cell? ⟨B, 3, none⟩ = some (.string xc) := fun w' z => by rw [cell_of_row _ _ _ _ _ _ (bC w' z)]; rfl
  have cN : ∀ w', Kept (fun k => k = X) W3 w' → w'.cell? ⟨B, 4, none⟩ = some (.int .i64 n) := fun w' z => by rw [cell_of_row _ _ _ _ _ _ (bC w' z)]; rfl
  have cM : ∀ w', Kept (fun k => k = X) W3 w' → w'.cell? ⟨B, 5, none⟩ = some (.int .i64 m) := fun w' z => by rw [cell_of_row _ _ _ _ _ _ (bC w' z)]; rfl
  have cO : W3.cell? ⟨B, 0, none⟩ = some (.int .u8 11) := by rw [cell_of_row _ _ _ _ _ _ (bC W3 (Kept.refl _ _))]; rfl
  have HD := Lib.hid (hS.trans (show doV F ⟨11, xa, xb, xc, n, m⟩ ⟨fs, pl + 1, us + 1⟩ = .stop 72 (us + 1) from rfl))
  have hrd := hr3.kept (Kept.drew (Kept.refl (fun _ => False) W3))
  clear bW bC hS hok
  clear hfl
  go_wp2_with fail
  refine (must_no 72 _).mono ?_
  rintro e w' ⟨rfl, hw⟩
  subst hw
  go_wp2_with fail
  exact ⟨rfl, VOut.bad HD.out ⟨_, hr3, rfl⟩, kw3⟩
end Go.Proofs.YthachckofghppaaDoor
