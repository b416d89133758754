/- The runs of layer 7 in memory; vm.must, pay. -/
import Derived.Test.YthachckofghppaaDoorYC
import Derived.WalkLawsBesides
namespace Go.Proofs.YthachckofghppaaDoor
open Go.RowKit
set_option maxRecDepth 100000
set_option linter.unusedSimpArgs false
set_option linter.unusedVariables false

section
variable {P : Program} {ops : Array Oper} {Q : Exit → Act → World → Prop} {md : Region.Mode} {S : World → Prop}
/-- A call inside a drawn region that may panic. -/
theorem held_cp {i : Nat} {o : Oper} {f : FuncId} {args : Array Value} {fuel : Nat} {listed : Array Bool} {a : Act} {w : World} (hr : Region.ready md ops listed = [i]) (ho : ops[i]? = some o)
    (hw : Region.wanted o (yielded ops a.tmps) = true) (hrun : (execOp a.eval o).run P w = .ok (.enter f args) w) {R : Ending → World → Prop} (hc : Calls P f args w R)
    (h : ∀ e w', R e w' → (∃ v, e = .returned v ∧ S w' ∧ wpAnyH P md ops Q S fuel (listed.setIfInBounds i true) (a.put o.dst v) w') ∨ ∃ c, e = .panicked c ∧ Q (.panic c) a w') : wpAnyH P md ops Q S (fuel + 1) listed a w := by
  refine wpAnyH_ready hr (by simp) (AllReadyH.cons ho (fun K hK => ?_) AllReadyH.nil)
  rw [if_pos hw]
  unfold Oper.wp
  rw [hrun]
  refine hc.mono fun e w' hR => ?_
  rcases h e w' hR with ⟨v, rfl, hS, hn⟩ | ⟨c, rfl, hn⟩
  · exact hK.out _ _ hS (fun _ => hn)
  · exact hn
end
/-- What a run that ends by an error panics with. -/
def STOP (c : Int) : Ending := .panicked [{ v := .iface 51 (.agg #[.int .i64 c]), recovered := false }]
set_option maxHeartbeats 1000000 in
theorem must_ct (b : Bool) (c : Int) (w : World) :
    Calls Tryd.prog 33 #[.bool b, .int .i64 c] w fun e w' => e = (if b = true then .returned (.tuple #[]) else STOP c) ∧ w' = w := by
  cases b with
  | true =>
    go_enter Tryd.func33, Tryd.ntmps33
    go_wp2_with fail
    go_end0
    exact ⟨rfl, rfl⟩
  | false =>
    go_enter Tryd.func33, Tryd.ntmps33
    go_wp2_with fail
    exact ⟨rfl, rfl, rfl⟩
def STOPC (c : Int) : List PanicEntry := [{ v := .iface 51 (.agg #[.int .i64 c]), recovered := false }]
theorem must_yes (c : Int) (w : World) : Calls Tryd.prog 33 #[.bool true, .int .i64 c] w fun e w' => e = .returned (.tuple #[]) ∧ w' = w := must_ct true c w
theorem must_no (c : Int) (w : World) : Calls Tryd.prog 33 #[.bool false, .int .i64 c] w fun e w' => e = .panicked (STOPC c) ∧ w' = w := must_ct false c w
/-- A run: its files, its place, the fuel used. -/
structure VmS where
  fs : List FileE
  pl : Int
  us : Int
/-- What an instruction comes to: the run goes on, or it ends by an error, so much fuel used. -/
inductive VR where
  | go (s : VmS)
  | stop (c : Int) (us : Int)
def TreeX (X : Nat) (w : World) (v : Value) (l : List FileE) : Prop := ∀ w', Kept (fun k => k = X) w w' → TreeAt w' v l
theorem TreeX.kept {X : Nat} {w w' : World} {v : Value} {l : List FileE} (h : TreeX X w v l) (k : Kept (fun k => k = X) w w') : TreeX X w' v l := fun w'' q => h w'' (k.trans q)
theorem TreeX.at {X : Nat} {w : World} {v : Value} {l : List FileE} (h : TreeX X w v l) : TreeAt w v l := h w (Kept.refl _ _)
theorem Kept.x {X : Nat} {w w' : World} (k : Kept (fun _ => False) w w') : Kept (fun k => k = X) w w' := k.mono (fun _ _ q => q.elim)
def ByX (X : Nat) (w : World) (v : Value) (l : List UInt8) : Prop := ∀ w', Kept (fun k => k = X) w w' → ByC w' v l
theorem ByX.kept {X : Nat} {w w' : World} {v : Value} {l : List UInt8} (h : ByX X w v l) (k : Kept (fun k => k = X) w w') : ByX X w' v l := fun w'' q => h w'' (k.trans q)
theorem ByX.at {X : Nat} {w : World} {v : Value} {l : List UInt8} (h : ByX X w v l) : ByC w v l := h w (Kept.refl _ _)
/-- Bytes that stay though X turns. -/
def ByXA (X : Nat) (w : World) (v : Value) (l : List UInt8) : Prop := ∀ w', Kept (fun k => k = X) w w' → ByAt w' v l
theorem ByX.a {X : Nat} {w : World} {v : Value} {l : List UInt8} (h : ByX X w v l) : ByXA X w v l := fun w' k => (h w' k).1
theorem ByXA.kept {X : Nat} {w w' : World} {v : Value} {l : List UInt8} (h : ByXA X w v l) (k : Kept (fun k => k = X) w w') : ByXA X w' v l := fun w'' q => h w'' (k.trans q)
theorem TreeX.file {X : Nat} {w : World} {a : Option Addr} {n c : Nat} {l : List FileE} (h : TreeX X w (.slice a n c) l) {j : Nat} {f : FileE} (hf : l[j]? = some f) :
    f.path.size ≤ maxLen ∧ ∃ b o x, a = some ⟨b, o, none⟩ ∧ b < w.heap.size ∧ w.rangeAt b (o + j * 2) [.string f.path, x] ∧ ByXA X w x f.bytes := by
  obtain ⟨hs, b, o, x, rfl, hb, hr, hB⟩ := h.at.file hf
  have hne : b ≠ X := fun e => by
    subst e
    have hc := hr 0 _ rfl
    have k : Kept (fun k => k = b) w (w.setCell ⟨b, o + j * 2 + 0, none⟩ (.bool true)) := (Kept.refl (fun k => k = b) w).setCell (p := ⟨b, o + j * 2 + 0, none⟩) (fun _ => rfl) _
    obtain ⟨_, b', o', x', e, _, hr', _⟩ := (h _ k).file hf
    injection e with e
    injection e with e1 e2
    subst e1; subst e2
    have h1 := hr' 0 _ rfl
    rw [World.cell?_setCell_same _ _ _ hc] at h1
    injection h1 with h1
    cases h1
  refine ⟨hs, b, o, x, rfl, hb, hr, fun w' k => ?_⟩
  obtain ⟨_, b', o', x', e, _, hr', hB'⟩ := (h _ k).file hf
  injection e with e
  injection e with e1 e2
  subst e1; subst e2
  have h1 := hr' 1 _ rfl
  have h2 := (k.cell (p := ⟨b, o + j * 2 + 1, none⟩) hb hne).trans (hr 1 _ rfl)
  rw [h2] at h1
  injection h1 with h1
  rw [h1]; exact hB'
structure RunAt (w : World) (X : Nat) (F : Int) (s : VmS) : Prop where
  cells : ∃ vf, w.heap[X]? = some (.cells #[vf, .int .i64 s.pl, .int .i64 F, .int .i64 s.us] 43 (0, 0)) ∧ TreeX X w vf s.fs
  may : mayB s.fs = true
  pl0 : 0 ≤ s.pl
  pl1 : s.pl ≤ 1000
  us0 : 0 ≤ s.us
  us1 : s.us ≤ F
  F1 : F ≤ 20000
theorem RunAt.kept {w w' : World} {X : Nat} {F : Int} {s : VmS} (h : RunAt w X F s) (k : Kept (fun _ => False) w w') : RunAt w' X F s := by
  obtain ⟨vf, hx, ht⟩ := h.cells
  exact ⟨⟨vf, by rw [k.block _ (Array.getElem?_eq_some_iff.1 hx).1 not_false]; exact hx, ht.kept k.x⟩, h.may, h.pl0, h.pl1, h.us0, h.us1, h.F1⟩
theorem RunAt.setU {w : World} {X : Nat} {F : Int} {s : VmS} (h : RunAt w X F s) {u : Int} (h0 : 0 ≤ u) (h1 : u ≤ F) : RunAt (w.setCell ⟨X, 3, none⟩ (.int .i64 u)) X F ⟨s.fs, s.pl, u⟩ := by
  obtain ⟨vf, hx, ht⟩ := h.cells
  exact ⟨⟨vf, heap_setCell_same hx _, ht.kept ((Kept.refl (fun k => k = X) w).setCell (p := ⟨X, 3, none⟩) (fun _ => rfl) _)⟩, h.may, h.pl0, h.pl1, h0, h1, h.F1⟩
theorem RunAt.setP {w : World} {X : Nat} {F : Int} {s : VmS} (h : RunAt w X F s) {u : Int} (h0 : 0 ≤ u) (h1 : u ≤ 1000) : RunAt (w.setCell ⟨X, 1, none⟩ (.int .i64 u)) X F ⟨s.fs, u, s.us⟩ := by
  obtain ⟨vf, hx, ht⟩ := h.cells
  exact ⟨⟨vf, heap_setCell_same hx _, ht.kept ((Kept.refl (fun k => k = X) w).setCell (p := ⟨X, 1, none⟩) (fun _ => rfl) _)⟩, h.may, h0, h1, h.us0, h.us1, h.F1⟩
theorem RunAt.setF {w : World} {X : Nat} {F : Int} {s : VmS} (h : RunAt w X F s) {v : Value} {fs : List FileE} (ht : TreeX X w v fs) (hm : mayB fs = true) : RunAt (w.setCell ⟨X, 0, none⟩ v) X F ⟨fs, s.pl, s.us⟩ := by
  obtain ⟨vf, hx, _⟩ := h.cells
  exact ⟨⟨v, heap_setCell_same hx _, ht.kept ((Kept.refl (fun k => k = X) w).setCell (p := ⟨X, 0, none⟩) (fun _ => rfl) _)⟩, hm, h.pl0, h.pl1, h.us0, h.us1, h.F1⟩
theorem Kept.setX {S : Nat → Prop} {X : Nat} {w w' : World} (k : Kept S w w') (hS : S X) (j : Nat) (v : Value) : Kept S w (w'.setCell ⟨X, j, none⟩ v) := k.setCell (p := ⟨X, j, none⟩) (fun _ => hS) v
def VOut (X : Nat) (F : Int) (r : VR) (e : Ending) (w : World) : Prop := match r with
  | .go s => e = .returned (.tuple #[]) ∧ RunAt w X F s
  | .stop c us => e = STOP c ∧ ∃ s, RunAt w X F s ∧ s.us = us
def payV (F : Int) (s : VmS) (n : Int) : VR := if s.us + n ≤ F then .go ⟨s.fs, s.pl, s.us + n⟩ else .stop 71 s.us
set_option maxHeartbeats 2000000 in
theorem pay_ct {w : World} {X : Nat} {F : Int} {s : VmS} (h : RunAt w X F s) {n : Int} (h0 : 0 ≤ n) (h1 : n ≤ 1000000) :
    Calls Tryd.prog 22 #[.pointer (some ⟨X, 0, none⟩), .int .i64 n] w fun e w' => VOut X F (payV F s n) e w' ∧ Kept (fun k => k = X) w w' := by
  obtain ⟨fs, pl, us⟩ := s
  have h' := h
  obtain ⟨⟨vf, hx, ht⟩, hm, p0, p1, u0, u1, f1⟩ := h
  dsimp only at hx ht hm p0 p1 u0 u1 f1
  have hz := (Array.getElem?_eq_some_iff.1 hx).1
  have hxW : ∀ w', Kept (fun _ => False) w w' → w'.heap[X]? = some (.cells #[vf, .int .i64 pl, .int .i64 F, .int .i64 us] 43 (0, 0)) := fun w' z => by rw [z.block _ hz not_false]; exact hx
  have c2 : ∀ w', Kept (fun _ => False) w w' → w'.cell? ⟨X, 2, none⟩ = some (.int .i64 F) := fun w' z => by rw [cell_of_row _ _ _ _ _ _ (hxW w' z)]; rfl
  have c3 : ∀ w', Kept (fun _ => False) w w' → w'.cell? ⟨X, 3, none⟩ = some (.int .i64 us) := fun w' z => by rw [cell_of_row _ _ _ _ _ _ (hxW w' z)]; rfl
  have mc := fun b c w' => must_ct b c w'
  have hwr : IntKind.i64.wrap (us + n) = us + n := IntWalk.i64_in _ (by omega)
  clear hx ht hm
  by_cases hle : us + n ≤ F
  · have HP : Hid (payV F ⟨fs, pl, us⟩ n = .go ⟨fs, pl, us + n⟩) := by unfold Hid payV; rw [if_pos hle]
    go_enter Tryd.func22, Tryd.ntmps22
    go_wp2_with fail
    refine wp_region_held_drew (S := (Kept (fun _ => False) w)) (by kernel_rfl) ((Kept.refl _ w).drew) (fun hHeld => ?_)
    refine held_q (v := ?_) (i := 0) rfl (by kernel_rfl) (by kernel_rfl) (by kernel_rfl) (fun _ _ _ h => h) (by rfl) hHeld ?_ ?_
    rotate_left
    · (intro w' hS'; go_simp <;> (with_reducible rfl))
    simp only [Act.put, List.getElem_toArray, List.getElem_cons_zero, List.getElem_cons_succ, List.setIfInBounds_toArray, List.set_cons_zero, List.set_cons_succ]
    refine held_q (v := ?_) (i := 1) rfl (by kernel_rfl) (by kernel_rfl) (by kernel_rfl) (fun _ _ _ h => h) (by rfl) hHeld ?_ ?_
    rotate_left
    · (intro w' hS'; go_simp <;> (with_reducible rfl))
    simp only [Act.put, List.getElem_toArray, List.getElem_cons_zero, List.getElem_cons_succ, List.setIfInBounds_toArray, List.set_cons_zero, List.set_cons_succ]
    refine held_q (v := ?_) (i := 2) rfl (by kernel_rfl) (by kernel_rfl) (by kernel_rfl) (fun _ _ _ h => h) (by rfl) hHeld ?_ ?_
    rotate_left
    · (intro w' hS'; go_simp <;> (with_reducible rfl))
    simp only [Act.put, List.getElem_toArray, List.getElem_cons_zero, List.getElem_cons_succ, List.setIfInBounds_toArray, List.set_cons_zero, List.set_cons_succ]
    refine held_q (v := ?_) (i := 3) rfl (by kernel_rfl) (by kernel_rfl) (by kernel_rfl) (fun _ _ _ h => h) (by rfl) hHeld ?_ ?_
    rotate_left
    · (intro w' hS'; go_simp <;> (with_reducible rfl))
    simp only [Act.put, List.getElem_toArray, List.getElem_cons_zero, List.getElem_cons_succ, List.setIfInBounds_toArray, List.set_cons_zero, List.set_cons_succ]
    refine held_q (v := ?_) (i := 4) rfl (by kernel_rfl) (by kernel_rfl) (by kernel_rfl) (fun _ _ _ h => h) (by rfl) hHeld ?_ ?_
    rotate_left
    · (intro w' hS'; go_simp <;> (with_reducible rfl))
    simp only [Act.put, List.getElem_toArray, List.getElem_cons_zero, List.getElem_cons_succ, List.setIfInBounds_toArray, List.set_cons_zero, List.set_cons_succ]
    refine held_q (v := ?_) (i := 5) rfl (by kernel_rfl) (by kernel_rfl) (by kernel_rfl) (fun _ _ _ h => h) (by rfl) hHeld ?_ ?_
    rotate_left
    · (intro w' hS'; go_simp <;> (with_reducible rfl))
    simp only [Act.put, List.getElem_toArray, List.getElem_cons_zero, List.getElem_cons_succ, List.setIfInBounds_toArray, List.set_cons_zero, List.set_cons_succ]
    refine held_q (v := ?_) (i := 6) rfl (by kernel_rfl) (by kernel_rfl) (by kernel_rfl) (fun _ _ _ h => h) (by rfl) hHeld ?_ ?_
    rotate_left
    · (intro w' hS'; go_simp <;> (with_reducible rfl))
    simp only [Act.put, List.getElem_toArray, List.getElem_cons_zero, List.getElem_cons_succ, List.setIfInBounds_toArray, List.set_cons_zero, List.set_cons_succ]
    refine held_q (v := ?_) (i := 7) rfl (by kernel_rfl) (by kernel_rfl) (by kernel_rfl) (fun _ _ _ h => h) (by rfl) hHeld ?_ ?_
    rotate_left
    · (intro w' hS'; go_simp <;> (with_reducible rfl))
    simp only [Act.put, List.getElem_toArray, List.getElem_cons_zero, List.getElem_cons_succ, List.setIfInBounds_toArray, List.set_cons_zero, List.set_cons_succ]
    refine held_q (v := ?_) (i := 8) rfl (by kernel_rfl) (by kernel_rfl) (by kernel_rfl) (fun _ _ _ h => h) (by rfl) hHeld ?_ ?_
    rotate_left
    · (intro w' hS'; go_simp <;> (with_reducible rfl))
    simp only [Act.put, List.getElem_toArray, List.getElem_cons_zero, List.getElem_cons_succ, List.setIfInBounds_toArray, List.set_cons_zero, List.set_cons_succ]
    refine held_q (v := ?_) (i := 9) rfl (by kernel_rfl) (by kernel_rfl) (by kernel_rfl) (fun _ _ _ h => h) (by rfl) hHeld ?_ ?_
    rotate_left
    · (intro w' hS'; go_simp <;> (with_reducible rfl))
    simp only [Act.put, List.getElem_toArray, List.getElem_cons_zero, List.getElem_cons_succ, List.setIfInBounds_toArray, List.set_cons_zero, List.set_cons_succ]
    refine held_q (v := ?_) (i := 10) rfl (by kernel_rfl) (by kernel_rfl) (by kernel_rfl) (fun _ _ _ h => h) (by rfl) hHeld ?_ ?_
    rotate_left
    · (intro w' hS'; go_simp <;> (with_reducible rfl))
    simp only [Act.put, List.getElem_toArray, List.getElem_cons_zero, List.getElem_cons_succ, List.setIfInBounds_toArray, List.set_cons_zero, List.set_cons_succ]
    refine held_c (i := 11) (f := 33) (args := #[.bool true, .int .i64 71]) (by kernel_rfl) rfl (by rfl) ?_ (mc true 71 _) ?_
    · (go_simp <;> rfl)
    rintro e WA ⟨rfl, rfl⟩
    have hHeld := hHeld
    refine ⟨_, rfl, hHeld, ?_⟩
    simp only [Act.put, List.getElem_toArray, List.getElem_cons_zero, List.getElem_cons_succ, List.setIfInBounds_toArray, List.set_cons_zero, List.set_cons_succ]
    refine wpAnyH_done (by kernel_rfl) ?_ _
    have cc := c3 w.drew hHeld
    have fz : w.drew.frozen? ⟨X, 3, none⟩ = false := by have := hxW _ hHeld; simp [World.frozen?, this]
    have hx2 := hxW _ hHeld
    have h2 := h'.kept hHeld
    clear c2 c3 hxW
    generalize w.drew = W2 at hHeld cc fz hx2 h2 ⊢
    go_wp2_with fail
    go_end0
    refine ⟨?_, hHeld.x.setX rfl _ _⟩
    rw [HP.out]
    exact ⟨rfl, h2.setU (s := ⟨fs, pl, us⟩) (by show 0 ≤ us + n; omega) hle⟩
  · have HP : Hid (payV F ⟨fs, pl, us⟩ n = .stop 71 us) := by unfold Hid payV; rw [if_neg hle]
    go_enter Tryd.func22, Tryd.ntmps22
    go_wp2_with fail
    refine wp_region_held_drew (S := (Kept (fun _ => False) w)) (by kernel_rfl) ((Kept.refl _ w).drew) (fun hHeld => ?_)
    refine held_q (v := ?_) (i := 0) rfl (by kernel_rfl) (by kernel_rfl) (by kernel_rfl) (fun _ _ _ h => h) (by rfl) hHeld ?_ ?_
    rotate_left
    · (intro w' hS'; go_simp <;> (with_reducible rfl))
    simp only [Act.put, List.getElem_toArray, List.getElem_cons_zero, List.getElem_cons_succ, List.setIfInBounds_toArray, List.set_cons_zero, List.set_cons_succ]
    refine held_q (v := ?_) (i := 1) rfl (by kernel_rfl) (by kernel_rfl) (by kernel_rfl) (fun _ _ _ h => h) (by rfl) hHeld ?_ ?_
    rotate_left
    · (intro w' hS'; go_simp <;> (with_reducible rfl))
    simp only [Act.put, List.getElem_toArray, List.getElem_cons_zero, List.getElem_cons_succ, List.setIfInBounds_toArray, List.set_cons_zero, List.set_cons_succ]
    refine held_q (v := ?_) (i := 2) rfl (by kernel_rfl) (by kernel_rfl) (by kernel_rfl) (fun _ _ _ h => h) (by rfl) hHeld ?_ ?_
    rotate_left
    · (intro w' hS'; go_simp <;> (with_reducible rfl))
    simp only [Act.put, List.getElem_toArray, List.getElem_cons_zero, List.getElem_cons_succ, List.setIfInBounds_toArray, List.set_cons_zero, List.set_cons_succ]
    refine held_q (v := ?_) (i := 3) rfl (by kernel_rfl) (by kernel_rfl) (by kernel_rfl) (fun _ _ _ h => h) (by rfl) hHeld ?_ ?_
    rotate_left
    · (intro w' hS'; go_simp <;> (with_reducible rfl))
    simp only [Act.put, List.getElem_toArray, List.getElem_cons_zero, List.getElem_cons_succ, List.setIfInBounds_toArray, List.set_cons_zero, List.set_cons_succ]
    refine held_q (v := ?_) (i := 4) rfl (by kernel_rfl) (by kernel_rfl) (by kernel_rfl) (fun _ _ _ h => h) (by rfl) hHeld ?_ ?_
    rotate_left
    · (intro w' hS'; go_simp <;> (with_reducible rfl))
    simp only [Act.put, List.getElem_toArray, List.getElem_cons_zero, List.getElem_cons_succ, List.setIfInBounds_toArray, List.set_cons_zero, List.set_cons_succ]
    refine held_q (v := ?_) (i := 5) rfl (by kernel_rfl) (by kernel_rfl) (by kernel_rfl) (fun _ _ _ h => h) (by rfl) hHeld ?_ ?_
    rotate_left
    · (intro w' hS'; go_simp <;> (with_reducible rfl))
    simp only [Act.put, List.getElem_toArray, List.getElem_cons_zero, List.getElem_cons_succ, List.setIfInBounds_toArray, List.set_cons_zero, List.set_cons_succ]
    refine held_q (v := ?_) (i := 6) rfl (by kernel_rfl) (by kernel_rfl) (by kernel_rfl) (fun _ _ _ h => h) (by rfl) hHeld ?_ ?_
    rotate_left
    · (intro w' hS'; go_simp <;> (with_reducible rfl))
    simp only [Act.put, List.getElem_toArray, List.getElem_cons_zero, List.getElem_cons_succ, List.setIfInBounds_toArray, List.set_cons_zero, List.set_cons_succ]
    refine held_q (v := ?_) (i := 7) rfl (by kernel_rfl) (by kernel_rfl) (by kernel_rfl) (fun _ _ _ h => h) (by rfl) hHeld ?_ ?_
    rotate_left
    · (intro w' hS'; go_simp <;> (with_reducible rfl))
    simp only [Act.put, List.getElem_toArray, List.getElem_cons_zero, List.getElem_cons_succ, List.setIfInBounds_toArray, List.set_cons_zero, List.set_cons_succ]
    refine held_q (v := ?_) (i := 8) rfl (by kernel_rfl) (by kernel_rfl) (by kernel_rfl) (fun _ _ _ h => h) (by rfl) hHeld ?_ ?_
    rotate_left
    · (intro w' hS'; go_simp <;> (with_reducible rfl))
    simp only [Act.put, List.getElem_toArray, List.getElem_cons_zero, List.getElem_cons_succ, List.setIfInBounds_toArray, List.set_cons_zero, List.set_cons_succ]
    refine held_q (v := ?_) (i := 9) rfl (by kernel_rfl) (by kernel_rfl) (by kernel_rfl) (fun _ _ _ h => h) (by rfl) hHeld ?_ ?_
    rotate_left
    · (intro w' hS'; go_simp <;> (with_reducible rfl))
    simp only [Act.put, List.getElem_toArray, List.getElem_cons_zero, List.getElem_cons_succ, List.setIfInBounds_toArray, List.set_cons_zero, List.set_cons_succ]
    refine held_q (v := ?_) (i := 10) rfl (by kernel_rfl) (by kernel_rfl) (by kernel_rfl) (fun _ _ _ h => h) (by rfl) hHeld ?_ ?_
    rotate_left
    · (intro w' hS'; go_simp <;> (with_reducible rfl))
    simp only [Act.put, List.getElem_toArray, List.getElem_cons_zero, List.getElem_cons_succ, List.setIfInBounds_toArray, List.set_cons_zero, List.set_cons_succ]
    refine held_cp (i := 11) (f := 33) (args := #[.bool false, .int .i64 71]) (by kernel_rfl) rfl (by rfl) ?_ (mc false 71 _) ?_
    · (go_simp <;> rfl)
    rintro e w' ⟨rfl, hw⟩
    subst hw
    refine .inr ⟨_, rfl, ?_⟩
    go_wp2_with fail
    refine ⟨rfl, ?_, hHeld.x⟩
    rw [HP.out]
    exact ⟨rfl, ⟨fs, pl, us⟩, h'.kept hHeld, rfl⟩
def getV (s : VmS) (p : ByteArray) : Option (List UInt8) := if thereB s.fs p = true then (s.fs[posL s.fs p]?).map (·.bytes) else none
def GetOut (X : Nat) (F : Int) (s : VmS) (p : ByteArray) (e : Ending) (w : World) : Prop := RunAt w X F s ∧ match getV s p with
  | some b => ∃ v, e = .returned v ∧ ByX X w v b
  | none => e = STOP 70
/-- Bytes in memory of their own above X stay though X turns. -/
theorem ByX.own {X base : Nat} {w : World} {v : Value} {b : List UInt8} (h : ByAt w v b) (ho : OwnBy base w v b.length) (hX : X < base) : ByX X w v b := fun w' k => by
  obtain ⟨l, ho⟩ := ho
  have ho' := row_keepB ho k (fun i hi e => absurd (World.ownsRow.lt ho i hi).1 (by omega))
  obtain ⟨a, cap, hv, hm, hr⟩ := h
  subst hv
  refine ⟨⟨a, cap, rfl, hm, fun hne => ?_⟩, a, cap, rfl, ?_⟩
  · obtain ⟨g, o, rfl, hb, hra⟩ := hr hne
    have hg := (World.ownsRow.lt ho g rfl).1
    exact ⟨g, o, rfl, Nat.lt_of_lt_of_le hb k.size, fun j v hj => (k.cell (p := ⟨g, o + j, none⟩) hb (by show ¬ g = X; omega)).trans (hra j v hj)⟩
  · rcases ho.2 with ⟨e, _⟩ | ⟨g, cap', cur, e, _, _, hn, _⟩
    · injection e with e1 e2 e3; omega
    · injection e with e1 e2 e3; omega
set_option maxHeartbeats 2000000 in
theorem vget_ct {w : World} {X : Nat} {F : Int} {s : VmS} (h : RunAt w X F s) (p : ByteArray) :
    Calls Tryd.prog 24 #[.pointer (some ⟨X, 0, none⟩), .string p] w fun e w' => GetOut X F s p e w' ∧ Kept (fun _ => False) w w' := by
  obtain ⟨fs, pl, us⟩ := s
  have h' := h
  obtain ⟨⟨vf, hx, ht⟩, hm, p0, p1, u0, u1, f1⟩ := h
  dsimp only at hx ht hm p0 p1 u0 u1 f1
  have hz := (Array.getElem?_eq_some_iff.1 hx).1
  have c0 : w.cell? ⟨X, 0, none⟩ = some vf := by rw [cell_of_row _ _ _ _ _ _ hx]; rfl
  have gc := get_ctS ht.at p
  obtain ⟨a, c, hv⟩ := ht.at.slc
  subst hv
  clear hx ht
  go_enter Tryd.func24, Tryd.ntmps24
  go_wp2_with fail
  refine gc.mono ?_
  rintro e W2 ⟨hg, k2⟩
  rcases hg with ⟨v, f, h1, h2, rfl, h3, h4⟩ | ⟨h1, rfl⟩
  · obtain ⟨a3, c3, rfl⟩ := h3.slc
    go_wp2_with fail
    refine (must_yes 70 _).mono ?_
    rintro e W3 ⟨rfl, hw⟩
    subst hw
    go_wp2_with fail
    go_ret
    refine ⟨⟨h'.kept k2, ?_⟩, k2⟩
    have h1 : thereB fs p = true := by
      have q := h1
      rw [hm] at q
      simpa using q
    have : getV ⟨fs, pl, us⟩ p = some f.bytes := by
      unfold getV
      rw [if_pos h1]
      rw [h2]; rfl
    rw [this]
    exact ⟨_, rfl, ByX.own h3 h4 hz⟩
  · go_wp2_with fail
    refine (must_no 70 _).mono ?_
    rintro e W3 ⟨rfl, hw⟩
    subst hw
    go_wp2_with fail
    refine ⟨rfl, ⟨h'.kept k2, ?_⟩, k2⟩
    have h1 : thereB fs p = false := by
      have q := h1
      rw [hm] at q
      simpa using q
    have : getV ⟨fs, pl, us⟩ p = none := by
      unfold getV
      rw [if_neg (by rw [h1]; simp)]
    rw [this]
    rfl
def putV (F : Int) (s : VmS) (p : ByteArray) (b : List UInt8) : VR := match payV F s (((b.length + 15) / 16 : Nat) : Int) with
  | .stop c u => .stop c u
  | .go s1 => if (pathB p && mayB (withL s.fs p b)) = true then .go ⟨withL s.fs p b, s1.pl, s1.us⟩ else .stop 8 s1.us
end Go.Proofs.YthachckofghppaaDoor
