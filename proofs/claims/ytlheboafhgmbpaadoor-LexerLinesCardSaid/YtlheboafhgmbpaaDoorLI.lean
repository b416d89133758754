/- The reader reads a rune. -/
import Derived.Test.YtlheboafhgmbpaaDoorLH
namespace Go.Proofs.YtlheboafhgmbpaaDoor
open Go.RowKit
set_option maxRecDepth 100000
set_option linter.unusedSimpArgs false
set_option linter.unusedVariables false

theorem RdAt.c0 {w : World} {B R : Nat} {st : RdS} (h : RdAt w B R st) : w.cell? ⟨R, 0, none⟩ = some (.int .i64 (st.st : Int)) := by
  obtain ⟨_, p, b, ws, hR, _⟩ := h
  rw [cell_of_row _ _ _ _ _ _ hR]; rfl
theorem RdAt.f0 {w : World} {B R : Nat} {st : RdS} (h : RdAt w B R st) : w.frozen? ⟨R, 0, none⟩ = false := by
  obtain ⟨_, p, b, ws, hR, _⟩ := h
  simp [World.frozen?, hR]
theorem RdAt.lt {w : World} {B R : Nat} {st : RdS} (h : RdAt w B R st) : B ≤ R ∧ R < w.heap.size := by
  obtain ⟨h1, p, b, ws, hR, _⟩ := h
  exact ⟨h1, (Array.getElem?_eq_some_iff.1 hR).1⟩
theorem RdAt.set {w : World} {B R : Nat} {st : RdS} (h : RdAt w B R st) (n : Nat) : RdAt (w.setCell ⟨R, 0, none⟩ (.int .i64 (n : Int))) B R { st with st := n } ∧ Kept (RS w B R) w (w.setCell ⟨R, 0, none⟩ (.int .i64 (n : Int))) := by
  obtain ⟨h1, p, b, ws, hR, hp, hb, hws, hn⟩ := h
  have k : Kept (fun k => k = R) w (w.setCell ⟨R, 0, none⟩ (.int .i64 (n : Int))) := (Kept.refl (fun k => k = R) w).setCell (p := ⟨R, 0, none⟩) (fun _ => rfl) _
  exact ⟨⟨h1, p, b, ws, by rw [heap_setCell_same hR]; rfl, hp, row_stay hb k (fun k hk => not_R hb hR (by decide) k hk), row_stay hws k (fun k hk => not_R hws hR (by decide) k hk), hn⟩, RS.self h1 k⟩
set_option maxHeartbeats 1000000 in
theorem odd_ct (c : Nat) (hc : c ≤ 1114111) (w : World) : Calls Tryd.prog 27 #[.int .i32 c] w fun e w' => e = .returned (.bool (oddR c)) ∧ w' = w := by
  unfold oddR
  by_cases h1 : c < 32
  · have d1 : decide ((c : Int) < 32) = true := decide_eq_true (by omega)
    have d2 : decide (c < 32) = true := decide_eq_true h1
    rw [d2, Bool.true_or]
    clear d2
    go_enter Tryd.func27, Tryd.ntmps27
    go_wp2_with fail
    go_ret
    exact ⟨rfl, rfl⟩
  · have d1 : decide ((c : Int) < 32) = false := decide_eq_false (by omega)
    have d2 : decide (c < 32) = false := decide_eq_false h1
    rw [d2, Bool.false_or]
    have e : ((c : Int) == 127) = (c == 127) := by rw [Bool.eq_iff_iff]; simp only [beq_iff_eq]; omega
    clear d2
    generalize (c == 127) = q at e
    go_enter Tryd.func27, Tryd.ntmps27
    go_wp2_with fail
    go_ret
    exact ⟨rfl, rfl⟩
/-- What within hands back. -/
def WOut (w : World) (B R : Nat) (x : Option (RdS × Bool)) (e : Ending) (w' : World) : Prop := Kept (RS w B R) w w' ∧ match x with
  | some (r, _) => e = .returned (.bool true) ∧ RdAt w' B R r
  | none => e = .returned (.bool false)
theorem WOut.yes {w w' : World} {B R : Nat} {x : Option (RdS × Bool)} {r : RdS} {m : Bool} (h : x = some (r, m)) (hr : RdAt w' B R r) (k : Kept (RS w B R) w w') : WOut w B R x (.returned (.bool true)) w' := by subst h; exact ⟨k, rfl, hr⟩
theorem WOut.no {w w' : World} {B R : Nat} {x : Option (RdS × Bool)} (h : x = none) (k : Kept (RS w B R) w w') : WOut w B R x (.returned (.bool false)) w' := by subst h; exact ⟨k, rfl⟩
theorem nb (c n : Nat) (h : ¬ c = n) : ((c : Int) == (n : Int)) = false := by simp; omega
theorem nn (c n : Nat) (h : ¬ c = n) : ((c : Int) != (n : Int)) = true := by simp; omega
set_option maxRecDepth 100000 in
set_option maxHeartbeats 4000000 in
theorem within_ct {w : World} {B R : Nat} {st : RdS} (h : RdAt w B R st) (hs : st.st = 2 ∨ st.st = 3) (hl : st.word.length ≤ 900000) (hl2 : st.words.length ≤ 900000) (hBw : B ≤ w.heap.size) {c : Nat} (h1 : c ≤ 1114111) (h2 : c < 55296 ∨ 57343 < c) :
    Calls Tryd.prog 26 #[.pointer (some ⟨R, 0, none⟩), .int .i32 c] w (WOut w B R (st.stepR c)) := by
  have c0 := h.c0
  have f0 := h.f0
  have hlt := h.lt
  obtain ⟨X, hX⟩ : ∃ X, st.stepR c = X := ⟨_, rfl⟩
  rw [hX]
  unfold RdS.stepR at hX
  rcases hs with hs | hs
  · rw [if_neg (by omega), if_pos hs] at hX
    rw [hs] at c0
    by_cases q1 : c = 34
    · subst q1
      rw [if_pos rfl] at hX
      have ec := end_ct h hl2 hBw
      have HX := Lib.hid hX.symm
      clear hX h1 h2
      go_enter Tryd.func26, Tryd.ntmps26
      go_wp2_with fail
      refine ec.mono ?_
      rintro e W1 ⟨rfl, hr1, k1⟩
      have c1 := hr1.c0
      have g1 := hr1.f0
      obtain ⟨hr2, k2⟩ := hr1.set 4
      have kk2 := RS.trans k1 k2
      clear c0 f0 ec k1 k2
      go_wp2_with fail
      go_ret
      exact WOut.yes HX.out hr2 kk2
    rw [if_neg q1] at hX
    by_cases q2 : c = 92
    · subst q2
      rw [if_pos rfl] at hX
      have HX := Lib.hid hX.symm
      obtain ⟨hr2, k2⟩ := h.set 3
      clear hX h1 h2
      go_enter Tryd.func26, Tryd.ntmps26
      go_wp2_with fail
      go_ret
      exact WOut.yes HX.out hr2 k2
    rw [if_neg q2] at hX
    have b34 : ((c : Int) == 34) = false := nb c 34 q1
    have b92 : ((c : Int) == 92) = false := nb c 92 q2
    have oc := odd_ct c h1 w
    have wr := writeRune_ct h hl hBw h1 h2
    cases ho : oddR c with
    | true =>
      rw [ho, if_pos rfl] at hX
      rw [ho] at oc
      have HX := Lib.hid hX.symm
      clear hX h1 h2 wr
      go_enter Tryd.func26, Tryd.ntmps26
      go_wp2_with fail
      refine oc.mono ?_
      rintro e W1 ⟨rfl, hw⟩
      subst hw
      go_wp2_with fail
      go_ret
      exact WOut.no HX.out (Kept.refl _ _)
    | false =>
      rw [ho] at hX oc
      simp only [Bool.false_eq_true, if_false] at hX
      rw [show (2 : Nat) = st.st from hs.symm] at hX
      have HX := Lib.hid hX.symm
      clear hX h1 h2
      go_enter Tryd.func26, Tryd.ntmps26
      go_wp2_with fail
      refine oc.mono ?_
      rintro e W1 ⟨rfl, hw⟩
      subst hw
      clear oc
      go_wp2_with fail
      refine wr.mono ?_
      rintro e W1 ⟨⟨v, rfl⟩, hr2, k2⟩
      go_wp2_with fail
      go_ret
      exact WOut.yes HX.out hr2 k2
  · rw [if_pos hs] at hX
    rw [hs] at c0
    have hz := h.set 2
    have c1 := hz.1.c0
    by_cases q1 : c = 110
    · subst q1
      rw [if_pos rfl] at hX
      have wr := writeRune_ct hz.1 hl (by simpa [World.setCell] using hBw) (c := 10) (by omega) (by omega)
      have HX := Lib.hid hX.symm
      have HZ := Lib.hid hz.2
      clear hX h1 h2 hz
      go_enter Tryd.func26, Tryd.ntmps26
      go_wp2_with fail
      refine wr.mono ?_
      rintro e W1 ⟨⟨v, rfl⟩, hr2, k2⟩
      go_wp2_with fail
      go_ret
      exact WOut.yes HX.out hr2 (RS.trans HZ.out k2)
    rw [if_neg q1] at hX
    have b110 : ((c : Int) == 110) = false := nb c 110 q1
    by_cases q2 : c = 34 ∨ c = 92
    · rw [if_pos q2] at hX
      have wr := writeRune_ct hz.1 hl (by simpa [World.setCell] using hBw) h1 h2
      have HX := Lib.hid hX.symm
      have HZ := Lib.hid hz.2
      clear hX h1 h2 hz
      rcases q2 with rfl | rfl
      all_goals
        go_enter Tryd.func26, Tryd.ntmps26
        go_wp2_with fail
        refine wr.mono ?_
        rintro e W1 ⟨⟨v, rfl⟩, hr2, k2⟩
        go_wp2_with fail
        go_ret
        exact WOut.yes HX.out hr2 (RS.trans HZ.out k2)
    · rw [if_neg q2] at hX
      have b34 : ((c : Int) != 34) = true := nn c 34 (fun e => q2 (.inl e))
      have b92 : ((c : Int) != 92) = true := nn c 92 (fun e => q2 (.inr e))
      have HX := Lib.hid hX.symm
      clear hX h1 h2 hz
      go_enter Tryd.func26, Tryd.ntmps26
      go_wp2_with fail
      go_ret
      exact WOut.no HX.out (Kept.refl _ _)
end Go.Proofs.YtlheboafhgmbpaaDoor
