/- The reader reads a rune: read. -/
import Derived.Test.YtlheboafhgmbpaaDoorLI
namespace Go.Proofs.YtlheboafhgmbpaaDoor
open Go.RowKit
set_option maxRecDepth 100000
set_option linter.unusedSimpArgs false
set_option linter.unusedVariables false

/-- What read hands back. -/
def ROut (w : World) (B R : Nat) (x : Option (RdS × Bool)) (e : Ending) (w' : World) : Prop := Kept (RS w B R) w w' ∧ match x with
  | some (r, m) => e = .returned (.tuple #[.bool m, .bool true]) ∧ RdAt w' B R r
  | none => ∃ m, e = .returned (.tuple #[.bool m, .bool false])
theorem ROut.yes {w w' : World} {B R : Nat} {x : Option (RdS × Bool)} {r : RdS} {m : Bool} (h : x = some (r, m)) (hr : RdAt w' B R r) (k : Kept (RS w B R) w w') : ROut w B R x (.returned (.tuple #[.bool m, .bool true])) w' := by subst h; exact ⟨k, rfl, hr⟩
theorem ROut.no {w w' : World} {B R : Nat} {x : Option (RdS × Bool)} {m : Bool} (h : x = none) (k : Kept (RS w B R) w w') : ROut w B R x (.returned (.tuple #[.bool m, .bool false])) w' := by subst h; exact ⟨k, m, rfl⟩
set_option maxRecDepth 100000 in
set_option maxHeartbeats 8000000 in
theorem read_ct {w : World} {B R : Nat} {st : RdS} (h : RdAt w B R st) (hs4 : st.st ≤ 4) (hl : st.word.length ≤ 900000) (hl2 : st.words.length ≤ 900000) (hBw : B ≤ w.heap.size) {c : Nat} (h1 : c ≤ 1114111) (h2 : c < 55296 ∨ 57343 < c) :
    Calls Tryd.prog 17 #[.pointer (some ⟨R, 0, none⟩), .int .i32 c] w (ROut w B R (st.stepR c)) := by
  have c0 := h.c0
  have f0 := h.f0
  have hlt := h.lt
  obtain ⟨X, hX⟩ : ∃ X, st.stepR c = X := ⟨_, rfl⟩
  by_cases hw : st.st = 2 ∨ st.st = 3
  · have wc := within_ct h hw hl hl2 hBw h1 h2
    have hm : ∀ r m, st.stepR c = some (r, m) → m = true := fun r m e => by
      unfold RdS.stepR at e
      rcases hw with hw | hw
      · rw [if_neg (by omega), if_pos hw] at e
        repeat' split at e
        all_goals first | (cases e; done) | (injection e with e; injection e with _ e; exact e.symm)
      · rw [if_pos hw] at e
        repeat' split at e
        all_goals first | (cases e; done) | (injection e with e; injection e with _ e; exact e.symm)
    rw [hX] at wc hm ⊢
    have HM := Lib.hid hm
    clear hm hX h1 h2
    rcases hw with hw | hw
    all_goals
      rw [hw] at c0
      go_enter Tryd.func17, Tryd.ntmps17
      go_wp2_with fail
      refine wc.mono ?_
      rintro e W1 ⟨k1, hr⟩
      cases X with
      | none =>
        obtain rfl := hr
        go_wp2_with fail
        go_ret2
        exact ROut.no rfl k1
      | some rm =>
        obtain ⟨r, m⟩ := rm
        obtain ⟨rfl, hr1⟩ := hr
        obtain rfl := HM.out r m rfl
        go_wp2_with fail
        go_ret2
        exact ROut.yes rfl hr1 k1
  have hs2 : ¬ st.st = 2 := fun e => hw (.inl e)
  have hs3 : ¬ st.st = 3 := fun e => hw (.inr e)
  rw [hX]
  unfold RdS.stepR at hX
  rw [if_neg hs3, if_neg hs2] at hX
  have bs2 : ((st.st : Int) == 2) = false := nb st.st 2 hs2
  have bs3 : ((st.st : Int) == 3) = false := nb st.st 3 hs3
  by_cases q : c = 32 ∨ c = 9 ∨ c = 35
  · rw [if_pos q] at hX
    by_cases hs1 : st.st = 1
    · rw [if_pos hs1] at hX
      rw [hs1] at c0
      have ec := end_ct h hl2 hBw
      have HX := Lib.hid hX.symm
      clear hX h1 h2 hw hs2 hs3 bs2 bs3
      rcases q with rfl | rfl | rfl
      all_goals
        go_enter Tryd.func17, Tryd.ntmps17
        go_wp2_with fail
        refine ec.mono ?_
        rintro e W1 ⟨rfl, hr1, k1⟩
        have c1 := hr1.c0
        have g1 := hr1.f0
        obtain ⟨hr2, k2⟩ := hr1.set 0
        have kk2 := RS.trans k1 k2
        clear c0 f0 ec k1 k2
        go_wp2_with fail
        go_ret2
        exact ROut.yes HX.out hr2 kk2
    · rw [if_neg hs1] at hX
      have bs1 : ((st.st : Int) == 1) = false := nb st.st 1 hs1
      have HX := Lib.hid hX.symm
      obtain ⟨hr2, k2⟩ := h.set 0
      clear hX h1 h2 hw hs2 hs3 hs1
      rcases q with rfl | rfl | rfl
      all_goals
        go_enter Tryd.func17, Tryd.ntmps17
        go_wp2_with fail
        go_ret2
        exact ROut.yes HX.out hr2 k2
  rw [if_neg q] at hX
  have b32 : ((c : Int) == 32) = false := nb c 32 (fun e => q (.inl e))
  have b9 : ((c : Int) == 9) = false := nb c 9 (fun e => q (.inr (.inl e)))
  have b35 : ((c : Int) == 35) = false := nb c 35 (fun e => q (.inr (.inr e)))
  clear q hw
  by_cases hs : st.st = 4
  · rw [if_pos (.inl hs)] at hX
    rw [hs] at c0
    have HX := Lib.hid hX.symm
    clear hX h1 h2 bs2 bs3 hs2 hs3
    go_enter Tryd.func17, Tryd.ntmps17
    go_wp2_with fail
    go_ret2
    exact ROut.no HX.out (Kept.refl _ _)
  have bs4 : ((st.st : Int) == 4) = false := nb st.st 4 hs
  by_cases q34 : c = 34
  · subst q34
    by_cases hs1 : st.st = 1
    · rw [if_pos (.inr (.inl ⟨rfl, hs1⟩))] at hX
      rw [hs1] at c0
      have HX := Lib.hid hX.symm
      clear hX h1 h2 hs2 hs3 hs bs2 bs3 bs4
      go_enter Tryd.func17, Tryd.ntmps17
      go_wp2_with fail
      go_ret2
      exact ROut.no HX.out (Kept.refl _ _)
    · rw [if_neg (by rintro (e | e | e) <;> omega), if_pos rfl] at hX
      have bs1 : ((st.st : Int) == 1) = false := nb st.st 1 hs1
      have HX := Lib.hid hX.symm
      obtain ⟨hr2, k2⟩ := h.set 2
      clear hX h1 h2 hs2 hs3 hs hs1
      go_enter Tryd.func17, Tryd.ntmps17
      go_wp2_with fail
      go_ret2
      exact ROut.yes HX.out hr2 k2
  have b34 : ((c : Int) == 34) = false := nb c 34 q34
  have n34 : ((c : Int) != 34) = true := nn c 34 q34
  have oc := odd_ct c h1 w
  have hz := h.set 1
  have wr := writeRune_ct hz.1 hl (by simpa [World.setCell] using hBw) h1 h2
  cases ho : oddR c with
  | true =>
    rw [if_pos (.inr (.inr ⟨q34, ho⟩))] at hX
    rw [ho] at oc
    have HX := Lib.hid hX.symm
    clear hX h1 h2 hs2 hs3 hs wr hz q34
    go_enter Tryd.func17, Tryd.ntmps17
    go_wp2_with fail
    refine oc.mono ?_
    rintro e W1 ⟨rfl, hw⟩
    subst hw
    go_wp2_with fail
    go_ret2
    exact ROut.no HX.out (Kept.refl _ _)
  | false =>
    rw [if_neg (by rintro (e | e | e) <;> simp_all), if_neg q34] at hX
    rw [ho] at oc
    have HX := Lib.hid hX.symm
    have HZ := Lib.hid hz.2
    clear hX h1 h2 hs2 hs3 hs hz q34
    go_enter Tryd.func17, Tryd.ntmps17
    go_wp2_with fail
    refine oc.mono ?_
    rintro e W1 ⟨rfl, hw⟩
    subst hw
    clear oc
    go_wp2_with fail
    refine wr.mono ?_
    rintro e W1 ⟨⟨v, rfl⟩, hr2, k2⟩
    go_wp2_with fail
    go_ret2
    exact ROut.yes HX.out hr2 (RS.trans HZ.out k2)
end Go.Proofs.YtlheboafhgmbpaaDoor
