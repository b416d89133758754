/- SortStableFunc of at most 39 files. -/
import Derived.Test.YtfohljljoalmoaaDoorVF
import Derived.Test.YtfohljljoalmoaaDoorVG
namespace Go.Proofs.YtfohljljoalmoaaDoor
open Go.RowKit Go.Sort
set_option maxRecDepth 100000
set_option linter.unusedSimpArgs false
set_option linter.unusedVariables false

def FJ : Value := .func (.func 52) #[] #[]
theorem insertion0_ct (a : Option Addr) (n c : Nat) (w : World) :
    Calls Tryd.prog 85 #[.slice a n c, .int .i64 (0 : Nat), .int .i64 (0 : Nat), FJ] w fun e w' => e = .returned (.tuple #[]) ∧ w' = w := by
  unfold FJ
  go_enter Tryd.func85, Tryd.ntmps85
  go_wp2_with fail
  refine wp_loop_rounds 1 ?_
  rw [rounds_succ]
  go_wp2_with fail
  go_end0
  exact ⟨rfl, rfl⟩
set_option maxHeartbeats 1000000 in
theorem stable0_ct (a : Option Addr) (c : Nat) (w : World) :
    Calls Tryd.prog 73 #[.slice a 0 c, .int .i64 (0 : Nat), FJ] w fun e w' => e = .returned (.tuple #[]) ∧ w' = w := by
  have ic := insertion0_ct a 0 c w
  unfold FJ at ic ⊢
  go_enter Tryd.func73, Tryd.ntmps73
  go_wp2_with fail
  refine wp_loop_rounds 1 ?_
  rw [rounds_succ]
  go_wp2_with fail
  refine ic.mono ?_
  rintro e W ⟨rfl, hW⟩
  subst hW
  go_wp2_with fail
  refine wp_loop_rounds 1 ?_
  rw [rounds_succ]
  go_wp2_with fail
  go_end0
  exact ⟨rfl, rfl⟩
set_option maxRecDepth 100000 in
set_option maxHeartbeats 2000000 in
theorem stable_ct {w0 w : World} {base g cap : Nat} {d : Array E} (h : SF w0 base g cap d w) (hd : d.size ≤ 39) :
    Calls Tryd.prog 73 #[.slice (some ⟨g, 0, none⟩) d.size cap, .int .i64 d.size, FJ] w (SymPost w0 base g cap 0 d.size d) := by
  obtain ⟨n, hn⟩ : ∃ n, n = d.size := ⟨_, rfl⟩
  have hn39 : n ≤ 39 := by omega
  unfold FJ
  by_cases h20 : n < 20
  · have d1 : decide ((20 : Int) ≤ (n : Int)) = false := decide_eq_false (by omega)
    have d2 : decide ((20 : Int) < (n : Int)) = false := decide_eq_false (by omega)
    have ic := insertion_ct h (by omega) (a := 0) (b := d.size) (by omega) (Nat.le_refl _)
    obtain ⟨i1, i2⟩ := insertionSort_holds swoE d 0 d.size (by omega) (Nat.le_refl _)
    have HI := Lib.hid (And.intro i1 i2)
    generalize insertionSort ltE d 0 d.size = D at ic HI
    rw [← hn] at ic HI ⊢
    clear i1 i2 hn h
    go_enter Tryd.func73, Tryd.ntmps73
    go_wp2_with fail
    refine wp_loop_rounds 1 ?_
    rw [rounds_succ]
    go_wp2_with fail
    refine ic.mono ?_
    rintro e W ⟨rfl, hS⟩
    have hS := Lib.hid hS
    go_wp2_with fail
    refine wp_loop_rounds 1 ?_
    rw [rounds_succ]
    go_wp2_with fail
    go_end0
    exact ⟨rfl, D, hS.out, HI.out.1, HI.out.2⟩
  · have d1 : decide ((20 : Int) ≤ (n : Int)) = true := decide_eq_true (by omega)
    have d3 : decide ((40 : Int) ≤ (n : Int)) = false := decide_eq_false (by omega)
    have ic := insertion_ct h (by omega) (a := 0) (b := 20) (by omega) (by omega)
    obtain ⟨i1, i2⟩ := insertionSort_holds swoE d 0 20 (by omega) (by omega)
    generalize insertionSort ltE d 0 20 = D at ic i1 i2
    have hz := i1.1
    obtain ⟨j1, j2⟩ := insertionSort_holds swoE D 20 n (by omega) (by omega)
    have jc := fun (W : World) (hS : SF w0 base g cap D W) => insertion_ct hS (by omega) (a := 20) (b := n) (by omega) (by omega)
    generalize insertionSort ltE D 20 n = F at jc j1 j2
    have hz2 := j1.1
    have hp : PermIn 0 n d F := permIn_trans _ _ _ _ _ (permIn_mono _ _ _ _ _ _ (by omega) (by omega) (by omega) i1) (permIn_mono _ _ _ _ _ _ (by omega) (by omega) (by omega) j1)
    have hs1 : SortedIn ltE 0 20 F := fun x y q1 q2 q3 => by rw [j1.2.1 x (.inl (by omega)), j1.2.1 y (.inl q3)]; exact i2 x y q1 q2 q3
    have hs2 : SortedIn ltE 20 n F := j2
    rw [hz] at jc
    rw [← hn] at ic jc ⊢
    have HP := Lib.hid (And.intro hp (And.intro hs1 hs2))
    have HZ := Lib.hid (show F.size = n by omega)
    clear i1 i2 j1 j2 hz hz2 hn h hp hs1 hs2
    by_cases hn20 : n = 20
    · have d2 : decide ((20 : Int) < (n : Int)) = false := decide_eq_false (by omega)
      have HN := Lib.hid hn20
      clear hn20
      go_enter Tryd.func73, Tryd.ntmps73
      go_wp2_with fail
      refine wp_loop_rounds 2 ?_
      rw [rounds_succ]
      go_wp2_with fail
      refine ic.mono ?_
      rintro e W ⟨rfl, hS⟩
      have jc' := jc _ hS
      clear hS
      go_wp2_with fail
      rw [rounds_succ]
      go_wp2_with fail
      refine jc'.mono ?_
      rintro e W2 ⟨rfl, hS⟩
      have hS := Lib.hid hS
      go_wp2_with fail
      refine wp_loop_rounds 1 ?_
      rw [rounds_succ]
      go_wp2_with fail
      go_end0
      exact ⟨rfl, F, hS.out, HP.out.1, by have := HP.out.2.1; rw [← HN.out] at this; exact this⟩
    · have d2 : decide ((20 : Int) < (n : Int)) = true := decide_eq_true (by omega)
      have d4 : decide ((40 : Int) < (n : Int)) = false := decide_eq_false (by omega)
      have sc := fun (W : World) (hS : SF w0 base g cap F W) => symMerge_all n hS (by have := HZ.out; omega) (a := 0) (m := 20) (b := n) (by omega) (by omega) (by have := HZ.out; omega) (by omega) HP.out.2.1 HP.out.2.2
      rw [HZ.out] at sc
      unfold SYM at sc
      go_enter Tryd.func73, Tryd.ntmps73
      go_wp2_with fail
      refine wp_loop_rounds 2 ?_
      rw [rounds_succ]
      go_wp2_with fail
      refine ic.mono ?_
      rintro e W ⟨rfl, hS⟩
      have jc' := jc _ hS
      clear hS
      go_wp2_with fail
      rw [rounds_succ]
      go_wp2_with fail
      refine jc'.mono ?_
      rintro e W2 ⟨rfl, hS⟩
      have sc' := sc _ hS
      clear hS
      go_wp2_with fail
      refine wp_loop_rounds 2 ?_
      rw [rounds_succ]
      go_wp2_with fail
      refine wp_loop_rounds 1 ?_
      rw [rounds_succ]
      go_wp2_with fail
      refine sc'.mono ?_
      rintro e W3 ⟨rfl, G, hS, hp, hs⟩
      have HS := Lib.hid (And.intro hS (And.intro hp hs))
      clear hS hp hs
      go_wp2_with fail
      rw [rounds_succ]
      go_wp2_with fail
      go_end0
      exact ⟨rfl, G, HS.out.1, permIn_trans _ _ _ _ _ HP.out.1 HS.out.2.1, HS.out.2.2⟩
end Go.Proofs.YtfohljljoalmoaaDoor
