/- ClaimsApart's closure: what a book tells of three keys, laid into three arrays. -/
import Derived.Test.YtbaehaleigpijaaG6
namespace Go.Proofs.Ytbaehaleigpijaa
open Go.RowKit
set_option linter.unusedSimpArgs false
set_option linter.unusedVariables false

noncomputable def nvI (s : St) (now : Int) (i : Nat) : Value := .int .i64 (((live s.U (dig i) now).getD 0 : Nat) : Int)
noncomputable def lvI (s : St) (now : Int) (i : Nat) : Value := .int .i64 (if (live s.U (dig i) now).isSome then 1 else 0)
noncomputable def mvI (s : St) (i : Nat) : Value := .int .i64 (if (s.O (.agg (dig i))).isSome then 1 else 0)
def Row3 (w : World) (b : Nat) (n : Nat) (f : Nat → Value) : Prop := ∃ c : Array Value, w.heap[b]? = some (.cells c 62 (0, 0)) ∧ c.size = 3 ∧ (∀ i, i < 3 → ∃ x : Int, c[i]? = some (.int .i64 x)) ∧ ∀ i, i < n → c[i]? = some (f i)
theorem Row3.lt {w : World} {b n : Nat} {f : Nat → Value} (h : Row3 w b n f) : b < w.heap.size := by obtain ⟨c, h1, _⟩ := h; exact (Array.getElem?_eq_some_iff.1 h1).1
theorem Row3.of {w w' : World} {b n : Nat} {f : Nat → Value} (h : Row3 w b n f) (e : w'.heap[b]? = w.heap[b]?) : Row3 w' b n f := by obtain ⟨c, h1, h2⟩ := h; exact ⟨c, e.trans h1, h2⟩
theorem Row3.cell {w : World} {b n : Nat} {f : Nat → Value} (h : Row3 w b n f) {j : Nat} (hj : j < 3) : ∃ x : Int, w.cell? ⟨b, j, none⟩ = some (.int .i64 x) := by
  obtain ⟨c, h1, h2, h3, _⟩ := h
  obtain ⟨x, hx⟩ := h3 j hj
  exact ⟨x, by rw [cell_of_row _ _ _ _ _ _ h1]; exact hx⟩
theorem Row3.free {w : World} {b n : Nat} {f : Nat → Value} (h : Row3 w b n f) (j : Nat) : w.frozen? ⟨b, j, none⟩ = false := by
  obtain ⟨c, h1, h2, _⟩ := h
  simp [World.frozen?, h1]
theorem Row3.other {w : World} {b n : Nat} {f : Nat → Value} (h : Row3 w b n f) {p : Addr} (hp : p.block ≠ b) (v : Value) : Row3 (w.setCell p v) b n f :=
  h.of (Below.heap_setCell _ _ _ _ (fun e => hp e.symm))
/-- A cell written: the j-th is what it should be. -/
theorem Row3.set {w : World} {b n : Nat} {f : Nat → Value} (h : Row3 w b n f) {j : Nat} (hj : j < 3) {x : Int} : Row3 (w.setCell ⟨b, j, none⟩ (.int .i64 x)) b n (fun i => if i = j then .int .i64 x else f i) := by
  obtain ⟨c, h1, h2, h3, h4⟩ := h
  refine ⟨c.setIfInBounds j (.int .i64 x), heap_setCell_same h1 _, by simp [h2], fun i hi => ?_, fun i hi => ?_⟩
  · rw [Array.getElem?_setIfInBounds]
    by_cases e : j = i
    · subst e; simp [h2, hj]
    · simp only [e, if_false]; exact h3 i hi
  · rw [Array.getElem?_setIfInBounds]
    by_cases e : j = i
    · subst e; simp [h2, hj]
    · simp only [e, if_false, if_neg (fun q : i = j => e q.symm)]; exact h4 i hi
theorem Row3.next {w : World} {b j : Nat} {f g : Nat → Value} (h : Row3 w b j f) (hg : ∀ i, i < j → f i = g i) {x : Int} (hj : j < 3) (hx : g j = .int .i64 x) : Row3 (w.setCell ⟨b, j, none⟩ (.int .i64 x)) b (j + 1) g := by
  obtain ⟨c, h1, h2, h3, h4⟩ := h
  refine ⟨c.setIfInBounds j (.int .i64 x), heap_setCell_same h1 _, by simp [h2], fun i hi => ?_, fun i hi => ?_⟩
  · rw [Array.getElem?_setIfInBounds]
    by_cases e : j = i
    · subst e; simp [h2, hj]
    · simp only [e, if_false]; exact h3 i hi
  · rw [Array.getElem?_setIfInBounds]
    by_cases e : j = i
    · subst e; simp [h2, hj, hx]
    · simp only [e, if_false]; rw [h4 i (by omega), hg i (by omega)]

theorem Row3.keep {w : World} {b j : Nat} {f : Nat → Value} (h : Row3 w b j f) {x : Int} (hj : j < 3) : Row3 (w.setCell ⟨b, j, none⟩ (.int .i64 x)) b j f := by
  obtain ⟨c, h1, h2, h3, h4⟩ := h.set hj (x := x)
  exact ⟨c, h1, h2, h3, fun i hi => by rw [h4 i hi]; simp only [if_neg (show ¬ i = j by omega)]⟩

set_option maxHeartbeats 4000000 in
theorem look_ct {w : World} {p : Pl} {s : St} (h : BkS w p s) {now : Int} {bp tp N L M : Nat} (hb : w.heap[bp]? = some (.cells #[p.ptr] 24 (0, 0))) (ht : w.heap[tp]? = some (.cells #[.int .i64 now] 3 (0, 0)))
    {f1 f2 f3 : Nat → Value} (hN : Row3 w N 0 f1) (hL : Row3 w L 0 f2) (hM : Row3 w M 0 f3) (nl : N ≠ L) (nm : N ≠ M) (lm : L ≠ M)
    (ob : bp ≠ N ∧ bp ≠ L ∧ bp ≠ M) (ot : tp ≠ N ∧ tp ≠ L ∧ tp ≠ M) (oS : ∀ k, p.S k → k ≠ N ∧ k ≠ L ∧ k ≠ M) :
    Calls Try.prog 21 #[.pointer (some ⟨bp, 0, none⟩), .pointer (some ⟨tp, 0, none⟩), .pointer (some ⟨N, 0, none⟩), .pointer (some ⟨L, 0, none⟩), .pointer (some ⟨M, 0, none⟩)] w
      fun e w' => e = .returned (.tuple #[]) ∧ Kept (fun k => k = N ∨ k = L ∨ k = M) w w' ∧ Row3 w' N 3 (nvI s now) ∧ Row3 w' L 3 (lvI s now) ∧ Row3 w' M 3 (mvI s) := by
  have cb : ∀ {w'}, Kept (fun k => k = N ∨ k = L ∨ k = M) w w' → w'.cell? ⟨bp, 0, none⟩ = some p.ptr := fun q => by
    rw [cell_of_row _ _ _ _ _ _ ((q.block _ (Array.getElem?_eq_some_iff.1 hb).1 (by omega)).trans hb)]; rfl
  have ct : ∀ {w'}, Kept (fun k => k = N ∨ k = L ∨ k = M) w w' → w'.cell? ⟨tp, 0, none⟩ = some (.int .i64 now) := fun q => by
    rw [cell_of_row _ _ _ _ _ _ ((q.block _ (Array.getElem?_eq_some_iff.1 ht).1 (by omega)).trans ht)]; rfl
  have hp : ∀ {w'}, Kept (fun k => k = N ∨ k = L ∨ k = M) w w' → BkS w' p s := fun q => BkS.apart h q (fun k hk e => by have := oS k hk; omega)
  go_enter Try.func21, Try.ntmps21
  go_wp2_with fail
  go_loopw [5] (fun x wr => ∃ j : Nat, j ≤ 3 ∧ x = .int .u8 j ∧ Kept (fun k => k = N ∨ k = L ∨ k = M) w wr ∧ Row3 wr N j (nvI s now) ∧ Row3 wr L j (lvI s now) ∧ Row3 wr M j (mvI s)) (fun x _ => 3 - (intOf x).toNat)
  case atStart => exact ⟨0, by omega, rfl, Kept.refl _ _, by obtain ⟨c, a1, a2, a3, _⟩ := hN; exact ⟨c, a1, a2, a3, fun i hi => absurd hi (by omega)⟩, by obtain ⟨c, a1, a2, a3, _⟩ := hL; exact ⟨c, a1, a2, a3, fun i hi => absurd hi (by omega)⟩, by obtain ⟨c, a1, a2, a3, _⟩ := hM; exact ⟨c, a1, a2, a3, fun i hi => absurd hi (by omega)⟩⟩
  case round =>
    obtain ⟨j, hj, rfl, hk, r1, r2, r3⟩ := hrel
    clear hN hL hM hb ht h
    by_cases hl3 : j < 3
    · have hl3' : (j : Int) < 3 := by omega
      have hDj : IsDig (dig (j : Int)) := dig_is (by omega)
      have e0 := cb hk
      have e1 := ct hk
      have la := live_ct (hp hk) hDj now
      unfold Pl.ptr at e0 la
      go_wp2_with (first
        | (with_reducible refine wpl_build 31 _ rfl rfl ?_ (build_dig (j : Int) _) ?_
           · (go_simp <;> rfl)
           simp only [Act.put, List.getElem_toArray, List.getElem_cons_zero, List.getElem_cons_succ, List.setIfInBounds_toArray, List.set_cons_zero, List.set_cons_succ]))
      refine la.mono ?_
      rintro e W1 ⟨rfl, q1⟩
      have k1 := hk.trans q1.upto
      have a1 : Row3 W1 N j (nvI s now) := r1.of (q1.block _ r1.lt not_false)
      have a2 : Row3 W1 L j (lvI s now) := r2.of (q1.block _ r2.lt not_false)
      have a3 : Row3 W1 M j (mvI s) := r3.of (q1.block _ r3.lt not_false)
      unfold liveV
      have hn1 : nvI s now j = .int .i64 (((live s.U (dig (j : Int)) now).getD 0 : Nat) : Int) := rfl
      have hx0 : (live s.U (dig (j : Int)) now).isSome = false → lvI s now j = .int .i64 0 := fun e => by simp [lvI, e]
      have hx1 : (live s.U (dig (j : Int)) now).isSome = true → lvI s now j = .int .i64 1 := fun e => by simp [lvI, e]
      have hm0 : (s.O (.agg (dig (j : Int)))).isSome = false → mvI s j = .int .i64 0 := fun e => by simp [mvI, e]
      generalize (((live s.U (dig (j : Int)) now).getD 0 : Nat) : Int) = x at hn1 ⊢
      generalize (live s.U (dig (j : Int)) now).isSome = bx at hx0 hx1 ⊢
      obtain ⟨y1, c1⟩ := a1.cell hl3
      have g1 := a1.free j
      have b1 := a1.next (fun _ _ => rfl) hl3 hn1
      have b2 := a2.other (p := ⟨N, j, none⟩) nl (.int .i64 x)
      have b3 := a3.other (p := ⟨N, j, none⟩) nm (.int .i64 x)
      have k2 := k1.setCell (p := ⟨N, j, none⟩) (fun _ => .inl rfl) (.int .i64 x)
      obtain ⟨y2, c2⟩ := b2.cell hl3
      have g2 := b2.free j
      have d1 := b1.other (p := ⟨L, j, none⟩) (fun e => nl e.symm) (.int .i64 0)
      have d2 := b2.keep (x := 0) hl3
      have d2' : bx = false → Row3 ((W1.setCell ⟨N, j, none⟩ (.int .i64 x)).setCell ⟨L, j, none⟩ (.int .i64 0)) L (j + 1) (lvI s now) := fun e => b2.next (fun _ _ => rfl) hl3 (hx0 e)
      have d3 := b3.other (p := ⟨L, j, none⟩) lm (.int .i64 0)
      have k3 := k2.setCell (p := ⟨L, j, none⟩) (fun _ => .inr (.inl rfl)) (.int .i64 0)
      obtain ⟨y3, c3⟩ := d3.cell hl3
      have g3 := d3.free j
      have A4 := d1.other (p := ⟨M, j, none⟩) (fun e => nm e.symm) (.int .i64 0)
      have B4 := d2.other (p := ⟨M, j, none⟩) (fun e => lm e.symm) (.int .i64 0)
      have B4' := fun e => (d2' e).other (p := ⟨M, j, none⟩) (fun e => lm e.symm) (.int .i64 0)
      have C4 := d3.keep (x := 0) hl3
      have C4' : (s.O (.agg (dig (j : Int)))).isSome = false → Row3 (((W1.setCell ⟨N, j, none⟩ (.int .i64 x)).setCell ⟨L, j, none⟩ (.int .i64 0)).setCell ⟨M, j, none⟩ (.int .i64 0)) M (j + 1) (mvI s) := fun e => d3.next (fun _ _ => rfl) hl3 (hm0 e)
      have K4 := k3.setCell (p := ⟨M, j, none⟩) (fun _ => .inr (.inr rfl)) (.int .i64 0)
      clear d2' hx0 hm0 la e0 e1 k2 k3
      go_upto_region 5 with fail
      generalize ((W1.setCell ⟨N, j, none⟩ (.int .i64 x)).setCell ⟨L, j, none⟩ (.int .i64 0)).setCell ⟨M, j, none⟩ (.int .i64 0) = W4 at A4 B4 B4' C4 C4' K4 ⊢
      clear c1 g1 c2 g2 c3 g3 b1 b2 b3 d1 d2 d3 a1 a2 a3 r1 r2 r3
      have e4 := cb K4
      unfold Pl.ptr at e4
      cases bx with
      | true =>
        obtain ⟨y5, c5⟩ := B4.cell hl3
        have g5 := B4.free j
        have B5 := B4.next (fun _ _ => rfl) hl3 (hx1 rfl)
        have A5 := A4.other (p := ⟨L, j, none⟩) (fun e => nl e.symm) (.int .i64 1)
        have C5 := C4.other (p := ⟨L, j, none⟩) lm (.int .i64 1)
        have C5' := fun e => (C4' e).other (p := ⟨L, j, none⟩) lm (.int .i64 1)
        have K5 := K4.setCell (p := ⟨L, j, none⟩) (fun _ => .inr (.inl rfl)) (.int .i64 1)
        have e5 := cb K5
        unfold Pl.ptr at e5
        clear B4' C4' hx1
        go_wp2_with (first
          | (with_reducible refine wpl_build 31 _ rfl rfl ?_ (build_dig (j : Int) _) ?_
             · (go_simp <;> rfl)
             simp only [Act.put, List.getElem_toArray, List.getElem_cons_zero, List.getElem_cons_succ, List.setIfInBounds_toArray, List.set_cons_zero, List.set_cons_succ]))
        refine (mine_ct (hp K5) hDj).mono ?_
        rintro e W6 ⟨rfl, q6⟩
        have K6 := K5.trans q6.upto
        have A6 : Row3 W6 N (j + 1) (nvI s now) := A5.of (q6.block _ A5.lt not_false)
        have B6 : Row3 W6 L (j + 1) (lvI s now) := B5.of (q6.block _ B5.lt not_false)
        have C6 : Row3 W6 M j (mvI s) := C5.of (q6.block _ C5.lt not_false)
        have C6' : (s.O (.agg (dig (j : Int)))).isSome = false → Row3 W6 M (j + 1) (mvI s) := fun e => (C5' e).of (q6.block _ C5.lt not_false)
        have hm1 : (s.O (.agg (dig (j : Int)))).isSome = true → mvI s j = .int .i64 1 := fun e => by simp [mvI, e]
        cases hbm : (s.O (.agg (dig (j : Int)))).isSome with
        | true =>
          obtain ⟨y6, c6⟩ := C6.cell hl3
          have g6 := C6.free j
          have D6 := C6.next (fun _ _ => rfl) hl3 (hm1 hbm)
          clear C6' hm1 C5' hbm
          go_wp2_with fail
          go_roundw
          case rel => exact ⟨j + 1, by omega, by go_num, K6.setCell (fun _ => .inr (.inr rfl)) _, A6.other (fun e => nm e.symm) _, B6.other (fun e => lm e.symm) _, D6⟩
          case measure => simp [intOf]; omega
        | false =>
          have D6 := C6' hbm
          clear C6' hm1 C5' hbm
          go_wp2_with fail
          go_roundw
          case rel => exact ⟨j + 1, by omega, by go_num, K6, A6, B6, D6⟩
          case measure => simp [intOf]; omega
      | false =>
        have B5 := B4' rfl
        have A5 := A4
        have C5 := C4
        have C5' := C4'
        have K5 := K4
        clear B4' C4' hx1
        go_wp2_with (first
          | (with_reducible refine wpl_build 31 _ rfl rfl ?_ (build_dig (j : Int) _) ?_
             · (go_simp <;> rfl)
             simp only [Act.put, List.getElem_toArray, List.getElem_cons_zero, List.getElem_cons_succ, List.setIfInBounds_toArray, List.set_cons_zero, List.set_cons_succ]))
        refine (mine_ct (hp K5) hDj).mono ?_
        rintro e W6 ⟨rfl, q6⟩
        have K6 := K5.trans q6.upto
        have A6 : Row3 W6 N (j + 1) (nvI s now) := A5.of (q6.block _ A5.lt not_false)
        have B6 : Row3 W6 L (j + 1) (lvI s now) := B5.of (q6.block _ B5.lt not_false)
        have C6 : Row3 W6 M j (mvI s) := C5.of (q6.block _ C5.lt not_false)
        have C6' : (s.O (.agg (dig (j : Int)))).isSome = false → Row3 W6 M (j + 1) (mvI s) := fun e => (C5' e).of (q6.block _ C5.lt not_false)
        have hm1 : (s.O (.agg (dig (j : Int)))).isSome = true → mvI s j = .int .i64 1 := fun e => by simp [mvI, e]
        cases hbm : (s.O (.agg (dig (j : Int)))).isSome with
        | true =>
          obtain ⟨y6, c6⟩ := C6.cell hl3
          have g6 := C6.free j
          have D6 := C6.next (fun _ _ => rfl) hl3 (hm1 hbm)
          clear C6' hm1 C5' hbm
          go_wp2_with fail
          go_roundw
          case rel => exact ⟨j + 1, by omega, by go_num, K6.setCell (fun _ => .inr (.inr rfl)) _, A6.other (fun e => nm e.symm) _, B6.other (fun e => lm e.symm) _, D6⟩
          case measure => simp [intOf]; omega
        | false =>
          have D6 := C6' hbm
          clear C6' hm1 C5' hbm
          go_wp2_with fail
          go_roundw
          case rel => exact ⟨j + 1, by omega, by go_num, K6, A6, B6, D6⟩
          case measure => simp [intOf]; omega
    · have hl3' : ¬ (j : Int) < 3 := by omega
      obtain rfl : j = 3 := by omega
      go_wp2_with fail
      go_end0
      exact ⟨rfl, hk, r1, r2, r3⟩
end Go.Proofs.Ytbaehaleigpijaa
