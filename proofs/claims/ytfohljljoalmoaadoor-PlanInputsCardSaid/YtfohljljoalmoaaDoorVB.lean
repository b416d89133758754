/- The stable sort: swapRange, rotate. -/
import Derived.Test.YtfohljljoalmoaaDoorVA
namespace Go.Proofs.YtfohljljoalmoaaDoor
open Go.RowKit Go.Sort
set_option maxRecDepth 100000
set_option linter.unusedSimpArgs false
set_option linter.unusedVariables false

theorem kept_any {S : Nat → Prop} {w w' : World} (h : Kept (fun _ => False) w w') : Kept S w w' := h.mono (fun _ _ q => q.elim)
set_option maxRecDepth 100000 in
set_option maxHeartbeats 2000000 in
theorem swapRange_ct {w0 w : World} {base g cap : Nat} {d : Array E} (h : SF w0 base g cap d w) (hd : d.size ≤ 1000) {a b n : Nat} (hab : a + n ≤ b) (hbn : b + n ≤ d.size) :
    Calls Tryd.prog 101 #[.slice (some ⟨g, 0, none⟩) d.size cap, .int .i64 a, .int .i64 b, .int .i64 n, .func (.func 52) #[] #[]] w fun e w' =>
      e = .returned (.tuple #[]) ∧ ∃ D, SF w0 base g cap D w' ∧ PermIn a (b + n) d D ∧ (∀ s, s < n → D[a + s]! = d[b + s]! ∧ D[b + s]! = d[a + s]!) ∧ (∀ t, t < a ∨ (a + n ≤ t ∧ t < b) ∨ b + n ≤ t → D[t]! = d[t]!) := by
  have H0 := Lib.hid h
  clear h
  go_enter Tryd.func101, Tryd.ntmps101
  go_wp2_with fail
  go_loopw [10] (fun vi wr => ∃ (i : Nat) (D : Array E), vi = .int .i64 i ∧ i ≤ n ∧ D.size = d.size ∧ Hid (SF w0 base g cap D wr ∧ PermIn a (b + n) d D ∧ (∀ s, s < i → D[a + s]! = d[b + s]! ∧ D[b + s]! = d[a + s]!) ∧ (∀ t, t < a + i ∧ t < a ∨ (a + i ≤ t ∧ t < b) ∨ b + i ≤ t → D[t]! = d[t]!))) (fun vi _ => n - (intOf vi).toNat)
  case atStart => exact ⟨0, d, rfl, by omega, rfl, H0.out, permIn_refl _ _ _, fun s hs => by omega, fun t _ => rfl⟩
  case round =>
    obtain ⟨i, D, rfl, hin, hds, HR⟩ := hrel
    by_cases hlt : i < n
    · obtain ⟨hS, hP, h1, h2⟩ := HR.out
      obtain ⟨pa, hpa⟩ : ∃ pa, pa = a + i := ⟨_, rfl⟩
      obtain ⟨pb, hpb⟩ : ∃ pb, pb = b + i := ⟨_, rfl⟩
      have wa : IntKind.i64.wrap ((a : Int) + (i : Int)) = (pa : Int) := by rw [IntWalk.i64_in _ (by omega)]; omega
      have wb : IntKind.i64.wrap ((b : Int) + (i : Int)) = (pb : Int) := by rw [IntWalk.i64_in _ (by omega)]; omega
      have la : (pa : Int) < (d.size : Int) := by omega
      have lb : (pb : Int) < (d.size : Int) := by omega
      have hpl : pa < D.size := by omega
      have hql : pb < D.size := by omega
      have ldb := hS.load hql wr.drew (Kept.refl _ wr).drew
      have lda := hS.load hpl wr.drew (Kept.refl _ wr).drew
      obtain ⟨w1, w2, st1, st2, ks1, ks2, hS2⟩ := (hS.later (Kept.refl _ wr).drew).swap hpl hql (hS.2.size)
      have HN : Hid (SF w0 base g cap (swp D pa pb) w2 ∧ PermIn a (b + n) d (swp D pa pb) ∧ (∀ s, s < i + 1 → (swp D pa pb)[a + s]! = d[b + s]! ∧ (swp D pa pb)[b + s]! = d[a + s]!) ∧ (∀ t, t < a + (i + 1) ∧ t < a ∨ (a + (i + 1) ≤ t ∧ t < b) ∨ b + (i + 1) ≤ t → (swp D pa pb)[t]! = d[t]!)) := by
        refine ⟨hS2, permIn_trans _ _ _ _ _ hP (swp_permIn D a (b + n) pa pb (by omega) (by omega) (by omega) (by omega) (by omega)), fun s hs => ?_, fun t ht => ?_⟩
        · by_cases e : s = i
          · subst e
            rw [← hpa, ← hpb, swp_left D pa pb hpl (by omega), swp_right D pa pb hql]
            rw [h2 pb (by omega), h2 pa (by omega)]
            exact ⟨rfl, rfl⟩
          · rw [swp_other D pa pb (a + s) (by omega) (by omega), swp_other D pa pb (b + s) (by omega) (by omega)]
            exact h1 s (by omega)
        · rw [swp_other D pa pb t (by omega) (by omega)]
          exact h2 t (by omega)
      clear hS hP h1 h2 hS2 HR
      unfold aggE at ldb lda st1 st2
      generalize D[pa]!.1 = xa at lda st2
      generalize D[pb]!.1 = xb at ldb st1
      have hsz : (swp D pa pb).size = d.size := by rw [size_swp]; exact hds
      generalize swp D pa pb = D2 at HN hsz
      clear hpa hpb
      go_wp2_with fail
      refine wp_region_held_drew (S := (Kept (fun k => k = g) wr.drew)) (by kernel_rfl) ((Kept.refl _ wr.drew)) (fun hHeld => ?_)
      refine held_q (v := ?_) (i := 0) rfl (by kernel_rfl) (by kernel_rfl) (by kernel_rfl) (fun _ _ _ h => h) (by rfl) hHeld ?_ ?_
      rotate_left
      · (intro w' hS'; go_simp <;> (with_reducible rfl))
      simp only [Act.put, List.getElem_toArray, List.getElem_cons_zero, List.getElem_cons_succ, List.setIfInBounds_toArray, List.set_cons_zero, List.set_cons_succ]
      refine held_q (v := ?_) (i := 1) rfl (by kernel_rfl) (by kernel_rfl) (by kernel_rfl) (fun _ _ _ h => h) (by rfl) hHeld ?_ ?_
      rotate_left
      · (intro w' hS'; go_simp <;> (with_reducible rfl))
      simp only [Act.put, List.getElem_toArray, List.getElem_cons_zero, List.getElem_cons_succ, List.setIfInBounds_toArray, List.set_cons_zero, List.set_cons_succ]
      refine held_q (v := ?_) (i := 2) rfl (by kernel_rfl) (by kernel_rfl) (by kernel_rfl) (fun _ _ _ h => h) (by rfl) hHeld ?_ ?_
      rotate_left
      · (intro w' hS'; go_simp <;> (with_reducible rfl))
      simp only [Act.put, List.getElem_toArray, List.getElem_cons_zero, List.getElem_cons_succ, List.setIfInBounds_toArray, List.set_cons_zero, List.set_cons_succ]
      refine held_q (v := ?_) (i := 3) rfl (by kernel_rfl) (by kernel_rfl) (by kernel_rfl) (fun _ _ _ h => h) (by rfl) hHeld ?_ ?_
      rotate_left
      · (intro w' hS'; go_simp <;> (with_reducible rfl))
      simp only [Act.put, List.getElem_toArray, List.getElem_cons_zero, List.getElem_cons_succ, List.setIfInBounds_toArray, List.set_cons_zero, List.set_cons_succ]
      refine held_q (v := ?_) (i := 4) rfl (by kernel_rfl) (by kernel_rfl) (by kernel_rfl) (fun _ _ _ h => h) (by rfl) hHeld ?_ ?_
      rotate_left
      · (intro w' hS'; go_simp <;> (with_reducible rfl))
      simp only [Act.put, List.getElem_toArray, List.getElem_cons_zero, List.getElem_cons_succ, List.setIfInBounds_toArray, List.set_cons_zero, List.set_cons_succ]
      refine held_q (v := ?_) (i := 5) rfl (by kernel_rfl) (by kernel_rfl) (by kernel_rfl) (fun _ _ _ h => h) (by rfl) hHeld ?_ ?_
      rotate_left
      · (intro w' hS'; go_simp <;> (with_reducible rfl))
      simp only [Act.put, List.getElem_toArray, List.getElem_cons_zero, List.getElem_cons_succ, List.setIfInBounds_toArray, List.set_cons_zero, List.set_cons_succ]
      refine held_q (v := ?_) (i := 6) rfl (by kernel_rfl) (by kernel_rfl) (by kernel_rfl) (fun _ _ _ h => h) (by rfl) hHeld ?_ ?_
      rotate_left
      · (intro w' hS'; go_simp <;> (with_reducible rfl))
      simp only [Act.put, List.getElem_toArray, List.getElem_cons_zero, List.getElem_cons_succ, List.setIfInBounds_toArray, List.set_cons_zero, List.set_cons_succ]
      refine held_q (v := ?_) (i := 7) rfl (by kernel_rfl) (by kernel_rfl) (by kernel_rfl) (fun _ _ _ h => h) (by rfl) hHeld ?_ ?_
      rotate_left
      · (intro w' hS'; go_simp <;> (with_reducible rfl))
      simp only [Act.put, List.getElem_toArray, List.getElem_cons_zero, List.getElem_cons_succ, List.setIfInBounds_toArray, List.set_cons_zero, List.set_cons_succ]
      refine held_q (v := ?_) (i := 8) rfl (by kernel_rfl) (by kernel_rfl) (by kernel_rfl) (fun _ _ _ h => h) (by rfl) hHeld ?_ ?_
      rotate_left
      · (intro w' hS'; go_simp <;> (with_reducible rfl))
      simp only [Act.put, List.getElem_toArray, List.getElem_cons_zero, List.getElem_cons_succ, List.setIfInBounds_toArray, List.set_cons_zero, List.set_cons_succ]
      refine held_q (v := ?_) (i := 9) rfl (by kernel_rfl) (by kernel_rfl) (by kernel_rfl) (fun _ _ _ h => h) (by rfl) hHeld ?_ ?_
      rotate_left
      · (intro w' hS'; go_simp <;> (with_reducible rfl))
      simp only [Act.put, List.getElem_toArray, List.getElem_cons_zero, List.getElem_cons_succ, List.setIfInBounds_toArray, List.set_cons_zero, List.set_cons_succ]
      refine held_q (v := ?_) (i := 10) rfl (by kernel_rfl) (by kernel_rfl) (by kernel_rfl) (fun _ _ _ h => h) (by rfl) hHeld ?_ ?_
      rotate_left
      · (intro w' hS'; go_simp <;> (with_reducible rfl))
      simp only [Act.put, List.getElem_toArray, List.getElem_cons_zero, List.getElem_cons_succ, List.setIfInBounds_toArray, List.set_cons_zero, List.set_cons_succ]
      refine held_q (v := ?_) (i := 11) rfl (by kernel_rfl) (by kernel_rfl) (by kernel_rfl) (fun _ _ _ h => h) (by rfl) hHeld ?_ ?_
      rotate_left
      · (intro w' hS'; go_simp <;> (with_reducible rfl))
      simp only [Act.put, List.getElem_toArray, List.getElem_cons_zero, List.getElem_cons_succ, List.setIfInBounds_toArray, List.set_cons_zero, List.set_cons_succ]
      refine held_q (v := ?_) (i := 12) rfl (by kernel_rfl) (by kernel_rfl) (by kernel_rfl) (fun _ _ _ h => h) (by rfl) hHeld ?_ ?_
      rotate_left
      · (intro w' hS'; go_simp <;> (with_reducible rfl))
      simp only [Act.put, List.getElem_toArray, List.getElem_cons_zero, List.getElem_cons_succ, List.setIfInBounds_toArray, List.set_cons_zero, List.set_cons_succ]
      refine held_q (v := ?_) (i := 14) rfl (by kernel_rfl) (by kernel_rfl) (by kernel_rfl) (fun _ _ _ h => h) (by rfl) hHeld ?_ ?_
      rotate_left
      · (intro w' hS'; go_simp <;> (with_reducible rfl))
      simp only [Act.put, List.getElem_toArray, List.getElem_cons_zero, List.getElem_cons_succ, List.setIfInBounds_toArray, List.set_cons_zero, List.set_cons_succ]
      refine held_q (v := ?_) (i := 15) rfl (by kernel_rfl) (by kernel_rfl) (by kernel_rfl) (fun _ _ _ h => h) (by rfl) hHeld ?_ ?_
      rotate_left
      · (intro w' hS'; go_simp <;> (with_reducible rfl))
      simp only [Act.put, List.getElem_toArray, List.getElem_cons_zero, List.getElem_cons_succ, List.setIfInBounds_toArray, List.set_cons_zero, List.set_cons_succ]
      refine held_q (v := ?_) (i := 16) rfl (by kernel_rfl) (by kernel_rfl) (by kernel_rfl) (fun _ _ _ h => h) (by rfl) hHeld ?_ ?_
      rotate_left
      · (intro w' hS'; go_simp <;> (with_reducible rfl))
      simp only [Act.put, List.getElem_toArray, List.getElem_cons_zero, List.getElem_cons_succ, List.setIfInBounds_toArray, List.set_cons_zero, List.set_cons_succ]
      refine held_q (v := ?_) (i := 17) rfl (by kernel_rfl) (by kernel_rfl) (by kernel_rfl) (fun _ _ _ h => h) (by rfl) hHeld ?_ ?_
      rotate_left
      · (intro w' hS'; go_simp <;> (with_reducible rfl))
      simp only [Act.put, List.getElem_toArray, List.getElem_cons_zero, List.getElem_cons_succ, List.setIfInBounds_toArray, List.set_cons_zero, List.set_cons_succ]
      refine held_q (v := ?_) (i := 18) rfl (by kernel_rfl) (by kernel_rfl) (by kernel_rfl) (fun _ _ _ h => h) (by rfl) hHeld ?_ ?_
      rotate_left
      · (intro w' hS'; go_simp <;> (with_reducible rfl))
      simp only [Act.put, List.getElem_toArray, List.getElem_cons_zero, List.getElem_cons_succ, List.setIfInBounds_toArray, List.set_cons_zero, List.set_cons_succ]
      refine held_two (i := 13) (j := 19) (by kernel_rfl) rfl rfl (by rfl) (by rfl) (exec_load 46 _ rfl rfl ldb) (exec_load 46 _ rfl rfl lda) (Kept.refl _ _) (Kept.refl _ _) (fun hHeld => ?_) (fun hHeld => ?_)
      · simp only [Act.put, List.getElem_toArray, List.getElem_cons_zero, List.getElem_cons_succ, List.setIfInBounds_toArray, List.set_cons_zero, List.set_cons_succ]
        refine held_v (i := 19) (by kernel_rfl) rfl (by rfl) (exec_load 46 _ rfl rfl lda) (Kept.refl _ _) (fun hHeld => ?_)
        simp only [Act.put, List.getElem_toArray, List.getElem_cons_zero, List.getElem_cons_succ, List.setIfInBounds_toArray, List.set_cons_zero, List.set_cons_succ]
        refine held_q (v := ?_) (i := 20) rfl (by kernel_rfl) (by kernel_rfl) (by kernel_rfl) (fun _ _ _ h => h) (by rfl) hHeld ?_ ?_
        rotate_left
        · (intro w' hS'; go_simp <;> (with_reducible rfl))
        simp only [Act.put, List.getElem_toArray, List.getElem_cons_zero, List.getElem_cons_succ, List.setIfInBounds_toArray, List.set_cons_zero, List.set_cons_succ]
        refine held_s (i := 21) (w1 := w1) (by kernel_rfl) rfl (by rfl) (exec_store 46 _ _ rfl rfl rfl st1) ks1 (fun hHeld => ?_)
        simp only [Act.put, List.getElem_toArray, List.getElem_cons_zero, List.getElem_cons_succ, List.setIfInBounds_toArray, List.set_cons_zero, List.set_cons_succ]
        refine held_q (v := ?_) (i := 22) rfl (by kernel_rfl) (by kernel_rfl) (by kernel_rfl) (fun _ _ _ h => h) (by rfl) hHeld ?_ ?_
        rotate_left
        · (intro w' hS'; go_simp <;> (with_reducible rfl))
        simp only [Act.put, List.getElem_toArray, List.getElem_cons_zero, List.getElem_cons_succ, List.setIfInBounds_toArray, List.set_cons_zero, List.set_cons_succ]
        refine held_s (i := 23) (w1 := w2) (by kernel_rfl) rfl (by rfl) (exec_store 46 _ _ rfl rfl rfl st2) ks2 (fun hHeld => ?_)
        simp only [Act.put, List.getElem_toArray, List.getElem_cons_zero, List.getElem_cons_succ, List.setIfInBounds_toArray, List.set_cons_zero, List.set_cons_succ]
        refine wpAnyH_done (by kernel_rfl) ?_ _
        go_wp2_with fail
        go_roundw
        case rel => exact ⟨i + 1, D2, by go_num, by omega, hsz, HN⟩
        case measure => simp [intOf]; omega
      · simp only [Act.put, List.getElem_toArray, List.getElem_cons_zero, List.getElem_cons_succ, List.setIfInBounds_toArray, List.set_cons_zero, List.set_cons_succ]
        refine held_v (i := 13) (by kernel_rfl) rfl (by rfl) (exec_load 46 _ rfl rfl ldb) (Kept.refl _ _) (fun hHeld => ?_)
        simp only [Act.put, List.getElem_toArray, List.getElem_cons_zero, List.getElem_cons_succ, List.setIfInBounds_toArray, List.set_cons_zero, List.set_cons_succ]
        refine held_q (v := ?_) (i := 20) rfl (by kernel_rfl) (by kernel_rfl) (by kernel_rfl) (fun _ _ _ h => h) (by rfl) hHeld ?_ ?_
        rotate_left
        · (intro w' hS'; go_simp <;> (with_reducible rfl))
        simp only [Act.put, List.getElem_toArray, List.getElem_cons_zero, List.getElem_cons_succ, List.setIfInBounds_toArray, List.set_cons_zero, List.set_cons_succ]
        refine held_s (i := 21) (w1 := w1) (by kernel_rfl) rfl (by rfl) (exec_store 46 _ _ rfl rfl rfl st1) ks1 (fun hHeld => ?_)
        simp only [Act.put, List.getElem_toArray, List.getElem_cons_zero, List.getElem_cons_succ, List.setIfInBounds_toArray, List.set_cons_zero, List.set_cons_succ]
        refine held_q (v := ?_) (i := 22) rfl (by kernel_rfl) (by kernel_rfl) (by kernel_rfl) (fun _ _ _ h => h) (by rfl) hHeld ?_ ?_
        rotate_left
        · (intro w' hS'; go_simp <;> (with_reducible rfl))
        simp only [Act.put, List.getElem_toArray, List.getElem_cons_zero, List.getElem_cons_succ, List.setIfInBounds_toArray, List.set_cons_zero, List.set_cons_succ]
        refine held_s (i := 23) (w1 := w2) (by kernel_rfl) rfl (by rfl) (exec_store 46 _ _ rfl rfl rfl st2) ks2 (fun hHeld => ?_)
        simp only [Act.put, List.getElem_toArray, List.getElem_cons_zero, List.getElem_cons_succ, List.setIfInBounds_toArray, List.set_cons_zero, List.set_cons_succ]
        refine wpAnyH_done (by kernel_rfl) ?_ _
        go_wp2_with fail
        go_roundw
        case rel => exact ⟨i + 1, D2, by go_num, by omega, hsz, HN⟩
        case measure => simp [intOf]; omega
    · obtain rfl : i = n := by omega
      obtain ⟨hS, hP, h1, h2⟩ := HR.out
      go_wp2_with fail
      go_end0
      exact ⟨rfl, D, hS, hP, h1, fun t ht => h2 t (by omega)⟩

def rotF (d : Array E) (a m b t : Nat) : E := if t < a + (b - m) then d[t + (m - a)]! else d[t - (b - m)]!
set_option maxRecDepth 100000 in
set_option maxHeartbeats 2000000 in
theorem rotate_ct {w0 w : World} {base g cap : Nat} {d : Array E} (h : SF w0 base g cap d w) (hd : d.size ≤ 1000) {a m b : Nat} (ham : a < m) (hmb : m < b) (hb : b ≤ d.size) :
    Calls Tryd.prog 96 #[.slice (some ⟨g, 0, none⟩) d.size cap, .int .i64 a, .int .i64 m, .int .i64 b, .func (.func 52) #[] #[]] w fun e w' =>
      e = .returned (.tuple #[]) ∧ ∃ D, SF w0 base g cap D w' ∧ PermIn a b d D ∧ (∀ t, a ≤ t → t < b → D[t]! = rotF d a m b t) := by
  obtain ⟨i0, hi0⟩ : ∃ i0, i0 = m - a := ⟨_, rfl⟩
  obtain ⟨j0, hj0⟩ : ∃ j0, j0 = b - m := ⟨_, rfl⟩
  have wi : IntKind.i64.wrap ((m : Int) - (a : Int)) = (i0 : Int) := by rw [IntWalk.i64_in _ (by omega)]; omega
  have wj : IntKind.i64.wrap ((b : Int) - (m : Int)) = (j0 : Int) := by rw [IntWalk.i64_in _ (by omega)]; omega
  obtain ⟨F, hF⟩ : ∃ F : Nat → E, F = rotF d a m b := ⟨_, rfl⟩
  have HS0 : Hid (SF w0 base g cap d w ∧ PermIn a b d d ∧ (∀ t, a ≤ t → t < m - i0 → d[t]! = F t) ∧ (∀ t, m + j0 ≤ t → t < b → d[t]! = F t) ∧ (∀ s, s < j0 → d[m + s]! = F (m - i0 + s)) ∧ (∀ s, s < i0 → d[m - i0 + s]! = F (m - i0 + j0 + s))) := by
    refine ⟨h, permIn_refl _ _ _, fun t h1 h2 => by omega, fun t h1 h2 => by omega, fun s hs => ?_, fun s hs => ?_⟩
    · rw [hF]; unfold rotF; rw [if_pos (by omega)]; congr 1; omega
    · rw [hF]; unfold rotF; rw [if_neg (by omega)]; congr 1; omega
  have HFF := Lib.hid hF
  have hi0' : 1 ≤ i0 ∧ i0 ≤ m - a := by omega
  have hj0' : 1 ≤ j0 ∧ j0 ≤ b - m := by omega
  clear h hF hi0 hj0
  go_enter Tryd.func96, Tryd.ntmps96
  go_wp2_with fail
  go_loopw [10, 11] (fun vi vj wr => ∃ (i j : Nat) (D : Array E), vi = .int .i64 i ∧ vj = .int .i64 j ∧ (1 ≤ i ∧ i ≤ m - a) ∧ (1 ≤ j ∧ j ≤ b - m) ∧ D.size = d.size ∧ Hid (SF w0 base g cap D wr ∧ PermIn a b d D ∧ (∀ t, a ≤ t → t < m - i → D[t]! = F t) ∧ (∀ t, m + j ≤ t → t < b → D[t]! = F t) ∧ (∀ s, s < j → D[m + s]! = F (m - i + s)) ∧ (∀ s, s < i → D[m - i + s]! = F (m - i + j + s)))) (fun vi vj _ => (intOf vi).toNat + (intOf vj).toNat)
  case atStart => exact ⟨i0, j0, d, rfl, rfl, hi0', hj0', rfl, HS0⟩
  case round =>
    clear HS0 wi wj hi0' hj0'
    obtain ⟨i, j, D, rfl, rfl, hi, hj, hds, HR⟩ := hrel
    obtain ⟨hS, hP, h1, h2, h3, h4⟩ := HR.out
    obtain ⟨pm, hpm⟩ : ∃ pm, pm = m - i := ⟨_, rfl⟩
    have wpm : IntKind.i64.wrap ((m : Int) - (i : Int)) = (pm : Int) := by rw [IntWalk.i64_in _ (by omega)]; omega
    rw [← hpm] at h1 h3 h4
    rcases Nat.lt_trichotomy i j with hij | hij | hij
    · -- i < j
      have n1 : ((i : Int) != (j : Int)) = true := by simp; omega
      have n2 : decide ((j : Int) < (i : Int)) = false := decide_eq_false (by omega)
      obtain ⟨pq, hpq⟩ : ∃ pq, pq = m + j - i := ⟨_, rfl⟩
      obtain ⟨mj, hmj⟩ : ∃ mj, mj = m + j := ⟨_, rfl⟩
      obtain ⟨j', hj'⟩ : ∃ j', j' = j - i := ⟨_, rfl⟩
      have wmj : IntKind.i64.wrap ((m : Int) + (j : Int)) = (mj : Int) := by rw [IntWalk.i64_in _ (by omega)]; omega
      have wpq : IntKind.i64.wrap ((mj : Int) - (i : Int)) = (pq : Int) := by rw [IntWalk.i64_in _ (by omega)]; omega
      have wj' : IntKind.i64.wrap ((j : Int) - (i : Int)) = (j' : Int) := by rw [IntWalk.i64_in _ (by omega)]; omega
      have sc := swapRange_ct hS (by omega) (a := pm) (b := pq) (n := i) (by omega) (by omega)
      rw [hds] at sc
      have HQ := Lib.hid (show pm = m - i ∧ pq = m + j - i ∧ mj = m + j ∧ j' = j - i by omega)
      clear hS HR hpm hpq hmj hj'
      go_wp2_with fail
      refine sc.mono ?_
      rintro e W ⟨rfl, D2, hS2, hP2, hsw, hot⟩
      obtain ⟨hpm, hpq, hmj, hj'⟩ := HQ.out
      have hz2 : D2.size = d.size := hP2.1.trans hds
      have HN : Hid (SF w0 base g cap D2 W ∧ PermIn a b d D2 ∧ (∀ t, a ≤ t → t < m - i → D2[t]! = F t) ∧ (∀ t, m + j' ≤ t → t < b → D2[t]! = F t) ∧ (∀ s, s < j' → D2[m + s]! = F (m - i + s)) ∧ (∀ s, s < i → D2[m - i + s]! = F (m - i + j' + s))) := by
        rw [← hpm]
        refine ⟨hS2, permIn_trans _ _ _ _ _ hP (permIn_mono _ _ _ _ _ _ (by omega) (by omega) (by omega) hP2), fun t ha hb => ?_, fun t ha hb => ?_, fun s hs => ?_, fun s hs => ?_⟩
        · rw [hot t (by omega)]; exact h1 t ha hb
        · by_cases ht : m + j ≤ t
          · rw [hot t (by omega)]; exact h2 t ht hb
          · obtain ⟨s, hs⟩ : ∃ s, t = pq + s := ⟨t - pq, by omega⟩
            rw [hs, (hsw s (by omega)).2, h4 s (by omega)]; congr 1; omega
        · rw [hot (m + s) (by omega)]; exact h3 s (by omega)
        · rw [(hsw s hs).1]
          have := h3 (j' + s) (by omega)
          rw [show m + (j' + s) = pq + s by omega] at this
          rw [this]; congr 1; omega
      clear hS2 hP2 hsw hot sc h1 h2 h3 h4 hP hpm hpq hmj hj'
      go_wp2_with fail
      have hj' := HQ.out.2.2.2
      go_roundw
      case rel => exact ⟨i, j', D2, rfl, by go_num, hi, by omega, hz2, HN⟩
      case measure => simp [intOf]; omega
    · -- i = j
      subst hij
      have sc := swapRange_ct hS (by omega) (a := pm) (b := m) (n := i) (by omega) (by omega)
      rw [hds] at sc
      have n1 : ((i : Int) != (i : Int)) = false := by simp
      have HQ := Lib.hid hpm
      clear hS HR hpm
      go_wp2_with fail
      refine sc.mono ?_
      rintro e W ⟨rfl, D2, hS2, hP2, hsw, hot⟩
      have hpm := HQ.out
      go_wp2_with fail
      go_end0
      refine ⟨rfl, D2, hS2, permIn_trans _ _ _ _ _ hP (permIn_mono _ _ _ _ _ _ (by omega) (by omega) (by omega) hP2), fun t ha hb => ?_⟩
      rw [← HFF.out]
      by_cases t1 : t < pm
      · rw [hot t (by omega)]; exact h1 t ha t1
      · by_cases t2 : t < m
        · obtain ⟨s, hs⟩ : ∃ s, t = pm + s := ⟨t - pm, by omega⟩
          rw [hs, (hsw s (by omega)).1]; exact h3 s (by omega)
        · by_cases t3 : t < m + i
          · obtain ⟨s, hs⟩ : ∃ s, t = m + s := ⟨t - m, by omega⟩
            rw [hs, (hsw s (by omega)).2, h4 s (by omega)]; congr 1; omega
          · rw [hot t (by omega)]; exact h2 t (by omega) hb
    · -- i > j
      have n1 : ((i : Int) != (j : Int)) = true := by simp; omega
      have n2 : decide ((j : Int) < (i : Int)) = true := decide_eq_true (by omega)
      obtain ⟨i', hi'⟩ : ∃ i', i' = i - j := ⟨_, rfl⟩
      have wi' : IntKind.i64.wrap ((i : Int) - (j : Int)) = (i' : Int) := by rw [IntWalk.i64_in _ (by omega)]; omega
      have sc := swapRange_ct hS (by omega) (a := pm) (b := m) (n := j) (by omega) (by omega)
      rw [hds] at sc
      have HQ := Lib.hid (show pm = m - i ∧ i' = i - j by omega)
      clear hS HR hpm hi'
      go_wp2_with fail
      refine sc.mono ?_
      rintro e W ⟨rfl, D2, hS2, hP2, hsw, hot⟩
      obtain ⟨hpm, hi'⟩ := HQ.out
      have hz2 : D2.size = d.size := hP2.1.trans hds
      have HN : Hid (SF w0 base g cap D2 W ∧ PermIn a b d D2 ∧ (∀ t, a ≤ t → t < m - i' → D2[t]! = F t) ∧ (∀ t, m + j ≤ t → t < b → D2[t]! = F t) ∧ (∀ s, s < j → D2[m + s]! = F (m - i' + s)) ∧ (∀ s, s < i' → D2[m - i' + s]! = F (m - i' + j + s))) := by
        refine ⟨hS2, permIn_trans _ _ _ _ _ hP (permIn_mono _ _ _ _ _ _ (by omega) (by omega) (by omega) hP2), fun t ha hb => ?_, fun t ha hb => ?_, fun s hs => ?_, fun s hs => ?_⟩
        · by_cases t1 : t < pm
          · rw [hot t (by omega)]; exact h1 t ha t1
          · obtain ⟨s, hs⟩ : ∃ s, t = pm + s := ⟨t - pm, by omega⟩
            rw [hs, (hsw s (by omega)).1]; exact h3 s (by omega)
        · rw [hot t (by omega)]; exact h2 t ha hb
        · rw [(hsw s hs).2, h4 s (by omega)]; congr 1; omega
        · rw [hot (m - i' + s) (by omega)]
          have := h4 (j + s) (by omega)
          rw [show pm + (j + s) = m - i' + s by omega] at this
          rw [this]; congr 1; omega
      clear hS2 hP2 hsw hot sc h1 h2 h3 h4 hP hpm hi'
      go_wp2_with fail
      have hi' := HQ.out.2
      go_roundw
      case rel => exact ⟨i', j, D2, by go_num, rfl, by omega, hj, hz2, HN⟩
      case measure => simp [intOf]; omega
end Go.Proofs.YtfohljljoalmoaaDoor
