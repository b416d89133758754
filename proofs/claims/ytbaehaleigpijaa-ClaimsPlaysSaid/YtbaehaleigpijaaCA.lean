/- Hear: stay. -/
import Derived.Test.YtbaehaleigpijaaC8
namespace Go.Proofs.Ytbaehaleigpijaa
open Go.RowKit
set_option linter.unusedSimpArgs false
set_option linter.unusedVariables false

set_option maxRecDepth 100000 in
set_option maxHeartbeats 4000000 in
theorem hear_stay {w : World} {B m1 m2 m3 : Nat} {id inc wait ttl count : Int} {O L U} (h : Bk w B m1 m2 m3 id inc wait ttl count O L U) {D : Array Value} (hD : IsDig D) {n i c : Int} {g : Bool} {now : Int} (hf : Fine id n i c) (hgg : Hid (g = false)) (hg : Hid (oldB L D n i c g = false)) (hn0 : 0 ≤ now) (hn1 : now ≤ 4611686018427387904) (ht0 : 0 ≤ ttl) (ht1 : ttl ≤ 1000000) (hw0 : 0 ≤ wait) (hw1 : wait ≤ 1000000) (hb : ∀ k b, O (.agg D) = some (k, b) → 0 ≤ b ∧ b ≤ 4611686018427387904) (hs : Hid (match O (.agg D) with | none => True | some o => ¬ (n < id ∧ now < o.2 + wait))) :
    Calls Try.prog 15 #[.pointer (some ⟨B, 0, none⟩), .agg (clm D n i c g), .int .i64 now] w fun e w' => e = .returned (.tuple #[.slice none 0 0, .int .i64 0]) ∧ Kept (fun k => k = m2 ∨ k = m3) w w' ∧ MapIs Try.prog 68 w' m2 (put (fun x => (L x).map serV) (plc D n) (some (serV (i, c)))) ∧ MapIs Try.prog 68 w' m3 (put (fun x => (U x).map (Value.int .i64)) (plc D n) (some (.int .i64 (now + ttl)))) := by
  have hk : Kept (fun _ => False) w (w.alloc (.cells (clm D n i c g) 33)) := (Kept.refl _ w).alloc _
  have hB1 := h.kept hk
  have h5 := hB1.cell 5 _ rfl
  have hr := heap_last w (.cells (clm D n i c g) 33)
  have hlt : w.heap.size < (w.alloc (.cells (clm D n i c g) 33)).heap.size := by simp
  obtain ⟨f1, f2, f3, f4, f5⟩ := hf
  obtain ⟨lp, hplc⟩ := hD.place (n := n) (WalkArith.wf_i64 (by omega))
  obtain ⟨ld, hkey⟩ := hD.key
  have c3' : (n == id) = false := by simp [f3]
  have hBw : B < w.heap.size := h.lt
  have hm1w : m1 < w.heap.size := h.o.lt
  have hm2w : m2 < w.heap.size := h.l.lt
  have hm3w : m3 < w.heap.size := h.u.lt
  have hne1 : B ≠ m1 := h.ne1
  have hne2 : B ≠ m2 := h.ne2
  have hne3 : B ≠ m3 := h.ne3
  have hn12 := h.ne12
  have hn13 := h.ne13
  have hn23 := h.ne23
  go_enter Try.func15, Try.ntmps15
  go_wp2_with fail
  refine (none_some B m1 _ h5).mono ?_
  rintro e w' ⟨rfl, rfl⟩
  go_wp2_with fail
  generalize w.alloc (.cells (clm D n i c g) 33) = W at hk hB1 h5 hr hlt ⊢
  have k0 := hB1.cell 0 _ rfl
  have k1 : W.cell? ⟨w.heap.size, 32, none⟩ = some (.int .i64 n) := by rw [cell_of_row _ _ _ _ _ _ hr]; exact clm_at hD n i c g 0
  have k2 : W.cell? ⟨w.heap.size, 33, none⟩ = some (.int .u64 i) := by rw [cell_of_row _ _ _ _ _ _ hr]; exact clm_at hD n i c g 1
  have k3 : W.cell? ⟨w.heap.size, 34, none⟩ = some (.int .u64 c) := by rw [cell_of_row _ _ _ _ _ _ hr]; exact clm_at hD n i c g 2
  clear h5
  go_quiet (fail)
  go_wp2_with fail
  generalize hW1 : W.drewN nq = W1
  have hd1 : Kept (fun _ => False) W W1 := by rw [← hW1]; exact (Kept.refl _ W).drewN _
  have hk1 : Kept (fun _ => False) w W1 := hk.trans hd1
  have hB2 := hB1.kept hd1
  have hlt1 : w.heap.size < W1.heap.size := Nat.lt_of_lt_of_le hlt hd1.size
  have hr1 : W1.heap[w.heap.size]? = some (.cells (clm D n i c g) 33) := by rw [hd1.block _ hlt not_false]; exact hr
  clear hW1 k0 k1 k2 k3 hB1 hk hd1 hr hlt
  go_upto_region 5 with fail
  go_cut [8, 9] (fun s8 s9 wx => ∃ p8 p9 : Nat, s8 = .pointer (some ⟨p8, 0, none⟩) ∧ s9 = .pointer (some ⟨p9, 0, none⟩) ∧ Kept (fun _ => False) W1 wx ∧ wx.heap[p8]? = some (.cells (D ++ #[.int .i64 n]) 68 (0, 0)) ∧
    wx.heap[p9]? = some (.cells #[.int .u64 i, .int .u64 c] 70 (0, 0)))
  case first =>
    have e32 : ∀ w', Kept (fun _ => False) W1 w' → w'.cell? ⟨w.heap.size, 32, none⟩ = some (.int .i64 n) := fun w' q => by rw [cell_of_row _ _ _ _ _ _ ((q.block _ hlt1 not_false).trans hr1)]; exact clm_at hD n i c g 0
    have e33 : ∀ w', Kept (fun _ => False) W1 w' → w'.cell? ⟨w.heap.size, 33, none⟩ = some (.int .u64 i) := fun w' q => by rw [cell_of_row _ _ _ _ _ _ ((q.block _ hlt1 not_false).trans hr1)]; exact clm_at hD n i c g 1
    have e34 : ∀ w', Kept (fun _ => False) W1 w' → w'.cell? ⟨w.heap.size, 34, none⟩ = some (.int .u64 c) := fun w' q => by rw [cell_of_row _ _ _ _ _ _ ((q.block _ hlt1 not_false).trans hr1)]; exact clm_at hD n i c g 2
    have hst8 := fun {wx : World} {b : Nat} (hb : wx.heap[b]? = some (.cells Z33 68 (0, 0))) => store_row (P := Try.prog) (ty := 68) (c' := D ++ #[.int .i64 n]) hb (by rw [plc_size hD]; kernel_rfl) (by rw [plc_size hD]; rfl) (plc_oneCell hD n)
    have hst9 := fun {wx : World} {b : Nat} (hb : wx.heap[b]? = some (.cells Z2 70 (0, 0))) => store_row (P := Try.prog) (ty := 70) (c' := #[.int .u64 i, .int .u64 c]) hb (by kernel_rfl) rfl (by simp [Value.oneCell'])
    refine wp_region_held_drew (S := (Kept (fun _ => False) W1)) (by kernel_rfl) ((Kept.refl _ W1).drew) (fun hHeld => ?_)
    refine held_q (v := ?_) (i := 0) rfl (by kernel_rfl) (by kernel_rfl) (by kernel_rfl) (fun _ _ _ h => h) (by rfl) hHeld ?_ ?_
    rotate_left
    · (intro w' hS'; go_simp <;> (with_reducible rfl))
    simp only [Act.put, List.getElem_toArray, List.getElem_cons_zero, List.getElem_cons_succ, List.setIfInBounds_toArray, List.set_cons_zero, List.set_cons_succ]
    refine held_q (i := 1) rfl (by kernel_rfl) (by kernel_rfl) (by kernel_rfl) (fun _ _ _ h => h) (by rfl) hHeld (fun w' hS' => exec_load 31 _ rfl rfl (load_dig_mid hD ((hS'.block _ hlt1 not_false).trans hr1))) ?_
    simp only [Act.put, List.getElem_toArray, List.getElem_cons_zero, List.getElem_cons_succ, List.setIfInBounds_toArray, List.set_cons_zero, List.set_cons_succ]
    refine held_q (v := ?_) (i := 2) rfl (by kernel_rfl) (by kernel_rfl) (by kernel_rfl) (fun _ _ _ h => h) (by rfl) hHeld ?_ ?_
    rotate_left
    · (intro w' hS'; go_simp <;> (with_reducible rfl))
    simp only [Act.put, List.getElem_toArray, List.getElem_cons_zero, List.getElem_cons_succ, List.setIfInBounds_toArray, List.set_cons_zero, List.set_cons_succ]
    refine held_q (v := ?_) (i := 3) rfl (by kernel_rfl) (by kernel_rfl) (by kernel_rfl) (fun _ _ _ h => h) (by rfl) hHeld ?_ ?_
    rotate_left
    · (intro w' hS'; go_simp <;> (with_reducible rfl))
    simp only [Act.put, List.getElem_toArray, List.getElem_cons_zero, List.getElem_cons_succ, List.setIfInBounds_toArray, List.set_cons_zero, List.set_cons_succ]
    refine held_q (i := 4) rfl (by kernel_rfl) (by kernel_rfl) (by kernel_rfl) (fun _ _ _ h => h) (by rfl) hHeld (fun w' hS' => exec_build 68 _ rfl (by go_simp <;> rfl) (build_plc hD n w')) ?_
    simp only [Act.put, List.getElem_toArray, List.getElem_cons_zero, List.getElem_cons_succ, List.setIfInBounds_toArray, List.set_cons_zero, List.set_cons_succ]
    refine held_q (v := ?_) (i := 5) rfl (by kernel_rfl) (by kernel_rfl) (by kernel_rfl) (fun _ _ _ h => h) (by rfl) hHeld ?_ ?_
    rotate_left
    · (intro w' hS'; go_simp <;> (with_reducible rfl))
    simp only [Act.put, List.getElem_toArray, List.getElem_cons_zero, List.getElem_cons_succ, List.setIfInBounds_toArray, List.set_cons_zero, List.set_cons_succ]
    refine held_q (v := ?_) (i := 6) rfl (by kernel_rfl) (by kernel_rfl) (by kernel_rfl) (fun _ _ _ h => h) (by rfl) hHeld ?_ ?_
    rotate_left
    · (intro w' hS'; go_simp <;> (with_reducible rfl))
    simp only [Act.put, List.getElem_toArray, List.getElem_cons_zero, List.getElem_cons_succ, List.setIfInBounds_toArray, List.set_cons_zero, List.set_cons_succ]
    refine held_q (v := ?_) (i := 7) rfl (by kernel_rfl) (by kernel_rfl) (by kernel_rfl) (fun _ _ _ h => h) (by rfl) hHeld ?_ ?_
    rotate_left
    · (intro w' hS'; go_simp <;> (with_reducible rfl))
    simp only [Act.put, List.getElem_toArray, List.getElem_cons_zero, List.getElem_cons_succ, List.setIfInBounds_toArray, List.set_cons_zero, List.set_cons_succ]
    refine held_q (v := ?_) (i := 8) rfl (by kernel_rfl) (by kernel_rfl) (by kernel_rfl) (fun _ _ _ h => h) (by rfl) hHeld ?_ ?_
    rotate_left
    · (intro w' hS'; go_simp <;> (with_reducible rfl))
    simp only [Act.put, List.getElem_toArray, List.getElem_cons_zero, List.getElem_cons_succ, List.setIfInBounds_toArray, List.set_cons_zero, List.set_cons_succ]
    refine held_q (v := ?_) (i := 9) rfl (by kernel_rfl) (by kernel_rfl) (by kernel_rfl) (fun _ _ _ h => h) (by rfl) hHeld ?_ ?_
    rotate_left
    · (intro w' hS'; go_simp <;> (with_reducible rfl))
    simp only [Act.put, List.getElem_toArray, List.getElem_cons_zero, List.getElem_cons_succ, List.setIfInBounds_toArray, List.set_cons_zero, List.set_cons_succ]
    refine held_two (i := 10) (j := 11) (vi := .pointer (some ⟨W1.heap.size, 0, none⟩)) (vj := .pointer (some ⟨W1.heap.size, 0, none⟩)) (wi := W1.drew.alloc (.cells Z33 68)) (wj := W1.drew.alloc (.cells Z2 70)) (by kernel_rfl) rfl rfl (by rfl) (by rfl) ?_ ?_ ((Kept.refl _ W1).drew.alloc _) ((Kept.refl _ W1).drew.alloc _) (fun hHeld => ?_) (fun hHeld => ?_)
    · refine exec_alloc 68 ?_ (zeroPlc _)
      rfl
    · refine exec_alloc 70 ?_ (zeroSer _)
      rfl
    · simp only [Act.put, List.getElem_toArray, List.getElem_cons_zero, List.getElem_cons_succ, List.setIfInBounds_toArray, List.set_cons_zero, List.set_cons_succ]
      have hz8 : (W1.drew.alloc (.cells Z33 68)).heap[W1.heap.size]? = some (.cells Z33 68 (0, 0)) := heap_last W1.drew _
      have hsz : (W1.drew.alloc (.cells Z33 68)).heap.size = W1.heap.size + 1 := by simp
      generalize W1.drew.alloc (.cells Z33 68) = WA at hHeld hz8 hsz ⊢
      refine held_v (i := 11) (v := .pointer (some ⟨(WA).heap.size, 0, none⟩)) (w1 := (WA).alloc (.cells Z2 70)) (by kernel_rfl) rfl (by rfl) ?_ ?_ (fun hHeld => ?_)
      · refine exec_alloc 70 ?_ ?_
        · rfl
        · exact zeroSer _
      · exact hHeld.alloc _
      simp only [Act.put, List.getElem_toArray, List.getElem_cons_zero, List.getElem_cons_succ, List.setIfInBounds_toArray, List.set_cons_zero, List.set_cons_succ]
      have hz9 : (WA.alloc (.cells Z2 70)).heap[WA.heap.size]? = some (.cells Z2 70 (0, 0)) := heap_last WA _
      have hz8' : (WA.alloc (.cells Z2 70)).heap[W1.heap.size]? = some (.cells Z33 68 (0, 0)) := by rw [Below.heap_alloc _ _ _ (by omega)]; exact hz8
      generalize WA.alloc (.cells Z2 70) = WB at hHeld hz9 hz8' ⊢
      refine held_s (i := 12) (w1 := WB.setRow W1.heap.size (D ++ #[.int .i64 n])) (by kernel_rfl) rfl (by rfl) ?_ ?_ (fun hHeld => ?_)
      · refine exec_store (p := .pointer (some ⟨W1.heap.size, 0, none⟩)) (q := .agg (D ++ #[.int .i64 n])) 68 (.tmp 8) (.tmp 49) ?_ ?_ ?_ ?_
        · rfl
        · rfl
        · rfl
        · exact hst8 hz8'
      · exact hHeld.setRow (fun q => absurd q (Nat.lt_irrefl _)) _
      simp only [Act.put, List.getElem_toArray, List.getElem_cons_zero, List.getElem_cons_succ, List.setIfInBounds_toArray, List.set_cons_zero, List.set_cons_succ]
      have hy8 := setRow_heap WB W1.heap.size Z33 (D ++ #[.int .i64 n]) _ _ hz8'
      have hy9 := (setRow_other WB W1.heap.size WA.heap.size (D ++ #[.int .i64 n]) (by omega)).trans hz9
      generalize WB.setRow W1.heap.size (D ++ #[.int .i64 n]) = WC at hHeld hy8 hy9 ⊢
      refine held_s (i := 13) (w1 := WC.setRow WA.heap.size #[.int .u64 i, .int .u64 c]) (by kernel_rfl) rfl (by rfl) ?_ ?_ (fun hHeld => ?_)
      · refine exec_store (p := .pointer (some ⟨WA.heap.size, 0, none⟩)) (q := .agg #[.int .u64 i, .int .u64 c]) 70 (.tmp 9) (.tmp 54) ?_ ?_ ?_ ?_
        · rfl
        · rfl
        · rfl
        · exact hst9 hy9
      · exact hHeld.setRow (fun q => absurd q (by omega)) _
      simp only [Act.put, List.getElem_toArray, List.getElem_cons_zero, List.getElem_cons_succ, List.setIfInBounds_toArray, List.set_cons_zero, List.set_cons_succ]
      refine wpAnyH_done (by kernel_rfl) ?_ _
      have hx9 := setRow_heap WC WA.heap.size Z2 #[.int .u64 i, .int .u64 c] _ _ hy9
      have hx8 := (setRow_other WC WA.heap.size W1.heap.size #[.int .u64 i, .int .u64 c] (by omega)).trans hy8
      generalize WC.setRow WA.heap.size #[.int .u64 i, .int .u64 c] = WD at hHeld hx8 hx9 ⊢
      go_wp2_with fail
      go_meet
      exact ⟨W1.heap.size, WA.heap.size, rfl, rfl, hHeld, hx8, hx9⟩
    · simp only [Act.put, List.getElem_toArray, List.getElem_cons_zero, List.getElem_cons_succ, List.setIfInBounds_toArray, List.set_cons_zero, List.set_cons_succ]
      have hz8 : (W1.drew.alloc (.cells Z2 70)).heap[W1.heap.size]? = some (.cells Z2 70 (0, 0)) := heap_last W1.drew _
      have hsz : (W1.drew.alloc (.cells Z2 70)).heap.size = W1.heap.size + 1 := by simp
      generalize W1.drew.alloc (.cells Z2 70) = WA at hHeld hz8 hsz ⊢
      refine held_v (i := 10) (v := .pointer (some ⟨(WA).heap.size, 0, none⟩)) (w1 := (WA).alloc (.cells Z33 68)) (by kernel_rfl) rfl (by rfl) ?_ ?_ (fun hHeld => ?_)
      · refine exec_alloc 68 ?_ ?_
        · rfl
        · exact zeroPlc _
      · exact hHeld.alloc _
      simp only [Act.put, List.getElem_toArray, List.getElem_cons_zero, List.getElem_cons_succ, List.setIfInBounds_toArray, List.set_cons_zero, List.set_cons_succ]
      have hz9 : (WA.alloc (.cells Z33 68)).heap[WA.heap.size]? = some (.cells Z33 68 (0, 0)) := heap_last WA _
      have hz8' : (WA.alloc (.cells Z33 68)).heap[W1.heap.size]? = some (.cells Z2 70 (0, 0)) := by rw [Below.heap_alloc _ _ _ (by omega)]; exact hz8
      generalize WA.alloc (.cells Z33 68) = WB at hHeld hz9 hz8' ⊢
      refine held_s (i := 12) (w1 := WB.setRow WA.heap.size (D ++ #[.int .i64 n])) (by kernel_rfl) rfl (by rfl) ?_ ?_ (fun hHeld => ?_)
      · refine exec_store (p := .pointer (some ⟨WA.heap.size, 0, none⟩)) (q := .agg (D ++ #[.int .i64 n])) 68 (.tmp 8) (.tmp 49) ?_ ?_ ?_ ?_
        · rfl
        · rfl
        · rfl
        · exact hst8 hz9
      · exact hHeld.setRow (fun q => absurd q (by omega)) _
      simp only [Act.put, List.getElem_toArray, List.getElem_cons_zero, List.getElem_cons_succ, List.setIfInBounds_toArray, List.set_cons_zero, List.set_cons_succ]
      have hy8 := setRow_heap WB WA.heap.size Z33 (D ++ #[.int .i64 n]) _ _ hz9
      have hy9 := (setRow_other WB WA.heap.size W1.heap.size (D ++ #[.int .i64 n]) (by omega)).trans hz8'
      generalize WB.setRow WA.heap.size (D ++ #[.int .i64 n]) = WC at hHeld hy8 hy9 ⊢
      refine held_s (i := 13) (w1 := WC.setRow W1.heap.size #[.int .u64 i, .int .u64 c]) (by kernel_rfl) rfl (by rfl) ?_ ?_ (fun hHeld => ?_)
      · refine exec_store (p := .pointer (some ⟨W1.heap.size, 0, none⟩)) (q := .agg #[.int .u64 i, .int .u64 c]) 70 (.tmp 9) (.tmp 54) ?_ ?_ ?_ ?_
        · rfl
        · rfl
        · rfl
        · exact hst9 hy9
      · exact hHeld.setRow (fun q => absurd q (Nat.lt_irrefl _)) _
      simp only [Act.put, List.getElem_toArray, List.getElem_cons_zero, List.getElem_cons_succ, List.setIfInBounds_toArray, List.set_cons_zero, List.set_cons_succ]
      refine wpAnyH_done (by kernel_rfl) ?_ _
      have hx9 := setRow_heap WC W1.heap.size Z2 #[.int .u64 i, .int .u64 c] _ _ hy9
      have hx8 := (setRow_other WC W1.heap.size WA.heap.size #[.int .u64 i, .int .u64 c] (by omega)).trans hy8
      generalize WC.setRow W1.heap.size #[.int .u64 i, .int .u64 c] = WD at hHeld hx8 hx9 ⊢
      go_wp2_with fail
      go_meet
      exact ⟨WA.heap.size, W1.heap.size, rfl, rfl, hHeld, hx8, hx9⟩
  case rest =>
    obtain ⟨p8, p9, rfl, rfl, hkc, hp8, hp9⟩ := hcut
    obtain ⟨V, hV⟩ : ∃ V : World, V = wc := ⟨_, rfl⟩
    subst hV
    have hk2 : Kept (fun _ => False) w V := hk1.trans hkc
    have hBc := hB2.kept hkc
    have hrc : V.heap[w.heap.size]? = some (.cells (clm D n i c g) 33) := by rw [hkc.block _ hlt1 not_false]; exact hr1
    have hltc : w.heap.size < V.heap.size := Nat.lt_of_lt_of_le hlt1 hkc.size
    have hl8 : p8 < V.heap.size := (Array.getElem?_eq_some_iff.1 hp8).1
    have hl9 : p9 < V.heap.size := (Array.getElem?_eq_some_iff.1 hp9).1
    clear hkc hk1 hB2 hr1 hlt1
    obtain ⟨s1, s2, has, hlk, hold⟩ := look_last hBc hplc i c g
    have HOLD := Lib.hid hold
    clear hold
    have hc6 : ∀ w', Kept (fun _ => False) V w' → w'.cell? ⟨B, 6, none⟩ = some (.map (some m2)) := fun w' q => (hBc.kept q).cell 6 _ rfl
    have hst := fun wx : World => store_new (P := Try.prog) (ty := 70) (c := Z2) (c' := #[.int .u64 s1, .int .u64 s2]) (by kernel_rfl) rfl (by simp [Value.oneCell']) (w := wx) rfl
    go_wp2_with fail
    refine wp_region_held_drew (S := (Kept (fun _ => False) V)) (by kernel_rfl) ((Kept.refl _ V).drew) (fun hHeld => ?_)
    refine held_q (v := ?_) (i := 0) rfl (by kernel_rfl) (by kernel_rfl) (by kernel_rfl) (fun _ _ _ h => h) (by rfl) hHeld ?_ ?_
    rotate_left
    · (intro w' hS'; go_simp <;> (with_reducible rfl))
    simp only [Act.put, List.getElem_toArray, List.getElem_cons_zero, List.getElem_cons_succ, List.setIfInBounds_toArray, List.set_cons_zero, List.set_cons_succ]
    refine held_q (v := ?_) (i := 1) rfl (by kernel_rfl) (by kernel_rfl) (by kernel_rfl) (fun _ _ _ h => h) (by rfl) hHeld ?_ ?_
    rotate_left
    · (intro w' hS'; go_simp <;> (with_reducible rfl))
    simp only [Act.put, List.getElem_toArray, List.getElem_cons_zero, List.getElem_cons_succ, List.setIfInBounds_toArray, List.set_cons_zero, List.set_cons_succ]
    refine held_q (v := ?_) (i := 2) rfl (by kernel_rfl) (by kernel_rfl) (by kernel_rfl) (fun _ _ _ h => h) (by rfl) hHeld ?_ ?_
    rotate_left
    · (intro w' hS'; go_simp <;> (with_reducible rfl))
    simp only [Act.put, List.getElem_toArray, List.getElem_cons_zero, List.getElem_cons_succ, List.setIfInBounds_toArray, List.set_cons_zero, List.set_cons_succ]
    refine held_q (v := ?_) (i := 3) rfl (by kernel_rfl) (by kernel_rfl) (by kernel_rfl) (fun _ _ _ h => h) (by rfl) hHeld ?_ ?_
    rotate_left
    · (intro w' hS'; go_simp <;> (with_reducible rfl))
    simp only [Act.put, List.getElem_toArray, List.getElem_cons_zero, List.getElem_cons_succ, List.setIfInBounds_toArray, List.set_cons_zero, List.set_cons_succ]
    refine held_q (i := 4) rfl (by kernel_rfl) (by kernel_rfl) (by kernel_rfl) (fun _ _ _ h => h) (by rfl) hHeld (fun w' hS' => exec_load 68 _ rfl rfl (load_plc hD ((hS'.block _ hl8 not_false).trans hp8))) ?_
    simp only [Act.put, List.getElem_toArray, List.getElem_cons_zero, List.getElem_cons_succ, List.setIfInBounds_toArray, List.set_cons_zero, List.set_cons_succ]
    refine held_q (i := 5) rfl (by kernel_rfl) (by kernel_rfl) (by kernel_rfl) (fun _ _ _ h => h) (by rfl) hHeld (fun w' hS' => exec_lookup 56 _ _ _ rfl rfl rfl (hlk _ hS')) ?_
    simp only [Act.put, List.getElem_toArray, List.getElem_cons_zero, List.getElem_cons_succ, List.setIfInBounds_toArray, List.set_cons_zero, List.set_cons_succ]
    refine held_q (v := ?_) (i := 6) rfl (by kernel_rfl) (by kernel_rfl) (by kernel_rfl) (fun _ _ _ h => h) (by rfl) hHeld ?_ ?_
    rotate_left
    · (intro w' hS'; go_simp <;> (with_reducible rfl))
    simp only [Act.put, List.getElem_toArray, List.getElem_cons_zero, List.getElem_cons_succ, List.setIfInBounds_toArray, List.set_cons_zero, List.set_cons_succ]
    refine held_q (v := ?_) (i := 7) rfl (by kernel_rfl) (by kernel_rfl) (by kernel_rfl) (fun _ _ _ h => h) (by rfl) hHeld ?_ ?_
    rotate_left
    · (intro w' hS'; go_simp <;> (with_reducible rfl))
    simp only [Act.put, List.getElem_toArray, List.getElem_cons_zero, List.getElem_cons_succ, List.setIfInBounds_toArray, List.set_cons_zero, List.set_cons_succ]
    refine held_q (v := ?_) (i := 8) rfl (by kernel_rfl) (by kernel_rfl) (by kernel_rfl) (fun _ _ _ h => h) (by rfl) hHeld ?_ ?_
    rotate_left
    · (intro w' hS'; go_simp <;> (with_reducible rfl))
    simp only [Act.put, List.getElem_toArray, List.getElem_cons_zero, List.getElem_cons_succ, List.setIfInBounds_toArray, List.set_cons_zero, List.set_cons_succ]
    refine held_v (i := 9) (v := .pointer (some ⟨(V.drew).heap.size, 0, none⟩)) (w1 := (V.drew).alloc (.cells Z2 70)) (by kernel_rfl) rfl (by rfl) ?_ ?_ (fun hHeld => ?_)
    · refine exec_alloc 70 ?_ ?_
      · rfl
      · exact zeroSer _
    · exact hHeld.alloc _
    simp only [Act.put, List.getElem_toArray, List.getElem_cons_zero, List.getElem_cons_succ, List.setIfInBounds_toArray, List.set_cons_zero, List.set_cons_succ]
    refine held_s (i := 10) (w1 := V.drew.alloc (.cells #[.int .u64 s1, .int .u64 s2] 70)) (by kernel_rfl) rfl (by rfl) ?_ ?_ (fun hHeld => ?_)
    · refine exec_store (p := .pointer (some ⟨V.drew.heap.size, 0, none⟩)) (q := .agg #[.int .u64 s1, .int .u64 s2]) 70 (.tmp 10) (.tmp 62) ?_ ?_ ?_ ?_
      · rfl
      · rfl
      · rfl
      · exact hst V.drew
    · exact (Kept.refl _ V).drew.alloc _
    simp only [Act.put, List.getElem_toArray, List.getElem_cons_zero, List.getElem_cons_succ, List.setIfInBounds_toArray, List.set_cons_zero, List.set_cons_succ]
    refine held_q (v := ?_) (i := 11) rfl (by kernel_rfl) (by kernel_rfl) (by kernel_rfl) (fun _ _ _ h => h) (by rfl) hHeld ?_ ?_
    rotate_left
    · (intro w' hS'; go_simp <;> (with_reducible rfl))
    simp only [Act.put, List.getElem_toArray, List.getElem_cons_zero, List.getElem_cons_succ, List.setIfInBounds_toArray, List.set_cons_zero, List.set_cons_succ]
    refine wpAnyH_done (by kernel_rfl) ?_ _
    have hp10 : (V.drew.alloc (.cells #[.int .u64 s1, .int .u64 s2] 70)).heap[V.heap.size]? = some (.cells #[.int .u64 s1, .int .u64 s2] 70 (0, 0)) := heap_last V.drew _
    generalize V.drew.alloc (.cells #[.int .u64 s1, .int .u64 s2] 70) = W3 at hHeld hp10 ⊢
    have hk3 : Kept (fun _ => False) w W3 := hk2.trans hHeld
    have hB3 := hBc.kept hHeld
    have hr3 : W3.heap[w.heap.size]? = some (.cells (clm D n i c g) 33) := by rw [hHeld.block _ hltc not_false]; exact hrc
    have h8 : W3.heap[p8]? = some (.cells (D ++ #[.int .i64 n]) 68 (0, 0)) := by rw [hHeld.block _ hl8 not_false]; exact hp8
    have h9 : W3.heap[p9]? = some (.cells #[.int .u64 i, .int .u64 c] 70 (0, 0)) := by rw [hHeld.block _ hl9 not_false]; exact hp9
    clear hHeld hst hc6 hlk hp8 hp9 hl8 hl9 hltc hrc hBc hk2
    go_upto_region 7 with fail
    go_cut [80] (fun s80 wx => s80 = .bool (oldB L D n i c g) ∧ Kept (fun _ => False) W3 wx)
    case first =>
      have d0 : W3.cell? ⟨V.heap.size, 0, none⟩ = some (.int .u64 s1) := by rw [cell_of_row _ _ _ _ _ _ hp10]; rfl
      have d1 : W3.cell? ⟨V.heap.size, 1, none⟩ = some (.int .u64 s2) := by rw [cell_of_row _ _ _ _ _ _ hp10]; rfl
      have d2 : W3.cell? ⟨p9, 0, none⟩ = some (.int .u64 i) := by rw [cell_of_row _ _ _ _ _ _ h9]; rfl
      have d3 : W3.cell? ⟨p9, 1, none⟩ = some (.int .u64 c) := by rw [cell_of_row _ _ _ _ _ _ h9]; rfl
      have d4 : W3.cell? ⟨w.heap.size, 35, none⟩ = some (.bool g) := by rw [cell_of_row _ _ _ _ _ _ hr3]; exact clm_at hD n i c g 3
      have hab := above_any s1 s2 i c W3
      unfold serV at hab
      cases has with
      | false =>
        go_wp2_with fail
        go_meet
        exact ⟨by rw [HOLD.out]; rfl, Kept.refl _ W3⟩
      | true =>
        go_wp2_with fail
        refine hab.mono ?_
        rintro e W4 ⟨rfl, hq⟩
        have hl10 : V.heap.size < W3.heap.size := (Array.getElem?_eq_some_iff.1 hp10).1
        have hl9 : p9 < W3.heap.size := (Array.getElem?_eq_some_iff.1 h9).1
        have hlw : w.heap.size < W3.heap.size := (Array.getElem?_eq_some_iff.1 hr3).1
        rw [← hq.cell (p := ⟨V.heap.size, 0, none⟩) hl10 not_false] at d0
        rw [← hq.cell (p := ⟨V.heap.size, 1, none⟩) hl10 not_false] at d1
        rw [← hq.cell (p := ⟨p9, 0, none⟩) hl9 not_false] at d2
        rw [← hq.cell (p := ⟨p9, 1, none⟩) hl9 not_false] at d3
        rw [← hq.cell (p := ⟨w.heap.size, 35, none⟩) hlw not_false] at d4
        have hab2 := above_any i c s1 s2 W4
        unfold serV at hab2
        generalize ha1 : abv (s1, s2) (i, c) = b1 at HOLD ⊢
        generalize ha2 : abv (i, c) (s1, s2) = b2 at HOLD hab2 ⊢
        clear ha1 ha2
        cases b1 with
        | true =>
          go_wp2_with fail
          go_meet
          exact ⟨by rw [HOLD.out]; rfl, hq⟩
        | false =>
          cases g with
          | true =>
            go_wp2_with fail
            go_meet
            exact ⟨by rw [HOLD.out]; rfl, hq⟩
          | false =>
            go_wp2_with fail
            refine hab2.mono ?_
            rintro e W5 ⟨rfl, hq2⟩
            cases b2 with
            | true =>
              go_wp2_with fail
              go_meet
              exact ⟨by rw [HOLD.out]; rfl, hq.trans hq2⟩
            | false =>
              go_wp2_with fail
              go_meet
              exact ⟨by rw [HOLD.out]; rfl, hq.trans hq2⟩
    case rest =>
      obtain ⟨rfl, hkx⟩ := hcut
      clear HOLD
      generalize hob : oldB L D n i c g = ob at *
      have e : ob = false := hg.out
      subst e
      clear hob
      have hk4 : Kept (fun _ => False) w wc := hk3.trans hkx
      have hB4 := hB3.kept hkx
      have hr4 : wc.heap[w.heap.size]? = some (.cells (clm D n i c g) 33) := by rw [hkx.block _ (Array.getElem?_eq_some_iff.1 hr3).1 not_false]; exact hr3
      have h84 : wc.heap[p8]? = some (.cells (D ++ #[.int .i64 n]) 68 (0, 0)) := by rw [hkx.block _ (Array.getElem?_eq_some_iff.1 h8).1 not_false]; exact h8
      have h94 : wc.heap[p9]? = some (.cells #[.int .u64 i, .int .u64 c] 70 (0, 0)) := by rw [hkx.block _ (Array.getElem?_eq_some_iff.1 h9).1 not_false]; exact h9
      have z0 : w.heap.size < wc.heap.size := (Array.getElem?_eq_some_iff.1 hr4).1
      have z8 : p8 < wc.heap.size := (Array.getElem?_eq_some_iff.1 h84).1
      have z9 : p9 < wc.heap.size := (Array.getElem?_eq_some_iff.1 h94).1
      have y8 : p8 ≠ m1 ∧ p8 ≠ m2 ∧ p8 ≠ m3 := ⟨ne_map h84 hB4.o, ne_map h84 hB4.l, ne_map h84 hB4.u⟩
      have y9 : p9 ≠ m1 ∧ p9 ≠ m2 ∧ p9 ≠ m3 := ⟨ne_map h94 hB4.o, ne_map h94 hB4.l, ne_map h94 hB4.u⟩
      clear hk3 hkx hB3 hr3 h8 h9 hp10
      obtain ⟨o2, hupd, hmap⟩ := MapIs.store lawP Try.underlying56 (w := wc.drew) hB4.l hplc (serV (i, c))
      have hc6 : ∀ w', Kept (· = m2) wc w' → w'.cell? ⟨B, 6, none⟩ = some (.map (some m2)) := fun w' q => by
        rw [q.cell (p := ⟨B, 6, none⟩) hB4.lt hne2]; exact hB4.cell 6 _ rfl
      have hl9 : ∀ {wx : World}, wx.heap[p9]? = some (.cells #[.int .u64 i, .int .u64 c] 70 (0, 0)) → (Instr.loadAt 70 (.pointer (some ⟨p9, 0, none⟩))).run Try.prog wx = .ok (serV (i, c)) wx :=
        fun hx => load_row Try.underlying70 rfl hx (by kernel_rfl)
      go_wp2_with fail
      refine wp_region_held_drew (S := (Kept (· = m2) wc)) (by kernel_rfl) ((Kept.refl _ wc).drew) (fun hHeld => ?_)
      refine held_q (v := ?_) (i := 0) rfl (by kernel_rfl) (by kernel_rfl) (by kernel_rfl) (fun _ _ _ h => h) (by rfl) hHeld ?_ ?_
      rotate_left
      · (intro w' hS'; go_simp <;> (with_reducible rfl))
      simp only [Act.put, List.getElem_toArray, List.getElem_cons_zero, List.getElem_cons_succ, List.setIfInBounds_toArray, List.set_cons_zero, List.set_cons_succ]
      refine held_q (v := ?_) (i := 1) rfl (by kernel_rfl) (by kernel_rfl) (by kernel_rfl) (fun _ _ _ h => h) (by rfl) hHeld ?_ ?_
      rotate_left
      · (intro w' hS'; go_simp <;> (with_reducible rfl))
      simp only [Act.put, List.getElem_toArray, List.getElem_cons_zero, List.getElem_cons_succ, List.setIfInBounds_toArray, List.set_cons_zero, List.set_cons_succ]
      refine held_q (v := ?_) (i := 2) rfl (by kernel_rfl) (by kernel_rfl) (by kernel_rfl) (fun _ _ _ h => h) (by rfl) hHeld ?_ ?_
      rotate_left
      · (intro w' hS'; go_simp <;> (with_reducible rfl))
      simp only [Act.put, List.getElem_toArray, List.getElem_cons_zero, List.getElem_cons_succ, List.setIfInBounds_toArray, List.set_cons_zero, List.set_cons_succ]
      refine held_q (v := ?_) (i := 3) rfl (by kernel_rfl) (by kernel_rfl) (by kernel_rfl) (fun _ _ _ h => h) (by rfl) hHeld ?_ ?_
      rotate_left
      · (intro w' hS'; go_simp <;> (with_reducible rfl))
      simp only [Act.put, List.getElem_toArray, List.getElem_cons_zero, List.getElem_cons_succ, List.setIfInBounds_toArray, List.set_cons_zero, List.set_cons_succ]
      refine held_q (i := 4) rfl (by kernel_rfl) (by kernel_rfl) (by kernel_rfl) (fun _ _ _ h => h) (by rfl) hHeld (fun w' hS' => exec_load 68 _ rfl rfl (load_plc hD ((hS'.block _ z8 y8.2.1).trans h84))) ?_
      simp only [Act.put, List.getElem_toArray, List.getElem_cons_zero, List.getElem_cons_succ, List.setIfInBounds_toArray, List.set_cons_zero, List.set_cons_succ]
      refine held_q (i := 5) rfl (by kernel_rfl) (by kernel_rfl) (by kernel_rfl) (fun _ _ _ h => h) (by rfl) hHeld (fun w' hS' => exec_load 70 _ rfl rfl (hl9 ((hS'.block _ z9 y9.2.1).trans h94))) ?_
      simp only [Act.put, List.getElem_toArray, List.getElem_cons_zero, List.getElem_cons_succ, List.setIfInBounds_toArray, List.set_cons_zero, List.set_cons_succ]
      refine held_s (i := 6) (w1 := setBlk wc.drew m2 o2) (by kernel_rfl) rfl (by rfl) ?_ ?_ (fun hHeld => ?_)
      · refine exec_mapUpdate (p := .map (some m2)) (q := plc D n) (v := serV (i, c)) 56 (.tmp 84) (.tmp 85) (.tmp 86) ?_ ?_ ?_ ?_ ?_
        · rfl
        · rfl
        · rfl
        · rfl
        · exact hupd
      · exact (Kept.refl (· = m2) wc).drew.setBlk (fun _ => rfl) _
      simp only [Act.put, List.getElem_toArray, List.getElem_cons_zero, List.getElem_cons_succ, List.setIfInBounds_toArray, List.set_cons_zero, List.set_cons_succ]
      refine wpAnyH_done (by kernel_rfl) ?_ _
      have hL5 := hmap (setBlk wc.drew m2 o2) (setBlk_at _ (show m2 < wc.heap.size from hB4.l.lt))
      generalize setBlk wc.drew m2 o2 = W5 at hHeld hL5 ⊢
      have hB5 : W5.heap[B]? = some (.cells #[.int .i64 id, .int .u64 inc, .int .i64 wait, .int .i64 ttl, .int .u64 count, .map (some m1), .map (some m2), .map (some m3)] 59 (0, 0)) := by rw [hHeld.block _ hB4.lt hne2]; exact hB4.blk
      have hO5 := hB4.o.kept hHeld hn12
      have hU5 := hB4.u.kept hHeld hn23.symm
      have hr5 : W5.heap[w.heap.size]? = some (.cells (clm D n i c g) 33) := by rw [hHeld.block _ z0 (by omega)]; exact hr4
      have h85 : W5.heap[p8]? = some (.cells (D ++ #[.int .i64 n]) 68 (0, 0)) := by rw [hHeld.block _ z8 y8.2.1]; exact h84
      have hk5 : Kept (· = m2) w W5 := (hk4.mono (fun _ _ q => q.elim)).trans hHeld
      have z5 : wc.heap.size ≤ W5.heap.size := hHeld.size
      have hg5 : W5.cell? ⟨w.heap.size, 35, none⟩ = some (.bool g) := by rw [cell_of_row _ _ _ _ _ _ hr5]; exact clm_at hD n i c g 3
      clear hHeld hupd hmap hc6 hl9 hB4 hr4 h84 h94 hk4
      have bl : B < W5.heap.size := (Array.getElem?_eq_some_iff.1 hB5).1
      have hgg2 := hgg.out
      subst hgg2
      obtain ⟨o3, hupd, hmap⟩ := MapIs.store lawP Try.underlying57 (w := W5.drew) hU5 hplc (.int .i64 (now + ttl))
      have hc7 : ∀ w', Kept (· = m3) W5 w' → w'.cell? ⟨B, 7, none⟩ = some (.map (some m3)) := fun w' q => by
        rw [q.cell (p := ⟨B, 7, none⟩) bl hne3, cell_of_row _ _ _ _ _ _ hB5]; rfl
      have hc3 : ∀ w', Kept (· = m3) W5 w' → w'.cell? ⟨B, 3, none⟩ = some (.int .i64 ttl) := fun w' q => by
        rw [q.cell (p := ⟨B, 3, none⟩) bl hne3, cell_of_row _ _ _ _ _ _ hB5]; rfl
      go_wp2_with fail
      have hwr : IntKind.i64.wrap (now + ttl) = now + ttl := IntWalk.i64_in _ (by omega)
      refine wp_region_held_drew (S := (Kept (· = m3) W5)) (by kernel_rfl) ((Kept.refl _ W5).drew) (fun hHeld => ?_)
      refine held_q (v := ?_) (i := 0) rfl (by kernel_rfl) (by kernel_rfl) (by kernel_rfl) (fun _ _ _ h => h) (by rfl) hHeld ?_ ?_
      rotate_left
      · (intro w' hS'; go_simp <;> (with_reducible rfl))
      simp only [Act.put, List.getElem_toArray, List.getElem_cons_zero, List.getElem_cons_succ, List.setIfInBounds_toArray, List.set_cons_zero, List.set_cons_succ]
      refine held_q (v := ?_) (i := 1) rfl (by kernel_rfl) (by kernel_rfl) (by kernel_rfl) (fun _ _ _ h => h) (by rfl) hHeld ?_ ?_
      rotate_left
      · (intro w' hS'; go_simp <;> (with_reducible rfl))
      simp only [Act.put, List.getElem_toArray, List.getElem_cons_zero, List.getElem_cons_succ, List.setIfInBounds_toArray, List.set_cons_zero, List.set_cons_succ]
      refine held_q (v := ?_) (i := 2) rfl (by kernel_rfl) (by kernel_rfl) (by kernel_rfl) (fun _ _ _ h => h) (by rfl) hHeld ?_ ?_
      rotate_left
      · (intro w' hS'; go_simp <;> (with_reducible rfl))
      simp only [Act.put, List.getElem_toArray, List.getElem_cons_zero, List.getElem_cons_succ, List.setIfInBounds_toArray, List.set_cons_zero, List.set_cons_succ]
      refine held_q (v := ?_) (i := 3) rfl (by kernel_rfl) (by kernel_rfl) (by kernel_rfl) (fun _ _ _ h => h) (by rfl) hHeld ?_ ?_
      rotate_left
      · (intro w' hS'; go_simp <;> (with_reducible rfl))
      simp only [Act.put, List.getElem_toArray, List.getElem_cons_zero, List.getElem_cons_succ, List.setIfInBounds_toArray, List.set_cons_zero, List.set_cons_succ]
      refine held_q (i := 4) rfl (by kernel_rfl) (by kernel_rfl) (by kernel_rfl) (fun _ _ _ h => h) (by rfl) hHeld (fun w' hS' => exec_load 68 _ rfl rfl (load_plc hD ((hS'.block _ (Nat.lt_of_lt_of_le z8 z5) y8.2.2).trans h85))) ?_
      simp only [Act.put, List.getElem_toArray, List.getElem_cons_zero, List.getElem_cons_succ, List.setIfInBounds_toArray, List.set_cons_zero, List.set_cons_succ]
      refine held_q (v := ?_) (i := 5) rfl (by kernel_rfl) (by kernel_rfl) (by kernel_rfl) (fun _ _ _ h => h) (by rfl) hHeld ?_ ?_
      rotate_left
      · (intro w' hS'; go_simp <;> (with_reducible rfl))
      simp only [Act.put, List.getElem_toArray, List.getElem_cons_zero, List.getElem_cons_succ, List.setIfInBounds_toArray, List.set_cons_zero, List.set_cons_succ]
      refine held_q (v := ?_) (i := 6) rfl (by kernel_rfl) (by kernel_rfl) (by kernel_rfl) (fun _ _ _ h => h) (by rfl) hHeld ?_ ?_
      rotate_left
      · (intro w' hS'; go_simp <;> (with_reducible rfl))
      simp only [Act.put, List.getElem_toArray, List.getElem_cons_zero, List.getElem_cons_succ, List.setIfInBounds_toArray, List.set_cons_zero, List.set_cons_succ]
      refine held_q (v := ?_) (i := 7) rfl (by kernel_rfl) (by kernel_rfl) (by kernel_rfl) (fun _ _ _ h => h) (by rfl) hHeld ?_ ?_
      rotate_left
      · (intro w' hS'; go_simp <;> (with_reducible rfl))
      simp only [Act.put, List.getElem_toArray, List.getElem_cons_zero, List.getElem_cons_succ, List.setIfInBounds_toArray, List.set_cons_zero, List.set_cons_succ]
      refine held_q (v := ?_) (i := 8) rfl (by kernel_rfl) (by kernel_rfl) (by kernel_rfl) (fun _ _ _ h => h) (by rfl) hHeld ?_ ?_
      rotate_left
      · (intro w' hS'; go_simp <;> (with_reducible rfl))
      simp only [Act.put, List.getElem_toArray, List.getElem_cons_zero, List.getElem_cons_succ, List.setIfInBounds_toArray, List.set_cons_zero, List.set_cons_succ]
      refine held_q (v := ?_) (i := 9) rfl (by kernel_rfl) (by kernel_rfl) (by kernel_rfl) (fun _ _ _ h => h) (by rfl) hHeld ?_ ?_
      rotate_left
      · (intro w' hS'; go_simp <;> (with_reducible rfl))
      simp only [Act.put, List.getElem_toArray, List.getElem_cons_zero, List.getElem_cons_succ, List.setIfInBounds_toArray, List.set_cons_zero, List.set_cons_succ]
      refine held_q (v := ?_) (i := 10) rfl (by kernel_rfl) (by kernel_rfl) (by kernel_rfl) (fun _ _ _ h => h) (by rfl) hHeld ?_ ?_
      rotate_left
      · (intro w' hS'; go_simp <;> (with_reducible rfl))
      simp only [Act.put, List.getElem_toArray, List.getElem_cons_zero, List.getElem_cons_succ, List.setIfInBounds_toArray, List.set_cons_zero, List.set_cons_succ]
      refine held_s (i := 11) (w1 := setBlk W5.drew m3 o3) (by kernel_rfl) rfl (by rfl) ?_ ?_ (fun hHeld => ?_)
      · refine exec_mapUpdate (p := .map (some m3)) (q := plc D n) (v := .int .i64 (now + ttl)) 57 (.tmp 97) (.tmp 98) (.tmp 104) ?_ ?_ ?_ ?_ ?_
        · rfl
        · rfl
        · rfl
        · rfl
        · exact hupd
      · exact (Kept.refl (· = m3) W5).drew.setBlk (fun _ => rfl) _
      simp only [Act.put, List.getElem_toArray, List.getElem_cons_zero, List.getElem_cons_succ, List.setIfInBounds_toArray, List.set_cons_zero, List.set_cons_succ]
      refine wpAnyH_done (by kernel_rfl) ?_ _
      have hU6 := hmap (setBlk W5.drew m3 o3) (setBlk_at _ (show m3 < W5.heap.size from hU5.lt))
      generalize setBlk W5.drew m3 o3 = W6 at hHeld hU6 ⊢
      have hL6 := hL5.kept hHeld hn23
      have hO6 := hO5.kept hHeld hn13
      have hB6 : W6.heap[B]? = some (.cells #[.int .i64 id, .int .u64 inc, .int .i64 wait, .int .i64 ttl, .int .u64 count, .map (some m1), .map (some m2), .map (some m3)] 59 (0, 0)) := by rw [hHeld.block _ bl hne3]; exact hB5
      have hr6 : W6.heap[w.heap.size]? = some (.cells (clm D n i c false) 33) := by rw [hHeld.block _ (by omega) (by omega)]; exact hr5
      have hk6 : Kept (fun k => k = m2 ∨ k = m3) w W6 := (hk5.mono (fun _ _ q => .inl q)).trans (hHeld.mono (fun _ _ q => .inr q))
      have bl6 : B < W6.heap.size := (Array.getElem?_eq_some_iff.1 hB6).1
      have zr6 : w.heap.size < W6.heap.size := (Array.getElem?_eq_some_iff.1 hr6).1
      clear hHeld hupd hmap hc7 hc3 hwr hL5 hO5 hB5 hr5 h85 hk5 z5 hg5 bl hU5
      obtain ⟨VV, has, b1, hV, hV1, hV36, hown, hlk⟩ := look_own hO6 hD hkey
      have hc5 : ∀ w', Kept (fun _ => False) W6 w' → w'.cell? ⟨B, 5, none⟩ = some (.map (some m1)) := fun w' q => by
        rw [q.cell (p := ⟨B, 5, none⟩) bl6 not_false, cell_of_row _ _ _ _ _ _ hB6]; rfl
      have hst := fun wx : World => store_new (P := Try.prog) (ty := 64) (c := Z37) (c' := VV) (by rw [hV]; kernel_rfl) (by rw [hV]; rfl) hV1 (w := wx) rfl
      go_wp2_with fail
      refine wp_region_held_drew (S := (Kept (fun _ => False) W6)) (by kernel_rfl) ((Kept.refl _ W6).drew) (fun hHeld => ?_)
      refine held_q (v := ?_) (i := 0) rfl (by kernel_rfl) (by kernel_rfl) (by kernel_rfl) (fun _ _ _ h => h) (by rfl) hHeld ?_ ?_
      rotate_left
      · (intro w' hS'; go_simp <;> (with_reducible rfl))
      simp only [Act.put, List.getElem_toArray, List.getElem_cons_zero, List.getElem_cons_succ, List.setIfInBounds_toArray, List.set_cons_zero, List.set_cons_succ]
      refine held_q (v := ?_) (i := 1) rfl (by kernel_rfl) (by kernel_rfl) (by kernel_rfl) (fun _ _ _ h => h) (by rfl) hHeld ?_ ?_
      rotate_left
      · (intro w' hS'; go_simp <;> (with_reducible rfl))
      simp only [Act.put, List.getElem_toArray, List.getElem_cons_zero, List.getElem_cons_succ, List.setIfInBounds_toArray, List.set_cons_zero, List.set_cons_succ]
      refine held_q (v := ?_) (i := 2) rfl (by kernel_rfl) (by kernel_rfl) (by kernel_rfl) (fun _ _ _ h => h) (by rfl) hHeld ?_ ?_
      rotate_left
      · (intro w' hS'; go_simp <;> (with_reducible rfl))
      simp only [Act.put, List.getElem_toArray, List.getElem_cons_zero, List.getElem_cons_succ, List.setIfInBounds_toArray, List.set_cons_zero, List.set_cons_succ]
      refine held_q (v := ?_) (i := 3) rfl (by kernel_rfl) (by kernel_rfl) (by kernel_rfl) (fun _ _ _ h => h) (by rfl) hHeld ?_ ?_
      rotate_left
      · (intro w' hS'; go_simp <;> (with_reducible rfl))
      simp only [Act.put, List.getElem_toArray, List.getElem_cons_zero, List.getElem_cons_succ, List.setIfInBounds_toArray, List.set_cons_zero, List.set_cons_succ]
      refine held_q (v := ?_) (i := 4) rfl (by kernel_rfl) (by kernel_rfl) (by kernel_rfl) (fun _ _ _ h => h) (by rfl) hHeld ?_ ?_
      rotate_left
      · (intro w' hS'; go_simp <;> (with_reducible rfl))
      simp only [Act.put, List.getElem_toArray, List.getElem_cons_zero, List.getElem_cons_succ, List.setIfInBounds_toArray, List.set_cons_zero, List.set_cons_succ]
      refine held_q (i := 5) rfl (by kernel_rfl) (by kernel_rfl) (by kernel_rfl) (fun _ _ _ h => h) (by rfl) hHeld (fun w' hS' => exec_load 31 _ rfl rfl (load_dig_mid hD ((hS'.block _ zr6 not_false).trans hr6))) ?_
      simp only [Act.put, List.getElem_toArray, List.getElem_cons_zero, List.getElem_cons_succ, List.setIfInBounds_toArray, List.set_cons_zero, List.set_cons_succ]
      refine held_q (i := 6) rfl (by kernel_rfl) (by kernel_rfl) (by kernel_rfl) (fun _ _ _ h => h) (by rfl) hHeld (fun w' hS' => exec_lookup 55 _ _ _ rfl rfl rfl (hlk _ hS')) ?_
      simp only [Act.put, List.getElem_toArray, List.getElem_cons_zero, List.getElem_cons_succ, List.setIfInBounds_toArray, List.set_cons_zero, List.set_cons_succ]
      refine held_q (v := ?_) (i := 7) rfl (by kernel_rfl) (by kernel_rfl) (by kernel_rfl) (fun _ _ _ h => h) (by rfl) hHeld ?_ ?_
      rotate_left
      · (intro w' hS'; go_simp <;> (with_reducible rfl))
      simp only [Act.put, List.getElem_toArray, List.getElem_cons_zero, List.getElem_cons_succ, List.setIfInBounds_toArray, List.set_cons_zero, List.set_cons_succ]
      refine held_q (v := ?_) (i := 8) rfl (by kernel_rfl) (by kernel_rfl) (by kernel_rfl) (fun _ _ _ h => h) (by rfl) hHeld ?_ ?_
      rotate_left
      · (intro w' hS'; go_simp <;> (with_reducible rfl))
      simp only [Act.put, List.getElem_toArray, List.getElem_cons_zero, List.getElem_cons_succ, List.setIfInBounds_toArray, List.set_cons_zero, List.set_cons_succ]
      refine held_q (v := ?_) (i := 9) rfl (by kernel_rfl) (by kernel_rfl) (by kernel_rfl) (fun _ _ _ h => h) (by rfl) hHeld ?_ ?_
      rotate_left
      · (intro w' hS'; go_simp <;> (with_reducible rfl))
      simp only [Act.put, List.getElem_toArray, List.getElem_cons_zero, List.getElem_cons_succ, List.setIfInBounds_toArray, List.set_cons_zero, List.set_cons_succ]
      refine held_v (i := 10) (v := .pointer (some ⟨(W6.drew).heap.size, 0, none⟩)) (w1 := (W6.drew).alloc (.cells Z37 64)) (by kernel_rfl) rfl (by rfl) ?_ ?_ (fun hHeld => ?_)
      · refine exec_alloc 64 ?_ ?_
        · rfl
        · exact zeroOwn _
      · exact hHeld.alloc _
      simp only [Act.put, List.getElem_toArray, List.getElem_cons_zero, List.getElem_cons_succ, List.setIfInBounds_toArray, List.set_cons_zero, List.set_cons_succ]
      refine held_s (i := 11) (w1 := W6.drew.alloc (.cells VV 64)) (by kernel_rfl) rfl (by rfl) ?_ ?_ (fun hHeld => ?_)
      · refine exec_store (p := .pointer (some ⟨W6.drew.heap.size, 0, none⟩)) (q := .agg VV) 64 (.tmp 12) (.tmp 113) ?_ ?_ ?_ ?_
        · rfl
        · rfl
        · rfl
        · exact hst W6.drew
      · exact (Kept.refl _ W6).drew.alloc _
      simp only [Act.put, List.getElem_toArray, List.getElem_cons_zero, List.getElem_cons_succ, List.setIfInBounds_toArray, List.set_cons_zero, List.set_cons_succ]
      refine held_q (v := ?_) (i := 12) rfl (by kernel_rfl) (by kernel_rfl) (by kernel_rfl) (fun _ _ _ h => h) (by rfl) hHeld ?_ ?_
      rotate_left
      · (intro w' hS'; go_simp <;> (with_reducible rfl))
      simp only [Act.put, List.getElem_toArray, List.getElem_cons_zero, List.getElem_cons_succ, List.setIfInBounds_toArray, List.set_cons_zero, List.set_cons_succ]
      refine wpAnyH_done (by kernel_rfl) ?_ _
      have hp12 : (W6.drew.alloc (.cells VV 64)).heap[W6.heap.size]? = some (.cells VV 64 (0, 0)) := heap_last W6.drew _
      generalize W6.drew.alloc (.cells VV 64) = W7 at hHeld hp12 ⊢
      have q36 : W7.cell? ⟨W6.heap.size, 36, none⟩ = some (.int .i64 b1) := by rw [cell_of_row _ _ _ _ _ _ hp12]; exact hV36
      have hr7 : W7.heap[w.heap.size]? = some (.cells (clm D n i c false) 33) := by rw [hHeld.block _ zr6 not_false]; exact hr6
      have q32 : W7.cell? ⟨w.heap.size, 32, none⟩ = some (.int .i64 n) := by rw [cell_of_row _ _ _ _ _ _ hr7]; exact clm_at hD n i c false 0
      have hB7 : W7.heap[B]? = some (.cells #[.int .i64 id, .int .u64 inc, .int .i64 wait, .int .i64 ttl, .int .u64 count, .map (some m1), .map (some m2), .map (some m3)] 59 (0, 0)) := by rw [hHeld.block _ bl6 not_false]; exact hB6
      have r0 : W7.cell? ⟨B, 0, none⟩ = some (.int .i64 id) := by rw [cell_of_row _ _ _ _ _ _ hB7]; rfl
      have r2 : W7.cell? ⟨B, 2, none⟩ = some (.int .i64 wait) := by rw [cell_of_row _ _ _ _ _ _ hB7]; rfl
      have hk7 : Kept (fun k => k = m2 ∨ k = m3) w W7 := hk6.trans (hHeld.mono (fun _ _ q => q.elim))
      have hL7 := hL6.kept hHeld not_false
      have hU7 := hU6.kept hHeld not_false
      have hO7 := hO6.kept hHeld not_false
      have z37 : W6.heap.size ≤ W7.heap.size := hHeld.size
      clear hHeld hst hc5 hlk hL6 hO6 hU6 hB6 hr6 hk6 hp12 hV hV1 hV36
      have HO := Lib.hid hown
      clear hown
      have hst := hs.out
      have HS := hs
      clear hs
      cases has with
      | false =>
        go_wp2_with fail
        go_quiet (fail)
        go_wp2_with fail
        go_ret2
        exact ⟨rfl, hk7.drewN _, hL7, hU7⟩
      | true =>
        obtain ⟨k0, ho⟩ := HO.out.1 rfl
        obtain ⟨bb1, bb2⟩ := hb _ _ ho
        have hst' : ¬ (n < id ∧ now < b1 + wait) := by simpa [ho] using hst
        have HO2 := Lib.hid ho
        clear hst ho
        by_cases t1 : n < id
        · have t2 : ¬ now < b1 + wait := fun h => hst' ⟨t1, h⟩
          clear hst'
          go_wp2_with fail
          go_quiet (fail)
          go_wp2_with fail
          go_ret2
          exact ⟨rfl, hk7.drewN _, hL7, hU7⟩
        · clear hst'
          have t1' : decide (n < id) = false := by simpa using t1
          go_wp2_with fail
          go_quiet (fail)
          go_wp2_with fail
          go_ret2
          exact ⟨rfl, hk7.drewN _, hL7, hU7⟩
end Go.Proofs.Ytbaehaleigpijaa
