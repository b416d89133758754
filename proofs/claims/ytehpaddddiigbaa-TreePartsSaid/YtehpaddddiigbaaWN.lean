/- TreeParts' walk. -/
import Derived.Test.YtehpaddddiigbaaWM
namespace Go.Proofs.Ytehpaddddiigbaa
open Go.RowKit
set_option linter.unusedSimpArgs false
set_option linter.unusedVariables false

theorem pick_len {c : Nat} {l : List FileE} (h : c = 0 → mayB l = true) : (pickL c l).length ≤ 16 := by
  unfold pickL
  by_cases e : c = 0
  · rw [if_pos e]; exact (mayIs (h e)).len
  · rw [if_neg e]; simp
theorem withC_may {l : List FileE} {s : ByteArray} {b : List UInt8} (h : withC l s b = 0) : mayB (withL l s b) = true := by
  unfold withC at h
  split at h
  · cases h
  · split at h
    · cases h
    · rename_i q; simpa using q
theorem belowR_len (l : List FileE) (d : ByteArray) : (belowR l d).length ≤ 16 := by
  unfold belowR
  split
  · rename_i h
    rw [Bool.and_eq_true] at h
    exact Nat.le_trans (belowL_len d l) (mayIs h.1).len
  · simp
theorem bslice_t4 (v1 v2 v3 v4 : Option Addr) (n1 n2 n3 n4 c1 c2 c3 c4 : Nat) (w : World) : (Instr.buildSlice 50 4 #[(0, .slice v1 n1 c1), (1, .slice v2 n2 c2), (2, .slice v3 n3 c3), (3, .slice v4 n4 c4)]).run Try.prog w = .ok (.slice (some ⟨w.heap.size, 0, none⟩) 4 4) (w.alloc (.cells #[.slice v1 n1 c1, .slice v2 n2 c2, .slice v3 n3 c3, .slice v4 n4 c4] 27)) := by kernel_rfl

set_option maxRecDepth 100000 in
set_option maxHeartbeats 16000000 in
theorem parts_law {w : World} {va vb x : Value} {la lb : List FileE} (ha : TreeAt w va la) (hb : TreeAt w vb lb) (s : ByteArray) (hs : s.size ≤ maxLen) {bx : List UInt8} (hx : ByAt w x bx)
    (la40 : la.length * 40 ≤ 140737488351232) (lab : ∀ f ∈ la, f.bytes.length ≤ 140737488351232) (lb40 : lb.length * 40 ≤ 140737488351232) (lbb : ∀ f ∈ lb, f.bytes.length ≤ 140737488351232) :
    Calls Try.prog 9 #[va, vb, .string s, x] w fun e w' => e = .returned (.bool true) ∧ Kept (fun _ => False) w w' := by
  have hxl : bx.length ≤ maxLen := by obtain ⟨_, _, _, h2, _⟩ := hx; exact h2
  have hs2 := hs
  simp only [maxLen] at hxl hs2
  have la47 : la.length ≤ 140737488351232 := by omega
  have lb47 : lb.length ≤ 140737488351232 := by omega
  obtain ⟨a, c, hv⟩ := ha.slc
  subst hv
  obtain ⟨a2, c2, hv2⟩ := hb.slc
  subst hv2
  obtain ⟨ax, cx, hvx⟩ := hx.slc
  subst hvx
  by_cases q1 : 1000 < s.size
  · have d1 : decide ((1000 : Int) < (s.size : Int)) = true := decide_eq_true (by omega)
    go_enter Try.func9, Try.ntmps9
    go_wp2_with fail
    refine (great_ct ha).mono ?_
    rintro e W ⟨⟨g, rfl⟩, k1⟩
    cases g with
    | true =>
      go_wp2_with fail
      refine (known_ct _).mono ?_
      rintro e W9 ⟨rfl, k9⟩
      go_wp2_with fail
      go_ret
      exact ⟨rfl, (k1).trans k9⟩
    | false =>
      go_wp2_with fail
      refine (great_ct (hb.kept k1)).mono ?_
      rintro e W2 ⟨⟨g, rfl⟩, k2⟩
      cases g with
      | true =>
        go_wp2_with fail
        refine (known_ct _).mono ?_
        rintro e W9 ⟨rfl, k9⟩
        go_wp2_with fail
        go_ret
        exact ⟨rfl, (k1.trans k2).trans k9⟩
      | false =>
        go_wp2_with fail
        refine (known_ct _).mono ?_
        rintro e W9 ⟨rfl, k9⟩
        go_wp2_with fail
        go_ret
        exact ⟨rfl, (k1.trans k2).trans k9⟩
  have d1 : decide ((1000 : Int) < (s.size : Int)) = false := decide_eq_false (by omega)
  by_cases q2 : 3000 < bx.length
  · have d2 : decide ((3000 : Int) < (bx.length : Int)) = true := decide_eq_true (by omega)
    go_enter Try.func9, Try.ntmps9
    go_wp2_with fail
    refine (great_ct ha).mono ?_
    rintro e W ⟨⟨g, rfl⟩, k1⟩
    cases g with
    | true =>
      go_wp2_with fail
      refine (known_ct _).mono ?_
      rintro e W9 ⟨rfl, k9⟩
      go_wp2_with fail
      go_ret
      exact ⟨rfl, (k1).trans k9⟩
    | false =>
      go_wp2_with fail
      refine (great_ct (hb.kept k1)).mono ?_
      rintro e W2 ⟨⟨g, rfl⟩, k2⟩
      cases g with
      | true =>
        go_wp2_with fail
        refine (known_ct _).mono ?_
        rintro e W9 ⟨rfl, k9⟩
        go_wp2_with fail
        go_ret
        exact ⟨rfl, (k1.trans k2).trans k9⟩
      | false =>
        go_wp2_with fail
        refine (known_ct _).mono ?_
        rintro e W9 ⟨rfl, k9⟩
        go_wp2_with fail
        go_ret
        exact ⟨rfl, (k1.trans k2).trans k9⟩
  have d2 : decide ((3000 : Int) < (bx.length : Int)) = false := decide_eq_false (by omega)
  go_enter Try.func9, Try.ntmps9
  go_wp2_with fail
  refine (great_ct ha).mono ?_
  rintro e W ⟨⟨g, rfl⟩, k1⟩
  cases g with
  | true =>
    go_wp2_with fail
    refine (known_ct _).mono ?_
    rintro e W9 ⟨rfl, k9⟩
    go_wp2_with fail
    go_ret
    exact ⟨rfl, (k1).trans k9⟩
  | false =>
    go_wp2_with fail
    refine (great_ct (hb.kept k1)).mono ?_
    rintro e W2 ⟨⟨g, rfl⟩, k2⟩
    have K2 := k1.trans k2
    clear k1 k2
    cases g with
    | true =>
      go_wp2_with fail
      refine (known_ct _).mono ?_
      rintro e W9 ⟨rfl, k9⟩
      go_wp2_with fail
      go_ret
      exact ⟨rfl, (K2).trans k9⟩
    | false =>
      go_wp2_with fail
      refine (rCopy_ct (ha.kept K2) la40 lab).mono ?_
      rintro e W3 ⟨vi, rfl, hin, k3⟩
      obtain ⟨ai, ci, hvi⟩ := hin.slc
      subst hvi
      go_wp2_with fail
      refine (rCopy_ct (hb.kept (K2.trans k3)) lb40 lbb).mono ?_
      rintro e WC ⟨vl, rfl, hal, k4⟩
      obtain ⟨al, cl, hvl⟩ := hal.slc
      subst hvl
      have KC := (K2.trans k3).trans k4
      have hin := hin.kept k4
      clear K2 k3 k4
      go_wp2_with fail
      refine (get_ctS hin s).mono ?_
      rintro e WG ⟨hg, kg⟩
      obtain ⟨ag, ng, cg, gl, rfl, rfl, hgb, hgo, hgt, hgf⟩ := get_form2 hg
      clear hg
      generalize hok : (mayB la && thereB la s) = ok at hgt hgf ⊢
      go_wp2_with fail
      refine (rFind_ct (ha.kept (KC.trans kg)) s).mono ?_
      rintro e WF ⟨z, rfl, hz, kf⟩
      have kgf := kg.trans kf
      have hgb := hgb.kept kf
      have hgo := hgo.kept kf
      have rm := fun w' (q : Kept (fun _ => False) WF w') => rMay_ct (ha.kept ((KC.trans kgf).trans q))
      have hgl : gl.length ≤ maxLen := by obtain ⟨_, _, _, h2, _⟩ := hgb; exact h2
      simp only [maxLen] at hgl
      cases ok with
      | true =>
        have hok2 := hok
        rw [Bool.and_eq_true] at hok2
        obtain ⟨f, hfm, hfs, hfb, _⟩ := hgt rfl
        rcases find_may hz hok2.1 with ⟨_, i, f2, hzi, hf2, hf2s⟩ | ⟨hq, _⟩
        · subst hzi
          have hff := same_file hok2.1 (List.mem_of_getElem? hf2) hfm (hf2s.trans hfs.symm)
          rw [hff] at hf2
          have hil := (List.getElem?_eq_some_iff.1 hf2).1
          obtain ⟨_, b0, o0, y0, rfl, hb0, hr0, hB0⟩ := ha.file hf2
          obtain ⟨af, cf, rfl⟩ := hB0.slc
          have q5 : ∀ w', Kept (fun _ => False) WF w' → w'.cell? ⟨b0, o0 + i * 2 + 1, none⟩ = some (.slice af f.bytes.length cf) := fun w' q => (((KC.trans kgf).trans q).cell (p := ⟨b0, o0 + i * 2 + 1, none⟩) hb0 not_false).trans (hr0 1 _ rfl)
          have cv1 := fun w' (q : Kept (fun _ => False) WF w') => conv_str (hgb.kept q)
          have cv2 := fun w' (q : Kept (fun _ => False) WF w') => conv_str (hB0.kept ((KC.trans kgf).trans q))
          rw [hfb] at cv2
          have ngl : (gl != gl) = false := by simp
          have di : decide ((0 : Int) ≤ (i : Int)) = true := decide_eq_true (by omega)
          have il : (i : Int) < (la.length : Int) := by omega
          rw [hok2.1] at rm
          clear hr0 hB0 hf2 hff hz hgt hgf hok hok2 hfm hfs hf2s
          go_wp2_with fail
          refine wp_region_held_drew (S := (Kept (fun _ => False) WF)) (by kernel_rfl) ((Kept.refl _ WF).drew) (fun hHeld => ?_)
          refine held_q (v := ?_) (i := 0) rfl (by kernel_rfl) (by kernel_rfl) (by kernel_rfl) (fun _ _ _ h => h) (by rfl) hHeld ?_ ?_
          rotate_left
          · (intro w' hS'; go_simp <;> (with_reducible rfl))
          simp only [Act.put, List.getElem_toArray, List.getElem_cons_zero, List.getElem_cons_succ, List.setIfInBounds_toArray, List.set_cons_zero, List.set_cons_succ]
          refine held_q (v := ?_) (i := 1) rfl (by kernel_rfl) (by kernel_rfl) (by kernel_rfl) (fun _ _ _ h => h) (by rfl) hHeld ?_ ?_
          rotate_left
          · (intro w' hS'; go_simp <;> (with_reducible rfl))
          simp only [Act.put, List.getElem_toArray, List.getElem_cons_zero, List.getElem_cons_succ, List.setIfInBounds_toArray, List.set_cons_zero, List.set_cons_succ]
          refine held_c (i := 2) (f := 27) (args := #[.slice (some ⟨b0, o0, none⟩) la.length c]) (by kernel_rfl) rfl (by rfl) ?_ (rm _ hHeld) ?_
          · (go_simp <;> rfl)
          rintro e WM ⟨rfl, kq⟩
          have hHeld := hHeld.trans kq
          refine ⟨_, rfl, hHeld, ?_⟩
          simp only [Act.put, List.getElem_toArray, List.getElem_cons_zero, List.getElem_cons_succ, List.setIfInBounds_toArray, List.set_cons_zero, List.set_cons_succ]
          refine held_q (v := ?_) (i := 3) rfl (by kernel_rfl) (by kernel_rfl) (by kernel_rfl) (fun _ _ _ h => h) (by rfl) hHeld ?_ ?_
          rotate_left
          · (intro w' hS'; go_simp <;> (with_reducible rfl))
          simp only [Act.put, List.getElem_toArray, List.getElem_cons_zero, List.getElem_cons_succ, List.setIfInBounds_toArray, List.set_cons_zero, List.set_cons_succ]
          refine held_q (v := ?_) (i := 4) rfl (by kernel_rfl) (by kernel_rfl) (by kernel_rfl) (fun _ _ _ h => h) (by rfl) hHeld ?_ ?_
          rotate_left
          · (intro w' hS'; go_simp <;> (with_reducible rfl))
          simp only [Act.put, List.getElem_toArray, List.getElem_cons_zero, List.getElem_cons_succ, List.setIfInBounds_toArray, List.set_cons_zero, List.set_cons_succ]
          refine held_q (v := ?_) (i := 5) rfl (by kernel_rfl) (by kernel_rfl) (by kernel_rfl) (fun _ _ _ h => h) (by rfl) hHeld ?_ ?_
          rotate_left
          · (intro w' hS'; go_simp <;> (with_reducible rfl))
          simp only [Act.put, List.getElem_toArray, List.getElem_cons_zero, List.getElem_cons_succ, List.setIfInBounds_toArray, List.set_cons_zero, List.set_cons_succ]
          refine held_q (v := ?_) (i := 6) rfl (by kernel_rfl) (by kernel_rfl) (by kernel_rfl) (fun _ _ _ h => h) (by rfl) hHeld ?_ ?_
          rotate_left
          · (intro w' hS'; go_simp <;> (with_reducible rfl))
          simp only [Act.put, List.getElem_toArray, List.getElem_cons_zero, List.getElem_cons_succ, List.setIfInBounds_toArray, List.set_cons_zero, List.set_cons_succ]
          refine held_q (v := ?_) (i := 7) rfl (by kernel_rfl) (by kernel_rfl) (by kernel_rfl) (fun _ _ _ h => h) (by rfl) hHeld ?_ ?_
          rotate_left
          · (intro w' hS'; go_simp <;> (with_reducible rfl))
          simp only [Act.put, List.getElem_toArray, List.getElem_cons_zero, List.getElem_cons_succ, List.setIfInBounds_toArray, List.set_cons_zero, List.set_cons_succ]
          refine held_q (v := ?_) (i := 8) rfl (by kernel_rfl) (by kernel_rfl) (by kernel_rfl) (fun _ _ _ h => h) (by rfl) hHeld ?_ ?_
          rotate_left
          · (intro w' hS'; go_simp <;> (with_reducible rfl))
          simp only [Act.put, List.getElem_toArray, List.getElem_cons_zero, List.getElem_cons_succ, List.setIfInBounds_toArray, List.set_cons_zero, List.set_cons_succ]
          refine held_q (v := ?_) (i := 9) rfl (by kernel_rfl) (by kernel_rfl) (by kernel_rfl) (fun _ _ _ h => h) (by rfl) hHeld ?_ ?_
          rotate_left
          · (intro w' hS'; go_simp <;> (with_reducible rfl))
          simp only [Act.put, List.getElem_toArray, List.getElem_cons_zero, List.getElem_cons_succ, List.setIfInBounds_toArray, List.set_cons_zero, List.set_cons_succ]
          refine held_q (v := ?_) (i := 10) rfl (by kernel_rfl) (by kernel_rfl) (by kernel_rfl) (fun _ _ _ h => h) (by rfl) hHeld ?_ ?_
          rotate_left
          · (intro w' hS'; go_simp <;> (with_reducible rfl))
          simp only [Act.put, List.getElem_toArray, List.getElem_cons_zero, List.getElem_cons_succ, List.setIfInBounds_toArray, List.set_cons_zero, List.set_cons_succ]
          refine held_q (v := ?_) (i := 11) rfl (by kernel_rfl) (by kernel_rfl) (by kernel_rfl) (fun _ _ _ h => h) (by rfl) hHeld ?_ ?_
          rotate_left
          · (intro w' hS'; go_simp <;> (with_reducible rfl))
          simp only [Act.put, List.getElem_toArray, List.getElem_cons_zero, List.getElem_cons_succ, List.setIfInBounds_toArray, List.set_cons_zero, List.set_cons_succ]
          refine held_q (i := 12) rfl (by kernel_rfl) (by kernel_rfl) (by kernel_rfl) (fun _ _ _ h => h) (by rfl) hHeld (fun w' hS' => exec_conv 25 9 _ rfl rfl (cv1 w' hS')) ?_
          simp only [Act.put, List.getElem_toArray, List.getElem_cons_zero, List.getElem_cons_succ, List.setIfInBounds_toArray, List.set_cons_zero, List.set_cons_succ]
          refine held_q (v := ?_) (i := 13) rfl (by kernel_rfl) (by kernel_rfl) (by kernel_rfl) (fun _ _ _ h => h) (by rfl) hHeld ?_ ?_
          rotate_left
          · (intro w' hS'; go_simp <;> (with_reducible rfl))
          simp only [Act.put, List.getElem_toArray, List.getElem_cons_zero, List.getElem_cons_succ, List.setIfInBounds_toArray, List.set_cons_zero, List.set_cons_succ]
          refine held_q (v := ?_) (i := 14) rfl (by kernel_rfl) (by kernel_rfl) (by kernel_rfl) (fun _ _ _ h => h) (by rfl) hHeld ?_ ?_
          rotate_left
          · (intro w' hS'; go_simp <;> (with_reducible rfl))
          simp only [Act.put, List.getElem_toArray, List.getElem_cons_zero, List.getElem_cons_succ, List.setIfInBounds_toArray, List.set_cons_zero, List.set_cons_succ]
          refine held_q (v := ?_) (i := 15) rfl (by kernel_rfl) (by kernel_rfl) (by kernel_rfl) (fun _ _ _ h => h) (by rfl) hHeld ?_ ?_
          rotate_left
          · (intro w' hS'; go_simp <;> (with_reducible rfl))
          simp only [Act.put, List.getElem_toArray, List.getElem_cons_zero, List.getElem_cons_succ, List.setIfInBounds_toArray, List.set_cons_zero, List.set_cons_succ]
          refine held_q (v := ?_) (i := 16) rfl (by kernel_rfl) (by kernel_rfl) (by kernel_rfl) (fun _ _ _ h => h) (by rfl) hHeld ?_ ?_
          rotate_left
          · (intro w' hS'; go_simp <;> (with_reducible rfl))
          simp only [Act.put, List.getElem_toArray, List.getElem_cons_zero, List.getElem_cons_succ, List.setIfInBounds_toArray, List.set_cons_zero, List.set_cons_succ]
          refine held_q (v := ?_) (i := 17) rfl (by kernel_rfl) (by kernel_rfl) (by kernel_rfl) (fun _ _ _ h => h) (by rfl) hHeld ?_ ?_
          rotate_left
          · (intro w' hS'; go_simp <;> (with_reducible rfl))
          simp only [Act.put, List.getElem_toArray, List.getElem_cons_zero, List.getElem_cons_succ, List.setIfInBounds_toArray, List.set_cons_zero, List.set_cons_succ]
          refine held_q (i := 18) rfl (by kernel_rfl) (by kernel_rfl) (by kernel_rfl) (fun _ _ _ h => h) (by rfl) hHeld (fun w' hS' => exec_conv 25 9 _ rfl rfl (cv2 w' hS')) ?_
          simp only [Act.put, List.getElem_toArray, List.getElem_cons_zero, List.getElem_cons_succ, List.setIfInBounds_toArray, List.set_cons_zero, List.set_cons_succ]
          refine held_q (v := ?_) (i := 19) rfl (by kernel_rfl) (by kernel_rfl) (by kernel_rfl) (fun _ _ _ h => h) (by rfl) hHeld ?_ ?_
          rotate_left
          · (intro w' hS'; go_simp <;> (with_reducible rfl))
          simp only [Act.put, List.getElem_toArray, List.getElem_cons_zero, List.getElem_cons_succ, List.setIfInBounds_toArray, List.set_cons_zero, List.set_cons_succ]
          refine held_q (v := ?_) (i := 20) rfl (by kernel_rfl) (by kernel_rfl) (by kernel_rfl) (fun _ _ _ h => h) (by rfl) hHeld ?_ ?_
          rotate_left
          · (intro w' hS'; go_simp <;> (with_reducible rfl))
          simp only [Act.put, List.getElem_toArray, List.getElem_cons_zero, List.getElem_cons_succ, List.setIfInBounds_toArray, List.set_cons_zero, List.set_cons_succ]
          refine held_q (v := ?_) (i := 21) rfl (by kernel_rfl) (by kernel_rfl) (by kernel_rfl) (fun _ _ _ h => h) (by rfl) hHeld ?_ ?_
          rotate_left
          · (intro w' hS'; go_simp <;> (with_reducible rfl))
          simp only [Act.put, List.getElem_toArray, List.getElem_cons_zero, List.getElem_cons_succ, List.setIfInBounds_toArray, List.set_cons_zero, List.set_cons_succ]
          refine held_q (v := ?_) (i := 22) rfl (by kernel_rfl) (by kernel_rfl) (by kernel_rfl) (fun _ _ _ h => h) (by rfl) hHeld ?_ ?_
          rotate_left
          · (intro w' hS'; go_simp <;> (with_reducible rfl))
          simp only [Act.put, List.getElem_toArray, List.getElem_cons_zero, List.getElem_cons_succ, List.setIfInBounds_toArray, List.set_cons_zero, List.set_cons_succ]
          refine held_q (v := ?_) (i := 23) rfl (by kernel_rfl) (by kernel_rfl) (by kernel_rfl) (fun _ _ _ h => h) (by rfl) hHeld ?_ ?_
          rotate_left
          · (intro w' hS'; go_simp <;> (with_reducible rfl))
          simp only [Act.put, List.getElem_toArray, List.getElem_cons_zero, List.getElem_cons_succ, List.setIfInBounds_toArray, List.set_cons_zero, List.set_cons_succ]
          refine held_q (v := ?_) (i := 24) rfl (by kernel_rfl) (by kernel_rfl) (by kernel_rfl) (fun _ _ _ h => h) (by rfl) hHeld ?_ ?_
          rotate_left
          · (intro w' hS'; go_simp <;> (with_reducible rfl))
          simp only [Act.put, List.getElem_toArray, List.getElem_cons_zero, List.getElem_cons_succ, List.setIfInBounds_toArray, List.set_cons_zero, List.set_cons_succ]
          refine held_q (v := ?_) (i := 25) rfl (by kernel_rfl) (by kernel_rfl) (by kernel_rfl) (fun _ _ _ h => h) (by rfl) hHeld ?_ ?_
          rotate_left
          · (intro w' hS'; go_simp <;> (with_reducible rfl))
          simp only [Act.put, List.getElem_toArray, List.getElem_cons_zero, List.getElem_cons_succ, List.setIfInBounds_toArray, List.set_cons_zero, List.set_cons_succ]
          refine held_no (i := 26) rfl (by kernel_rfl) (by kernel_rfl) (by kernel_rfl) (fun _ _ _ h => h) (by rfl) hHeld ?_
          simp only [Act.put, List.getElem_toArray, List.getElem_cons_zero, List.getElem_cons_succ, List.setIfInBounds_toArray, List.set_cons_zero, List.set_cons_succ]
          refine held_no (i := 27) rfl (by kernel_rfl) (by kernel_rfl) (by kernel_rfl) (fun _ _ _ h => h) (by rfl) hHeld ?_
          simp only [Act.put, List.getElem_toArray, List.getElem_cons_zero, List.getElem_cons_succ, List.setIfInBounds_toArray, List.set_cons_zero, List.set_cons_succ]
          refine held_no (i := 28) rfl (by kernel_rfl) (by kernel_rfl) (by kernel_rfl) (fun _ _ _ h => h) (by rfl) hHeld ?_
          simp only [Act.put, List.getElem_toArray, List.getElem_cons_zero, List.getElem_cons_succ, List.setIfInBounds_toArray, List.set_cons_zero, List.set_cons_succ]
          refine held_q (v := ?_) (i := 29) rfl (by kernel_rfl) (by kernel_rfl) (by kernel_rfl) (fun _ _ _ h => h) (by rfl) hHeld ?_ ?_
          rotate_left
          · (intro w' hS'; go_simp <;> (with_reducible rfl))
          simp only [Act.put, List.getElem_toArray, List.getElem_cons_zero, List.getElem_cons_succ, List.setIfInBounds_toArray, List.set_cons_zero, List.set_cons_succ]
          refine held_q (v := ?_) (i := 30) rfl (by kernel_rfl) (by kernel_rfl) (by kernel_rfl) (fun _ _ _ h => h) (by rfl) hHeld ?_ ?_
          rotate_left
          · (intro w' hS'; go_simp <;> (with_reducible rfl))
          simp only [Act.put, List.getElem_toArray, List.getElem_cons_zero, List.getElem_cons_succ, List.setIfInBounds_toArray, List.set_cons_zero, List.set_cons_succ]
          refine wpAnyH_done (by kernel_rfl) ?_ _
          have K := kgf.trans hHeld
          have OG := Lib.hid (hgo.kept hHeld)
          clear q5 cv1 cv2 rm hgb hgo hHeld kgf kg kf
          -- the eight calls
          go_wp2_with fail
          refine (with_form (hin.kept K) s hs (hx.kept (KC.trans K))).mono ?_
          rintro e W1 ⟨⟨b1, n1, c1, rfl, rfl, hb1, ob1⟩, k1⟩
          have K1 := K.trans k1
          go_wp2_with fail
          refine (rWith_ct (ha.kept (KC.trans K1)) s hs (hx.kept (KC.trans K1))).mono ?_
          rintro e W2 ⟨hh, k2⟩
          obtain ⟨b2, n2, c2, rfl, rfl, hb2⟩ := form_of hh
          clear hh
          have K2 := K1.trans k2
          go_wp2_with fail
          refine (below_anyS (hin.kept K2) s hs).mono ?_
          rintro e W3 ⟨v3, rfl, hb3, ob3, k3⟩
          obtain ⟨b3, c3, hv3⟩ := hb3.slc
          subst hv3
          have K3 := K2.trans k3
          go_wp2_with fail
          refine (rBelow_ct (ha.kept (KC.trans K3)) s hs).mono ?_
          rintro e W4 ⟨v4, rfl, hb4, k4⟩
          obtain ⟨b4, c4, hv4⟩ := hb4.slc
          subst hv4
          have K4 := K3.trans k4
          go_wp2_with fail
          refine (under_form (hin.kept K4) s hs).mono ?_
          rintro e W5 ⟨⟨b5, n5, c5, rfl, rfl, hb5, ob5⟩, k5⟩
          have K5 := K4.trans k5
          go_wp2_with fail
          refine (rUnder_ct (ha.kept (KC.trans K5)) s hs).mono ?_
          rintro e W6 ⟨hh, k6⟩
          obtain ⟨b6, n6, c6, rfl, rfl, hb6⟩ := form_of hh
          clear hh
          have K6 := K5.trans k6
          go_wp2_with fail
          refine (join_form (hin.kept K6) (hal.kept K6)).mono ?_
          rintro e W7 ⟨⟨b7, n7, c7, rfl, rfl, hb7, ob7⟩, k7⟩
          have K7 := K6.trans k7
          go_wp2_with fail
          refine (rJoin_ct (ha.kept (KC.trans K7)) (hb.kept (KC.trans K7))).mono ?_
          rintro e W8 ⟨hh, k8⟩
          obtain ⟨b8, n8, c8, rfl, rfl, hb8⟩ := form_of hh
          clear hh
          have K8 := K7.trans k8
          -- in one world
          have b1' := hb1.kept ((((((k2.trans k3).trans k4).trans k5).trans k6).trans k7).trans k8)
          have b2' := hb2.kept (((((k3.trans k4).trans k5).trans k6).trans k7).trans k8)
          have b3' := hb3.kept ((((k4.trans k5).trans k6).trans k7).trans k8)
          have b4' := hb4.kept (((k5.trans k6).trans k7).trans k8)
          have b5' := hb5.kept ((k6.trans k7).trans k8)
          have b6' := hb6.kept (k7.trans k8)
          have b7' := hb7.kept k8
          have o1 := (ob1.low (K.size)).kept ((((((k2.trans k3).trans k4).trans k5).trans k6).trans k7).trans k8)
          have o3 := (ob3.low (K2.size)).kept ((((k4.trans k5).trans k6).trans k7).trans k8)
          have o5 := (ob5.low (K4.size)).kept ((k6.trans k7).trans k8)
          have o7 := (ob7.low (K6.size)).kept k8
          have hin8 := hin.kept K8
          have hal8 := hal.kept K8
          have ha8 := ha.kept (KC.trans K8)
          have hb8a := hb.kept (KC.trans K8)
          have og8 := OG.out.kept (((((((k1.trans k2).trans k3).trans k4).trans k5).trans k6).trans k7).trans k8)
          have hL1 : (pickL (withC la s bx) (withL la s bx)).length ≤ 16 := pick_len withC_may
          have hL3 : (belowR la s).length ≤ 16 := belowR_len la s
          have hL5 : (pickL (underC la s) (la.map (upF s))).length ≤ 16 := pick_len (fun h => (underC_zero.1 h).2.2)
          have hL7 : (pickL (joinC la lb) (joinO la lb)).length ≤ 16 := pick_len (fun h => (joinC_zero h).may)
          clear hb1 hb2 hb3 hb4 hb5 hb6 hb7 ob1 ob3 ob5 ob7 k1 k2 k3 k4 k5 k6 k7 k8 K1 K2 K3 K4 K5 K6 K7 K
          generalize pickL (withC la s bx) (withL la s bx) = L1 at *
          generalize withC la s bx = cw at *
          generalize belowR la s = L3 at *
          generalize pickL (underC la s) (la.map (upF s)) = L5 at *
          generalize underC la s = cu at *
          generalize pickL (joinC la lb) (joinO la lb) = L7 at *
          generalize joinC la lb = cj at *
          have ew : ((cw : Int) != (cw : Int)) = false := by simp
          have eu : ((cu : Int) != (cu : Int)) = false := by simp
          have ej : ((cj : Int) != (cj : Int)) = false := by simp
          go_wp2_with fail
          refine (rSame_ct b1' b2').mono ?_
          rintro e X1 ⟨rfl, j1⟩
          rw [sameB_rfl]
          go_wp2_with fail
          refine (rSame_ct (b3'.kept j1) (b4'.kept j1)).mono ?_
          rintro e X2 ⟨rfl, j2⟩
          rw [sameB_rfl]
          have J2 := j1.trans j2
          go_wp2_with fail
          refine (rSame_ct (b5'.kept J2) (b6'.kept J2)).mono ?_
          rintro e X3 ⟨rfl, j3⟩
          rw [sameB_rfl]
          have J3 := J2.trans j3
          go_wp2_with fail
          refine (rSame_ct (b7'.kept J3) (hb8.kept J3)).mono ?_
          rintro e X4 ⟨rfl, j4⟩
          rw [sameB_rfl]
          have J4 := J3.trans j4
          go_wp2_with fail
          refine (same_ctL (hin8.kept J4) (hal8.kept J4) la47 lb47).mono ?_
          rintro e X5 ⟨rfl, j5⟩
          have J5 := J4.trans j5
          generalize hsb : sameB la lb = sb
          have hsb2 : (sb != sb) = false := by simp
          go_wp2_with fail
          refine (rSame_ct (ha8.kept J5) (hb8a.kept J5)).mono ?_
          rintro e X6 ⟨rfl, j6⟩
          rw [hsb]
          have J6 := J5.trans j6
          go_wp2_with fail
          refine (same_ctL (hin8.kept J6) (ha8.kept J6) la47 la47).mono ?_
          rintro e X7 ⟨rfl, j7⟩
          rw [sameB_rfl]
          have J7 := J6.trans j7
          have O1 := Lib.hid (o1.kept J7)
          have O3 := Lib.hid (o3.kept J7)
          have O5 := Lib.hid (o5.kept J7)
          have O7 := Lib.hid (o7.kept J7)
          have OG7 := Lib.hid (og8.kept J7)
          have KX := K8.trans J7
          clear b1' b2' b3' b4' b5' b6' b7' hb8 o1 o3 o5 o7 og8 hin8 hal8 ha8 hb8a j1 j2 j3 j4 j5 j6 j7 J2 J3 J4 J5 J6 J7 K8
          go_wp2_with fail
          go_loopw [190] (fun i wr => ∃ j : Nat, j ≤ gl.length ∧ i = .int .i64 j ∧ Kept (fun k => WC.heap.size ≤ k) X7 wr ∧ Hid (Spared X7 wr)) (fun i _ => gl.length - (intOf i).toNat)
          case atStart => exact ⟨0, by omega, rfl, Kept.refl _ _, Spared.refl _⟩
          case round =>
            obtain ⟨j, hj, rfl, hjr, HJ⟩ := hrel
            have HJR := Lib.hid hjr
            clear hjr
            by_cases hjl : j < gl.length
            · have S := HJ.out
              obtain ⟨gb, cb, C, u, hxe, hbb, hgb2, hcu, hfz⟩ := (S.by' _ _ _ OG7.out).at' hjl
              obtain ⟨u2, hu2⟩ := u8_next u
              injection hxe with hxe _ hxc
              subst hxe
              have sp : Spared wr (wr.setCell ⟨gb, j, none⟩ (.int .u8 u2.toNat)) := Spared.poke hgb2 u2
              have kp : Kept (fun k => WC.heap.size ≤ k) wr (wr.setCell ⟨gb, j, none⟩ (.int .u8 u2.toNat)) := (Kept.refl (fun k => WC.heap.size ≤ k) wr).setCell (p := ⟨gb, j, none⟩) (fun _ => hbb) _
              have HS2 : Hid (Spared X7 (wr.setCell ⟨gb, j, none⟩ (.int .u8 u2.toNat))) := HJ.out.trans sp
              have HK2 := Lib.hid (HJR.out.trans kp)
              clear S sp kp hgb2
              first
                | (go_wp2_with fail; done)
                | (go_wp2_with fail
                   go_roundw
                   case rel => exact ⟨j + 1, by omega, by go_num, HK2.out, HS2⟩
                   case measure => simp [intOf]; omega)
            · obtain rfl : j = gl.length := by omega
              have bs := bslice_t4 b1 b3 b5 b7 L1.length L3.length L5.length L7.length c1 c3 c5 c7 wr
              have hgB := heap_last wr (.cells #[.slice b1 L1.length c1, .slice b3 L3.length c3, .slice b5 L5.length c5, .slice b7 L7.length c7] 27)
              have kA : Kept (fun _ => False) wr (wr.alloc (.cells #[.slice b1 L1.length c1, .slice b3 L3.length c3, .slice b5 L5.length c5, .slice b7 L7.length c7] 27)) := (Kept.refl _ wr).alloc _
              generalize wr.alloc (.cells #[.slice b1 L1.length c1, .slice b3 L3.length c3, .slice b5 L5.length c5, .slice b7 L7.length c7] 27) = Y0 at bs hgB kA
              generalize wr.heap.size = BB at bs hgB
              have SP0 := Lib.hid (HJ.out.trans (Spared.of_kept kA))
              have KE0 := Lib.hid (HJR.out.trans (kA.mono (T := fun k => WC.heap.size ≤ k) (fun _ _ q => q.elim)))
              have hcell : ∀ w', Spared Y0 w' → w'.heap[BB]? = some (.cells #[.slice b1 L1.length c1, .slice b3 L3.length c3, .slice b5 L5.length c5, .slice b7 L7.length c7] 27 (0, 0)) := fun w' q => q.other BB _ _ _ hgB (by decide)
              have e0 : Y0.cell? ⟨BB, 0, none⟩ = some (.slice b1 L1.length c1) := by rw [cell_of_row _ _ _ _ _ _ hgB]; rfl
              have HC := Lib.hid hcell
              clear hcell hgB
              go_wp2_with (first
                | (with_reducible refine wpl_bslice 50 _ _ rfl rfl ?_ bs ?_
                   · (go_simp <;> rfl)
                   simp only [Act.put, List.getElem_toArray, List.getElem_cons_zero, List.getElem_cons_succ, List.setIfInBounds_toArray, List.set_cons_zero, List.set_cons_succ]))
              clear bs
              refine wp_loop_rounds 5 ?_
              rw [rounds_succ]
              go_wp2_with fail
              refine (spoil_ct (SP0.out.tree _ _ _ O1.out) (by omega)).mono ?_
              rintro e Y1 ⟨rfl, ke1, sp1⟩
              have SP1 := Lib.hid sp1
              have KE1 := Lib.hid (KE0.out.trans ke1)
              have e1 : Y1.cell? ⟨BB, 1, none⟩ = some (.slice b3 L3.length c3) := by rw [cell_of_row _ _ _ _ _ _ (HC.out _ sp1)]; rfl
              clear ke1 sp1 e0
              go_wp2_with fail
              rw [rounds_succ]
              go_wp2_with fail
              refine (spoil_ct ((SP0.out.trans SP1.out).tree _ _ _ O3.out) (by omega)).mono ?_
              rintro e Y2 ⟨rfl, ke2, sp2⟩
              have SP2 := Lib.hid (SP1.out.trans sp2)
              have KE2 := Lib.hid (KE1.out.trans ke2)
              have e2 : Y2.cell? ⟨BB, 2, none⟩ = some (.slice b5 L5.length c5) := by rw [cell_of_row _ _ _ _ _ _ (HC.out _ SP2.out)]; rfl
              clear ke2 sp2 e1
              go_wp2_with fail
              rw [rounds_succ]
              go_wp2_with fail
              refine (spoil_ct ((SP0.out.trans SP2.out).tree _ _ _ O5.out) (by omega)).mono ?_
              rintro e Y3 ⟨rfl, ke3, sp3⟩
              have SP3 := Lib.hid (SP2.out.trans sp3)
              have KE3 := Lib.hid (KE2.out.trans ke3)
              have e3 : Y3.cell? ⟨BB, 3, none⟩ = some (.slice b7 L7.length c7) := by rw [cell_of_row _ _ _ _ _ _ (HC.out _ SP3.out)]; rfl
              clear ke3 sp3 e2
              go_wp2_with fail
              rw [rounds_succ]
              go_wp2_with fail
              refine (spoil_ct ((SP0.out.trans SP3.out).tree _ _ _ O7.out) (by omega)).mono ?_
              rintro e Y4 ⟨rfl, ke4, sp4⟩
              have KF := KX.trans' (KE3.out.trans ke4) (fun k hk q => by omega)
              clear ke4 sp4 e3
              go_wp2_with fail
              rw [rounds_succ]
              go_wp2_with fail
              refine (rSame_ct (hin.kept KF) (ha.kept (KC.trans KF))).mono ?_
              rintro e Y5 ⟨rfl, kz5⟩
              rw [sameB_rfl]
              go_wp2_with fail
              refine (rSame_ct (hal.kept (KF.trans kz5)) (hb.kept ((KC.trans KF).trans kz5))).mono ?_
              rintro e Y6 ⟨rfl, kz6⟩
              rw [sameB_rfl]
              go_wp2_with fail
              refine (known_ct _).mono ?_
              rintro e W9 ⟨rfl, k9⟩
              go_wp2_with fail
              go_ret
              exact ⟨rfl, (((KC.trans KF).trans kz5).trans kz6).trans k9⟩
        · rw [hok2.2] at hq; cases hq
      | false =>
        have hg0 := hgf rfl
        subst hg0
        have hgl0 : ([] : List UInt8).length = 0 := rfl
        by_cases hm : mayB la = true
        · rw [hm, Bool.true_and] at hok
          rcases find_may hz hm with ⟨hq, _⟩ | ⟨_, hz1⟩
          · rw [hok] at hq; cases hq
          · subst hz1
            rw [hm] at rm
            clear hz hgt hgf hok hm
            go_wp2_with fail
            refine wp_region_held_drew (S := (Kept (fun _ => False) WF)) (by kernel_rfl) ((Kept.refl _ WF).drew) (fun hHeld => ?_)
            refine held_q (v := ?_) (i := 0) rfl (by kernel_rfl) (by kernel_rfl) (by kernel_rfl) (fun _ _ _ h => h) (by rfl) hHeld ?_ ?_
            rotate_left
            · (intro w' hS'; go_simp <;> (with_reducible rfl))
            simp only [Act.put, List.getElem_toArray, List.getElem_cons_zero, List.getElem_cons_succ, List.setIfInBounds_toArray, List.set_cons_zero, List.set_cons_succ]
            refine held_q (v := ?_) (i := 1) rfl (by kernel_rfl) (by kernel_rfl) (by kernel_rfl) (fun _ _ _ h => h) (by rfl) hHeld ?_ ?_
            rotate_left
            · (intro w' hS'; go_simp <;> (with_reducible rfl))
            simp only [Act.put, List.getElem_toArray, List.getElem_cons_zero, List.getElem_cons_succ, List.setIfInBounds_toArray, List.set_cons_zero, List.set_cons_succ]
            refine held_c (i := 2) (f := 27) (args := #[.slice a la.length c]) (by kernel_rfl) rfl (by rfl) ?_ (rm _ hHeld) ?_
            · (go_simp <;> rfl)
            rintro e WM ⟨rfl, kq⟩
            have hHeld := hHeld.trans kq
            refine ⟨_, rfl, hHeld, ?_⟩
            simp only [Act.put, List.getElem_toArray, List.getElem_cons_zero, List.getElem_cons_succ, List.setIfInBounds_toArray, List.set_cons_zero, List.set_cons_succ]
            refine held_q (v := ?_) (i := 3) rfl (by kernel_rfl) (by kernel_rfl) (by kernel_rfl) (fun _ _ _ h => h) (by rfl) hHeld ?_ ?_
            rotate_left
            · (intro w' hS'; go_simp <;> (with_reducible rfl))
            simp only [Act.put, List.getElem_toArray, List.getElem_cons_zero, List.getElem_cons_succ, List.setIfInBounds_toArray, List.set_cons_zero, List.set_cons_succ]
            refine held_q (v := ?_) (i := 4) rfl (by kernel_rfl) (by kernel_rfl) (by kernel_rfl) (fun _ _ _ h => h) (by rfl) hHeld ?_ ?_
            rotate_left
            · (intro w' hS'; go_simp <;> (with_reducible rfl))
            simp only [Act.put, List.getElem_toArray, List.getElem_cons_zero, List.getElem_cons_succ, List.setIfInBounds_toArray, List.set_cons_zero, List.set_cons_succ]
            refine held_q (v := ?_) (i := 5) rfl (by kernel_rfl) (by kernel_rfl) (by kernel_rfl) (fun _ _ _ h => h) (by rfl) hHeld ?_ ?_
            rotate_left
            · (intro w' hS'; go_simp <;> (with_reducible rfl))
            simp only [Act.put, List.getElem_toArray, List.getElem_cons_zero, List.getElem_cons_succ, List.setIfInBounds_toArray, List.set_cons_zero, List.set_cons_succ]
            refine held_q (v := ?_) (i := 6) rfl (by kernel_rfl) (by kernel_rfl) (by kernel_rfl) (fun _ _ _ h => h) (by rfl) hHeld ?_ ?_
            rotate_left
            · (intro w' hS'; go_simp <;> (with_reducible rfl))
            simp only [Act.put, List.getElem_toArray, List.getElem_cons_zero, List.getElem_cons_succ, List.setIfInBounds_toArray, List.set_cons_zero, List.set_cons_succ]
            refine held_q (v := ?_) (i := 7) rfl (by kernel_rfl) (by kernel_rfl) (by kernel_rfl) (fun _ _ _ h => h) (by rfl) hHeld ?_ ?_
            rotate_left
            · (intro w' hS'; go_simp <;> (with_reducible rfl))
            simp only [Act.put, List.getElem_toArray, List.getElem_cons_zero, List.getElem_cons_succ, List.setIfInBounds_toArray, List.set_cons_zero, List.set_cons_succ]
            refine held_q (v := ?_) (i := 8) rfl (by kernel_rfl) (by kernel_rfl) (by kernel_rfl) (fun _ _ _ h => h) (by rfl) hHeld ?_ ?_
            rotate_left
            · (intro w' hS'; go_simp <;> (with_reducible rfl))
            simp only [Act.put, List.getElem_toArray, List.getElem_cons_zero, List.getElem_cons_succ, List.setIfInBounds_toArray, List.set_cons_zero, List.set_cons_succ]
            refine held_q (v := ?_) (i := 9) rfl (by kernel_rfl) (by kernel_rfl) (by kernel_rfl) (fun _ _ _ h => h) (by rfl) hHeld ?_ ?_
            rotate_left
            · (intro w' hS'; go_simp <;> (with_reducible rfl))
            simp only [Act.put, List.getElem_toArray, List.getElem_cons_zero, List.getElem_cons_succ, List.setIfInBounds_toArray, List.set_cons_zero, List.set_cons_succ]
            refine held_q (v := ?_) (i := 10) rfl (by kernel_rfl) (by kernel_rfl) (by kernel_rfl) (fun _ _ _ h => h) (by rfl) hHeld ?_ ?_
            rotate_left
            · (intro w' hS'; go_simp <;> (with_reducible rfl))
            simp only [Act.put, List.getElem_toArray, List.getElem_cons_zero, List.getElem_cons_succ, List.setIfInBounds_toArray, List.set_cons_zero, List.set_cons_succ]
            refine held_no (i := 11) rfl (by kernel_rfl) (by kernel_rfl) (by kernel_rfl) (fun _ _ _ h => h) (by rfl) hHeld ?_
            simp only [Act.put, List.getElem_toArray, List.getElem_cons_zero, List.getElem_cons_succ, List.setIfInBounds_toArray, List.set_cons_zero, List.set_cons_succ]
            refine held_no (i := 12) rfl (by kernel_rfl) (by kernel_rfl) (by kernel_rfl) (fun _ _ _ h => h) (by rfl) hHeld ?_
            simp only [Act.put, List.getElem_toArray, List.getElem_cons_zero, List.getElem_cons_succ, List.setIfInBounds_toArray, List.set_cons_zero, List.set_cons_succ]
            refine held_no (i := 13) rfl (by kernel_rfl) (by kernel_rfl) (by kernel_rfl) (fun _ _ _ h => h) (by rfl) hHeld ?_
            simp only [Act.put, List.getElem_toArray, List.getElem_cons_zero, List.getElem_cons_succ, List.setIfInBounds_toArray, List.set_cons_zero, List.set_cons_succ]
            refine held_no (i := 14) rfl (by kernel_rfl) (by kernel_rfl) (by kernel_rfl) (fun _ _ _ h => h) (by rfl) hHeld ?_
            simp only [Act.put, List.getElem_toArray, List.getElem_cons_zero, List.getElem_cons_succ, List.setIfInBounds_toArray, List.set_cons_zero, List.set_cons_succ]
            refine held_no (i := 15) rfl (by kernel_rfl) (by kernel_rfl) (by kernel_rfl) (fun _ _ _ h => h) (by rfl) hHeld ?_
            simp only [Act.put, List.getElem_toArray, List.getElem_cons_zero, List.getElem_cons_succ, List.setIfInBounds_toArray, List.set_cons_zero, List.set_cons_succ]
            refine held_no (i := 16) rfl (by kernel_rfl) (by kernel_rfl) (by kernel_rfl) (fun _ _ _ h => h) (by rfl) hHeld ?_
            simp only [Act.put, List.getElem_toArray, List.getElem_cons_zero, List.getElem_cons_succ, List.setIfInBounds_toArray, List.set_cons_zero, List.set_cons_succ]
            refine held_no (i := 17) rfl (by kernel_rfl) (by kernel_rfl) (by kernel_rfl) (fun _ _ _ h => h) (by rfl) hHeld ?_
            simp only [Act.put, List.getElem_toArray, List.getElem_cons_zero, List.getElem_cons_succ, List.setIfInBounds_toArray, List.set_cons_zero, List.set_cons_succ]
            refine held_no (i := 18) rfl (by kernel_rfl) (by kernel_rfl) (by kernel_rfl) (fun _ _ _ h => h) (by rfl) hHeld ?_
            simp only [Act.put, List.getElem_toArray, List.getElem_cons_zero, List.getElem_cons_succ, List.setIfInBounds_toArray, List.set_cons_zero, List.set_cons_succ]
            refine held_no (i := 19) rfl (by kernel_rfl) (by kernel_rfl) (by kernel_rfl) (fun _ _ _ h => h) (by rfl) hHeld ?_
            simp only [Act.put, List.getElem_toArray, List.getElem_cons_zero, List.getElem_cons_succ, List.setIfInBounds_toArray, List.set_cons_zero, List.set_cons_succ]
            refine held_q (v := ?_) (i := 20) rfl (by kernel_rfl) (by kernel_rfl) (by kernel_rfl) (fun _ _ _ h => h) (by rfl) hHeld ?_ ?_
            rotate_left
            · (intro w' hS'; go_simp <;> (with_reducible rfl))
            simp only [Act.put, List.getElem_toArray, List.getElem_cons_zero, List.getElem_cons_succ, List.setIfInBounds_toArray, List.set_cons_zero, List.set_cons_succ]
            refine held_q (v := ?_) (i := 21) rfl (by kernel_rfl) (by kernel_rfl) (by kernel_rfl) (fun _ _ _ h => h) (by rfl) hHeld ?_ ?_
            rotate_left
            · (intro w' hS'; go_simp <;> (with_reducible rfl))
            simp only [Act.put, List.getElem_toArray, List.getElem_cons_zero, List.getElem_cons_succ, List.setIfInBounds_toArray, List.set_cons_zero, List.set_cons_succ]
            refine held_q (v := ?_) (i := 22) rfl (by kernel_rfl) (by kernel_rfl) (by kernel_rfl) (fun _ _ _ h => h) (by rfl) hHeld ?_ ?_
            rotate_left
            · (intro w' hS'; go_simp <;> (with_reducible rfl))
            simp only [Act.put, List.getElem_toArray, List.getElem_cons_zero, List.getElem_cons_succ, List.setIfInBounds_toArray, List.set_cons_zero, List.set_cons_succ]
            refine held_q (v := ?_) (i := 23) rfl (by kernel_rfl) (by kernel_rfl) (by kernel_rfl) (fun _ _ _ h => h) (by rfl) hHeld ?_ ?_
            rotate_left
            · (intro w' hS'; go_simp <;> (with_reducible rfl))
            simp only [Act.put, List.getElem_toArray, List.getElem_cons_zero, List.getElem_cons_succ, List.setIfInBounds_toArray, List.set_cons_zero, List.set_cons_succ]
            refine held_q (v := ?_) (i := 24) rfl (by kernel_rfl) (by kernel_rfl) (by kernel_rfl) (fun _ _ _ h => h) (by rfl) hHeld ?_ ?_
            rotate_left
            · (intro w' hS'; go_simp <;> (with_reducible rfl))
            simp only [Act.put, List.getElem_toArray, List.getElem_cons_zero, List.getElem_cons_succ, List.setIfInBounds_toArray, List.set_cons_zero, List.set_cons_succ]
            refine held_q (v := ?_) (i := 25) rfl (by kernel_rfl) (by kernel_rfl) (by kernel_rfl) (fun _ _ _ h => h) (by rfl) hHeld ?_ ?_
            rotate_left
            · (intro w' hS'; go_simp <;> (with_reducible rfl))
            simp only [Act.put, List.getElem_toArray, List.getElem_cons_zero, List.getElem_cons_succ, List.setIfInBounds_toArray, List.set_cons_zero, List.set_cons_succ]
            refine held_q (v := ?_) (i := 26) rfl (by kernel_rfl) (by kernel_rfl) (by kernel_rfl) (fun _ _ _ h => h) (by rfl) hHeld ?_ ?_
            rotate_left
            · (intro w' hS'; go_simp <;> (with_reducible rfl))
            simp only [Act.put, List.getElem_toArray, List.getElem_cons_zero, List.getElem_cons_succ, List.setIfInBounds_toArray, List.set_cons_zero, List.set_cons_succ]
            refine held_q (v := ?_) (i := 27) rfl (by kernel_rfl) (by kernel_rfl) (by kernel_rfl) (fun _ _ _ h => h) (by rfl) hHeld ?_ ?_
            rotate_left
            · (intro w' hS'; go_simp <;> (with_reducible rfl))
            simp only [Act.put, List.getElem_toArray, List.getElem_cons_zero, List.getElem_cons_succ, List.setIfInBounds_toArray, List.set_cons_zero, List.set_cons_succ]
            refine held_q (v := ?_) (i := 28) rfl (by kernel_rfl) (by kernel_rfl) (by kernel_rfl) (fun _ _ _ h => h) (by rfl) hHeld ?_ ?_
            rotate_left
            · (intro w' hS'; go_simp <;> (with_reducible rfl))
            simp only [Act.put, List.getElem_toArray, List.getElem_cons_zero, List.getElem_cons_succ, List.setIfInBounds_toArray, List.set_cons_zero, List.set_cons_succ]
            refine held_q (v := ?_) (i := 29) rfl (by kernel_rfl) (by kernel_rfl) (by kernel_rfl) (fun _ _ _ h => h) (by rfl) hHeld ?_ ?_
            rotate_left
            · (intro w' hS'; go_simp <;> (with_reducible rfl))
            simp only [Act.put, List.getElem_toArray, List.getElem_cons_zero, List.getElem_cons_succ, List.setIfInBounds_toArray, List.set_cons_zero, List.set_cons_succ]
            refine held_q (v := ?_) (i := 30) rfl (by kernel_rfl) (by kernel_rfl) (by kernel_rfl) (fun _ _ _ h => h) (by rfl) hHeld ?_ ?_
            rotate_left
            · (intro w' hS'; go_simp <;> (with_reducible rfl))
            simp only [Act.put, List.getElem_toArray, List.getElem_cons_zero, List.getElem_cons_succ, List.setIfInBounds_toArray, List.set_cons_zero, List.set_cons_succ]
            refine wpAnyH_done (by kernel_rfl) ?_ _
            have K := kgf.trans hHeld
            have OG := Lib.hid (hgo.kept hHeld)
            generalize ([] : List UInt8) = gl at *
            clear rm hgb hgo hHeld kgf kg kf
            -- the eight calls
            go_wp2_with fail
            refine (with_form (hin.kept K) s hs (hx.kept (KC.trans K))).mono ?_
            rintro e W1 ⟨⟨b1, n1, c1, rfl, rfl, hb1, ob1⟩, k1⟩
            have K1 := K.trans k1
            go_wp2_with fail
            refine (rWith_ct (ha.kept (KC.trans K1)) s hs (hx.kept (KC.trans K1))).mono ?_
            rintro e W2 ⟨hh, k2⟩
            obtain ⟨b2, n2, c2, rfl, rfl, hb2⟩ := form_of hh
            clear hh
            have K2 := K1.trans k2
            go_wp2_with fail
            refine (below_anyS (hin.kept K2) s hs).mono ?_
            rintro e W3 ⟨v3, rfl, hb3, ob3, k3⟩
            obtain ⟨b3, c3, hv3⟩ := hb3.slc
            subst hv3
            have K3 := K2.trans k3
            go_wp2_with fail
            refine (rBelow_ct (ha.kept (KC.trans K3)) s hs).mono ?_
            rintro e W4 ⟨v4, rfl, hb4, k4⟩
            obtain ⟨b4, c4, hv4⟩ := hb4.slc
            subst hv4
            have K4 := K3.trans k4
            go_wp2_with fail
            refine (under_form (hin.kept K4) s hs).mono ?_
            rintro e W5 ⟨⟨b5, n5, c5, rfl, rfl, hb5, ob5⟩, k5⟩
            have K5 := K4.trans k5
            go_wp2_with fail
            refine (rUnder_ct (ha.kept (KC.trans K5)) s hs).mono ?_
            rintro e W6 ⟨hh, k6⟩
            obtain ⟨b6, n6, c6, rfl, rfl, hb6⟩ := form_of hh
            clear hh
            have K6 := K5.trans k6
            go_wp2_with fail
            refine (join_form (hin.kept K6) (hal.kept K6)).mono ?_
            rintro e W7 ⟨⟨b7, n7, c7, rfl, rfl, hb7, ob7⟩, k7⟩
            have K7 := K6.trans k7
            go_wp2_with fail
            refine (rJoin_ct (ha.kept (KC.trans K7)) (hb.kept (KC.trans K7))).mono ?_
            rintro e W8 ⟨hh, k8⟩
            obtain ⟨b8, n8, c8, rfl, rfl, hb8⟩ := form_of hh
            clear hh
            have K8 := K7.trans k8
            -- in one world
            have b1' := hb1.kept ((((((k2.trans k3).trans k4).trans k5).trans k6).trans k7).trans k8)
            have b2' := hb2.kept (((((k3.trans k4).trans k5).trans k6).trans k7).trans k8)
            have b3' := hb3.kept ((((k4.trans k5).trans k6).trans k7).trans k8)
            have b4' := hb4.kept (((k5.trans k6).trans k7).trans k8)
            have b5' := hb5.kept ((k6.trans k7).trans k8)
            have b6' := hb6.kept (k7.trans k8)
            have b7' := hb7.kept k8
            have o1 := (ob1.low (K.size)).kept ((((((k2.trans k3).trans k4).trans k5).trans k6).trans k7).trans k8)
            have o3 := (ob3.low (K2.size)).kept ((((k4.trans k5).trans k6).trans k7).trans k8)
            have o5 := (ob5.low (K4.size)).kept ((k6.trans k7).trans k8)
            have o7 := (ob7.low (K6.size)).kept k8
            have hin8 := hin.kept K8
            have hal8 := hal.kept K8
            have ha8 := ha.kept (KC.trans K8)
            have hb8a := hb.kept (KC.trans K8)
            have og8 := OG.out.kept (((((((k1.trans k2).trans k3).trans k4).trans k5).trans k6).trans k7).trans k8)
            have hL1 : (pickL (withC la s bx) (withL la s bx)).length ≤ 16 := pick_len withC_may
            have hL3 : (belowR la s).length ≤ 16 := belowR_len la s
            have hL5 : (pickL (underC la s) (la.map (upF s))).length ≤ 16 := pick_len (fun h => (underC_zero.1 h).2.2)
            have hL7 : (pickL (joinC la lb) (joinO la lb)).length ≤ 16 := pick_len (fun h => (joinC_zero h).may)
            clear hb1 hb2 hb3 hb4 hb5 hb6 hb7 ob1 ob3 ob5 ob7 k1 k2 k3 k4 k5 k6 k7 k8 K1 K2 K3 K4 K5 K6 K7 K
            generalize pickL (withC la s bx) (withL la s bx) = L1 at *
            generalize withC la s bx = cw at *
            generalize belowR la s = L3 at *
            generalize pickL (underC la s) (la.map (upF s)) = L5 at *
            generalize underC la s = cu at *
            generalize pickL (joinC la lb) (joinO la lb) = L7 at *
            generalize joinC la lb = cj at *
            have ew : ((cw : Int) != (cw : Int)) = false := by simp
            have eu : ((cu : Int) != (cu : Int)) = false := by simp
            have ej : ((cj : Int) != (cj : Int)) = false := by simp
            go_wp2_with fail
            refine (rSame_ct b1' b2').mono ?_
            rintro e X1 ⟨rfl, j1⟩
            rw [sameB_rfl]
            go_wp2_with fail
            refine (rSame_ct (b3'.kept j1) (b4'.kept j1)).mono ?_
            rintro e X2 ⟨rfl, j2⟩
            rw [sameB_rfl]
            have J2 := j1.trans j2
            go_wp2_with fail
            refine (rSame_ct (b5'.kept J2) (b6'.kept J2)).mono ?_
            rintro e X3 ⟨rfl, j3⟩
            rw [sameB_rfl]
            have J3 := J2.trans j3
            go_wp2_with fail
            refine (rSame_ct (b7'.kept J3) (hb8.kept J3)).mono ?_
            rintro e X4 ⟨rfl, j4⟩
            rw [sameB_rfl]
            have J4 := J3.trans j4
            go_wp2_with fail
            refine (same_ctL (hin8.kept J4) (hal8.kept J4) la47 lb47).mono ?_
            rintro e X5 ⟨rfl, j5⟩
            have J5 := J4.trans j5
            generalize hsb : sameB la lb = sb
            have hsb2 : (sb != sb) = false := by simp
            go_wp2_with fail
            refine (rSame_ct (ha8.kept J5) (hb8a.kept J5)).mono ?_
            rintro e X6 ⟨rfl, j6⟩
            rw [hsb]
            have J6 := J5.trans j6
            go_wp2_with fail
            refine (same_ctL (hin8.kept J6) (ha8.kept J6) la47 la47).mono ?_
            rintro e X7 ⟨rfl, j7⟩
            rw [sameB_rfl]
            have J7 := J6.trans j7
            have O1 := Lib.hid (o1.kept J7)
            have O3 := Lib.hid (o3.kept J7)
            have O5 := Lib.hid (o5.kept J7)
            have O7 := Lib.hid (o7.kept J7)
            have OG7 := Lib.hid (og8.kept J7)
            have KX := K8.trans J7
            clear b1' b2' b3' b4' b5' b6' b7' hb8 o1 o3 o5 o7 og8 hin8 hal8 ha8 hb8a j1 j2 j3 j4 j5 j6 j7 J2 J3 J4 J5 J6 J7 K8
            go_wp2_with fail
            go_loopw [190] (fun i wr => ∃ j : Nat, j ≤ gl.length ∧ i = .int .i64 j ∧ Kept (fun k => WC.heap.size ≤ k) X7 wr ∧ Hid (Spared X7 wr)) (fun i _ => gl.length - (intOf i).toNat)
            case atStart => exact ⟨0, by omega, rfl, Kept.refl _ _, Spared.refl _⟩
            case round =>
              obtain ⟨j, hj, rfl, hjr, HJ⟩ := hrel
              have HJR := Lib.hid hjr
              clear hjr
              by_cases hjl : j < gl.length
              · have S := HJ.out
                obtain ⟨gb, cb, C, u, hxe, hbb, hgb2, hcu, hfz⟩ := (S.by' _ _ _ OG7.out).at' hjl
                obtain ⟨u2, hu2⟩ := u8_next u
                injection hxe with hxe _ hxc
                subst hxe
                have sp : Spared wr (wr.setCell ⟨gb, j, none⟩ (.int .u8 u2.toNat)) := Spared.poke hgb2 u2
                have kp : Kept (fun k => WC.heap.size ≤ k) wr (wr.setCell ⟨gb, j, none⟩ (.int .u8 u2.toNat)) := (Kept.refl (fun k => WC.heap.size ≤ k) wr).setCell (p := ⟨gb, j, none⟩) (fun _ => hbb) _
                have HS2 : Hid (Spared X7 (wr.setCell ⟨gb, j, none⟩ (.int .u8 u2.toNat))) := HJ.out.trans sp
                have HK2 := Lib.hid (HJR.out.trans kp)
                clear S sp kp hgb2
                first
                  | (go_wp2_with fail; done)
                  | (go_wp2_with fail
                     go_roundw
                     case rel => exact ⟨j + 1, by omega, by go_num, HK2.out, HS2⟩
                     case measure => simp [intOf]; omega)
              · obtain rfl : j = gl.length := by omega
                have bs := bslice_t4 b1 b3 b5 b7 L1.length L3.length L5.length L7.length c1 c3 c5 c7 wr
                have hgB := heap_last wr (.cells #[.slice b1 L1.length c1, .slice b3 L3.length c3, .slice b5 L5.length c5, .slice b7 L7.length c7] 27)
                have kA : Kept (fun _ => False) wr (wr.alloc (.cells #[.slice b1 L1.length c1, .slice b3 L3.length c3, .slice b5 L5.length c5, .slice b7 L7.length c7] 27)) := (Kept.refl _ wr).alloc _
                generalize wr.alloc (.cells #[.slice b1 L1.length c1, .slice b3 L3.length c3, .slice b5 L5.length c5, .slice b7 L7.length c7] 27) = Y0 at bs hgB kA
                generalize wr.heap.size = BB at bs hgB
                have SP0 := Lib.hid (HJ.out.trans (Spared.of_kept kA))
                have KE0 := Lib.hid (HJR.out.trans (kA.mono (T := fun k => WC.heap.size ≤ k) (fun _ _ q => q.elim)))
                have hcell : ∀ w', Spared Y0 w' → w'.heap[BB]? = some (.cells #[.slice b1 L1.length c1, .slice b3 L3.length c3, .slice b5 L5.length c5, .slice b7 L7.length c7] 27 (0, 0)) := fun w' q => q.other BB _ _ _ hgB (by decide)
                have e0 : Y0.cell? ⟨BB, 0, none⟩ = some (.slice b1 L1.length c1) := by rw [cell_of_row _ _ _ _ _ _ hgB]; rfl
                have HC := Lib.hid hcell
                clear hcell hgB
                go_wp2_with (first
                  | (with_reducible refine wpl_bslice 50 _ _ rfl rfl ?_ bs ?_
                     · (go_simp <;> rfl)
                     simp only [Act.put, List.getElem_toArray, List.getElem_cons_zero, List.getElem_cons_succ, List.setIfInBounds_toArray, List.set_cons_zero, List.set_cons_succ]))
                clear bs
                refine wp_loop_rounds 5 ?_
                rw [rounds_succ]
                go_wp2_with fail
                refine (spoil_ct (SP0.out.tree _ _ _ O1.out) (by omega)).mono ?_
                rintro e Y1 ⟨rfl, ke1, sp1⟩
                have SP1 := Lib.hid sp1
                have KE1 := Lib.hid (KE0.out.trans ke1)
                have e1 : Y1.cell? ⟨BB, 1, none⟩ = some (.slice b3 L3.length c3) := by rw [cell_of_row _ _ _ _ _ _ (HC.out _ sp1)]; rfl
                clear ke1 sp1 e0
                go_wp2_with fail
                rw [rounds_succ]
                go_wp2_with fail
                refine (spoil_ct ((SP0.out.trans SP1.out).tree _ _ _ O3.out) (by omega)).mono ?_
                rintro e Y2 ⟨rfl, ke2, sp2⟩
                have SP2 := Lib.hid (SP1.out.trans sp2)
                have KE2 := Lib.hid (KE1.out.trans ke2)
                have e2 : Y2.cell? ⟨BB, 2, none⟩ = some (.slice b5 L5.length c5) := by rw [cell_of_row _ _ _ _ _ _ (HC.out _ SP2.out)]; rfl
                clear ke2 sp2 e1
                go_wp2_with fail
                rw [rounds_succ]
                go_wp2_with fail
                refine (spoil_ct ((SP0.out.trans SP2.out).tree _ _ _ O5.out) (by omega)).mono ?_
                rintro e Y3 ⟨rfl, ke3, sp3⟩
                have SP3 := Lib.hid (SP2.out.trans sp3)
                have KE3 := Lib.hid (KE2.out.trans ke3)
                have e3 : Y3.cell? ⟨BB, 3, none⟩ = some (.slice b7 L7.length c7) := by rw [cell_of_row _ _ _ _ _ _ (HC.out _ SP3.out)]; rfl
                clear ke3 sp3 e2
                go_wp2_with fail
                rw [rounds_succ]
                go_wp2_with fail
                refine (spoil_ct ((SP0.out.trans SP3.out).tree _ _ _ O7.out) (by omega)).mono ?_
                rintro e Y4 ⟨rfl, ke4, sp4⟩
                have KF := KX.trans' (KE3.out.trans ke4) (fun k hk q => by omega)
                clear ke4 sp4 e3
                go_wp2_with fail
                rw [rounds_succ]
                go_wp2_with fail
                refine (rSame_ct (hin.kept KF) (ha.kept (KC.trans KF))).mono ?_
                rintro e Y5 ⟨rfl, kz5⟩
                rw [sameB_rfl]
                go_wp2_with fail
                refine (rSame_ct (hal.kept (KF.trans kz5)) (hb.kept ((KC.trans KF).trans kz5))).mono ?_
                rintro e Y6 ⟨rfl, kz6⟩
                rw [sameB_rfl]
                go_wp2_with fail
                refine (known_ct _).mono ?_
                rintro e W9 ⟨rfl, k9⟩
                go_wp2_with fail
                go_ret
                exact ⟨rfl, (((KC.trans KF).trans kz5).trans kz6).trans k9⟩
        · have hm : mayB la = false := by simpa using hm
          rw [hm] at rm
          clear hz hgt hgf hok hm
          go_wp2_with fail
          refine wp_region_held_drew (S := (Kept (fun _ => False) WF)) (by kernel_rfl) ((Kept.refl _ WF).drew) (fun hHeld => ?_)
          refine held_q (v := ?_) (i := 0) rfl (by kernel_rfl) (by kernel_rfl) (by kernel_rfl) (fun _ _ _ h => h) (by rfl) hHeld ?_ ?_
          rotate_left
          · (intro w' hS'; go_simp <;> (with_reducible rfl))
          simp only [Act.put, List.getElem_toArray, List.getElem_cons_zero, List.getElem_cons_succ, List.setIfInBounds_toArray, List.set_cons_zero, List.set_cons_succ]
          refine held_q (v := ?_) (i := 1) rfl (by kernel_rfl) (by kernel_rfl) (by kernel_rfl) (fun _ _ _ h => h) (by rfl) hHeld ?_ ?_
          rotate_left
          · (intro w' hS'; go_simp <;> (with_reducible rfl))
          simp only [Act.put, List.getElem_toArray, List.getElem_cons_zero, List.getElem_cons_succ, List.setIfInBounds_toArray, List.set_cons_zero, List.set_cons_succ]
          refine held_c (i := 2) (f := 27) (args := #[.slice a la.length c]) (by kernel_rfl) rfl (by rfl) ?_ (rm _ hHeld) ?_
          · (go_simp <;> rfl)
          rintro e WM ⟨rfl, kq⟩
          have hHeld := hHeld.trans kq
          refine ⟨_, rfl, hHeld, ?_⟩
          simp only [Act.put, List.getElem_toArray, List.getElem_cons_zero, List.getElem_cons_succ, List.setIfInBounds_toArray, List.set_cons_zero, List.set_cons_succ]
          refine held_q (v := ?_) (i := 3) rfl (by kernel_rfl) (by kernel_rfl) (by kernel_rfl) (fun _ _ _ h => h) (by rfl) hHeld ?_ ?_
          rotate_left
          · (intro w' hS'; go_simp <;> (with_reducible rfl))
          simp only [Act.put, List.getElem_toArray, List.getElem_cons_zero, List.getElem_cons_succ, List.setIfInBounds_toArray, List.set_cons_zero, List.set_cons_succ]
          refine held_no (i := 4) rfl (by kernel_rfl) (by kernel_rfl) (by kernel_rfl) (fun _ _ _ h => h) (by rfl) hHeld ?_
          simp only [Act.put, List.getElem_toArray, List.getElem_cons_zero, List.getElem_cons_succ, List.setIfInBounds_toArray, List.set_cons_zero, List.set_cons_succ]
          refine held_no (i := 5) rfl (by kernel_rfl) (by kernel_rfl) (by kernel_rfl) (fun _ _ _ h => h) (by rfl) hHeld ?_
          simp only [Act.put, List.getElem_toArray, List.getElem_cons_zero, List.getElem_cons_succ, List.setIfInBounds_toArray, List.set_cons_zero, List.set_cons_succ]
          refine held_q (v := ?_) (i := 6) rfl (by kernel_rfl) (by kernel_rfl) (by kernel_rfl) (fun _ _ _ h => h) (by rfl) hHeld ?_ ?_
          rotate_left
          · (intro w' hS'; go_simp <;> (with_reducible rfl))
          simp only [Act.put, List.getElem_toArray, List.getElem_cons_zero, List.getElem_cons_succ, List.setIfInBounds_toArray, List.set_cons_zero, List.set_cons_succ]
          refine held_q (v := ?_) (i := 7) rfl (by kernel_rfl) (by kernel_rfl) (by kernel_rfl) (fun _ _ _ h => h) (by rfl) hHeld ?_ ?_
          rotate_left
          · (intro w' hS'; go_simp <;> (with_reducible rfl))
          simp only [Act.put, List.getElem_toArray, List.getElem_cons_zero, List.getElem_cons_succ, List.setIfInBounds_toArray, List.set_cons_zero, List.set_cons_succ]
          refine held_q (v := ?_) (i := 8) rfl (by kernel_rfl) (by kernel_rfl) (by kernel_rfl) (fun _ _ _ h => h) (by rfl) hHeld ?_ ?_
          rotate_left
          · (intro w' hS'; go_simp <;> (with_reducible rfl))
          simp only [Act.put, List.getElem_toArray, List.getElem_cons_zero, List.getElem_cons_succ, List.setIfInBounds_toArray, List.set_cons_zero, List.set_cons_succ]
          refine held_q (v := ?_) (i := 9) rfl (by kernel_rfl) (by kernel_rfl) (by kernel_rfl) (fun _ _ _ h => h) (by rfl) hHeld ?_ ?_
          rotate_left
          · (intro w' hS'; go_simp <;> (with_reducible rfl))
          simp only [Act.put, List.getElem_toArray, List.getElem_cons_zero, List.getElem_cons_succ, List.setIfInBounds_toArray, List.set_cons_zero, List.set_cons_succ]
          refine held_q (v := ?_) (i := 10) rfl (by kernel_rfl) (by kernel_rfl) (by kernel_rfl) (fun _ _ _ h => h) (by rfl) hHeld ?_ ?_
          rotate_left
          · (intro w' hS'; go_simp <;> (with_reducible rfl))
          simp only [Act.put, List.getElem_toArray, List.getElem_cons_zero, List.getElem_cons_succ, List.setIfInBounds_toArray, List.set_cons_zero, List.set_cons_succ]
          refine held_no (i := 11) rfl (by kernel_rfl) (by kernel_rfl) (by kernel_rfl) (fun _ _ _ h => h) (by rfl) hHeld ?_
          simp only [Act.put, List.getElem_toArray, List.getElem_cons_zero, List.getElem_cons_succ, List.setIfInBounds_toArray, List.set_cons_zero, List.set_cons_succ]
          refine held_no (i := 12) rfl (by kernel_rfl) (by kernel_rfl) (by kernel_rfl) (fun _ _ _ h => h) (by rfl) hHeld ?_
          simp only [Act.put, List.getElem_toArray, List.getElem_cons_zero, List.getElem_cons_succ, List.setIfInBounds_toArray, List.set_cons_zero, List.set_cons_succ]
          refine held_no (i := 13) rfl (by kernel_rfl) (by kernel_rfl) (by kernel_rfl) (fun _ _ _ h => h) (by rfl) hHeld ?_
          simp only [Act.put, List.getElem_toArray, List.getElem_cons_zero, List.getElem_cons_succ, List.setIfInBounds_toArray, List.set_cons_zero, List.set_cons_succ]
          refine held_no (i := 14) rfl (by kernel_rfl) (by kernel_rfl) (by kernel_rfl) (fun _ _ _ h => h) (by rfl) hHeld ?_
          simp only [Act.put, List.getElem_toArray, List.getElem_cons_zero, List.getElem_cons_succ, List.setIfInBounds_toArray, List.set_cons_zero, List.set_cons_succ]
          refine held_no (i := 15) rfl (by kernel_rfl) (by kernel_rfl) (by kernel_rfl) (fun _ _ _ h => h) (by rfl) hHeld ?_
          simp only [Act.put, List.getElem_toArray, List.getElem_cons_zero, List.getElem_cons_succ, List.setIfInBounds_toArray, List.set_cons_zero, List.set_cons_succ]
          refine held_no (i := 16) rfl (by kernel_rfl) (by kernel_rfl) (by kernel_rfl) (fun _ _ _ h => h) (by rfl) hHeld ?_
          simp only [Act.put, List.getElem_toArray, List.getElem_cons_zero, List.getElem_cons_succ, List.setIfInBounds_toArray, List.set_cons_zero, List.set_cons_succ]
          refine held_no (i := 17) rfl (by kernel_rfl) (by kernel_rfl) (by kernel_rfl) (fun _ _ _ h => h) (by rfl) hHeld ?_
          simp only [Act.put, List.getElem_toArray, List.getElem_cons_zero, List.getElem_cons_succ, List.setIfInBounds_toArray, List.set_cons_zero, List.set_cons_succ]
          refine held_no (i := 18) rfl (by kernel_rfl) (by kernel_rfl) (by kernel_rfl) (fun _ _ _ h => h) (by rfl) hHeld ?_
          simp only [Act.put, List.getElem_toArray, List.getElem_cons_zero, List.getElem_cons_succ, List.setIfInBounds_toArray, List.set_cons_zero, List.set_cons_succ]
          refine held_no (i := 19) rfl (by kernel_rfl) (by kernel_rfl) (by kernel_rfl) (fun _ _ _ h => h) (by rfl) hHeld ?_
          simp only [Act.put, List.getElem_toArray, List.getElem_cons_zero, List.getElem_cons_succ, List.setIfInBounds_toArray, List.set_cons_zero, List.set_cons_succ]
          refine held_q (v := ?_) (i := 20) rfl (by kernel_rfl) (by kernel_rfl) (by kernel_rfl) (fun _ _ _ h => h) (by rfl) hHeld ?_ ?_
          rotate_left
          · (intro w' hS'; go_simp <;> (with_reducible rfl))
          simp only [Act.put, List.getElem_toArray, List.getElem_cons_zero, List.getElem_cons_succ, List.setIfInBounds_toArray, List.set_cons_zero, List.set_cons_succ]
          refine held_q (v := ?_) (i := 21) rfl (by kernel_rfl) (by kernel_rfl) (by kernel_rfl) (fun _ _ _ h => h) (by rfl) hHeld ?_ ?_
          rotate_left
          · (intro w' hS'; go_simp <;> (with_reducible rfl))
          simp only [Act.put, List.getElem_toArray, List.getElem_cons_zero, List.getElem_cons_succ, List.setIfInBounds_toArray, List.set_cons_zero, List.set_cons_succ]
          refine held_q (v := ?_) (i := 22) rfl (by kernel_rfl) (by kernel_rfl) (by kernel_rfl) (fun _ _ _ h => h) (by rfl) hHeld ?_ ?_
          rotate_left
          · (intro w' hS'; go_simp <;> (with_reducible rfl))
          simp only [Act.put, List.getElem_toArray, List.getElem_cons_zero, List.getElem_cons_succ, List.setIfInBounds_toArray, List.set_cons_zero, List.set_cons_succ]
          refine held_q (v := ?_) (i := 23) rfl (by kernel_rfl) (by kernel_rfl) (by kernel_rfl) (fun _ _ _ h => h) (by rfl) hHeld ?_ ?_
          rotate_left
          · (intro w' hS'; go_simp <;> (with_reducible rfl))
          simp only [Act.put, List.getElem_toArray, List.getElem_cons_zero, List.getElem_cons_succ, List.setIfInBounds_toArray, List.set_cons_zero, List.set_cons_succ]
          refine held_q (v := ?_) (i := 24) rfl (by kernel_rfl) (by kernel_rfl) (by kernel_rfl) (fun _ _ _ h => h) (by rfl) hHeld ?_ ?_
          rotate_left
          · (intro w' hS'; go_simp <;> (with_reducible rfl))
          simp only [Act.put, List.getElem_toArray, List.getElem_cons_zero, List.getElem_cons_succ, List.setIfInBounds_toArray, List.set_cons_zero, List.set_cons_succ]
          refine held_q (v := ?_) (i := 25) rfl (by kernel_rfl) (by kernel_rfl) (by kernel_rfl) (fun _ _ _ h => h) (by rfl) hHeld ?_ ?_
          rotate_left
          · (intro w' hS'; go_simp <;> (with_reducible rfl))
          simp only [Act.put, List.getElem_toArray, List.getElem_cons_zero, List.getElem_cons_succ, List.setIfInBounds_toArray, List.set_cons_zero, List.set_cons_succ]
          refine held_q (v := ?_) (i := 26) rfl (by kernel_rfl) (by kernel_rfl) (by kernel_rfl) (fun _ _ _ h => h) (by rfl) hHeld ?_ ?_
          rotate_left
          · (intro w' hS'; go_simp <;> (with_reducible rfl))
          simp only [Act.put, List.getElem_toArray, List.getElem_cons_zero, List.getElem_cons_succ, List.setIfInBounds_toArray, List.set_cons_zero, List.set_cons_succ]
          refine held_q (v := ?_) (i := 27) rfl (by kernel_rfl) (by kernel_rfl) (by kernel_rfl) (fun _ _ _ h => h) (by rfl) hHeld ?_ ?_
          rotate_left
          · (intro w' hS'; go_simp <;> (with_reducible rfl))
          simp only [Act.put, List.getElem_toArray, List.getElem_cons_zero, List.getElem_cons_succ, List.setIfInBounds_toArray, List.set_cons_zero, List.set_cons_succ]
          refine held_q (v := ?_) (i := 28) rfl (by kernel_rfl) (by kernel_rfl) (by kernel_rfl) (fun _ _ _ h => h) (by rfl) hHeld ?_ ?_
          rotate_left
          · (intro w' hS'; go_simp <;> (with_reducible rfl))
          simp only [Act.put, List.getElem_toArray, List.getElem_cons_zero, List.getElem_cons_succ, List.setIfInBounds_toArray, List.set_cons_zero, List.set_cons_succ]
          refine held_q (v := ?_) (i := 29) rfl (by kernel_rfl) (by kernel_rfl) (by kernel_rfl) (fun _ _ _ h => h) (by rfl) hHeld ?_ ?_
          rotate_left
          · (intro w' hS'; go_simp <;> (with_reducible rfl))
          simp only [Act.put, List.getElem_toArray, List.getElem_cons_zero, List.getElem_cons_succ, List.setIfInBounds_toArray, List.set_cons_zero, List.set_cons_succ]
          refine held_q (v := ?_) (i := 30) rfl (by kernel_rfl) (by kernel_rfl) (by kernel_rfl) (fun _ _ _ h => h) (by rfl) hHeld ?_ ?_
          rotate_left
          · (intro w' hS'; go_simp <;> (with_reducible rfl))
          simp only [Act.put, List.getElem_toArray, List.getElem_cons_zero, List.getElem_cons_succ, List.setIfInBounds_toArray, List.set_cons_zero, List.set_cons_succ]
          refine wpAnyH_done (by kernel_rfl) ?_ _
          have K := kgf.trans hHeld
          have OG := Lib.hid (hgo.kept hHeld)
          generalize ([] : List UInt8) = gl at *
          clear rm hgb hgo hHeld kgf kg kf
          -- the eight calls
          go_wp2_with fail
          refine (with_form (hin.kept K) s hs (hx.kept (KC.trans K))).mono ?_
          rintro e W1 ⟨⟨b1, n1, c1, rfl, rfl, hb1, ob1⟩, k1⟩
          have K1 := K.trans k1
          go_wp2_with fail
          refine (rWith_ct (ha.kept (KC.trans K1)) s hs (hx.kept (KC.trans K1))).mono ?_
          rintro e W2 ⟨hh, k2⟩
          obtain ⟨b2, n2, c2, rfl, rfl, hb2⟩ := form_of hh
          clear hh
          have K2 := K1.trans k2
          go_wp2_with fail
          refine (below_anyS (hin.kept K2) s hs).mono ?_
          rintro e W3 ⟨v3, rfl, hb3, ob3, k3⟩
          obtain ⟨b3, c3, hv3⟩ := hb3.slc
          subst hv3
          have K3 := K2.trans k3
          go_wp2_with fail
          refine (rBelow_ct (ha.kept (KC.trans K3)) s hs).mono ?_
          rintro e W4 ⟨v4, rfl, hb4, k4⟩
          obtain ⟨b4, c4, hv4⟩ := hb4.slc
          subst hv4
          have K4 := K3.trans k4
          go_wp2_with fail
          refine (under_form (hin.kept K4) s hs).mono ?_
          rintro e W5 ⟨⟨b5, n5, c5, rfl, rfl, hb5, ob5⟩, k5⟩
          have K5 := K4.trans k5
          go_wp2_with fail
          refine (rUnder_ct (ha.kept (KC.trans K5)) s hs).mono ?_
          rintro e W6 ⟨hh, k6⟩
          obtain ⟨b6, n6, c6, rfl, rfl, hb6⟩ := form_of hh
          clear hh
          have K6 := K5.trans k6
          go_wp2_with fail
          refine (join_form (hin.kept K6) (hal.kept K6)).mono ?_
          rintro e W7 ⟨⟨b7, n7, c7, rfl, rfl, hb7, ob7⟩, k7⟩
          have K7 := K6.trans k7
          go_wp2_with fail
          refine (rJoin_ct (ha.kept (KC.trans K7)) (hb.kept (KC.trans K7))).mono ?_
          rintro e W8 ⟨hh, k8⟩
          obtain ⟨b8, n8, c8, rfl, rfl, hb8⟩ := form_of hh
          clear hh
          have K8 := K7.trans k8
          -- in one world
          have b1' := hb1.kept ((((((k2.trans k3).trans k4).trans k5).trans k6).trans k7).trans k8)
          have b2' := hb2.kept (((((k3.trans k4).trans k5).trans k6).trans k7).trans k8)
          have b3' := hb3.kept ((((k4.trans k5).trans k6).trans k7).trans k8)
          have b4' := hb4.kept (((k5.trans k6).trans k7).trans k8)
          have b5' := hb5.kept ((k6.trans k7).trans k8)
          have b6' := hb6.kept (k7.trans k8)
          have b7' := hb7.kept k8
          have o1 := (ob1.low (K.size)).kept ((((((k2.trans k3).trans k4).trans k5).trans k6).trans k7).trans k8)
          have o3 := (ob3.low (K2.size)).kept ((((k4.trans k5).trans k6).trans k7).trans k8)
          have o5 := (ob5.low (K4.size)).kept ((k6.trans k7).trans k8)
          have o7 := (ob7.low (K6.size)).kept k8
          have hin8 := hin.kept K8
          have hal8 := hal.kept K8
          have ha8 := ha.kept (KC.trans K8)
          have hb8a := hb.kept (KC.trans K8)
          have og8 := OG.out.kept (((((((k1.trans k2).trans k3).trans k4).trans k5).trans k6).trans k7).trans k8)
          have hL1 : (pickL (withC la s bx) (withL la s bx)).length ≤ 16 := pick_len withC_may
          have hL3 : (belowR la s).length ≤ 16 := belowR_len la s
          have hL5 : (pickL (underC la s) (la.map (upF s))).length ≤ 16 := pick_len (fun h => (underC_zero.1 h).2.2)
          have hL7 : (pickL (joinC la lb) (joinO la lb)).length ≤ 16 := pick_len (fun h => (joinC_zero h).may)
          clear hb1 hb2 hb3 hb4 hb5 hb6 hb7 ob1 ob3 ob5 ob7 k1 k2 k3 k4 k5 k6 k7 k8 K1 K2 K3 K4 K5 K6 K7 K
          generalize pickL (withC la s bx) (withL la s bx) = L1 at *
          generalize withC la s bx = cw at *
          generalize belowR la s = L3 at *
          generalize pickL (underC la s) (la.map (upF s)) = L5 at *
          generalize underC la s = cu at *
          generalize pickL (joinC la lb) (joinO la lb) = L7 at *
          generalize joinC la lb = cj at *
          have ew : ((cw : Int) != (cw : Int)) = false := by simp
          have eu : ((cu : Int) != (cu : Int)) = false := by simp
          have ej : ((cj : Int) != (cj : Int)) = false := by simp
          go_wp2_with fail
          refine (rSame_ct b1' b2').mono ?_
          rintro e X1 ⟨rfl, j1⟩
          rw [sameB_rfl]
          go_wp2_with fail
          refine (rSame_ct (b3'.kept j1) (b4'.kept j1)).mono ?_
          rintro e X2 ⟨rfl, j2⟩
          rw [sameB_rfl]
          have J2 := j1.trans j2
          go_wp2_with fail
          refine (rSame_ct (b5'.kept J2) (b6'.kept J2)).mono ?_
          rintro e X3 ⟨rfl, j3⟩
          rw [sameB_rfl]
          have J3 := J2.trans j3
          go_wp2_with fail
          refine (rSame_ct (b7'.kept J3) (hb8.kept J3)).mono ?_
          rintro e X4 ⟨rfl, j4⟩
          rw [sameB_rfl]
          have J4 := J3.trans j4
          go_wp2_with fail
          refine (same_ctL (hin8.kept J4) (hal8.kept J4) la47 lb47).mono ?_
          rintro e X5 ⟨rfl, j5⟩
          have J5 := J4.trans j5
          generalize hsb : sameB la lb = sb
          have hsb2 : (sb != sb) = false := by simp
          go_wp2_with fail
          refine (rSame_ct (ha8.kept J5) (hb8a.kept J5)).mono ?_
          rintro e X6 ⟨rfl, j6⟩
          rw [hsb]
          have J6 := J5.trans j6
          go_wp2_with fail
          refine (same_ctL (hin8.kept J6) (ha8.kept J6) la47 la47).mono ?_
          rintro e X7 ⟨rfl, j7⟩
          rw [sameB_rfl]
          have J7 := J6.trans j7
          have O1 := Lib.hid (o1.kept J7)
          have O3 := Lib.hid (o3.kept J7)
          have O5 := Lib.hid (o5.kept J7)
          have O7 := Lib.hid (o7.kept J7)
          have OG7 := Lib.hid (og8.kept J7)
          have KX := K8.trans J7
          clear b1' b2' b3' b4' b5' b6' b7' hb8 o1 o3 o5 o7 og8 hin8 hal8 ha8 hb8a j1 j2 j3 j4 j5 j6 j7 J2 J3 J4 J5 J6 J7 K8
          go_wp2_with fail
          go_loopw [190] (fun i wr => ∃ j : Nat, j ≤ gl.length ∧ i = .int .i64 j ∧ Kept (fun k => WC.heap.size ≤ k) X7 wr ∧ Hid (Spared X7 wr)) (fun i _ => gl.length - (intOf i).toNat)
          case atStart => exact ⟨0, by omega, rfl, Kept.refl _ _, Spared.refl _⟩
          case round =>
            obtain ⟨j, hj, rfl, hjr, HJ⟩ := hrel
            have HJR := Lib.hid hjr
            clear hjr
            by_cases hjl : j < gl.length
            · have S := HJ.out
              obtain ⟨gb, cb, C, u, hxe, hbb, hgb2, hcu, hfz⟩ := (S.by' _ _ _ OG7.out).at' hjl
              obtain ⟨u2, hu2⟩ := u8_next u
              injection hxe with hxe _ hxc
              subst hxe
              have sp : Spared wr (wr.setCell ⟨gb, j, none⟩ (.int .u8 u2.toNat)) := Spared.poke hgb2 u2
              have kp : Kept (fun k => WC.heap.size ≤ k) wr (wr.setCell ⟨gb, j, none⟩ (.int .u8 u2.toNat)) := (Kept.refl (fun k => WC.heap.size ≤ k) wr).setCell (p := ⟨gb, j, none⟩) (fun _ => hbb) _
              have HS2 : Hid (Spared X7 (wr.setCell ⟨gb, j, none⟩ (.int .u8 u2.toNat))) := HJ.out.trans sp
              have HK2 := Lib.hid (HJR.out.trans kp)
              clear S sp kp hgb2
              first
                | (go_wp2_with fail; done)
                | (go_wp2_with fail
                   go_roundw
                   case rel => exact ⟨j + 1, by omega, by go_num, HK2.out, HS2⟩
                   case measure => simp [intOf]; omega)
            · obtain rfl : j = gl.length := by omega
              have bs := bslice_t4 b1 b3 b5 b7 L1.length L3.length L5.length L7.length c1 c3 c5 c7 wr
              have hgB := heap_last wr (.cells #[.slice b1 L1.length c1, .slice b3 L3.length c3, .slice b5 L5.length c5, .slice b7 L7.length c7] 27)
              have kA : Kept (fun _ => False) wr (wr.alloc (.cells #[.slice b1 L1.length c1, .slice b3 L3.length c3, .slice b5 L5.length c5, .slice b7 L7.length c7] 27)) := (Kept.refl _ wr).alloc _
              generalize wr.alloc (.cells #[.slice b1 L1.length c1, .slice b3 L3.length c3, .slice b5 L5.length c5, .slice b7 L7.length c7] 27) = Y0 at bs hgB kA
              generalize wr.heap.size = BB at bs hgB
              have SP0 := Lib.hid (HJ.out.trans (Spared.of_kept kA))
              have KE0 := Lib.hid (HJR.out.trans (kA.mono (T := fun k => WC.heap.size ≤ k) (fun _ _ q => q.elim)))
              have hcell : ∀ w', Spared Y0 w' → w'.heap[BB]? = some (.cells #[.slice b1 L1.length c1, .slice b3 L3.length c3, .slice b5 L5.length c5, .slice b7 L7.length c7] 27 (0, 0)) := fun w' q => q.other BB _ _ _ hgB (by decide)
              have e0 : Y0.cell? ⟨BB, 0, none⟩ = some (.slice b1 L1.length c1) := by rw [cell_of_row _ _ _ _ _ _ hgB]; rfl
              have HC := Lib.hid hcell
              clear hcell hgB
              go_wp2_with (first
                | (with_reducible refine wpl_bslice 50 _ _ rfl rfl ?_ bs ?_
                   · (go_simp <;> rfl)
                   simp only [Act.put, List.getElem_toArray, List.getElem_cons_zero, List.getElem_cons_succ, List.setIfInBounds_toArray, List.set_cons_zero, List.set_cons_succ]))
              clear bs
              refine wp_loop_rounds 5 ?_
              rw [rounds_succ]
              go_wp2_with fail
              refine (spoil_ct (SP0.out.tree _ _ _ O1.out) (by omega)).mono ?_
              rintro e Y1 ⟨rfl, ke1, sp1⟩
              have SP1 := Lib.hid sp1
              have KE1 := Lib.hid (KE0.out.trans ke1)
              have e1 : Y1.cell? ⟨BB, 1, none⟩ = some (.slice b3 L3.length c3) := by rw [cell_of_row _ _ _ _ _ _ (HC.out _ sp1)]; rfl
              clear ke1 sp1 e0
              go_wp2_with fail
              rw [rounds_succ]
              go_wp2_with fail
              refine (spoil_ct ((SP0.out.trans SP1.out).tree _ _ _ O3.out) (by omega)).mono ?_
              rintro e Y2 ⟨rfl, ke2, sp2⟩
              have SP2 := Lib.hid (SP1.out.trans sp2)
              have KE2 := Lib.hid (KE1.out.trans ke2)
              have e2 : Y2.cell? ⟨BB, 2, none⟩ = some (.slice b5 L5.length c5) := by rw [cell_of_row _ _ _ _ _ _ (HC.out _ SP2.out)]; rfl
              clear ke2 sp2 e1
              go_wp2_with fail
              rw [rounds_succ]
              go_wp2_with fail
              refine (spoil_ct ((SP0.out.trans SP2.out).tree _ _ _ O5.out) (by omega)).mono ?_
              rintro e Y3 ⟨rfl, ke3, sp3⟩
              have SP3 := Lib.hid (SP2.out.trans sp3)
              have KE3 := Lib.hid (KE2.out.trans ke3)
              have e3 : Y3.cell? ⟨BB, 3, none⟩ = some (.slice b7 L7.length c7) := by rw [cell_of_row _ _ _ _ _ _ (HC.out _ SP3.out)]; rfl
              clear ke3 sp3 e2
              go_wp2_with fail
              rw [rounds_succ]
              go_wp2_with fail
              refine (spoil_ct ((SP0.out.trans SP3.out).tree _ _ _ O7.out) (by omega)).mono ?_
              rintro e Y4 ⟨rfl, ke4, sp4⟩
              have KF := KX.trans' (KE3.out.trans ke4) (fun k hk q => by omega)
              clear ke4 sp4 e3
              go_wp2_with fail
              rw [rounds_succ]
              go_wp2_with fail
              refine (rSame_ct (hin.kept KF) (ha.kept (KC.trans KF))).mono ?_
              rintro e Y5 ⟨rfl, kz5⟩
              rw [sameB_rfl]
              go_wp2_with fail
              refine (rSame_ct (hal.kept (KF.trans kz5)) (hb.kept ((KC.trans KF).trans kz5))).mono ?_
              rintro e Y6 ⟨rfl, kz6⟩
              rw [sameB_rfl]
              go_wp2_with fail
              refine (known_ct _).mono ?_
              rintro e W9 ⟨rfl, k9⟩
              go_wp2_with fail
              go_ret
              exact ⟨rfl, (((KC.trans KF).trans kz5).trans kz6).trans k9⟩
end Go.Proofs.Ytehpaddddiigbaa
