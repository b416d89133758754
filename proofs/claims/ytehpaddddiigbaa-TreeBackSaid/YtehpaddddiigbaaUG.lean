/- TreeBack's walk. -/
import Derived.Test.YtehpaddddiigbaaUF
namespace Go.Proofs.Ytehpaddddiigbaa
open Go.RowKit
set_option linter.unusedSimpArgs false
set_option linter.unusedVariables false

set_option maxRecDepth 100000 in
set_option maxHeartbeats 4000000 in
theorem back_law {w : World} {v x : Value} {l : List FileE} (h : TreeAt w v l) (d s : ByteArray) (hd : d.size ≤ maxLen) (hs : s.size ≤ maxLen) {bx : List UInt8} (hx : ByAt w x bx) :
    Calls Try.prog 6 #[v, .string d, .string s, x] w fun e w' => e = .returned (.bool true) ∧ Kept (fun _ => False) w w' := by
  have hml2 : l.length ≤ maxLen := by obtain ⟨_, _, _, h2, _⟩ := h; exact h2
  have hxl : bx.length ≤ maxLen := by obtain ⟨_, _, _, h2, _⟩ := hx; exact h2
  have hd2 := hd
  have hs2 := hs
  simp only [maxLen] at hml2 hxl hd2 hs2
  obtain ⟨a, c, hv⟩ := h.slc
  subst hv
  obtain ⟨ax, cx, hvx⟩ := hx.slc
  subst hvx
  by_cases h1 : 1000 < d.size
  · have d1 : decide ((1000 : Int) < (d.size : Int)) = true := decide_eq_true (by omega)
    go_enter Try.func6, Try.ntmps6
    go_wp2_with fail
    refine (great_ct h).mono ?_
    rintro e W ⟨⟨g, rfl⟩, k1⟩
    cases g with
    | true =>
      go_wp2_with fail
      refine (known_ct _).mono ?_
      rintro e W9 ⟨rfl, k9⟩
      go_wp2_with fail
      go_ret
      exact ⟨rfl, (k1).trans k9⟩
    | false =>
      go_wp2_with fail
      refine (known_ct _).mono ?_
      rintro e W9 ⟨rfl, k9⟩
      go_wp2_with fail
      go_ret
      exact ⟨rfl, (k1).trans k9⟩
  have d1 : decide ((1000 : Int) < (d.size : Int)) = false := decide_eq_false (by omega)
  by_cases h2 : 1000 < s.size
  · have d2 : decide ((1000 : Int) < (s.size : Int)) = true := decide_eq_true (by omega)
    go_enter Try.func6, Try.ntmps6
    go_wp2_with fail
    refine (great_ct h).mono ?_
    rintro e W ⟨⟨g, rfl⟩, k1⟩
    cases g with
    | true =>
      go_wp2_with fail
      refine (known_ct _).mono ?_
      rintro e W9 ⟨rfl, k9⟩
      go_wp2_with fail
      go_ret
      exact ⟨rfl, (k1).trans k9⟩
    | false =>
      go_wp2_with fail
      refine (known_ct _).mono ?_
      rintro e W9 ⟨rfl, k9⟩
      go_wp2_with fail
      go_ret
      exact ⟨rfl, (k1).trans k9⟩
  have d2 : decide ((1000 : Int) < (s.size : Int)) = false := decide_eq_false (by omega)
  by_cases h3 : 3000 < bx.length
  · have d3 : decide ((3000 : Int) < (bx.length : Int)) = true := decide_eq_true (by omega)
    go_enter Try.func6, Try.ntmps6
    go_wp2_with fail
    refine (great_ct h).mono ?_
    rintro e W ⟨⟨g, rfl⟩, k1⟩
    cases g with
    | true =>
      go_wp2_with fail
      refine (known_ct _).mono ?_
      rintro e W9 ⟨rfl, k9⟩
      go_wp2_with fail
      go_ret
      exact ⟨rfl, (k1).trans k9⟩
    | false =>
      go_wp2_with fail
      refine (known_ct _).mono ?_
      rintro e W9 ⟨rfl, k9⟩
      go_wp2_with fail
      go_ret
      exact ⟨rfl, (k1).trans k9⟩
  have d3 : decide ((3000 : Int) < (bx.length : Int)) = false := decide_eq_false (by omega)
  go_enter Try.func6, Try.ntmps6
  go_wp2_with fail
  refine (great_ct h).mono ?_
  rintro e W ⟨⟨g, rfl⟩, k1⟩
  cases g with
  | true =>
    go_wp2_with fail
    refine (known_ct _).mono ?_
    rintro e W9 ⟨rfl, k9⟩
    go_wp2_with fail
    go_ret
    exact ⟨rfl, (k1).trans k9⟩
  | false =>
    go_wp2_with fail
    refine (under_any (h.kept k1) d hd).mono ?_
    rintro e W2 ⟨hu, k2⟩
    rcases hu with ⟨hn, rfl⟩ | ⟨hn, hm2, rfl⟩ | ⟨hn, hm2, v2, rfl, h2'⟩
    · go_wp2_with fail
      refine (with_ct (h.kept (k1.trans k2)) s hs (hx.kept (k1.trans k2))).mono ?_
      rintro e W4 ⟨hw, k4⟩
      rcases hw with ⟨_, rfl⟩ | ⟨_, _, rfl⟩ | ⟨hn4, hm4, v4, rfl, h4⟩
      · go_wp2_with fail
        refine (known_ct _).mono ?_
        rintro e W9 ⟨rfl, k9⟩
        go_wp2_with fail
        go_ret
        exact ⟨rfl, ((k1.trans k2).trans k4).trans k9⟩
      · go_wp2_with fail
        refine (known_ct _).mono ?_
        rintro e W9 ⟨rfl, k9⟩
        go_wp2_with fail
        go_ret
        exact ⟨rfl, ((k1.trans k2).trans k4).trans k9⟩
      · have hkp := fun (f : FileE) (h1 : f ∈ l) h2 => with_keeps (l := l) (s := s) (b := bx) h1 h2
        have hus := with_has l s bx
        have hul := with_len l s bx
        generalize withL l s bx = u at *
        have hul63 : u.length ≤ maxLen := by obtain ⟨_, _, _, h2, _⟩ := h4; exact h2
        simp only [maxLen] at hul63
        have K4 := (k1.trans k2).trans k4
        have hml : mayB l = true := by rw [Bool.and_eq_true] at hn4; exact hn4.1
        obtain ⟨a4, c4, hv4⟩ := h4.slc
        subst hv4
        have HKP := Lib.hid hkp
        have HUL := Lib.hid hul
        clear hkp hul hn4
        go_wp2_with fail
        refine (get_ct h4 s).mono ?_
        rintro e W5 ⟨hg, k5⟩
        obtain ⟨v5, rfl, h5⟩ := get_is hg hm4 hus rfl
        clear hg
        obtain ⟨a5, c5, hv5⟩ := h5.slc
        subst hv5
        have K5 := K4.trans k5
        have cv5 := conv_str h5
        have cvx := conv_str (hx.kept K5)
        have ebx : (bx == bx) = true := by simp
        have nbx : (bx != bx) = false := by simp
        have m5 := may_ct (h4.kept k5)
        rw [hm4] at m5
        go_wp2_with fail
        refine m5.mono ?_
        rintro e W6 ⟨rfl, k6⟩
        have K6 := K5.trans k6
        have h46 := h4.kept (k5.trans k6)
        clear cv5 cvx m5 h4 h5
        go_wp2_with fail
        go_loopw [86] (fun i wr => ∃ k : Nat, k ≤ l.length ∧ i = .int .i64 k ∧ Kept (fun _ => False) W6 wr) (fun i _ => l.length - (intOf i).toNat)
        case atStart => exact ⟨0, by omega, rfl, Kept.refl _ _⟩
        case round =>
          obtain ⟨k, hk, rfl, hkr⟩ := hrel
          have hKr := K6.trans hkr
          by_cases hlt : k < l.length
          · have hfa : l[k]? = some l[k] := List.getElem?_eq_getElem hlt
            generalize l[k] = f at hfa
            obtain ⟨_, b1, o1, y, rfl, hbl, hrx, hB⟩ := (h.kept hKr).file hfa
            obtain ⟨a3, c3, rfl⟩ := hB.slc
            have q0 : wr.cell? ⟨b1, o1 + k * 2, none⟩ = some (.string f.path) := hrx 0 _ rfl
            have hff := ((mayIs hml).file f (List.mem_of_getElem? hfa)).2.1
            have HFA := Lib.hid hfa
            clear hfa
            generalize hpe : (f.path.toList == s.toList) = pe
            cases pe with
            | true =>
              go_wp2_with fail
              go_roundw
              case rel => exact ⟨k + 1, by omega, by go_num, hkr⟩
              case measure => simp [intOf]; omega
            | false =>
              go_wp2_with fail
              refine (get_ct (h46.kept hkr) f.path).mono ?_
              rintro e W7 ⟨hg, k7⟩
              obtain ⟨v7, rfl, h7⟩ := get_is hg hm4 (HKP.out f (List.mem_of_getElem? HFA.out) (fun e => by rw [e] at hpe; simp at hpe)) rfl
              clear hg
              obtain ⟨a7, c7, hv7⟩ := h7.slc
              subst hv7
              have q1 : ∀ w', Kept (fun _ => False) W7 w' → w'.cell? ⟨b1, o1 + k * 2 + 1, none⟩ = some (.slice a3 f.bytes.length c3) := fun w' q => ((k7.trans q).cell (p := ⟨b1, o1 + k * 2 + 1, none⟩) hbl not_false).trans (hrx 1 _ rfl)
              have cv1 := fun w' (q : Kept (fun _ => False) W7 w') => conv_str (h7.kept q)
              have cv2 := fun w' (q : Kept (fun _ => False) W7 w') => conv_str (hB.kept (k7.trans q))
              have nfb : (f.bytes != f.bytes) = false := by simp
              clear hrx hB
              go_wp2_with fail
              refine wp_region_held_drew (S := (Kept (fun _ => False) W7)) (by kernel_rfl) ((Kept.refl _ W7).drew) (fun hHeld => ?_)
              refine held_q (v := ?_) (i := 0) rfl (by kernel_rfl) (by kernel_rfl) (by kernel_rfl) (fun _ _ _ h => h) (by rfl) hHeld ?_ ?_
              rotate_left
              · (intro w' hS'; go_simp <;> (with_reducible rfl))
              simp only [Act.put, List.getElem_toArray, List.getElem_cons_zero, List.getElem_cons_succ, List.setIfInBounds_toArray, List.set_cons_zero, List.set_cons_succ]
              refine held_q (v := ?_) (i := 1) rfl (by kernel_rfl) (by kernel_rfl) (by kernel_rfl) (fun _ _ _ h => h) (by rfl) hHeld ?_ ?_
              rotate_left
              · (intro w' hS'; go_simp <;> (with_reducible rfl))
              simp only [Act.put, List.getElem_toArray, List.getElem_cons_zero, List.getElem_cons_succ, List.setIfInBounds_toArray, List.set_cons_zero, List.set_cons_succ]
              refine held_q (v := ?_) (i := 2) rfl (by kernel_rfl) (by kernel_rfl) (by kernel_rfl) (fun _ _ _ h => h) (by rfl) hHeld ?_ ?_
              rotate_left
              · (intro w' hS'; go_simp <;> (with_reducible rfl))
              simp only [Act.put, List.getElem_toArray, List.getElem_cons_zero, List.getElem_cons_succ, List.setIfInBounds_toArray, List.set_cons_zero, List.set_cons_succ]
              refine held_q (v := ?_) (i := 3) rfl (by kernel_rfl) (by kernel_rfl) (by kernel_rfl) (fun _ _ _ h => h) (by rfl) hHeld ?_ ?_
              rotate_left
              · (intro w' hS'; go_simp <;> (with_reducible rfl))
              simp only [Act.put, List.getElem_toArray, List.getElem_cons_zero, List.getElem_cons_succ, List.setIfInBounds_toArray, List.set_cons_zero, List.set_cons_succ]
              refine held_q (i := 4) rfl (by kernel_rfl) (by kernel_rfl) (by kernel_rfl) (fun _ _ _ h => h) (by rfl) hHeld (fun w' hS' => exec_conv 25 9 _ rfl rfl (cv1 w' hS')) ?_
              simp only [Act.put, List.getElem_toArray, List.getElem_cons_zero, List.getElem_cons_succ, List.setIfInBounds_toArray, List.set_cons_zero, List.set_cons_succ]
              refine held_q (v := ?_) (i := 5) rfl (by kernel_rfl) (by kernel_rfl) (by kernel_rfl) (fun _ _ _ h => h) (by rfl) hHeld ?_ ?_
              rotate_left
              · (intro w' hS'; go_simp <;> (with_reducible rfl))
              simp only [Act.put, List.getElem_toArray, List.getElem_cons_zero, List.getElem_cons_succ, List.setIfInBounds_toArray, List.set_cons_zero, List.set_cons_succ]
              refine held_q (v := ?_) (i := 6) rfl (by kernel_rfl) (by kernel_rfl) (by kernel_rfl) (fun _ _ _ h => h) (by rfl) hHeld ?_ ?_
              rotate_left
              · (intro w' hS'; go_simp <;> (with_reducible rfl))
              simp only [Act.put, List.getElem_toArray, List.getElem_cons_zero, List.getElem_cons_succ, List.setIfInBounds_toArray, List.set_cons_zero, List.set_cons_succ]
              refine held_q (v := ?_) (i := 7) rfl (by kernel_rfl) (by kernel_rfl) (by kernel_rfl) (fun _ _ _ h => h) (by rfl) hHeld ?_ ?_
              rotate_left
              · (intro w' hS'; go_simp <;> (with_reducible rfl))
              simp only [Act.put, List.getElem_toArray, List.getElem_cons_zero, List.getElem_cons_succ, List.setIfInBounds_toArray, List.set_cons_zero, List.set_cons_succ]
              refine held_q (v := ?_) (i := 8) rfl (by kernel_rfl) (by kernel_rfl) (by kernel_rfl) (fun _ _ _ h => h) (by rfl) hHeld ?_ ?_
              rotate_left
              · (intro w' hS'; go_simp <;> (with_reducible rfl))
              simp only [Act.put, List.getElem_toArray, List.getElem_cons_zero, List.getElem_cons_succ, List.setIfInBounds_toArray, List.set_cons_zero, List.set_cons_succ]
              refine held_q (v := ?_) (i := 9) rfl (by kernel_rfl) (by kernel_rfl) (by kernel_rfl) (fun _ _ _ h => h) (by rfl) hHeld ?_ ?_
              rotate_left
              · (intro w' hS'; go_simp <;> (with_reducible rfl))
              simp only [Act.put, List.getElem_toArray, List.getElem_cons_zero, List.getElem_cons_succ, List.setIfInBounds_toArray, List.set_cons_zero, List.set_cons_succ]
              refine held_q (i := 10) rfl (by kernel_rfl) (by kernel_rfl) (by kernel_rfl) (fun _ _ _ h => h) (by rfl) hHeld (fun w' hS' => exec_conv 25 9 _ rfl rfl (cv2 w' hS')) ?_
              simp only [Act.put, List.getElem_toArray, List.getElem_cons_zero, List.getElem_cons_succ, List.setIfInBounds_toArray, List.set_cons_zero, List.set_cons_succ]
              refine held_q (v := ?_) (i := 11) rfl (by kernel_rfl) (by kernel_rfl) (by kernel_rfl) (fun _ _ _ h => h) (by rfl) hHeld ?_ ?_
              rotate_left
              · (intro w' hS'; go_simp <;> (with_reducible rfl))
              simp only [Act.put, List.getElem_toArray, List.getElem_cons_zero, List.getElem_cons_succ, List.setIfInBounds_toArray, List.set_cons_zero, List.set_cons_succ]
              refine held_q (v := ?_) (i := 12) rfl (by kernel_rfl) (by kernel_rfl) (by kernel_rfl) (fun _ _ _ h => h) (by rfl) hHeld ?_ ?_
              rotate_left
              · (intro w' hS'; go_simp <;> (with_reducible rfl))
              simp only [Act.put, List.getElem_toArray, List.getElem_cons_zero, List.getElem_cons_succ, List.setIfInBounds_toArray, List.set_cons_zero, List.set_cons_succ]
              refine wpAnyH_done (by kernel_rfl) ?_ _
              go_wp2_with fail
              go_roundw
              case rel => exact ⟨k + 1, by omega, by go_num, (hkr.trans k7).trans hHeld⟩
              case measure => simp [intOf]; omega
          · obtain rfl : k = l.length := by omega
            go_wp2_with fail
            refine (get_ct (h.kept hKr) s).mono ?_
            rintro e W8 ⟨hg, k8⟩
            obtain ⟨a8, n8, c8, rfl⟩ := get_form hg
            rw [hml]
            have hul := HUL.out
            generalize thereB l s = th at *
            have eul : ((u.length : Int) == (l.length : Int)) = th := by
              rw [hul]
              cases th with
              | true => simp
              | false => simp; omega
            clear hg hul HUL HKP
            cases th with
            | true =>
              go_wp2_with fail
              refine (known_ct _).mono ?_
              rintro e W9 ⟨rfl, k9⟩
              go_wp2_with fail
              go_ret
              exact ⟨rfl, (hKr.trans k8).trans k9⟩
            | false =>
              go_wp2_with fail
              refine (known_ct _).mono ?_
              rintro e W9 ⟨rfl, k9⟩
              go_wp2_with fail
              go_ret
              exact ⟨rfl, (hKr.trans k8).trans k9⟩
    · go_wp2_with fail
      refine (with_ct (h.kept (k1.trans k2)) s hs (hx.kept (k1.trans k2))).mono ?_
      rintro e W4 ⟨hw, k4⟩
      rcases hw with ⟨_, rfl⟩ | ⟨_, _, rfl⟩ | ⟨hn4, hm4, v4, rfl, h4⟩
      · go_wp2_with fail
        refine (known_ct _).mono ?_
        rintro e W9 ⟨rfl, k9⟩
        go_wp2_with fail
        go_ret
        exact ⟨rfl, ((k1.trans k2).trans k4).trans k9⟩
      · go_wp2_with fail
        refine (known_ct _).mono ?_
        rintro e W9 ⟨rfl, k9⟩
        go_wp2_with fail
        go_ret
        exact ⟨rfl, ((k1.trans k2).trans k4).trans k9⟩
      · have hkp := fun (f : FileE) (h1 : f ∈ l) h2 => with_keeps (l := l) (s := s) (b := bx) h1 h2
        have hus := with_has l s bx
        have hul := with_len l s bx
        generalize withL l s bx = u at *
        have hul63 : u.length ≤ maxLen := by obtain ⟨_, _, _, h2, _⟩ := h4; exact h2
        simp only [maxLen] at hul63
        have K4 := (k1.trans k2).trans k4
        have hml : mayB l = true := by rw [Bool.and_eq_true] at hn4; exact hn4.1
        obtain ⟨a4, c4, hv4⟩ := h4.slc
        subst hv4
        have HKP := Lib.hid hkp
        have HUL := Lib.hid hul
        clear hkp hul hn4
        go_wp2_with fail
        refine (get_ct h4 s).mono ?_
        rintro e W5 ⟨hg, k5⟩
        obtain ⟨v5, rfl, h5⟩ := get_is hg hm4 hus rfl
        clear hg
        obtain ⟨a5, c5, hv5⟩ := h5.slc
        subst hv5
        have K5 := K4.trans k5
        have cv5 := conv_str h5
        have cvx := conv_str (hx.kept K5)
        have ebx : (bx == bx) = true := by simp
        have nbx : (bx != bx) = false := by simp
        have m5 := may_ct (h4.kept k5)
        rw [hm4] at m5
        go_wp2_with fail
        refine m5.mono ?_
        rintro e W6 ⟨rfl, k6⟩
        have K6 := K5.trans k6
        have h46 := h4.kept (k5.trans k6)
        clear cv5 cvx m5 h4 h5
        go_wp2_with fail
        go_loopw [86] (fun i wr => ∃ k : Nat, k ≤ l.length ∧ i = .int .i64 k ∧ Kept (fun _ => False) W6 wr) (fun i _ => l.length - (intOf i).toNat)
        case atStart => exact ⟨0, by omega, rfl, Kept.refl _ _⟩
        case round =>
          obtain ⟨k, hk, rfl, hkr⟩ := hrel
          have hKr := K6.trans hkr
          by_cases hlt : k < l.length
          · have hfa : l[k]? = some l[k] := List.getElem?_eq_getElem hlt
            generalize l[k] = f at hfa
            obtain ⟨_, b1, o1, y, rfl, hbl, hrx, hB⟩ := (h.kept hKr).file hfa
            obtain ⟨a3, c3, rfl⟩ := hB.slc
            have q0 : wr.cell? ⟨b1, o1 + k * 2, none⟩ = some (.string f.path) := hrx 0 _ rfl
            have hff := ((mayIs hml).file f (List.mem_of_getElem? hfa)).2.1
            have HFA := Lib.hid hfa
            clear hfa
            generalize hpe : (f.path.toList == s.toList) = pe
            cases pe with
            | true =>
              go_wp2_with fail
              go_roundw
              case rel => exact ⟨k + 1, by omega, by go_num, hkr⟩
              case measure => simp [intOf]; omega
            | false =>
              go_wp2_with fail
              refine (get_ct (h46.kept hkr) f.path).mono ?_
              rintro e W7 ⟨hg, k7⟩
              obtain ⟨v7, rfl, h7⟩ := get_is hg hm4 (HKP.out f (List.mem_of_getElem? HFA.out) (fun e => by rw [e] at hpe; simp at hpe)) rfl
              clear hg
              obtain ⟨a7, c7, hv7⟩ := h7.slc
              subst hv7
              have q1 : ∀ w', Kept (fun _ => False) W7 w' → w'.cell? ⟨b1, o1 + k * 2 + 1, none⟩ = some (.slice a3 f.bytes.length c3) := fun w' q => ((k7.trans q).cell (p := ⟨b1, o1 + k * 2 + 1, none⟩) hbl not_false).trans (hrx 1 _ rfl)
              have cv1 := fun w' (q : Kept (fun _ => False) W7 w') => conv_str (h7.kept q)
              have cv2 := fun w' (q : Kept (fun _ => False) W7 w') => conv_str (hB.kept (k7.trans q))
              have nfb : (f.bytes != f.bytes) = false := by simp
              clear hrx hB
              go_wp2_with fail
              refine wp_region_held_drew (S := (Kept (fun _ => False) W7)) (by kernel_rfl) ((Kept.refl _ W7).drew) (fun hHeld => ?_)
              refine held_q (v := ?_) (i := 0) rfl (by kernel_rfl) (by kernel_rfl) (by kernel_rfl) (fun _ _ _ h => h) (by rfl) hHeld ?_ ?_
              rotate_left
              · (intro w' hS'; go_simp <;> (with_reducible rfl))
              simp only [Act.put, List.getElem_toArray, List.getElem_cons_zero, List.getElem_cons_succ, List.setIfInBounds_toArray, List.set_cons_zero, List.set_cons_succ]
              refine held_q (v := ?_) (i := 1) rfl (by kernel_rfl) (by kernel_rfl) (by kernel_rfl) (fun _ _ _ h => h) (by rfl) hHeld ?_ ?_
              rotate_left
              · (intro w' hS'; go_simp <;> (with_reducible rfl))
              simp only [Act.put, List.getElem_toArray, List.getElem_cons_zero, List.getElem_cons_succ, List.setIfInBounds_toArray, List.set_cons_zero, List.set_cons_succ]
              refine held_q (v := ?_) (i := 2) rfl (by kernel_rfl) (by kernel_rfl) (by kernel_rfl) (fun _ _ _ h => h) (by rfl) hHeld ?_ ?_
              rotate_left
              · (intro w' hS'; go_simp <;> (with_reducible rfl))
              simp only [Act.put, List.getElem_toArray, List.getElem_cons_zero, List.getElem_cons_succ, List.setIfInBounds_toArray, List.set_cons_zero, List.set_cons_succ]
              refine held_q (v := ?_) (i := 3) rfl (by kernel_rfl) (by kernel_rfl) (by kernel_rfl) (fun _ _ _ h => h) (by rfl) hHeld ?_ ?_
              rotate_left
              · (intro w' hS'; go_simp <;> (with_reducible rfl))
              simp only [Act.put, List.getElem_toArray, List.getElem_cons_zero, List.getElem_cons_succ, List.setIfInBounds_toArray, List.set_cons_zero, List.set_cons_succ]
              refine held_q (i := 4) rfl (by kernel_rfl) (by kernel_rfl) (by kernel_rfl) (fun _ _ _ h => h) (by rfl) hHeld (fun w' hS' => exec_conv 25 9 _ rfl rfl (cv1 w' hS')) ?_
              simp only [Act.put, List.getElem_toArray, List.getElem_cons_zero, List.getElem_cons_succ, List.setIfInBounds_toArray, List.set_cons_zero, List.set_cons_succ]
              refine held_q (v := ?_) (i := 5) rfl (by kernel_rfl) (by kernel_rfl) (by kernel_rfl) (fun _ _ _ h => h) (by rfl) hHeld ?_ ?_
              rotate_left
              · (intro w' hS'; go_simp <;> (with_reducible rfl))
              simp only [Act.put, List.getElem_toArray, List.getElem_cons_zero, List.getElem_cons_succ, List.setIfInBounds_toArray, List.set_cons_zero, List.set_cons_succ]
              refine held_q (v := ?_) (i := 6) rfl (by kernel_rfl) (by kernel_rfl) (by kernel_rfl) (fun _ _ _ h => h) (by rfl) hHeld ?_ ?_
              rotate_left
              · (intro w' hS'; go_simp <;> (with_reducible rfl))
              simp only [Act.put, List.getElem_toArray, List.getElem_cons_zero, List.getElem_cons_succ, List.setIfInBounds_toArray, List.set_cons_zero, List.set_cons_succ]
              refine held_q (v := ?_) (i := 7) rfl (by kernel_rfl) (by kernel_rfl) (by kernel_rfl) (fun _ _ _ h => h) (by rfl) hHeld ?_ ?_
              rotate_left
              · (intro w' hS'; go_simp <;> (with_reducible rfl))
              simp only [Act.put, List.getElem_toArray, List.getElem_cons_zero, List.getElem_cons_succ, List.setIfInBounds_toArray, List.set_cons_zero, List.set_cons_succ]
              refine held_q (v := ?_) (i := 8) rfl (by kernel_rfl) (by kernel_rfl) (by kernel_rfl) (fun _ _ _ h => h) (by rfl) hHeld ?_ ?_
              rotate_left
              · (intro w' hS'; go_simp <;> (with_reducible rfl))
              simp only [Act.put, List.getElem_toArray, List.getElem_cons_zero, List.getElem_cons_succ, List.setIfInBounds_toArray, List.set_cons_zero, List.set_cons_succ]
              refine held_q (v := ?_) (i := 9) rfl (by kernel_rfl) (by kernel_rfl) (by kernel_rfl) (fun _ _ _ h => h) (by rfl) hHeld ?_ ?_
              rotate_left
              · (intro w' hS'; go_simp <;> (with_reducible rfl))
              simp only [Act.put, List.getElem_toArray, List.getElem_cons_zero, List.getElem_cons_succ, List.setIfInBounds_toArray, List.set_cons_zero, List.set_cons_succ]
              refine held_q (i := 10) rfl (by kernel_rfl) (by kernel_rfl) (by kernel_rfl) (fun _ _ _ h => h) (by rfl) hHeld (fun w' hS' => exec_conv 25 9 _ rfl rfl (cv2 w' hS')) ?_
              simp only [Act.put, List.getElem_toArray, List.getElem_cons_zero, List.getElem_cons_succ, List.setIfInBounds_toArray, List.set_cons_zero, List.set_cons_succ]
              refine held_q (v := ?_) (i := 11) rfl (by kernel_rfl) (by kernel_rfl) (by kernel_rfl) (fun _ _ _ h => h) (by rfl) hHeld ?_ ?_
              rotate_left
              · (intro w' hS'; go_simp <;> (with_reducible rfl))
              simp only [Act.put, List.getElem_toArray, List.getElem_cons_zero, List.getElem_cons_succ, List.setIfInBounds_toArray, List.set_cons_zero, List.set_cons_succ]
              refine held_q (v := ?_) (i := 12) rfl (by kernel_rfl) (by kernel_rfl) (by kernel_rfl) (fun _ _ _ h => h) (by rfl) hHeld ?_ ?_
              rotate_left
              · (intro w' hS'; go_simp <;> (with_reducible rfl))
              simp only [Act.put, List.getElem_toArray, List.getElem_cons_zero, List.getElem_cons_succ, List.setIfInBounds_toArray, List.set_cons_zero, List.set_cons_succ]
              refine wpAnyH_done (by kernel_rfl) ?_ _
              go_wp2_with fail
              go_roundw
              case rel => exact ⟨k + 1, by omega, by go_num, (hkr.trans k7).trans hHeld⟩
              case measure => simp [intOf]; omega
          · obtain rfl : k = l.length := by omega
            go_wp2_with fail
            refine (get_ct (h.kept hKr) s).mono ?_
            rintro e W8 ⟨hg, k8⟩
            obtain ⟨a8, n8, c8, rfl⟩ := get_form hg
            rw [hml]
            have hul := HUL.out
            generalize thereB l s = th at *
            have eul : ((u.length : Int) == (l.length : Int)) = th := by
              rw [hul]
              cases th with
              | true => simp
              | false => simp; omega
            clear hg hul HUL HKP
            cases th with
            | true =>
              go_wp2_with fail
              refine (known_ct _).mono ?_
              rintro e W9 ⟨rfl, k9⟩
              go_wp2_with fail
              go_ret
              exact ⟨rfl, (hKr.trans k8).trans k9⟩
            | false =>
              go_wp2_with fail
              refine (known_ct _).mono ?_
              rintro e W9 ⟨rfl, k9⟩
              go_wp2_with fail
              go_ret
              exact ⟨rfl, (hKr.trans k8).trans k9⟩
    · obtain ⟨a2, c2, hv2⟩ := h2'.slc
      subst hv2
      rw [List.length_map] at h2'
      have hn2 := hn
      rw [Bool.and_eq_true] at hn2
      go_wp2_with fail
      refine (below_ct h2' hm2 hn2.2).mono ?_
      rintro e W3 ⟨v3, rfl, h3', k3⟩
      rw [below_up] at h3'
      have K3 := (k1.trans k2).trans k3
      obtain ⟨a3', c3', hv3⟩ := h3'.slc
      subst hv3
      have hl16 := (mayIs hn2.1).len
      have sc := same_ct h3' (h.kept K3) (by omega) (by omega)
      rw [sameB_rfl] at sc
      go_wp2_with fail
      refine sc.mono ?_
      rintro e W35 ⟨rfl, k35⟩
      have K35 := K3.trans k35
      clear h2' h3' sc
      go_wp2_with fail
      refine (with_ct (h.kept (K35)) s hs (hx.kept (K35))).mono ?_
      rintro e W4 ⟨hw, k4⟩
      rcases hw with ⟨_, rfl⟩ | ⟨_, _, rfl⟩ | ⟨hn4, hm4, v4, rfl, h4⟩
      · go_wp2_with fail
        refine (known_ct _).mono ?_
        rintro e W9 ⟨rfl, k9⟩
        go_wp2_with fail
        go_ret
        exact ⟨rfl, ((K35).trans k4).trans k9⟩
      · go_wp2_with fail
        refine (known_ct _).mono ?_
        rintro e W9 ⟨rfl, k9⟩
        go_wp2_with fail
        go_ret
        exact ⟨rfl, ((K35).trans k4).trans k9⟩
      · have hkp := fun (f : FileE) (h1 : f ∈ l) h2 => with_keeps (l := l) (s := s) (b := bx) h1 h2
        have hus := with_has l s bx
        have hul := with_len l s bx
        generalize withL l s bx = u at *
        have hul63 : u.length ≤ maxLen := by obtain ⟨_, _, _, h2, _⟩ := h4; exact h2
        simp only [maxLen] at hul63
        have K4 := (K35).trans k4
        have hml : mayB l = true := by rw [Bool.and_eq_true] at hn4; exact hn4.1
        obtain ⟨a4, c4, hv4⟩ := h4.slc
        subst hv4
        have HKP := Lib.hid hkp
        have HUL := Lib.hid hul
        clear hkp hul hn4
        go_wp2_with fail
        refine (get_ct h4 s).mono ?_
        rintro e W5 ⟨hg, k5⟩
        obtain ⟨v5, rfl, h5⟩ := get_is hg hm4 hus rfl
        clear hg
        obtain ⟨a5, c5, hv5⟩ := h5.slc
        subst hv5
        have K5 := K4.trans k5
        have cv5 := conv_str h5
        have cvx := conv_str (hx.kept K5)
        have ebx : (bx == bx) = true := by simp
        have nbx : (bx != bx) = false := by simp
        have m5 := may_ct (h4.kept k5)
        rw [hm4] at m5
        go_wp2_with fail
        refine m5.mono ?_
        rintro e W6 ⟨rfl, k6⟩
        have K6 := K5.trans k6
        have h46 := h4.kept (k5.trans k6)
        clear cv5 cvx m5 h4 h5
        go_wp2_with fail
        go_loopw [86] (fun i wr => ∃ k : Nat, k ≤ l.length ∧ i = .int .i64 k ∧ Kept (fun _ => False) W6 wr) (fun i _ => l.length - (intOf i).toNat)
        case atStart => exact ⟨0, by omega, rfl, Kept.refl _ _⟩
        case round =>
          obtain ⟨k, hk, rfl, hkr⟩ := hrel
          have hKr := K6.trans hkr
          by_cases hlt : k < l.length
          · have hfa : l[k]? = some l[k] := List.getElem?_eq_getElem hlt
            generalize l[k] = f at hfa
            obtain ⟨_, b1, o1, y, rfl, hbl, hrx, hB⟩ := (h.kept hKr).file hfa
            obtain ⟨a3, c3, rfl⟩ := hB.slc
            have q0 : wr.cell? ⟨b1, o1 + k * 2, none⟩ = some (.string f.path) := hrx 0 _ rfl
            have hff := ((mayIs hml).file f (List.mem_of_getElem? hfa)).2.1
            have HFA := Lib.hid hfa
            clear hfa
            generalize hpe : (f.path.toList == s.toList) = pe
            cases pe with
            | true =>
              go_wp2_with fail
              go_roundw
              case rel => exact ⟨k + 1, by omega, by go_num, hkr⟩
              case measure => simp [intOf]; omega
            | false =>
              go_wp2_with fail
              refine (get_ct (h46.kept hkr) f.path).mono ?_
              rintro e W7 ⟨hg, k7⟩
              obtain ⟨v7, rfl, h7⟩ := get_is hg hm4 (HKP.out f (List.mem_of_getElem? HFA.out) (fun e => by rw [e] at hpe; simp at hpe)) rfl
              clear hg
              obtain ⟨a7, c7, hv7⟩ := h7.slc
              subst hv7
              have q1 : ∀ w', Kept (fun _ => False) W7 w' → w'.cell? ⟨b1, o1 + k * 2 + 1, none⟩ = some (.slice a3 f.bytes.length c3) := fun w' q => ((k7.trans q).cell (p := ⟨b1, o1 + k * 2 + 1, none⟩) hbl not_false).trans (hrx 1 _ rfl)
              have cv1 := fun w' (q : Kept (fun _ => False) W7 w') => conv_str (h7.kept q)
              have cv2 := fun w' (q : Kept (fun _ => False) W7 w') => conv_str (hB.kept (k7.trans q))
              have nfb : (f.bytes != f.bytes) = false := by simp
              clear hrx hB
              go_wp2_with fail
              refine wp_region_held_drew (S := (Kept (fun _ => False) W7)) (by kernel_rfl) ((Kept.refl _ W7).drew) (fun hHeld => ?_)
              refine held_q (v := ?_) (i := 0) rfl (by kernel_rfl) (by kernel_rfl) (by kernel_rfl) (fun _ _ _ h => h) (by rfl) hHeld ?_ ?_
              rotate_left
              · (intro w' hS'; go_simp <;> (with_reducible rfl))
              simp only [Act.put, List.getElem_toArray, List.getElem_cons_zero, List.getElem_cons_succ, List.setIfInBounds_toArray, List.set_cons_zero, List.set_cons_succ]
              refine held_q (v := ?_) (i := 1) rfl (by kernel_rfl) (by kernel_rfl) (by kernel_rfl) (fun _ _ _ h => h) (by rfl) hHeld ?_ ?_
              rotate_left
              · (intro w' hS'; go_simp <;> (with_reducible rfl))
              simp only [Act.put, List.getElem_toArray, List.getElem_cons_zero, List.getElem_cons_succ, List.setIfInBounds_toArray, List.set_cons_zero, List.set_cons_succ]
              refine held_q (v := ?_) (i := 2) rfl (by kernel_rfl) (by kernel_rfl) (by kernel_rfl) (fun _ _ _ h => h) (by rfl) hHeld ?_ ?_
              rotate_left
              · (intro w' hS'; go_simp <;> (with_reducible rfl))
              simp only [Act.put, List.getElem_toArray, List.getElem_cons_zero, List.getElem_cons_succ, List.setIfInBounds_toArray, List.set_cons_zero, List.set_cons_succ]
              refine held_q (v := ?_) (i := 3) rfl (by kernel_rfl) (by kernel_rfl) (by kernel_rfl) (fun _ _ _ h => h) (by rfl) hHeld ?_ ?_
              rotate_left
              · (intro w' hS'; go_simp <;> (with_reducible rfl))
              simp only [Act.put, List.getElem_toArray, List.getElem_cons_zero, List.getElem_cons_succ, List.setIfInBounds_toArray, List.set_cons_zero, List.set_cons_succ]
              refine held_q (i := 4) rfl (by kernel_rfl) (by kernel_rfl) (by kernel_rfl) (fun _ _ _ h => h) (by rfl) hHeld (fun w' hS' => exec_conv 25 9 _ rfl rfl (cv1 w' hS')) ?_
              simp only [Act.put, List.getElem_toArray, List.getElem_cons_zero, List.getElem_cons_succ, List.setIfInBounds_toArray, List.set_cons_zero, List.set_cons_succ]
              refine held_q (v := ?_) (i := 5) rfl (by kernel_rfl) (by kernel_rfl) (by kernel_rfl) (fun _ _ _ h => h) (by rfl) hHeld ?_ ?_
              rotate_left
              · (intro w' hS'; go_simp <;> (with_reducible rfl))
              simp only [Act.put, List.getElem_toArray, List.getElem_cons_zero, List.getElem_cons_succ, List.setIfInBounds_toArray, List.set_cons_zero, List.set_cons_succ]
              refine held_q (v := ?_) (i := 6) rfl (by kernel_rfl) (by kernel_rfl) (by kernel_rfl) (fun _ _ _ h => h) (by rfl) hHeld ?_ ?_
              rotate_left
              · (intro w' hS'; go_simp <;> (with_reducible rfl))
              simp only [Act.put, List.getElem_toArray, List.getElem_cons_zero, List.getElem_cons_succ, List.setIfInBounds_toArray, List.set_cons_zero, List.set_cons_succ]
              refine held_q (v := ?_) (i := 7) rfl (by kernel_rfl) (by kernel_rfl) (by kernel_rfl) (fun _ _ _ h => h) (by rfl) hHeld ?_ ?_
              rotate_left
              · (intro w' hS'; go_simp <;> (with_reducible rfl))
              simp only [Act.put, List.getElem_toArray, List.getElem_cons_zero, List.getElem_cons_succ, List.setIfInBounds_toArray, List.set_cons_zero, List.set_cons_succ]
              refine held_q (v := ?_) (i := 8) rfl (by kernel_rfl) (by kernel_rfl) (by kernel_rfl) (fun _ _ _ h => h) (by rfl) hHeld ?_ ?_
              rotate_left
              · (intro w' hS'; go_simp <;> (with_reducible rfl))
              simp only [Act.put, List.getElem_toArray, List.getElem_cons_zero, List.getElem_cons_succ, List.setIfInBounds_toArray, List.set_cons_zero, List.set_cons_succ]
              refine held_q (v := ?_) (i := 9) rfl (by kernel_rfl) (by kernel_rfl) (by kernel_rfl) (fun _ _ _ h => h) (by rfl) hHeld ?_ ?_
              rotate_left
              · (intro w' hS'; go_simp <;> (with_reducible rfl))
              simp only [Act.put, List.getElem_toArray, List.getElem_cons_zero, List.getElem_cons_succ, List.setIfInBounds_toArray, List.set_cons_zero, List.set_cons_succ]
              refine held_q (i := 10) rfl (by kernel_rfl) (by kernel_rfl) (by kernel_rfl) (fun _ _ _ h => h) (by rfl) hHeld (fun w' hS' => exec_conv 25 9 _ rfl rfl (cv2 w' hS')) ?_
              simp only [Act.put, List.getElem_toArray, List.getElem_cons_zero, List.getElem_cons_succ, List.setIfInBounds_toArray, List.set_cons_zero, List.set_cons_succ]
              refine held_q (v := ?_) (i := 11) rfl (by kernel_rfl) (by kernel_rfl) (by kernel_rfl) (fun _ _ _ h => h) (by rfl) hHeld ?_ ?_
              rotate_left
              · (intro w' hS'; go_simp <;> (with_reducible rfl))
              simp only [Act.put, List.getElem_toArray, List.getElem_cons_zero, List.getElem_cons_succ, List.setIfInBounds_toArray, List.set_cons_zero, List.set_cons_succ]
              refine held_q (v := ?_) (i := 12) rfl (by kernel_rfl) (by kernel_rfl) (by kernel_rfl) (fun _ _ _ h => h) (by rfl) hHeld ?_ ?_
              rotate_left
              · (intro w' hS'; go_simp <;> (with_reducible rfl))
              simp only [Act.put, List.getElem_toArray, List.getElem_cons_zero, List.getElem_cons_succ, List.setIfInBounds_toArray, List.set_cons_zero, List.set_cons_succ]
              refine wpAnyH_done (by kernel_rfl) ?_ _
              go_wp2_with fail
              go_roundw
              case rel => exact ⟨k + 1, by omega, by go_num, (hkr.trans k7).trans hHeld⟩
              case measure => simp [intOf]; omega
          · obtain rfl : k = l.length := by omega
            go_wp2_with fail
            refine (get_ct (h.kept hKr) s).mono ?_
            rintro e W8 ⟨hg, k8⟩
            obtain ⟨a8, n8, c8, rfl⟩ := get_form hg
            rw [hml]
            have hul := HUL.out
            generalize thereB l s = th at *
            have eul : ((u.length : Int) == (l.length : Int)) = th := by
              rw [hul]
              cases th with
              | true => simp
              | false => simp; omega
            clear hg hul HUL HKP
            cases th with
            | true =>
              go_wp2_with fail
              refine (known_ct _).mono ?_
              rintro e W9 ⟨rfl, k9⟩
              go_wp2_with fail
              go_ret
              exact ⟨rfl, (hKr.trans k8).trans k9⟩
            | false =>
              go_wp2_with fail
              refine (known_ct _).mono ?_
              rintro e W9 ⟨rfl, k9⟩
              go_wp2_with fail
              go_ret
              exact ⟨rfl, (hKr.trans k8).trans k9⟩
end Go.Proofs.Ytehpaddddiigbaa
