/- TreeRoots' walk. -/
import Derived.Test.YtehpaddddiigbaaDoorRA
import Derived.Test.YtehpaddddiigbaaDoorSZ
import Derived.Test.YtehpaddddiigbaaDoorTS
namespace Go.Proofs.YtehpaddddiigbaaDoor
open Go.RowKit
set_option maxRecDepth 100000
set_option linter.unusedSimpArgs false
set_option linter.unusedVariables false

set_option maxHeartbeats 1000000 in
theorem greatA_ct {w : World} {v : Value} {l : List FileE} (h : TreeAt w v l) :
    Calls Tryd.prog 5 #[v] w fun e w' => (∃ b, e = .returned (.bool b)) ∧ Kept (fun _ => False) w w' := by
  obtain ⟨a, c, hv⟩ := h.slc
  subst hv
  have hml : l.length ≤ maxLen := by obtain ⟨_, _, _, h2, _⟩ := h; exact h2
  simp only [maxLen] at hml
  go_enter Tryd.func5, Tryd.ntmps5
  go_wp2_with fail
  go_loopw [3, 4] (fun n i wr => ∃ (k : Nat) (z : Int), k ≤ l.length ∧ i = .int .i64 k ∧ n = .int .i64 z ∧ Kept (fun _ => False) w wr) (fun _ i _ => l.length - (intOf i).toNat)
  case atStart => exact ⟨0, 0, by omega, rfl, rfl, Kept.refl _ _⟩
  case round =>
    obtain ⟨k, z, hk, rfl, rfl, hkr⟩ := hrel
    by_cases hlt : k < l.length
    · have hfa : l[k]? = some l[k] := List.getElem?_eq_getElem hlt
      generalize l[k] = f at hfa
      obtain ⟨_, b1, o1, x, rfl, hbl, hrx, hB⟩ := (h.kept hkr).file hfa
      obtain ⟨a3, c3, rfl⟩ := hB.slc
      have q0 : ∀ w', Kept (fun _ => False) wr w' → w'.cell? ⟨b1, o1 + k * 2, none⟩ = some (.string f.path) := fun w' q => (q.cell (p := ⟨b1, o1 + k * 2, none⟩) hbl not_false).trans (hrx 0 _ rfl)
      have q1 : ∀ w', Kept (fun _ => False) wr w' → w'.cell? ⟨b1, o1 + k * 2 + 1, none⟩ = some (.slice a3 f.bytes.length c3) := fun w' q => (q.cell (p := ⟨b1, o1 + k * 2 + 1, none⟩) hbl not_false).trans (hrx 1 _ rfl)
      clear hrx hB hfa
      go_wp2_with fail
      refine wp_region_held_drew (S := (Kept (fun _ => False) wr)) (by kernel_rfl) ((Kept.refl _ wr).drew) (fun hHeld => ?_)
      refine held_q (v := ?_) (i := 0) rfl (by kernel_rfl) (by kernel_rfl) (by kernel_rfl) (fun _ _ _ h => h) (by rfl) hHeld ?_ ?_
      rotate_left
      · (intro w' hS'; go_simp <;> (with_reducible rfl))
      simp only [Act.put, List.getElem_toArray, List.getElem_cons_zero, List.getElem_cons_succ, List.setIfInBounds_toArray, List.set_cons_zero, List.set_cons_succ]
      refine held_q (v := ?_) (i := 1) rfl (by kernel_rfl) (by kernel_rfl) (by kernel_rfl) (fun _ _ _ h => h) (by rfl) hHeld ?_ ?_
      rotate_left
      · (intro w' hS'; go_simp <;> (with_reducible rfl))
      simp only [Act.put, List.getElem_toArray, List.getElem_cons_zero, List.getElem_cons_succ, List.setIfInBounds_toArray, List.set_cons_zero, List.set_cons_succ]
      refine held_q (v := ?_) (i := 2) rfl (by kernel_rfl) (by kernel_rfl) (by kernel_rfl) (fun _ _ _ h => h) (by rfl) hHeld ?_ ?_
      rotate_left
      · (intro w' hS'; go_simp <;> (with_reducible rfl))
      simp only [Act.put, List.getElem_toArray, List.getElem_cons_zero, List.getElem_cons_succ, List.setIfInBounds_toArray, List.set_cons_zero, List.set_cons_succ]
      refine held_q (v := ?_) (i := 3) rfl (by kernel_rfl) (by kernel_rfl) (by kernel_rfl) (fun _ _ _ h => h) (by rfl) hHeld ?_ ?_
      rotate_left
      · (intro w' hS'; go_simp <;> (with_reducible rfl))
      simp only [Act.put, List.getElem_toArray, List.getElem_cons_zero, List.getElem_cons_succ, List.setIfInBounds_toArray, List.set_cons_zero, List.set_cons_succ]
      refine held_q (v := ?_) (i := 4) rfl (by kernel_rfl) (by kernel_rfl) (by kernel_rfl) (fun _ _ _ h => h) (by rfl) hHeld ?_ ?_
      rotate_left
      · (intro w' hS'; go_simp <;> (with_reducible rfl))
      simp only [Act.put, List.getElem_toArray, List.getElem_cons_zero, List.getElem_cons_succ, List.setIfInBounds_toArray, List.set_cons_zero, List.set_cons_succ]
      refine held_q (v := ?_) (i := 5) rfl (by kernel_rfl) (by kernel_rfl) (by kernel_rfl) (fun _ _ _ h => h) (by rfl) hHeld ?_ ?_
      rotate_left
      · (intro w' hS'; go_simp <;> (with_reducible rfl))
      simp only [Act.put, List.getElem_toArray, List.getElem_cons_zero, List.getElem_cons_succ, List.setIfInBounds_toArray, List.set_cons_zero, List.set_cons_succ]
      refine held_q (v := ?_) (i := 6) rfl (by kernel_rfl) (by kernel_rfl) (by kernel_rfl) (fun _ _ _ h => h) (by rfl) hHeld ?_ ?_
      rotate_left
      · (intro w' hS'; go_simp <;> (with_reducible rfl))
      simp only [Act.put, List.getElem_toArray, List.getElem_cons_zero, List.getElem_cons_succ, List.setIfInBounds_toArray, List.set_cons_zero, List.set_cons_succ]
      refine held_q (v := ?_) (i := 7) rfl (by kernel_rfl) (by kernel_rfl) (by kernel_rfl) (fun _ _ _ h => h) (by rfl) hHeld ?_ ?_
      rotate_left
      · (intro w' hS'; go_simp <;> (with_reducible rfl))
      simp only [Act.put, List.getElem_toArray, List.getElem_cons_zero, List.getElem_cons_succ, List.setIfInBounds_toArray, List.set_cons_zero, List.set_cons_succ]
      refine held_q (v := ?_) (i := 8) rfl (by kernel_rfl) (by kernel_rfl) (by kernel_rfl) (fun _ _ _ h => h) (by rfl) hHeld ?_ ?_
      rotate_left
      · (intro w' hS'; go_simp <;> (with_reducible rfl))
      simp only [Act.put, List.getElem_toArray, List.getElem_cons_zero, List.getElem_cons_succ, List.setIfInBounds_toArray, List.set_cons_zero, List.set_cons_succ]
      refine held_q (v := ?_) (i := 9) rfl (by kernel_rfl) (by kernel_rfl) (by kernel_rfl) (fun _ _ _ h => h) (by rfl) hHeld ?_ ?_
      rotate_left
      · (intro w' hS'; go_simp <;> (with_reducible rfl))
      simp only [Act.put, List.getElem_toArray, List.getElem_cons_zero, List.getElem_cons_succ, List.setIfInBounds_toArray, List.set_cons_zero, List.set_cons_succ]
      refine held_q (v := ?_) (i := 10) rfl (by kernel_rfl) (by kernel_rfl) (by kernel_rfl) (fun _ _ _ h => h) (by rfl) hHeld ?_ ?_
      rotate_left
      · (intro w' hS'; go_simp <;> (with_reducible rfl))
      simp only [Act.put, List.getElem_toArray, List.getElem_cons_zero, List.getElem_cons_succ, List.setIfInBounds_toArray, List.set_cons_zero, List.set_cons_succ]
      refine held_q (v := ?_) (i := 11) rfl (by kernel_rfl) (by kernel_rfl) (by kernel_rfl) (fun _ _ _ h => h) (by rfl) hHeld ?_ ?_
      rotate_left
      · (intro w' hS'; go_simp <;> (with_reducible rfl))
      simp only [Act.put, List.getElem_toArray, List.getElem_cons_zero, List.getElem_cons_succ, List.setIfInBounds_toArray, List.set_cons_zero, List.set_cons_succ]
      refine held_q (v := ?_) (i := 12) rfl (by kernel_rfl) (by kernel_rfl) (by kernel_rfl) (fun _ _ _ h => h) (by rfl) hHeld ?_ ?_
      rotate_left
      · (intro w' hS'; go_simp <;> (with_reducible rfl))
      simp only [Act.put, List.getElem_toArray, List.getElem_cons_zero, List.getElem_cons_succ, List.setIfInBounds_toArray, List.set_cons_zero, List.set_cons_succ]
      refine held_q (v := ?_) (i := 13) rfl (by kernel_rfl) (by kernel_rfl) (by kernel_rfl) (fun _ _ _ h => h) (by rfl) hHeld ?_ ?_
      rotate_left
      · (intro w' hS'; go_simp <;> (with_reducible rfl))
      simp only [Act.put, List.getElem_toArray, List.getElem_cons_zero, List.getElem_cons_succ, List.setIfInBounds_toArray, List.set_cons_zero, List.set_cons_succ]
      refine held_q (v := ?_) (i := 14) rfl (by kernel_rfl) (by kernel_rfl) (by kernel_rfl) (fun _ _ _ h => h) (by rfl) hHeld ?_ ?_
      rotate_left
      · (intro w' hS'; go_simp <;> (with_reducible rfl))
      simp only [Act.put, List.getElem_toArray, List.getElem_cons_zero, List.getElem_cons_succ, List.setIfInBounds_toArray, List.set_cons_zero, List.set_cons_succ]
      refine held_q (v := ?_) (i := 15) rfl (by kernel_rfl) (by kernel_rfl) (by kernel_rfl) (fun _ _ _ h => h) (by rfl) hHeld ?_ ?_
      rotate_left
      · (intro w' hS'; go_simp <;> (with_reducible rfl))
      simp only [Act.put, List.getElem_toArray, List.getElem_cons_zero, List.getElem_cons_succ, List.setIfInBounds_toArray, List.set_cons_zero, List.set_cons_succ]
      refine held_q (v := ?_) (i := 16) rfl (by kernel_rfl) (by kernel_rfl) (by kernel_rfl) (fun _ _ _ h => h) (by rfl) hHeld ?_ ?_
      rotate_left
      · (intro w' hS'; go_simp <;> (with_reducible rfl))
      simp only [Act.put, List.getElem_toArray, List.getElem_cons_zero, List.getElem_cons_succ, List.setIfInBounds_toArray, List.set_cons_zero, List.set_cons_succ]
      refine wpAnyH_done (by kernel_rfl) ?_ _
      go_wp2_with fail
      go_roundw
      case rel => exact ⟨k + 1, _, by omega, by go_num, rfl, hkr.trans hHeld⟩
      case measure => simp [intOf]; omega
    · obtain rfl : k = l.length := by omega
      go_wp2_with fail
      go_ret
      exact ⟨⟨_, rfl⟩, hkr⟩
theorem eqF_rflA (f : FileE) : eqF f f = true := by unfold eqF; simp
theorem sameTo_rflA (l : List FileE) : ∀ k, k ≤ l.length → sameTo l l k = true
  | 0, _ => rfl
  | k + 1, h => by
    unfold sameTo
    rw [sameTo_rflA l k (by omega), List.getElem?_eq_getElem (by omega)]
    simp [eqF_rflA]
theorem sameB_rflA (l : List FileE) : sameB l l = true := by unfold sameB; rw [sameTo_rflA l _ (Nat.le_refl _)]; simp
theorem eqF_eq {f g : FileE} (h : eqF f g = true) : f = g := by
  unfold eqF at h
  rw [Bool.and_eq_true] at h
  obtain ⟨h1, h2⟩ := h
  have e2 : f.bytes = g.bytes := by simpa using h2
  have e1 : f.path = g.path := by
    have h3 : f.path.toList = g.path.toList := by simpa using h1
    have h4 : f.path.data.toList = g.path.data.toList := by rw [← ByteArray.toList_eq, ← ByteArray.toList_eq]; exact h3
    have h5 : f.path.data = g.path.data := by simpa using h4
    exact ByteArray.ext h5
  cases f; cases g
  simp_all
theorem sameTo_at {a b : List FileE} : ∀ {k : Nat}, sameTo a b k = true → ∀ i, i < k → ∃ f g, a[i]? = some f ∧ b[i]? = some g ∧ eqF f g = true
  | 0, _, i, hi => absurd hi (by omega)
  | k + 1, h, i, hi => by
    unfold sameTo at h
    rw [Bool.and_eq_true] at h
    by_cases e : i = k
    · subst e
      cases ha : a[i]? with
      | none => rw [ha] at h; simp at h
      | some f => cases hb : b[i]? with
        | none => rw [ha, hb] at h; simp at h
        | some g => rw [ha, hb] at h; exact ⟨f, g, rfl, rfl, h.2⟩
    · exact sameTo_at h.1 i (by omega)
theorem sameB_eq {a b : List FileE} (h : sameB a b = true) : a = b := by
  unfold sameB at h
  rw [Bool.and_eq_true] at h
  have hl : a.length = b.length := by simpa using h.1
  apply List.ext_getElem?
  intro i
  by_cases hi : i < a.length
  · obtain ⟨f, g, h1, h2, h3⟩ := sameTo_at h.2 i hi
    rw [h1, h2, eqF_eq h3]
  · rw [List.getElem?_eq_none (by omega), List.getElem?_eq_none (by omega)]
theorem troot_any {w : World} {v : Value} {l : List FileE} (h : TreeAt w v l) (hT : Tabs w) :
    Calls Tryd.prog 7 #[v] w fun e w' => (∃ d, d.length = 32 ∧ e = .returned (.tuple #[(Value.agg (List.toArray (kv .u8 d))), .int .i64 (if mayB l = true then 0 else 2)]) ∧ (mayB l = true → d = nv (rootL (rawL l)))) ∧ Kept (fun _ => False) w w' := by
  cases hm : mayB l with
  | true => exact (troot_ct h hm hT).mono fun e w' ⟨he, hk⟩ => ⟨⟨_, by rw [nv_len, rootL_len], he, fun _ => rfl⟩, hk⟩
  | false => exact (troot_no h hm).mono fun e w' ⟨he, hk⟩ => ⟨⟨z32, rfl, he, fun h => by cases h⟩, hk⟩
set_option maxHeartbeats 4000000 in
theorem roots_law {w : World} {v1 v2 : Value} {l1 l2 : List FileE} (h1 : TreeAt w v1 l1) (h2 : TreeAt w v2 l2) (hT : Tabs w) :
    Calls Tryd.prog 3 #[v1, v2] w fun e w' => e = .returned (.bool true) ∧ Kept (fun _ => False) w w' := by
  have zz := zeroDig
  obtain ⟨a1, c1, hv1⟩ := h1.slc
  subst hv1
  obtain ⟨a2, c2, hv2⟩ := h2.slc
  subst hv2
  go_enter Tryd.func3, Tryd.ntmps3
  go_wp2_with fail
  refine (greatA_ct h1).mono ?_
  rintro e W1 ⟨⟨g1, rfl⟩, k1⟩
  cases g1 with
  | true =>
    go_wp2_with fail
    refine (known_ct _).mono ?_
    rintro e W9 ⟨rfl, k9⟩
    go_wp2_with fail
    go_ret
    exact ⟨rfl, (k1).trans k9⟩
  | false =>
    go_wp2_with fail
    refine (greatA_ct (h2.kept k1)).mono ?_
    rintro e W2 ⟨⟨g2, rfl⟩, k2⟩
    have kk2 := k1.trans k2
    cases g2 with
    | true =>
      go_wp2_with fail
      refine (known_ct _).mono ?_
      rintro e W9 ⟨rfl, k9⟩
      go_wp2_with fail
      go_ret
      exact ⟨rfl, (kk2).trans k9⟩
    | false =>
      go_wp2_with fail
      have t1 := troot_any (h1.kept kk2) (hT.kept kk2)
      have st0 : ∀ (W : World) (d : List Nat), d.length = 32 → (Instr.storeAt 27 (.pointer (some ⟨W.heap.size, 0, none⟩)) ((Value.agg (List.toArray (kv .u8 d))))).run Tryd.prog (W.alloc (.cells (kv .u8 z32).toArray 27)) = .ok () (W.alloc (.cells (kv .u8 d).toArray 27)) := fun W d hd =>
        store_new (by rw [List.size_toArray, kv_len, hd]; kernel_rfl) (by rw [List.size_toArray, List.size_toArray, kv_len, kv_len, hd]; rfl) (kv_one _ _) rfl
      cases hm1 : mayB l1 with
      | false =>
        rw [hm1] at t1
        simp only [Bool.false_eq_true, if_false] at t1
        refine t1.mono ?_
        rintro e W3 ⟨⟨d1, hd1, rfl, _⟩, k3⟩
        have st5 := st0 W3 d1 hd1
        have kk4 := (kk2.trans k3).alloc (.cells (kv .u8 d1).toArray 27)
        have t2 := troot_any (h2.kept kk4) (hT.kept kk4)
        generalize (if mayB l2 = true then (0 : Int) else 2) = z2 at t2
        go_wp2_with (first
          | (with_reducible refine wpl_alloc 27 rfl rfl (zz _) ?_
             simp only [World.size_alloc, Act.put, List.getElem_toArray, List.getElem_cons_zero, List.getElem_cons_succ, List.setIfInBounds_toArray, List.set_cons_zero, List.set_cons_succ])
          | (with_reducible refine wpl_store 27 _ _ rfl rfl ?_ ?_ st5 ?_
             · rfl
             · rfl
             simp only [Act.put, List.getElem_toArray, List.getElem_cons_zero, List.getElem_cons_succ, List.setIfInBounds_toArray, List.set_cons_zero, List.set_cons_succ]))
        refine t2.mono ?_
        rintro e W5 ⟨⟨d2, hd2, rfl, _⟩, k5⟩
        have st7 := st0 W5 d2 hd2
        have kk6 := (kk4.trans k5).alloc (.cells (kv .u8 d2).toArray 27)
        clear st5 t1 t2
        go_wp2_with (first
          | (with_reducible refine wpl_alloc 27 rfl rfl (zz _) ?_
             simp only [World.size_alloc, Act.put, List.getElem_toArray, List.getElem_cons_zero, List.getElem_cons_succ, List.setIfInBounds_toArray, List.set_cons_zero, List.set_cons_succ])
          | (with_reducible refine wpl_store 27 _ _ rfl rfl ?_ ?_ st7 ?_
             · rfl
             · rfl
             simp only [Act.put, List.getElem_toArray, List.getElem_cons_zero, List.getElem_cons_succ, List.setIfInBounds_toArray, List.set_cons_zero, List.set_cons_succ]))
        refine (known_ct _).mono ?_
        rintro e W9 ⟨rfl, k9⟩
        go_wp2_with fail
        go_ret
        exact ⟨rfl, (kk6).trans k9⟩
      | true =>
        rw [hm1] at t1
        simp only [if_true] at t1
        refine t1.mono ?_
        rintro e W3 ⟨⟨d1, hd1, rfl, hr0⟩, k3⟩
        have hr1 := hr0 trivial
        clear hr0
        have st5 := st0 W3 d1 hd1
        have kk3 := kk2.trans k3
        have ka := (Kept.refl (fun _ => False) W3).alloc (.cells (kv .u8 d1).toArray 27)
        have kk4 := kk3.trans ka
        have hx0 : Arr (W3.alloc (.cells (kv .u8 d1).toArray 27)) W3.heap.size 27 .u8 d1 := Arr.new rfl
        have t2 := troot_any (h2.kept kk4) (hT.kept kk4)
        cases hm2 : mayB l2 with
        | false =>
          rw [hm2] at t2
          simp only [Bool.false_eq_true, if_false] at t2
          have HR1 := Lib.hid hr1
          clear hr1 hm1 hm2 t1
          go_wp2_with (first
            | (with_reducible refine wpl_alloc 27 rfl rfl (zz _) ?_
               simp only [World.size_alloc, Act.put, List.getElem_toArray, List.getElem_cons_zero, List.getElem_cons_succ, List.setIfInBounds_toArray, List.set_cons_zero, List.set_cons_succ])
            | (with_reducible refine wpl_store 27 _ _ rfl rfl ?_ ?_ st5 ?_
               · rfl
               · rfl
               simp only [Act.put, List.getElem_toArray, List.getElem_cons_zero, List.getElem_cons_succ, List.setIfInBounds_toArray, List.set_cons_zero, List.set_cons_succ]))
          refine t2.mono ?_
          rintro e W5 ⟨⟨d2, hd2, rfl, _⟩, k5⟩
          have st7 := st0 W5 d2 hd2
          have kk6 := (kk4.trans k5).alloc (.cells (kv .u8 d2).toArray 27)
          clear st5 t2
          go_wp2_with (first
            | (with_reducible refine wpl_alloc 27 rfl rfl (zz _) ?_
               simp only [World.size_alloc, Act.put, List.getElem_toArray, List.getElem_cons_zero, List.getElem_cons_succ, List.setIfInBounds_toArray, List.set_cons_zero, List.set_cons_succ])
            | (with_reducible refine wpl_store 27 _ _ rfl rfl ?_ ?_ st7 ?_
               · rfl
               · rfl
               simp only [Act.put, List.getElem_toArray, List.getElem_cons_zero, List.getElem_cons_succ, List.setIfInBounds_toArray, List.set_cons_zero, List.set_cons_succ]))
          refine (known_ct _).mono ?_
          rintro e W9 ⟨rfl, k9⟩
          go_wp2_with fail
          go_ret
          exact ⟨rfl, (kk6).trans k9⟩
        | true =>
          rw [hm2] at t2
          simp only [if_true] at t2
          have HM := Lib.hid (And.intro hm1 (And.intro hm2 hr1))
          clear hr1 hm1 hm2 t1
          go_wp2_with (first
            | (with_reducible refine wpl_alloc 27 rfl rfl (zz _) ?_
               simp only [World.size_alloc, Act.put, List.getElem_toArray, List.getElem_cons_zero, List.getElem_cons_succ, List.setIfInBounds_toArray, List.set_cons_zero, List.set_cons_succ])
            | (with_reducible refine wpl_store 27 _ _ rfl rfl ?_ ?_ st5 ?_
               · rfl
               · rfl
               simp only [Act.put, List.getElem_toArray, List.getElem_cons_zero, List.getElem_cons_succ, List.setIfInBounds_toArray, List.set_cons_zero, List.set_cons_succ]))
          refine t2.mono ?_
          rintro e W5 ⟨⟨d2, hd2, rfl, hr0⟩, k5⟩
          have hr2 := hr0 trivial
          clear hr0
          have st7 := st0 W5 d2 hd2
          have kk5 := kk4.trans k5
          have kb := (Kept.refl (fun _ => False) W5).alloc (.cells (kv .u8 d2).toArray 27)
          have kk6 := kk5.trans kb
          have hy0 : Arr (W5.alloc (.cells (kv .u8 d2).toArray 27)) W5.heap.size 27 .u8 d2 := Arr.new rfl
          have hx1 := hx0.stay (k5.trans kb) not_false
          have hl1 := (mayIs HM.out.1).len
          have hl2 := (mayIs HM.out.2.1).len
          have sc := same_ct (h1.kept kk6) (h2.kept kk6) (by omega) (by omega)
          have HR2 := Lib.hid hr2
          clear st5 t2 hr2
          go_wp2_with (first
            | (with_reducible refine wpl_alloc 27 rfl rfl (zz _) ?_
               simp only [World.size_alloc, Act.put, List.getElem_toArray, List.getElem_cons_zero, List.getElem_cons_succ, List.setIfInBounds_toArray, List.set_cons_zero, List.set_cons_succ])
            | (with_reducible refine wpl_store 27 _ _ rfl rfl ?_ ?_ st7 ?_
               · rfl
               · rfl
               simp only [Act.put, List.getElem_toArray, List.getElem_cons_zero, List.getElem_cons_succ, List.setIfInBounds_toArray, List.set_cons_zero, List.set_cons_succ]))
          obtain ⟨X, hX⟩ : ∃ X, W3.heap.size = X := ⟨_, rfl⟩
          obtain ⟨Y, hY⟩ : ∃ Y, W5.heap.size = Y := ⟨_, rfl⟩
          rw [hX] at hx1
          rw [hY] at hy0
          rw [hX, hY]
          generalize W5.alloc (.cells (kv .u8 d2).toArray 27) = W6 at kk6 hy0 hx1 sc ⊢
          clear hX hY hx0 k5 kb ka k3 st7
          refine sc.mono ?_
          rintro e W7 ⟨rfl, k7⟩
          have kk7 := kk6.trans k7
          have hx := hx1.stay k7 not_false
          have hy := hy0.stay k7 not_false
          obtain ⟨rx, hrx⟩ : ∃ r, r = rootL (rawL l1) := ⟨_, rfl⟩
          obtain ⟨ry, hry⟩ : ∃ r, r = rootL (rawL l2) := ⟨_, rfl⟩
          have e1 : d1 = nv rx := by rw [hrx]; exact HM.out.2.2
          have e2 : d2 = nv ry := by rw [hry]; exact HR2.out
          have lrx : rx.length = 32 := by rw [hrx, rootL_len]
          have lry : ry.length = 32 := by rw [hry, rootL_len]
          subst e1 e2
          have HRR := Lib.hid (And.intro hrx hry)
          clear hrx hry hx1 hy0
          generalize hsb : sameB l1 l2 = sb
          have HSB := Lib.hid hsb
          clear hsb
          have lx := ldDig hx (by rw [nv_len, lrx])
          have ly := ldDig hy (by rw [nv_len, lry])
          cases sb with
          | true =>
            have hxy : rx = ry := by rw [HRR.out.1, HRR.out.2, sameB_eq HSB.out]
            subst hxy
            go_wp2_with (first
              | (with_reducible refine wpl_load 27 _ rfl rfl ?_ lx ?_
                 · rfl
                 simp only [Act.put, List.getElem_toArray, List.getElem_cons_zero, List.getElem_cons_succ, List.setIfInBounds_toArray, List.set_cons_zero, List.set_cons_succ])
              | (with_reducible refine wpl_load 27 _ rfl rfl ?_ ly ?_
                 · rfl
                 simp only [Act.put, List.getElem_toArray, List.getElem_cons_zero, List.getElem_cons_succ, List.setIfInBounds_toArray, List.set_cons_zero, List.set_cons_succ])
              | (refine wpl_val rfl (eql_dg lrx lry _ _ rfl rfl rfl) ?_))
            refine (known_ct W7).mono ?_
            rintro e W9 ⟨rfl, k9⟩
            go_wp2_with fail
            go_ret
            exact ⟨rfl, kk7.trans k9⟩
          | false =>
            have hne : rawL l1 ≠ rawL l2 := fun he => by
              have := HSB.out
              rw [rawL_inj HM.out.1 HM.out.2.1 he, sameB_rflA] at this
              cases this
            by_cases hxy : rx = ry
            · subst hxy
              have ne : ∀ (o : Oper) (c : Act) (x y : Operand), o.op = .binOp .neq 27 x y 27 → c.eval x = (Value.agg (List.toArray (kv .u8 (nv rx)))) → c.eval y = (Value.agg (List.toArray (kv .u8 (nv rx)))) → (execOp c.eval o).run Tryd.prog W7 = .ok (.value (.bool false)) W7 := fun o c x y h1 h2 h3 => by
                rw [neq_dg lrx lrx x y h1 h2 h3, decide_eq_true rfl]; rfl
              have eqq : ∀ (o : Oper) (c : Act) (w' : World) (x y : Operand), o.op = .binOp .eql 27 x y 27 → c.eval x = (Value.agg (List.toArray (kv .u8 (nv rx)))) → c.eval y = (Value.agg (List.toArray (kv .u8 (nv rx)))) → (execOp c.eval o).run Tryd.prog w' = .ok (.value (.bool true)) w' := fun o c w' x y h1 h2 h3 => by
                rw [eql_dg lrx lrx x y h1 h2 h3, decide_eq_true rfl]
              have hi1 := mayIs HM.out.1
              have hi2 := mayIs HM.out.2.1
              have b1 := rRaw_ctC (h1.kept kk7) hi1.len (fun f hf => ⟨(hi1.file f hf).2.1, (hi1.file f hf).2.2⟩)
              have hle1 := rawL_le HM.out.1
              have hle2 := rawL_le HM.out.2.1
              have b2 := fun (W : World) (k : Kept (fun _ => False) w W) => rRaw_ctC (h2.kept k) hi2.len (fun f hf => ⟨(hi2.file f hf).2.1, (hi2.file f hf).2.2⟩)
              obtain ⟨P, hP⟩ : ∃ P, rawL l1 = P := ⟨_, rfl⟩
              obtain ⟨Q, hQ⟩ : ∃ Q, rawL l2 = Q := ⟨_, rfl⟩
              rw [hP] at hne hle1 b1
              rw [hQ] at hne hle2 b2
              have rP : rootL P = rx := by rw [← hP]; exact HRR.out.1.symm
              have rQ : rootL Q = rx := by rw [← hQ]; exact HRR.out.2.symm
              have npq : (P != Q) = true := by simpa using hne
              have npq2 : (P == Q) = false := by simpa using hne
              have npq3 : decide (P = Q) = false := by simpa using hne
              have HPQ := Lib.hid (And.intro rP rQ)
              clear hP hQ rP rQ hne hi1 hi2
              go_wp2_with (first
                | (with_reducible refine wpl_load 27 _ rfl rfl ?_ lx ?_
                   · rfl
                   simp only [Act.put, List.getElem_toArray, List.getElem_cons_zero, List.getElem_cons_succ, List.setIfInBounds_toArray, List.set_cons_zero, List.set_cons_succ])
                | (with_reducible refine wpl_load 27 _ rfl rfl ?_ ly ?_
                   · rfl
                   simp only [Act.put, List.getElem_toArray, List.getElem_cons_zero, List.getElem_cons_succ, List.setIfInBounds_toArray, List.set_cons_zero, List.set_cons_succ])
                | (refine wpl_val rfl (ne _ _ _ _ rfl rfl rfl) ?_))
              refine b1.mono ?_
              rintro e W8 ⟨p1, rfl, hp1, k8⟩
              obtain ⟨pa, pc, hpv⟩ := hp1.1.slc
              subst hpv
              have kk8 := kk7.trans k8
              clear ne b1 lx ly
              go_wp2_with fail
              refine (b2 W8 kk8).mono ?_
              rintro e W9 ⟨p2, rfl, hp2, k9⟩
              obtain ⟨qa, qc, hqv⟩ := hp2.1.slc
              subst hqv
              have kk9 := kk8.trans k9
              have hp1' := hp1.kept k9
              have hx9 := hx.stay (k8.trans k9) not_false
              have cv1 := fun w' (q : Kept (fun _ => False) W9 w') => conv_str (hp1'.1.kept q)
              have cv2 := fun w' (q : Kept (fun _ => False) W9 w') => conv_str (hp2.1.kept q)
              clear b2 hp1 hx hy
              go_wp2_with fail
              refine wp_region_held_drew (S := (Kept (fun _ => False) W9)) (by kernel_rfl) ((Kept.refl _ W9).drew) (fun hHeld => ?_)
              refine held_q (v := ?_) (i := 0) rfl (by kernel_rfl) (by kernel_rfl) (by kernel_rfl) (fun _ _ _ h => h) (by rfl) hHeld ?_ ?_
              rotate_left
              · (intro w' hS'; go_simp <;> (with_reducible rfl))
              simp only [Act.put, List.getElem_toArray, List.getElem_cons_zero, List.getElem_cons_succ, List.setIfInBounds_toArray, List.set_cons_zero, List.set_cons_succ]
              refine held_q (i := 1) rfl (by kernel_rfl) (by kernel_rfl) (by kernel_rfl) (fun _ _ _ h => h) (by rfl) hHeld (fun w' hS' => exec_conv 32 9 _ rfl rfl (cv1 w' hS')) ?_
              simp only [Act.put, List.getElem_toArray, List.getElem_cons_zero, List.getElem_cons_succ, List.setIfInBounds_toArray, List.set_cons_zero, List.set_cons_succ]
              refine held_q (v := ?_) (i := 2) rfl (by kernel_rfl) (by kernel_rfl) (by kernel_rfl) (fun _ _ _ h => h) (by rfl) hHeld ?_ ?_
              rotate_left
              · (intro w' hS'; go_simp <;> (with_reducible rfl))
              simp only [Act.put, List.getElem_toArray, List.getElem_cons_zero, List.getElem_cons_succ, List.setIfInBounds_toArray, List.set_cons_zero, List.set_cons_succ]
              refine held_q (i := 3) rfl (by kernel_rfl) (by kernel_rfl) (by kernel_rfl) (fun _ _ _ h => h) (by rfl) hHeld (fun w' hS' => exec_conv 32 9 _ rfl rfl (cv2 w' hS')) ?_
              simp only [Act.put, List.getElem_toArray, List.getElem_cons_zero, List.getElem_cons_succ, List.setIfInBounds_toArray, List.set_cons_zero, List.set_cons_succ]
              refine held_q (v := ?_) (i := 4) rfl (by kernel_rfl) (by kernel_rfl) (by kernel_rfl) (fun _ _ _ h => h) (by rfl) hHeld ?_ ?_
              rotate_left
              · (intro w' hS'; go_simp <;> (with_reducible rfl))
              simp only [Act.put, List.getElem_toArray, List.getElem_cons_zero, List.getElem_cons_succ, List.setIfInBounds_toArray, List.set_cons_zero, List.set_cons_succ]
              refine held_q (v := ?_) (i := 5) rfl (by kernel_rfl) (by kernel_rfl) (by kernel_rfl) (fun _ _ _ h => h) (by rfl) hHeld ?_ ?_
              rotate_left
              · (intro w' hS'; go_simp <;> (with_reducible rfl))
              simp only [Act.put, List.getElem_toArray, List.getElem_cons_zero, List.getElem_cons_succ, List.setIfInBounds_toArray, List.set_cons_zero, List.set_cons_succ]
              refine held_q (v := ?_) (i := 6) rfl (by kernel_rfl) (by kernel_rfl) (by kernel_rfl) (fun _ _ _ h => h) (by rfl) hHeld ?_ ?_
              rotate_left
              · (intro w' hS'; go_simp <;> (with_reducible rfl))
              simp only [Act.put, List.getElem_toArray, List.getElem_cons_zero, List.getElem_cons_succ, List.setIfInBounds_toArray, List.set_cons_zero, List.set_cons_succ]
              refine held_q (i := 8) rfl (by kernel_rfl) (by kernel_rfl) (by kernel_rfl) (fun _ _ _ h => h) (by rfl) hHeld (fun w' hS' => exec_load 27 _ rfl rfl (ldDig (hx9.stay hS' not_false) (by rw [nv_len, lrx]))) ?_
              simp only [Act.put, List.getElem_toArray, List.getElem_cons_zero, List.getElem_cons_succ, List.setIfInBounds_toArray, List.set_cons_zero, List.set_cons_succ]
              have kd9 := (Kept.refl (fun _ => False) W9).drew
              have r1 := rRoot_ct (hp1'.kept kd9) hle1
              rw [HPQ.out.1] at r1
              refine held_c (i := 7) (f := 10) (args := #[.slice pa P.length pc]) (by kernel_rfl) rfl (by rfl) ?_ r1 ?_
              · (go_simp <;> rfl)
              rintro e W10 ⟨rfl, k10⟩
              have hHeld := hHeld.trans k10
              refine ⟨_, rfl, hHeld, ?_⟩
              simp only [Act.put, List.getElem_toArray, List.getElem_cons_zero, List.getElem_cons_succ, List.setIfInBounds_toArray, List.set_cons_zero, List.set_cons_succ]
              refine held_q (i := 9) rfl (by kernel_rfl) (by kernel_rfl) (by kernel_rfl) (fun _ _ _ h => h) (by rfl) hHeld (fun w' hS' => eqq _ _ w' _ _ rfl rfl rfl) ?_
              simp only [Act.put, List.getElem_toArray, List.getElem_cons_zero, List.getElem_cons_succ, List.setIfInBounds_toArray, List.set_cons_zero, List.set_cons_succ]
              refine held_q (v := ?_) (i := 10) rfl (by kernel_rfl) (by kernel_rfl) (by kernel_rfl) (fun _ _ _ h => h) (by rfl) hHeld ?_ ?_
              rotate_left
              · (intro w' hS'; go_simp <;> (with_reducible rfl))
              simp only [Act.put, List.getElem_toArray, List.getElem_cons_zero, List.getElem_cons_succ, List.setIfInBounds_toArray, List.set_cons_zero, List.set_cons_succ]
              refine held_q (v := ?_) (i := 11) rfl (by kernel_rfl) (by kernel_rfl) (by kernel_rfl) (fun _ _ _ h => h) (by rfl) hHeld ?_ ?_
              rotate_left
              · (intro w' hS'; go_simp <;> (with_reducible rfl))
              simp only [Act.put, List.getElem_toArray, List.getElem_cons_zero, List.getElem_cons_succ, List.setIfInBounds_toArray, List.set_cons_zero, List.set_cons_succ]
              refine held_q (v := ?_) (i := 12) rfl (by kernel_rfl) (by kernel_rfl) (by kernel_rfl) (fun _ _ _ h => h) (by rfl) hHeld ?_ ?_
              rotate_left
              · (intro w' hS'; go_simp <;> (with_reducible rfl))
              simp only [Act.put, List.getElem_toArray, List.getElem_cons_zero, List.getElem_cons_succ, List.setIfInBounds_toArray, List.set_cons_zero, List.set_cons_succ]
              refine held_q (i := 14) rfl (by kernel_rfl) (by kernel_rfl) (by kernel_rfl) (fun _ _ _ h => h) (by rfl) hHeld (fun w' hS' => exec_load 27 _ rfl rfl (ldDig (hx9.stay hS' not_false) (by rw [nv_len, lrx]))) ?_
              simp only [Act.put, List.getElem_toArray, List.getElem_cons_zero, List.getElem_cons_succ, List.setIfInBounds_toArray, List.set_cons_zero, List.set_cons_succ]
              have r2 := rRoot_ct (hp2.kept hHeld) hle2
              rw [HPQ.out.2] at r2
              refine held_c (i := 13) (f := 10) (args := #[.slice qa Q.length qc]) (by kernel_rfl) rfl (by rfl) ?_ r2 ?_
              · (go_simp <;> rfl)
              rintro e W11 ⟨rfl, k11⟩
              have hHeld := hHeld.trans k11
              refine ⟨_, rfl, hHeld, ?_⟩
              simp only [Act.put, List.getElem_toArray, List.getElem_cons_zero, List.getElem_cons_succ, List.setIfInBounds_toArray, List.set_cons_zero, List.set_cons_succ]
              refine held_q (i := 15) rfl (by kernel_rfl) (by kernel_rfl) (by kernel_rfl) (fun _ _ _ h => h) (by rfl) hHeld (fun w' hS' => eqq _ _ w' _ _ rfl rfl rfl) ?_
              simp only [Act.put, List.getElem_toArray, List.getElem_cons_zero, List.getElem_cons_succ, List.setIfInBounds_toArray, List.set_cons_zero, List.set_cons_succ]
              refine held_q (v := ?_) (i := 16) rfl (by kernel_rfl) (by kernel_rfl) (by kernel_rfl) (fun _ _ _ h => h) (by rfl) hHeld ?_ ?_
              rotate_left
              · (intro w' hS'; go_simp <;> (with_reducible rfl))
              simp only [Act.put, List.getElem_toArray, List.getElem_cons_zero, List.getElem_cons_succ, List.setIfInBounds_toArray, List.set_cons_zero, List.set_cons_succ]
              refine held_q (v := ?_) (i := 17) rfl (by kernel_rfl) (by kernel_rfl) (by kernel_rfl) (fun _ _ _ h => h) (by rfl) hHeld ?_ ?_
              rotate_left
              · (intro w' hS'; go_simp <;> (with_reducible rfl))
              simp only [Act.put, List.getElem_toArray, List.getElem_cons_zero, List.getElem_cons_succ, List.setIfInBounds_toArray, List.set_cons_zero, List.set_cons_succ]
              refine held_c (i := 18) (f := 6) (args := #[]) (by kernel_rfl) rfl (by rfl) ?_ (known_ct _) ?_
              · (go_simp <;> rfl)
              rintro e W12 ⟨rfl, k12⟩
              have hHeld := hHeld.trans k12
              refine ⟨_, rfl, hHeld, ?_⟩
              simp only [Act.put, List.getElem_toArray, List.getElem_cons_zero, List.getElem_cons_succ, List.setIfInBounds_toArray, List.set_cons_zero, List.set_cons_succ]
              refine held_q (v := ?_) (i := 19) rfl (by kernel_rfl) (by kernel_rfl) (by kernel_rfl) (fun _ _ _ h => h) (by rfl) hHeld ?_ ?_
              rotate_left
              · (intro w' hS'; go_simp <;> (with_reducible rfl))
              simp only [Act.put, List.getElem_toArray, List.getElem_cons_zero, List.getElem_cons_succ, List.setIfInBounds_toArray, List.set_cons_zero, List.set_cons_succ]
              refine held_q (v := ?_) (i := 20) rfl (by kernel_rfl) (by kernel_rfl) (by kernel_rfl) (fun _ _ _ h => h) (by rfl) hHeld ?_ ?_
              rotate_left
              · (intro w' hS'; go_simp <;> (with_reducible rfl))
              simp only [Act.put, List.getElem_toArray, List.getElem_cons_zero, List.getElem_cons_succ, List.setIfInBounds_toArray, List.set_cons_zero, List.set_cons_succ]
              refine wpAnyH_done (by kernel_rfl) ?_ _
              go_wp2_with fail
              go_ret
              exact ⟨rfl, kk9.trans hHeld⟩
            · have hd : decide (rx = ry) = false := decide_eq_false hxy
              have ne := fun (o : Oper) (c : Act) (x y : Operand) h1 h2 h3 => (neq_dg (w := W7) (o := o) (c := c) lrx lry x y h1 h2 h3)
              rw [hd] at ne
              clear hxy hne
              go_wp2_with (first
                | (with_reducible refine wpl_load 27 _ rfl rfl ?_ lx ?_
                   · rfl
                   simp only [Act.put, List.getElem_toArray, List.getElem_cons_zero, List.getElem_cons_succ, List.setIfInBounds_toArray, List.set_cons_zero, List.set_cons_succ])
                | (with_reducible refine wpl_load 27 _ rfl rfl ?_ ly ?_
                   · rfl
                   simp only [Act.put, List.getElem_toArray, List.getElem_cons_zero, List.getElem_cons_succ, List.setIfInBounds_toArray, List.set_cons_zero, List.set_cons_succ])
                | (refine wpl_val rfl (ne _ _ _ _ rfl rfl rfl) ?_))
              refine (known_ct _).mono ?_
              rintro e W9 ⟨rfl, k9⟩
              go_wp2_with fail
              go_ret
              exact ⟨rfl, (kk7).trans k9⟩
