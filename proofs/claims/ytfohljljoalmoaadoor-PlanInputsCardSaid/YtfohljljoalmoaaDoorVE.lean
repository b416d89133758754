/- The stable sort: symMerge where the right side is one file. -/
import Derived.Test.YtfohljljoalmoaaDoorVD
namespace Go.Proofs.YtfohljljoalmoaaDoor
open Go.RowKit Go.Sort
set_option maxRecDepth 100000
set_option linter.unusedSimpArgs false
set_option linter.unusedVariables false



set_option maxRecDepth 100000 in
set_option maxHeartbeats 4000000 in
theorem symB_ct {w0 w : World} {base g cap : Nat} {d : Array E} (h : SF w0 base g cap d w) (hd : d.size ≤ 1000) {a m : Nat} (hab : a + 1 < m) (hb : m + 1 ≤ d.size) (s1 : SortedIn ltE a m d) :
    Calls Tryd.prog SYM #[.slice (some ⟨g, 0, none⟩) d.size cap, .int .i64 a, .int .i64 m, .int .i64 (m + 1 : Nat), .func (.func 52) #[] #[]] w (SymPost w0 base g cap a (m + 1) d) := by
  obtain ⟨b, hm⟩ : ∃ b, b = m + 1 := ⟨_, rfl⟩
  rw [← hm] at hb ⊢
  obtain ⟨ma, hma⟩ : ∃ x, x = m - a := ⟨_, rfl⟩
  have w1 : IntKind.i64.wrap ((m : Int) - (a : Int)) = (ma : Int) := by rw [IntWalk.i64_in _ (by omega)]; omega
  have w2 : IntKind.i64.wrap ((b : Int) - (m : Int)) = 1 := by rw [IntWalk.i64_in _ (by omega)]; omega
  have n1 : ((ma : Int) == 1) = false := by simp; omega
  have H0 := Lib.hid (And.intro h s1)
  have HM := Lib.hid hm
  have ham : a < m ∧ m < b := by omega
  clear h s1 hm hma
  unfold SYM
  go_enter Tryd.func86, Tryd.ntmps86
  go_wp2_with fail
  go_loopw [14, 15] (fun vi vj wr => ∃ (i j : Nat), vi = .int .i64 i ∧ vj = .int .i64 j ∧ (a ≤ i ∧ i ≤ j ∧ j ≤ m) ∧ Hid (SF w0 base g cap d wr ∧ (i = a ∨ ltE d[m]! d[i - 1]! = false) ∧ (j = m ∨ ltE d[m]! d[j]! = true))) (fun vi vj _ => (intOf vj).toNat - (intOf vi).toNat)
  case atStart => exact ⟨a, m, rfl, rfl, by omega, H0.out.1, .inl rfl, .inl rfl⟩
  case round =>
    obtain ⟨i, j, rfl, rfl, hij, HR⟩ := hrel
    by_cases hlt : i < j
    · obtain ⟨hS, q1, q2⟩ := HR.out
      obtain ⟨c, hc⟩ : ∃ c : Nat, c = (i + j) / 2 := ⟨_, rfl⟩
      have wij : IntKind.i64.wrap ((i : Int) + (j : Int)) = ((i + j : Nat) : Int) := by rw [IntWalk.i64_in _ (by omega)]; omega
      have hmi : ((i : Int) + (j : Int)) / 2 = (c : Int) := by omega
      have hcl : c < d.size := by omega
      have hml : m < d.size := by omega
      have HC := Lib.hid (show i ≤ c ∧ c < j by omega)
      have ld1 := fun w' hk => hS.load hml w' hk
      have ld2 := fun w' hk => hS.load hcl w' hk
      clear hc
      have cc := fun w' => join1_ct (w := w') d[m]! d[c]!
      have hcv := cmpI_neg d[m]!.1.1 d[c]!.1.1
      have hlte : ltB d[m]!.1.1 d[c]!.1.1 = ltE d[m]! d[c]! := rfl
      rw [hlte] at hcv
      obtain ⟨cv, hcve⟩ : ∃ cv, cv = cmpI d[m]!.1.1 d[c]!.1.1 := ⟨_, rfl⟩
      rw [← hcve] at hcv cc
      obtain ⟨xh, hxh⟩ : ∃ x, x = d[m]! := ⟨_, rfl⟩
      obtain ⟨xa, hxa⟩ : ∃ x, x = d[c]! := ⟨_, rfl⟩
      rw [← hxh] at ld1 cc
      rw [← hxa] at ld2 cc
      clear hcve hxh hxa hlte
      have lc : (c : Int) < (d.size : Int) := by omega
      have la : (m : Int) < (d.size : Int) := by omega
      cases htv : ltE d[m]! d[c]! with
      | false =>
        rw [htv] at hcv
        have HX : ∀ W', Kept (fun _ => False) wr W' → Hid (SF w0 base g cap d W' ∧ (c + 1 = a ∨ ltE d[m]! d[c + 1 - 1]! = false) ∧ (j = m ∨ ltE d[m]! d[j]! = true)) := fun W' hk => ⟨hS.later hk, .inr (by rw [Nat.add_sub_cancel]; exact htv), q2⟩
        have HX := Lib.hid HX
        have wm1 : IntKind.i64.wrap ((c : Int) + 1) = ((c + 1 : Nat) : Int) := by rw [IntWalk.i64_in _ (by omega)]; omega
        clear hS q1 q2 HR htv
        go_wp2_with fail
        refine wp_region_held_drew (S := (Kept (fun _ => False) wr)) (by kernel_rfl) ((Kept.refl _ wr).drew) (fun hHeld => ?_)
        refine held_q (v := ?_) (i := 0) rfl (by kernel_rfl) (by kernel_rfl) (by kernel_rfl) (fun _ _ _ h => h) (by rfl) hHeld ?_ ?_
        rotate_left
        · (intro w' hS'; go_simp <;> (with_reducible rfl))
        simp only [Act.put, List.getElem_toArray, List.getElem_cons_zero, List.getElem_cons_succ, List.setIfInBounds_toArray, List.set_cons_zero, List.set_cons_succ]
        refine held_q (v := ?_) (i := 1) rfl (by kernel_rfl) (by kernel_rfl) (by kernel_rfl) (fun _ _ _ h => h) (by rfl) hHeld ?_ ?_
        rotate_left
        · (intro w' hS'; go_simp <;> (with_reducible rfl))
        simp only [Act.put, List.getElem_toArray, List.getElem_cons_zero, List.getElem_cons_succ, List.setIfInBounds_toArray, List.set_cons_zero, List.set_cons_succ]
        refine held_q (v := ?_) (i := 2) rfl (by kernel_rfl) (by kernel_rfl) (by kernel_rfl) (fun _ _ _ h => h) (by rfl) hHeld ?_ ?_
        rotate_left
        · (intro w' hS'; go_simp <;> (with_reducible rfl))
        simp only [Act.put, List.getElem_toArray, List.getElem_cons_zero, List.getElem_cons_succ, List.setIfInBounds_toArray, List.set_cons_zero, List.set_cons_succ]
        refine held_q (v := ?_) (i := 3) rfl (by kernel_rfl) (by kernel_rfl) (by kernel_rfl) (fun _ _ _ h => h) (by rfl) hHeld ?_ ?_
        rotate_left
        · (intro w' hS'; go_simp <;> (with_reducible rfl))
        simp only [Act.put, List.getElem_toArray, List.getElem_cons_zero, List.getElem_cons_succ, List.setIfInBounds_toArray, List.set_cons_zero, List.set_cons_succ]
        refine held_q (i := 4) rfl (by kernel_rfl) (by kernel_rfl) (by kernel_rfl) (fun _ _ _ h => h) (by rfl) hHeld (fun w' hS' => exec_load 46 _ rfl rfl (ld1 w' hS')) ?_
        simp only [Act.put, List.getElem_toArray, List.getElem_cons_zero, List.getElem_cons_succ, List.setIfInBounds_toArray, List.set_cons_zero, List.set_cons_succ]
        refine held_q (v := ?_) (i := 5) rfl (by kernel_rfl) (by kernel_rfl) (by kernel_rfl) (fun _ _ _ h => h) (by rfl) hHeld ?_ ?_
        rotate_left
        · (intro w' hS'; go_simp <;> (with_reducible rfl))
        simp only [Act.put, List.getElem_toArray, List.getElem_cons_zero, List.getElem_cons_succ, List.setIfInBounds_toArray, List.set_cons_zero, List.set_cons_succ]
        refine held_q (v := ?_) (i := 6) rfl (by kernel_rfl) (by kernel_rfl) (by kernel_rfl) (fun _ _ _ h => h) (by rfl) hHeld ?_ ?_
        rotate_left
        · (intro w' hS'; go_simp <;> (with_reducible rfl))
        simp only [Act.put, List.getElem_toArray, List.getElem_cons_zero, List.getElem_cons_succ, List.setIfInBounds_toArray, List.set_cons_zero, List.set_cons_succ]
        refine held_q (v := ?_) (i := 7) rfl (by kernel_rfl) (by kernel_rfl) (by kernel_rfl) (fun _ _ _ h => h) (by rfl) hHeld ?_ ?_
        rotate_left
        · (intro w' hS'; go_simp <;> (with_reducible rfl))
        simp only [Act.put, List.getElem_toArray, List.getElem_cons_zero, List.getElem_cons_succ, List.setIfInBounds_toArray, List.set_cons_zero, List.set_cons_succ]
        refine held_q (i := 8) rfl (by kernel_rfl) (by kernel_rfl) (by kernel_rfl) (fun _ _ _ h => h) (by rfl) hHeld (fun w' hS' => exec_load 46 _ rfl rfl (ld2 w' hS')) ?_
        simp only [Act.put, List.getElem_toArray, List.getElem_cons_zero, List.getElem_cons_succ, List.setIfInBounds_toArray, List.set_cons_zero, List.set_cons_succ]
        refine held_c (i := 9) (f := 52) (args := #[aggE xh, aggE xa]) (by kernel_rfl) rfl (by rfl) ?_ (cc _) ?_
        · (go_simp <;> rfl)
        rintro e W8 ⟨rfl, kq⟩
        have hHeld := hHeld.trans kq
        refine ⟨_, rfl, hHeld, ?_⟩
        simp only [Act.put, List.getElem_toArray, List.getElem_cons_zero, List.getElem_cons_succ, List.setIfInBounds_toArray, List.set_cons_zero, List.set_cons_succ]
        refine held_q (v := ?_) (i := 10) rfl (by kernel_rfl) (by kernel_rfl) (by kernel_rfl) (fun _ _ _ h => h) (by rfl) hHeld ?_ ?_
        rotate_left
        · (intro w' hS'; go_simp <;> (with_reducible rfl))
        simp only [Act.put, List.getElem_toArray, List.getElem_cons_zero, List.getElem_cons_succ, List.setIfInBounds_toArray, List.set_cons_zero, List.set_cons_succ]
        refine held_q (v := ?_) (i := 11) rfl (by kernel_rfl) (by kernel_rfl) (by kernel_rfl) (fun _ _ _ h => h) (by rfl) hHeld ?_ ?_
        rotate_left
        · (intro w' hS'; go_simp <;> (with_reducible rfl))
        simp only [Act.put, List.getElem_toArray, List.getElem_cons_zero, List.getElem_cons_succ, List.setIfInBounds_toArray, List.set_cons_zero, List.set_cons_succ]
        refine wpAnyH_done (by kernel_rfl) ?_ _
        go_wp2_with fail
        obtain ⟨c1, c2⟩ := HC.out
        go_roundw
        case rel => exact ⟨c + 1, j, by go_num, rfl, by omega, HX.out _ hHeld⟩
        case measure => simp [intOf]; omega
      | true =>
        rw [htv] at hcv
        have HX : ∀ W', Kept (fun _ => False) wr W' → Hid (SF w0 base g cap d W' ∧ (i = a ∨ ltE d[m]! d[i - 1]! = false) ∧ (c = m ∨ ltE d[m]! d[c]! = true)) := fun W' hk => ⟨hS.later hk, q1, .inr htv⟩
        have HX := Lib.hid HX
        clear hS q1 q2 HR htv
        go_wp2_with fail
        refine wp_region_held_drew (S := (Kept (fun _ => False) wr)) (by kernel_rfl) ((Kept.refl _ wr).drew) (fun hHeld => ?_)
        refine held_q (v := ?_) (i := 0) rfl (by kernel_rfl) (by kernel_rfl) (by kernel_rfl) (fun _ _ _ h => h) (by rfl) hHeld ?_ ?_
        rotate_left
        · (intro w' hS'; go_simp <;> (with_reducible rfl))
        simp only [Act.put, List.getElem_toArray, List.getElem_cons_zero, List.getElem_cons_succ, List.setIfInBounds_toArray, List.set_cons_zero, List.set_cons_succ]
        refine held_q (v := ?_) (i := 1) rfl (by kernel_rfl) (by kernel_rfl) (by kernel_rfl) (fun _ _ _ h => h) (by rfl) hHeld ?_ ?_
        rotate_left
        · (intro w' hS'; go_simp <;> (with_reducible rfl))
        simp only [Act.put, List.getElem_toArray, List.getElem_cons_zero, List.getElem_cons_succ, List.setIfInBounds_toArray, List.set_cons_zero, List.set_cons_succ]
        refine held_q (v := ?_) (i := 2) rfl (by kernel_rfl) (by kernel_rfl) (by kernel_rfl) (fun _ _ _ h => h) (by rfl) hHeld ?_ ?_
        rotate_left
        · (intro w' hS'; go_simp <;> (with_reducible rfl))
        simp only [Act.put, List.getElem_toArray, List.getElem_cons_zero, List.getElem_cons_succ, List.setIfInBounds_toArray, List.set_cons_zero, List.set_cons_succ]
        refine held_q (v := ?_) (i := 3) rfl (by kernel_rfl) (by kernel_rfl) (by kernel_rfl) (fun _ _ _ h => h) (by rfl) hHeld ?_ ?_
        rotate_left
        · (intro w' hS'; go_simp <;> (with_reducible rfl))
        simp only [Act.put, List.getElem_toArray, List.getElem_cons_zero, List.getElem_cons_succ, List.setIfInBounds_toArray, List.set_cons_zero, List.set_cons_succ]
        refine held_q (i := 4) rfl (by kernel_rfl) (by kernel_rfl) (by kernel_rfl) (fun _ _ _ h => h) (by rfl) hHeld (fun w' hS' => exec_load 46 _ rfl rfl (ld1 w' hS')) ?_
        simp only [Act.put, List.getElem_toArray, List.getElem_cons_zero, List.getElem_cons_succ, List.setIfInBounds_toArray, List.set_cons_zero, List.set_cons_succ]
        refine held_q (v := ?_) (i := 5) rfl (by kernel_rfl) (by kernel_rfl) (by kernel_rfl) (fun _ _ _ h => h) (by rfl) hHeld ?_ ?_
        rotate_left
        · (intro w' hS'; go_simp <;> (with_reducible rfl))
        simp only [Act.put, List.getElem_toArray, List.getElem_cons_zero, List.getElem_cons_succ, List.setIfInBounds_toArray, List.set_cons_zero, List.set_cons_succ]
        refine held_q (v := ?_) (i := 6) rfl (by kernel_rfl) (by kernel_rfl) (by kernel_rfl) (fun _ _ _ h => h) (by rfl) hHeld ?_ ?_
        rotate_left
        · (intro w' hS'; go_simp <;> (with_reducible rfl))
        simp only [Act.put, List.getElem_toArray, List.getElem_cons_zero, List.getElem_cons_succ, List.setIfInBounds_toArray, List.set_cons_zero, List.set_cons_succ]
        refine held_q (v := ?_) (i := 7) rfl (by kernel_rfl) (by kernel_rfl) (by kernel_rfl) (fun _ _ _ h => h) (by rfl) hHeld ?_ ?_
        rotate_left
        · (intro w' hS'; go_simp <;> (with_reducible rfl))
        simp only [Act.put, List.getElem_toArray, List.getElem_cons_zero, List.getElem_cons_succ, List.setIfInBounds_toArray, List.set_cons_zero, List.set_cons_succ]
        refine held_q (i := 8) rfl (by kernel_rfl) (by kernel_rfl) (by kernel_rfl) (fun _ _ _ h => h) (by rfl) hHeld (fun w' hS' => exec_load 46 _ rfl rfl (ld2 w' hS')) ?_
        simp only [Act.put, List.getElem_toArray, List.getElem_cons_zero, List.getElem_cons_succ, List.setIfInBounds_toArray, List.set_cons_zero, List.set_cons_succ]
        refine held_c (i := 9) (f := 52) (args := #[aggE xh, aggE xa]) (by kernel_rfl) rfl (by rfl) ?_ (cc _) ?_
        · (go_simp <;> rfl)
        rintro e W8 ⟨rfl, kq⟩
        have hHeld := hHeld.trans kq
        refine ⟨_, rfl, hHeld, ?_⟩
        simp only [Act.put, List.getElem_toArray, List.getElem_cons_zero, List.getElem_cons_succ, List.setIfInBounds_toArray, List.set_cons_zero, List.set_cons_succ]
        refine held_q (v := ?_) (i := 10) rfl (by kernel_rfl) (by kernel_rfl) (by kernel_rfl) (fun _ _ _ h => h) (by rfl) hHeld ?_ ?_
        rotate_left
        · (intro w' hS'; go_simp <;> (with_reducible rfl))
        simp only [Act.put, List.getElem_toArray, List.getElem_cons_zero, List.getElem_cons_succ, List.setIfInBounds_toArray, List.set_cons_zero, List.set_cons_succ]
        refine held_q (v := ?_) (i := 11) rfl (by kernel_rfl) (by kernel_rfl) (by kernel_rfl) (fun _ _ _ h => h) (by rfl) hHeld ?_ ?_
        rotate_left
        · (intro w' hS'; go_simp <;> (with_reducible rfl))
        simp only [Act.put, List.getElem_toArray, List.getElem_cons_zero, List.getElem_cons_succ, List.setIfInBounds_toArray, List.set_cons_zero, List.set_cons_succ]
        refine wpAnyH_done (by kernel_rfl) ?_ _
        go_wp2_with fail
        obtain ⟨c1, c2⟩ := HC.out
        go_roundw
        case rel => exact ⟨i, c, rfl, by go_num, by omega, HX.out _ hHeld⟩
        case measure => simp [intOf]; omega
    · obtain rfl : i = j := by omega
      have HR2 := HR
      generalize wr = wr0 at HR2 ⊢
      clear HR
      go_wp2_with fail
      go_loopw [17] (fun vk wr => ∃ (k : Nat) (D : Array E), vk = .int .i64 k ∧ (i ≤ k ∧ k ≤ m) ∧ D.size = d.size ∧ Hid (SF w0 base g cap D wr ∧ PermIn a b d D ∧ (∀ t, k < t → t ≤ m → D[t]! = d[t - 1]!) ∧ D[k]! = d[m]! ∧ (∀ t, t < k ∨ m < t → D[t]! = d[t]!))) (fun vk _ => (intOf vk).toNat)
      case atStart => exact ⟨m, d, rfl, by omega, rfl, HR2.out.1, permIn_refl _ _ _, fun t q1 q2 => by omega, rfl, fun t _ => rfl⟩
      case round =>
        obtain ⟨k, D, rfl, hk, hds, HK⟩ := hrel
        by_cases hkp : i < k
        · obtain ⟨hS, hP, e1, e2, e3⟩ := HK.out
          obtain ⟨p, hp⟩ : ∃ p, k = p + 1 := ⟨k - 1, by omega⟩
          subst hp
          have wk1 : IntKind.i64.wrap (((p + 1 : Nat) : Int) - 1) = (p : Int) := by rw [IntWalk.i64_in _ (by omega)]; omega
          have wk2 : IntKind.i64.wrap (((p : Int) + 1) - 1) = (p : Int) := by rw [IntWalk.i64_in _ (by omega)]; omega
          have wk3 : IntKind.i64.wrap (p : Int) = (p : Int) := IntWalk.i64_in _ (by omega)
          have hl1 : p + 1 < D.size := by omega
          have hl2 : p < D.size := by omega
          have ld1 := hS.load hl2 wr.drew (Kept.refl _ wr).drew
          have ld2 := hS.load hl1 wr.drew (Kept.refl _ wr).drew
          obtain ⟨w1, w2, st1, st2, ks1, ks2, hS2⟩ := (hS.later (Kept.refl _ wr).drew).swap hl1 hl2 (hS.2.size)
          have HN : Hid (SF w0 base g cap (swp D (p + 1) p) w2 ∧ PermIn a b d (swp D (p + 1) p) ∧ (∀ t, p < t → t ≤ m → (swp D (p + 1) p)[t]! = d[t - 1]!) ∧ (swp D (p + 1) p)[p]! = d[m]! ∧ (∀ t, t < p ∨ m < t → (swp D (p + 1) p)[t]! = d[t]!)) := by
            refine ⟨hS2, permIn_trans _ _ _ _ _ hP (swp_permIn D a b (p + 1) p (by omega) (by omega) (by omega) (by omega) (by omega)), fun t q1 q2 => ?_, ?_, fun t q => ?_⟩
            · by_cases e : t = p + 1
              · subst e; rw [swp_left D (p + 1) p hl1 (by omega), Nat.add_sub_cancel]; exact e3 p (by omega)
              · rw [swp_other D (p + 1) p t e (by omega)]; exact e1 t (by omega) q2
            · rw [swp_right D (p + 1) p hl2]; exact e2
            · rw [swp_other D (p + 1) p t (by omega) (by omega)]; exact e3 t (by omega)
          have hsz : (swp D (p + 1) p).size = d.size := by rw [size_swp]; exact hds
          clear hS hP e1 e2 e3 hS2 HK
          generalize swp D (p + 1) p = D2 at HN hsz
          unfold aggE at ld1 ld2 st1 st2
          generalize D[p + 1]!.1 = xa at ld2 st2
          generalize D[p]!.1 = xb at ld1 st1
          have l1 : (p : Int) + 1 < (d.size : Int) := by omega
          have p0 : (0 : Int) ≤ (p : Int) + 1 := by omega
          have l2 : p < d.size := by omega
          have l3 : p + 1 < d.size := by omega
          go_wp2_with fail
          refine wp_region_held_drew (S := (Kept (fun k => k = g) wr.drew)) (by kernel_rfl) ((Kept.refl _ wr.drew)) (fun hHeld => ?_)
          refine held_q (v := ?_) (i := 0) rfl (by kernel_rfl) (by kernel_rfl) (by kernel_rfl) (fun _ _ _ h => h) (by rfl) hHeld ?_ ?_
          rotate_left
          · (intro w' hS'; go_simp <;> (with_reducible rfl))
          simp only [Act.put, List.getElem_toArray, List.getElem_cons_zero, List.getElem_cons_succ, List.setIfInBounds_toArray, List.set_cons_zero, List.set_cons_succ]
          refine held_q (v := ?_) (i := 1) rfl (by kernel_rfl) (by kernel_rfl) (by kernel_rfl) (fun _ _ _ h => h) (by rfl) hHeld ?_ ?_
          rotate_left
          · (intro w' hS'; go_simp <;> (with_reducible rfl))
          simp only [Act.put, List.getElem_toArray, List.getElem_cons_zero, List.getElem_cons_succ, List.setIfInBounds_toArray, List.set_cons_zero, List.set_cons_succ]
          refine held_q (v := ?_) (i := 2) rfl (by kernel_rfl) (by kernel_rfl) (by kernel_rfl) (fun _ _ _ h => h) (by rfl) hHeld ?_ ?_
          rotate_left
          · (intro w' hS'; go_simp <;> (with_reducible rfl))
          simp only [Act.put, List.getElem_toArray, List.getElem_cons_zero, List.getElem_cons_succ, List.setIfInBounds_toArray, List.set_cons_zero, List.set_cons_succ]
          refine held_q (v := ?_) (i := 3) rfl (by kernel_rfl) (by kernel_rfl) (by kernel_rfl) (fun _ _ _ h => h) (by rfl) hHeld ?_ ?_
          rotate_left
          · (intro w' hS'; go_simp <;> (with_reducible rfl))
          simp only [Act.put, List.getElem_toArray, List.getElem_cons_zero, List.getElem_cons_succ, List.setIfInBounds_toArray, List.set_cons_zero, List.set_cons_succ]
          refine held_q (v := ?_) (i := 4) rfl (by kernel_rfl) (by kernel_rfl) (by kernel_rfl) (fun _ _ _ h => h) (by rfl) hHeld ?_ ?_
          rotate_left
          · (intro w' hS'; go_simp <;> (with_reducible rfl))
          simp only [Act.put, List.getElem_toArray, List.getElem_cons_zero, List.getElem_cons_succ, List.setIfInBounds_toArray, List.set_cons_zero, List.set_cons_succ]
          refine held_q (v := ?_) (i := 5) rfl (by kernel_rfl) (by kernel_rfl) (by kernel_rfl) (fun _ _ _ h => h) (by rfl) hHeld ?_ ?_
          rotate_left
          · (intro w' hS'; go_simp <;> (with_reducible rfl))
          simp only [Act.put, List.getElem_toArray, List.getElem_cons_zero, List.getElem_cons_succ, List.setIfInBounds_toArray, List.set_cons_zero, List.set_cons_succ]
          refine held_q (v := ?_) (i := 6) rfl (by kernel_rfl) (by kernel_rfl) (by kernel_rfl) (fun _ _ _ h => h) (by rfl) hHeld ?_ ?_
          rotate_left
          · (intro w' hS'; go_simp <;> (with_reducible rfl))
          simp only [Act.put, List.getElem_toArray, List.getElem_cons_zero, List.getElem_cons_succ, List.setIfInBounds_toArray, List.set_cons_zero, List.set_cons_succ]
          refine held_q (v := ?_) (i := 7) rfl (by kernel_rfl) (by kernel_rfl) (by kernel_rfl) (fun _ _ _ h => h) (by rfl) hHeld ?_ ?_
          rotate_left
          · (intro w' hS'; go_simp <;> (with_reducible rfl))
          simp only [Act.put, List.getElem_toArray, List.getElem_cons_zero, List.getElem_cons_succ, List.setIfInBounds_toArray, List.set_cons_zero, List.set_cons_succ]
          refine held_q (v := ?_) (i := 8) rfl (by kernel_rfl) (by kernel_rfl) (by kernel_rfl) (fun _ _ _ h => h) (by rfl) hHeld ?_ ?_
          rotate_left
          · (intro w' hS'; go_simp <;> (with_reducible rfl))
          simp only [Act.put, List.getElem_toArray, List.getElem_cons_zero, List.getElem_cons_succ, List.setIfInBounds_toArray, List.set_cons_zero, List.set_cons_succ]
          refine held_q (v := ?_) (i := 10) rfl (by kernel_rfl) (by kernel_rfl) (by kernel_rfl) (fun _ _ _ h => h) (by rfl) hHeld ?_ ?_
          rotate_left
          · (intro w' hS'; go_simp <;> (with_reducible rfl))
          simp only [Act.put, List.getElem_toArray, List.getElem_cons_zero, List.getElem_cons_succ, List.setIfInBounds_toArray, List.set_cons_zero, List.set_cons_succ]
          refine held_q (v := ?_) (i := 11) rfl (by kernel_rfl) (by kernel_rfl) (by kernel_rfl) (fun _ _ _ h => h) (by rfl) hHeld ?_ ?_
          rotate_left
          · (intro w' hS'; go_simp <;> (with_reducible rfl))
          simp only [Act.put, List.getElem_toArray, List.getElem_cons_zero, List.getElem_cons_succ, List.setIfInBounds_toArray, List.set_cons_zero, List.set_cons_succ]
          refine held_q (v := ?_) (i := 12) rfl (by kernel_rfl) (by kernel_rfl) (by kernel_rfl) (fun _ _ _ h => h) (by rfl) hHeld ?_ ?_
          rotate_left
          · (intro w' hS'; go_simp <;> (with_reducible rfl))
          simp only [Act.put, List.getElem_toArray, List.getElem_cons_zero, List.getElem_cons_succ, List.setIfInBounds_toArray, List.set_cons_zero, List.set_cons_succ]
          refine held_two (i := 9) (j := 13) (by kernel_rfl) rfl rfl (by rfl) (by rfl) (exec_load 46 _ rfl rfl ld1) (exec_load 46 _ rfl rfl ld2) (Kept.refl _ _) (Kept.refl _ _) (fun hHeld => ?_) (fun hHeld => ?_)
          · simp only [Act.put, List.getElem_toArray, List.getElem_cons_zero, List.getElem_cons_succ, List.setIfInBounds_toArray, List.set_cons_zero, List.set_cons_succ]
            refine held_v (i := 13) (by kernel_rfl) rfl (by rfl) (exec_load 46 _ rfl rfl ld2) (Kept.refl _ _) (fun hHeld => ?_)
            simp only [Act.put, List.getElem_toArray, List.getElem_cons_zero, List.getElem_cons_succ, List.setIfInBounds_toArray, List.set_cons_zero, List.set_cons_succ]
            refine held_q (v := ?_) (i := 14) rfl (by kernel_rfl) (by kernel_rfl) (by kernel_rfl) (fun _ _ _ h => h) (by rfl) hHeld ?_ ?_
            rotate_left
            · (intro w' hS'; go_simp <;> (with_reducible rfl))
            simp only [Act.put, List.getElem_toArray, List.getElem_cons_zero, List.getElem_cons_succ, List.setIfInBounds_toArray, List.set_cons_zero, List.set_cons_succ]
            refine held_s (i := 15) (w1 := w1) (by kernel_rfl) rfl (by rfl) (exec_store 46 _ _ rfl rfl rfl st1) ks1 (fun hHeld => ?_)
            simp only [Act.put, List.getElem_toArray, List.getElem_cons_zero, List.getElem_cons_succ, List.setIfInBounds_toArray, List.set_cons_zero, List.set_cons_succ]
            refine held_q (v := ?_) (i := 16) rfl (by kernel_rfl) (by kernel_rfl) (by kernel_rfl) (fun _ _ _ h => h) (by rfl) hHeld ?_ ?_
            rotate_left
            · (intro w' hS'; go_simp <;> (with_reducible rfl))
            simp only [Act.put, List.getElem_toArray, List.getElem_cons_zero, List.getElem_cons_succ, List.setIfInBounds_toArray, List.set_cons_zero, List.set_cons_succ]
            refine held_s (i := 17) (w1 := w2) (by kernel_rfl) rfl (by rfl) (exec_store 46 _ _ rfl rfl rfl st2) ks2 (fun hHeld => ?_)
            simp only [Act.put, List.getElem_toArray, List.getElem_cons_zero, List.getElem_cons_succ, List.setIfInBounds_toArray, List.set_cons_zero, List.set_cons_succ]
            refine wpAnyH_done (by kernel_rfl) ?_ _
            (go_wp2_with fail; go_roundw; (case rel => exact ⟨p, D2, by go_num, by omega, hsz, HN⟩); (case measure => simp [intOf]))
          · simp only [Act.put, List.getElem_toArray, List.getElem_cons_zero, List.getElem_cons_succ, List.setIfInBounds_toArray, List.set_cons_zero, List.set_cons_succ]
            refine held_v (i := 9) (by kernel_rfl) rfl (by rfl) (exec_load 46 _ rfl rfl ld1) (Kept.refl _ _) (fun hHeld => ?_)
            simp only [Act.put, List.getElem_toArray, List.getElem_cons_zero, List.getElem_cons_succ, List.setIfInBounds_toArray, List.set_cons_zero, List.set_cons_succ]
            refine held_q (v := ?_) (i := 14) rfl (by kernel_rfl) (by kernel_rfl) (by kernel_rfl) (fun _ _ _ h => h) (by rfl) hHeld ?_ ?_
            rotate_left
            · (intro w' hS'; go_simp <;> (with_reducible rfl))
            simp only [Act.put, List.getElem_toArray, List.getElem_cons_zero, List.getElem_cons_succ, List.setIfInBounds_toArray, List.set_cons_zero, List.set_cons_succ]
            refine held_s (i := 15) (w1 := w1) (by kernel_rfl) rfl (by rfl) (exec_store 46 _ _ rfl rfl rfl st1) ks1 (fun hHeld => ?_)
            simp only [Act.put, List.getElem_toArray, List.getElem_cons_zero, List.getElem_cons_succ, List.setIfInBounds_toArray, List.set_cons_zero, List.set_cons_succ]
            refine held_q (v := ?_) (i := 16) rfl (by kernel_rfl) (by kernel_rfl) (by kernel_rfl) (fun _ _ _ h => h) (by rfl) hHeld ?_ ?_
            rotate_left
            · (intro w' hS'; go_simp <;> (with_reducible rfl))
            simp only [Act.put, List.getElem_toArray, List.getElem_cons_zero, List.getElem_cons_succ, List.setIfInBounds_toArray, List.set_cons_zero, List.set_cons_succ]
            refine held_s (i := 17) (w1 := w2) (by kernel_rfl) rfl (by rfl) (exec_store 46 _ _ rfl rfl rfl st2) ks2 (fun hHeld => ?_)
            simp only [Act.put, List.getElem_toArray, List.getElem_cons_zero, List.getElem_cons_succ, List.setIfInBounds_toArray, List.set_cons_zero, List.set_cons_succ]
            refine wpAnyH_done (by kernel_rfl) ?_ _
            (go_wp2_with fail; go_roundw; (case rel => exact ⟨p, D2, by go_num, by omega, hsz, HN⟩); (case measure => simp [intOf]))
        · obtain rfl : k = i := by omega
          obtain ⟨hS, hP, e1, e2, e3⟩ := HK.out
          have hm := HM.out
          obtain ⟨_, q1, q2⟩ := HR2.out
          have s1 := H0.out.2
          subst hm
          have hso : SortedIn ltE a (m + 1) D := sym_right (i := k) s1 (by omega) (by omega) q1 q2 e1 e2 (fun t ht => e3 t (by omega))
          clear e1 e2 e3 s1 H0
          go_wp2_with fail
          go_end0
          exact ⟨rfl, D, hS, hP, hso⟩
end Go.Proofs.YtfohljljoalmoaaDoor
