/- The stable sort: symMerge where one side is one file. -/
import Derived.Test.YtfohljljoalmoaaDoorVC
namespace Go.Proofs.YtfohljljoalmoaaDoor
open Go.RowKit Go.Sort
set_option maxRecDepth 100000
set_option linter.unusedSimpArgs false
set_option linter.unusedVariables false

def SYM : FuncId := 86
def SymPost (w0 : World) (base g cap a b : Nat) (d : Array E) (e : Ending) (w' : World) : Prop := e = .returned (.tuple #[]) ∧ ∃ D, SF w0 base g cap D w' ∧ PermIn a b d D ∧ SortedIn ltE a b D


set_option maxRecDepth 100000 in
set_option maxHeartbeats 4000000 in
theorem symA_ct {w0 w : World} {base g cap : Nat} {d : Array E} (h : SF w0 base g cap d w) (hd : d.size ≤ 1000) {a b : Nat} (hab : a + 1 < b) (hb : b ≤ d.size) (s2 : SortedIn ltE (a + 1) b d) :
    Calls Tryd.prog SYM #[.slice (some ⟨g, 0, none⟩) d.size cap, .int .i64 a, .int .i64 (a + 1 : Nat), .int .i64 b, .func (.func 52) #[] #[]] w (SymPost w0 base g cap a b d) := by
  obtain ⟨m, hm⟩ : ∃ m, m = a + 1 := ⟨_, rfl⟩
  rw [← hm] at hab s2 ⊢
  have w1 : IntKind.i64.wrap ((m : Int) - (a : Int)) = 1 := by rw [IntWalk.i64_in _ (by omega)]; omega
  have H0 := Lib.hid (And.intro h s2)
  have HM := Lib.hid hm
  have hma : a < m := by omega
  clear h s2 hm
  unfold SYM
  go_enter Tryd.func86, Tryd.ntmps86
  go_wp2_with fail
  go_loopw [10, 11] (fun vi vj wr => ∃ (i j : Nat), vi = .int .i64 i ∧ vj = .int .i64 j ∧ (m ≤ i ∧ i ≤ j ∧ j ≤ b) ∧ Hid (SF w0 base g cap d wr ∧ (i = m ∨ ltE d[i - 1]! d[a]! = true) ∧ (j = b ∨ ltE d[j]! d[a]! = false))) (fun vi vj _ => (intOf vj).toNat - (intOf vi).toNat)
  case atStart => exact ⟨m, b, rfl, rfl, by omega, H0.out.1, .inl rfl, .inl rfl⟩
  case round =>
    obtain ⟨i, j, rfl, rfl, hij, HR⟩ := hrel
    by_cases hlt : i < j
    · obtain ⟨hS, q1, q2⟩ := HR.out
      obtain ⟨c, hc⟩ : ∃ c : Nat, c = (i + j) / 2 := ⟨_, rfl⟩
      have wij : IntKind.i64.wrap ((i : Int) + (j : Int)) = ((i + j : Nat) : Int) := by rw [IntWalk.i64_in _ (by omega)]; omega
      have hmi : ((i : Int) + (j : Int)) / 2 = (c : Int) := by omega
      have hcl : c < d.size := by omega
      have hal : a < d.size := by omega
      have HC := Lib.hid (show i ≤ c ∧ c < j by omega)
      have ld1 := fun w' hk => hS.load hcl w' hk
      have ld2 := fun w' hk => hS.load hal w' hk
      have cc := fun w' => join1_ct (w := w') d[c]! d[a]!
      have hcv := cmpI_neg d[c]!.1.1 d[a]!.1.1
      have hlte : ltB d[c]!.1.1 d[a]!.1.1 = ltE d[c]! d[a]! := rfl
      rw [hlte] at hcv
      obtain ⟨cv, hcve⟩ : ∃ cv, cv = cmpI d[c]!.1.1 d[a]!.1.1 := ⟨_, rfl⟩
      rw [← hcve] at hcv cc
      obtain ⟨xh, hxh⟩ : ∃ x, x = d[c]! := ⟨_, rfl⟩
      obtain ⟨xa, hxa⟩ : ∃ x, x = d[a]! := ⟨_, rfl⟩
      rw [← hxh] at ld1 cc
      rw [← hxa] at ld2 cc
      clear hcve hxh hxa hlte hc
      have lc : (c : Int) < (d.size : Int) := by omega
      have la : (a : Int) < (d.size : Int) := by omega
      cases htv : ltE d[c]! d[a]! with
      | true =>
        rw [htv] at hcv
        have HX : ∀ W', Kept (fun _ => False) wr W' → Hid (SF w0 base g cap d W' ∧ (c + 1 = m ∨ ltE d[c + 1 - 1]! d[a]! = true) ∧ (j = b ∨ ltE d[j]! d[a]! = false)) := fun W' hk => ⟨hS.later hk, .inr (by rw [Nat.add_sub_cancel]; exact htv), q2⟩
        have HX := Lib.hid HX
        have wm1 : IntKind.i64.wrap ((c : Int) + 1) = ((c + 1 : Nat) : Int) := by rw [IntWalk.i64_in _ (by omega)]; omega
        clear hS q1 q2 HR htv
        go_wp2_with fail
        refine wp_region_held_drew (S := (Kept (fun _ => False) wr)) (by kernel_rfl) ((Kept.refl _ wr).drew) (fun hHeld => ?_)
        refine held_q (v := ?_) (i := 0) rfl (by kernel_rfl) (by kernel_rfl) (by kernel_rfl) (fun _ _ _ h => h) (by rfl) hHeld ?_ ?_
        rotate_left
        · (intro w' hS'; go_simp <;> (with_reducible rfl))
        simp only [Act.put, List.getElem_toArray, List.getElem_cons_zero, List.getElem_cons_succ, List.setIfInBounds_toArray, List.set_cons_zero, List.set_cons_succ]
        refine held_q (v := ?_) (i := 1) rfl (by kernel_rfl) (by kernel_rfl) (by kernel_rfl) (fun _ _ _ h => h) (by rfl) hHeld ?_ ?_
        rotate_left
        · (intro w' hS'; go_simp <;> (with_reducible rfl))
        simp only [Act.put, List.getElem_toArray, List.getElem_cons_zero, List.getElem_cons_succ, List.setIfInBounds_toArray, List.set_cons_zero, List.set_cons_succ]
        refine held_q (v := ?_) (i := 2) rfl (by kernel_rfl) (by kernel_rfl) (by kernel_rfl) (fun _ _ _ h => h) (by rfl) hHeld ?_ ?_
        rotate_left
        · (intro w' hS'; go_simp <;> (with_reducible rfl))
        simp only [Act.put, List.getElem_toArray, List.getElem_cons_zero, List.getElem_cons_succ, List.setIfInBounds_toArray, List.set_cons_zero, List.set_cons_succ]
        refine held_q (v := ?_) (i := 3) rfl (by kernel_rfl) (by kernel_rfl) (by kernel_rfl) (fun _ _ _ h => h) (by rfl) hHeld ?_ ?_
        rotate_left
        · (intro w' hS'; go_simp <;> (with_reducible rfl))
        simp only [Act.put, List.getElem_toArray, List.getElem_cons_zero, List.getElem_cons_succ, List.setIfInBounds_toArray, List.set_cons_zero, List.set_cons_succ]
        refine held_q (i := 4) rfl (by kernel_rfl) (by kernel_rfl) (by kernel_rfl) (fun _ _ _ h => h) (by rfl) hHeld (fun w' hS' => exec_load 46 _ rfl rfl (ld1 w' hS')) ?_
        simp only [Act.put, List.getElem_toArray, List.getElem_cons_zero, List.getElem_cons_succ, List.setIfInBounds_toArray, List.set_cons_zero, List.set_cons_succ]
        refine held_q (v := ?_) (i := 5) rfl (by kernel_rfl) (by kernel_rfl) (by kernel_rfl) (fun _ _ _ h => h) (by rfl) hHeld ?_ ?_
        rotate_left
        · (intro w' hS'; go_simp <;> (with_reducible rfl))
        simp only [Act.put, List.getElem_toArray, List.getElem_cons_zero, List.getElem_cons_succ, List.setIfInBounds_toArray, List.set_cons_zero, List.set_cons_succ]
        refine held_q (v := ?_) (i := 6) rfl (by kernel_rfl) (by kernel_rfl) (by kernel_rfl) (fun _ _ _ h => h) (by rfl) hHeld ?_ ?_
        rotate_left
        · (intro w' hS'; go_simp <;> (with_reducible rfl))
        simp only [Act.put, List.getElem_toArray, List.getElem_cons_zero, List.getElem_cons_succ, List.setIfInBounds_toArray, List.set_cons_zero, List.set_cons_succ]
        refine held_q (v := ?_) (i := 7) rfl (by kernel_rfl) (by kernel_rfl) (by kernel_rfl) (fun _ _ _ h => h) (by rfl) hHeld ?_ ?_
        rotate_left
        · (intro w' hS'; go_simp <;> (with_reducible rfl))
        simp only [Act.put, List.getElem_toArray, List.getElem_cons_zero, List.getElem_cons_succ, List.setIfInBounds_toArray, List.set_cons_zero, List.set_cons_succ]
        refine held_q (i := 8) rfl (by kernel_rfl) (by kernel_rfl) (by kernel_rfl) (fun _ _ _ h => h) (by rfl) hHeld (fun w' hS' => exec_load 46 _ rfl rfl (ld2 w' hS')) ?_
        simp only [Act.put, List.getElem_toArray, List.getElem_cons_zero, List.getElem_cons_succ, List.setIfInBounds_toArray, List.set_cons_zero, List.set_cons_succ]
        refine held_c (i := 9) (f := 52) (args := #[aggE xh, aggE xa]) (by kernel_rfl) rfl (by rfl) ?_ (cc _) ?_
        · (go_simp <;> rfl)
        rintro e W8 ⟨rfl, kq⟩
        have hHeld := hHeld.trans kq
        refine ⟨_, rfl, hHeld, ?_⟩
        simp only [Act.put, List.getElem_toArray, List.getElem_cons_zero, List.getElem_cons_succ, List.setIfInBounds_toArray, List.set_cons_zero, List.set_cons_succ]
        refine held_q (v := ?_) (i := 10) rfl (by kernel_rfl) (by kernel_rfl) (by kernel_rfl) (fun _ _ _ h => h) (by rfl) hHeld ?_ ?_
        rotate_left
        · (intro w' hS'; go_simp <;> (with_reducible rfl))
        simp only [Act.put, List.getElem_toArray, List.getElem_cons_zero, List.getElem_cons_succ, List.setIfInBounds_toArray, List.set_cons_zero, List.set_cons_succ]
        refine wpAnyH_done (by kernel_rfl) ?_ _
        go_wp2_with fail
        obtain ⟨c1, c2⟩ := HC.out
        go_roundw
        case rel => exact ⟨c + 1, j, by go_num, rfl, by omega, HX.out _ hHeld⟩
        case measure => simp [intOf]; omega
      | false =>
        rw [htv] at hcv
        have HX : ∀ W', Kept (fun _ => False) wr W' → Hid (SF w0 base g cap d W' ∧ (i = m ∨ ltE d[i - 1]! d[a]! = true) ∧ (c = b ∨ ltE d[c]! d[a]! = false)) := fun W' hk => ⟨hS.later hk, q1, .inr htv⟩
        have HX := Lib.hid HX
        clear hS q1 q2 HR htv
        go_wp2_with fail
        refine wp_region_held_drew (S := (Kept (fun _ => False) wr)) (by kernel_rfl) ((Kept.refl _ wr).drew) (fun hHeld => ?_)
        refine held_q (v := ?_) (i := 0) rfl (by kernel_rfl) (by kernel_rfl) (by kernel_rfl) (fun _ _ _ h => h) (by rfl) hHeld ?_ ?_
        rotate_left
        · (intro w' hS'; go_simp <;> (with_reducible rfl))
        simp only [Act.put, List.getElem_toArray, List.getElem_cons_zero, List.getElem_cons_succ, List.setIfInBounds_toArray, List.set_cons_zero, List.set_cons_succ]
        refine held_q (v := ?_) (i := 1) rfl (by kernel_rfl) (by kernel_rfl) (by kernel_rfl) (fun _ _ _ h => h) (by rfl) hHeld ?_ ?_
        rotate_left
        · (intro w' hS'; go_simp <;> (with_reducible rfl))
        simp only [Act.put, List.getElem_toArray, List.getElem_cons_zero, List.getElem_cons_succ, List.setIfInBounds_toArray, List.set_cons_zero, List.set_cons_succ]
        refine held_q (v := ?_) (i := 2) rfl (by kernel_rfl) (by kernel_rfl) (by kernel_rfl) (fun _ _ _ h => h) (by rfl) hHeld ?_ ?_
        rotate_left
        · (intro w' hS'; go_simp <;> (with_reducible rfl))
        simp only [Act.put, List.getElem_toArray, List.getElem_cons_zero, List.getElem_cons_succ, List.setIfInBounds_toArray, List.set_cons_zero, List.set_cons_succ]
        refine held_q (v := ?_) (i := 3) rfl (by kernel_rfl) (by kernel_rfl) (by kernel_rfl) (fun _ _ _ h => h) (by rfl) hHeld ?_ ?_
        rotate_left
        · (intro w' hS'; go_simp <;> (with_reducible rfl))
        simp only [Act.put, List.getElem_toArray, List.getElem_cons_zero, List.getElem_cons_succ, List.setIfInBounds_toArray, List.set_cons_zero, List.set_cons_succ]
        refine held_q (i := 4) rfl (by kernel_rfl) (by kernel_rfl) (by kernel_rfl) (fun _ _ _ h => h) (by rfl) hHeld (fun w' hS' => exec_load 46 _ rfl rfl (ld1 w' hS')) ?_
        simp only [Act.put, List.getElem_toArray, List.getElem_cons_zero, List.getElem_cons_succ, List.setIfInBounds_toArray, List.set_cons_zero, List.set_cons_succ]
        refine held_q (v := ?_) (i := 5) rfl (by kernel_rfl) (by kernel_rfl) (by kernel_rfl) (fun _ _ _ h => h) (by rfl) hHeld ?_ ?_
        rotate_left
        · (intro w' hS'; go_simp <;> (with_reducible rfl))
        simp only [Act.put, List.getElem_toArray, List.getElem_cons_zero, List.getElem_cons_succ, List.setIfInBounds_toArray, List.set_cons_zero, List.set_cons_succ]
        refine held_q (v := ?_) (i := 6) rfl (by kernel_rfl) (by kernel_rfl) (by kernel_rfl) (fun _ _ _ h => h) (by rfl) hHeld ?_ ?_
        rotate_left
        · (intro w' hS'; go_simp <;> (with_reducible rfl))
        simp only [Act.put, List.getElem_toArray, List.getElem_cons_zero, List.getElem_cons_succ, List.setIfInBounds_toArray, List.set_cons_zero, List.set_cons_succ]
        refine held_q (v := ?_) (i := 7) rfl (by kernel_rfl) (by kernel_rfl) (by kernel_rfl) (fun _ _ _ h => h) (by rfl) hHeld ?_ ?_
        rotate_left
        · (intro w' hS'; go_simp <;> (with_reducible rfl))
        simp only [Act.put, List.getElem_toArray, List.getElem_cons_zero, List.getElem_cons_succ, List.setIfInBounds_toArray, List.set_cons_zero, List.set_cons_succ]
        refine held_q (i := 8) rfl (by kernel_rfl) (by kernel_rfl) (by kernel_rfl) (fun _ _ _ h => h) (by rfl) hHeld (fun w' hS' => exec_load 46 _ rfl rfl (ld2 w' hS')) ?_
        simp only [Act.put, List.getElem_toArray, List.getElem_cons_zero, List.getElem_cons_succ, List.setIfInBounds_toArray, List.set_cons_zero, List.set_cons_succ]
        refine held_c (i := 9) (f := 52) (args := #[aggE xh, aggE xa]) (by kernel_rfl) rfl (by rfl) ?_ (cc _) ?_
        · (go_simp <;> rfl)
        rintro e W8 ⟨rfl, kq⟩
        have hHeld := hHeld.trans kq
        refine ⟨_, rfl, hHeld, ?_⟩
        simp only [Act.put, List.getElem_toArray, List.getElem_cons_zero, List.getElem_cons_succ, List.setIfInBounds_toArray, List.set_cons_zero, List.set_cons_succ]
        refine held_q (v := ?_) (i := 10) rfl (by kernel_rfl) (by kernel_rfl) (by kernel_rfl) (fun _ _ _ h => h) (by rfl) hHeld ?_ ?_
        rotate_left
        · (intro w' hS'; go_simp <;> (with_reducible rfl))
        simp only [Act.put, List.getElem_toArray, List.getElem_cons_zero, List.getElem_cons_succ, List.setIfInBounds_toArray, List.set_cons_zero, List.set_cons_succ]
        refine wpAnyH_done (by kernel_rfl) ?_ _
        go_wp2_with fail
        obtain ⟨c1, c2⟩ := HC.out
        go_roundw
        case rel => exact ⟨i, c, rfl, by go_num, by omega, HX.out _ hHeld⟩
        case measure => simp [intOf]; omega
    · obtain rfl : i = j := by omega
      obtain ⟨p, hp⟩ : ∃ p, p = i - 1 := ⟨_, rfl⟩
      have wp1 : IntKind.i64.wrap ((i : Int) - 1) = (p : Int) := by rw [IntWalk.i64_in _ (by omega)]; omega
      have HP := Lib.hid hp
      have hap : a ≤ p ∧ p < b := by omega
      clear hp
      have HR2 := HR
      generalize wr = wr0 at HR2 ⊢
      clear HR
      go_wp2_with fail
      go_loopw [13] (fun vk wr => ∃ (k : Nat) (D : Array E), vk = .int .i64 k ∧ (a ≤ k ∧ k ≤ p) ∧ D.size = d.size ∧ Hid (SF w0 base g cap D wr ∧ PermIn a b d D ∧ (∀ t, a ≤ t → t < k → D[t]! = d[t + 1]!) ∧ D[k]! = d[a]! ∧ (∀ t, t < a ∨ k < t → D[t]! = d[t]!))) (fun vk _ => p - (intOf vk).toNat)
      case atStart => exact ⟨a, d, rfl, by omega, rfl, HR2.out.1, permIn_refl _ _ _, fun t q1 q2 => by omega, rfl, fun t _ => rfl⟩
      case round =>
        obtain ⟨k, D, rfl, hk, hds, HK⟩ := hrel
        by_cases hkp : k < p
        · obtain ⟨hS, hP, e1, e2, e3⟩ := HK.out
          have wk1 : IntKind.i64.wrap ((k : Int) + 1) = ((k + 1 : Nat) : Int) := by rw [IntWalk.i64_in _ (by omega)]; omega
          have hl1 : k + 1 < D.size := by omega
          have hl2 : k < D.size := by omega
          have ld1 := hS.load hl1 wr.drew (Kept.refl _ wr).drew
          have ld2 := hS.load hl2 wr.drew (Kept.refl _ wr).drew
          obtain ⟨w1, w2, st1, st2, ks1, ks2, hS2⟩ := (hS.later (Kept.refl _ wr).drew).swap hl2 hl1 (hS.2.size)
          have HN : Hid (SF w0 base g cap (swp D k (k + 1)) w2 ∧ PermIn a b d (swp D k (k + 1)) ∧ (∀ t, a ≤ t → t < k + 1 → (swp D k (k + 1))[t]! = d[t + 1]!) ∧ (swp D k (k + 1))[k + 1]! = d[a]! ∧ (∀ t, t < a ∨ k + 1 < t → (swp D k (k + 1))[t]! = d[t]!)) := by
            refine ⟨hS2, permIn_trans _ _ _ _ _ hP (swp_permIn D a b k (k + 1) (by omega) (by omega) (by omega) (by omega) (by omega)), fun t q1 q2 => ?_, ?_, fun t q => ?_⟩
            · by_cases e : t = k
              · subst e; rw [swp_left D t (t + 1) hl2 (by omega)]; exact e3 (t + 1) (by omega)
              · rw [swp_other D k (k + 1) t e (by omega)]; exact e1 t q1 (by omega)
            · rw [swp_right D k (k + 1) hl1]; exact e2
            · rw [swp_other D k (k + 1) t (by omega) (by omega)]; exact e3 t (by omega)
          have hsz : (swp D k (k + 1)).size = d.size := by rw [size_swp]; exact hds
          clear hS hP e1 e2 e3 hS2 HK
          generalize swp D k (k + 1) = D2 at HN hsz
          unfold aggE at ld1 ld2 st1 st2
          generalize D[k]!.1 = xa at ld2 st2
          generalize D[k + 1]!.1 = xb at ld1 st1
          have l1 : (k : Int) + 1 < (d.size : Int) := by omega
          have p0 : (0 : Int) ≤ (k : Int) + 1 := by omega
          have l2 : k < d.size := by omega
          have l3 : k + 1 < d.size := by omega
          go_wp2_with fail
          refine wp_region_held_drew (S := (Kept (fun k => k = g) wr.drew)) (by kernel_rfl) ((Kept.refl _ wr.drew)) (fun hHeld => ?_)
          refine held_q (v := ?_) (i := 0) rfl (by kernel_rfl) (by kernel_rfl) (by kernel_rfl) (fun _ _ _ h => h) (by rfl) hHeld ?_ ?_
          rotate_left
          · (intro w' hS'; go_simp <;> (with_reducible rfl))
          simp only [Act.put, List.getElem_toArray, List.getElem_cons_zero, List.getElem_cons_succ, List.setIfInBounds_toArray, List.set_cons_zero, List.set_cons_succ]
          refine held_q (v := ?_) (i := 1) rfl (by kernel_rfl) (by kernel_rfl) (by kernel_rfl) (fun _ _ _ h => h) (by rfl) hHeld ?_ ?_
          rotate_left
          · (intro w' hS'; go_simp <;> (with_reducible rfl))
          simp only [Act.put, List.getElem_toArray, List.getElem_cons_zero, List.getElem_cons_succ, List.setIfInBounds_toArray, List.set_cons_zero, List.set_cons_succ]
          refine held_q (v := ?_) (i := 2) rfl (by kernel_rfl) (by kernel_rfl) (by kernel_rfl) (fun _ _ _ h => h) (by rfl) hHeld ?_ ?_
          rotate_left
          · (intro w' hS'; go_simp <;> (with_reducible rfl))
          simp only [Act.put, List.getElem_toArray, List.getElem_cons_zero, List.getElem_cons_succ, List.setIfInBounds_toArray, List.set_cons_zero, List.set_cons_succ]
          refine held_q (v := ?_) (i := 3) rfl (by kernel_rfl) (by kernel_rfl) (by kernel_rfl) (fun _ _ _ h => h) (by rfl) hHeld ?_ ?_
          rotate_left
          · (intro w' hS'; go_simp <;> (with_reducible rfl))
          simp only [Act.put, List.getElem_toArray, List.getElem_cons_zero, List.getElem_cons_succ, List.setIfInBounds_toArray, List.set_cons_zero, List.set_cons_succ]
          refine held_q (v := ?_) (i := 4) rfl (by kernel_rfl) (by kernel_rfl) (by kernel_rfl) (fun _ _ _ h => h) (by rfl) hHeld ?_ ?_
          rotate_left
          · (intro w' hS'; go_simp <;> (with_reducible rfl))
          simp only [Act.put, List.getElem_toArray, List.getElem_cons_zero, List.getElem_cons_succ, List.setIfInBounds_toArray, List.set_cons_zero, List.set_cons_succ]
          refine held_q (v := ?_) (i := 5) rfl (by kernel_rfl) (by kernel_rfl) (by kernel_rfl) (fun _ _ _ h => h) (by rfl) hHeld ?_ ?_
          rotate_left
          · (intro w' hS'; go_simp <;> (with_reducible rfl))
          simp only [Act.put, List.getElem_toArray, List.getElem_cons_zero, List.getElem_cons_succ, List.setIfInBounds_toArray, List.set_cons_zero, List.set_cons_succ]
          refine held_q (v := ?_) (i := 6) rfl (by kernel_rfl) (by kernel_rfl) (by kernel_rfl) (fun _ _ _ h => h) (by rfl) hHeld ?_ ?_
          rotate_left
          · (intro w' hS'; go_simp <;> (with_reducible rfl))
          simp only [Act.put, List.getElem_toArray, List.getElem_cons_zero, List.getElem_cons_succ, List.setIfInBounds_toArray, List.set_cons_zero, List.set_cons_succ]
          refine held_q (v := ?_) (i := 7) rfl (by kernel_rfl) (by kernel_rfl) (by kernel_rfl) (fun _ _ _ h => h) (by rfl) hHeld ?_ ?_
          rotate_left
          · (intro w' hS'; go_simp <;> (with_reducible rfl))
          simp only [Act.put, List.getElem_toArray, List.getElem_cons_zero, List.getElem_cons_succ, List.setIfInBounds_toArray, List.set_cons_zero, List.set_cons_succ]
          refine held_q (v := ?_) (i := 8) rfl (by kernel_rfl) (by kernel_rfl) (by kernel_rfl) (fun _ _ _ h => h) (by rfl) hHeld ?_ ?_
          rotate_left
          · (intro w' hS'; go_simp <;> (with_reducible rfl))
          simp only [Act.put, List.getElem_toArray, List.getElem_cons_zero, List.getElem_cons_succ, List.setIfInBounds_toArray, List.set_cons_zero, List.set_cons_succ]
          refine held_q (v := ?_) (i := 10) rfl (by kernel_rfl) (by kernel_rfl) (by kernel_rfl) (fun _ _ _ h => h) (by rfl) hHeld ?_ ?_
          rotate_left
          · (intro w' hS'; go_simp <;> (with_reducible rfl))
          simp only [Act.put, List.getElem_toArray, List.getElem_cons_zero, List.getElem_cons_succ, List.setIfInBounds_toArray, List.set_cons_zero, List.set_cons_succ]
          refine held_q (v := ?_) (i := 11) rfl (by kernel_rfl) (by kernel_rfl) (by kernel_rfl) (fun _ _ _ h => h) (by rfl) hHeld ?_ ?_
          rotate_left
          · (intro w' hS'; go_simp <;> (with_reducible rfl))
          simp only [Act.put, List.getElem_toArray, List.getElem_cons_zero, List.getElem_cons_succ, List.setIfInBounds_toArray, List.set_cons_zero, List.set_cons_succ]
          refine held_q (v := ?_) (i := 12) rfl (by kernel_rfl) (by kernel_rfl) (by kernel_rfl) (fun _ _ _ h => h) (by rfl) hHeld ?_ ?_
          rotate_left
          · (intro w' hS'; go_simp <;> (with_reducible rfl))
          simp only [Act.put, List.getElem_toArray, List.getElem_cons_zero, List.getElem_cons_succ, List.setIfInBounds_toArray, List.set_cons_zero, List.set_cons_succ]
          refine held_two (i := 9) (j := 13) (by kernel_rfl) rfl rfl (by rfl) (by rfl) (exec_load 46 _ rfl rfl ld1) (exec_load 46 _ rfl rfl ld2) (Kept.refl _ _) (Kept.refl _ _) (fun hHeld => ?_) (fun hHeld => ?_)
          · simp only [Act.put, List.getElem_toArray, List.getElem_cons_zero, List.getElem_cons_succ, List.setIfInBounds_toArray, List.set_cons_zero, List.set_cons_succ]
            refine held_v (i := 13) (by kernel_rfl) rfl (by rfl) (exec_load 46 _ rfl rfl ld2) (Kept.refl _ _) (fun hHeld => ?_)
            simp only [Act.put, List.getElem_toArray, List.getElem_cons_zero, List.getElem_cons_succ, List.setIfInBounds_toArray, List.set_cons_zero, List.set_cons_succ]
            refine held_q (v := ?_) (i := 14) rfl (by kernel_rfl) (by kernel_rfl) (by kernel_rfl) (fun _ _ _ h => h) (by rfl) hHeld ?_ ?_
            rotate_left
            · (intro w' hS'; go_simp <;> (with_reducible rfl))
            simp only [Act.put, List.getElem_toArray, List.getElem_cons_zero, List.getElem_cons_succ, List.setIfInBounds_toArray, List.set_cons_zero, List.set_cons_succ]
            refine held_s (i := 15) (w1 := w1) (by kernel_rfl) rfl (by rfl) (exec_store 46 _ _ rfl rfl rfl st1) ks1 (fun hHeld => ?_)
            simp only [Act.put, List.getElem_toArray, List.getElem_cons_zero, List.getElem_cons_succ, List.setIfInBounds_toArray, List.set_cons_zero, List.set_cons_succ]
            refine held_q (v := ?_) (i := 16) rfl (by kernel_rfl) (by kernel_rfl) (by kernel_rfl) (fun _ _ _ h => h) (by rfl) hHeld ?_ ?_
            rotate_left
            · (intro w' hS'; go_simp <;> (with_reducible rfl))
            simp only [Act.put, List.getElem_toArray, List.getElem_cons_zero, List.getElem_cons_succ, List.setIfInBounds_toArray, List.set_cons_zero, List.set_cons_succ]
            refine held_s (i := 17) (w1 := w2) (by kernel_rfl) rfl (by rfl) (exec_store 46 _ _ rfl rfl rfl st2) ks2 (fun hHeld => ?_)
            simp only [Act.put, List.getElem_toArray, List.getElem_cons_zero, List.getElem_cons_succ, List.setIfInBounds_toArray, List.set_cons_zero, List.set_cons_succ]
            refine wpAnyH_done (by kernel_rfl) ?_ _
            (go_wp2_with fail; go_roundw; (case rel => exact ⟨k + 1, D2, by go_num, by omega, hsz, HN⟩); (case measure => simp [intOf]; omega))
          · simp only [Act.put, List.getElem_toArray, List.getElem_cons_zero, List.getElem_cons_succ, List.setIfInBounds_toArray, List.set_cons_zero, List.set_cons_succ]
            refine held_v (i := 9) (by kernel_rfl) rfl (by rfl) (exec_load 46 _ rfl rfl ld1) (Kept.refl _ _) (fun hHeld => ?_)
            simp only [Act.put, List.getElem_toArray, List.getElem_cons_zero, List.getElem_cons_succ, List.setIfInBounds_toArray, List.set_cons_zero, List.set_cons_succ]
            refine held_q (v := ?_) (i := 14) rfl (by kernel_rfl) (by kernel_rfl) (by kernel_rfl) (fun _ _ _ h => h) (by rfl) hHeld ?_ ?_
            rotate_left
            · (intro w' hS'; go_simp <;> (with_reducible rfl))
            simp only [Act.put, List.getElem_toArray, List.getElem_cons_zero, List.getElem_cons_succ, List.setIfInBounds_toArray, List.set_cons_zero, List.set_cons_succ]
            refine held_s (i := 15) (w1 := w1) (by kernel_rfl) rfl (by rfl) (exec_store 46 _ _ rfl rfl rfl st1) ks1 (fun hHeld => ?_)
            simp only [Act.put, List.getElem_toArray, List.getElem_cons_zero, List.getElem_cons_succ, List.setIfInBounds_toArray, List.set_cons_zero, List.set_cons_succ]
            refine held_q (v := ?_) (i := 16) rfl (by kernel_rfl) (by kernel_rfl) (by kernel_rfl) (fun _ _ _ h => h) (by rfl) hHeld ?_ ?_
            rotate_left
            · (intro w' hS'; go_simp <;> (with_reducible rfl))
            simp only [Act.put, List.getElem_toArray, List.getElem_cons_zero, List.getElem_cons_succ, List.setIfInBounds_toArray, List.set_cons_zero, List.set_cons_succ]
            refine held_s (i := 17) (w1 := w2) (by kernel_rfl) rfl (by rfl) (exec_store 46 _ _ rfl rfl rfl st2) ks2 (fun hHeld => ?_)
            simp only [Act.put, List.getElem_toArray, List.getElem_cons_zero, List.getElem_cons_succ, List.setIfInBounds_toArray, List.set_cons_zero, List.set_cons_succ]
            refine wpAnyH_done (by kernel_rfl) ?_ _
            (go_wp2_with fail; go_roundw; (case rel => exact ⟨k + 1, D2, by go_num, by omega, hsz, HN⟩); (case measure => simp [intOf]; omega))
        · obtain rfl : k = p := by omega
          obtain ⟨hS, hP, e1, e2, e3⟩ := HK.out
          have hm := HM.out
          have hp := HP.out
          obtain ⟨_, q1, q2⟩ := HR2.out
          have s2 := H0.out.2
          subst hm
          subst hp
          have hso : SortedIn ltE a b D := sym_left (i := i) s2 (by omega) (by omega) q1 q2 e1 e2 (fun t ht => e3 t (by omega))
          clear e1 e2 e3 s2 H0
          go_wp2_with fail
          go_end0
          exact ⟨rfl, D, hS, hP, hso⟩
end Go.Proofs.YtfohljljoalmoaaDoor
