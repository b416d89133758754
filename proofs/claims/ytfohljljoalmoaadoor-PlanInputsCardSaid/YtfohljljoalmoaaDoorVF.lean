/- The stable sort: symMerge. -/
import Derived.Test.YtfohljljoalmoaaDoorVE
namespace Go.Proofs.YtfohljljoalmoaaDoor
open Go.RowKit Go.Sort
set_option maxRecDepth 100000
set_option linter.unusedSimpArgs false
set_option linter.unusedVariables false



theorem rotD_same {d : Array E} {a m b st en mid : Nat} (h : ¬ (st < m ∧ m < en)) (h2 : st ≤ m) (h3 : m ≤ en) (h5 : st + en = mid + m) : ∀ t, a ≤ t → t < b → d[t]! = rotD d m st en mid t := fun t _ _ => by
  unfold rotD
  by_cases c1 : t < st
  · rw [if_pos c1]
  · rw [if_neg c1]
    by_cases c2 : t < mid
    · rw [if_pos c2]; congr 1; omega
    · rw [if_neg c2]
      by_cases c3 : t < en
      · rw [if_pos c3]; congr 1; omega
      · rw [if_neg c3]
theorem rotD_of {d D : Array E} {a m b st en mid : Nat} (h1 : a ≤ st) (h2 : st < m) (h3 : m < en) (h4 : en ≤ b) (h5 : st + en = mid + m) (hP : PermIn st en d D) (hr : ∀ t, st ≤ t → t < en → D[t]! = rotF d st m en t) : ∀ t, a ≤ t → t < b → D[t]! = rotD d m st en mid t := fun t _ _ => by
  unfold rotD
  by_cases c1 : t < st
  · rw [if_pos c1]; exact hP.2.1 t (.inl c1)
  · rw [if_neg c1]
    by_cases c2 : t < mid
    · rw [if_pos c2, hr t (by omega) (by omega)]; unfold rotF; rw [if_pos (by omega)]
    · rw [if_neg c2]
      by_cases c3 : t < en
      · rw [if_pos c3, hr t (by omega) c3]; unfold rotF; rw [if_neg (by omega)]
      · rw [if_neg c3]; exact hP.2.1 t (.inr (by omega))
/-- Behind the second merge. -/
theorem sym_end {w0 W : World} {base g cap a mid b : Nat} {d D1 D2 D3 : Array E} (hz : d.size = D1.size) (ham : a ≤ mid) (hmb : mid ≤ b) (hb : b ≤ d.size) (hP1 : PermIn a b d D1) (hx : Cross a mid b D1) (hP2 : PermIn a mid D1 D2) (hs2 : SortedIn ltE a mid D2) (hP3 : PermIn mid b D2 D3) (hs3 : SortedIn ltE mid b D3)
    (hS : SF w0 base g cap D3 W) : SymPost w0 base g cap a b d (.returned (.tuple #[])) W := by
  have z2 := hP2.1
  refine ⟨rfl, D3, hS, permIn_trans _ _ _ _ _ hP1 (permIn_trans _ _ _ _ _ (permIn_mono _ _ _ _ _ _ (Nat.le_refl _) hmb (by omega) hP2) (permIn_mono _ _ _ _ _ _ ham (Nat.le_refl _) (by omega) hP3)), ?_⟩
  refine sorted_join (sorted_same hs2 (fun t h1 h2 => hP3.2.1 t (.inl h2))) hs3 ?_
  exact cross_perm2 (by omega) (cross_perm1 (by omega) hmb hx hP2) hP3
def SymAt (N : Nat) : Prop := ∀ {w0 w : World} {base g cap : Nat} {d : Array E} (h : SF w0 base g cap d w) (hd : d.size ≤ 1000) {a m b : Nat} (ham : a < m) (hmb : m < b) (hb : b ≤ d.size) (hN : b - a ≤ N) (s1 : SortedIn ltE a m d) (s2 : SortedIn ltE m b d),
    Calls Tryd.prog SYM #[.slice (some ⟨g, 0, none⟩) d.size cap, .int .i64 a, .int .i64 m, .int .i64 b, .func (.func 52) #[] #[]] w (SymPost w0 base g cap a b d)

set_option maxRecDepth 100000 in
set_option maxHeartbeats 8000000 in
theorem symC_ct {N : Nat} (ih : SymAt N) {w0 w : World} {base g cap : Nat} {d : Array E} (h : SF w0 base g cap d w) (hd : d.size ≤ 1000) {a m b : Nat} (ham : a + 1 < m) (hmb : m + 1 < b) (hb : b ≤ d.size) (hN : b - a ≤ N + 1) (s1 : SortedIn ltE a m d) (s2 : SortedIn ltE m b d) :
    Calls Tryd.prog SYM #[.slice (some ⟨g, 0, none⟩) d.size cap, .int .i64 a, .int .i64 m, .int .i64 b, .func (.func 52) #[] #[]] w (SymPost w0 base g cap a b d) := by
  obtain ⟨ma, hma⟩ : ∃ x, x = m - a := ⟨_, rfl⟩
  obtain ⟨bm, hbm⟩ : ∃ x, x = b - m := ⟨_, rfl⟩
  have w1 : IntKind.i64.wrap ((m : Int) - (a : Int)) = (ma : Int) := by rw [IntWalk.i64_in _ (by omega)]; omega
  have w2 : IntKind.i64.wrap ((b : Int) - (m : Int)) = (bm : Int) := by rw [IntWalk.i64_in _ (by omega)]; omega
  have n1 : ((ma : Int) == 1) = false := by simp; omega
  have n2 : ((bm : Int) == 1) = false := by simp; omega
  obtain ⟨mid, hmid⟩ : ∃ x, x = (a + b) / 2 := ⟨_, rfl⟩
  obtain ⟨n, hn⟩ : ∃ x, x = mid + m := ⟨_, rfl⟩
  obtain ⟨p, hp⟩ : ∃ x, x = n - 1 := ⟨_, rfl⟩
  have wab : IntKind.i64.wrap ((a : Int) + (b : Int)) = ((a + b : Nat) : Int) := by rw [IntWalk.i64_in _ (by omega)]; omega
  have hab2 : ((a : Int) + (b : Int)) / 2 = (mid : Int) := by omega
  have wn : IntKind.i64.wrap ((mid : Int) + (m : Int)) = (n : Int) := by rw [IntWalk.i64_in _ (by omega)]; omega
  have wp : IntKind.i64.wrap ((n : Int) - 1) = (p : Int) := by rw [IntWalk.i64_in _ (by omega)]; omega
  have H0 := Lib.hid (And.intro h (And.intro s1 s2))
  have hbnd : 2 * mid ≤ a + b ∧ a + b ≤ 2 * mid + 1 ∧ n ≤ mid + m ∧ mid + m ≤ n ∧ p + 1 ≤ n ∧ n ≤ p + 1 := by omega
  clear h s1 s2 hma hbm hmid hn hp
  unfold SYM
  by_cases hmm : mid < m
  · have g1 : decide ((mid : Int) < (m : Int)) = true := decide_eq_true (by omega)
    obtain ⟨st0, hst0⟩ : ∃ x, x = n - b := ⟨_, rfl⟩
    have wnb : IntKind.i64.wrap ((n : Int) - (b : Int)) = (st0 : Int) := by rw [IntWalk.i64_in _ (by omega)]; omega
    have hl0 : st0 = a ∨ n ≤ st0 + b ∧ st0 + b ≤ n := .inr (by omega)
    have hr0 : mid = m ∨ n ≤ mid + m ∧ mid + m ≤ n := .inr (by omega)
    have hB : a ≤ st0 ∧ st0 ≤ mid ∧ mid ≤ m ∧ m + mid ≤ n ∧ n ≤ b + st0 := by omega
    clear hst0
    go_enter Tryd.func86, Tryd.ntmps86
    go_wp2_with fail
    go_loopw [20, 21] (fun vi vj wr => ∃ (st r : Nat), vi = .int .i64 st ∧ vj = .int .i64 r ∧ (st0 ≤ st ∧ st ≤ r ∧ r ≤ mid) ∧ Hid (SF w0 base g cap d wr ∧ (st = st0 ∨ ltE d[n - st]! d[st - 1]! = false) ∧ (r = mid ∨ ltE d[p - r]! d[r]! = true))) (fun vi vj _ => (intOf vj).toNat - (intOf vi).toNat)
    case atStart => exact ⟨st0, mid, by first | rfl | go_num, by first | rfl | go_num, by omega, H0.out.1, .inl rfl, .inl rfl⟩
    case round =>
      obtain ⟨st, r, rfl, rfl, hij, HR⟩ := hrel
      by_cases hlt : st < r
      · obtain ⟨hS, q1, q2⟩ := HR.out
        obtain ⟨c, hc⟩ : ∃ c : Nat, c = (st + r) / 2 := ⟨_, rfl⟩
        obtain ⟨pc, hpc⟩ : ∃ pc : Nat, pc = p - c := ⟨_, rfl⟩
        have wij : IntKind.i64.wrap ((st : Int) + (r : Int)) = ((st + r : Nat) : Int) := by rw [IntWalk.i64_in _ (by omega)]; omega
        have hmi : ((st : Int) + (r : Int)) / 2 = (c : Int) := by omega
        have wpc : IntKind.i64.wrap ((p : Int) - (c : Int)) = (pc : Int) := by rw [IntWalk.i64_in _ (by omega)]; omega
        have hcl : c < d.size := by omega
        have hpl : pc < d.size := by omega
        have HC := Lib.hid (show st ≤ c ∧ c < r by omega)
        have HPC := Lib.hid (show n - (c + 1) = pc ∧ pc = p - c by omega)
        have ld1 := fun w' hk => hS.load hpl w' hk
        have ld2 := fun w' hk => hS.load hcl w' hk
        clear hc hpc
        have cc := fun w' => join1_ct (w := w') d[pc]! d[c]!
        have hcv := cmpI_neg d[pc]!.1.1 d[c]!.1.1
        have hlte : ltB d[pc]!.1.1 d[c]!.1.1 = ltE d[pc]! d[c]! := rfl
        rw [hlte] at hcv
        obtain ⟨cv, hcve⟩ : ∃ cv, cv = cmpI d[pc]!.1.1 d[c]!.1.1 := ⟨_, rfl⟩
        rw [← hcve] at hcv cc
        obtain ⟨xh, hxh⟩ : ∃ x, x = d[pc]! := ⟨_, rfl⟩
        obtain ⟨xa, hxa⟩ : ∃ x, x = d[c]! := ⟨_, rfl⟩
        rw [← hxh] at ld1 cc
        rw [← hxa] at ld2 cc
        clear hcve hxh hxa hlte
        have lc : (c : Int) < (d.size : Int) := by omega
        have la : (pc : Int) < (d.size : Int) := by omega
        cases htv : ltE d[pc]! d[c]! with
        | false =>
          rw [htv] at hcv
          have HX : ∀ W', Kept (fun _ => False) wr W' → Hid (SF w0 base g cap d W' ∧ (c + 1 = st0 ∨ ltE d[n - (c + 1)]! d[c + 1 - 1]! = false) ∧ (r = mid ∨ ltE d[p - r]! d[r]! = true)) := fun W' hk => ⟨hS.later hk, .inr (by rw [Nat.add_sub_cancel, HPC.out.1]; exact htv), q2⟩
          have HX := Lib.hid HX
          have wm1 : IntKind.i64.wrap ((c : Int) + 1) = ((c + 1 : Nat) : Int) := by rw [IntWalk.i64_in _ (by omega)]; omega
          clear hS q1 q2 HR htv
          go_wp2_with fail
          refine wp_region_held_drew (S := (Kept (fun _ => False) wr)) (by kernel_rfl) ((Kept.refl _ wr).drew) (fun hHeld => ?_)
          refine held_q (v := ?_) (i := 0) rfl (by kernel_rfl) (by kernel_rfl) (by kernel_rfl) (fun _ _ _ h => h) (by rfl) hHeld ?_ ?_
          rotate_left
          · (intro w' hS'; go_simp <;> (with_reducible rfl))
          simp only [Act.put, List.getElem_toArray, List.getElem_cons_zero, List.getElem_cons_succ, List.setIfInBounds_toArray, List.set_cons_zero, List.set_cons_succ]
          refine held_q (v := ?_) (i := 1) rfl (by kernel_rfl) (by kernel_rfl) (by kernel_rfl) (fun _ _ _ h => h) (by rfl) hHeld ?_ ?_
          rotate_left
          · (intro w' hS'; go_simp <;> (with_reducible rfl))
          simp only [Act.put, List.getElem_toArray, List.getElem_cons_zero, List.getElem_cons_succ, List.setIfInBounds_toArray, List.set_cons_zero, List.set_cons_succ]
          refine held_q (v := ?_) (i := 2) rfl (by kernel_rfl) (by kernel_rfl) (by kernel_rfl) (fun _ _ _ h => h) (by rfl) hHeld ?_ ?_
          rotate_left
          · (intro w' hS'; go_simp <;> (with_reducible rfl))
          simp only [Act.put, List.getElem_toArray, List.getElem_cons_zero, List.getElem_cons_succ, List.setIfInBounds_toArray, List.set_cons_zero, List.set_cons_succ]
          refine held_q (v := ?_) (i := 3) rfl (by kernel_rfl) (by kernel_rfl) (by kernel_rfl) (fun _ _ _ h => h) (by rfl) hHeld ?_ ?_
          rotate_left
          · (intro w' hS'; go_simp <;> (with_reducible rfl))
          simp only [Act.put, List.getElem_toArray, List.getElem_cons_zero, List.getElem_cons_succ, List.setIfInBounds_toArray, List.set_cons_zero, List.set_cons_succ]
          refine held_q (v := ?_) (i := 4) rfl (by kernel_rfl) (by kernel_rfl) (by kernel_rfl) (fun _ _ _ h => h) (by rfl) hHeld ?_ ?_
          rotate_left
          · (intro w' hS'; go_simp <;> (with_reducible rfl))
          simp only [Act.put, List.getElem_toArray, List.getElem_cons_zero, List.getElem_cons_succ, List.setIfInBounds_toArray, List.set_cons_zero, List.set_cons_succ]
          refine held_q (v := ?_) (i := 5) rfl (by kernel_rfl) (by kernel_rfl) (by kernel_rfl) (fun _ _ _ h => h) (by rfl) hHeld ?_ ?_
          rotate_left
          · (intro w' hS'; go_simp <;> (with_reducible rfl))
          simp only [Act.put, List.getElem_toArray, List.getElem_cons_zero, List.getElem_cons_succ, List.setIfInBounds_toArray, List.set_cons_zero, List.set_cons_succ]
          refine held_q (i := 6) rfl (by kernel_rfl) (by kernel_rfl) (by kernel_rfl) (fun _ _ _ h => h) (by rfl) hHeld (fun w' hS' => exec_load 46 _ rfl rfl (ld1 w' hS')) ?_
          simp only [Act.put, List.getElem_toArray, List.getElem_cons_zero, List.getElem_cons_succ, List.setIfInBounds_toArray, List.set_cons_zero, List.set_cons_succ]
          refine held_q (v := ?_) (i := 7) rfl (by kernel_rfl) (by kernel_rfl) (by kernel_rfl) (fun _ _ _ h => h) (by rfl) hHeld ?_ ?_
          rotate_left
          · (intro w' hS'; go_simp <;> (with_reducible rfl))
          simp only [Act.put, List.getElem_toArray, List.getElem_cons_zero, List.getElem_cons_succ, List.setIfInBounds_toArray, List.set_cons_zero, List.set_cons_succ]
          refine held_q (v := ?_) (i := 8) rfl (by kernel_rfl) (by kernel_rfl) (by kernel_rfl) (fun _ _ _ h => h) (by rfl) hHeld ?_ ?_
          rotate_left
          · (intro w' hS'; go_simp <;> (with_reducible rfl))
          simp only [Act.put, List.getElem_toArray, List.getElem_cons_zero, List.getElem_cons_succ, List.setIfInBounds_toArray, List.set_cons_zero, List.set_cons_succ]
          refine held_q (v := ?_) (i := 9) rfl (by kernel_rfl) (by kernel_rfl) (by kernel_rfl) (fun _ _ _ h => h) (by rfl) hHeld ?_ ?_
          rotate_left
          · (intro w' hS'; go_simp <;> (with_reducible rfl))
          simp only [Act.put, List.getElem_toArray, List.getElem_cons_zero, List.getElem_cons_succ, List.setIfInBounds_toArray, List.set_cons_zero, List.set_cons_succ]
          refine held_q (i := 10) rfl (by kernel_rfl) (by kernel_rfl) (by kernel_rfl) (fun _ _ _ h => h) (by rfl) hHeld (fun w' hS' => exec_load 46 _ rfl rfl (ld2 w' hS')) ?_
          simp only [Act.put, List.getElem_toArray, List.getElem_cons_zero, List.getElem_cons_succ, List.setIfInBounds_toArray, List.set_cons_zero, List.set_cons_succ]
          refine held_c (i := 11) (f := 52) (args := #[aggE xh, aggE xa]) (by kernel_rfl) rfl (by rfl) ?_ (cc _) ?_
          · (go_simp <;> rfl)
          rintro e W8 ⟨rfl, kq⟩
          have hHeld := hHeld.trans kq
          refine ⟨_, rfl, hHeld, ?_⟩
          simp only [Act.put, List.getElem_toArray, List.getElem_cons_zero, List.getElem_cons_succ, List.setIfInBounds_toArray, List.set_cons_zero, List.set_cons_succ]
          refine held_q (v := ?_) (i := 12) rfl (by kernel_rfl) (by kernel_rfl) (by kernel_rfl) (fun _ _ _ h => h) (by rfl) hHeld ?_ ?_
          rotate_left
          · (intro w' hS'; go_simp <;> (with_reducible rfl))
          simp only [Act.put, List.getElem_toArray, List.getElem_cons_zero, List.getElem_cons_succ, List.setIfInBounds_toArray, List.set_cons_zero, List.set_cons_succ]
          refine held_q (v := ?_) (i := 13) rfl (by kernel_rfl) (by kernel_rfl) (by kernel_rfl) (fun _ _ _ h => h) (by rfl) hHeld ?_ ?_
          rotate_left
          · (intro w' hS'; go_simp <;> (with_reducible rfl))
          simp only [Act.put, List.getElem_toArray, List.getElem_cons_zero, List.getElem_cons_succ, List.setIfInBounds_toArray, List.set_cons_zero, List.set_cons_succ]
          refine wpAnyH_done (by kernel_rfl) ?_ _
          go_wp2_with fail
          obtain ⟨c1, c2⟩ := HC.out
          go_roundw
          case rel => exact ⟨c + 1, r, by go_num, rfl, by omega, HX.out _ hHeld⟩
          case measure => simp [intOf]; omega
        | true =>
          rw [htv] at hcv
          have HX : ∀ W', Kept (fun _ => False) wr W' → Hid (SF w0 base g cap d W' ∧ (st = st0 ∨ ltE d[n - st]! d[st - 1]! = false) ∧ (c = mid ∨ ltE d[p - c]! d[c]! = true)) := fun W' hk => ⟨hS.later hk, q1, .inr (by rw [← HPC.out.2]; exact htv)⟩
          have HX := Lib.hid HX
          clear hS q1 q2 HR htv
          go_wp2_with fail
          refine wp_region_held_drew (S := (Kept (fun _ => False) wr)) (by kernel_rfl) ((Kept.refl _ wr).drew) (fun hHeld => ?_)
          refine held_q (v := ?_) (i := 0) rfl (by kernel_rfl) (by kernel_rfl) (by kernel_rfl) (fun _ _ _ h => h) (by rfl) hHeld ?_ ?_
          rotate_left
          · (intro w' hS'; go_simp <;> (with_reducible rfl))
          simp only [Act.put, List.getElem_toArray, List.getElem_cons_zero, List.getElem_cons_succ, List.setIfInBounds_toArray, List.set_cons_zero, List.set_cons_succ]
          refine held_q (v := ?_) (i := 1) rfl (by kernel_rfl) (by kernel_rfl) (by kernel_rfl) (fun _ _ _ h => h) (by rfl) hHeld ?_ ?_
          rotate_left
          · (intro w' hS'; go_simp <;> (with_reducible rfl))
          simp only [Act.put, List.getElem_toArray, List.getElem_cons_zero, List.getElem_cons_succ, List.setIfInBounds_toArray, List.set_cons_zero, List.set_cons_succ]
          refine held_q (v := ?_) (i := 2) rfl (by kernel_rfl) (by kernel_rfl) (by kernel_rfl) (fun _ _ _ h => h) (by rfl) hHeld ?_ ?_
          rotate_left
          · (intro w' hS'; go_simp <;> (with_reducible rfl))
          simp only [Act.put, List.getElem_toArray, List.getElem_cons_zero, List.getElem_cons_succ, List.setIfInBounds_toArray, List.set_cons_zero, List.set_cons_succ]
          refine held_q (v := ?_) (i := 3) rfl (by kernel_rfl) (by kernel_rfl) (by kernel_rfl) (fun _ _ _ h => h) (by rfl) hHeld ?_ ?_
          rotate_left
          · (intro w' hS'; go_simp <;> (with_reducible rfl))
          simp only [Act.put, List.getElem_toArray, List.getElem_cons_zero, List.getElem_cons_succ, List.setIfInBounds_toArray, List.set_cons_zero, List.set_cons_succ]
          refine held_q (v := ?_) (i := 4) rfl (by kernel_rfl) (by kernel_rfl) (by kernel_rfl) (fun _ _ _ h => h) (by rfl) hHeld ?_ ?_
          rotate_left
          · (intro w' hS'; go_simp <;> (with_reducible rfl))
          simp only [Act.put, List.getElem_toArray, List.getElem_cons_zero, List.getElem_cons_succ, List.setIfInBounds_toArray, List.set_cons_zero, List.set_cons_succ]
          refine held_q (v := ?_) (i := 5) rfl (by kernel_rfl) (by kernel_rfl) (by kernel_rfl) (fun _ _ _ h => h) (by rfl) hHeld ?_ ?_
          rotate_left
          · (intro w' hS'; go_simp <;> (with_reducible rfl))
          simp only [Act.put, List.getElem_toArray, List.getElem_cons_zero, List.getElem_cons_succ, List.setIfInBounds_toArray, List.set_cons_zero, List.set_cons_succ]
          refine held_q (i := 6) rfl (by kernel_rfl) (by kernel_rfl) (by kernel_rfl) (fun _ _ _ h => h) (by rfl) hHeld (fun w' hS' => exec_load 46 _ rfl rfl (ld1 w' hS')) ?_
          simp only [Act.put, List.getElem_toArray, List.getElem_cons_zero, List.getElem_cons_succ, List.setIfInBounds_toArray, List.set_cons_zero, List.set_cons_succ]
          refine held_q (v := ?_) (i := 7) rfl (by kernel_rfl) (by kernel_rfl) (by kernel_rfl) (fun _ _ _ h => h) (by rfl) hHeld ?_ ?_
          rotate_left
          · (intro w' hS'; go_simp <;> (with_reducible rfl))
          simp only [Act.put, List.getElem_toArray, List.getElem_cons_zero, List.getElem_cons_succ, List.setIfInBounds_toArray, List.set_cons_zero, List.set_cons_succ]
          refine held_q (v := ?_) (i := 8) rfl (by kernel_rfl) (by kernel_rfl) (by kernel_rfl) (fun _ _ _ h => h) (by rfl) hHeld ?_ ?_
          rotate_left
          · (intro w' hS'; go_simp <;> (with_reducible rfl))
          simp only [Act.put, List.getElem_toArray, List.getElem_cons_zero, List.getElem_cons_succ, List.setIfInBounds_toArray, List.set_cons_zero, List.set_cons_succ]
          refine held_q (v := ?_) (i := 9) rfl (by kernel_rfl) (by kernel_rfl) (by kernel_rfl) (fun _ _ _ h => h) (by rfl) hHeld ?_ ?_
          rotate_left
          · (intro w' hS'; go_simp <;> (with_reducible rfl))
          simp only [Act.put, List.getElem_toArray, List.getElem_cons_zero, List.getElem_cons_succ, List.setIfInBounds_toArray, List.set_cons_zero, List.set_cons_succ]
          refine held_q (i := 10) rfl (by kernel_rfl) (by kernel_rfl) (by kernel_rfl) (fun _ _ _ h => h) (by rfl) hHeld (fun w' hS' => exec_load 46 _ rfl rfl (ld2 w' hS')) ?_
          simp only [Act.put, List.getElem_toArray, List.getElem_cons_zero, List.getElem_cons_succ, List.setIfInBounds_toArray, List.set_cons_zero, List.set_cons_succ]
          refine held_c (i := 11) (f := 52) (args := #[aggE xh, aggE xa]) (by kernel_rfl) rfl (by rfl) ?_ (cc _) ?_
          · (go_simp <;> rfl)
          rintro e W8 ⟨rfl, kq⟩
          have hHeld := hHeld.trans kq
          refine ⟨_, rfl, hHeld, ?_⟩
          simp only [Act.put, List.getElem_toArray, List.getElem_cons_zero, List.getElem_cons_succ, List.setIfInBounds_toArray, List.set_cons_zero, List.set_cons_succ]
          refine held_q (v := ?_) (i := 12) rfl (by kernel_rfl) (by kernel_rfl) (by kernel_rfl) (fun _ _ _ h => h) (by rfl) hHeld ?_ ?_
          rotate_left
          · (intro w' hS'; go_simp <;> (with_reducible rfl))
          simp only [Act.put, List.getElem_toArray, List.getElem_cons_zero, List.getElem_cons_succ, List.setIfInBounds_toArray, List.set_cons_zero, List.set_cons_succ]
          refine held_q (v := ?_) (i := 13) rfl (by kernel_rfl) (by kernel_rfl) (by kernel_rfl) (fun _ _ _ h => h) (by rfl) hHeld ?_ ?_
          rotate_left
          · (intro w' hS'; go_simp <;> (with_reducible rfl))
          simp only [Act.put, List.getElem_toArray, List.getElem_cons_zero, List.getElem_cons_succ, List.setIfInBounds_toArray, List.set_cons_zero, List.set_cons_succ]
          refine wpAnyH_done (by kernel_rfl) ?_ _
          go_wp2_with fail
          obtain ⟨c1, c2⟩ := HC.out
          go_roundw
          case rel => exact ⟨st, c, rfl, by go_num, by omega, HX.out _ hHeld⟩
          case measure => simp [intOf]; omega
      · obtain rfl : st = r := by omega
        obtain ⟨hS, q1, q2⟩ := HR.out
        obtain ⟨en, hen⟩ : ∃ en, en = n - st := ⟨_, rfl⟩
        have wen : IntKind.i64.wrap ((n : Int) - (st : Int)) = (en : Int) := by rw [IntWalk.i64_in _ (by omega)]; omega
        have hq1 : st = a ∨ en = b ∨ ltE d[en]! d[st - 1]! = false := by
          rcases q1 with q | q
          · rcases hl0 with u | u
            · exact .inl (by omega)
            · exact .inr (.inl (by omega))
          · exact .inr (.inr (by rw [hen]; exact q))
        have hq2 : st = m ∨ en = m ∨ ltE d[en - 1]! d[st]! = true := by
          rcases q2 with q | q
          · rcases hr0 with u | u
            · exact .inl (by omega)
            · exact .inr (.inl (by omega))
          · exact .inr (.inr (by rw [show en - 1 = p - st by omega]; exact q))
        have e1 : a ≤ st ∧ st ≤ m ∧ m ≤ en ∧ en ≤ b ∧ st + en = mid + m := by omega
        have HE := Lib.hid e1
        have parts := fun (D : Array E) => sym_parts (D := D) (st := st) (en := en) (mid := mid) H0.out.2.1 H0.out.2.2 e1.1 e1.2.1 e1.2.2.1 e1.2.2.2.1 e1.2.2.2.2 hq1 hq2
        clear hq1 hq2 q1 q2 HR hen
        by_cases c1 : st < m
        · by_cases c2 : m < en
          · have d1 : decide ((st : Int) < (m : Int)) = true := decide_eq_true (by omega)
            have d2 : decide ((m : Int) < (en : Int)) = true := decide_eq_true (by omega)
            have sc1 := rotate_ct hS hd c1 c2 (by omega)
            clear hS
            go_wp2_with fail
            refine sc1.mono ?_
            rintro e W1 ⟨rfl, D1, S1, p1, o1⟩
            have hz1 := Lib.hid (show d.size = D1.size from p1.1.symm)
            have P1 := Lib.hid (show PermIn a b d D1 ∧ _ from ⟨permIn_mono _ _ _ _ _ _ (by omega) (by omega) (by omega) p1, parts D1 (rotD_of e1.1 c1 c2 e1.2.2.2.1 e1.2.2.2.2 p1 o1)⟩)
            have S1 := Lib.hid S1
            clear sc1 p1 o1 parts
            by_cases c3 : a < st
            · by_cases c4 : st < mid
              · have d3 : decide ((a : Int) < (st : Int)) = true := decide_eq_true (by omega)
                have d4 : decide ((st : Int) < (mid : Int)) = true := decide_eq_true (by omega)
                have sc2 := ih S1.out (by have := hz1.out; omega) c3 c4 (by have := hz1.out; omega) (by omega) P1.out.2.1 P1.out.2.2.1
                rw [← hz1.out] at sc2
                unfold SYM at sc2
                go_wp2_with fail
                refine sc2.mono ?_
                rintro e W2 ⟨rfl, D2, S2, p2, o2⟩
                have hz2 := Lib.hid (show D2.size = d.size from p2.1.trans hz1.out.symm)
                have S2 := Lib.hid S2
                have P2 := Lib.hid (And.intro p2 o2)
                clear sc2 p2 o2
                by_cases c5 : mid < en
                · by_cases c6 : en < b
                  · have d5 : decide ((mid : Int) < (en : Int)) = true := decide_eq_true (by omega)
                    have d6 : decide ((en : Int) < (b : Int)) = true := decide_eq_true (by omega)
                    have sc3 := ih S2.out (by have := hz2.out; omega) c5 c6 (by have := hz2.out; omega) (by omega) (sorted_same P1.out.2.2.2.1 (fun t h1 h2 => P2.out.1.2.1 t (.inr h1))) (sorted_same P1.out.2.2.2.2.1 (fun t h1 h2 => P2.out.1.2.1 t (.inr (by omega))))
                    rw [hz2.out] at sc3
                    unfold SYM at sc3
                    go_wp2_with fail
                    refine sc3.mono ?_
                    rintro e W3 ⟨rfl, D3, S3, p3, o3⟩
                    have S3 := Lib.hid S3
                    have P3 := Lib.hid (And.intro p3 o3)
                    clear sc3 p3 o3
                    go_wp2_with fail
                    go_end0
                    exact sym_end hz1.out (by omega) (by omega) hb P1.out.1 P1.out.2.2.2.2.2 P2.out.1 P2.out.2 P3.out.1 P3.out.2 S3.out
                  · have d5 : decide ((mid : Int) < (en : Int)) = true := decide_eq_true (by omega)
                    have d6 : decide ((en : Int) < (b : Int)) = false := decide_eq_false (by omega)
                    have P3 := Lib.hid (And.intro (permIn_refl D2 mid b) (sorted_halves (sorted_same P1.out.2.2.2.1 (fun t h1 h2 => P2.out.1.2.1 t (.inr h1))) (sorted_same P1.out.2.2.2.2.1 (fun t h1 h2 => P2.out.1.2.1 t (.inr (by omega)))) (fun h => c6 h.2) (by omega) (by omega)))
                    have S3 := S2
                    go_wp2_with fail
                    go_end0
                    exact sym_end hz1.out (by omega) (by omega) hb P1.out.1 P1.out.2.2.2.2.2 P2.out.1 P2.out.2 P3.out.1 P3.out.2 S3.out
                · have d5 : decide ((mid : Int) < (en : Int)) = false := decide_eq_false (by omega)
                  have P3 := Lib.hid (And.intro (permIn_refl D2 mid b) (sorted_halves (sorted_same P1.out.2.2.2.1 (fun t h1 h2 => P2.out.1.2.1 t (.inr h1))) (sorted_same P1.out.2.2.2.2.1 (fun t h1 h2 => P2.out.1.2.1 t (.inr (by omega)))) (fun h => c5 h.1) (by omega) (by omega)))
                  have S3 := S2
                  go_wp2_with fail
                  go_end0
                  exact sym_end hz1.out (by omega) (by omega) hb P1.out.1 P1.out.2.2.2.2.2 P2.out.1 P2.out.2 P3.out.1 P3.out.2 S3.out
              · have d3 : decide ((a : Int) < (st : Int)) = true := decide_eq_true (by omega)
                have d4 : decide ((st : Int) < (mid : Int)) = false := decide_eq_false (by omega)
                obtain ⟨D2, hD2⟩ : ∃ D2, D2 = D1 := ⟨_, rfl⟩
                have hz2 := Lib.hid (show D2.size = d.size by rw [hD2]; exact hz1.out.symm)
                have P2 := Lib.hid (show PermIn a mid D1 D2 ∧ SortedIn ltE a mid D2 by rw [hD2]; exact ⟨permIn_refl _ _ _, sorted_halves P1.out.2.1 P1.out.2.2.1 (fun h => c4 h.2) (by omega) (by omega)⟩)
                have S2 : Hid (SF w0 base g cap D2 W1) := by rw [hD2]; exact S1
                clear hD2
                by_cases c5 : mid < en
                · by_cases c6 : en < b
                  · have d5 : decide ((mid : Int) < (en : Int)) = true := decide_eq_true (by omega)
                    have d6 : decide ((en : Int) < (b : Int)) = true := decide_eq_true (by omega)
                    have sc3 := ih S2.out (by have := hz2.out; omega) c5 c6 (by have := hz2.out; omega) (by omega) (sorted_same P1.out.2.2.2.1 (fun t h1 h2 => P2.out.1.2.1 t (.inr h1))) (sorted_same P1.out.2.2.2.2.1 (fun t h1 h2 => P2.out.1.2.1 t (.inr (by omega))))
                    rw [hz2.out] at sc3
                    unfold SYM at sc3
                    go_wp2_with fail
                    refine sc3.mono ?_
                    rintro e W3 ⟨rfl, D3, S3, p3, o3⟩
                    have S3 := Lib.hid S3
                    have P3 := Lib.hid (And.intro p3 o3)
                    clear sc3 p3 o3
                    go_wp2_with fail
                    go_end0
                    exact sym_end hz1.out (by omega) (by omega) hb P1.out.1 P1.out.2.2.2.2.2 P2.out.1 P2.out.2 P3.out.1 P3.out.2 S3.out
                  · have d5 : decide ((mid : Int) < (en : Int)) = true := decide_eq_true (by omega)
                    have d6 : decide ((en : Int) < (b : Int)) = false := decide_eq_false (by omega)
                    have P3 := Lib.hid (And.intro (permIn_refl D2 mid b) (sorted_halves (sorted_same P1.out.2.2.2.1 (fun t h1 h2 => P2.out.1.2.1 t (.inr h1))) (sorted_same P1.out.2.2.2.2.1 (fun t h1 h2 => P2.out.1.2.1 t (.inr (by omega)))) (fun h => c6 h.2) (by omega) (by omega)))
                    have S3 := S2
                    go_wp2_with fail
                    go_end0
                    exact sym_end hz1.out (by omega) (by omega) hb P1.out.1 P1.out.2.2.2.2.2 P2.out.1 P2.out.2 P3.out.1 P3.out.2 S3.out
                · have d5 : decide ((mid : Int) < (en : Int)) = false := decide_eq_false (by omega)
                  have P3 := Lib.hid (And.intro (permIn_refl D2 mid b) (sorted_halves (sorted_same P1.out.2.2.2.1 (fun t h1 h2 => P2.out.1.2.1 t (.inr h1))) (sorted_same P1.out.2.2.2.2.1 (fun t h1 h2 => P2.out.1.2.1 t (.inr (by omega)))) (fun h => c5 h.1) (by omega) (by omega)))
                  have S3 := S2
                  go_wp2_with fail
                  go_end0
                  exact sym_end hz1.out (by omega) (by omega) hb P1.out.1 P1.out.2.2.2.2.2 P2.out.1 P2.out.2 P3.out.1 P3.out.2 S3.out
            · have d3 : decide ((a : Int) < (st : Int)) = false := decide_eq_false (by omega)
              obtain ⟨D2, hD2⟩ : ∃ D2, D2 = D1 := ⟨_, rfl⟩
              have hz2 := Lib.hid (show D2.size = d.size by rw [hD2]; exact hz1.out.symm)
              have P2 := Lib.hid (show PermIn a mid D1 D2 ∧ SortedIn ltE a mid D2 by rw [hD2]; exact ⟨permIn_refl _ _ _, sorted_halves P1.out.2.1 P1.out.2.2.1 (fun h => c3 h.1) (by omega) (by omega)⟩)
              have S2 : Hid (SF w0 base g cap D2 W1) := by rw [hD2]; exact S1
              clear hD2
              by_cases c5 : mid < en
              · by_cases c6 : en < b
                · have d5 : decide ((mid : Int) < (en : Int)) = true := decide_eq_true (by omega)
                  have d6 : decide ((en : Int) < (b : Int)) = true := decide_eq_true (by omega)
                  have sc3 := ih S2.out (by have := hz2.out; omega) c5 c6 (by have := hz2.out; omega) (by omega) (sorted_same P1.out.2.2.2.1 (fun t h1 h2 => P2.out.1.2.1 t (.inr h1))) (sorted_same P1.out.2.2.2.2.1 (fun t h1 h2 => P2.out.1.2.1 t (.inr (by omega))))
                  rw [hz2.out] at sc3
                  unfold SYM at sc3
                  go_wp2_with fail
                  refine sc3.mono ?_
                  rintro e W3 ⟨rfl, D3, S3, p3, o3⟩
                  have S3 := Lib.hid S3
                  have P3 := Lib.hid (And.intro p3 o3)
                  clear sc3 p3 o3
                  go_wp2_with fail
                  go_end0
                  exact sym_end hz1.out (by omega) (by omega) hb P1.out.1 P1.out.2.2.2.2.2 P2.out.1 P2.out.2 P3.out.1 P3.out.2 S3.out
                · have d5 : decide ((mid : Int) < (en : Int)) = true := decide_eq_true (by omega)
                  have d6 : decide ((en : Int) < (b : Int)) = false := decide_eq_false (by omega)
                  have P3 := Lib.hid (And.intro (permIn_refl D2 mid b) (sorted_halves (sorted_same P1.out.2.2.2.1 (fun t h1 h2 => P2.out.1.2.1 t (.inr h1))) (sorted_same P1.out.2.2.2.2.1 (fun t h1 h2 => P2.out.1.2.1 t (.inr (by omega)))) (fun h => c6 h.2) (by omega) (by omega)))
                  have S3 := S2
                  go_wp2_with fail
                  go_end0
                  exact sym_end hz1.out (by omega) (by omega) hb P1.out.1 P1.out.2.2.2.2.2 P2.out.1 P2.out.2 P3.out.1 P3.out.2 S3.out
              · have d5 : decide ((mid : Int) < (en : Int)) = false := decide_eq_false (by omega)
                have P3 := Lib.hid (And.intro (permIn_refl D2 mid b) (sorted_halves (sorted_same P1.out.2.2.2.1 (fun t h1 h2 => P2.out.1.2.1 t (.inr h1))) (sorted_same P1.out.2.2.2.2.1 (fun t h1 h2 => P2.out.1.2.1 t (.inr (by omega)))) (fun h => c5 h.1) (by omega) (by omega)))
                have S3 := S2
                go_wp2_with fail
                go_end0
                exact sym_end hz1.out (by omega) (by omega) hb P1.out.1 P1.out.2.2.2.2.2 P2.out.1 P2.out.2 P3.out.1 P3.out.2 S3.out
          · have d1 : decide ((st : Int) < (m : Int)) = true := decide_eq_true (by omega)
            have d2 : decide ((m : Int) < (en : Int)) = false := decide_eq_false (by omega)
            obtain ⟨D1, hD1⟩ : ∃ D1, D1 = d := ⟨_, rfl⟩
            have hz1 := Lib.hid (show d.size = D1.size by rw [hD1])
            have P1 := Lib.hid (show PermIn a b d D1 ∧ _ from ⟨by rw [hD1]; exact permIn_refl _ _ _, parts D1 (by rw [hD1]; exact rotD_same (fun h => c2 h.2) e1.2.1 e1.2.2.1 e1.2.2.2.2)⟩)
            have S1 : Hid (SF w0 base g cap D1 wr) := by rw [hD1]; exact hS
            clear hS parts hD1
            by_cases c3 : a < st
            · by_cases c4 : st < mid
              · have d3 : decide ((a : Int) < (st : Int)) = true := decide_eq_true (by omega)
                have d4 : decide ((st : Int) < (mid : Int)) = true := decide_eq_true (by omega)
                have sc2 := ih S1.out (by have := hz1.out; omega) c3 c4 (by have := hz1.out; omega) (by omega) P1.out.2.1 P1.out.2.2.1
                rw [← hz1.out] at sc2
                unfold SYM at sc2
                go_wp2_with fail
                refine sc2.mono ?_
                rintro e W2 ⟨rfl, D2, S2, p2, o2⟩
                have hz2 := Lib.hid (show D2.size = d.size from p2.1.trans hz1.out.symm)
                have S2 := Lib.hid S2
                have P2 := Lib.hid (And.intro p2 o2)
                clear sc2 p2 o2
                by_cases c5 : mid < en
                · by_cases c6 : en < b
                  · have d5 : decide ((mid : Int) < (en : Int)) = true := decide_eq_true (by omega)
                    have d6 : decide ((en : Int) < (b : Int)) = true := decide_eq_true (by omega)
                    have sc3 := ih S2.out (by have := hz2.out; omega) c5 c6 (by have := hz2.out; omega) (by omega) (sorted_same P1.out.2.2.2.1 (fun t h1 h2 => P2.out.1.2.1 t (.inr h1))) (sorted_same P1.out.2.2.2.2.1 (fun t h1 h2 => P2.out.1.2.1 t (.inr (by omega))))
                    rw [hz2.out] at sc3
                    unfold SYM at sc3
                    go_wp2_with fail
                    refine sc3.mono ?_
                    rintro e W3 ⟨rfl, D3, S3, p3, o3⟩
                    have S3 := Lib.hid S3
                    have P3 := Lib.hid (And.intro p3 o3)
                    clear sc3 p3 o3
                    go_wp2_with fail
                    go_end0
                    exact sym_end hz1.out (by omega) (by omega) hb P1.out.1 P1.out.2.2.2.2.2 P2.out.1 P2.out.2 P3.out.1 P3.out.2 S3.out
                  · have d5 : decide ((mid : Int) < (en : Int)) = true := decide_eq_true (by omega)
                    have d6 : decide ((en : Int) < (b : Int)) = false := decide_eq_false (by omega)
                    have P3 := Lib.hid (And.intro (permIn_refl D2 mid b) (sorted_halves (sorted_same P1.out.2.2.2.1 (fun t h1 h2 => P2.out.1.2.1 t (.inr h1))) (sorted_same P1.out.2.2.2.2.1 (fun t h1 h2 => P2.out.1.2.1 t (.inr (by omega)))) (fun h => c6 h.2) (by omega) (by omega)))
                    have S3 := S2
                    go_wp2_with fail
                    go_end0
                    exact sym_end hz1.out (by omega) (by omega) hb P1.out.1 P1.out.2.2.2.2.2 P2.out.1 P2.out.2 P3.out.1 P3.out.2 S3.out
                · have d5 : decide ((mid : Int) < (en : Int)) = false := decide_eq_false (by omega)
                  have P3 := Lib.hid (And.intro (permIn_refl D2 mid b) (sorted_halves (sorted_same P1.out.2.2.2.1 (fun t h1 h2 => P2.out.1.2.1 t (.inr h1))) (sorted_same P1.out.2.2.2.2.1 (fun t h1 h2 => P2.out.1.2.1 t (.inr (by omega)))) (fun h => c5 h.1) (by omega) (by omega)))
                  have S3 := S2
                  go_wp2_with fail
                  go_end0
                  exact sym_end hz1.out (by omega) (by omega) hb P1.out.1 P1.out.2.2.2.2.2 P2.out.1 P2.out.2 P3.out.1 P3.out.2 S3.out
              · have d3 : decide ((a : Int) < (st : Int)) = true := decide_eq_true (by omega)
                have d4 : decide ((st : Int) < (mid : Int)) = false := decide_eq_false (by omega)
                obtain ⟨D2, hD2⟩ : ∃ D2, D2 = D1 := ⟨_, rfl⟩
                have hz2 := Lib.hid (show D2.size = d.size by rw [hD2]; exact hz1.out.symm)
                have P2 := Lib.hid (show PermIn a mid D1 D2 ∧ SortedIn ltE a mid D2 by rw [hD2]; exact ⟨permIn_refl _ _ _, sorted_halves P1.out.2.1 P1.out.2.2.1 (fun h => c4 h.2) (by omega) (by omega)⟩)
                have S2 : Hid (SF w0 base g cap D2 wr) := by rw [hD2]; exact S1
                clear hD2
                by_cases c5 : mid < en
                · by_cases c6 : en < b
                  · have d5 : decide ((mid : Int) < (en : Int)) = true := decide_eq_true (by omega)
                    have d6 : decide ((en : Int) < (b : Int)) = true := decide_eq_true (by omega)
                    have sc3 := ih S2.out (by have := hz2.out; omega) c5 c6 (by have := hz2.out; omega) (by omega) (sorted_same P1.out.2.2.2.1 (fun t h1 h2 => P2.out.1.2.1 t (.inr h1))) (sorted_same P1.out.2.2.2.2.1 (fun t h1 h2 => P2.out.1.2.1 t (.inr (by omega))))
                    rw [hz2.out] at sc3
                    unfold SYM at sc3
                    go_wp2_with fail
                    refine sc3.mono ?_
                    rintro e W3 ⟨rfl, D3, S3, p3, o3⟩
                    have S3 := Lib.hid S3
                    have P3 := Lib.hid (And.intro p3 o3)
                    clear sc3 p3 o3
                    go_wp2_with fail
                    go_end0
                    exact sym_end hz1.out (by omega) (by omega) hb P1.out.1 P1.out.2.2.2.2.2 P2.out.1 P2.out.2 P3.out.1 P3.out.2 S3.out
                  · have d5 : decide ((mid : Int) < (en : Int)) = true := decide_eq_true (by omega)
                    have d6 : decide ((en : Int) < (b : Int)) = false := decide_eq_false (by omega)
                    have P3 := Lib.hid (And.intro (permIn_refl D2 mid b) (sorted_halves (sorted_same P1.out.2.2.2.1 (fun t h1 h2 => P2.out.1.2.1 t (.inr h1))) (sorted_same P1.out.2.2.2.2.1 (fun t h1 h2 => P2.out.1.2.1 t (.inr (by omega)))) (fun h => c6 h.2) (by omega) (by omega)))
                    have S3 := S2
                    go_wp2_with fail
                    go_end0
                    exact sym_end hz1.out (by omega) (by omega) hb P1.out.1 P1.out.2.2.2.2.2 P2.out.1 P2.out.2 P3.out.1 P3.out.2 S3.out
                · have d5 : decide ((mid : Int) < (en : Int)) = false := decide_eq_false (by omega)
                  have P3 := Lib.hid (And.intro (permIn_refl D2 mid b) (sorted_halves (sorted_same P1.out.2.2.2.1 (fun t h1 h2 => P2.out.1.2.1 t (.inr h1))) (sorted_same P1.out.2.2.2.2.1 (fun t h1 h2 => P2.out.1.2.1 t (.inr (by omega)))) (fun h => c5 h.1) (by omega) (by omega)))
                  have S3 := S2
                  go_wp2_with fail
                  go_end0
                  exact sym_end hz1.out (by omega) (by omega) hb P1.out.1 P1.out.2.2.2.2.2 P2.out.1 P2.out.2 P3.out.1 P3.out.2 S3.out
            · have d3 : decide ((a : Int) < (st : Int)) = false := decide_eq_false (by omega)
              obtain ⟨D2, hD2⟩ : ∃ D2, D2 = D1 := ⟨_, rfl⟩
              have hz2 := Lib.hid (show D2.size = d.size by rw [hD2]; exact hz1.out.symm)
              have P2 := Lib.hid (show PermIn a mid D1 D2 ∧ SortedIn ltE a mid D2 by rw [hD2]; exact ⟨permIn_refl _ _ _, sorted_halves P1.out.2.1 P1.out.2.2.1 (fun h => c3 h.1) (by omega) (by omega)⟩)
              have S2 : Hid (SF w0 base g cap D2 wr) := by rw [hD2]; exact S1
              clear hD2
              by_cases c5 : mid < en
              · by_cases c6 : en < b
                · have d5 : decide ((mid : Int) < (en : Int)) = true := decide_eq_true (by omega)
                  have d6 : decide ((en : Int) < (b : Int)) = true := decide_eq_true (by omega)
                  have sc3 := ih S2.out (by have := hz2.out; omega) c5 c6 (by have := hz2.out; omega) (by omega) (sorted_same P1.out.2.2.2.1 (fun t h1 h2 => P2.out.1.2.1 t (.inr h1))) (sorted_same P1.out.2.2.2.2.1 (fun t h1 h2 => P2.out.1.2.1 t (.inr (by omega))))
                  rw [hz2.out] at sc3
                  unfold SYM at sc3
                  go_wp2_with fail
                  refine sc3.mono ?_
                  rintro e W3 ⟨rfl, D3, S3, p3, o3⟩
                  have S3 := Lib.hid S3
                  have P3 := Lib.hid (And.intro p3 o3)
                  clear sc3 p3 o3
                  go_wp2_with fail
                  go_end0
                  exact sym_end hz1.out (by omega) (by omega) hb P1.out.1 P1.out.2.2.2.2.2 P2.out.1 P2.out.2 P3.out.1 P3.out.2 S3.out
                · have d5 : decide ((mid : Int) < (en : Int)) = true := decide_eq_true (by omega)
                  have d6 : decide ((en : Int) < (b : Int)) = false := decide_eq_false (by omega)
                  have P3 := Lib.hid (And.intro (permIn_refl D2 mid b) (sorted_halves (sorted_same P1.out.2.2.2.1 (fun t h1 h2 => P2.out.1.2.1 t (.inr h1))) (sorted_same P1.out.2.2.2.2.1 (fun t h1 h2 => P2.out.1.2.1 t (.inr (by omega)))) (fun h => c6 h.2) (by omega) (by omega)))
                  have S3 := S2
                  go_wp2_with fail
                  go_end0
                  exact sym_end hz1.out (by omega) (by omega) hb P1.out.1 P1.out.2.2.2.2.2 P2.out.1 P2.out.2 P3.out.1 P3.out.2 S3.out
              · have d5 : decide ((mid : Int) < (en : Int)) = false := decide_eq_false (by omega)
                have P3 := Lib.hid (And.intro (permIn_refl D2 mid b) (sorted_halves (sorted_same P1.out.2.2.2.1 (fun t h1 h2 => P2.out.1.2.1 t (.inr h1))) (sorted_same P1.out.2.2.2.2.1 (fun t h1 h2 => P2.out.1.2.1 t (.inr (by omega)))) (fun h => c5 h.1) (by omega) (by omega)))
                have S3 := S2
                go_wp2_with fail
                go_end0
                exact sym_end hz1.out (by omega) (by omega) hb P1.out.1 P1.out.2.2.2.2.2 P2.out.1 P2.out.2 P3.out.1 P3.out.2 S3.out
        · have d1 : decide ((st : Int) < (m : Int)) = false := decide_eq_false (by omega)
          obtain ⟨D1, hD1⟩ : ∃ D1, D1 = d := ⟨_, rfl⟩
          have hz1 := Lib.hid (show d.size = D1.size by rw [hD1])
          have P1 := Lib.hid (show PermIn a b d D1 ∧ _ from ⟨by rw [hD1]; exact permIn_refl _ _ _, parts D1 (by rw [hD1]; exact rotD_same (fun h => c1 h.1) e1.2.1 e1.2.2.1 e1.2.2.2.2)⟩)
          have S1 : Hid (SF w0 base g cap D1 wr) := by rw [hD1]; exact hS
          clear hS parts hD1
          by_cases c3 : a < st
          · by_cases c4 : st < mid
            · have d3 : decide ((a : Int) < (st : Int)) = true := decide_eq_true (by omega)
              have d4 : decide ((st : Int) < (mid : Int)) = true := decide_eq_true (by omega)
              have sc2 := ih S1.out (by have := hz1.out; omega) c3 c4 (by have := hz1.out; omega) (by omega) P1.out.2.1 P1.out.2.2.1
              rw [← hz1.out] at sc2
              unfold SYM at sc2
              go_wp2_with fail
              refine sc2.mono ?_
              rintro e W2 ⟨rfl, D2, S2, p2, o2⟩
              have hz2 := Lib.hid (show D2.size = d.size from p2.1.trans hz1.out.symm)
              have S2 := Lib.hid S2
              have P2 := Lib.hid (And.intro p2 o2)
              clear sc2 p2 o2
              by_cases c5 : mid < en
              · by_cases c6 : en < b
                · have d5 : decide ((mid : Int) < (en : Int)) = true := decide_eq_true (by omega)
                  have d6 : decide ((en : Int) < (b : Int)) = true := decide_eq_true (by omega)
                  have sc3 := ih S2.out (by have := hz2.out; omega) c5 c6 (by have := hz2.out; omega) (by omega) (sorted_same P1.out.2.2.2.1 (fun t h1 h2 => P2.out.1.2.1 t (.inr h1))) (sorted_same P1.out.2.2.2.2.1 (fun t h1 h2 => P2.out.1.2.1 t (.inr (by omega))))
                  rw [hz2.out] at sc3
                  unfold SYM at sc3
                  go_wp2_with fail
                  refine sc3.mono ?_
                  rintro e W3 ⟨rfl, D3, S3, p3, o3⟩
                  have S3 := Lib.hid S3
                  have P3 := Lib.hid (And.intro p3 o3)
                  clear sc3 p3 o3
                  go_wp2_with fail
                  go_end0
                  exact sym_end hz1.out (by omega) (by omega) hb P1.out.1 P1.out.2.2.2.2.2 P2.out.1 P2.out.2 P3.out.1 P3.out.2 S3.out
                · have d5 : decide ((mid : Int) < (en : Int)) = true := decide_eq_true (by omega)
                  have d6 : decide ((en : Int) < (b : Int)) = false := decide_eq_false (by omega)
                  have P3 := Lib.hid (And.intro (permIn_refl D2 mid b) (sorted_halves (sorted_same P1.out.2.2.2.1 (fun t h1 h2 => P2.out.1.2.1 t (.inr h1))) (sorted_same P1.out.2.2.2.2.1 (fun t h1 h2 => P2.out.1.2.1 t (.inr (by omega)))) (fun h => c6 h.2) (by omega) (by omega)))
                  have S3 := S2
                  go_wp2_with fail
                  go_end0
                  exact sym_end hz1.out (by omega) (by omega) hb P1.out.1 P1.out.2.2.2.2.2 P2.out.1 P2.out.2 P3.out.1 P3.out.2 S3.out
              · have d5 : decide ((mid : Int) < (en : Int)) = false := decide_eq_false (by omega)
                have P3 := Lib.hid (And.intro (permIn_refl D2 mid b) (sorted_halves (sorted_same P1.out.2.2.2.1 (fun t h1 h2 => P2.out.1.2.1 t (.inr h1))) (sorted_same P1.out.2.2.2.2.1 (fun t h1 h2 => P2.out.1.2.1 t (.inr (by omega)))) (fun h => c5 h.1) (by omega) (by omega)))
                have S3 := S2
                go_wp2_with fail
                go_end0
                exact sym_end hz1.out (by omega) (by omega) hb P1.out.1 P1.out.2.2.2.2.2 P2.out.1 P2.out.2 P3.out.1 P3.out.2 S3.out
            · have d3 : decide ((a : Int) < (st : Int)) = true := decide_eq_true (by omega)
              have d4 : decide ((st : Int) < (mid : Int)) = false := decide_eq_false (by omega)
              obtain ⟨D2, hD2⟩ : ∃ D2, D2 = D1 := ⟨_, rfl⟩
              have hz2 := Lib.hid (show D2.size = d.size by rw [hD2]; exact hz1.out.symm)
              have P2 := Lib.hid (show PermIn a mid D1 D2 ∧ SortedIn ltE a mid D2 by rw [hD2]; exact ⟨permIn_refl _ _ _, sorted_halves P1.out.2.1 P1.out.2.2.1 (fun h => c4 h.2) (by omega) (by omega)⟩)
              have S2 : Hid (SF w0 base g cap D2 wr) := by rw [hD2]; exact S1
              clear hD2
              by_cases c5 : mid < en
              · by_cases c6 : en < b
                · have d5 : decide ((mid : Int) < (en : Int)) = true := decide_eq_true (by omega)
                  have d6 : decide ((en : Int) < (b : Int)) = true := decide_eq_true (by omega)
                  have sc3 := ih S2.out (by have := hz2.out; omega) c5 c6 (by have := hz2.out; omega) (by omega) (sorted_same P1.out.2.2.2.1 (fun t h1 h2 => P2.out.1.2.1 t (.inr h1))) (sorted_same P1.out.2.2.2.2.1 (fun t h1 h2 => P2.out.1.2.1 t (.inr (by omega))))
                  rw [hz2.out] at sc3
                  unfold SYM at sc3
                  go_wp2_with fail
                  refine sc3.mono ?_
                  rintro e W3 ⟨rfl, D3, S3, p3, o3⟩
                  have S3 := Lib.hid S3
                  have P3 := Lib.hid (And.intro p3 o3)
                  clear sc3 p3 o3
                  go_wp2_with fail
                  go_end0
                  exact sym_end hz1.out (by omega) (by omega) hb P1.out.1 P1.out.2.2.2.2.2 P2.out.1 P2.out.2 P3.out.1 P3.out.2 S3.out
                · have d5 : decide ((mid : Int) < (en : Int)) = true := decide_eq_true (by omega)
                  have d6 : decide ((en : Int) < (b : Int)) = false := decide_eq_false (by omega)
                  have P3 := Lib.hid (And.intro (permIn_refl D2 mid b) (sorted_halves (sorted_same P1.out.2.2.2.1 (fun t h1 h2 => P2.out.1.2.1 t (.inr h1))) (sorted_same P1.out.2.2.2.2.1 (fun t h1 h2 => P2.out.1.2.1 t (.inr (by omega)))) (fun h => c6 h.2) (by omega) (by omega)))
                  have S3 := S2
                  go_wp2_with fail
                  go_end0
                  exact sym_end hz1.out (by omega) (by omega) hb P1.out.1 P1.out.2.2.2.2.2 P2.out.1 P2.out.2 P3.out.1 P3.out.2 S3.out
              · have d5 : decide ((mid : Int) < (en : Int)) = false := decide_eq_false (by omega)
                have P3 := Lib.hid (And.intro (permIn_refl D2 mid b) (sorted_halves (sorted_same P1.out.2.2.2.1 (fun t h1 h2 => P2.out.1.2.1 t (.inr h1))) (sorted_same P1.out.2.2.2.2.1 (fun t h1 h2 => P2.out.1.2.1 t (.inr (by omega)))) (fun h => c5 h.1) (by omega) (by omega)))
                have S3 := S2
                go_wp2_with fail
                go_end0
                exact sym_end hz1.out (by omega) (by omega) hb P1.out.1 P1.out.2.2.2.2.2 P2.out.1 P2.out.2 P3.out.1 P3.out.2 S3.out
          · have d3 : decide ((a : Int) < (st : Int)) = false := decide_eq_false (by omega)
            obtain ⟨D2, hD2⟩ : ∃ D2, D2 = D1 := ⟨_, rfl⟩
            have hz2 := Lib.hid (show D2.size = d.size by rw [hD2]; exact hz1.out.symm)
            have P2 := Lib.hid (show PermIn a mid D1 D2 ∧ SortedIn ltE a mid D2 by rw [hD2]; exact ⟨permIn_refl _ _ _, sorted_halves P1.out.2.1 P1.out.2.2.1 (fun h => c3 h.1) (by omega) (by omega)⟩)
            have S2 : Hid (SF w0 base g cap D2 wr) := by rw [hD2]; exact S1
            clear hD2
            by_cases c5 : mid < en
            · by_cases c6 : en < b
              · have d5 : decide ((mid : Int) < (en : Int)) = true := decide_eq_true (by omega)
                have d6 : decide ((en : Int) < (b : Int)) = true := decide_eq_true (by omega)
                have sc3 := ih S2.out (by have := hz2.out; omega) c5 c6 (by have := hz2.out; omega) (by omega) (sorted_same P1.out.2.2.2.1 (fun t h1 h2 => P2.out.1.2.1 t (.inr h1))) (sorted_same P1.out.2.2.2.2.1 (fun t h1 h2 => P2.out.1.2.1 t (.inr (by omega))))
                rw [hz2.out] at sc3
                unfold SYM at sc3
                go_wp2_with fail
                refine sc3.mono ?_
                rintro e W3 ⟨rfl, D3, S3, p3, o3⟩
                have S3 := Lib.hid S3
                have P3 := Lib.hid (And.intro p3 o3)
                clear sc3 p3 o3
                go_wp2_with fail
                go_end0
                exact sym_end hz1.out (by omega) (by omega) hb P1.out.1 P1.out.2.2.2.2.2 P2.out.1 P2.out.2 P3.out.1 P3.out.2 S3.out
              · have d5 : decide ((mid : Int) < (en : Int)) = true := decide_eq_true (by omega)
                have d6 : decide ((en : Int) < (b : Int)) = false := decide_eq_false (by omega)
                have P3 := Lib.hid (And.intro (permIn_refl D2 mid b) (sorted_halves (sorted_same P1.out.2.2.2.1 (fun t h1 h2 => P2.out.1.2.1 t (.inr h1))) (sorted_same P1.out.2.2.2.2.1 (fun t h1 h2 => P2.out.1.2.1 t (.inr (by omega)))) (fun h => c6 h.2) (by omega) (by omega)))
                have S3 := S2
                go_wp2_with fail
                go_end0
                exact sym_end hz1.out (by omega) (by omega) hb P1.out.1 P1.out.2.2.2.2.2 P2.out.1 P2.out.2 P3.out.1 P3.out.2 S3.out
            · have d5 : decide ((mid : Int) < (en : Int)) = false := decide_eq_false (by omega)
              have P3 := Lib.hid (And.intro (permIn_refl D2 mid b) (sorted_halves (sorted_same P1.out.2.2.2.1 (fun t h1 h2 => P2.out.1.2.1 t (.inr h1))) (sorted_same P1.out.2.2.2.2.1 (fun t h1 h2 => P2.out.1.2.1 t (.inr (by omega)))) (fun h => c5 h.1) (by omega) (by omega)))
              have S3 := S2
              go_wp2_with fail
              go_end0
              exact sym_end hz1.out (by omega) (by omega) hb P1.out.1 P1.out.2.2.2.2.2 P2.out.1 P2.out.2 P3.out.1 P3.out.2 S3.out
  · have g1 : decide ((mid : Int) < (m : Int)) = false := decide_eq_false (by omega)
    have hl0 : a = a ∨ n ≤ a + b ∧ a + b ≤ n := .inl rfl
    have hr0 : m = m ∨ n ≤ m + m ∧ m + m ≤ n := .inl rfl
    have hB : a ≤ a ∧ a ≤ m ∧ m ≤ m ∧ m + m ≤ n ∧ n ≤ b + a := by omega
    go_enter Tryd.func86, Tryd.ntmps86
    go_wp2_with fail
    go_loopw [20, 21] (fun vi vj wr => ∃ (st r : Nat), vi = .int .i64 st ∧ vj = .int .i64 r ∧ (a ≤ st ∧ st ≤ r ∧ r ≤ m) ∧ Hid (SF w0 base g cap d wr ∧ (st = a ∨ ltE d[n - st]! d[st - 1]! = false) ∧ (r = m ∨ ltE d[p - r]! d[r]! = true))) (fun vi vj _ => (intOf vj).toNat - (intOf vi).toNat)
    case atStart => exact ⟨a, m, by first | rfl | go_num, by first | rfl | go_num, by omega, H0.out.1, .inl rfl, .inl rfl⟩
    case round =>
      obtain ⟨st, r, rfl, rfl, hij, HR⟩ := hrel
      by_cases hlt : st < r
      · obtain ⟨hS, q1, q2⟩ := HR.out
        obtain ⟨c, hc⟩ : ∃ c : Nat, c = (st + r) / 2 := ⟨_, rfl⟩
        obtain ⟨pc, hpc⟩ : ∃ pc : Nat, pc = p - c := ⟨_, rfl⟩
        have wij : IntKind.i64.wrap ((st : Int) + (r : Int)) = ((st + r : Nat) : Int) := by rw [IntWalk.i64_in _ (by omega)]; omega
        have hmi : ((st : Int) + (r : Int)) / 2 = (c : Int) := by omega
        have wpc : IntKind.i64.wrap ((p : Int) - (c : Int)) = (pc : Int) := by rw [IntWalk.i64_in _ (by omega)]; omega
        have hcl : c < d.size := by omega
        have hpl : pc < d.size := by omega
        have HC := Lib.hid (show st ≤ c ∧ c < r by omega)
        have HPC := Lib.hid (show n - (c + 1) = pc ∧ pc = p - c by omega)
        have ld1 := fun w' hk => hS.load hpl w' hk
        have ld2 := fun w' hk => hS.load hcl w' hk
        clear hc hpc
        have cc := fun w' => join1_ct (w := w') d[pc]! d[c]!
        have hcv := cmpI_neg d[pc]!.1.1 d[c]!.1.1
        have hlte : ltB d[pc]!.1.1 d[c]!.1.1 = ltE d[pc]! d[c]! := rfl
        rw [hlte] at hcv
        obtain ⟨cv, hcve⟩ : ∃ cv, cv = cmpI d[pc]!.1.1 d[c]!.1.1 := ⟨_, rfl⟩
        rw [← hcve] at hcv cc
        obtain ⟨xh, hxh⟩ : ∃ x, x = d[pc]! := ⟨_, rfl⟩
        obtain ⟨xa, hxa⟩ : ∃ x, x = d[c]! := ⟨_, rfl⟩
        rw [← hxh] at ld1 cc
        rw [← hxa] at ld2 cc
        clear hcve hxh hxa hlte
        have lc : (c : Int) < (d.size : Int) := by omega
        have la : (pc : Int) < (d.size : Int) := by omega
        cases htv : ltE d[pc]! d[c]! with
        | false =>
          rw [htv] at hcv
          have HX : ∀ W', Kept (fun _ => False) wr W' → Hid (SF w0 base g cap d W' ∧ (c + 1 = a ∨ ltE d[n - (c + 1)]! d[c + 1 - 1]! = false) ∧ (r = m ∨ ltE d[p - r]! d[r]! = true)) := fun W' hk => ⟨hS.later hk, .inr (by rw [Nat.add_sub_cancel, HPC.out.1]; exact htv), q2⟩
          have HX := Lib.hid HX
          have wm1 : IntKind.i64.wrap ((c : Int) + 1) = ((c + 1 : Nat) : Int) := by rw [IntWalk.i64_in _ (by omega)]; omega
          clear hS q1 q2 HR htv
          go_wp2_with fail
          refine wp_region_held_drew (S := (Kept (fun _ => False) wr)) (by kernel_rfl) ((Kept.refl _ wr).drew) (fun hHeld => ?_)
          refine held_q (v := ?_) (i := 0) rfl (by kernel_rfl) (by kernel_rfl) (by kernel_rfl) (fun _ _ _ h => h) (by rfl) hHeld ?_ ?_
          rotate_left
          · (intro w' hS'; go_simp <;> (with_reducible rfl))
          simp only [Act.put, List.getElem_toArray, List.getElem_cons_zero, List.getElem_cons_succ, List.setIfInBounds_toArray, List.set_cons_zero, List.set_cons_succ]
          refine held_q (v := ?_) (i := 1) rfl (by kernel_rfl) (by kernel_rfl) (by kernel_rfl) (fun _ _ _ h => h) (by rfl) hHeld ?_ ?_
          rotate_left
          · (intro w' hS'; go_simp <;> (with_reducible rfl))
          simp only [Act.put, List.getElem_toArray, List.getElem_cons_zero, List.getElem_cons_succ, List.setIfInBounds_toArray, List.set_cons_zero, List.set_cons_succ]
          refine held_q (v := ?_) (i := 2) rfl (by kernel_rfl) (by kernel_rfl) (by kernel_rfl) (fun _ _ _ h => h) (by rfl) hHeld ?_ ?_
          rotate_left
          · (intro w' hS'; go_simp <;> (with_reducible rfl))
          simp only [Act.put, List.getElem_toArray, List.getElem_cons_zero, List.getElem_cons_succ, List.setIfInBounds_toArray, List.set_cons_zero, List.set_cons_succ]
          refine held_q (v := ?_) (i := 3) rfl (by kernel_rfl) (by kernel_rfl) (by kernel_rfl) (fun _ _ _ h => h) (by rfl) hHeld ?_ ?_
          rotate_left
          · (intro w' hS'; go_simp <;> (with_reducible rfl))
          simp only [Act.put, List.getElem_toArray, List.getElem_cons_zero, List.getElem_cons_succ, List.setIfInBounds_toArray, List.set_cons_zero, List.set_cons_succ]
          refine held_q (v := ?_) (i := 4) rfl (by kernel_rfl) (by kernel_rfl) (by kernel_rfl) (fun _ _ _ h => h) (by rfl) hHeld ?_ ?_
          rotate_left
          · (intro w' hS'; go_simp <;> (with_reducible rfl))
          simp only [Act.put, List.getElem_toArray, List.getElem_cons_zero, List.getElem_cons_succ, List.setIfInBounds_toArray, List.set_cons_zero, List.set_cons_succ]
          refine held_q (v := ?_) (i := 5) rfl (by kernel_rfl) (by kernel_rfl) (by kernel_rfl) (fun _ _ _ h => h) (by rfl) hHeld ?_ ?_
          rotate_left
          · (intro w' hS'; go_simp <;> (with_reducible rfl))
          simp only [Act.put, List.getElem_toArray, List.getElem_cons_zero, List.getElem_cons_succ, List.setIfInBounds_toArray, List.set_cons_zero, List.set_cons_succ]
          refine held_q (i := 6) rfl (by kernel_rfl) (by kernel_rfl) (by kernel_rfl) (fun _ _ _ h => h) (by rfl) hHeld (fun w' hS' => exec_load 46 _ rfl rfl (ld1 w' hS')) ?_
          simp only [Act.put, List.getElem_toArray, List.getElem_cons_zero, List.getElem_cons_succ, List.setIfInBounds_toArray, List.set_cons_zero, List.set_cons_succ]
          refine held_q (v := ?_) (i := 7) rfl (by kernel_rfl) (by kernel_rfl) (by kernel_rfl) (fun _ _ _ h => h) (by rfl) hHeld ?_ ?_
          rotate_left
          · (intro w' hS'; go_simp <;> (with_reducible rfl))
          simp only [Act.put, List.getElem_toArray, List.getElem_cons_zero, List.getElem_cons_succ, List.setIfInBounds_toArray, List.set_cons_zero, List.set_cons_succ]
          refine held_q (v := ?_) (i := 8) rfl (by kernel_rfl) (by kernel_rfl) (by kernel_rfl) (fun _ _ _ h => h) (by rfl) hHeld ?_ ?_
          rotate_left
          · (intro w' hS'; go_simp <;> (with_reducible rfl))
          simp only [Act.put, List.getElem_toArray, List.getElem_cons_zero, List.getElem_cons_succ, List.setIfInBounds_toArray, List.set_cons_zero, List.set_cons_succ]
          refine held_q (v := ?_) (i := 9) rfl (by kernel_rfl) (by kernel_rfl) (by kernel_rfl) (fun _ _ _ h => h) (by rfl) hHeld ?_ ?_
          rotate_left
          · (intro w' hS'; go_simp <;> (with_reducible rfl))
          simp only [Act.put, List.getElem_toArray, List.getElem_cons_zero, List.getElem_cons_succ, List.setIfInBounds_toArray, List.set_cons_zero, List.set_cons_succ]
          refine held_q (i := 10) rfl (by kernel_rfl) (by kernel_rfl) (by kernel_rfl) (fun _ _ _ h => h) (by rfl) hHeld (fun w' hS' => exec_load 46 _ rfl rfl (ld2 w' hS')) ?_
          simp only [Act.put, List.getElem_toArray, List.getElem_cons_zero, List.getElem_cons_succ, List.setIfInBounds_toArray, List.set_cons_zero, List.set_cons_succ]
          refine held_c (i := 11) (f := 52) (args := #[aggE xh, aggE xa]) (by kernel_rfl) rfl (by rfl) ?_ (cc _) ?_
          · (go_simp <;> rfl)
          rintro e W8 ⟨rfl, kq⟩
          have hHeld := hHeld.trans kq
          refine ⟨_, rfl, hHeld, ?_⟩
          simp only [Act.put, List.getElem_toArray, List.getElem_cons_zero, List.getElem_cons_succ, List.setIfInBounds_toArray, List.set_cons_zero, List.set_cons_succ]
          refine held_q (v := ?_) (i := 12) rfl (by kernel_rfl) (by kernel_rfl) (by kernel_rfl) (fun _ _ _ h => h) (by rfl) hHeld ?_ ?_
          rotate_left
          · (intro w' hS'; go_simp <;> (with_reducible rfl))
          simp only [Act.put, List.getElem_toArray, List.getElem_cons_zero, List.getElem_cons_succ, List.setIfInBounds_toArray, List.set_cons_zero, List.set_cons_succ]
          refine held_q (v := ?_) (i := 13) rfl (by kernel_rfl) (by kernel_rfl) (by kernel_rfl) (fun _ _ _ h => h) (by rfl) hHeld ?_ ?_
          rotate_left
          · (intro w' hS'; go_simp <;> (with_reducible rfl))
          simp only [Act.put, List.getElem_toArray, List.getElem_cons_zero, List.getElem_cons_succ, List.setIfInBounds_toArray, List.set_cons_zero, List.set_cons_succ]
          refine wpAnyH_done (by kernel_rfl) ?_ _
          go_wp2_with fail
          obtain ⟨c1, c2⟩ := HC.out
          go_roundw
          case rel => exact ⟨c + 1, r, by go_num, rfl, by omega, HX.out _ hHeld⟩
          case measure => simp [intOf]; omega
        | true =>
          rw [htv] at hcv
          have HX : ∀ W', Kept (fun _ => False) wr W' → Hid (SF w0 base g cap d W' ∧ (st = a ∨ ltE d[n - st]! d[st - 1]! = false) ∧ (c = m ∨ ltE d[p - c]! d[c]! = true)) := fun W' hk => ⟨hS.later hk, q1, .inr (by rw [← HPC.out.2]; exact htv)⟩
          have HX := Lib.hid HX
          clear hS q1 q2 HR htv
          go_wp2_with fail
          refine wp_region_held_drew (S := (Kept (fun _ => False) wr)) (by kernel_rfl) ((Kept.refl _ wr).drew) (fun hHeld => ?_)
          refine held_q (v := ?_) (i := 0) rfl (by kernel_rfl) (by kernel_rfl) (by kernel_rfl) (fun _ _ _ h => h) (by rfl) hHeld ?_ ?_
          rotate_left
          · (intro w' hS'; go_simp <;> (with_reducible rfl))
          simp only [Act.put, List.getElem_toArray, List.getElem_cons_zero, List.getElem_cons_succ, List.setIfInBounds_toArray, List.set_cons_zero, List.set_cons_succ]
          refine held_q (v := ?_) (i := 1) rfl (by kernel_rfl) (by kernel_rfl) (by kernel_rfl) (fun _ _ _ h => h) (by rfl) hHeld ?_ ?_
          rotate_left
          · (intro w' hS'; go_simp <;> (with_reducible rfl))
          simp only [Act.put, List.getElem_toArray, List.getElem_cons_zero, List.getElem_cons_succ, List.setIfInBounds_toArray, List.set_cons_zero, List.set_cons_succ]
          refine held_q (v := ?_) (i := 2) rfl (by kernel_rfl) (by kernel_rfl) (by kernel_rfl) (fun _ _ _ h => h) (by rfl) hHeld ?_ ?_
          rotate_left
          · (intro w' hS'; go_simp <;> (with_reducible rfl))
          simp only [Act.put, List.getElem_toArray, List.getElem_cons_zero, List.getElem_cons_succ, List.setIfInBounds_toArray, List.set_cons_zero, List.set_cons_succ]
          refine held_q (v := ?_) (i := 3) rfl (by kernel_rfl) (by kernel_rfl) (by kernel_rfl) (fun _ _ _ h => h) (by rfl) hHeld ?_ ?_
          rotate_left
          · (intro w' hS'; go_simp <;> (with_reducible rfl))
          simp only [Act.put, List.getElem_toArray, List.getElem_cons_zero, List.getElem_cons_succ, List.setIfInBounds_toArray, List.set_cons_zero, List.set_cons_succ]
          refine held_q (v := ?_) (i := 4) rfl (by kernel_rfl) (by kernel_rfl) (by kernel_rfl) (fun _ _ _ h => h) (by rfl) hHeld ?_ ?_
          rotate_left
          · (intro w' hS'; go_simp <;> (with_reducible rfl))
          simp only [Act.put, List.getElem_toArray, List.getElem_cons_zero, List.getElem_cons_succ, List.setIfInBounds_toArray, List.set_cons_zero, List.set_cons_succ]
          refine held_q (v := ?_) (i := 5) rfl (by kernel_rfl) (by kernel_rfl) (by kernel_rfl) (fun _ _ _ h => h) (by rfl) hHeld ?_ ?_
          rotate_left
          · (intro w' hS'; go_simp <;> (with_reducible rfl))
          simp only [Act.put, List.getElem_toArray, List.getElem_cons_zero, List.getElem_cons_succ, List.setIfInBounds_toArray, List.set_cons_zero, List.set_cons_succ]
          refine held_q (i := 6) rfl (by kernel_rfl) (by kernel_rfl) (by kernel_rfl) (fun _ _ _ h => h) (by rfl) hHeld (fun w' hS' => exec_load 46 _ rfl rfl (ld1 w' hS')) ?_
          simp only [Act.put, List.getElem_toArray, List.getElem_cons_zero, List.getElem_cons_succ, List.setIfInBounds_toArray, List.set_cons_zero, List.set_cons_succ]
          refine held_q (v := ?_) (i := 7) rfl (by kernel_rfl) (by kernel_rfl) (by kernel_rfl) (fun _ _ _ h => h) (by rfl) hHeld ?_ ?_
          rotate_left
          · (intro w' hS'; go_simp <;> (with_reducible rfl))
          simp only [Act.put, List.getElem_toArray, List.getElem_cons_zero, List.getElem_cons_succ, List.setIfInBounds_toArray, List.set_cons_zero, List.set_cons_succ]
          refine held_q (v := ?_) (i := 8) rfl (by kernel_rfl) (by kernel_rfl) (by kernel_rfl) (fun _ _ _ h => h) (by rfl) hHeld ?_ ?_
          rotate_left
          · (intro w' hS'; go_simp <;> (with_reducible rfl))
          simp only [Act.put, List.getElem_toArray, List.getElem_cons_zero, List.getElem_cons_succ, List.setIfInBounds_toArray, List.set_cons_zero, List.set_cons_succ]
          refine held_q (v := ?_) (i := 9) rfl (by kernel_rfl) (by kernel_rfl) (by kernel_rfl) (fun _ _ _ h => h) (by rfl) hHeld ?_ ?_
          rotate_left
          · (intro w' hS'; go_simp <;> (with_reducible rfl))
          simp only [Act.put, List.getElem_toArray, List.getElem_cons_zero, List.getElem_cons_succ, List.setIfInBounds_toArray, List.set_cons_zero, List.set_cons_succ]
          refine held_q (i := 10) rfl (by kernel_rfl) (by kernel_rfl) (by kernel_rfl) (fun _ _ _ h => h) (by rfl) hHeld (fun w' hS' => exec_load 46 _ rfl rfl (ld2 w' hS')) ?_
          simp only [Act.put, List.getElem_toArray, List.getElem_cons_zero, List.getElem_cons_succ, List.setIfInBounds_toArray, List.set_cons_zero, List.set_cons_succ]
          refine held_c (i := 11) (f := 52) (args := #[aggE xh, aggE xa]) (by kernel_rfl) rfl (by rfl) ?_ (cc _) ?_
          · (go_simp <;> rfl)
          rintro e W8 ⟨rfl, kq⟩
          have hHeld := hHeld.trans kq
          refine ⟨_, rfl, hHeld, ?_⟩
          simp only [Act.put, List.getElem_toArray, List.getElem_cons_zero, List.getElem_cons_succ, List.setIfInBounds_toArray, List.set_cons_zero, List.set_cons_succ]
          refine held_q (v := ?_) (i := 12) rfl (by kernel_rfl) (by kernel_rfl) (by kernel_rfl) (fun _ _ _ h => h) (by rfl) hHeld ?_ ?_
          rotate_left
          · (intro w' hS'; go_simp <;> (with_reducible rfl))
          simp only [Act.put, List.getElem_toArray, List.getElem_cons_zero, List.getElem_cons_succ, List.setIfInBounds_toArray, List.set_cons_zero, List.set_cons_succ]
          refine held_q (v := ?_) (i := 13) rfl (by kernel_rfl) (by kernel_rfl) (by kernel_rfl) (fun _ _ _ h => h) (by rfl) hHeld ?_ ?_
          rotate_left
          · (intro w' hS'; go_simp <;> (with_reducible rfl))
          simp only [Act.put, List.getElem_toArray, List.getElem_cons_zero, List.getElem_cons_succ, List.setIfInBounds_toArray, List.set_cons_zero, List.set_cons_succ]
          refine wpAnyH_done (by kernel_rfl) ?_ _
          go_wp2_with fail
          obtain ⟨c1, c2⟩ := HC.out
          go_roundw
          case rel => exact ⟨st, c, rfl, by go_num, by omega, HX.out _ hHeld⟩
          case measure => simp [intOf]; omega
      · obtain rfl : st = r := by omega
        obtain ⟨hS, q1, q2⟩ := HR.out
        obtain ⟨en, hen⟩ : ∃ en, en = n - st := ⟨_, rfl⟩
        have wen : IntKind.i64.wrap ((n : Int) - (st : Int)) = (en : Int) := by rw [IntWalk.i64_in _ (by omega)]; omega
        have hq1 : st = a ∨ en = b ∨ ltE d[en]! d[st - 1]! = false := by
          rcases q1 with q | q
          · rcases hl0 with u | u
            · exact .inl (by omega)
            · exact .inr (.inl (by omega))
          · exact .inr (.inr (by rw [hen]; exact q))
        have hq2 : st = m ∨ en = m ∨ ltE d[en - 1]! d[st]! = true := by
          rcases q2 with q | q
          · rcases hr0 with u | u
            · exact .inl (by omega)
            · exact .inr (.inl (by omega))
          · exact .inr (.inr (by rw [show en - 1 = p - st by omega]; exact q))
        have e1 : a ≤ st ∧ st ≤ m ∧ m ≤ en ∧ en ≤ b ∧ st + en = mid + m := by omega
        have HE := Lib.hid e1
        have parts := fun (D : Array E) => sym_parts (D := D) (st := st) (en := en) (mid := mid) H0.out.2.1 H0.out.2.2 e1.1 e1.2.1 e1.2.2.1 e1.2.2.2.1 e1.2.2.2.2 hq1 hq2
        clear hq1 hq2 q1 q2 HR hen
        by_cases c1 : st < m
        · by_cases c2 : m < en
          · have d1 : decide ((st : Int) < (m : Int)) = true := decide_eq_true (by omega)
            have d2 : decide ((m : Int) < (en : Int)) = true := decide_eq_true (by omega)
            have sc1 := rotate_ct hS hd c1 c2 (by omega)
            clear hS
            go_wp2_with fail
            refine sc1.mono ?_
            rintro e W1 ⟨rfl, D1, S1, p1, o1⟩
            have hz1 := Lib.hid (show d.size = D1.size from p1.1.symm)
            have P1 := Lib.hid (show PermIn a b d D1 ∧ _ from ⟨permIn_mono _ _ _ _ _ _ (by omega) (by omega) (by omega) p1, parts D1 (rotD_of e1.1 c1 c2 e1.2.2.2.1 e1.2.2.2.2 p1 o1)⟩)
            have S1 := Lib.hid S1
            clear sc1 p1 o1 parts
            by_cases c3 : a < st
            · by_cases c4 : st < mid
              · have d3 : decide ((a : Int) < (st : Int)) = true := decide_eq_true (by omega)
                have d4 : decide ((st : Int) < (mid : Int)) = true := decide_eq_true (by omega)
                have sc2 := ih S1.out (by have := hz1.out; omega) c3 c4 (by have := hz1.out; omega) (by omega) P1.out.2.1 P1.out.2.2.1
                rw [← hz1.out] at sc2
                unfold SYM at sc2
                go_wp2_with fail
                refine sc2.mono ?_
                rintro e W2 ⟨rfl, D2, S2, p2, o2⟩
                have hz2 := Lib.hid (show D2.size = d.size from p2.1.trans hz1.out.symm)
                have S2 := Lib.hid S2
                have P2 := Lib.hid (And.intro p2 o2)
                clear sc2 p2 o2
                by_cases c5 : mid < en
                · by_cases c6 : en < b
                  · have d5 : decide ((mid : Int) < (en : Int)) = true := decide_eq_true (by omega)
                    have d6 : decide ((en : Int) < (b : Int)) = true := decide_eq_true (by omega)
                    have sc3 := ih S2.out (by have := hz2.out; omega) c5 c6 (by have := hz2.out; omega) (by omega) (sorted_same P1.out.2.2.2.1 (fun t h1 h2 => P2.out.1.2.1 t (.inr h1))) (sorted_same P1.out.2.2.2.2.1 (fun t h1 h2 => P2.out.1.2.1 t (.inr (by omega))))
                    rw [hz2.out] at sc3
                    unfold SYM at sc3
                    go_wp2_with fail
                    refine sc3.mono ?_
                    rintro e W3 ⟨rfl, D3, S3, p3, o3⟩
                    have S3 := Lib.hid S3
                    have P3 := Lib.hid (And.intro p3 o3)
                    clear sc3 p3 o3
                    go_wp2_with fail
                    go_end0
                    exact sym_end hz1.out (by omega) (by omega) hb P1.out.1 P1.out.2.2.2.2.2 P2.out.1 P2.out.2 P3.out.1 P3.out.2 S3.out
                  · have d5 : decide ((mid : Int) < (en : Int)) = true := decide_eq_true (by omega)
                    have d6 : decide ((en : Int) < (b : Int)) = false := decide_eq_false (by omega)
                    have P3 := Lib.hid (And.intro (permIn_refl D2 mid b) (sorted_halves (sorted_same P1.out.2.2.2.1 (fun t h1 h2 => P2.out.1.2.1 t (.inr h1))) (sorted_same P1.out.2.2.2.2.1 (fun t h1 h2 => P2.out.1.2.1 t (.inr (by omega)))) (fun h => c6 h.2) (by omega) (by omega)))
                    have S3 := S2
                    go_wp2_with fail
                    go_end0
                    exact sym_end hz1.out (by omega) (by omega) hb P1.out.1 P1.out.2.2.2.2.2 P2.out.1 P2.out.2 P3.out.1 P3.out.2 S3.out
                · have d5 : decide ((mid : Int) < (en : Int)) = false := decide_eq_false (by omega)
                  have P3 := Lib.hid (And.intro (permIn_refl D2 mid b) (sorted_halves (sorted_same P1.out.2.2.2.1 (fun t h1 h2 => P2.out.1.2.1 t (.inr h1))) (sorted_same P1.out.2.2.2.2.1 (fun t h1 h2 => P2.out.1.2.1 t (.inr (by omega)))) (fun h => c5 h.1) (by omega) (by omega)))
                  have S3 := S2
                  go_wp2_with fail
                  go_end0
                  exact sym_end hz1.out (by omega) (by omega) hb P1.out.1 P1.out.2.2.2.2.2 P2.out.1 P2.out.2 P3.out.1 P3.out.2 S3.out
              · have d3 : decide ((a : Int) < (st : Int)) = true := decide_eq_true (by omega)
                have d4 : decide ((st : Int) < (mid : Int)) = false := decide_eq_false (by omega)
                obtain ⟨D2, hD2⟩ : ∃ D2, D2 = D1 := ⟨_, rfl⟩
                have hz2 := Lib.hid (show D2.size = d.size by rw [hD2]; exact hz1.out.symm)
                have P2 := Lib.hid (show PermIn a mid D1 D2 ∧ SortedIn ltE a mid D2 by rw [hD2]; exact ⟨permIn_refl _ _ _, sorted_halves P1.out.2.1 P1.out.2.2.1 (fun h => c4 h.2) (by omega) (by omega)⟩)
                have S2 : Hid (SF w0 base g cap D2 W1) := by rw [hD2]; exact S1
                clear hD2
                by_cases c5 : mid < en
                · by_cases c6 : en < b
                  · have d5 : decide ((mid : Int) < (en : Int)) = true := decide_eq_true (by omega)
                    have d6 : decide ((en : Int) < (b : Int)) = true := decide_eq_true (by omega)
                    have sc3 := ih S2.out (by have := hz2.out; omega) c5 c6 (by have := hz2.out; omega) (by omega) (sorted_same P1.out.2.2.2.1 (fun t h1 h2 => P2.out.1.2.1 t (.inr h1))) (sorted_same P1.out.2.2.2.2.1 (fun t h1 h2 => P2.out.1.2.1 t (.inr (by omega))))
                    rw [hz2.out] at sc3
                    unfold SYM at sc3
                    go_wp2_with fail
                    refine sc3.mono ?_
                    rintro e W3 ⟨rfl, D3, S3, p3, o3⟩
                    have S3 := Lib.hid S3
                    have P3 := Lib.hid (And.intro p3 o3)
                    clear sc3 p3 o3
                    go_wp2_with fail
                    go_end0
                    exact sym_end hz1.out (by omega) (by omega) hb P1.out.1 P1.out.2.2.2.2.2 P2.out.1 P2.out.2 P3.out.1 P3.out.2 S3.out
                  · have d5 : decide ((mid : Int) < (en : Int)) = true := decide_eq_true (by omega)
                    have d6 : decide ((en : Int) < (b : Int)) = false := decide_eq_false (by omega)
                    have P3 := Lib.hid (And.intro (permIn_refl D2 mid b) (sorted_halves (sorted_same P1.out.2.2.2.1 (fun t h1 h2 => P2.out.1.2.1 t (.inr h1))) (sorted_same P1.out.2.2.2.2.1 (fun t h1 h2 => P2.out.1.2.1 t (.inr (by omega)))) (fun h => c6 h.2) (by omega) (by omega)))
                    have S3 := S2
                    go_wp2_with fail
                    go_end0
                    exact sym_end hz1.out (by omega) (by omega) hb P1.out.1 P1.out.2.2.2.2.2 P2.out.1 P2.out.2 P3.out.1 P3.out.2 S3.out
                · have d5 : decide ((mid : Int) < (en : Int)) = false := decide_eq_false (by omega)
                  have P3 := Lib.hid (And.intro (permIn_refl D2 mid b) (sorted_halves (sorted_same P1.out.2.2.2.1 (fun t h1 h2 => P2.out.1.2.1 t (.inr h1))) (sorted_same P1.out.2.2.2.2.1 (fun t h1 h2 => P2.out.1.2.1 t (.inr (by omega)))) (fun h => c5 h.1) (by omega) (by omega)))
                  have S3 := S2
                  go_wp2_with fail
                  go_end0
                  exact sym_end hz1.out (by omega) (by omega) hb P1.out.1 P1.out.2.2.2.2.2 P2.out.1 P2.out.2 P3.out.1 P3.out.2 S3.out
            · have d3 : decide ((a : Int) < (st : Int)) = false := decide_eq_false (by omega)
              obtain ⟨D2, hD2⟩ : ∃ D2, D2 = D1 := ⟨_, rfl⟩
              have hz2 := Lib.hid (show D2.size = d.size by rw [hD2]; exact hz1.out.symm)
              have P2 := Lib.hid (show PermIn a mid D1 D2 ∧ SortedIn ltE a mid D2 by rw [hD2]; exact ⟨permIn_refl _ _ _, sorted_halves P1.out.2.1 P1.out.2.2.1 (fun h => c3 h.1) (by omega) (by omega)⟩)
              have S2 : Hid (SF w0 base g cap D2 W1) := by rw [hD2]; exact S1
              clear hD2
              by_cases c5 : mid < en
              · by_cases c6 : en < b
                · have d5 : decide ((mid : Int) < (en : Int)) = true := decide_eq_true (by omega)
                  have d6 : decide ((en : Int) < (b : Int)) = true := decide_eq_true (by omega)
                  have sc3 := ih S2.out (by have := hz2.out; omega) c5 c6 (by have := hz2.out; omega) (by omega) (sorted_same P1.out.2.2.2.1 (fun t h1 h2 => P2.out.1.2.1 t (.inr h1))) (sorted_same P1.out.2.2.2.2.1 (fun t h1 h2 => P2.out.1.2.1 t (.inr (by omega))))
                  rw [hz2.out] at sc3
                  unfold SYM at sc3
                  go_wp2_with fail
                  refine sc3.mono ?_
                  rintro e W3 ⟨rfl, D3, S3, p3, o3⟩
                  have S3 := Lib.hid S3
                  have P3 := Lib.hid (And.intro p3 o3)
                  clear sc3 p3 o3
                  go_wp2_with fail
                  go_end0
                  exact sym_end hz1.out (by omega) (by omega) hb P1.out.1 P1.out.2.2.2.2.2 P2.out.1 P2.out.2 P3.out.1 P3.out.2 S3.out
                · have d5 : decide ((mid : Int) < (en : Int)) = true := decide_eq_true (by omega)
                  have d6 : decide ((en : Int) < (b : Int)) = false := decide_eq_false (by omega)
                  have P3 := Lib.hid (And.intro (permIn_refl D2 mid b) (sorted_halves (sorted_same P1.out.2.2.2.1 (fun t h1 h2 => P2.out.1.2.1 t (.inr h1))) (sorted_same P1.out.2.2.2.2.1 (fun t h1 h2 => P2.out.1.2.1 t (.inr (by omega)))) (fun h => c6 h.2) (by omega) (by omega)))
                  have S3 := S2
                  go_wp2_with fail
                  go_end0
                  exact sym_end hz1.out (by omega) (by omega) hb P1.out.1 P1.out.2.2.2.2.2 P2.out.1 P2.out.2 P3.out.1 P3.out.2 S3.out
              · have d5 : decide ((mid : Int) < (en : Int)) = false := decide_eq_false (by omega)
                have P3 := Lib.hid (And.intro (permIn_refl D2 mid b) (sorted_halves (sorted_same P1.out.2.2.2.1 (fun t h1 h2 => P2.out.1.2.1 t (.inr h1))) (sorted_same P1.out.2.2.2.2.1 (fun t h1 h2 => P2.out.1.2.1 t (.inr (by omega)))) (fun h => c5 h.1) (by omega) (by omega)))
                have S3 := S2
                go_wp2_with fail
                go_end0
                exact sym_end hz1.out (by omega) (by omega) hb P1.out.1 P1.out.2.2.2.2.2 P2.out.1 P2.out.2 P3.out.1 P3.out.2 S3.out
          · have d1 : decide ((st : Int) < (m : Int)) = true := decide_eq_true (by omega)
            have d2 : decide ((m : Int) < (en : Int)) = false := decide_eq_false (by omega)
            obtain ⟨D1, hD1⟩ : ∃ D1, D1 = d := ⟨_, rfl⟩
            have hz1 := Lib.hid (show d.size = D1.size by rw [hD1])
            have P1 := Lib.hid (show PermIn a b d D1 ∧ _ from ⟨by rw [hD1]; exact permIn_refl _ _ _, parts D1 (by rw [hD1]; exact rotD_same (fun h => c2 h.2) e1.2.1 e1.2.2.1 e1.2.2.2.2)⟩)
            have S1 : Hid (SF w0 base g cap D1 wr) := by rw [hD1]; exact hS
            clear hS parts hD1
            by_cases c3 : a < st
            · by_cases c4 : st < mid
              · have d3 : decide ((a : Int) < (st : Int)) = true := decide_eq_true (by omega)
                have d4 : decide ((st : Int) < (mid : Int)) = true := decide_eq_true (by omega)
                have sc2 := ih S1.out (by have := hz1.out; omega) c3 c4 (by have := hz1.out; omega) (by omega) P1.out.2.1 P1.out.2.2.1
                rw [← hz1.out] at sc2
                unfold SYM at sc2
                go_wp2_with fail
                refine sc2.mono ?_
                rintro e W2 ⟨rfl, D2, S2, p2, o2⟩
                have hz2 := Lib.hid (show D2.size = d.size from p2.1.trans hz1.out.symm)
                have S2 := Lib.hid S2
                have P2 := Lib.hid (And.intro p2 o2)
                clear sc2 p2 o2
                by_cases c5 : mid < en
                · by_cases c6 : en < b
                  · have d5 : decide ((mid : Int) < (en : Int)) = true := decide_eq_true (by omega)
                    have d6 : decide ((en : Int) < (b : Int)) = true := decide_eq_true (by omega)
                    have sc3 := ih S2.out (by have := hz2.out; omega) c5 c6 (by have := hz2.out; omega) (by omega) (sorted_same P1.out.2.2.2.1 (fun t h1 h2 => P2.out.1.2.1 t (.inr h1))) (sorted_same P1.out.2.2.2.2.1 (fun t h1 h2 => P2.out.1.2.1 t (.inr (by omega))))
                    rw [hz2.out] at sc3
                    unfold SYM at sc3
                    go_wp2_with fail
                    refine sc3.mono ?_
                    rintro e W3 ⟨rfl, D3, S3, p3, o3⟩
                    have S3 := Lib.hid S3
                    have P3 := Lib.hid (And.intro p3 o3)
                    clear sc3 p3 o3
                    go_wp2_with fail
                    go_end0
                    exact sym_end hz1.out (by omega) (by omega) hb P1.out.1 P1.out.2.2.2.2.2 P2.out.1 P2.out.2 P3.out.1 P3.out.2 S3.out
                  · have d5 : decide ((mid : Int) < (en : Int)) = true := decide_eq_true (by omega)
                    have d6 : decide ((en : Int) < (b : Int)) = false := decide_eq_false (by omega)
                    have P3 := Lib.hid (And.intro (permIn_refl D2 mid b) (sorted_halves (sorted_same P1.out.2.2.2.1 (fun t h1 h2 => P2.out.1.2.1 t (.inr h1))) (sorted_same P1.out.2.2.2.2.1 (fun t h1 h2 => P2.out.1.2.1 t (.inr (by omega)))) (fun h => c6 h.2) (by omega) (by omega)))
                    have S3 := S2
                    go_wp2_with fail
                    go_end0
                    exact sym_end hz1.out (by omega) (by omega) hb P1.out.1 P1.out.2.2.2.2.2 P2.out.1 P2.out.2 P3.out.1 P3.out.2 S3.out
                · have d5 : decide ((mid : Int) < (en : Int)) = false := decide_eq_false (by omega)
                  have P3 := Lib.hid (And.intro (permIn_refl D2 mid b) (sorted_halves (sorted_same P1.out.2.2.2.1 (fun t h1 h2 => P2.out.1.2.1 t (.inr h1))) (sorted_same P1.out.2.2.2.2.1 (fun t h1 h2 => P2.out.1.2.1 t (.inr (by omega)))) (fun h => c5 h.1) (by omega) (by omega)))
                  have S3 := S2
                  go_wp2_with fail
                  go_end0
                  exact sym_end hz1.out (by omega) (by omega) hb P1.out.1 P1.out.2.2.2.2.2 P2.out.1 P2.out.2 P3.out.1 P3.out.2 S3.out
              · have d3 : decide ((a : Int) < (st : Int)) = true := decide_eq_true (by omega)
                have d4 : decide ((st : Int) < (mid : Int)) = false := decide_eq_false (by omega)
                obtain ⟨D2, hD2⟩ : ∃ D2, D2 = D1 := ⟨_, rfl⟩
                have hz2 := Lib.hid (show D2.size = d.size by rw [hD2]; exact hz1.out.symm)
                have P2 := Lib.hid (show PermIn a mid D1 D2 ∧ SortedIn ltE a mid D2 by rw [hD2]; exact ⟨permIn_refl _ _ _, sorted_halves P1.out.2.1 P1.out.2.2.1 (fun h => c4 h.2) (by omega) (by omega)⟩)
                have S2 : Hid (SF w0 base g cap D2 wr) := by rw [hD2]; exact S1
                clear hD2
                by_cases c5 : mid < en
                · by_cases c6 : en < b
                  · have d5 : decide ((mid : Int) < (en : Int)) = true := decide_eq_true (by omega)
                    have d6 : decide ((en : Int) < (b : Int)) = true := decide_eq_true (by omega)
                    have sc3 := ih S2.out (by have := hz2.out; omega) c5 c6 (by have := hz2.out; omega) (by omega) (sorted_same P1.out.2.2.2.1 (fun t h1 h2 => P2.out.1.2.1 t (.inr h1))) (sorted_same P1.out.2.2.2.2.1 (fun t h1 h2 => P2.out.1.2.1 t (.inr (by omega))))
                    rw [hz2.out] at sc3
                    unfold SYM at sc3
                    go_wp2_with fail
                    refine sc3.mono ?_
                    rintro e W3 ⟨rfl, D3, S3, p3, o3⟩
                    have S3 := Lib.hid S3
                    have P3 := Lib.hid (And.intro p3 o3)
                    clear sc3 p3 o3
                    go_wp2_with fail
                    go_end0
                    exact sym_end hz1.out (by omega) (by omega) hb P1.out.1 P1.out.2.2.2.2.2 P2.out.1 P2.out.2 P3.out.1 P3.out.2 S3.out
                  · have d5 : decide ((mid : Int) < (en : Int)) = true := decide_eq_true (by omega)
                    have d6 : decide ((en : Int) < (b : Int)) = false := decide_eq_false (by omega)
                    have P3 := Lib.hid (And.intro (permIn_refl D2 mid b) (sorted_halves (sorted_same P1.out.2.2.2.1 (fun t h1 h2 => P2.out.1.2.1 t (.inr h1))) (sorted_same P1.out.2.2.2.2.1 (fun t h1 h2 => P2.out.1.2.1 t (.inr (by omega)))) (fun h => c6 h.2) (by omega) (by omega)))
                    have S3 := S2
                    go_wp2_with fail
                    go_end0
                    exact sym_end hz1.out (by omega) (by omega) hb P1.out.1 P1.out.2.2.2.2.2 P2.out.1 P2.out.2 P3.out.1 P3.out.2 S3.out
                · have d5 : decide ((mid : Int) < (en : Int)) = false := decide_eq_false (by omega)
                  have P3 := Lib.hid (And.intro (permIn_refl D2 mid b) (sorted_halves (sorted_same P1.out.2.2.2.1 (fun t h1 h2 => P2.out.1.2.1 t (.inr h1))) (sorted_same P1.out.2.2.2.2.1 (fun t h1 h2 => P2.out.1.2.1 t (.inr (by omega)))) (fun h => c5 h.1) (by omega) (by omega)))
                  have S3 := S2
                  go_wp2_with fail
                  go_end0
                  exact sym_end hz1.out (by omega) (by omega) hb P1.out.1 P1.out.2.2.2.2.2 P2.out.1 P2.out.2 P3.out.1 P3.out.2 S3.out
            · have d3 : decide ((a : Int) < (st : Int)) = false := decide_eq_false (by omega)
              obtain ⟨D2, hD2⟩ : ∃ D2, D2 = D1 := ⟨_, rfl⟩
              have hz2 := Lib.hid (show D2.size = d.size by rw [hD2]; exact hz1.out.symm)
              have P2 := Lib.hid (show PermIn a mid D1 D2 ∧ SortedIn ltE a mid D2 by rw [hD2]; exact ⟨permIn_refl _ _ _, sorted_halves P1.out.2.1 P1.out.2.2.1 (fun h => c3 h.1) (by omega) (by omega)⟩)
              have S2 : Hid (SF w0 base g cap D2 wr) := by rw [hD2]; exact S1
              clear hD2
              by_cases c5 : mid < en
              · by_cases c6 : en < b
                · have d5 : decide ((mid : Int) < (en : Int)) = true := decide_eq_true (by omega)
                  have d6 : decide ((en : Int) < (b : Int)) = true := decide_eq_true (by omega)
                  have sc3 := ih S2.out (by have := hz2.out; omega) c5 c6 (by have := hz2.out; omega) (by omega) (sorted_same P1.out.2.2.2.1 (fun t h1 h2 => P2.out.1.2.1 t (.inr h1))) (sorted_same P1.out.2.2.2.2.1 (fun t h1 h2 => P2.out.1.2.1 t (.inr (by omega))))
                  rw [hz2.out] at sc3
                  unfold SYM at sc3
                  go_wp2_with fail
                  refine sc3.mono ?_
                  rintro e W3 ⟨rfl, D3, S3, p3, o3⟩
                  have S3 := Lib.hid S3
                  have P3 := Lib.hid (And.intro p3 o3)
                  clear sc3 p3 o3
                  go_wp2_with fail
                  go_end0
                  exact sym_end hz1.out (by omega) (by omega) hb P1.out.1 P1.out.2.2.2.2.2 P2.out.1 P2.out.2 P3.out.1 P3.out.2 S3.out
                · have d5 : decide ((mid : Int) < (en : Int)) = true := decide_eq_true (by omega)
                  have d6 : decide ((en : Int) < (b : Int)) = false := decide_eq_false (by omega)
                  have P3 := Lib.hid (And.intro (permIn_refl D2 mid b) (sorted_halves (sorted_same P1.out.2.2.2.1 (fun t h1 h2 => P2.out.1.2.1 t (.inr h1))) (sorted_same P1.out.2.2.2.2.1 (fun t h1 h2 => P2.out.1.2.1 t (.inr (by omega)))) (fun h => c6 h.2) (by omega) (by omega)))
                  have S3 := S2
                  go_wp2_with fail
                  go_end0
                  exact sym_end hz1.out (by omega) (by omega) hb P1.out.1 P1.out.2.2.2.2.2 P2.out.1 P2.out.2 P3.out.1 P3.out.2 S3.out
              · have d5 : decide ((mid : Int) < (en : Int)) = false := decide_eq_false (by omega)
                have P3 := Lib.hid (And.intro (permIn_refl D2 mid b) (sorted_halves (sorted_same P1.out.2.2.2.1 (fun t h1 h2 => P2.out.1.2.1 t (.inr h1))) (sorted_same P1.out.2.2.2.2.1 (fun t h1 h2 => P2.out.1.2.1 t (.inr (by omega)))) (fun h => c5 h.1) (by omega) (by omega)))
                have S3 := S2
                go_wp2_with fail
                go_end0
                exact sym_end hz1.out (by omega) (by omega) hb P1.out.1 P1.out.2.2.2.2.2 P2.out.1 P2.out.2 P3.out.1 P3.out.2 S3.out
        · have d1 : decide ((st : Int) < (m : Int)) = false := decide_eq_false (by omega)
          obtain ⟨D1, hD1⟩ : ∃ D1, D1 = d := ⟨_, rfl⟩
          have hz1 := Lib.hid (show d.size = D1.size by rw [hD1])
          have P1 := Lib.hid (show PermIn a b d D1 ∧ _ from ⟨by rw [hD1]; exact permIn_refl _ _ _, parts D1 (by rw [hD1]; exact rotD_same (fun h => c1 h.1) e1.2.1 e1.2.2.1 e1.2.2.2.2)⟩)
          have S1 : Hid (SF w0 base g cap D1 wr) := by rw [hD1]; exact hS
          clear hS parts hD1
          by_cases c3 : a < st
          · by_cases c4 : st < mid
            · have d3 : decide ((a : Int) < (st : Int)) = true := decide_eq_true (by omega)
              have d4 : decide ((st : Int) < (mid : Int)) = true := decide_eq_true (by omega)
              have sc2 := ih S1.out (by have := hz1.out; omega) c3 c4 (by have := hz1.out; omega) (by omega) P1.out.2.1 P1.out.2.2.1
              rw [← hz1.out] at sc2
              unfold SYM at sc2
              go_wp2_with fail
              refine sc2.mono ?_
              rintro e W2 ⟨rfl, D2, S2, p2, o2⟩
              have hz2 := Lib.hid (show D2.size = d.size from p2.1.trans hz1.out.symm)
              have S2 := Lib.hid S2
              have P2 := Lib.hid (And.intro p2 o2)
              clear sc2 p2 o2
              by_cases c5 : mid < en
              · by_cases c6 : en < b
                · have d5 : decide ((mid : Int) < (en : Int)) = true := decide_eq_true (by omega)
                  have d6 : decide ((en : Int) < (b : Int)) = true := decide_eq_true (by omega)
                  have sc3 := ih S2.out (by have := hz2.out; omega) c5 c6 (by have := hz2.out; omega) (by omega) (sorted_same P1.out.2.2.2.1 (fun t h1 h2 => P2.out.1.2.1 t (.inr h1))) (sorted_same P1.out.2.2.2.2.1 (fun t h1 h2 => P2.out.1.2.1 t (.inr (by omega))))
                  rw [hz2.out] at sc3
                  unfold SYM at sc3
                  go_wp2_with fail
                  refine sc3.mono ?_
                  rintro e W3 ⟨rfl, D3, S3, p3, o3⟩
                  have S3 := Lib.hid S3
                  have P3 := Lib.hid (And.intro p3 o3)
                  clear sc3 p3 o3
                  go_wp2_with fail
                  go_end0
                  exact sym_end hz1.out (by omega) (by omega) hb P1.out.1 P1.out.2.2.2.2.2 P2.out.1 P2.out.2 P3.out.1 P3.out.2 S3.out
                · have d5 : decide ((mid : Int) < (en : Int)) = true := decide_eq_true (by omega)
                  have d6 : decide ((en : Int) < (b : Int)) = false := decide_eq_false (by omega)
                  have P3 := Lib.hid (And.intro (permIn_refl D2 mid b) (sorted_halves (sorted_same P1.out.2.2.2.1 (fun t h1 h2 => P2.out.1.2.1 t (.inr h1))) (sorted_same P1.out.2.2.2.2.1 (fun t h1 h2 => P2.out.1.2.1 t (.inr (by omega)))) (fun h => c6 h.2) (by omega) (by omega)))
                  have S3 := S2
                  go_wp2_with fail
                  go_end0
                  exact sym_end hz1.out (by omega) (by omega) hb P1.out.1 P1.out.2.2.2.2.2 P2.out.1 P2.out.2 P3.out.1 P3.out.2 S3.out
              · have d5 : decide ((mid : Int) < (en : Int)) = false := decide_eq_false (by omega)
                have P3 := Lib.hid (And.intro (permIn_refl D2 mid b) (sorted_halves (sorted_same P1.out.2.2.2.1 (fun t h1 h2 => P2.out.1.2.1 t (.inr h1))) (sorted_same P1.out.2.2.2.2.1 (fun t h1 h2 => P2.out.1.2.1 t (.inr (by omega)))) (fun h => c5 h.1) (by omega) (by omega)))
                have S3 := S2
                go_wp2_with fail
                go_end0
                exact sym_end hz1.out (by omega) (by omega) hb P1.out.1 P1.out.2.2.2.2.2 P2.out.1 P2.out.2 P3.out.1 P3.out.2 S3.out
            · have d3 : decide ((a : Int) < (st : Int)) = true := decide_eq_true (by omega)
              have d4 : decide ((st : Int) < (mid : Int)) = false := decide_eq_false (by omega)
              obtain ⟨D2, hD2⟩ : ∃ D2, D2 = D1 := ⟨_, rfl⟩
              have hz2 := Lib.hid (show D2.size = d.size by rw [hD2]; exact hz1.out.symm)
              have P2 := Lib.hid (show PermIn a mid D1 D2 ∧ SortedIn ltE a mid D2 by rw [hD2]; exact ⟨permIn_refl _ _ _, sorted_halves P1.out.2.1 P1.out.2.2.1 (fun h => c4 h.2) (by omega) (by omega)⟩)
              have S2 : Hid (SF w0 base g cap D2 wr) := by rw [hD2]; exact S1
              clear hD2
              by_cases c5 : mid < en
              · by_cases c6 : en < b
                · have d5 : decide ((mid : Int) < (en : Int)) = true := decide_eq_true (by omega)
                  have d6 : decide ((en : Int) < (b : Int)) = true := decide_eq_true (by omega)
                  have sc3 := ih S2.out (by have := hz2.out; omega) c5 c6 (by have := hz2.out; omega) (by omega) (sorted_same P1.out.2.2.2.1 (fun t h1 h2 => P2.out.1.2.1 t (.inr h1))) (sorted_same P1.out.2.2.2.2.1 (fun t h1 h2 => P2.out.1.2.1 t (.inr (by omega))))
                  rw [hz2.out] at sc3
                  unfold SYM at sc3
                  go_wp2_with fail
                  refine sc3.mono ?_
                  rintro e W3 ⟨rfl, D3, S3, p3, o3⟩
                  have S3 := Lib.hid S3
                  have P3 := Lib.hid (And.intro p3 o3)
                  clear sc3 p3 o3
                  go_wp2_with fail
                  go_end0
                  exact sym_end hz1.out (by omega) (by omega) hb P1.out.1 P1.out.2.2.2.2.2 P2.out.1 P2.out.2 P3.out.1 P3.out.2 S3.out
                · have d5 : decide ((mid : Int) < (en : Int)) = true := decide_eq_true (by omega)
                  have d6 : decide ((en : Int) < (b : Int)) = false := decide_eq_false (by omega)
                  have P3 := Lib.hid (And.intro (permIn_refl D2 mid b) (sorted_halves (sorted_same P1.out.2.2.2.1 (fun t h1 h2 => P2.out.1.2.1 t (.inr h1))) (sorted_same P1.out.2.2.2.2.1 (fun t h1 h2 => P2.out.1.2.1 t (.inr (by omega)))) (fun h => c6 h.2) (by omega) (by omega)))
                  have S3 := S2
                  go_wp2_with fail
                  go_end0
                  exact sym_end hz1.out (by omega) (by omega) hb P1.out.1 P1.out.2.2.2.2.2 P2.out.1 P2.out.2 P3.out.1 P3.out.2 S3.out
              · have d5 : decide ((mid : Int) < (en : Int)) = false := decide_eq_false (by omega)
                have P3 := Lib.hid (And.intro (permIn_refl D2 mid b) (sorted_halves (sorted_same P1.out.2.2.2.1 (fun t h1 h2 => P2.out.1.2.1 t (.inr h1))) (sorted_same P1.out.2.2.2.2.1 (fun t h1 h2 => P2.out.1.2.1 t (.inr (by omega)))) (fun h => c5 h.1) (by omega) (by omega)))
                have S3 := S2
                go_wp2_with fail
                go_end0
                exact sym_end hz1.out (by omega) (by omega) hb P1.out.1 P1.out.2.2.2.2.2 P2.out.1 P2.out.2 P3.out.1 P3.out.2 S3.out
          · have d3 : decide ((a : Int) < (st : Int)) = false := decide_eq_false (by omega)
            obtain ⟨D2, hD2⟩ : ∃ D2, D2 = D1 := ⟨_, rfl⟩
            have hz2 := Lib.hid (show D2.size = d.size by rw [hD2]; exact hz1.out.symm)
            have P2 := Lib.hid (show PermIn a mid D1 D2 ∧ SortedIn ltE a mid D2 by rw [hD2]; exact ⟨permIn_refl _ _ _, sorted_halves P1.out.2.1 P1.out.2.2.1 (fun h => c3 h.1) (by omega) (by omega)⟩)
            have S2 : Hid (SF w0 base g cap D2 wr) := by rw [hD2]; exact S1
            clear hD2
            by_cases c5 : mid < en
            · by_cases c6 : en < b
              · have d5 : decide ((mid : Int) < (en : Int)) = true := decide_eq_true (by omega)
                have d6 : decide ((en : Int) < (b : Int)) = true := decide_eq_true (by omega)
                have sc3 := ih S2.out (by have := hz2.out; omega) c5 c6 (by have := hz2.out; omega) (by omega) (sorted_same P1.out.2.2.2.1 (fun t h1 h2 => P2.out.1.2.1 t (.inr h1))) (sorted_same P1.out.2.2.2.2.1 (fun t h1 h2 => P2.out.1.2.1 t (.inr (by omega))))
                rw [hz2.out] at sc3
                unfold SYM at sc3
                go_wp2_with fail
                refine sc3.mono ?_
                rintro e W3 ⟨rfl, D3, S3, p3, o3⟩
                have S3 := Lib.hid S3
                have P3 := Lib.hid (And.intro p3 o3)
                clear sc3 p3 o3
                go_wp2_with fail
                go_end0
                exact sym_end hz1.out (by omega) (by omega) hb P1.out.1 P1.out.2.2.2.2.2 P2.out.1 P2.out.2 P3.out.1 P3.out.2 S3.out
              · have d5 : decide ((mid : Int) < (en : Int)) = true := decide_eq_true (by omega)
                have d6 : decide ((en : Int) < (b : Int)) = false := decide_eq_false (by omega)
                have P3 := Lib.hid (And.intro (permIn_refl D2 mid b) (sorted_halves (sorted_same P1.out.2.2.2.1 (fun t h1 h2 => P2.out.1.2.1 t (.inr h1))) (sorted_same P1.out.2.2.2.2.1 (fun t h1 h2 => P2.out.1.2.1 t (.inr (by omega)))) (fun h => c6 h.2) (by omega) (by omega)))
                have S3 := S2
                go_wp2_with fail
                go_end0
                exact sym_end hz1.out (by omega) (by omega) hb P1.out.1 P1.out.2.2.2.2.2 P2.out.1 P2.out.2 P3.out.1 P3.out.2 S3.out
            · have d5 : decide ((mid : Int) < (en : Int)) = false := decide_eq_false (by omega)
              have P3 := Lib.hid (And.intro (permIn_refl D2 mid b) (sorted_halves (sorted_same P1.out.2.2.2.1 (fun t h1 h2 => P2.out.1.2.1 t (.inr h1))) (sorted_same P1.out.2.2.2.2.1 (fun t h1 h2 => P2.out.1.2.1 t (.inr (by omega)))) (fun h => c5 h.1) (by omega) (by omega)))
              have S3 := S2
              go_wp2_with fail
              go_end0
              exact sym_end hz1.out (by omega) (by omega) hb P1.out.1 P1.out.2.2.2.2.2 P2.out.1 P2.out.2 P3.out.1 P3.out.2 S3.out

theorem symMerge_all : ∀ N, SymAt N
  | 0 => fun h hd {a m b} ham hmb hb hN s1 s2 => by omega
  | N + 1 => fun h hd {a m b} ham hmb hb hN s1 s2 => by
    by_cases c1 : m = a + 1
    · subst c1; exact symA_ct h hd hmb hb s2
    · by_cases c2 : b = m + 1
      · subst c2; exact symB_ct h hd (by omega) hb s1
      · exact symC_ct (symMerge_all N) h hd (by omega) (by omega) hb hN s1 s2
end Go.Proofs.YtfohljljoalmoaaDoor
