/- The order of paths; cmp.Compare; where a path stands: BinarySearchFunc, find. -/
import Derived.Test.YthachckofghppaaDoorTC
namespace Go.Proofs.YthachckofghppaaDoor
open Go.RowKit
set_option maxRecDepth 100000
set_option linter.unusedSimpArgs false
set_option linter.unusedVariables false

theorem bless_cons (x y : UInt8) (xs ys : List UInt8) : Op.bytesLess (x :: xs) (y :: ys) = (decide (x < y) || (x == y && Op.bytesLess xs ys)) := rfl
theorem bless_lt : ∀ (x y : List UInt8), Op.bytesLess x y = decide (x < y)
  | [], [] => by simp [Op.bytesLess]
  | [], y :: ys => by simp [Op.bytesLess]
  | x :: xs, [] => by simp [Op.bytesLess]
  | x :: xs, y :: ys => by
    rw [bless_cons, bless_lt xs ys]
    simp only [List.cons_lt_cons_iff]
    by_cases h1 : x < y <;> by_cases h2 : x = y <;> simp [h1, h2]
theorem data_toList (a : ByteArray) : a.toList = a.data.toList := ByteArray.toList_eq a
theorem ba_ext {a b : ByteArray} (h : a.toList = b.toList) : a = b := by
  rw [data_toList, data_toList] at h
  cases a; cases b; congr; exact Array.toList_inj.1 h
theorem ltB_iff {a b : ByteArray} : ltB a b = true ↔ a.toList < b.toList := by unfold ltB; rw [bless_lt]; simp
theorem ltB_irrefl (a : ByteArray) : ltB a a = false := by
  rw [Bool.eq_false_iff]; intro h
  exact List.lt_irrefl _ (ltB_iff.1 h)
theorem ltB_trans {a b c : ByteArray} (h : ltB a b = true) (k : ltB b c = true) : ltB a c = true := ltB_iff.2 (List.lt_trans (ltB_iff.1 h) (ltB_iff.1 k))
theorem ltB_asymm {a b : ByteArray} (h : ltB a b = true) : ltB b a = false := by
  rw [Bool.eq_false_iff]; intro k
  exact absurd (ltB_trans h k) (by rw [ltB_irrefl]; simp)
theorem ltB_tri {a b : ByteArray} (h : ltB a b = false) (k : ltB b a = false) : a = b := by
  apply ba_ext
  refine Classical.byContradiction fun hne => ?_
  rcases Std.Trichotomous.rel_or_eq_or_rel_swap (r := (· < · : List UInt8 → List UInt8 → Prop)) (a := a.toList) (b := b.toList) with h1 | h1 | h1
  · rw [ltB_iff.2 h1] at h; cases h
  · exact hne h1
  · rw [ltB_iff.2 h1] at k; cases k
def eqB (a b : ByteArray) : Bool := a.toList == b.toList
theorem eqB_iff {a b : ByteArray} : eqB a b = true ↔ a = b := by
  unfold eqB
  rw [beq_iff_eq]
  exact ⟨ba_ext, fun h => by rw [h]⟩

theorem may_lt {l : List FileE} (h : mayB l = true) : ∀ (j i : Nat) f g, i < j → l[i]? = some f → l[j]? = some g → ltB f.path g.path = true := by
  unfold mayB at h
  simp only [Bool.and_eq_true, decide_eq_true_eq] at h
  intro j
  induction j with
  | zero => intro i f g hij; omega
  | succ j ih =>
    intro i f g hij hf hg
    have hj := (List.getElem?_eq_some_iff.1 hg).1
    have := okTo_at _ h.1.2 (j + 1) hj
    unfold okAt at this
    rw [hg] at this
    simp only [Bool.and_eq_true, decide_eq_true_eq] at this
    have h2 : (match l[j]? with | none => true | some q => ltB q.path g.path) = true := this.2
    have hm : l[j]? = some l[j] := List.getElem?_eq_getElem (by omega)
    rw [hm] at h2
    dsimp only at h2
    by_cases e : i = j
    · subst e; rw [hf] at hm; injection hm with hm; rw [hm]; exact h2
    · exact ltB_trans (ih i f _ (by omega) hf hm) h2

/-- How many files stand ahead of a path. -/
def posL (l : List FileE) (s : ByteArray) : Nat := (l.takeWhile fun f => ltB f.path s).length
def thereB (l : List FileE) (s : ByteArray) : Bool := match l[posL l s]? with | some f => eqB f.path s | none => false
theorem pos_of {s : ByteArray} : ∀ {l : List FileE} {i : Nat}, (∀ t f, t < i → l[t]? = some f → ltB f.path s = true) → (∀ f, l[i]? = some f → ltB f.path s = false) → i ≤ l.length → i = posL l s
  | [], i, _, _, h => by simp at h; subst h; rfl
  | g :: l, 0, _, h2, _ => by
    have := h2 g rfl
    unfold posL; rw [List.takeWhile_cons, this]; rfl
  | g :: l, i + 1, h1, h2, h3 => by
    have := h1 0 g (by omega) rfl
    have ih := pos_of (s := s) (l := l) (i := i) (fun t f ht hf => h1 (t + 1) f (by omega) hf) (fun f hf => h2 f hf) (by simp at h3; omega)
    unfold posL at *; rw [List.takeWhile_cons, this]; simp [← ih]
theorem pos_le (l : List FileE) (s : ByteArray) : posL l s ≤ l.length := by
  unfold posL; exact (List.takeWhile_sublist _).length_le

def cmpI (a b : ByteArray) : Int := if ltB a b then -1 else if eqB a b then 0 else 1

theorem isNaN_ct (a : ByteArray) (w : World) : Calls Tryd.prog 93 #[.string a] w fun e w' => e = .returned (.bool false) ∧ w' = w := by
  go_enter Tryd.func93, Tryd.ntmps93
  go_wp2_with fail
  go_ret
  exact ⟨by simp, rfl⟩
set_option maxHeartbeats 1000000 in
theorem cmp_ct (a b : ByteArray) (w : World) : Calls Tryd.prog 69 #[.string a, .string b] w fun e w' => e = .returned (.int .i64 (cmpI a b)) ∧ w' = w := by
  have na := isNaN_ct a w
  have nb := isNaN_ct b w
  unfold cmpI ltB eqB
  generalize hl : Op.bytesLess a.toList b.toList = p
  generalize he : (a.toList == b.toList) = q
  go_enter Tryd.func69, Tryd.ntmps69
  go_wp2_with fail
  refine na.mono ?_
  rintro e W ⟨rfl, hW⟩
  subst hW
  go_wp2_with fail
  refine nb.mono ?_
  rintro e W ⟨rfl, hW⟩
  subst hW
  cases p with
  | true =>
    go_wp2_with fail
    go_ret
    exact ⟨rfl, rfl⟩
  | false =>
    cases q with
    | true =>
      go_wp2_with fail
      go_ret
      exact ⟨rfl, rfl⟩
    | false =>
      go_wp2_with fail
      go_ret
      exact ⟨rfl, rfl⟩
set_option maxHeartbeats 1000000 in
theorem find1_ct {w : World} (p s : ByteArray) (x : Value) : Calls Tryd.prog 68 #[.agg #[.string p, x], .string s] w fun e w' => e = .returned (.int .i64 (cmpI p s)) ∧ Kept (fun _ => False) w w' := by
  have k1 : Kept (fun _ => False) w (w.alloc (.cells #[.string p, x] 33)) := (Kept.refl _ w).alloc _
  have cc := cmp_ct p s (w.alloc (.cells #[.string p, x] 33))
  go_enter Tryd.func68, Tryd.ntmps68
  go_wp2_with fail
  refine cc.mono ?_
  rintro e W ⟨rfl, hW⟩
  subst hW
  go_wp2_with fail
  go_ret
  exact ⟨rfl, k1⟩

set_option maxRecDepth 100000 in
set_option maxHeartbeats 4000000 in
theorem bsearch_ct {w : World} {v : Value} {l : List FileE} (h : TreeAt w v l) (hm : mayB l = true) (s : ByteArray) :
    Calls Tryd.prog 67 #[v, .string s, .func (.func 68) #[] #[]] w fun e w' => e = .returned (.tuple #[.int .i64 (posL l s), .bool (thereB l s)]) ∧ Kept (fun _ => False) w w' := by
  have hl16 := (mayIs hm).len
  have hlt := may_lt hm
  obtain ⟨a, c, hv⟩ := h.slc
  subst hv
  have HLT := Lib.hid hlt
  clear hlt
  go_enter Tryd.func67, Tryd.ntmps67
  go_wp2_with fail
  go_loopw [9, 10] (fun x y wr => ∃ i j : Nat, i ≤ j ∧ j ≤ l.length ∧ x = .int .i64 i ∧ y = .int .i64 j ∧ (∀ t f, t < i → l[t]? = some f → ltB f.path s = true) ∧ (∀ t f, j ≤ t → l[t]? = some f → ltB f.path s = false) ∧ Kept (fun _ => False) w wr) (fun x y _ => (intOf y).toNat - (intOf x).toNat)
  case atStart => exact ⟨0, l.length, by omega, by omega, rfl, rfl, fun t f ht => by omega, fun t f ht hf => by have := (List.getElem?_eq_some_iff.1 hf).1; omega, Kept.refl _ _⟩
  case round =>
    obtain ⟨i, j, hij, hj, rfl, rfl, h1, h2, hkr⟩ := hrel
    have H1 := Lib.hid h1
    have H2 := Lib.hid h2
    clear h1 h2
    by_cases hlt : i < j
    · obtain ⟨m, hmm⟩ : ∃ m : Nat, m = (i + j) / 2 := ⟨_, rfl⟩
      have wij : IntKind.i64.wrap ((i : Int) + (j : Int)) = ((i + j : Nat) : Int) := by rw [IntWalk.i64_in _ (by omega)]; omega
      have hmi : ((i : Int) + (j : Int)) / 2 = (m : Int) := by omega
      have hml : m < l.length := by omega
      have HM1 := Lib.hid (show i ≤ m ∧ m < j by omega)
      clear hmm
      have hfm : l[m]? = some l[m] := List.getElem?_eq_getElem hml
      generalize l[m] = f at hfm
      obtain ⟨_, b, o, x, rfl, hbl, hrx, hB⟩ := (h.kept hkr).file hfm
      obtain ⟨a3, c3, rfl⟩ := hB.slc
      have ld := load_file hrx
      have cc := find1_ct (w := wr) f.path s (.slice a3 f.bytes.length c3)
      have HC := Lib.hid (show cmpI f.path s = if ltB f.path s then -1 else if eqB f.path s then 0 else 1 from rfl)
      generalize cmpI f.path s = cv at cc HC
      have HF := Lib.hid hfm
      clear hrx hB hfm
      go_wp2_with (first
        | (with_reducible refine wpl_load 33 _ rfl rfl ?_ ld ?_
           · rfl
           simp only [Act.put, List.getElem_toArray, List.getElem_cons_zero, List.getElem_cons_succ, List.setIfInBounds_toArray, List.set_cons_zero, List.set_cons_succ]))
      refine cc.mono ?_
      rintro e W1 ⟨rfl, k1⟩
      obtain ⟨him, hmj⟩ := HM1.out
      cases hp : ltB f.path s with
      | true =>
        have hcv : cv = -1 := by rw [HC.out, hp]; rfl
        subst hcv
        have wm1 : IntKind.i64.wrap ((m : Int) + 1) = ((m + 1 : Nat) : Int) := by rw [IntWalk.i64_in _ (by omega)]; omega
        clear cc ld
        go_wp2_with fail
        go_roundw
        case rel => exact ⟨m + 1, j, by omega, hj, by go_num, rfl, fun t g ht hg => by
          by_cases e : t = m
          · subst e; rw [HF.out] at hg; injection hg with hg; rw [← hg]; exact hp
          · exact ltB_trans (HLT.out m t g f (by omega) hg HF.out) hp, H2.out, hkr.trans k1⟩
        case measure => simp [intOf]; omega
      | false =>
        have hcv : decide (cv < 0) = false := by
          rw [HC.out, hp]
          cases eqB f.path s <;> rfl
        clear cc ld
        go_wp2_with fail
        go_roundw
        case rel => exact ⟨i, m, by omega, by omega, rfl, by go_num, H1.out, fun t g ht hg => by
          by_cases e : t = m
          · subst e; rw [HF.out] at hg; injection hg with hg; rw [← hg]; exact hp
          · rw [Bool.eq_false_iff]; intro hc
            exact absurd (ltB_trans (HLT.out t m f g (by omega) HF.out hg) hc) (by rw [hp]; simp), hkr.trans k1⟩
        case measure => simp [intOf]; omega
    · obtain rfl : i = j := by omega
      have hi : i = posL l s := pos_of H1.out (fun f hf => H2.out i f (Nat.le_refl _) hf) hj
      by_cases hil : i < l.length
      · have hfm : l[i]? = some l[i] := List.getElem?_eq_getElem hil
        generalize l[i] = f at hfm
        have hth : thereB l s = eqB f.path s := by unfold thereB; rw [← hi, hfm]
        have hnl := H2.out i f (Nat.le_refl _) hfm
        obtain ⟨_, b, o, x, rfl, hbl, hrx, hB⟩ := (h.kept hkr).file hfm
        obtain ⟨a3, c3, rfl⟩ := hB.slc
        have ld := load_file hrx
        have cc := find1_ct (w := wr) f.path s (.slice a3 f.bytes.length c3)
        have hcv : (cmpI f.path s == 0) = eqB f.path s := by
          unfold cmpI; rw [hnl]
          cases eqB f.path s <;> rfl
        generalize eqB f.path s = q at hcv hth
        have HI := Lib.hid hi
        have HT := Lib.hid hth
        generalize cmpI f.path s = cv at cc hcv
        clear hrx hB hfm hi hth hnl
        go_wp2_with (first
          | (with_reducible refine wpl_load_g 33 _ ?_ rfl ?_ ld ?_
             · rfl
             · rfl
             simp only [Act.put, List.getElem_toArray, List.getElem_cons_zero, List.getElem_cons_succ, List.setIfInBounds_toArray, List.set_cons_zero, List.set_cons_succ]))
        refine cc.mono ?_
        rintro e W1 ⟨rfl, k1⟩
        clear cc ld
        cases q with
        | true =>
          have hc0 : cv = 0 := by simpa using hcv
          subst hc0
          clear hcv
          go_wp2_with fail
          go_ret2
          exact ⟨by rw [← HI.out, HT.out] <;> rfl, hkr.trans k1⟩
        | false =>
          go_wp2_with fail
          go_ret2
          exact ⟨by rw [← HI.out, HT.out] <;> rfl, hkr.trans k1⟩
      · have hth : thereB l s = false := by unfold thereB; rw [← hi, List.getElem?_eq_none (by omega)]
        have HI := Lib.hid hi
        have HT := Lib.hid hth
        clear hi hth
        go_wp2_with fail
        go_ret2
        exact ⟨by rw [← HI.out, HT.out] <;> rfl, hkr⟩

set_option maxHeartbeats 1000000 in
theorem find_ct {w : World} {v : Value} {l : List FileE} (h : TreeAt w v l) (hm : mayB l = true) (s : ByteArray) :
    Calls Tryd.prog 50 #[v, .string s] w fun e w' => e = .returned (.tuple #[.int .i64 (posL l s), .bool (thereB l s)]) ∧ Kept (fun _ => False) w w' := by
  have bc := bsearch_ct h hm s
  obtain ⟨a, c, hv⟩ := h.slc
  subst hv
  go_enter Tryd.func50, Tryd.ntmps50
  go_wp2_with fail
  refine bc.mono ?_
  rintro e W ⟨rfl, k1⟩
  go_wp2_with fail
  go_ret2
  exact ⟨rfl, k1⟩
end Go.Proofs.YthachckofghppaaDoor
