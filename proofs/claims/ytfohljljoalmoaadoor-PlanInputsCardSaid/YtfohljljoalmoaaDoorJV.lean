/- The document's Name, head. -/
import Derived.Test.YtfohljljoalmoaaDoorJF
namespace Go.Proofs.YtfohljljoalmoaaDoor
open Go.RowKit
set_option maxRecDepth 100000
set_option linter.unusedSimpArgs false
set_option linter.unusedVariables false

def nameN (n : Nat) : Bool := (decide (97 ≤ n) && decide (n ≤ 122)) || (decide (48 ≤ n) && decide (n ≤ 57)) || n == 95 || n == 45
theorem names_fin : ∀ n : Fin 256, NAMES.data.toList.contains (UInt8.ofNat n.val) = nameN n.val := by decide +kernel
theorem names_n (c : UInt8) : NAMES.data.toList.contains c = nameN c.toNat := by
  have := names_fin ⟨c.toNat, c.toNat_lt⟩
  simpa using this
def nmTo (s : ByteArray) (k : Nat) : Bool := (s.data.toList.take k).all fun c => nameN c.toNat
theorem nameB_to (s : ByteArray) : nameB s = (decide (1 ≤ s.size) && decide (s.size ≤ 10) && nmTo s s.size) := by
  unfold nameB nmTo
  rw [List.take_of_length_le (by rw [← Lib.size_eq]; exact Nat.le_refl _)]
  congr 2
  funext c
  exact names_n c
theorem nmTo_succ {s : ByteArray} {k : Nat} (h : k < s.size) : nmTo s (k + 1) = (nmTo s k && nameN (s[k]'h).toNat) := by
  unfold nmTo
  have hk : k < s.data.toList.length := by rw [← Lib.size_eq]; exact h
  rw [List.take_succ_eq_append_getElem hk, List.all_append]
  have : s.data.toList[k] = s[k]'h := by simp; rfl
  rw [this]; simp
theorem nmTo_no {s : ByteArray} {k : Nat} (h : k ≤ s.size) (hn : nmTo s k = false) : nameB s = false := by
  rw [nameB_to]
  have : nmTo s s.size = false := by
    unfold nmTo at *
    rw [List.take_of_length_le (by rw [← Lib.size_eq]; exact Nat.le_refl _)]
    rw [List.all_eq_false] at *
    obtain ⟨x, hx, hp⟩ := hn
    exact ⟨x, List.mem_of_mem_take hx, hp⟩
  rw [this, Bool.and_false]
set_option maxRecDepth 100000 in
set_option maxHeartbeats 4000000 in
theorem rName_ct (s : ByteArray) (w : World) (hs : s.size ≤ maxLen) :
    Calls Tryd.prog 75 #[.string s] w fun e w' => e = .returned (.bool (nameB s)) ∧ w' = w := by
  unfold maxLen at hs
  go_enter Tryd.func75, Tryd.ntmps75
  go_wp2_with fail
  go_loopg [3] s.size (fun gk x wr => ∃ k : Nat, gk = s.size - k ∧ k ≤ s.size ∧ x = .int .i64 k ∧ Hid (nmTo s k = true) ∧ wr = w)
  case atStart => exact ⟨0, by omega, by omega, rfl, rfl, rfl⟩
  case round =>
    obtain ⟨k, rfl, hk, rfl, HK, rfl⟩ := hrel
    by_cases hlt : k < s.size
    · have HS := Lib.hid (nmTo_succ hlt)
      have hRl := (s[k]'hlt).toNat_lt
      generalize hRR : (s[k]'hlt).toNat = R at HS hRl
      by_cases r1 : R < 48
      · by_cases r45 : R = 45
        · have i1 : (R : Int) < 97 := by omega
          have i2 : (R : Int) < 48 := by omega
          have i3 : ((R : Int) != 95) = true := by simp; omega
          have i4 : ((R : Int) != 45) = false := by simp; omega
          clear r45
          have HG : Hid (nmTo s (k + 1) = true) := by
            unfold Hid; rw [HS.out, HK.out, show nameN R = true from by
              unfold nameN
              simp at i3 i4 ⊢
              omega]; rfl
          clear HS
          go_wp2_with fail
          go_roundg (s.size - (k + 1))
          case rel => exact ⟨k + 1, rfl, by omega, by go_num, HG, rfl⟩
          case measure => omega
        · have i1 : (R : Int) < 97 := by omega
          have i2 : (R : Int) < 48 := by omega
          have i3 : ((R : Int) != 95) = true := by simp; omega
          have i4 : ((R : Int) != 45) = true := by simp; omega
          have HB : Hid (nameB s = false) := nmTo_no (k := k + 1) (by omega) (by rw [HS.out, show nameN R = false from by unfold nameN; simp; omega, Bool.and_false])
          clear HS
          go_wp2_with fail
          go_ret
          exact ⟨by rw [HB.out]; rfl, rfl⟩
      by_cases r2 : R ≤ 57
      · have i1 : (R : Int) < 97 := by omega
        have i2 : ¬ (R : Int) < 48 := by omega
        have i5 : ¬ (57 : Int) < (R : Int) := by omega
        have HG : Hid (nmTo s (k + 1) = true) := by unfold Hid; rw [HS.out, HK.out, show nameN R = true from by unfold nameN; simp; omega]; rfl
        clear HS
        go_wp2_with fail
        go_roundg (s.size - (k + 1))
        case rel => exact ⟨k + 1, rfl, by omega, by go_num, HG, rfl⟩
        case measure => omega
      by_cases r3 : R < 97
      · by_cases r95 : R = 95
        · have i1 : (R : Int) < 97 := by omega
          have i2 : ¬ (R : Int) < 48 := by omega
          have i5 : (57 : Int) < (R : Int) := by omega
          have i3 : ((R : Int) != 95) = false := by simp; omega
          have i4 : ((R : Int) != 45) = true := by simp; omega
          clear r95
          have HG : Hid (nmTo s (k + 1) = true) := by
            unfold Hid; rw [HS.out, HK.out, show nameN R = true from by
              unfold nameN
              simp at i3 i4 ⊢
              omega]; rfl
          clear HS
          go_wp2_with fail
          go_roundg (s.size - (k + 1))
          case rel => exact ⟨k + 1, rfl, by omega, by go_num, HG, rfl⟩
          case measure => omega
        · have i1 : (R : Int) < 97 := by omega
          have i2 : ¬ (R : Int) < 48 := by omega
          have i5 : (57 : Int) < (R : Int) := by omega
          have i3 : ((R : Int) != 95) = true := by simp; omega
          have i4 : ((R : Int) != 45) = true := by simp; omega
          have HB : Hid (nameB s = false) := nmTo_no (k := k + 1) (by omega) (by rw [HS.out, show nameN R = false from by unfold nameN; simp; omega, Bool.and_false])
          clear HS
          go_wp2_with fail
          go_ret
          exact ⟨by rw [HB.out]; rfl, rfl⟩
      by_cases r4 : R ≤ 122
      · have i1 : ¬ (R : Int) < 97 := by omega
        have i2 : ¬ (122 : Int) < (R : Int) := by omega
        have HG : Hid (nmTo s (k + 1) = true) := by unfold Hid; rw [HS.out, HK.out, show nameN R = true from by unfold nameN; simp; omega]; rfl
        clear HS
        go_wp2_with fail
        go_roundg (s.size - (k + 1))
        case rel => exact ⟨k + 1, rfl, by omega, by go_num, HG, rfl⟩
        case measure => omega
      · have i1 : ¬ (R : Int) < 97 := by omega
        have i2 : (122 : Int) < (R : Int) := by omega
        have i6 : ¬ (R : Int) < 48 := by omega
        have i5 : (57 : Int) < (R : Int) := by omega
        have i3 : ((R : Int) != 95) = true := by simp; omega
        have i4 : ((R : Int) != 45) = true := by simp; omega
        have HB : Hid (nameB s = false) := nmTo_no (k := k + 1) (by omega) (by rw [HS.out, show nameN R = false from by unfold nameN; simp; omega, Bool.and_false])
        clear HS
        go_wp2_with fail
        go_ret
        exact ⟨by rw [HB.out]; rfl, rfl⟩
    · obtain rfl : k = s.size := by omega
      have HN : Hid (nameB s = (decide ((1 : Int) ≤ (s.size : Int)) && decide ((s.size : Int) ≤ 10))) := by
        unfold Hid
        rw [nameB_to, HK.out, Bool.and_true]
        congr 1
        · rw [decide_eq_decide]; omega
        · rw [decide_eq_decide]; omega
      by_cases h1 : (1 : Int) ≤ (s.size : Int)
      · go_wp2_with fail
        go_ret
        exact ⟨by rw [HN.out, decide_eq_true h1]; rfl, rfl⟩
      · have HF : Hid (nameB s = false) := by unfold Hid; rw [HN.out, decide_eq_false h1]; rfl
        go_wp2_with fail
        go_ret
        exact ⟨by rw [HF.out]; rfl, rfl⟩
theorem rNameK_ct (s : ByteArray) (w : World) (hs : s.size ≤ maxLen) :
    Calls Tryd.prog 75 #[.string s] w fun e w' => e = .returned (.bool (nameB s)) ∧ Kept (fun _ => False) w w' :=
  (rName_ct s w hs).mono fun e w' ⟨h1, h2⟩ => ⟨h1, by rw [h2]; exact Kept.refl _ _⟩
theorem inB_succ {ds : List ByteArray} {d y : ByteArray} {j : Nat} (h : ds[j]? = some y) : inB (ds.take (j + 1)) d = (inB (ds.take j) d || d.toList == y.toList) := by
  obtain ⟨hj, rfl⟩ := List.getElem?_eq_some_iff.1 h
  unfold inB
  rw [List.take_succ_eq_append_getElem hj, List.any_append]
  simp [eqB]
theorem inB_more {ds : List ByteArray} {d : ByteArray} {j k : Nat} (hj : j ≤ k) (h : inB (ds.take j) d = true) : inB (ds.take k) d = true := by
  unfold inB at *
  rw [List.any_eq_true] at *
  obtain ⟨x, hx, hp⟩ := h
  refine ⟨x, ?_, hp⟩
  rw [List.mem_take_iff_getElem] at hx ⊢
  obtain ⟨i, hi, e⟩ := hx
  exact ⟨i, by omega, e⟩
set_option maxRecDepth 100000 in
set_option maxHeartbeats 4000000 in
theorem rhead_ct {w : World} {name : ByteArray} (hn : name.size ≤ maxLen) {v : Value} {ds : List ByteArray} (h : DepsAt w v ds) :
    Calls Tryd.prog 54 #[.string name, v] w fun e w' => e = .returned (.bool (headB name ds)) ∧ Kept (fun _ => False) w w' := by
  obtain ⟨a, c, rfl, hc, hm⟩ := h.slc
  simp only [maxLen] at hm
  have nc := rNameK_ct name w hn
  have hh : headB name ds = (allTo (depOk ds) ds.length && nameB name && decide (ds.length ≤ 5)) := rfl
  have HH := Lib.hid hh
  clear hh
  generalize hnb : nameB name = nb at nc HH
  go_enter Tryd.func54, Tryd.ntmps54
  go_wp2_with fail
  refine nc.mono ?_
  rintro e W ⟨rfl, k1⟩
  clear nc
  cases nb with
  | false =>
    go_wp2_with fail
    go_ret
    exact ⟨by rw [HH.out, Bool.and_false, Bool.false_and]; rfl, k1⟩
  | true =>
    by_cases h5 : ds.length ≤ 5
    · have i5 : ¬ (5 : Int) < (ds.length : Int) := by omega
      have HH2 : Hid (headB name ds = allTo (depOk ds) ds.length) := by unfold Hid; rw [HH.out, decide_eq_true h5]; simp
      clear HH
      go_wp2_with fail
      go_loopg [5] ds.length (fun gk i wr => ∃ k : Nat, gk = ds.length - k ∧ k ≤ ds.length ∧ i = .int .i64 k ∧ Hid (allTo (depOk ds) k = true) ∧ Kept (fun _ => False) w wr)
      case atStart => exact ⟨0, by omega, by omega, rfl, rfl, k1⟩
      case round =>
        obtain ⟨k, rfl, hk, rfl, HA, hkr⟩ := hrel
        by_cases hlt : k < ds.length
        · have hf : ds[k]? = some ds[k] := List.getElem?_eq_getElem hlt
          generalize ds[k] = d at hf
          obtain ⟨hds, b, o, rfl, hb, hcell⟩ := (h.kept hkr).elem hf
          have hdo : depOk ds k = (nameB d && !inB (ds.take k) d) := by unfold depOk; rw [hf]
          have HDO := Lib.hid hdo
          have HNO : Hid (depOk ds k = false → headB name ds = false) := fun e => by rw [HH2.out, allTo_no e hlt]
          have HYES : Hid (depOk ds k = true → allTo (depOk ds) (k + 1) = true) := fun e => by
            show (allTo (depOk ds) k && depOk ds k) = true
            rw [HA.out, e]; rfl
          have HF := Lib.hid hf
          clear hdo hf
          have nc := rNameK_ct d wr hds
          generalize hnb : nameB d = nb at HDO nc
          go_wp2_with fail
          refine nc.mono ?_
          rintro e W2 ⟨rfl, k2⟩
          have K2 := hkr.trans k2
          clear nc hcell
          cases nb with
          | false =>
            have HX := Lib.hid (HNO.out HDO.out)
            clear HNO HYES
            go_wp2_with fail
            go_ret
            exact ⟨by rw [HX.out]; rfl, K2⟩
          | true =>
            go_wp2_with fail
            go_loopg [6] k (fun gj s6 wx => ∃ j : Nat, gj = k - j ∧ j ≤ k ∧ s6 = .int .i64 j ∧ Hid (inB (ds.take j) d = false) ∧ Kept (fun _ => False) w wx)
            case atStart => exact ⟨0, by omega, by omega, rfl, rfl, K2⟩
            case round =>
              obtain ⟨j, rfl, hj, rfl, HI, hkx⟩ := hrel
              by_cases hjk : j < k
              · have hjl : j < ds.length := by omega
                have hfj : ds[j]? = some ds[j] := List.getElem?_eq_getElem hjl
                generalize ds[j] = y at hfj
                obtain ⟨_, b2, o2, hbe, hbx, hcj⟩ := (h.kept hkx).elem hfj
                injection hbe with hbe
                injection hbe with e1 e2 _
                subst e1; subst e2
                obtain ⟨_, b3, o3, hbe, _, hck⟩ := (h.kept hkx).elem HF.out
                injection hbe with hbe
                injection hbe with e1 e2 _
                subst e1; subst e2
                have hs := inB_succ (d := d) hfj
                rw [HI.out, Bool.false_or] at hs
                have HS := Lib.hid hs
                have HM : Hid (inB (ds.take (j + 1)) d = true → inB (ds.take k) d = true) := inB_more (by omega)
                have cj : ∀ w', Kept (fun _ => False) wr w' → w'.cell? ⟨b, o + j, none⟩ = some (.string y) := fun w' q => (q.cell (p := ⟨b, o + j, none⟩) hbx not_false).trans hcj
                have ck : ∀ w', Kept (fun _ => False) wr w' → w'.cell? ⟨b, o + k, none⟩ = some (.string d) := fun w' q => (q.cell (p := ⟨b, o + k, none⟩) hbx not_false).trans hck
                clear hfj hs hcj hck HI
                generalize hq : (d.toList == y.toList) = q at HS
                have ijn : (j : Int) < (ds.length : Int) := by omega
                go_wp2_with fail
                refine wp_region_held_drew (S := (Kept (fun _ => False) wr)) (by kernel_rfl) ((Kept.refl _ wr).drew) (fun hHeld => ?_)
                refine held_q (v := ?_) (i := 0) rfl (by kernel_rfl) (by kernel_rfl) (by kernel_rfl) (fun _ _ _ h => h) (by rfl) hHeld ?_ ?_
                rotate_left
                · (intro w' hS'; go_simp <;> (with_reducible rfl))
                simp only [Act.put, List.getElem_toArray, List.getElem_cons_zero, List.getElem_cons_succ, List.setIfInBounds_toArray, List.set_cons_zero, List.set_cons_succ]
                refine held_q (v := ?_) (i := 1) rfl (by kernel_rfl) (by kernel_rfl) (by kernel_rfl) (fun _ _ _ h => h) (by rfl) hHeld ?_ ?_
                rotate_left
                · (intro w' hS'; go_simp <;> (with_reducible rfl))
                simp only [Act.put, List.getElem_toArray, List.getElem_cons_zero, List.getElem_cons_succ, List.setIfInBounds_toArray, List.set_cons_zero, List.set_cons_succ]
                refine held_q (v := ?_) (i := 2) rfl (by kernel_rfl) (by kernel_rfl) (by kernel_rfl) (fun _ _ _ h => h) (by rfl) hHeld ?_ ?_
                rotate_left
                · (intro w' hS'; go_simp <;> (with_reducible rfl))
                simp only [Act.put, List.getElem_toArray, List.getElem_cons_zero, List.getElem_cons_succ, List.setIfInBounds_toArray, List.set_cons_zero, List.set_cons_succ]
                refine held_q (v := ?_) (i := 3) rfl (by kernel_rfl) (by kernel_rfl) (by kernel_rfl) (fun _ _ _ h => h) (by rfl) hHeld ?_ ?_
                rotate_left
                · (intro w' hS'; go_simp <;> (with_reducible rfl))
                simp only [Act.put, List.getElem_toArray, List.getElem_cons_zero, List.getElem_cons_succ, List.setIfInBounds_toArray, List.set_cons_zero, List.set_cons_succ]
                refine held_q (v := ?_) (i := 4) rfl (by kernel_rfl) (by kernel_rfl) (by kernel_rfl) (fun _ _ _ h => h) (by rfl) hHeld ?_ ?_
                rotate_left
                · (intro w' hS'; go_simp <;> (with_reducible rfl))
                simp only [Act.put, List.getElem_toArray, List.getElem_cons_zero, List.getElem_cons_succ, List.setIfInBounds_toArray, List.set_cons_zero, List.set_cons_succ]
                refine held_q (v := ?_) (i := 5) rfl (by kernel_rfl) (by kernel_rfl) (by kernel_rfl) (fun _ _ _ h => h) (by rfl) hHeld ?_ ?_
                rotate_left
                · (intro w' hS'; go_simp <;> (with_reducible rfl))
                simp only [Act.put, List.getElem_toArray, List.getElem_cons_zero, List.getElem_cons_succ, List.setIfInBounds_toArray, List.set_cons_zero, List.set_cons_succ]
                refine held_q (v := ?_) (i := 6) rfl (by kernel_rfl) (by kernel_rfl) (by kernel_rfl) (fun _ _ _ h => h) (by rfl) hHeld ?_ ?_
                rotate_left
                · (intro w' hS'; go_simp <;> (with_reducible rfl))
                simp only [Act.put, List.getElem_toArray, List.getElem_cons_zero, List.getElem_cons_succ, List.setIfInBounds_toArray, List.set_cons_zero, List.set_cons_succ]
                refine held_q (v := ?_) (i := 7) rfl (by kernel_rfl) (by kernel_rfl) (by kernel_rfl) (fun _ _ _ h => h) (by rfl) hHeld ?_ ?_
                rotate_left
                · (intro w' hS'; go_simp <;> (with_reducible rfl))
                simp only [Act.put, List.getElem_toArray, List.getElem_cons_zero, List.getElem_cons_succ, List.setIfInBounds_toArray, List.set_cons_zero, List.set_cons_succ]
                refine held_q (v := ?_) (i := 8) rfl (by kernel_rfl) (by kernel_rfl) (by kernel_rfl) (fun _ _ _ h => h) (by rfl) hHeld ?_ ?_
                rotate_left
                · (intro w' hS'; go_simp <;> (with_reducible rfl))
                simp only [Act.put, List.getElem_toArray, List.getElem_cons_zero, List.getElem_cons_succ, List.setIfInBounds_toArray, List.set_cons_zero, List.set_cons_succ]
                refine wpAnyH_done (by kernel_rfl) ?_ _
                cases q with
                | true =>
                  have HX : Hid (headB name ds = false) := HNO.out (by rw [HDO.out, HM.out HS.out]; rfl)
                  clear HNO HYES HM HS
                  go_wp2_with fail
                  go_ret
                  exact ⟨by rw [HX.out]; rfl, hkx.trans hHeld⟩
                | false =>
                  go_wp2_with fail
                  go_roundg (k - (j + 1))
                  case rel => exact ⟨j + 1, rfl, by omega, by go_num, HS.out, hkx.trans hHeld⟩
                  case measure => omega
              · obtain rfl : j = k := by omega
                have HT := Lib.hid (HYES.out (by rw [HDO.out, HI.out]; rfl))
                go_wp2_with fail
                go_roundg (ds.length - (j + 1))
                case rel => exact ⟨j + 1, rfl, by omega, by go_num, HT.out, hkx⟩
                case measure => omega
        · obtain rfl : k = ds.length := by omega
          have HX : Hid (headB name ds = true) := by unfold Hid; rw [HH2.out, HA.out]
          go_wp2_with fail
          go_ret
          exact ⟨by rw [HX.out]; rfl, hkr⟩
    · have i5 : (5 : Int) < (ds.length : Int) := by omega
      have HX : Hid (headB name ds = false) := by unfold Hid; rw [HH.out, decide_eq_false h5, Bool.and_false]
      go_wp2_with fail
      go_ret
      exact ⟨by rw [HX.out]; rfl, k1⟩
end Go.Proofs.YtfohljljoalmoaaDoor
