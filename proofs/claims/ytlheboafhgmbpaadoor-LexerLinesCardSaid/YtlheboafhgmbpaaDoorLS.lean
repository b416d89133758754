/- The document's Words and Same. -/
import Derived.Test.YtlheboafhgmbpaaDoorLR
namespace Go.Proofs.YtlheboafhgmbpaaDoor
open Go.RowKit
set_option maxRecDepth 100000
set_option linter.unusedSimpArgs false
set_option linter.unusedVariables false

theorem StrsAt.word {w : World} {a : Option Addr} {n c : Nat} {ws : List (List UInt8)} (h : StrsAt w (.slice a n c) ws) {j : Nat} {x : List UInt8} (hx : ws[j]? = some x) :
    ∃ b o, a = some ⟨b, o, none⟩ ∧ b < w.heap.size ∧ w.cell? ⟨b, o + j, none⟩ = some (.string ⟨x.toArray⟩) := by
  obtain ⟨a', c', e, _, h3⟩ := h
  injection e with e1 _ _
  subst e1
  obtain ⟨b, o, e, hb, hr⟩ := h3 (fun e => by subst e; simp at hx)
  exact ⟨b, o, e, hb, hr j (str x) (by simp [sv, hx])⟩
theorem take_step {a b : List (List UInt8)} {k : Nat} (h : a.take k = b.take k) {x : List UInt8} (ha : a[k]? = some x) (hb : b[k]? = some x) : a.take (k + 1) = b.take (k + 1) := by
  obtain ⟨h1, e1⟩ := List.getElem?_eq_some_iff.1 ha
  obtain ⟨h2, e2⟩ := List.getElem?_eq_some_iff.1 hb
  rw [List.take_succ_eq_append_getElem h1, List.take_succ_eq_append_getElem h2, h, e1, e2]
theorem toList_mk (x : List UInt8) : (⟨x.toArray⟩ : ByteArray).toList = x := by rw [ByteArray.toList_eq]
set_option maxRecDepth 100000 in
set_option maxHeartbeats 4000000 in
theorem words_ct {w : World} {v1 v2 : Value} {a b : List (List UInt8)} (h1 : StrsAt w v1 a) (h2 : StrsAt w v2 b) :
    Calls Tryd.prog 11 #[v1, v2] w fun e w' => e = .returned (.bool (a == b)) ∧ Drawn w w' := by
  obtain ⟨p, c, rfl⟩ := h1.slc
  obtain ⟨q, d, rfl⟩ := h2.slc
  have hm1 : a.length ≤ maxLen := by obtain ⟨_, _, _, hm, _⟩ := h1; exact hm
  simp only [maxLen] at hm1
  by_cases hl : a.length = b.length
  · have hlz : ((a.length : Int) != (b.length : Int)) = false := by simp [hl]
    obtain ⟨R, hR⟩ : ∃ R, (a == b) = R := ⟨_, rfl⟩
    rw [hR]
    rw [← hl] at h2 ⊢
    have HL := Lib.hid hl
    have HR := Lib.hid hR
    clear hl hR
    go_enter Tryd.func11, Tryd.ntmps11
    go_wp2_with fail
    go_loopw [5] (fun i wr => ∃ k : Nat, k ≤ a.length ∧ i = .int .i64 k ∧ a.take k = b.take k ∧ Drawn w wr) (fun i _ => a.length - (intOf i).toNat)
    case atStart => exact ⟨0, by omega, rfl, rfl, Drawn.refl w⟩
    case round =>
      obtain ⟨k, hk, rfl, ht, hd⟩ := hrel
      have HT := Lib.hid ht
      clear ht
      by_cases hlt : k < a.length
      · have hx : a[k]? = some a[k] := List.getElem?_eq_getElem hlt
        have hlb : k < b.length := by rw [← HL.out]; exact hlt
        have hy : b[k]? = some b[k] := List.getElem?_eq_getElem hlb
        obtain ⟨b1, o1, rfl, _, e1⟩ := h1.word hx
        obtain ⟨b2, o2, rfl, _, e2⟩ := h2.word hy
        generalize a[k] = x at *
        generalize b[k] = y at *
        have f1 : ∀ w', Drawn wr w' → w'.cell? ⟨b1, o1 + k, none⟩ = some (.string ⟨x.toArray⟩) := fun w' q => by rw [q.cell, hd.cell]; exact e1
        have f2 : ∀ w', Drawn wr w' → w'.cell? ⟨b2, o2 + k, none⟩ = some (.string ⟨y.toArray⟩) := fun w' q => by rw [q.cell, hd.cell]; exact e2
        have hkz : (k : Int) < (a.length : Int) := by omega
        by_cases hxy : x = y
        · subst hxy
          have hs := take_step HT.out hx hy
          have HS := Lib.hid hs
          clear hs hx hy e1 e2
          go_wp2_with fail
          refine wp_region_held_drew (S := (Drawn wr)) (by kernel_rfl) ((Drawn.refl wr).drew) (fun hHeld => ?_)
          refine held_q (v := ?_) (i := 0) rfl (by kernel_rfl) (by kernel_rfl) (by kernel_rfl) (fun _ _ _ h => h) (by rfl) hHeld ?_ ?_
          rotate_left
          · (intro w' hS'; go_simp <;> (with_reducible rfl))
          simp only [Act.put, List.getElem_toArray, List.getElem_cons_zero, List.getElem_cons_succ, List.setIfInBounds_toArray, List.set_cons_zero, List.set_cons_succ]
          refine held_q (v := ?_) (i := 1) rfl (by kernel_rfl) (by kernel_rfl) (by kernel_rfl) (fun _ _ _ h => h) (by rfl) hHeld ?_ ?_
          rotate_left
          · (intro w' hS'; go_simp <;> (with_reducible rfl))
          simp only [Act.put, List.getElem_toArray, List.getElem_cons_zero, List.getElem_cons_succ, List.setIfInBounds_toArray, List.set_cons_zero, List.set_cons_succ]
          refine held_q (v := ?_) (i := 2) rfl (by kernel_rfl) (by kernel_rfl) (by kernel_rfl) (fun _ _ _ h => h) (by rfl) hHeld ?_ ?_
          rotate_left
          · (intro w' hS'; go_simp <;> (with_reducible rfl))
          simp only [Act.put, List.getElem_toArray, List.getElem_cons_zero, List.getElem_cons_succ, List.setIfInBounds_toArray, List.set_cons_zero, List.set_cons_succ]
          refine held_q (v := ?_) (i := 3) rfl (by kernel_rfl) (by kernel_rfl) (by kernel_rfl) (fun _ _ _ h => h) (by rfl) hHeld ?_ ?_
          rotate_left
          · (intro w' hS'; go_simp <;> (with_reducible rfl))
          simp only [Act.put, List.getElem_toArray, List.getElem_cons_zero, List.getElem_cons_succ, List.setIfInBounds_toArray, List.set_cons_zero, List.set_cons_succ]
          refine held_q (v := ?_) (i := 4) rfl (by kernel_rfl) (by kernel_rfl) (by kernel_rfl) (fun _ _ _ h => h) (by rfl) hHeld ?_ ?_
          rotate_left
          · (intro w' hS'; go_simp <;> (with_reducible rfl))
          simp only [Act.put, List.getElem_toArray, List.getElem_cons_zero, List.getElem_cons_succ, List.setIfInBounds_toArray, List.set_cons_zero, List.set_cons_succ]
          refine held_q (v := ?_) (i := 5) rfl (by kernel_rfl) (by kernel_rfl) (by kernel_rfl) (fun _ _ _ h => h) (by rfl) hHeld ?_ ?_
          rotate_left
          · (intro w' hS'; go_simp <;> (with_reducible rfl))
          simp only [Act.put, List.getElem_toArray, List.getElem_cons_zero, List.getElem_cons_succ, List.setIfInBounds_toArray, List.set_cons_zero, List.set_cons_succ]
          refine held_q (v := ?_) (i := 6) rfl (by kernel_rfl) (by kernel_rfl) (by kernel_rfl) (fun _ _ _ h => h) (by rfl) hHeld ?_ ?_
          rotate_left
          · (intro w' hS'; go_simp <;> (with_reducible rfl))
          simp only [Act.put, List.getElem_toArray, List.getElem_cons_zero, List.getElem_cons_succ, List.setIfInBounds_toArray, List.set_cons_zero, List.set_cons_succ]
          refine held_q (v := ?_) (i := 7) rfl (by kernel_rfl) (by kernel_rfl) (by kernel_rfl) (fun _ _ _ h => h) (by rfl) hHeld ?_ ?_
          rotate_left
          · (intro w' hS'; go_simp <;> (with_reducible rfl))
          simp only [Act.put, List.getElem_toArray, List.getElem_cons_zero, List.getElem_cons_succ, List.setIfInBounds_toArray, List.set_cons_zero, List.set_cons_succ]
          refine held_q (v := ?_) (i := 8) rfl (by kernel_rfl) (by kernel_rfl) (by kernel_rfl) (fun _ _ _ h => h) (by rfl) hHeld ?_ ?_
          rotate_left
          · (intro w' hS'; go_simp <;> (with_reducible rfl))
          simp only [Act.put, List.getElem_toArray, List.getElem_cons_zero, List.getElem_cons_succ, List.setIfInBounds_toArray, List.set_cons_zero, List.set_cons_succ]
          refine wpAnyH_done (by kernel_rfl) ?_ _
          go_wp2_with fail
          go_roundw
          case rel => exact ⟨k + 1, by omega, by go_num, HS.out, hd.drew⟩
          case measure => simp [intOf]; omega
        · have n1 : (x == y) = false := by simpa using hxy
          have n2 : ((⟨x.toArray⟩ : ByteArray).toList == (⟨y.toArray⟩ : ByteArray).toList) = false := by rw [toList_mk, toList_mk]; exact n1
          have hF : R = false := by
            rw [← HR.out]
            simp only [beq_eq_false_iff_ne, ne_eq]
            intro e
            rw [e, hy] at hx
            injection hx with hx
            exact hxy hx.symm
          subst hF
          clear hx hy e1 e2 hxy
          go_wp2_with fail
          refine wp_region_held_drew (S := (Drawn wr)) (by kernel_rfl) ((Drawn.refl wr).drew) (fun hHeld => ?_)
          refine held_q (v := ?_) (i := 0) rfl (by kernel_rfl) (by kernel_rfl) (by kernel_rfl) (fun _ _ _ h => h) (by rfl) hHeld ?_ ?_
          rotate_left
          · (intro w' hS'; go_simp <;> (with_reducible rfl))
          simp only [Act.put, List.getElem_toArray, List.getElem_cons_zero, List.getElem_cons_succ, List.setIfInBounds_toArray, List.set_cons_zero, List.set_cons_succ]
          refine held_q (v := ?_) (i := 1) rfl (by kernel_rfl) (by kernel_rfl) (by kernel_rfl) (fun _ _ _ h => h) (by rfl) hHeld ?_ ?_
          rotate_left
          · (intro w' hS'; go_simp <;> (with_reducible rfl))
          simp only [Act.put, List.getElem_toArray, List.getElem_cons_zero, List.getElem_cons_succ, List.setIfInBounds_toArray, List.set_cons_zero, List.set_cons_succ]
          refine held_q (v := ?_) (i := 2) rfl (by kernel_rfl) (by kernel_rfl) (by kernel_rfl) (fun _ _ _ h => h) (by rfl) hHeld ?_ ?_
          rotate_left
          · (intro w' hS'; go_simp <;> (with_reducible rfl))
          simp only [Act.put, List.getElem_toArray, List.getElem_cons_zero, List.getElem_cons_succ, List.setIfInBounds_toArray, List.set_cons_zero, List.set_cons_succ]
          refine held_q (v := ?_) (i := 3) rfl (by kernel_rfl) (by kernel_rfl) (by kernel_rfl) (fun _ _ _ h => h) (by rfl) hHeld ?_ ?_
          rotate_left
          · (intro w' hS'; go_simp <;> (with_reducible rfl))
          simp only [Act.put, List.getElem_toArray, List.getElem_cons_zero, List.getElem_cons_succ, List.setIfInBounds_toArray, List.set_cons_zero, List.set_cons_succ]
          refine held_q (v := ?_) (i := 4) rfl (by kernel_rfl) (by kernel_rfl) (by kernel_rfl) (fun _ _ _ h => h) (by rfl) hHeld ?_ ?_
          rotate_left
          · (intro w' hS'; go_simp <;> (with_reducible rfl))
          simp only [Act.put, List.getElem_toArray, List.getElem_cons_zero, List.getElem_cons_succ, List.setIfInBounds_toArray, List.set_cons_zero, List.set_cons_succ]
          refine held_q (v := ?_) (i := 5) rfl (by kernel_rfl) (by kernel_rfl) (by kernel_rfl) (fun _ _ _ h => h) (by rfl) hHeld ?_ ?_
          rotate_left
          · (intro w' hS'; go_simp <;> (with_reducible rfl))
          simp only [Act.put, List.getElem_toArray, List.getElem_cons_zero, List.getElem_cons_succ, List.setIfInBounds_toArray, List.set_cons_zero, List.set_cons_succ]
          refine held_q (v := ?_) (i := 6) rfl (by kernel_rfl) (by kernel_rfl) (by kernel_rfl) (fun _ _ _ h => h) (by rfl) hHeld ?_ ?_
          rotate_left
          · (intro w' hS'; go_simp <;> (with_reducible rfl))
          simp only [Act.put, List.getElem_toArray, List.getElem_cons_zero, List.getElem_cons_succ, List.setIfInBounds_toArray, List.set_cons_zero, List.set_cons_succ]
          refine held_q (v := ?_) (i := 7) rfl (by kernel_rfl) (by kernel_rfl) (by kernel_rfl) (fun _ _ _ h => h) (by rfl) hHeld ?_ ?_
          rotate_left
          · (intro w' hS'; go_simp <;> (with_reducible rfl))
          simp only [Act.put, List.getElem_toArray, List.getElem_cons_zero, List.getElem_cons_succ, List.setIfInBounds_toArray, List.set_cons_zero, List.set_cons_succ]
          refine held_q (v := ?_) (i := 8) rfl (by kernel_rfl) (by kernel_rfl) (by kernel_rfl) (fun _ _ _ h => h) (by rfl) hHeld ?_ ?_
          rotate_left
          · (intro w' hS'; go_simp <;> (with_reducible rfl))
          simp only [Act.put, List.getElem_toArray, List.getElem_cons_zero, List.getElem_cons_succ, List.setIfInBounds_toArray, List.set_cons_zero, List.set_cons_succ]
          refine wpAnyH_done (by kernel_rfl) ?_ _
          go_wp2_with fail
          go_ret
          exact ⟨rfl, hd.drew⟩
      · obtain rfl : k = a.length := by omega
        have hT : R = true := by
          rw [← HR.out]
          have := HT.out
          rw [List.take_length] at this
          rw [HL.out, List.take_length] at this
          simp [this]
        subst hT
        have hkz : ¬ ((a.length : Int) < (a.length : Int)) := by omega
        go_wp2_with fail
        go_ret
        exact ⟨rfl, hd⟩
  · have hlz : ((a.length : Int) != (b.length : Int)) = true := by simp; omega
    have hne : (a == b) = false := by
      simp only [beq_eq_false_iff_ne, ne_eq]
      intro e; exact hl (by rw [e])
    rw [hne]
    go_enter Tryd.func11, Tryd.ntmps11
    go_wp2_with fail
    go_ret
    exact ⟨rfl, Drawn.refl w⟩
set_option maxRecDepth 100000 in
set_option maxHeartbeats 4000000 in
/-- Two rows of the same lines are alike. -/
theorem same_ct {w : World} {B1 B2 : Nat} {v1 v2 : Value} {ls : List LineE} (h1 : OwnLines w B1 v1 ls) (h2 : OwnLines w B2 v2 ls) (hl : ls.length ≤ 1000000) :
    Calls Tryd.prog 10 #[v1, v2] w fun e w' => e = .returned (.bool true) ∧ Kept (fun _ => False) w w' := by
  obtain ⟨p, c, hv1⟩ := h1.slc
  subst hv1
  obtain ⟨q, d, hv2⟩ := h2.slc
  subst hv2
  have hlz : ((ls.length : Int) != (ls.length : Int)) = false := by simp
  go_enter Tryd.func10, Tryd.ntmps10
  go_wp2_with fail
  go_loopw [5] (fun i wr => ∃ k : Nat, k ≤ ls.length ∧ i = .int .i64 k ∧ Drawn w wr) (fun i _ => ls.length - (intOf i).toNat)
  case atStart => exact ⟨0, by omega, rfl, Drawn.refl w⟩
  case round =>
    obtain ⟨k, hk, rfl, hd⟩ := hrel
    by_cases hlt : k < ls.length
    · have hx : ls[k]? = some ls[k] := List.getElem?_eq_getElem hlt
      generalize ls[k] = x at hx
      obtain ⟨g1, a1, c1, rfl, _, _, _, e1, e2, hw1⟩ := (h1.kept hd.kept).at hx
      obtain ⟨g2, a2, c2, rfl, _, _, _, e3, e4, hw2⟩ := (h2.kept hd.kept).at hx
      have wc : ∀ n, Calls Tryd.prog 11 #[.slice a1 x.words.length c1, .slice a2 x.words.length c2] (wr.drewN n) fun e w' => e = .returned (.bool true) ∧ ∃ m, w' = (wr.drewN n).drewN m := fun n => by
        have := words_ct ((StrsAt.own hw1).kept ((Kept.refl _ wr).drewN n)) ((StrsAt.own hw2).kept ((Kept.refl _ wr).drewN n))
        rw [show (x.words == x.words) = true from by simp] at this
        exact this
      have hnz : ((x.n : Int) != (x.n : Int)) = false := by simp
      have hkz : (k : Int) < (ls.length : Int) := by omega
      clear hx hw1 hw2
      go_wp2_with fail
      refine wp_region_quiet_lit (by kernel_rfl) (by kernel_rfl) ?_
      repeat (first
        | go_big_quiet_skip
        | (go_big_quiet_want
           first
             | (go_big_quiet_op
                go_big_quiet_call ((go_at_call 11; with_reducible exact Calls.quiet_of (wc _))))
             | (go_big_quiet_op; go_big_quiet_on)))
      refine wpQuiet_nil ?_
      intro _ hw'
      obtain ⟨nq, hw''⟩ := hw'
      subst hw''
      go_wp2_with fail
      go_roundw
      case rel => exact ⟨k + 1, by omega, by go_num, hd.drewN nq⟩
      case measure => simp [intOf]; omega
    · obtain rfl : k = ls.length := by omega
      have hkz : ¬ ((ls.length : Int) < (ls.length : Int)) := by omega
      go_wp2_with fail
      go_ret
      exact ⟨rfl, hd.kept⟩
end Go.Proofs.YtlheboafhgmbpaaDoor
