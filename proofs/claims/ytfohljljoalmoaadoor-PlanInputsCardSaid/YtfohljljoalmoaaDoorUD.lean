/- Great; Get; With. -/
import Derived.Test.YtfohljljoalmoaaDoorUC
namespace Go.Proofs.YtfohljljoalmoaaDoor
open Go.RowKit
set_option maxRecDepth 100000
set_option linter.unusedSimpArgs false
set_option linter.unusedVariables false

set_option maxRecDepth 100000 in
set_option maxHeartbeats 1000000 in
theorem great_ct {w : World} {v : Value} {l : List FileE} (h : TreeAt w v l) :
    Calls Tryd.prog 22 #[v] w fun e w' => (∃ b, e = .returned (.bool b)) ∧ Kept (fun _ => False) w w' := by
  obtain ⟨a, c, hv⟩ := h.slc
  subst hv
  have hml : l.length ≤ maxLen := by obtain ⟨_, _, _, h2, _⟩ := h; exact h2
  simp only [maxLen] at hml
  go_enter Tryd.func22, Tryd.ntmps22
  go_wp2_with fail
  go_loopw [3, 4] (fun n i wr => ∃ (k : Nat) (z : Int), k ≤ l.length ∧ i = .int .i64 k ∧ n = .int .i64 z ∧ Kept (fun _ => False) w wr) (fun _ i _ => l.length - (intOf i).toNat)
  case atStart => exact ⟨0, 0, by omega, rfl, rfl, Kept.refl _ _⟩
  case round =>
    obtain ⟨k, z, hk, rfl, rfl, hkr⟩ := hrel
    by_cases hlt : k < l.length
    · have hfa : l[k]? = some l[k] := List.getElem?_eq_getElem hlt
      generalize l[k] = f at hfa
      obtain ⟨_, b1, o1, x, rfl, hbl, hrx, hB⟩ := (h.kept hkr).file hfa
      obtain ⟨a3, c3, rfl⟩ := hB.slc
      have q0 : ∀ w', Kept (fun _ => False) wr w' → w'.cell? ⟨b1, o1 + k * 2, none⟩ = some (.string f.path) := fun w' q => (q.cell (p := ⟨b1, o1 + k * 2, none⟩) hbl not_false).trans (hrx 0 _ rfl)
      have q1 : ∀ w', Kept (fun _ => False) wr w' → w'.cell? ⟨b1, o1 + k * 2 + 1, none⟩ = some (.slice a3 f.bytes.length c3) := fun w' q => (q.cell (p := ⟨b1, o1 + k * 2 + 1, none⟩) hbl not_false).trans (hrx 1 _ rfl)
      clear hrx hB hfa
      go_wp2_with fail
      refine wp_region_held_drew (S := (Kept (fun _ => False) wr)) (by kernel_rfl) ((Kept.refl _ wr).drew) (fun hHeld => ?_)
      refine held_q (v := ?_) (i := 0) rfl (by kernel_rfl) (by kernel_rfl) (by kernel_rfl) (fun _ _ _ h => h) (by rfl) hHeld ?_ ?_
      rotate_left
      · (intro w' hS'; go_simp <;> (with_reducible rfl))
      simp only [Act.put, List.getElem_toArray, List.getElem_cons_zero, List.getElem_cons_succ, List.setIfInBounds_toArray, List.set_cons_zero, List.set_cons_succ]
      refine held_q (v := ?_) (i := 1) rfl (by kernel_rfl) (by kernel_rfl) (by kernel_rfl) (fun _ _ _ h => h) (by rfl) hHeld ?_ ?_
      rotate_left
      · (intro w' hS'; go_simp <;> (with_reducible rfl))
      simp only [Act.put, List.getElem_toArray, List.getElem_cons_zero, List.getElem_cons_succ, List.setIfInBounds_toArray, List.set_cons_zero, List.set_cons_succ]
      refine held_q (v := ?_) (i := 2) rfl (by kernel_rfl) (by kernel_rfl) (by kernel_rfl) (fun _ _ _ h => h) (by rfl) hHeld ?_ ?_
      rotate_left
      · (intro w' hS'; go_simp <;> (with_reducible rfl))
      simp only [Act.put, List.getElem_toArray, List.getElem_cons_zero, List.getElem_cons_succ, List.setIfInBounds_toArray, List.set_cons_zero, List.set_cons_succ]
      refine held_q (v := ?_) (i := 3) rfl (by kernel_rfl) (by kernel_rfl) (by kernel_rfl) (fun _ _ _ h => h) (by rfl) hHeld ?_ ?_
      rotate_left
      · (intro w' hS'; go_simp <;> (with_reducible rfl))
      simp only [Act.put, List.getElem_toArray, List.getElem_cons_zero, List.getElem_cons_succ, List.setIfInBounds_toArray, List.set_cons_zero, List.set_cons_succ]
      refine held_q (v := ?_) (i := 4) rfl (by kernel_rfl) (by kernel_rfl) (by kernel_rfl) (fun _ _ _ h => h) (by rfl) hHeld ?_ ?_
      rotate_left
      · (intro w' hS'; go_simp <;> (with_reducible rfl))
      simp only [Act.put, List.getElem_toArray, List.getElem_cons_zero, List.getElem_cons_succ, List.setIfInBounds_toArray, List.set_cons_zero, List.set_cons_succ]
      refine held_q (v := ?_) (i := 5) rfl (by kernel_rfl) (by kernel_rfl) (by kernel_rfl) (fun _ _ _ h => h) (by rfl) hHeld ?_ ?_
      rotate_left
      · (intro w' hS'; go_simp <;> (with_reducible rfl))
      simp only [Act.put, List.getElem_toArray, List.getElem_cons_zero, List.getElem_cons_succ, List.setIfInBounds_toArray, List.set_cons_zero, List.set_cons_succ]
      refine held_q (v := ?_) (i := 6) rfl (by kernel_rfl) (by kernel_rfl) (by kernel_rfl) (fun _ _ _ h => h) (by rfl) hHeld ?_ ?_
      rotate_left
      · (intro w' hS'; go_simp <;> (with_reducible rfl))
      simp only [Act.put, List.getElem_toArray, List.getElem_cons_zero, List.getElem_cons_succ, List.setIfInBounds_toArray, List.set_cons_zero, List.set_cons_succ]
      refine held_q (v := ?_) (i := 7) rfl (by kernel_rfl) (by kernel_rfl) (by kernel_rfl) (fun _ _ _ h => h) (by rfl) hHeld ?_ ?_
      rotate_left
      · (intro w' hS'; go_simp <;> (with_reducible rfl))
      simp only [Act.put, List.getElem_toArray, List.getElem_cons_zero, List.getElem_cons_succ, List.setIfInBounds_toArray, List.set_cons_zero, List.set_cons_succ]
      refine held_q (v := ?_) (i := 8) rfl (by kernel_rfl) (by kernel_rfl) (by kernel_rfl) (fun _ _ _ h => h) (by rfl) hHeld ?_ ?_
      rotate_left
      · (intro w' hS'; go_simp <;> (with_reducible rfl))
      simp only [Act.put, List.getElem_toArray, List.getElem_cons_zero, List.getElem_cons_succ, List.setIfInBounds_toArray, List.set_cons_zero, List.set_cons_succ]
      refine held_q (v := ?_) (i := 9) rfl (by kernel_rfl) (by kernel_rfl) (by kernel_rfl) (fun _ _ _ h => h) (by rfl) hHeld ?_ ?_
      rotate_left
      · (intro w' hS'; go_simp <;> (with_reducible rfl))
      simp only [Act.put, List.getElem_toArray, List.getElem_cons_zero, List.getElem_cons_succ, List.setIfInBounds_toArray, List.set_cons_zero, List.set_cons_succ]
      refine held_q (v := ?_) (i := 10) rfl (by kernel_rfl) (by kernel_rfl) (by kernel_rfl) (fun _ _ _ h => h) (by rfl) hHeld ?_ ?_
      rotate_left
      · (intro w' hS'; go_simp <;> (with_reducible rfl))
      simp only [Act.put, List.getElem_toArray, List.getElem_cons_zero, List.getElem_cons_succ, List.setIfInBounds_toArray, List.set_cons_zero, List.set_cons_succ]
      refine held_q (v := ?_) (i := 11) rfl (by kernel_rfl) (by kernel_rfl) (by kernel_rfl) (fun _ _ _ h => h) (by rfl) hHeld ?_ ?_
      rotate_left
      · (intro w' hS'; go_simp <;> (with_reducible rfl))
      simp only [Act.put, List.getElem_toArray, List.getElem_cons_zero, List.getElem_cons_succ, List.setIfInBounds_toArray, List.set_cons_zero, List.set_cons_succ]
      refine held_q (v := ?_) (i := 12) rfl (by kernel_rfl) (by kernel_rfl) (by kernel_rfl) (fun _ _ _ h => h) (by rfl) hHeld ?_ ?_
      rotate_left
      · (intro w' hS'; go_simp <;> (with_reducible rfl))
      simp only [Act.put, List.getElem_toArray, List.getElem_cons_zero, List.getElem_cons_succ, List.setIfInBounds_toArray, List.set_cons_zero, List.set_cons_succ]
      refine held_q (v := ?_) (i := 13) rfl (by kernel_rfl) (by kernel_rfl) (by kernel_rfl) (fun _ _ _ h => h) (by rfl) hHeld ?_ ?_
      rotate_left
      · (intro w' hS'; go_simp <;> (with_reducible rfl))
      simp only [Act.put, List.getElem_toArray, List.getElem_cons_zero, List.getElem_cons_succ, List.setIfInBounds_toArray, List.set_cons_zero, List.set_cons_succ]
      refine held_q (v := ?_) (i := 14) rfl (by kernel_rfl) (by kernel_rfl) (by kernel_rfl) (fun _ _ _ h => h) (by rfl) hHeld ?_ ?_
      rotate_left
      · (intro w' hS'; go_simp <;> (with_reducible rfl))
      simp only [Act.put, List.getElem_toArray, List.getElem_cons_zero, List.getElem_cons_succ, List.setIfInBounds_toArray, List.set_cons_zero, List.set_cons_succ]
      refine held_q (v := ?_) (i := 15) rfl (by kernel_rfl) (by kernel_rfl) (by kernel_rfl) (fun _ _ _ h => h) (by rfl) hHeld ?_ ?_
      rotate_left
      · (intro w' hS'; go_simp <;> (with_reducible rfl))
      simp only [Act.put, List.getElem_toArray, List.getElem_cons_zero, List.getElem_cons_succ, List.setIfInBounds_toArray, List.set_cons_zero, List.set_cons_succ]
      refine held_q (v := ?_) (i := 16) rfl (by kernel_rfl) (by kernel_rfl) (by kernel_rfl) (fun _ _ _ h => h) (by rfl) hHeld ?_ ?_
      rotate_left
      · (intro w' hS'; go_simp <;> (with_reducible rfl))
      simp only [Act.put, List.getElem_toArray, List.getElem_cons_zero, List.getElem_cons_succ, List.setIfInBounds_toArray, List.set_cons_zero, List.set_cons_succ]
      refine wpAnyH_done (by kernel_rfl) ?_ _
      go_wp2_with fail
      go_roundw
      case rel => exact ⟨k + 1, _, by omega, by go_num, rfl, hkr.trans hHeld⟩
      case measure => simp [intOf]; omega
    · obtain rfl : k = l.length := by omega
      go_wp2_with fail
      go_ret
      exact ⟨⟨_, rfl⟩, hkr⟩

theorem not_path_under {w : World} {v : Value} {l : List FileE} (h : TreeAt w v l) (d : ByteArray) (hd : d.size ≤ maxLen) (hn : (mayB l && pathB d) = false) :
    Calls Tryd.prog 27 #[v, .string d] w fun e w' => e = .returned (.tuple #[.slice none 0 0, .int .i64 2]) ∧ Kept (fun _ => False) w w' := by
  have mc := may_ct h
  have ip := fun w' => isPath_ct d w' hd
  obtain ⟨a, c, hv⟩ := h.slc
  subst hv
  generalize mayB l = m at mc hn
  generalize pathB d = p at ip hn
  cases m with
  | false =>
    go_enter Tryd.func27, Tryd.ntmps27
    go_wp2_with fail
    refine (mc).mono ?_
    rintro e W ⟨rfl, k1⟩
    go_wp2_with fail
    go_ret2
    exact ⟨rfl, k1⟩
  | true =>
    obtain rfl : p = false := by simpa using hn
    go_enter Tryd.func27, Tryd.ntmps27
    go_wp2_with fail
    refine (mc).mono ?_
    rintro e W ⟨rfl, k1⟩
    go_wp2_with fail
    refine (ip _).mono ?_
    rintro e W2 ⟨rfl, k2⟩
    go_wp2_with fail
    go_ret2
    exact ⟨rfl, k1.trans k2⟩

theorem pos_there {l : List FileE} {s : ByteArray} (h : thereB l s = true) : ∃ f, l[posL l s]? = some f ∧ f.path = s := by
  unfold thereB at h
  cases hf : l[posL l s]? with
  | none => rw [hf] at h; cases h
  | some f => rw [hf] at h; exact ⟨f, rfl, eqB_iff.1 h⟩
/-- What Get gives. -/
def GetIs (l : List FileE) (s : ByteArray) (w : World) (e : Ending) : Prop :=
  (∃ v f, (mayB l && thereB l s) = true ∧ l[posL l s]? = some f ∧ e = .returned (.tuple #[v, .bool true]) ∧ ByAt w v f.bytes) ∨ ((mayB l && thereB l s) = false ∧ e = .returned (.tuple #[.slice none 0 0, .bool false]))
/-- What With makes, if it may be. -/
def withL (l : List FileE) (s : ByteArray) (b : List UInt8) : List FileE := if thereB l s = true then l.set (posL l s) ⟨s, b⟩ else l.take (posL l s) ++ ⟨s, b⟩ :: l.drop (posL l s)
theorem PairsAt.ins {w : World} {ps : List (ByteArray × Value)} {l : List FileE} (h : PairsAt w ps l) (i : Nat) (hi : i ≤ l.length) {s : ByteArray} (hs : s.size ≤ maxLen) {x : Value} {b : List UInt8} (hx : ByAt w x b) : PairsAt w (ps.take i ++ (s, x) :: ps.drop i) (l.take i ++ ⟨s, b⟩ :: l.drop i) := by
  have hl := h.1
  refine ⟨by simp [hl], fun j f hf => ?_⟩
  have e1 : (ps.take i).length = i := by rw [List.length_take]; omega
  have e2 : (l.take i).length = i := by rw [List.length_take]; omega
  rcases Nat.lt_trichotomy j i with h1 | h1 | h1
  · rw [List.getElem?_append_left (by omega), List.getElem?_take_of_lt h1] at hf
    obtain ⟨p1, y, p2, p3⟩ := h.2 j f hf
    exact ⟨p1, y, by rw [List.getElem?_append_left (by omega), List.getElem?_take_of_lt h1]; exact p2, p3⟩
  · subst h1
    rw [List.getElem?_append_right (by omega), e2, Nat.sub_self] at hf
    injection hf with hf
    subst hf
    exact ⟨hs, x, by rw [List.getElem?_append_right (by omega), e1, Nat.sub_self]; rfl, hx⟩
  · obtain ⟨d, hd⟩ : ∃ d, j - i = d + 1 := ⟨j - i - 1, by omega⟩
    rw [List.getElem?_append_right (by omega), e2, hd, List.getElem?_cons_succ, List.getElem?_drop] at hf
    obtain ⟨p1, y, p2, p3⟩ := h.2 _ f hf
    exact ⟨p1, y, by rw [List.getElem?_append_right (by omega), e1, hd, List.getElem?_cons_succ, List.getElem?_drop]; exact p2, p3⟩
end Go.Proofs.YtfohljljoalmoaaDoor
