/- TreeReads' walk. -/
import Derived.Test.YtehpaddddiigbaaTT
import Derived.Test.YtehpaddddiigbaaTO
namespace Go.Proofs.Ytehpaddddiigbaa
open Go.RowKit
set_option linter.unusedSimpArgs false
set_option linter.unusedVariables false

theorem ByC.own {w : World} {base n : Nat} {v : Value} {l : List UInt8} (h : w.ownsRow base 5 1 v n (bv l)) : ByC w v l := by
  refine ⟨ByAt.own h, ?_⟩
  have h0 := h.1
  rw [bv_len, Nat.mul_one] at h0
  subst h0
  rcases h.2 with ⟨rfl, h0⟩ | ⟨g, cap, cur, rfl, _, _, hn, _⟩
  · exact ⟨none, 0, by rw [h0], by omega⟩
  · exact ⟨_, cap, rfl, hn⟩
theorem eqF_refl (f : FileE) : eqF f f = true := by unfold eqF; simp
theorem sameTo_refl (l : List FileE) : ∀ k, k ≤ l.length → sameTo l l k = true
  | 0, _ => rfl
  | k + 1, h => by
    unfold sameTo
    rw [sameTo_refl l k (by omega), List.getElem?_eq_getElem (by omega)]
    simp [eqF_refl]
theorem sameB_refl (l : List FileE) : sameB l l = true := by unfold sameB; rw [sameTo_refl l _ (Nat.le_refl _)]; simp
/-- A copy of bytes of the call's own. -/
theorem copy_by {w w0 : World} {v : Value} {l : List UInt8} (h : ByAt w v l) (hn : l.length ≤ 1000000) (hk : Kept (fun _ => False) w0 w) (ty : TypeId) :
    ∃ W1 a' c' w', (Instr.buildSlice 25 0 #[]).run Try.prog w = .ok (.slice (some ⟨w.heap.size, 0, none⟩) 0 0) W1 ∧
      (Builtin.append_ #[25, 25] ty #[.slice (some ⟨w.heap.size, 0, none⟩) 0 0, v]).run Try.prog W1 = .ok (.slice a' l.length c') w' ∧ w'.ownsRow w.heap.size 5 1 (.slice a' l.length c') l.length (bv l) ∧ Kept (fun _ => False) w0 w' := by
  have k1 : Kept (fun _ => False) w (w.alloc (.cells #[] 5)) := (Kept.refl _ w).alloc _
  have ho : (w.alloc (.cells #[] 5)).ownsRow w.heap.size 5 1 (.slice (some ⟨w.heap.size, 0, none⟩) 0 0) ([] : List UInt8).length (bv []) := World.ownsRow_made w #[] 0 (Nat.le_refl _) (Nat.zero_le _) rfl
  obtain ⟨a', c', ys, w', hys, ap, ho', k'⟩ := app_by2 ho (h.kept k1) (by simpa using hn) (hk.trans k1) hk.size k1.size ty
  rw [List.nil_append] at hys
  subst hys
  exact ⟨_, a', c', w', bslice_b0 w, ap, ho', k'⟩

set_option maxRecDepth 100000 in
set_option maxHeartbeats 4000000 in
theorem reads_law {w : World} {v : Value} {l : List UInt8} (h : ByAt w v l) (s : ByteArray) (hs : s.size ≤ maxLen) :
    Calls Try.prog 4 #[v, .string s] w fun e w' => e = .returned (.bool true) ∧ Kept (fun _ => False) w w' := by
  have hml : l.length ≤ maxLen := by obtain ⟨_, _, _, h2, _⟩ := h; exact h2
  have hs2 := hs
  simp only [maxLen] at hml hs2
  obtain ⟨a, c, hv⟩ := h.slc
  subst hv
  by_cases h6 : 6000 < l.length
  · have d6 : decide ((6000 : Int) < (l.length : Int)) = true := decide_eq_true (by omega)
    go_enter Try.func4, Try.ntmps4
    go_wp2_with fail
    refine (known_ct w).mono ?_
    rintro e W ⟨rfl, k⟩
    go_wp2_with fail
    go_ret
    exact ⟨rfl, k⟩
  have d6 : decide ((6000 : Int) < (l.length : Int)) = false := decide_eq_false (by omega)
  by_cases h7 : 1000 < s.size
  · have d7 : decide ((1000 : Int) < (s.size : Int)) = true := decide_eq_true (by omega)
    go_enter Try.func4, Try.ntmps4
    go_wp2_with fail
    refine (known_ct w).mono ?_
    rintro e W ⟨rfl, k⟩
    go_wp2_with fail
    go_ret
    exact ⟨rfl, k⟩
  have d7 : decide ((1000 : Int) < (s.size : Int)) = false := decide_eq_false (by omega)
  obtain ⟨W1, a2, c2, W2, b1, ap2, ho2, k2⟩ := copy_by h (by omega) (Kept.refl _ w) 25
  have hin := ByC.own ho2
  have rc := read_ct hin (by omega)
  have ip := fun w' => isPath_ct s w' hs
  have iq := fun w' => rIsPath_ct s w' hs
  generalize pathB s = pb at ip iq
  have ep : (pb == pb) = true := by simp
  go_enter Try.func4, Try.ntmps4
  go_wp2_with (first
    | (with_reducible refine wpl_bslice 25 _ _ rfl rfl ?_ b1 ?_
       · (go_simp <;> rfl)
       simp only [Act.put, List.getElem_toArray, List.getElem_cons_zero, List.getElem_cons_succ, List.setIfInBounds_toArray, List.set_cons_zero, List.set_cons_succ])
    | (refine wpl_val rfl (exec_append 25 _ _ rfl rfl rfl ap2) ?_))
  refine rc.mono ?_
  rintro e W3 ⟨k3, h3⟩
  have hW3 := k2.trans k3
  have rr := rRead_ct (h.kept hW3) (by omega)
  have key : ∃ (fs : List FileE) (t : Value) (x : Int), TreeAt W3 t fs ∧ e = .returned (.tuple #[t, .int .i64 x]) ∧ (∀ e' w', ReadOut W3 (readS l) e' w' → Kept (fun _ => False) W3 w' ∧ ∃ u, TreeAt w' u fs ∧ e' = .returned (.tuple #[u, .int .i64 x])) := by
    cases hr : readS l with
    | none =>
      rw [hr] at h3
      exact ⟨[], _, 5, TreeAt.nil _ 0, h3, fun e' w' ⟨k, hh⟩ => ⟨k, _, TreeAt.nil _ 0, hh⟩⟩
    | some fs =>
      rw [hr] at h3
      obtain ⟨x, rfl, ht⟩ := h3
      exact ⟨fs, x, 0, ht, rfl, fun e' w' ⟨k, x, hh, ht⟩ => ⟨k, x, ht, hh⟩⟩
  obtain ⟨fs, t, x, ht, rfl, hq⟩ := key
  obtain ⟨at1, ct1, hvt⟩ := ht.slc
  subst hvt
  have rr2 := rr.mono hq
  clear h3 rc rr hq
  go_wp2_with fail
  refine rr2.mono ?_
  rintro e W4 ⟨k4, u, hu, rfl⟩
  obtain ⟨at2, ct2, hvu⟩ := hu.slc
  subst hvu
  have sc := rSame_ct (ht.kept k4) hu
  rw [sameB_refl] at sc
  have ex : (x == x) = true := by simp
  clear rr2
  go_wp2_with fail
  refine sc.mono ?_
  rintro e W5 ⟨rfl, k5⟩
  have hW5 := (hW3.trans k4).trans k5
  have cin := conv_str (hin.1.kept ((k3.trans k4).trans k5))
  have cb := conv_str (h.kept hW5)
  have el : (l == l) = true := by simp
  clear sc
  go_wp2_with fail
  refine (ip W5).mono ?_
  rintro e W6 ⟨rfl, k6⟩
  go_wp2_with fail
  refine (iq W6).mono ?_
  rintro e W7 ⟨rfl, hW7⟩
  subst hW7
  go_wp2_with fail
  refine (known_ct W7).mono ?_
  rintro e W8 ⟨rfl, k8⟩
  go_wp2_with fail
  go_ret
  exact ⟨rfl, (hW5.trans k6).trans k8⟩
end Go.Proofs.Ytehpaddddiigbaa
