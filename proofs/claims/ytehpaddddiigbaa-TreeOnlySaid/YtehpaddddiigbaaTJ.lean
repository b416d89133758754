/- TreeOnly's walk. -/
import Derived.Test.YtehpaddddiigbaaTI
namespace Go.Proofs.Ytehpaddddiigbaa
open Go.RowKit
set_option linter.unusedSimpArgs false
set_option linter.unusedVariables false

theorem ByC.own {w : World} {base n : Nat} {v : Value} {l : List UInt8} (h : w.ownsRow base 5 1 v n (bv l)) : ByC w v l := by
  refine ⟨ByAt.own h, ?_⟩
  have h0 := h.1
  rw [bv_len, Nat.mul_one] at h0
  subst h0
  rcases h.2 with ⟨rfl, h0⟩ | ⟨g, cap, cur, rfl, _, _, hn, _⟩
  · exact ⟨none, 0, by rw [h0], by omega⟩
  · exact ⟨_, cap, rfl, hn⟩
theorem bslice_b1 (m : Int) (w : World) : (Instr.buildSlice 25 1 #[(0, .int .u8 m)]).run Try.prog w = .ok (.slice (some ⟨w.heap.size, 0, none⟩) 1 1) (w.alloc (.cells #[.int .u8 m] 5)) := by kernel_rfl
theorem byt1 {w : World} {g c : Nat} {b : UInt8} {t : TypeId} {fr : Nat × Nat} (h : w.heap[g]? = some (.cells #[.int .u8 b.toNat] t fr)) : ByAt w (.slice (some ⟨g, 0, none⟩) 1 c) [b] :=
  ⟨_, c, rfl, by simp [maxLen], fun _ => ⟨g, 0, rfl, (Array.getElem?_eq_some_iff.1 h).1, fun i u hu => by
    rw [cell_of_row _ _ _ _ _ _ h, ← hu]
    simp [bv]⟩⟩

set_option maxRecDepth 100000 in
set_option maxHeartbeats 4000000 in
theorem only_law {w : World} {v : Value} {l : List UInt8} (h : ByC w v l) (b : UInt8) :
    Calls Try.prog 5 #[v, .int .u8 b.toNat] w fun e w' => e = .returned (.bool true) ∧ Kept (fun _ => False) w w' := by
  have hml : l.length ≤ maxLen := by obtain ⟨⟨_, _, _, h2, _⟩, _⟩ := h; exact h2
  simp only [maxLen] at hml
  by_cases h6 : 6000 < l.length
  · have d6 : decide ((6000 : Int) < (l.length : Int)) = true := decide_eq_true (by omega)
    obtain ⟨_, a, c, hv, _⟩ := h
    subst hv
    go_enter Try.func5, Try.ntmps5
    go_wp2_with fail
    refine (known_ct w).mono ?_
    rintro e W ⟨rfl, k⟩
    go_wp2_with fail
    go_ret
    exact ⟨rfl, k⟩
  have d6 : decide ((6000 : Int) < (l.length : Int)) = false := decide_eq_false (by omega)
  have rc := read_ct h (by omega)
  have h0 := h
  obtain ⟨_, a, c, hv, _⟩ := h0
  subst hv
  cases hr : readS l with
  | none =>
    rw [hr] at rc
    unfold ReadOut at rc
    dsimp only at rc
    go_enter Try.func5, Try.ntmps5
    go_wp2_with fail
    refine rc.mono ?_
    rintro e W ⟨k1, rfl⟩
    go_wp2_with fail
    refine (known_ct W).mono ?_
    rintro e W2 ⟨rfl, k2⟩
    go_wp2_with fail
    go_ret
    exact ⟨rfl, k1.trans k2⟩
  | some fs =>
    obtain ⟨hraw, hm⟩ := readS_raw hr
    have hext := readS_ext hr (s := [b]) (by simp)
    have hless := readS_less hr
    have hne := readS_ne hr
    have hlp := List.length_pos_iff.2 hne
    have hi := mayIs hm
    rw [hr] at rc
    unfold ReadOut at rc
    dsimp only at rc
    go_enter Try.func5, Try.ntmps5
    go_wp2_with fail
    refine rc.mono ?_
    rintro e W1 ⟨k1, x, rfl, ht⟩
    obtain ⟨ax, cx, hx⟩ := ht.slc
    subst hx
    have bc := bytes_ct ht hm (fun f hf => ⟨(hi.file f hf).2.1, (hi.file f hf).2.2⟩) hi.len
    rw [hraw] at bc
    clear rc
    go_wp2_with fail
    refine bc.mono ?_
    rintro e W2 ⟨v2, rfl, h2, k2⟩
    obtain ⟨a2, c2, hv2⟩ := h2.slc
    subst hv2
    have kk2 := k1.trans k2
    have b0 := bslice_b0 W2
    have k3 : Kept (fun _ => False) W2 (W2.alloc (.cells #[] 5)) := (Kept.refl _ W2).alloc _
    have ho3 : (W2.alloc (.cells #[] 5)).ownsRow W2.heap.size 5 1 (.slice (some ⟨W2.heap.size, 0, none⟩) 0 0) 0 [] := World.ownsRow_made W2 #[] 0 (Nat.le_refl _) (Nat.zero_le _) rfl
    generalize W2.alloc (.cells #[] 5) = W3 at b0 k3 ho3
    obtain ⟨v4, W4, ap4, ho4, hg4⟩ := app_by ho3 ((h.1.kept kk2).kept k3) (by omega) k3.size 25
    have k4 : Kept (fun _ => False) W2 W4 := grown_kept k3 hg4 (fun k e => (World.ownsRow.lt ho3 k e).1)
    rw [Nat.zero_add] at ho4
    obtain ⟨a4, c4, hv4⟩ := row_form ho4
    subst hv4
    have b5 := bslice_b1 b.toNat W4
    have k5 : Kept (fun _ => False) W4 (W4.alloc (.cells #[.int .u8 b.toNat] 5)) := (Kept.refl _ W4).alloc _
    have h5 := heap_last W4 (.cells #[.int .u8 b.toNat] 5)
    generalize W4.alloc (.cells #[.int .u8 b.toNat] 5) = W5 at b5 k5 h5
    obtain ⟨v6, W6, ap6, ho6, hg6⟩ := app_by (row_kept ho4 k5) (byt1 (c := 1) h5) (by simp; omega) (Nat.le_trans k4.size k5.size) 25
    have k6 : Kept (fun _ => False) W2 W6 := grown_kept (k4.trans k5) hg6 (fun k e => (World.ownsRow.lt ho4 k e).1)
    rw [List.nil_append, ← bv_app, List.length_singleton] at ho6
    have hc6 := ByC.own ho6
    obtain ⟨a6, c6, hv6⟩ := row_form ho6
    subst hv6
    have rc6 := read_ct hc6 (by simp; omega)
    rw [hext] at rc6
    unfold ReadOut at rc6
    dsimp only at rc6
    clear bc ho3 ho4 hg4 hg6 h5 k3 k4 k5 ho6
    go_wp2_with (first
      | (with_reducible refine wpl_bslice 25 _ _ rfl rfl ?_ b0 ?_
         · (go_simp <;> rfl)
         simp only [Act.put, List.getElem_toArray, List.getElem_cons_zero, List.getElem_cons_succ, List.setIfInBounds_toArray, List.set_cons_zero, List.set_cons_succ])
      | (refine wpl_val rfl (exec_append 25 _ _ rfl rfl rfl ap4) ?_)
      | (with_reducible refine wpl_bslice 25 _ _ rfl rfl ?_ b5 ?_
         · (go_simp <;> rfl)
         simp only [Act.put, List.getElem_toArray, List.getElem_cons_zero, List.getElem_cons_succ, List.setIfInBounds_toArray, List.set_cons_zero, List.set_cons_succ])
      | (refine wpl_val rfl (exec_append 25 _ _ rfl rfl rfl ap6) ?_))
    refine rc6.mono ?_
    rintro e W7 ⟨k7, rfl⟩
    have kk7 := (kk2.trans k6).trans k7
    have cc := conv_str (h2.kept (k6.trans k7))
    have cb := conv_str (h.1.kept kk7)
    have en : ((⟨l.toArray⟩ : ByteArray).toList != (⟨l.toArray⟩ : ByteArray).toList) = false := by simp
    have e0 : ((l.length : Int) == 0) = false := by simp; omega
    obtain ⟨a8, c8, s8, h8⟩ := (h.kept kk7).take (i := l.length - 1) (by omega)
    obtain ⟨z, hz⟩ : ∃ z : Int, z = ((l.length - 1 : Nat) : Int) := ⟨_, rfl⟩
    rw [← hz] at s8
    have wz : IntKind.i64.wrap ((l.length : Int) - 1) = z := by rw [IntWalk.i64_in _ (by omega)]; omega
    have rc8 := read_ct h8 (by simp; omega)
    rw [hless] at rc8
    unfold ReadOut at rc8
    dsimp only at rc8
    generalize (⟨l.toArray⟩ : ByteArray) = S at cc cb en
    clear rc6 hz
    go_wp2_with fail
    refine rc8.mono ?_
    rintro e W8 ⟨k8, rfl⟩
    go_wp2_with fail
    refine (known_ct W8).mono ?_
    rintro e W9 ⟨rfl, k9⟩
    go_wp2_with fail
    go_ret
    exact ⟨rfl, (kk7.trans k8).trans k9⟩
end Go.Proofs.Ytehpaddddiigbaa
