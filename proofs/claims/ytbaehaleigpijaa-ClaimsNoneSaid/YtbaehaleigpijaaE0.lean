/- A book that is not there, or was not made. -/
import Derived.Test.YtbaehaleigpijaaD2
namespace Go.Proofs.Ytbaehaleigpijaa
open Go.RowKit

def ZBook : Array Value := #[.int .i64 0, .int .u64 0, .int .i64 0, .int .i64 0, .int .u64 0, .map none, .map none, .map none]
theorem zeroBook (w : World) : (zeroValue 59).run Try.prog w = .ok (.agg ZBook) w := by kernel_rfl
/-- No book: nil, or one that was not made. -/
def NoBook (w : World) (p : Value) : Prop := p = .pointer none ∨ ∃ B, p = .pointer (some ⟨B, 0, none⟩) ∧ w.heap[B]? = some (.cells ZBook 59 (0, 0))
theorem NoBook.kept {w w' : World} {p : Value} (h : NoBook w p) (hk : Kept (fun _ => False) w w') : NoBook w' p := by
  rcases h with h | ⟨B, h1, h2⟩
  · exact .inl h
  · exact .inr ⟨B, h1, by rw [hk.block _ (Array.getElem?_eq_some_iff.1 h2).1 not_false]; exact h2⟩
theorem none_ct {w : World} {p : Value} (h : NoBook w p) : Calls Try.prog 22 #[p] w fun e w' => e = .returned (.bool true) ∧ w = w' := by
  rcases h with rfl | ⟨B, rfl, h2⟩
  · exact none_nil w
  · exact none_zero B w (by rw [cell_of_row _ _ _ _ _ _ h2]; rfl)

set_option maxHeartbeats 400000 in
theorem no_live {w : World} {p : Value} (h : NoBook w p) (D : Array Value) (now : Int) :
    Calls Try.prog 18 #[p, .agg D, .int .i64 now] w fun e w' => e = .returned (.tuple #[.int .i64 0, .bool false]) ∧ Kept (fun _ => False) w w' := by
  have hk : Kept (fun _ => False) w (w.alloc (.cells D 31)) := (Kept.refl _ w).alloc _
  have hn := none_ct (h.kept hk)
  go_enter Try.func18, Try.ntmps18
  go_wp2_with fail
  refine hn.mono ?_
  rintro e w' ⟨rfl, rfl⟩
  go_wp2_with fail
  go_ret2
  exact ⟨rfl, hk⟩
set_option maxHeartbeats 400000 in
theorem no_try {w : World} {p : Value} (h : NoBook w p) (D : Array Value) (now : Int) :
    Calls Try.prog 10 #[p, .agg D, .int .i64 now] w fun e w' => e = .returned (.tuple #[.slice none 0 0, .bool false]) ∧ Kept (fun _ => False) w w' := by
  have hk : Kept (fun _ => False) w (w.alloc (.cells D 31)) := (Kept.refl _ w).alloc _
  have hn := none_ct (h.kept hk)
  go_enter Try.func10, Try.ntmps10
  go_wp2_with fail
  refine hn.mono ?_
  rintro e w' ⟨rfl, rfl⟩
  go_wp2_with fail
  go_ret2
  exact ⟨rfl, hk⟩
set_option maxRecDepth 100000 in
set_option maxHeartbeats 400000 in
theorem no_hear {w : World} {p : Value} (h : NoBook w p) (C : Array Value) (now : Int) :
    Calls Try.prog 15 #[p, .agg C, .int .i64 now] w fun e w' => e = .returned (.tuple #[.slice none 0 0, .int .i64 1]) ∧ Kept (fun _ => False) w w' := by
  have hk : Kept (fun _ => False) w (w.alloc (.cells C 33)) := (Kept.refl _ w).alloc _
  have hn := none_ct (h.kept hk)
  go_enter Try.func15, Try.ntmps15
  go_wp2_with fail
  refine hn.mono ?_
  rintro e w' ⟨rfl, rfl⟩
  go_wp2_with fail
  go_ret2
  exact ⟨rfl, hk⟩
set_option maxHeartbeats 400000 in
theorem no_mine {w : World} {p : Value} (h : NoBook w p) (D : Array Value) :
    Calls Try.prog 20 #[p, .agg D] w fun e w' => e = .returned (.bool false) ∧ Kept (fun _ => False) w w' := by
  have hk : Kept (fun _ => False) w (w.alloc (.cells D 31)) := (Kept.refl _ w).alloc _
  have hn := none_ct (h.kept hk)
  go_enter Try.func20, Try.ntmps20
  go_wp2_with fail
  refine hn.mono ?_
  rintro e w' ⟨rfl, rfl⟩
  go_wp2_with fail
  go_ret
  exact ⟨rfl, hk⟩
set_option maxHeartbeats 400000 in
theorem no_drop {w : World} {p : Value} (h : NoBook w p) {D : Array Value} (hD : IsDig D) :
    Calls Try.prog 13 #[p, .agg D] w fun e w' => e = .returned (.slice none 0 0) ∧ Kept (fun _ => False) w w' := by
  have hk : Kept (fun _ => False) w (w.alloc (.cells D 31)) := (Kept.refl _ w).alloc _
  have hn := no_mine (h.kept hk) D
  have hl := load_dig hD (heap_last w (.cells D 31))
  go_enter Try.func13, Try.ntmps13
  go_wp2_with (first
    | (with_reducible refine wpl_load 31 _ rfl rfl ?_ hl ?_
       · rfl
       simp only [Act.put, List.getElem_toArray, List.getElem_cons_zero, List.getElem_cons_succ, List.setIfInBounds_toArray, List.set_cons_zero, List.set_cons_succ]))
  refine hn.mono ?_
  rintro e w' ⟨rfl, hq⟩
  go_wp2_with fail
  go_ret
  exact ⟨rfl, hk.trans hq⟩

theorem bslice_two (B : Nat) (w : World) : (Instr.buildSlice 60 2 #[(0, .pointer none), (1, .pointer (some ⟨B, 0, none⟩))]).run Try.prog w = .ok (.slice (some ⟨w.heap.size, 0, none⟩) 2 2) (w.alloc (.cells #[.pointer none, .pointer (some ⟨B, 0, none⟩)] 24)) := by kernel_rfl

set_option maxRecDepth 100000 in
set_option maxHeartbeats 4000000 in
theorem none_law (w : World) {D : Array Value} (hD : IsDig D) (n i c : Int) (g : Bool) (now : Int) :
    Calls Try.prog 5 #[.agg (clm D n i c g), .int .i64 now] w fun e w' => e = .returned (.bool true) ∧ Kept (fun _ => False) w w' := by
  have hz := zeroBook
  go_enter Try.func5, Try.ntmps5
  go_wp2_with (first
    | (with_reducible refine wpl_alloc 59 rfl rfl (hz _) ?_
       simp only [World.size_alloc, Act.put, List.getElem_toArray, List.getElem_cons_zero, List.getElem_cons_succ, List.setIfInBounds_toArray, List.set_cons_zero, List.set_cons_succ])
    | (with_reducible refine wpl_bslice 60 _ _ rfl rfl ?_ (bslice_two _ _) ?_
       · (go_simp <;> rfl)
       simp only [Act.put, List.getElem_toArray, List.getElem_cons_zero, List.getElem_cons_succ, List.setIfInBounds_toArray, List.set_cons_zero, List.set_cons_succ]))
  have hr : (((w.alloc (.cells (clm D n i c g) 33)).alloc (.cells ZBook 59)).alloc (.cells #[.pointer none, .pointer (some ⟨w.heap.size + 1, 0, none⟩)] 24)).heap[w.heap.size]? = some (.cells (clm D n i c g) 33) := by
    rw [Below.heap_alloc _ _ _ (by simp; omega), Below.heap_alloc _ _ _ (by simp)]; exact heap_last w _
  have hB : (((w.alloc (.cells (clm D n i c g) 33)).alloc (.cells ZBook 59)).alloc (.cells #[.pointer none, .pointer (some ⟨w.heap.size + 1, 0, none⟩)] 24)).heap[w.heap.size + 1]? = some (.cells ZBook 59) := by
    rw [Below.heap_alloc _ _ _ (by simp)]; exact heap_at (by simp)
  have hs : (((w.alloc (.cells (clm D n i c g) 33)).alloc (.cells ZBook 59)).alloc (.cells #[.pointer none, .pointer (some ⟨w.heap.size + 1, 0, none⟩)] 24)).heap[w.heap.size + 1 + 1]? = some (.cells #[.pointer none, .pointer (some ⟨w.heap.size + 1, 0, none⟩)] 24) := heap_at (by simp)
  have hk : Kept (fun _ => False) w (((w.alloc (.cells (clm D n i c g) 33)).alloc (.cells ZBook 59)).alloc (.cells #[.pointer none, .pointer (some ⟨w.heap.size + 1, 0, none⟩)] 24)) := (((Kept.refl _ w).alloc _).alloc _).alloc _
  generalize ((w.alloc (.cells (clm D n i c g) 33)).alloc (.cells ZBook 59)).alloc (.cells #[.pointer none, .pointer (some ⟨w.heap.size + 1, 0, none⟩)] 24) = W0 at hr hB hs hk ⊢
  generalize w.heap.size + 1 + 1 = r at hs ⊢
  generalize w.heap.size + 1 = B at hB hs ⊢
  have lr := (Array.getElem?_eq_some_iff.1 hr).1
  have ls := (Array.getElem?_eq_some_iff.1 hs).1
  have e0 : ((0 : Int) != 0) = false := rfl
  have e1 : ((1 : Int) != 1) = false := rfl
  go_loopw [18] (fun x wr => ∃ k : Nat, k ≤ 2 ∧ x = .int .i64 k ∧ Kept (fun _ => False) W0 wr) (fun x _ => 2 - (intOf x).toNat)
  case atStart => exact ⟨0, by omega, rfl, Kept.refl _ _⟩
  case round =>
    obtain ⟨k, hk2, rfl, hkr⟩ := hrel
    have hwr : Kept (fun _ => False) w wr := hk.trans hkr
    by_cases hlt : k < 2
    · obtain ⟨v, hv, hnb⟩ : ∃ v, wr.cell? ⟨r, k, none⟩ = some v ∧ NoBook wr v := by
        have hsr := (hkr.block _ ls not_false).trans hs
        rcases (by omega : k = 0 ∨ k = 1) with rfl | rfl
        · exact ⟨.pointer none, by rw [cell_of_row _ _ _ _ _ _ hsr]; rfl, .inl rfl⟩
        · exact ⟨.pointer (some ⟨B, 0, none⟩), by rw [cell_of_row _ _ _ _ _ _ hsr]; rfl, .inr ⟨B, rfl, (hkr.block _ (Array.getElem?_eq_some_iff.1 hB).1 not_false).trans hB⟩⟩
      have lw : ∀ {w'}, Kept (fun _ => False) wr w' → w'.heap[w.heap.size]? = some (.cells (clm D n i c g) 33) := fun q => ((hkr.trans q).block _ lr not_false).trans hr
      have l0 := load_dig_mid hD (lw (Kept.refl _ _))
      go_wp2_with (first
        | (with_reducible refine wpl_load 31 _ rfl rfl ?_ l0 ?_
           · rfl
           simp only [Act.put, List.getElem_toArray, List.getElem_cons_zero, List.getElem_cons_succ, List.setIfInBounds_toArray, List.set_cons_zero, List.set_cons_succ]))
      refine (no_try hnb D now).mono ?_
      rintro e w1 ⟨rfl, q1⟩
      have l1 := load_clm (clm_size hD n i c g) (lw q1)
      clear l0
      go_wp2_with (first
        | (with_reducible refine wpl_load 33 _ rfl rfl ?_ l1 ?_
           · rfl
           simp only [Act.put, List.getElem_toArray, List.getElem_cons_zero, List.getElem_cons_succ, List.setIfInBounds_toArray, List.set_cons_zero, List.set_cons_succ]))
      refine (no_hear (hnb.kept q1) _ now).mono ?_
      rintro e w2 ⟨rfl, q2⟩
      have l2 := load_dig_mid hD (lw (q1.trans q2))
      clear l1
      go_wp2_with (first
        | (with_reducible refine wpl_load 31 _ rfl rfl ?_ l2 ?_
           · rfl
           simp only [Act.put, List.getElem_toArray, List.getElem_cons_zero, List.getElem_cons_succ, List.setIfInBounds_toArray, List.set_cons_zero, List.set_cons_succ]))
      refine (no_live (hnb.kept (q1.trans q2)) D now).mono ?_
      rintro e w3 ⟨rfl, q3⟩
      have l3 := load_dig_mid hD (lw ((q1.trans q2).trans q3))
      clear l2
      go_wp2_with (first
        | (with_reducible refine wpl_load 31 _ rfl rfl ?_ l3 ?_
           · rfl
           simp only [Act.put, List.getElem_toArray, List.getElem_cons_zero, List.getElem_cons_succ, List.setIfInBounds_toArray, List.set_cons_zero, List.set_cons_succ]))
      refine (no_drop (hnb.kept ((q1.trans q2).trans q3)) hD).mono ?_
      rintro e w4 ⟨rfl, q4⟩
      have q14 := ((q1.trans q2).trans q3).trans q4
      have l4 := load_dig_mid hD (lw q14)
      clear l3
      go_wp2_with (first
        | (with_reducible refine wpl_load_g 31 _ ?_ rfl ?_ l4 ?_
           · rfl
           · rfl
           simp only [Act.put, List.getElem_toArray, List.getElem_cons_zero, List.getElem_cons_succ, List.setIfInBounds_toArray, List.set_cons_zero, List.set_cons_succ]))
      refine (no_mine (hnb.kept q14) D).mono ?_
      rintro e w5 ⟨rfl, q5⟩
      clear l4
      go_wp2_with fail
      go_roundw
      case rel => exact ⟨k + 1, by omega, by go_num, hkr.trans (q14.trans q5)⟩
      case measure => simp [intOf]; omega
    · have hk22 : 2 ≤ k := by omega
      go_wp2_with fail
      refine (known_ct _).mono ?_
      rintro e w' ⟨rfl, hq⟩
      go_wp2_with fail
      go_ret
      exact ⟨rfl, hwr.trans hq⟩
end Go.Proofs.Ytbaehaleigpijaa
