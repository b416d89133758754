/- Trees in memory of a call's own, that may be written over. -/
import Derived.Test.YthachckofghppaaDoorUE
namespace Go.Proofs.YthachckofghppaaDoor
open Go.RowKit
set_option maxRecDepth 100000
set_option linter.unusedSimpArgs false
set_option linter.unusedVariables false

/-- A slice of n bytes in memory made at base or later. -/
def OwnBy (base : Nat) (w : World) (x : Value) (n : Nat) : Prop := ∃ l : List UInt8, w.ownsRow base 5 1 x n (bv l)
theorem OwnBy.kept {base : Nat} {w w' : World} {x : Value} {n : Nat} (h : OwnBy base w x n) (hk : Kept (fun _ => False) w w') : OwnBy base w' x n := by
  obtain ⟨l, h⟩ := h
  exact ⟨l, row_kept h hk⟩
theorem OwnBy.slc {base : Nat} {w : World} {x : Value} {n : Nat} (h : OwnBy base w x n) : ∃ a c, x = .slice a n c := by obtain ⟨l, h⟩ := h; exact row_form h
theorem OwnBy.low {base b2 : Nat} {w : World} {x : Value} {n : Nat} (h : OwnBy base w x n) (hb : b2 ≤ base) : OwnBy b2 w x n := by
  obtain ⟨l, h1, h2⟩ := h
  refine ⟨l, h1, ?_⟩
  rcases h2 with h2 | ⟨g, cap, cur, q1, q2, q3⟩
  · exact .inl h2
  · exact .inr ⟨g, cap, cur, q1, Nat.le_trans hb q2, q3⟩
/-- A cell of another kind of block is written. -/
theorem OwnBy.other {base : Nat} {w : World} {x : Value} {n : Nat} (h : OwnBy base w x n) {g j : Nat} {C : Array Value} {t : TypeId} {fr : Nat × Nat} (hg : w.heap[g]? = some (.cells C t fr)) (ht : t ≠ 5) (v : Value) : OwnBy base (w.setCell ⟨g, j, none⟩ v) x n := by
  obtain ⟨l, h1, h2⟩ := h
  refine ⟨l, h1, ?_⟩
  rcases h2 with h2 | ⟨g', cap, cur, q1, q2, q3, q4⟩
  · exact .inl h2
  · refine .inr ⟨g', cap, cur, q1, q2, ?_, q4⟩
    rw [Below.heap_setCell _ _ _ _ (fun e => by
      have e : g' = g := e
      subst e
      rw [hg] at q3
      injection q3 with q3
      injection q3 with _ q3 _
      exact ht q3)]
    exact q3
theorem bv_set (l : List UInt8) (j : Nat) (u : UInt8) : bv (l.set j u) = (bv l).set j (.int .u8 u.toNat) := by unfold bv; rw [List.map_set]
/-- A byte is written. -/
theorem OwnBy.poke {base : Nat} {w : World} {x : Value} {n : Nat} (h : OwnBy base w x n) {g j : Nat} {C : Array Value} (hg : w.heap[g]? = some (.cells C 5 (0, 0))) (u : UInt8) : OwnBy base (w.setCell ⟨g, j, none⟩ (.int .u8 u.toNat)) x n := by
  obtain ⟨l, h1, h2⟩ := h
  rcases h2 with h2 | ⟨g', cap, cur, q1, q2, q3, q4, q5, q6, q7⟩
  · exact ⟨l, h1, .inl h2⟩
  · by_cases e : g' = g
    · subst e
      refine ⟨l.set j u, by rw [bv_set, List.length_set]; exact h1, .inr ⟨g', cap, _, q1, q2, heap_setCell_same q3 _, q4, q5, by rw [Array.size_setIfInBounds]; exact q6, ?_⟩⟩
      rw [Array.toList_setIfInBounds, List.take_set, q7, bv_set]
    · exact ⟨l, h1, .inr ⟨g', cap, cur, q1, q2, by rw [Below.heap_setCell _ _ _ _ e]; exact q3, q4, q5, q6, q7⟩⟩
def OwnT (base : Nat) (w : World) (v : Value) (n : Nat) : Prop := ∃ ps : List (ByteArray × Value), ps.length = n ∧ w.ownsRow base 33 2 v n (prs ps) ∧ ∀ p ∈ ps, ∃ m, OwnBy base w p.2 m
theorem OwnT.kept {base : Nat} {w w' : World} {v : Value} {n : Nat} (h : OwnT base w v n) (hk : Kept (fun _ => False) w w') : OwnT base w' v n := by
  obtain ⟨ps, h1, h2, h3⟩ := h
  exact ⟨ps, h1, row_kept h2 hk, fun p hp => by obtain ⟨m, q⟩ := h3 p hp; exact ⟨m, q.kept hk⟩⟩
theorem OwnT.low {base b2 : Nat} {w : World} {v : Value} {n : Nat} (h : OwnT base w v n) (hb : b2 ≤ base) : OwnT b2 w v n := by
  obtain ⟨ps, h1, ⟨h0, h2⟩, h3⟩ := h
  refine ⟨ps, h1, ⟨h0, ?_⟩, fun p hp => by obtain ⟨m, q⟩ := h3 p hp; exact ⟨m, q.low hb⟩⟩
  rcases h2 with h2 | ⟨g, cap, cur, q1, q2, q3⟩
  · exact .inl h2
  · exact .inr ⟨g, cap, cur, q1, Nat.le_trans hb q2, q3⟩
theorem OwnT.nil (base : Nat) (w : World) : OwnT base w (.slice none 0 0) 0 := ⟨[], rfl, World.ownsRow_nil _ _ _ _, fun p hp => by simp at hp⟩
theorem OwnT.poke {base : Nat} {w : World} {v : Value} {n : Nat} (h : OwnT base w v n) {g j : Nat} {C : Array Value} (hg : w.heap[g]? = some (.cells C 5 (0, 0))) (u : UInt8) : OwnT base (w.setCell ⟨g, j, none⟩ (.int .u8 u.toNat)) v n := by
  obtain ⟨ps, h1, ⟨h0, h2⟩, h3⟩ := h
  refine ⟨ps, h1, ⟨h0, ?_⟩, fun p hp => by obtain ⟨m, q⟩ := h3 p hp; exact ⟨m, q.poke hg u⟩⟩
  rcases h2 with h2 | ⟨g', cap, cur, q1, q2, q3, q4⟩
  · exact .inl h2
  · refine .inr ⟨g', cap, cur, q1, q2, ?_, q4⟩
    rw [Below.heap_setCell _ _ _ _ (fun e => by
      have e : g' = g := e
      subst e
      rw [hg] at q3
      injection q3 with q3
      injection q3 with _ q3 _
      exact absurd q3 (by decide))]
    exact q3
end Go.Proofs.YthachckofghppaaDoor
