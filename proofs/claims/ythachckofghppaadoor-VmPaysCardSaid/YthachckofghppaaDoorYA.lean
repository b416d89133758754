/- Rows in memory (picked out of JE). -/
import Derived.Test.YthachckofghppaaDoorTC
namespace Go.Proofs.YthachckofghppaaDoor
open Go.RowKit
set_option maxRecDepth 100000
set_option linter.unusedSimpArgs false
set_option linter.unusedVariables false

def allTo (p : Nat → Bool) : Nat → Bool
  | 0 => true
  | k + 1 => allTo p k && p k
theorem allTo_iff {p : Nat → Bool} : ∀ {n : Nat}, allTo p n = true ↔ ∀ i, i < n → p i = true
  | 0 => by simp [allTo]
  | n + 1 => by
    unfold allTo
    rw [Bool.and_eq_true, allTo_iff]
    constructor
    · rintro ⟨h1, h2⟩ i hi
      rcases Nat.lt_or_ge i n with q | q
      · exact h1 i q
      · rw [show i = n by omega]; exact h2
    · exact fun h => ⟨fun i hi => h i (by omega), h n (by omega)⟩
theorem allTo_no {p : Nat → Bool} {i n : Nat} (h : p i = false) (hi : i < n) : allTo p n = false := by
  rw [Bool.eq_false_iff]
  intro q
  rw [allTo_iff.1 q i hi] at h; cases h
/-- A row whose j-th element is these cells, z of them. -/
def RowAt (w : World) (z : Nat) (v : Value) (cs : List (List Value)) : Prop :=
  ∃ (a : Option Addr) (cap : Nat), v = .slice a cs.length cap ∧ cs.length ≤ cap ∧ cs.length ≤ maxLen ∧ (cs ≠ [] → ∃ b o, a = some ⟨b, o, none⟩ ∧ b < w.heap.size ∧ ∀ (j : Nat) xs, cs[j]? = some xs → w.rangeAt b (o + j * z) xs)
theorem RowAt.kept {w w' : World} {z : Nat} {v : Value} {cs : List (List Value)} (h : RowAt w z v cs) (hk : Kept (fun _ => False) w w') : RowAt w' z v cs := by
  obtain ⟨a, cap, h1, h2, h3, h4⟩ := h
  refine ⟨a, cap, h1, h2, h3, fun hl => ?_⟩
  obtain ⟨b, o, e, hb, hr⟩ := h4 hl
  exact ⟨b, o, e, Nat.lt_of_lt_of_le hb hk.size, fun j xs hj => rangeAt_stay hk hb not_false (hr j xs hj)⟩
theorem RowAt.slc {w : World} {z : Nat} {v : Value} {cs : List (List Value)} (h : RowAt w z v cs) : ∃ a c, v = .slice a cs.length c ∧ cs.length ≤ c ∧ cs.length ≤ maxLen := by obtain ⟨a, c, h, h2, h3, _⟩ := h; exact ⟨a, c, h, h2, h3⟩
theorem RowAt.elem {w : World} {z : Nat} {a : Option Addr} {n c : Nat} {cs : List (List Value)} (h : RowAt w z (.slice a n c) cs) {j : Nat} {xs : List Value} (hj : cs[j]? = some xs) :
    ∃ b o, a = some ⟨b, o, none⟩ ∧ b < w.heap.size ∧ w.rangeAt b (o + j * z) xs := by
  obtain ⟨a', c', e, _, _, h3⟩ := h
  injection e with e1 _ _
  subst e1
  obtain ⟨b, o, e, hb, hr⟩ := h3 (fun e => by subst e; simp at hj)
  exact ⟨b, o, e, hb, hr j xs hj⟩
theorem RowAt.take {w : World} {z : Nat} {a : Option Addr} {n c : Nat} {cs : List (List Value)} (h : RowAt w z (.slice a n c) cs) {i : Nat} (hi : i ≤ cs.length) : RowAt w z (.slice a i c) (cs.take i) := by
  obtain ⟨a', c', e, h1, h2, h3⟩ := h
  injection e with e1 e2 e3
  subst e1; subst e3
  have hl : (cs.take i).length = i := by rw [List.length_take]; omega
  refine ⟨a, c, by rw [hl], by omega, by omega, fun hne => ?_⟩
  obtain ⟨b, o, e, hb, hr⟩ := h3 (fun e => by subst e; simp at hne)
  refine ⟨b, o, e, hb, fun j xs hj => hr j xs ?_⟩
  have : j < i := by have := (List.getElem?_eq_some_iff.1 hj).1; omega
  rw [← hj, List.getElem?_take, if_pos this]
theorem RowAt.nil (w : World) (z n : Nat) : RowAt w z (.slice none 0 n) [] := ⟨none, n, rfl, Nat.zero_le _, Nat.zero_le _, fun h => absurd rfl h⟩
end Go.Proofs.YthachckofghppaaDoor
