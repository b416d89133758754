/- The stable sort: what symMerge's steps come to, in plain Lean. -/
import Derived.Test.YtfohljljoalmoaaDoorVB
namespace Go.Proofs.YtfohljljoalmoaaDoor
open Go.RowKit Go.Sort
set_option maxRecDepth 100000
set_option linter.unusedSimpArgs false
set_option linter.unusedVariables false

theorem ltE_asymm {x y : E} (h : ltE x y = true) : ltE y x = false := ltB_asymm h
theorem srt_le {d : Array E} {a b i j : Nat} (h : SortedIn ltE a b d) (h1 : a ≤ i) (h2 : i ≤ j) (h3 : j < b) : ltE d[j]! d[i]! = false := by
  rcases Nat.lt_or_eq_of_le h2 with e | e
  · exact h i j h1 e h3
  · subst e; exact swoE.irrefl _
theorem sorted_join {d : Array E} {a mid b : Nat} (h1 : SortedIn ltE a mid d) (h2 : SortedIn ltE mid b d) (hc : ∀ i j, a ≤ i → i < mid → mid ≤ j → j < b → ltE d[j]! d[i]! = false) : SortedIn ltE a b d := by
  intro i j hi hij hj
  by_cases e1 : j < mid
  · exact h1 i j hi hij e1
  · by_cases e2 : i < mid
    · exact hc i j hi e2 (by omega) hj
    · exact h2 i j (by omega) hij hj
theorem sorted_of {d D : Array E} {a b a' b' s : Nat} (h : SortedIn ltE a' b' d) (hD : ∀ t, a ≤ t → t < b → ∃ t', D[t]! = d[t']! ∧ t + s = t' + a ∧ a' ≤ t' ∧ t' < b') : SortedIn ltE a b D := by
  intro i j hi hij hj
  obtain ⟨i', e1, q1, q2, q3⟩ := hD i hi (by omega)
  obtain ⟨j', e2, q4, q5, q6⟩ := hD j (by omega) hj
  rw [e1, e2]
  exact h i' j' q2 (by omega) q6
def rotD (d : Array E) (m st en mid t : Nat) : E := if t < st then d[t]! else if t < mid then d[t + (m - st)]! else if t < en then d[t - (en - m)]! else d[t]!
def Cross (a mid b : Nat) (d : Array E) : Prop := ∀ i j, a ≤ i → i < mid → mid ≤ j → j < b → ltE d[j]! d[i]! = false
theorem sym_parts {d D : Array E} {a m b st en mid : Nat} (s1 : SortedIn ltE a m d) (s2 : SortedIn ltE m b d) (h1 : a ≤ st) (h2 : st ≤ m) (h3 : m ≤ en) (h4 : en ≤ b) (h5 : st + en = mid + m)
    (hi : st = a ∨ en = b ∨ ltE d[en]! d[st - 1]! = false) (hii : st = m ∨ en = m ∨ ltE d[en - 1]! d[st]! = true) (hD : ∀ t, a ≤ t → t < b → D[t]! = rotD d m st en mid t) :
    SortedIn ltE a st D ∧ SortedIn ltE st mid D ∧ SortedIn ltE mid en D ∧ SortedIn ltE en b D ∧ Cross a mid b D := by
  have g1 : ∀ t, a ≤ t → t < st → D[t]! = d[t]! := fun t q1 q2 => by rw [hD t q1 (by omega)]; unfold rotD; rw [if_pos q2]
  have g2 : ∀ t, st ≤ t → t < mid → D[t]! = d[t + (m - st)]! := fun t q1 q2 => by rw [hD t (by omega) (by omega)]; unfold rotD; rw [if_neg (by omega), if_pos q2]
  have g3 : ∀ t, mid ≤ t → t < en → D[t]! = d[t - (en - m)]! := fun t q1 q2 => by rw [hD t (by omega) (by omega)]; unfold rotD; rw [if_neg (by omega), if_neg (by omega), if_pos q2]
  have g4 : ∀ t, en ≤ t → t < b → D[t]! = d[t]! := fun t q1 q2 => by rw [hD t (by omega) q2]; unfold rotD; rw [if_neg (by omega), if_neg (by omega), if_neg (by omega)]
  refine ⟨fun i j hi hij hj => ?_, fun i j hi hij hj => ?_, fun i j hi hij hj => ?_, fun i j hi hij hj => ?_, fun i j hi him hmj hj => ?_⟩
  · rw [g1 i hi (by omega), g1 j (by omega) hj]; exact s1 i j hi hij (by omega)
  · rw [g2 i hi (by omega), g2 j (by omega) hj]; exact s2 _ _ (by omega) (by omega) (by omega)
  · rw [g3 i hi (by omega), g3 j (by omega) hj]; exact s1 _ _ (by omega) (by omega) (by omega)
  · rw [g4 i hi (by omega), g4 j (by omega) hj]; exact s2 i j (by omega) hij hj
  · by_cases ci : i < st
    · rw [g1 i hi ci]
      by_cases cj : j < en
      · rw [g3 j hmj cj]; exact s1 _ _ hi (by omega) (by omega)
      · rw [g4 j (by omega) hj]
        have h6 : ltE d[en]! d[st - 1]! = false := by rcases ‹st = a ∨ en = b ∨ _› with q | q | q; omega; omega; exact q
        exact swoE.ntrans _ _ _ (swoE.ntrans _ _ _ (srt_le s2 (by omega) (by omega) hj) h6) (srt_le s1 hi (by omega) (by omega))
    · rw [g2 i (by omega) him]
      by_cases cj : j < en
      · rw [g3 j hmj cj]
        have h6 : ltE d[en - 1]! d[st]! = true := by rcases hii with q | q | q; omega; omega; exact q
        exact swoE.ntrans _ _ _ (srt_le s1 (by omega) (by omega) (by omega)) (swoE.ntrans _ _ _ (ltE_asymm h6) (srt_le s2 (by omega) (by omega) (by omega)))
      · rw [g4 j (by omega) hj]; exact s2 _ _ (by omega) (by omega) hj
theorem cross_perm1 {d D : Array E} {a mid b : Nat} (hb : b ≤ d.size) (hab : mid ≤ b) (h : Cross a mid b d) (hP : PermIn a mid d D) : Cross a mid b D := fun i j hi him hmj hj => by
  rw [hP.2.1 j (.inr hmj)]
  exact permIn_all d D a mid (fun x => ltE d[j]! x = false) (by omega) hP (fun t h1 h2 => h t j h1 h2 hmj hj) i hi him
theorem cross_perm2 {d D : Array E} {a mid b : Nat} (hb : b ≤ d.size) (h : Cross a mid b d) (hP : PermIn mid b d D) : Cross a mid b D := fun i j hi him hmj hj => by
  rw [hP.2.1 i (.inl him)]
  exact permIn_all d D mid b (fun x => ltE x d[i]! = false) hb hP (fun t h1 h2 => h i t hi him h1 h2) j hmj hj
theorem sorted_same {d D : Array E} {a b : Nat} (h : SortedIn ltE a b d) (he : ∀ t, a ≤ t → t < b → D[t]! = d[t]!) : SortedIn ltE a b D := fun i j hi hij hj => by
  rw [he i hi (by omega), he j (by omega) hj]; exact h i j hi hij hj
theorem sorted_halves {d : Array E} {a s b : Nat} (h1 : SortedIn ltE a s d) (h2 : SortedIn ltE s b d) (h : ¬ (a < s ∧ s < b)) (ha : a ≤ s) (hb : s ≤ b) : SortedIn ltE a b d := fun i j hi hij hj => by
  by_cases e : s ≤ a
  · exact h2 i j (by omega) hij hj
  · exact h1 i j hi hij (by omega)
/-- One on the left is moved to its place. -/
theorem sym_left {d D : Array E} {a b i : Nat} (s2 : SortedIn ltE (a + 1) b d) (h1 : a + 1 ≤ i) (h2 : i ≤ b) (hl : i = a + 1 ∨ ltE d[i - 1]! d[a]! = true) (hr : i = b ∨ ltE d[i]! d[a]! = false)
    (e1 : ∀ t, a ≤ t → t < i - 1 → D[t]! = d[t + 1]!) (e2 : D[i - 1]! = d[a]!) (e3 : ∀ t, i ≤ t → D[t]! = d[t]!) : SortedIn ltE a b D := by
  refine sorted_join (mid := i - 1) (fun x y q1 q2 q3 => ?_) (sorted_join (mid := i) (fun x y q1 q2 q3 => by omega) (fun x y q1 q2 q3 => ?_) (fun x y q1 q2 q3 q4 => ?_)) (fun x y q1 q2 q3 q4 => ?_)
  · rw [e1 x q1 (by omega), e1 y (by omega) q3]; exact s2 _ _ (by omega) (by omega) (by omega)
  · rw [e3 x q1, e3 y (by omega)]; exact s2 x y (by omega) q2 q3
  · obtain rfl : x = i - 1 := by omega
    rw [e2, e3 y q3]
    rcases hr with q | q
    · omega
    · exact swoE.ntrans _ _ _ (srt_le s2 (by omega) q3 q4) q
  · rw [e1 x q1 q2]
    by_cases c : y = i - 1
    · subst c
      rw [e2]
      rcases hl with q | q
      · omega
      · exact swoE.ntrans _ _ _ (ltE_asymm q) (srt_le s2 (by omega) (by omega) (by omega))
    · rw [e3 y (by omega)]; exact s2 _ _ (by omega) (by omega) q4
/-- One on the right is moved to its place. -/
theorem sym_right {d D : Array E} {a m i : Nat} (s1 : SortedIn ltE a m d) (h1 : a ≤ i) (h2 : i ≤ m) (hl : i = a ∨ ltE d[m]! d[i - 1]! = false) (hr : i = m ∨ ltE d[m]! d[i]! = true)
    (e1 : ∀ t, i < t → t ≤ m → D[t]! = d[t - 1]!) (e2 : D[i]! = d[m]!) (e3 : ∀ t, t < i → D[t]! = d[t]!) : SortedIn ltE a (m + 1) D := by
  refine sorted_join (mid := i) (fun x y q1 q2 q3 => ?_) (sorted_join (mid := i + 1) (fun x y q1 q2 q3 => by omega) (fun x y q1 q2 q3 => ?_) (fun x y q1 q2 q3 q4 => ?_)) (fun x y q1 q2 q3 q4 => ?_)
  · rw [e3 x (by omega), e3 y q3]; exact s1 x y q1 q2 (by omega)
  · rw [e1 x (by omega) (by omega), e1 y (by omega) (by omega)]; exact s1 _ _ (by omega) (by omega) (by omega)
  · obtain rfl : x = i := by omega
    rw [e2, e1 y (by omega) (by omega)]
    rcases hr with q | q
    · omega
    · exact swoE.ntrans _ _ _ (srt_le s1 (by omega) (by omega) (by omega)) (ltE_asymm q)
  · rw [e3 x q2]
    by_cases c : y = i
    · subst c
      rw [e2]
      rcases hl with q | q
      · omega
      · exact swoE.ntrans _ _ _ q (srt_le s1 q1 (by omega) (by omega))
    · rw [e1 y (by omega) (by omega)]; exact s1 _ _ q1 (by omega) (by omega)
end Go.Proofs.YtfohljljoalmoaaDoor
