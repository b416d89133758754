/- TreePaths: the plain law, the walk. -/
import Derived.Test.YtfohljljoalmoaaDoorTC
namespace Go.Proofs.YtfohljljoalmoaaDoor
open Go.RowKit
set_option maxRecDepth 100000
set_option linter.unusedSimpArgs false
set_option linter.unusedVariables false

def nums (s : ByteArray) : List Nat := s.data.toList.map UInt8.toNat
def okL : Nat → List Nat → Bool
  | _, [] => true
  | last, c :: cs => okC last c && okL c cs
def pathL (l : List Nat) : Bool := decide (1 ≤ l.length) && decide (l.length ≤ 40) && (l.getLastD 0 != 47) && okL 47 l
theorem nums_len (s : ByteArray) : (nums s).length = s.size := by simp [nums]
theorem byt_nums (s : ByteArray) (i : Nat) : byt s i = (nums s).getD i 0 := by
  unfold byt nums
  rw [List.getD_eq_getElem?_getD, List.getD_eq_getElem?_getD, List.getElem?_map]
  cases s.data.toList[i]? <;> rfl
theorem okPos_okL (s : ByteArray) : ∀ (f i last : Nat), i + f = s.size → okPos s f i last = okL last ((nums s).drop i)
  | 0, i, last, h => by
    rw [List.drop_eq_nil_of_le (by rw [nums_len]; omega)]; rfl
  | f + 1, i, last, h => by
    have hi : i < (nums s).length := by rw [nums_len]; omega
    have e : byt s i = (nums s)[i] := by rw [byt_nums, List.getD_eq_getElem?_getD, List.getElem?_eq_getElem hi]; rfl
    rw [List.drop_eq_getElem_cons hi]
    unfold okPos okL
    rw [okPos_okL s f (i + 1) _ (by omega), e]
theorem pathB_L (s : ByteArray) : pathB s = pathL (nums s) := by
  unfold pathB pathL
  rw [okPos_okL s s.size 0 47 (by omega), List.drop_zero, nums_len]
  congr 2
  rw [byt_nums, List.getLastD_eq_getLast?, List.getLast?_eq_getElem?, List.getD_eq_getElem?_getD, nums_len]
theorem okL_app : ∀ (last : Nat) (A B : List Nat), okL last (A ++ B) = (okL last A && okL (A.getLastD last) B)
  | last, [], B => by simp [okL]
  | last, c :: A, B => by
    show (okC last c && okL c (A ++ B)) = ((okC last c && okL c A) && okL ((c :: A).getLastD last) B)
    rw [okL_app c A B, Bool.and_assoc]
    cases A with
    | nil => rfl
    | cons d A => rfl
theorem okC_slash (last : Nat) : okC last 47 = (last != 47) := by simp [okC, plainC]
theorem lastD_ne {l : List Nat} (h : l ≠ []) (x y : Nat) : l.getLastD x = l.getLastD y := by
  cases l with
  | nil => exact absurd rfl h
  | cons c l => rfl
theorem path_join (A B : List Nat) : pathL (A ++ 47 :: B) = (pathL A && pathL B && decide (A.length + B.length + 1 ≤ 40)) := by
  unfold pathL
  rw [okL_app, show okL (A.getLastD 47) (47 :: B) = (okC (A.getLastD 47) 47 && okL 47 B) from rfl, okC_slash]
  by_cases hA : A = []
  · subst hA; simp
  · by_cases hB : B = []
    · subst hB; simp
    · have h1 : (A ++ 47 :: B).getLastD 0 = B.getLastD 0 := by
        cases B with
        | nil => exact absurd rfl hB
        | cons c B => rw [List.getLastD_eq_getLast?, List.getLastD_eq_getLast?, List.getLast?_append]; simp [List.getLast?_cons]
      rw [h1, lastD_ne hA 47 0]
      have lA : 1 ≤ A.length := List.length_pos_iff.2 hA
      have lB : 1 ≤ B.length := List.length_pos_iff.2 hB
      have e1 : (A ++ 47 :: B).length = A.length + B.length + 1 := by simp; omega
      rw [e1, decide_eq_true lA, decide_eq_true lB, decide_eq_true (show 1 ≤ A.length + B.length + 1 by omega)]
      by_cases h40 : A.length + B.length + 1 ≤ 40
      · rw [decide_eq_true h40, decide_eq_true (show A.length ≤ 40 by omega), decide_eq_true (show B.length ≤ 40 by omega)]
        simp only [Bool.true_and, Bool.and_true]
        cases (A.getLastD 0 != 47) <;> cases (B.getLastD 0 != 47) <;> cases okL 47 A <;> cases okL 47 B <;> rfl
      · rw [decide_eq_false h40]; simp
theorem path_two (A B : List Nat) : pathL (A ++ 47 :: 47 :: B) = false := by
  unfold pathL
  rw [okL_app, show okL (A.getLastD 47) (47 :: 47 :: B) = (okC (A.getLastD 47) 47 && (okC 47 47 && okL 47 B)) from rfl, okC_slash 47]
  simp
theorem path_root (A : List Nat) : pathL (47 :: A) = false := by
  unfold pathL
  rw [show okL 47 (47 :: A) = (okC 47 47 && okL 47 A) from rfl, okC_slash 47]
  simp
theorem nums_app (s t : ByteArray) : nums (s ++ t) = nums s ++ nums t := by
  unfold nums
  rw [ByteArray.data_append, Array.toList_append, List.map_append]
theorem pathB_join (a b : ByteArray) : pathB (a ++ ⟨#[47]⟩ ++ b) = (pathB a && pathB b && decide (a.size + b.size + 1 ≤ 40)) := by
  rw [pathB_L, nums_app, nums_app, pathB_L a, pathB_L b, ← nums_len a, ← nums_len b, ← path_join, List.append_assoc]; rfl
theorem pathB_two (a b : ByteArray) : pathB (a ++ ⟨#[47, 47]⟩ ++ b) = false := by
  rw [pathB_L, nums_app, nums_app, List.append_assoc]; exact path_two (nums a) (nums b)
theorem pathB_root (a : ByteArray) : pathB (⟨#[47]⟩ ++ a) = false := by
  rw [pathB_L, nums_app]; exact path_root (nums a)

end Go.Proofs.YtfohljljoalmoaaDoor
