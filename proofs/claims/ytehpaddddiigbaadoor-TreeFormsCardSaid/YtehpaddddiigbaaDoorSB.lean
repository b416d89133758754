/- Numbers as rows of digits of 16 bits (plain). -/
import Derived.Test.YtehpaddddiigbaaDoorSA
namespace Go.Proofs.YtehpaddddiigbaaDoor
open Go.RowKit
set_option maxRecDepth 100000
set_option linter.unusedSimpArgs false
set_option linter.unusedVariables false

def BB : Nat := 65536
def V : List Nat → Nat
  | [] => 0
  | d :: l => d + BB * V l
theorem V_set : ∀ (l : List Nat) (j v : Nat), j < l.length → V (l.set j v) + l.getD j 0 * BB ^ j = V l + v * BB ^ j
  | [], _, _, h => absurd h (by simp)
  | d :: l, 0, v, _ => by simp [V]; omega
  | d :: l, j + 1, v, h => by
    have ih := V_set l j v (by simpa using h)
    have e1 : BB * (V (l.set j v) + l.getD j 0 * BB ^ j) = BB * (V l + v * BB ^ j) := by rw [ih]
    rw [Nat.mul_add, Nat.mul_add] at e1
    have e2 : l.getD j 0 * BB ^ (j + 1) = BB * (l.getD j 0 * BB ^ j) := by rw [Nat.pow_succ, Nat.mul_comm (BB ^ j) BB, ← Nat.mul_assoc, Nat.mul_comm _ BB, Nat.mul_assoc]
    have e3 : v * BB ^ (j + 1) = BB * (v * BB ^ j) := by rw [Nat.pow_succ, Nat.mul_comm (BB ^ j) BB, ← Nat.mul_assoc, Nat.mul_comm _ BB, Nat.mul_assoc]
    show d + BB * V (l.set j v) + l.getD j 0 * BB ^ (j + 1) = d + BB * V l + v * BB ^ (j + 1)
    rw [e2, e3]
    omega
theorem V_app : ∀ (l m : List Nat), V (l ++ m) = V l + BB ^ l.length * V m
  | [], m => by simp [V]
  | d :: l, m => by
    show d + BB * V (l ++ m) = d + BB * V l + BB ^ (l.length + 1) * V m
    rw [V_app l m, Nat.mul_add, Nat.pow_succ, Nat.mul_comm (BB ^ l.length) BB, Nat.mul_assoc]
    omega
theorem V_take {l : List Nat} {k : Nat} (h : k < l.length) : V (l.take (k + 1)) = V (l.take k) + l.getD k 0 * BB ^ k := by
  rw [List.take_succ_eq_append_getElem h, V_app, List.length_take, Nat.min_eq_left (by omega), List.getD_eq_getElem?_getD, List.getElem?_eq_getElem h]
  simp [V, Nat.mul_comm]
theorem V_lt : ∀ {l : List Nat}, (∀ d ∈ l, d < BB) → V l < BB ^ l.length
  | [], _ => by simp [V]
  | d :: l, h => by
    have ih := V_lt (l := l) fun x hx => h x (List.mem_cons_of_mem _ hx)
    have hd := h d List.mem_cons_self
    show d + BB * V l < BB ^ (l.length + 1)
    have : BB * (V l + 1) ≤ BB * BB ^ l.length := Nat.mul_le_mul_left _ ih
    rw [Nat.pow_succ, Nat.mul_comm (BB ^ l.length) BB]
    rw [Nat.mul_add] at this
    omega
theorem V_split (l : List Nat) (i : Nat) (h : i ≤ l.length) : V l = V (l.take i) + BB ^ i * V (l.drop i) := by
  have := V_app (l.take i) (l.drop i)
  rw [List.take_append_drop, List.length_take, Nat.min_eq_left h] at this
  exact this
/-- The greatest digit that is unlike tells which number is the greater. -/
theorem V_cmp {a b : List Nat} {i : Nat} (ha : i < a.length) (hb : i < b.length) (da : ∀ d ∈ a, d < BB) (db : ∀ d ∈ b, d < BB) (he : a.drop (i + 1) = b.drop (i + 1)) (hlt : b.getD i 0 < a.getD i 0) : V b < V a := by
  have e1 := V_split a (i + 1) ha
  have e2 := V_split b (i + 1) hb
  rw [← he] at e2
  have e3 := V_take ha
  have e4 := V_take hb
  have h4 := V_lt (l := b.take i) fun d hd => db d (List.mem_of_mem_take hd)
  rw [List.length_take, Nat.min_eq_left (by omega)] at h4
  have h5 : (b.getD i 0 + 1) * BB ^ i ≤ a.getD i 0 * BB ^ i := Nat.mul_le_mul_right _ hlt
  rw [Nat.add_mul, Nat.one_mul] at h5
  omega

/-- Digits of a number. -/
def digL : Nat → Nat → List Nat
  | 0, _ => []
  | f + 1, n => n % BB :: digL f (n / BB)
theorem digL_len : ∀ f n, (digL f n).length = f
  | 0, _ => rfl
  | f + 1, n => by simp [digL, digL_len f]
theorem digL_lt : ∀ f n, ∀ d ∈ digL f n, d < BB
  | 0, _, d, h => by simp [digL] at h
  | f + 1, n, d, h => by
    simp only [digL, List.mem_cons] at h
    rcases h with rfl | h
    · exact Nat.mod_lt _ (by decide)
    · exact digL_lt f _ d h
theorem V_digL : ∀ f n, n < BB ^ f → V (digL f n) = n
  | 0, n, h => by simp at h; subst h; rfl
  | f + 1, n, h => by
    have : n / BB < BB ^ f := by rw [Nat.div_lt_iff_lt_mul (by decide)]; rwa [Nat.pow_succ] at h
    show n % BB + BB * V (digL f (n / BB)) = n
    rw [V_digL f _ this]
    exact Nat.mod_add_div n BB
