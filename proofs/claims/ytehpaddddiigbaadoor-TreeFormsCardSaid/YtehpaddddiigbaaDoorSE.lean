/- The document's times: the plain law. -/
import Derived.Test.YtehpaddddiigbaaDoorSD
namespace Go.Proofs.YtehpaddddiigbaaDoor
open Go.RowKit
set_option maxRecDepth 100000
set_option linter.unusedSimpArgs false
set_option linter.unusedVariables false

theorem V_mod {c : List Nat} {q n : Nat} (hl : c.length = 10) (hd : ∀ d ∈ c, d < BB) (h : V c + q * BB ^ 10 = n) (hn : n < BB ^ 10) : V c = n := by
  have h1 := V_lt hd
  rw [hl] at h1
  have : q = 0 := by
    rcases Nat.eq_zero_or_pos q with h0 | h0
    · exact h0
    · have : 1 * BB ^ 10 ≤ q * BB ^ 10 := Nat.mul_le_mul_right _ h0
      omega
  subst this
  omega
/-- One step of the inner loop. -/
theorem times_step {out a b : List Nat} {i k carry S : Nat} (hi : i < a.length) (hik : i + k < out.length) (hk : k < b.length)
    (h : V out + carry * BB ^ (i + k) = S + a.getD i 0 * BB ^ i * V (b.take k)) :
    V (out.set (i + k) ((out.getD (i + k) 0 + a.getD i 0 * b.getD k 0 + carry) % BB)) + ((out.getD (i + k) 0 + a.getD i 0 * b.getD k 0 + carry) / BB) * BB ^ (i + (k + 1)) = S + a.getD i 0 * BB ^ i * V (b.take (k + 1)) := by
  have hs := V_set out (i + k) ((out.getD (i + k) 0 + a.getD i 0 * b.getD k 0 + carry) % BB) hik
  have ht := V_take hk
  generalize out.getD (i + k) 0 = o at *
  generalize a.getD i 0 = x at *
  generalize b.getD k 0 = y at *
  have hx : (o + x * y + carry) % BB + BB * ((o + x * y + carry) / BB) = o + x * y + carry := Nat.mod_add_div _ _
  generalize (o + x * y + carry) % BB = r at *
  generalize (o + x * y + carry) / BB = g at *
  rw [ht, Nat.mul_add]
  have e1 : g * BB ^ (i + (k + 1)) = (BB * g) * BB ^ (i + k) := by rw [← Nat.add_assoc, Nat.pow_succ, Nat.mul_comm (BB ^ (i + k)) BB, ← Nat.mul_assoc, Nat.mul_comm g BB]
  have e2 : x * BB ^ i * (y * BB ^ k) = x * y * BB ^ (i + k) := by rw [Nat.pow_add]; simp [Nat.mul_comm, Nat.mul_left_comm, Nat.mul_assoc]
  have e3 : (r + BB * g) * BB ^ (i + k) = (o + x * y + carry) * BB ^ (i + k) := by rw [hx]
  rw [Nat.add_mul, Nat.add_mul, Nat.add_mul] at e3
  rw [e1, e2]
  omega
theorem times_zero {a b out : List Nat} {i S : Nat} (h : V out = S) : V out + 0 * BB ^ (i + 0) = S + a.getD i 0 * BB ^ i * V (b.take 0) := by simp [V, h]
/-- The outer loop's step: what the inner loop has left. -/
theorem times_row {out a b : List Nat} {i carry S q : Nat} (hi : i < 10) (ha : a.length = 10) (hb : b.length = 10)
    (h : V out + carry * BB ^ (i + (10 - i)) = S + a.getD i 0 * BB ^ i * V (b.take (10 - i))) (hS : S + q * BB ^ 10 = V (a.take i) * V b) :
    ∃ q', V out + q' * BB ^ 10 = V (a.take (i + 1)) * V b := by
  rw [show i + (10 - i) = 10 by omega] at h
  have hsp := V_split b (10 - i) (by omega)
  have ht := V_take (l := a) (k := i) (by omega)
  refine ⟨q + carry + a.getD i 0 * V (b.drop (10 - i)), ?_⟩
  rw [ht, Nat.add_mul (V (a.take i)), ← hS]
  have e1 : a.getD i 0 * BB ^ i * V b = a.getD i 0 * BB ^ i * V (b.take (10 - i)) + a.getD i 0 * V (b.drop (10 - i)) * BB ^ 10 := by
    rw [hsp, Nat.mul_add]
    congr 1
    have : BB ^ 10 = BB ^ i * BB ^ (10 - i) := by rw [← Nat.pow_add]; congr 1; omega
    rw [this]
    simp [Nat.mul_comm, Nat.mul_left_comm, Nat.mul_assoc]
  rw [e1, Nat.add_mul, Nat.add_mul]
  omega
theorem dig_bound {o x y c : Nat} (h1 : o < BB) (h2 : x < BB) (h3 : y < BB) (h4 : c < BB) : o + x * y + c < 4294967296 ∧ (o + x * y + c) / BB < BB := by
  unfold BB at *
  have : x * y ≤ 65535 * 65535 := Nat.mul_le_mul (by omega) (by omega)
  omega
theorem getD_lt {l : List Nat} {j : Nat} (h : ∀ d ∈ l, d < BB) : l.getD j 0 < BB := by
  rw [List.getD_eq_getElem?_getD]
  by_cases hj : j < l.length
  · rw [List.getElem?_eq_getElem hj]; exact h _ (List.getElem_mem hj)
  · rw [List.getElem?_eq_none (by omega)]; decide
theorem set_lt {l : List Nat} {j v : Nat} (h : ∀ d ∈ l, d < BB) (hv : v < BB) : ∀ d ∈ l.set j v, d < BB := fun d hd => by
  rcases List.mem_or_eq_of_mem_set hd with h1 | rfl
  · exact h _ h1
  · exact hv
