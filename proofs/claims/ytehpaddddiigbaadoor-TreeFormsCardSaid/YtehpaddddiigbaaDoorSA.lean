/- The document's primes. -/
import Derived.Test.YtehpaddddiigbaaDoorT3
namespace Go.Proofs.YtehpaddddiigbaaDoor
open Go.RowKit
set_option maxRecDepth 100000
set_option linter.unusedSimpArgs false
set_option linter.unusedVariables false

/-- No j of 2 .. k - 1 divides n. -/
def noDiv (n k : Nat) : Bool := (List.range k).all fun j => decide (j < 2) || n % j != 0
/-- n is a prime number (as the document looks for it: by trying all numbers whose square is at most n). -/
def primeN (n : Nat) : Bool := decide (1 < n) && (List.range n).all fun j => decide (j < 2) || decide (n < j * j) || n % j != 0
theorem noDiv_succ {n k : Nat} (h : noDiv n k = true) (h2 : n % k ≠ 0) : noDiv n (k + 1) = true := by
  unfold noDiv at *
  rw [List.range_succ, List.all_append, h]
  simp [h2]
theorem primeN_no {n k : Nat} (h2 : 2 ≤ k) (hk : k * k ≤ n) (hm : n % k = 0) : primeN n = false := by
  have hlt : k < n := by
    have : 2 * k ≤ k * k := Nat.mul_le_mul_right k h2
    omega
  unfold primeN
  rw [Bool.and_eq_false_iff]
  refine .inr ?_
  rw [List.all_eq_false]
  refine ⟨k, List.mem_range.2 hlt, ?_⟩
  simp [hm]
  omega
theorem primeN_yes {n k : Nat} (h1 : 1 < n) (hd : noDiv n k = true) (hk : n < k * k) : primeN n = true := by
  unfold primeN
  rw [Bool.and_eq_true]
  refine ⟨by simpa using h1, ?_⟩
  rw [List.all_eq_true]
  intro j hj
  unfold noDiv at hd
  rw [List.all_eq_true] at hd
  by_cases hjk : j < k
  · have := hd j (List.mem_range.2 hjk)
    revert this
    cases decide (j < 2) <;> simp
    intro q
    exact .inr q
  · have : k * k ≤ j * j := Nat.mul_le_mul (by omega) (by omega)
    have : n < j * j := by omega
    simp [this]

set_option maxHeartbeats 2000000 in
theorem prime_ct (n : Nat) (w : World) (h1 : 1 < n) (hn : n ≤ 1000) :
    Calls Tryd.prog 65 #[.int .i64 n] w fun e w' => e = .returned (.bool (primeN n)) ∧ w' = w := by
  go_enter Tryd.func65, Tryd.ntmps65
  go_wp2_with fail
  go_loopw [3] (fun x wr => ∃ k : Nat, 2 ≤ k ∧ k ≤ 40 ∧ x = .int .i64 k ∧ Hid (noDiv n k = true) ∧ wr = w) (fun x _ => 40 - (intOf x).toNat)
  case atStart => exact ⟨2, by omega, by omega, rfl, (by unfold Hid noDiv; rfl), rfl⟩
  case round =>
    obtain ⟨k, hk2, hk, rfl, HD, rfl⟩ := hrel
    by_cases hlt : k * k ≤ n
    · have hk31 : k < 32 := Nat.lt_of_not_le fun h => by
        have : 32 * 32 ≤ k * k := Nat.mul_le_mul h h
        omega
      have hi : (k : Int) * (k : Int) ≤ (n : Int) := by exact_mod_cast hlt
      have hq0 : (0 : Int) ≤ (k : Int) * (k : Int) := by exact_mod_cast Nat.zero_le (k * k)
      have hw : IntKind.i64.wrap ((k : Int) * (k : Int)) = (k : Int) * (k : Int) := IntWalk.i64_in _ (by omega)
      have hk0 : (k : Int) ≠ 0 := by omega
      by_cases hm : n % k = 0
      · have hp := Lib.hid (primeN_no hk2 hlt hm)
        have hmi : Int.tmod (n : Int) (k : Int) = 0 := by rw [Int.tmod_eq_emod_of_nonneg (by omega)]; exact_mod_cast hm
        go_wp2_with fail
        go_ret
        exact ⟨by rw [hp.out] <;> rfl, rfl⟩
      · have HD2 := Lib.hid (noDiv_succ HD.out hm)
        have hmi : Int.tmod (n : Int) (k : Int) ≠ 0 := by rw [Int.tmod_eq_emod_of_nonneg (by omega)]; exact_mod_cast hm
        go_wp2_with fail
        go_roundw
        case rel => exact ⟨k + 1, by omega, by omega, by go_num, HD2, trivial⟩
        case measure => simp [intOf]; omega
    · have hp := Lib.hid (primeN_yes h1 HD.out (by omega))
      have hkk : k * k ≤ 1600 := Nat.mul_le_mul hk hk
      have hi : ¬ (k : Int) * (k : Int) ≤ (n : Int) := by exact_mod_cast hlt
      have hkk' : (k : Int) * (k : Int) ≤ 1600 := by exact_mod_cast hkk
      have hk0' : (0 : Int) ≤ (k : Int) * (k : Int) := by exact_mod_cast Nat.zero_le (k * k)
      have hw : IntKind.i64.wrap ((k : Int) * (k : Int)) = (k : Int) * (k : Int) := IntWalk.i64_in _ (by omega)
      have hg1 : decide (1 < (n : Int)) = true := decide_eq_true (by omega)
      go_wp2_with fail
      go_ret
      exact ⟨by rw [hp.out] <;> rfl, rfl⟩

def primesTo (n : Nat) : List Nat := (List.range n).filter primeN
theorem primesTo_succ (n : Nat) : primesTo (n + 1) = if primeN n = true then primesTo n ++ [n] else primesTo n := by
  unfold primesTo
  rw [List.range_succ, List.filter_append]
  by_cases h : primeN n = true <;> simp [h]
theorem primesTo_2 : primesTo 2 = [] := by decide +kernel
def p64 : List Nat := [2, 3, 5, 7, 11, 13, 17, 19, 23, 29, 31, 37, 41, 43, 47, 53, 59, 61, 67, 71, 73, 79, 83, 89, 97, 101, 103, 107, 109, 113, 127, 131, 137, 139, 149, 151, 157, 163, 167, 173, 179, 181, 191, 193, 197, 199, 211, 223, 227, 229, 233, 239, 241, 251, 257, 263, 269, 271, 277, 281, 283, 293, 307, 311]
set_option maxRecDepth 100000 in
theorem primes_all : primesTo 312 = p64 := by decide +kernel
theorem primesTo_mono {a b : Nat} (h : a ≤ b) : (primesTo a).length ≤ (primesTo b).length := by
  induction h with
  | refl => exact Nat.le_refl _
  | step _ ih => refine Nat.le_trans ih ?_; rw [primesTo_succ]; split <;> simp
theorem primes_len {n : Nat} (h : n ≤ 311) : (primesTo n).length < 64 := by
  have h1 := primesTo_mono h
  have h2 : (primesTo 311).length = 63 := by decide +kernel
  omega
theorem primes_312 : (primesTo 312).length = 64 := by decide +kernel

/-- Numbers as a row of cells. -/
def iv (l : List Nat) : List Value := l.map fun (n : Nat) => Value.int .i64 (n : Int)
theorem iv_len (l : List Nat) : (iv l).length = l.length := by simp [iv]
theorem iv_app (l m : List Nat) : iv (l ++ m) = iv l ++ iv m := by simp [iv]
theorem bslice_i1 (m : Int) (w : World) : (Instr.buildSlice 84 1 #[(0, .int .i64 m)]).run Tryd.prog w = .ok (.slice (some ⟨w.heap.size, 0, none⟩) 1 1) (w.alloc (.cells #[.int .i64 m] 3)) := by kernel_rfl
theorem row_keep {w w' : World} {base : Nat} {t : TypeId} {z : Nat} {v : Value} {n : Nat} {xs : List Value} (h : w.ownsRow base t z v n xs) (hk : Kept (fun _ => False) w w') : w'.ownsRow base t z v n xs := by
  refine ⟨h.1, ?_⟩
  rcases h.2 with h0 | ⟨g, cap, cur, rfl, hb, hg, hr⟩
  · exact .inl h0
  · exact .inr ⟨g, cap, cur, rfl, hb, by rw [hk.block g (Array.getElem?_eq_some_iff.1 hg).1 not_false]; exact hg, hr⟩
theorem app_int {w : World} {base n : Nat} {v : Value} {xs : List Value} (h : w.ownsRow base 3 1 v n xs) {g : Nat} {m : Int} {t : TypeId} {fr : Nat × Nat} (hg : w.heap[g]? = some (.cells #[.int .i64 m] t fr)) (hn : n + 1 ≤ 1000000) (hb : base ≤ w.heap.size) (ty : TypeId) :
    ∃ v' w', (Builtin.append_ #[84, 84] ty #[v, .slice (some ⟨g, 0, none⟩) 1 1]).run Tryd.prog w = .ok v' w' ∧ w'.ownsRow base 3 1 v' (n + 1) (xs ++ [.int .i64 m]) ∧ w.grownBy w' v.ownBlock := by
  obtain ⟨i, hi⟩ : ∃ i, Tryd.prog.info? 3 = some i := ⟨_, rfl⟩
  obtain ⟨z, hz⟩ : ∃ z, i.zero = some z := by injection hi with hi; subst hi; exact ⟨_, rfl⟩
  have hs : i.size = 1 := by injection hi with hi; subst hi; rfl
  have hzs : z.cells.size = 1 := by injection hi with hi; subst hi; injection hz with hz; subst hz; rfl
  have hby : i.bytes ≤ 8 := by injection hi with hi; subst hi; decide
  obtain ⟨v', w', a1, a2, a3, _⟩ := run_append_own (P := Tryd.prog) w base 84 ty 3 i z 1 i.bytes Tryd.underlying84 hi hz hs rfl hzs (by omega) v n xs h ⟨g, 0, none⟩ 1 1 [.int .i64 m] (by simp)
      (fun j u hu => by
        rw [Addr.add_mid, Nat.zero_add, cell_of_row _ _ _ _ _ _ hg]
        simpa using hu) (fun u hu => by simp at hu; subst hu; rfl) (by simp only [maxLen]; omega)
      (by have : (n + 1) * i.bytes ≤ 1000000 * 8 := Nat.mul_le_mul hn hby; omega) hb
  exact ⟨v', w', a1, a2, a3⟩

set_option maxHeartbeats 4000000 in
theorem primes_ct (w : World) :
    Calls Tryd.prog 53 #[.int .i64 64] w fun e w' => ∃ v, e = .returned v ∧ w'.ownsRow w.heap.size 3 1 v 64 (iv p64) ∧ Kept (fun _ => False) w w' := by
  go_enter Tryd.func53, Tryd.ntmps53
  go_wp2_with fail
  go_loopw [3, 4] (fun y x wr => ∃ n L : Nat, 2 ≤ n ∧ n ≤ 312 ∧ x = .int .i64 n ∧ L = (primesTo n).length ∧ wr.ownsRow w.heap.size 3 1 y L (iv (primesTo n)) ∧ Kept (fun _ => False) w wr) (fun _ x _ => 312 - (intOf x).toNat)
  case atStart => exact ⟨2, 0, by omega, by omega, rfl, by rw [primesTo_2]; rfl, by rw [primesTo_2]; exact World.ownsRow_nil _ _ _ _, Kept.refl _ _⟩
  case round =>
    obtain ⟨n, L, hn2, hn, rfl, hL, ho, hkr⟩ := hrel
    obtain ⟨ao, co, hvo⟩ := row_form ho
    subst hvo
    by_cases hlt : n ≤ 311
    · have hL64 : L < 64 := by rw [hL]; exact primes_len hlt
      have pc := prime_ct n wr (by omega) (by omega)
      have hps := primesTo_succ n
      have hi64 : (L : Int) < 64 := by omega
      cases hp : primeN n with
      | true =>
        rw [hp] at pc hps
        simp only [if_true] at hps
        have hLs : L + 1 = (primesTo (n + 1)).length := by rw [hps, List.length_append, ← hL]; rfl
        have b5 := bslice_i1 n wr
        have k5 : Kept (fun _ => False) wr (wr.alloc (.cells #[.int .i64 n] 3)) := (Kept.refl _ wr).alloc _
        have h5 := heap_last wr (.cells #[.int .i64 n] 3)
        generalize wr.alloc (.cells #[.int .i64 n] 3) = W5 at b5 k5 h5
        have ho5 := row_keep ho k5
        obtain ⟨v6, W6, ap6, ho6, hg6⟩ := app_int ho5 h5 (by omega) (Nat.le_trans hkr.size k5.size) 84
        have k6 : Kept (fun _ => False) w W6 := grown_kept (hkr.trans k5) hg6 (fun k e => (World.ownsRow.lt ho5 k e).1)
        have hiv : iv (primesTo n) ++ [.int .i64 (n : Int)] = iv (primesTo (n + 1)) := by rw [hps, iv_app]; rfl
        rw [hiv] at ho6
        obtain ⟨a6, c6, hv6⟩ := row_form ho6
        subst hv6
        have HO := Lib.hid ho6
        have HL := Lib.hid hLs
        clear hp hps hL hLs h5 ho5 hg6 k5 ho ho6 hiv
        go_wp2_with fail
        refine pc.mono ?_
        rintro e W ⟨rfl, hW⟩
        subst hW
        go_wp2_with (first
          | (with_reducible refine wpl_bslice 84 _ _ rfl rfl ?_ b5 ?_
             · (go_simp <;> rfl)
             simp only [Act.put, List.getElem_toArray, List.getElem_cons_zero, List.getElem_cons_succ, List.setIfInBounds_toArray, List.set_cons_zero, List.set_cons_succ])
          | (refine wpl_val rfl (exec_append 84 _ _ rfl rfl rfl ap6) ?_))
        go_roundw
        case rel => exact ⟨n + 1, L + 1, by omega, by omega, by go_num, HL.out, HO.out, k6⟩
        case measure => simp [intOf]; omega
      | false =>
        rw [hp] at pc hps
        simp only [Bool.false_eq_true, if_false] at hps
        rw [← hps] at hL ho
        have HO := Lib.hid ho
        have HL := Lib.hid hL
        clear hp hps hL ho
        go_wp2_with fail
        refine pc.mono ?_
        rintro e W ⟨rfl, hW⟩
        subst hW
        go_wp2_with fail
        go_roundw
        case rel => exact ⟨n + 1, L, by omega, by omega, by go_num, HL.out, HO.out, hkr⟩
        case measure => simp [intOf]; omega
    · obtain rfl : n = 312 := by omega
      rw [primes_312] at hL
      subst hL
      rw [primes_all] at ho
      go_wp2_with fail
      go_ret
      exact ⟨_, rfl, ho, hkr⟩
