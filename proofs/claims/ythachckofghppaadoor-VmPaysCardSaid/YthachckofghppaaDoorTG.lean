/- wire.Bytes. -/
import Derived.Test.YthachckofghppaaDoorTF
namespace Go.Proofs.YthachckofghppaaDoor
open Go.RowKit
set_option maxRecDepth 100000
set_option linter.unusedSimpArgs false
set_option linter.unusedVariables false

def bytesS (r : List UInt8) (most : Nat) : Option (List UInt8 × Nat) :=
  match uintS r with
  | none => none
  | some (n, k) => if most < n then none else if r.length - k < n then none else some ((r.drop k).take n, k + n)
theorem uintS_le {r : List UInt8} {n k : Nat} (h : uintS r = some (n, k)) : k ≤ r.length ∧ n < 256 ^ 8 := by
  cases r with
  | nil => cases h
  | cons c r =>
    have e : uintS (c :: r) = if 8 < c.toNat then none else if 0 < c.toNat ∧ r.head? = some 0 then none else if r.length < c.toNat then none else some (beN (r.take c.toNat), 1 + c.toNat) := rfl
    rw [e] at h
    by_cases h1 : 8 < c.toNat
    · rw [if_pos h1] at h; cases h
    rw [if_neg h1] at h
    by_cases h2 : 0 < c.toNat ∧ r.head? = some 0
    · rw [if_pos h2] at h; cases h
    rw [if_neg h2] at h
    by_cases h3 : r.length < c.toNat
    · rw [if_pos h3] at h; cases h
    rw [if_neg h3] at h
    injection h with h; injection h with h4 h5
    subst h4; subst h5
    refine ⟨by simp; omega, ?_⟩
    have := beN_lt (r.take c.toNat)
    exact Nat.lt_of_lt_of_le this (Nat.pow_le_pow_right (by omega) (by rw [List.length_take]; omega))
theorem ByC.sub {w : World} {v : Value} {l : List UInt8} (h : ByC w v l) {i n : Nat} (hi : i + n ≤ l.length) : ∃ a' c', (∀ w', (Instr.sliceAt 22 v (some (.int .i64 i)) (some (.int .i64 ((i + n : Nat) : Int))) none).run Tryd.prog w' = .ok (.slice a' n c') w') ∧ ByAt w (.slice a' n c') ((l.drop i).take n) := by
  obtain ⟨h1, a, c, rfl, hc⟩ := h
  have hd : ((l.drop i).take n).length = n := by rw [List.length_take, List.length_drop]; omega
  refine ⟨if c = i then a else a.map (·.add (i * 1)), c - i, fun w' => ?_, ?_⟩
  · rw [run_sliceAt_slice _ _ _ _ _ _ rfl, run_slice_lh _ _ _ _ _ rfl _ _ _ _ (by omega) (by omega) (by omega), sizeOf1]
    simp only [Result.andThen, sliced, Int.toNat_natCast]
    rw [show i + n - i = n by omega]
  · have h1' := h1
    obtain ⟨_, _, _, hm, _⟩ := h1'
    refine ⟨_, c - i, by rw [hd], by omega, fun hne => ?_⟩
    have hlne : l ≠ [] := fun e => by subst e; simp at hne
    obtain ⟨b, o, rfl, hb, hr⟩ := h1.cells hlne
    have hn : 0 < n := by
      rcases Nat.eq_zero_or_pos n with h' | h'
      · subst h'; simp at hne
      · exact h'
    rw [if_neg (by omega)]
    refine ⟨b, o + i, by simp [Addr.add], hb, fun j u hu => ?_⟩
    have hj := (List.getElem?_eq_some_iff.1 hu).1
    rw [bv_len, hd] at hj
    have := hr (i + j) u (by rw [← hu]; simp [bv, List.getElem?_take, List.getElem?_drop, hj])
    rw [show o + i + j = o + (i + j) by omega]; exact this
theorem own_base {w : World} {base base' size n : Nat} {e : TypeId} {v : Value} {xs : List Value} (h : w.ownsRow base e size v n xs) (hb : base' ≤ base) : w.ownsRow base' e size v n xs :=
  ⟨h.1, h.2.elim Or.inl (fun ⟨g, cap, cur, hv, hg, r⟩ => Or.inr ⟨g, cap, cur, hv, Nat.le_trans hb hg, r⟩)⟩

set_option maxRecDepth 100000 in
set_option maxHeartbeats 4000000 in
theorem wireBytes_ct {w : World} {v : Value} {l : List UInt8} (h : ByC w v l) {i : Nat} (hi : i ≤ l.length) (hl : l.length ≤ 100000) {m : Nat} (hm : m ≤ 100000) :
    Calls Tryd.prog 66 #[v, .int .i64 i, .int .i64 m] w fun e w' => Kept (fun _ => False) w w' ∧ match bytesS (l.drop i) m with
      | some (ds, k) => ∃ x, e = .returned (.tuple #[x, .int .i64 ((i + k : Nat) : Int), .int .i64 0]) ∧ w'.ownsRow w.heap.size 5 1 x ds.length (bv ds)
      | none => ∃ x : Int, (x != 0) = true ∧ e = .returned (.tuple #[.slice none 0 0, .int .i64 0, .int .i64 x]) := by
  have uc := uint_ct h hi hl
  have hd : (l.drop i).length = l.length - i := by simp
  unfold bytesS
  cases hu : uintS (l.drop i) with
  | none =>
    rw [hu] at uc
    obtain ⟨_, a, c, hv, _⟩ := h
    subst hv
    clear hu hd
    go_enter Tryd.func66, Tryd.ntmps66
    go_wp2_with fail
    refine uc.mono ?_
    rintro e W ⟨rfl, x, hx, rfl⟩
    have hx0 : (x == 0) = false := by simpa using hx
    go_wp2_with fail
    go_ret3
    exact ⟨Kept.refl _ _, x, by simpa using hx, rfl⟩
  | some nk =>
    obtain ⟨n, k⟩ := nk
    obtain ⟨hk, hn8⟩ := uintS_le hu
    rw [hd] at hk
    have hn9 : n < 18446744073709551616 := by simpa using hn8
    rw [hu] at uc
    dsimp only at uc ⊢
    clear hu hn8
    have wm : IntKind.u64.wrap (m : Int) = m := IntWalk.u64_in _ (by omega)
    have m0 : decide ((m : Int) < 0) = false := decide_eq_false (by omega)
    have wl : IntKind.i64.wrap ((l.length : Int) - ((i + k : Nat) : Int)) = ((l.length - (i + k) : Nat) : Int) := by rw [IntWalk.i64_in _ (by omega)]; omega
    have wu : IntKind.u64.wrap ((l.length - (i + k) : Nat) : Int) = ((l.length - (i + k) : Nat) : Int) := IntWalk.u64_in _ (by omega)
    obtain ⟨j, hj⟩ : ∃ j, i + k = j := ⟨_, rfl⟩
    rw [hj] at uc wl wu
    have hjk : ∀ x, i + (k + x) = j + x := fun x => by omega
    have hjl : j ≤ l.length := by omega
    have e1 : (l.drop i).length - k = l.length - j := by rw [hd]; omega
    simp only [e1]
    by_cases c1 : m < n
    · simp only [if_pos c1]
      have d1 : decide ((m : Int) < (n : Int)) = true := decide_eq_true (by omega)
      obtain ⟨_, a, c, hv, _⟩ := h
      subst hv
      go_enter Tryd.func66, Tryd.ntmps66
      go_wp2_with fail
      refine uc.mono ?_
      rintro e W ⟨rfl, rfl⟩
      go_wp2_with fail
      go_ret3
      exact ⟨Kept.refl _ _, 3, by decide, rfl⟩
    simp only [if_neg c1]
    have d1 : decide ((m : Int) < (n : Int)) = false := decide_eq_false (by omega)
    by_cases c2 : l.length - j < n
    · simp only [if_pos c2]
      have d2 : decide (((l.length - j : Nat) : Int) < (n : Int)) = true := decide_eq_true (by omega)
      obtain ⟨_, a, c, hv, _⟩ := h
      subst hv
      go_enter Tryd.func66, Tryd.ntmps66
      go_wp2_with fail
      refine uc.mono ?_
      rintro e W ⟨rfl, rfl⟩
      go_wp2_with fail
      go_ret3
      exact ⟨Kept.refl _ _, 4, by decide, rfl⟩
    simp only [if_neg c2]
    have d2 : decide (((l.length - j : Nat) : Int) < (n : Int)) = false := decide_eq_false (by omega)
    obtain ⟨a', c', sl, hB⟩ := h.sub (i := j) (n := n) (by omega)
    have hdd : ((l.drop j).take n) = ((l.drop i).drop k).take n := by rw [List.drop_drop, hj]
    rw [hdd] at hB
    have hlen : (((l.drop i).drop k).take n).length = n := by rw [List.length_take, List.length_drop, List.length_drop]; omega
    generalize ((l.drop i).drop k).take n = ds at hB hlen
    obtain ⟨_, a, c, hv, hcap⟩ := h
    subst hv
    clear hcap
    have sl' : ∀ w', (Instr.sliceAt 22 (.slice a l.length c) (some (.int .i64 j)) (some (.int .i64 ((j : Int) + (n : Int)))) none).run Tryd.prog w' = .ok (.slice a' n c') w' := fun w' => by have := sl w'; rwa [Int.natCast_add] at this
    clear sl
    have wn : IntKind.i64.wrap (n : Int) = n := IntWalk.i64_in _ (by omega)
    have wjn : IntKind.i64.wrap ((j : Int) + (n : Int)) = ((j + n : Nat) : Int) := by rw [IntWalk.i64_in _ (by omega)]; omega
    go_enter Tryd.func66, Tryd.ntmps66
    go_wp2_with fail
    refine uc.mono ?_
    rintro e W ⟨rfl, rfl⟩
    go_wp2_with fail
    have k2 : Kept (fun _ => False) W (W.alloc (.cells #[.slice a' n c'] 22)) := (Kept.refl _ W).alloc _
    have hg := heap_last W (.cells #[.slice a' n c'] 22)
    have hR : RowsAt (W.alloc (.cells #[.slice a' n c'] 22)) (.slice (some ⟨W.heap.size, 0, none⟩) 1 1) [ds] :=
      ⟨W.heap.size, [.slice a' n c'], 1, rfl, rfl, hg, fun j x hx => by
        match j, hx with
        | 0, hx => simp at hx; subst hx; exact ⟨_, rfl, hB.kept k2⟩⟩
    have ht : total [ds] = ds.length := by simp [total]
    refine (behind_ct hR (by rw [ht]; omega) (by simp)).mono ?_
    rintro e W3 ⟨v3, rfl, ho, k3⟩
    rw [ht] at ho
    have ho' := own_base ho k2.size
    obtain ⟨a3, c3, rfl⟩ := row_form ho
    clear ho
    go_wp2_with fail
    go_ret3
    have ej : ((i + (k + n) : Nat) : Int) = (j : Int) + (n : Int) := by omega
    exact ⟨k2.trans k3, .slice a3 n c3, by rw [ej]; rfl, by rw [hlen] at ho' ⊢; simpa using ho'⟩
end Go.Proofs.YthachckofghppaaDoor
