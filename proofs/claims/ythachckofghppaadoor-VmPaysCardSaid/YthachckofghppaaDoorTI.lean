/- What is read is what is written: the plain law. -/
import Derived.Test.YthachckofghppaaDoorTH
namespace Go.Proofs.YthachckofghppaaDoor
open Go.RowKit
set_option maxRecDepth 100000
set_option linter.unusedSimpArgs false
set_option linter.unusedVariables false

theorem beN_pos : ∀ (ds : List UInt8), ds ≠ [] → ds.head? ≠ some 0 → 0 < beN ds := by
  have acc : ∀ (ds : List UInt8) (n : Nat), 0 < n → 0 < ds.foldl (fun n d => n * 256 + d.toNat) n := by
    intro ds
    induction ds with
    | nil => intro n h; exact h
    | cons d ds ih => intro n h; rw [List.foldl_cons]; exact ih _ (by omega)
  intro ds h1 h2
  cases ds with
  | nil => exact absurd rfl h1
  | cons d ds =>
    have hd : d.toNat ≠ 0 := fun e => h2 (by rw [List.head?_cons]; congr 1; exact UInt8.toNat_inj.1 (by simpa using e))
    unfold beN
    rw [List.foldl_cons]
    exact acc ds _ (by omega)
theorem beD_beN : ∀ (f : Nat) (ds : List UInt8), ds.length ≤ f → ds.head? ≠ some 0 → beD f (beN ds) = ds
  | 0, ds, h, _ => by obtain rfl := List.eq_nil_of_length_eq_zero (Nat.le_zero.1 h); rfl
  | f + 1, ds, h, hh => by
    by_cases hn : ds = []
    · subst hn; rfl
    · have hp := beN_pos ds hn hh
      have hs : ds.dropLast ++ [ds.getLast hn] = ds := List.dropLast_concat_getLast hn
      have hb : beN ds = beN ds.dropLast * 256 + (ds.getLast hn).toNat := by conv => lhs; rw [← hs, beN_snoc]
      have hlt := (ds.getLast hn).toNat_lt
      have h1 : beN ds / 256 = beN ds.dropLast := by omega
      have h2 : beN ds % 256 = (ds.getLast hn).toNat := by omega
      have hd : ds.dropLast.head? ≠ some 0 := by
        cases ds with
        | nil => exact absurd rfl hn
        | cons d ds =>
          cases ds with
          | nil => simp
          | cons e ds => simpa using hh
      unfold beD
      rw [if_neg (by omega), h1, h2, beD_beN f ds.dropLast (by rw [List.length_dropLast]; omega) hd]
      rw [show UInt8.ofNat (ds.getLast hn).toNat = ds.getLast hn by simp]
      exact hs
theorem uintS_cases {r : List UInt8} {n k : Nat} (h : uintS r = some (n, k)) : ∃ (c : UInt8) (t : List UInt8), r = c :: t ∧ c.toNat ≤ 8 ∧ ¬ (0 < c.toNat ∧ t.head? = some 0) ∧ c.toNat ≤ t.length ∧ n = beN (t.take c.toNat) ∧ k = 1 + c.toNat := by
  cases r with
  | nil => cases h
  | cons c r =>
    have e : uintS (c :: r) = if 8 < c.toNat then none else if 0 < c.toNat ∧ r.head? = some 0 then none else if r.length < c.toNat then none else some (beN (r.take c.toNat), 1 + c.toNat) := rfl
    rw [e] at h
    by_cases h1 : 8 < c.toNat
    · rw [if_pos h1] at h; cases h
    rw [if_neg h1] at h
    by_cases h2 : 0 < c.toNat ∧ r.head? = some 0
    · rw [if_pos h2] at h; cases h
    rw [if_neg h2] at h
    by_cases h3 : r.length < c.toNat
    · rw [if_pos h3] at h; cases h
    rw [if_neg h3] at h
    injection h with h; injection h with h4 h5
    exact ⟨c, r, rfl, by omega, h2, by omega, h4.symm, h5.symm⟩
theorem uintS_form {r : List UInt8} {n k : Nat} (h : uintS r = some (n, k)) : formL n ++ r.drop k = r := by
  obtain ⟨c, t, rfl, h1, h2, h3, rfl, rfl⟩ := uintS_cases h
  have hl : (t.take c.toNat).length = c.toNat := by rw [List.length_take]; omega
  have hh : (t.take c.toNat).head? ≠ some 0 := by
    rcases Nat.eq_zero_or_pos c.toNat with h0 | h0
    · rw [h0]; simp
    · intro e
      refine h2 ⟨h0, ?_⟩
      rw [List.head?_take] at e
      rw [if_neg (by omega)] at e
      exact e
  unfold formL
  rw [beD_beN 8 _ (by omega) hh, hl, show UInt8.ofNat c.toNat = c by simp, show 1 + c.toNat = c.toNat + 1 by omega, List.drop_succ_cons, List.cons_append, List.take_append_drop]
theorem uintS_app {r : List UInt8} {n k : Nat} (h : uintS r = some (n, k)) (s : List UInt8) : uintS (r ++ s) = some (n, k) := by
  obtain ⟨c, t, rfl, h1, h2, h3, rfl, rfl⟩ := uintS_cases h
  have e : uintS (c :: (t ++ s)) = if 8 < c.toNat then none else if 0 < c.toNat ∧ (t ++ s).head? = some 0 then none else if (t ++ s).length < c.toNat then none else some (beN ((t ++ s).take c.toNat), 1 + c.toNat) := rfl
  rw [List.cons_append, e, if_neg (by omega), if_neg ?_, if_neg (by rw [List.length_append]; omega), List.take_append_of_le_length h3]
  rintro ⟨h0, hh⟩
  refine h2 ⟨h0, ?_⟩
  cases t with
  | nil => simp at h3; omega
  | cons d t => simpa using hh
theorem bytesS_cases {r : List UInt8} {m : Nat} {ds : List UInt8} {k : Nat} (h : bytesS r m = some (ds, k)) : ∃ n k', uintS r = some (n, k') ∧ n ≤ m ∧ n ≤ r.length - k' ∧ ds = (r.drop k').take n ∧ k = k' + n := by
  unfold bytesS at h
  cases hu : uintS r with
  | none => rw [hu] at h; cases h
  | some nk =>
    obtain ⟨n, k'⟩ := nk
    rw [hu] at h
    dsimp only at h
    by_cases h1 : m < n
    · rw [if_pos h1] at h; cases h
    rw [if_neg h1] at h
    by_cases h2 : r.length - k' < n
    · rw [if_pos h2] at h; cases h
    rw [if_neg h2] at h
    injection h with h; injection h with h3 h4
    exact ⟨n, k', rfl, by omega, by omega, h3.symm, h4.symm⟩
theorem bytesS_form {r : List UInt8} {m : Nat} {ds : List UInt8} {k : Nat} (h : bytesS r m = some (ds, k)) : formL ds.length ++ ds ++ r.drop k = r := by
  obtain ⟨n, k', hu, h1, h2, rfl, rfl⟩ := bytesS_cases h
  have hl : ((r.drop k').take n).length = n := by rw [List.length_take, List.length_drop]; omega
  rw [hl, List.append_assoc, ← List.drop_drop, List.take_append_drop]
  exact uintS_form hu
theorem bytesS_app {r : List UInt8} {m : Nat} {ds : List UInt8} {k : Nat} (h : bytesS r m = some (ds, k)) (s : List UInt8) : bytesS (r ++ s) m = some (ds, k) := by
  obtain ⟨n, k', hu, h1, h2, rfl, rfl⟩ := bytesS_cases h
  have hk := (uintS_le hu).1
  unfold bytesS
  rw [uintS_app hu s]
  dsimp only
  rw [if_neg (by omega), if_neg (by rw [List.length_append]; omega), List.drop_append_of_le_length hk, List.take_append_of_le_length (by rw [List.length_drop]; omega)]
theorem filesS_cases {n : Nat} {r : List UInt8} {fs : List FileE} {k : Nat} (h : filesS (n + 1) r = some (fs, k)) : ∃ p k1 x k2 gs k3, bytesS r 40 = some (p, k1) ∧ bytesS (r.drop k1) 2000 = some (x, k2) ∧ filesS n (r.drop (k1 + k2)) = some (gs, k3) ∧ fs = ⟨⟨p.toArray⟩, x⟩ :: gs ∧ k = k1 + k2 + k3 := by
  unfold filesS at h
  cases h1 : bytesS r 40 with
  | none => rw [h1] at h; cases h
  | some pk =>
    obtain ⟨p, k1⟩ := pk
    rw [h1] at h
    dsimp only at h
    cases h2 : bytesS (r.drop k1) 2000 with
    | none => rw [h2] at h; cases h
    | some xk =>
      obtain ⟨x, k2⟩ := xk
      rw [h2] at h
      dsimp only at h
      cases h3 : filesS n (r.drop (k1 + k2)) with
      | none => rw [h3] at h; cases h
      | some gk =>
        obtain ⟨gs, k3⟩ := gk
        rw [h3] at h
        dsimp only at h
        injection h with h; injection h with h4 h5
        exact ⟨p, k1, x, k2, gs, k3, rfl, h2, h3, h4.symm, h5.symm⟩
theorem filesS_form : ∀ (n : Nat) (r : List UInt8) (fs : List FileE) (k : Nat), filesS n r = some (fs, k) → fs.length = n ∧ filesL fs ++ r.drop k = r ∧ k ≤ r.length
  | 0, r, fs, k, h => by
    unfold filesS at h
    injection h with h; injection h with h1 h2
    subst h1; subst h2
    exact ⟨rfl, by simp [filesL], by omega⟩
  | n + 1, r, fs, k, h => by
    obtain ⟨p, k1, x, k2, gs, k3, h1, h2, h3, rfl, rfl⟩ := filesS_cases h
    obtain ⟨e1, e2, e3⟩ := filesS_form n _ gs k3 h3
    have f1 := bytesS_form h1
    have f2 := bytesS_form h2
    have l1 := (bytesS_le h1).1
    have l2 := (bytesS_le h2).1
    rw [List.length_drop] at l2 e3
    refine ⟨by simp [e1], ?_, by omega⟩
    have ep : (⟨p.toArray⟩ : ByteArray).size = p.length := by simp [ByteArray.size]
    unfold filesL at *
    rw [List.flatMap_cons]
    show (formL (⟨p.toArray⟩ : ByteArray).size ++ (⟨p.toArray⟩ : ByteArray).data.toList ++ (formL x.length ++ x)) ++ _ ++ _ = _
    rw [ep, show (⟨p.toArray⟩ : ByteArray).data.toList = p from rfl]
    rw [List.drop_drop] at e2 f2
    rw [List.append_assoc, show k1 + k2 + k3 = k1 + k2 + k3 from rfl, e2]
    rw [List.append_assoc, f2, f1]
theorem filesS_app : ∀ (n : Nat) (r : List UInt8) (fs : List FileE) (k : Nat), filesS n r = some (fs, k) → ∀ s, filesS n (r ++ s) = some (fs, k)
  | 0, r, fs, k, h, s => h
  | n + 1, r, fs, k, h, s => by
    obtain ⟨p, k1, x, k2, gs, k3, h1, h2, h3, rfl, rfl⟩ := filesS_cases h
    have l1 := (bytesS_le h1).1
    have l2 := (bytesS_le h2).1
    rw [List.length_drop] at l2
    unfold filesS
    rw [bytesS_app h1 s]
    dsimp only
    rw [List.drop_append_of_le_length l1, bytesS_app h2 s]
    dsimp only
    rw [List.drop_append_of_le_length (by omega), filesS_app n _ gs k3 h3 s]
theorem readS_cases {l : List UInt8} {fs : List FileE} (h : readS l = some fs) : ∃ n k j, uintS l = some (n, k) ∧ n ≤ 16 ∧ filesS n (l.drop k) = some (fs, j) ∧ k + j = l.length ∧ mayB fs = true := by
  unfold readS at h
  cases hu : uintS l with
  | none => rw [hu] at h; cases h
  | some nk =>
    obtain ⟨n, k⟩ := nk
    rw [hu] at h
    dsimp only at h
    by_cases h1 : 16 < n
    · rw [if_pos h1] at h; cases h
    rw [if_neg h1] at h
    cases hf : filesS n (l.drop k) with
    | none => rw [hf] at h; cases h
    | some fk =>
      obtain ⟨gs, j⟩ := fk
      rw [hf] at h
      dsimp only at h
      by_cases h2 : k + j = l.length ∧ mayB gs = true
      · rw [if_pos h2] at h
        injection h with h
        subst h
        exact ⟨n, k, j, rfl, by omega, hf, h2.1, h2.2⟩
      · rw [if_neg h2] at h; cases h
theorem readS_raw {l : List UInt8} {fs : List FileE} (h : readS l = some fs) : rawL fs = l ∧ mayB fs = true := by
  obtain ⟨n, k, j, hu, _, hf, hk, hm⟩ := readS_cases h
  obtain ⟨e1, e2, _⟩ := filesS_form n _ fs j hf
  have e3 := uintS_form hu
  refine ⟨?_, hm⟩
  unfold rawL
  rw [List.drop_drop, List.drop_eq_nil_of_le (by omega), List.append_nil] at e2
  rw [e1, e2, e3]
theorem readS_ext {l : List UInt8} {fs : List FileE} (h : readS l = some fs) {s : List UInt8} (hs : s ≠ []) : readS (l ++ s) = none := by
  obtain ⟨n, k, j, hu, h16, hf, hk, hm⟩ := readS_cases h
  have l1 := (uintS_le hu).1
  unfold readS
  rw [uintS_app hu s]
  dsimp only
  rw [if_neg (by omega), List.drop_append_of_le_length l1, filesS_app n _ fs j hf s]
  dsimp only
  have := List.length_pos_iff.2 hs
  rw [if_neg (fun z => by have := z.1; rw [List.length_append] at this; omega)]
theorem readS_ne {l : List UInt8} {fs : List FileE} (h : readS l = some fs) : l ≠ [] := fun e => by subst e; cases h
theorem readS_less {l : List UInt8} {fs : List FileE} (h : readS l = some fs) : readS (l.take (l.length - 1)) = none := by
  cases hr : readS (l.take (l.length - 1)) with
  | none => rfl
  | some gs =>
    have hne := readS_ne h
    have e : l.take (l.length - 1) ++ [l.getLast hne] = l := by rw [← List.dropLast_eq_take]; exact List.dropLast_concat_getLast hne
    have := readS_ext hr (s := [l.getLast hne]) (by simp)
    rw [e, h] at this
    cases this
end Go.Proofs.YthachckofghppaaDoor
