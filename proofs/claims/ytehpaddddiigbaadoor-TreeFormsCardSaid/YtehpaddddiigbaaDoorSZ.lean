/- What is written is read again (plain). -/
import Derived.Test.YtehpaddddiigbaaDoorTI
namespace Go.Proofs.YtehpaddddiigbaaDoor
open Go.RowKit
set_option maxRecDepth 100000
set_option linter.unusedSimpArgs false
set_option linter.unusedVariables false

theorem beN_beD : ∀ (f n : Nat), n < 256 ^ f → beN (beD f n) = n
  | 0, n, h => by simp at h; subst h; rfl
  | f + 1, n, h => by
    unfold beD
    by_cases h0 : n = 0
    · rw [if_pos h0, h0]; rfl
    · rw [if_neg h0, beN_snoc, beN_beD f (n / 256) (by rw [Nat.pow_succ] at h; omega), UInt8.toNat_ofNat']
      omega
theorem beD_nil : ∀ (f n : Nat), n < 256 ^ f → beD f n = [] → n = 0
  | 0, n, h, _ => by simpa using h
  | f + 1, n, _, he => by
    unfold beD at he
    by_cases h0 : n = 0
    · exact h0
    · rw [if_neg h0] at he; simp at he
theorem beD_head : ∀ (f n : Nat), n < 256 ^ f → (beD f n).head? ≠ some 0
  | 0, _, _ => by simp [beD]
  | f + 1, n, h => by
    unfold beD
    by_cases h0 : n = 0
    · rw [if_pos h0]; simp
    · rw [if_neg h0]
      have h1 : n / 256 < 256 ^ f := by rw [Nat.pow_succ] at h; omega
      by_cases he : beD f (n / 256) = []
      · have hz := beD_nil f _ h1 he
        rw [he]
        simp only [List.nil_append, List.head?_cons]
        intro e
        injection e with e
        have := congrArg UInt8.toNat e
        rw [UInt8.toNat_ofNat'] at this
        simp at this
        omega
      · cases hd : beD f (n / 256) with
        | nil => exact absurd hd he
        | cons d ds =>
          have := beD_head f _ h1
          rw [hd] at this
          simpa using this
theorem uintS_of (n : Nat) (h : n < 256 ^ 8) (r : List UInt8) : uintS (formL n ++ r) = some (n, (formL n).length) := by
  have hl := beD_len 8 n
  have hc : (UInt8.ofNat (beD 8 n).length).toNat = (beD 8 n).length := by rw [UInt8.toNat_ofNat']; omega
  have e : uintS (formL n ++ r) = if 8 < (UInt8.ofNat (beD 8 n).length).toNat then none else if 0 < (UInt8.ofNat (beD 8 n).length).toNat ∧ (beD 8 n ++ r).head? = some 0 then none else if (beD 8 n ++ r).length < (UInt8.ofNat (beD 8 n).length).toNat then none else some (beN ((beD 8 n ++ r).take (UInt8.ofNat (beD 8 n).length).toNat), 1 + (UInt8.ofNat (beD 8 n).length).toNat) := rfl
  rw [e, hc, if_neg (by omega), if_neg, if_neg (by rw [List.length_append]; omega), List.take_left', beN_beD 8 n h]
  · congr 2
    unfold formL
    rw [List.length_cons]
    omega
  · rfl
  · rintro ⟨h1, h2⟩
    have := beD_head 8 n h
    cases hd : beD 8 n with
    | nil => rw [hd] at h1; simp at h1
    | cons d ds => rw [hd] at this h2; exact this (by simpa using h2)
theorem bytesS_of (ds : List UInt8) {m : Nat} (h : ds.length ≤ m) (hm : m ≤ 100000) (r : List UInt8) : bytesS (formL ds.length ++ (ds ++ r)) m = some (ds, (formL ds.length).length + ds.length) := by
  unfold bytesS
  rw [uintS_of ds.length (by have : 100000 < 256 ^ 8 := by decide
                             omega)]
  dsimp only
  rw [if_neg (by omega), if_neg (by rw [List.length_append, List.length_append]; omega), List.drop_left', List.take_left']
  · rfl
  · rfl
theorem filesS_of : ∀ (l : List FileE) (r : List UInt8), (∀ f ∈ l, f.path.size ≤ 40 ∧ f.bytes.length ≤ 2000) → filesS l.length (filesL l ++ r) = some (l, (filesL l).length)
  | [], _, _ => rfl
  | f :: l, r, h => by
    obtain ⟨h1, h2⟩ := h f List.mem_cons_self
    have hp : f.path.data.toList.length = f.path.size := by simp
    have e : filesL (f :: l) = formL f.path.data.toList.length ++ (f.path.data.toList ++ (formL f.bytes.length ++ (f.bytes ++ filesL l))) := by
      unfold filesL
      rw [List.flatMap_cons, hp]
      simp [List.append_assoc]
    have ih := filesS_of l r (fun g hg => h g (List.mem_cons_of_mem _ hg))
    rw [e]
    simp only [List.append_assoc]
    show (match bytesS _ 40 with
      | none => none
      | some (p, k1) => match bytesS (List.drop k1 _) 2000 with
        | none => none
        | some (x, k2) => match filesS l.length (List.drop (k1 + k2) _) with
          | none => none
          | some (fs, k) => some ((⟨⟨p.toArray⟩, x⟩ : FileE) :: fs, k1 + k2 + k)) = _
    rw [bytesS_of f.path.data.toList (by omega) (by decide)]
    dsimp only
    have d1 : List.drop ((formL f.path.data.toList.length).length + f.path.data.toList.length) (formL f.path.data.toList.length ++ (f.path.data.toList ++ (formL f.bytes.length ++ (f.bytes ++ (filesL l ++ r))))) = formL f.bytes.length ++ (f.bytes ++ (filesL l ++ r)) := by
      rw [← List.append_assoc (formL f.path.data.toList.length), List.drop_left' (by rw [List.length_append])]
    rw [d1, bytesS_of f.bytes h2 (by decide)]
    dsimp only
    have d2 : List.drop ((formL f.path.data.toList.length).length + f.path.data.toList.length + ((formL f.bytes.length).length + f.bytes.length)) (formL f.path.data.toList.length ++ (f.path.data.toList ++ (formL f.bytes.length ++ (f.bytes ++ (filesL l ++ r))))) = filesL l ++ r := by
      rw [← List.drop_drop, d1, ← List.append_assoc (formL f.bytes.length), List.drop_left' (by rw [List.length_append])]
    rw [d2, ih]
    simp only [List.length_append]
    congr 2
    omega
theorem readS_rawL {l : List FileE} (hm : mayB l = true) : readS (rawL l) = some l := by
  have hi := mayIs hm
  have hf := fun f hf => (⟨(hi.file f hf).2.1, (hi.file f hf).2.2⟩ : f.path.size ≤ 40 ∧ f.bytes.length ≤ 2000)
  have hl := hi.len
  unfold readS rawL
  rw [uintS_of l.length (by have : 16 < 256 ^ 8 := by decide
                            omega)]
  dsimp only
  have hfs := filesS_of l [] hf
  rw [List.append_nil] at hfs
  rw [if_neg (by omega), List.drop_left' rfl, hfs]
  dsimp only
  rw [if_pos ⟨by rw [List.length_append], hm⟩]
theorem rawL_inj {a b : List FileE} (ha : mayB a = true) (hb : mayB b = true) (h : rawL a = rawL b) : a = b := by
  have h1 := readS_rawL ha
  rw [h, readS_rawL hb] at h1
  injection h1 with h1
  exact h1.symm
