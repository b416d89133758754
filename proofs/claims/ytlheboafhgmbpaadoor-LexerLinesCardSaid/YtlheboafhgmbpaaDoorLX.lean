/- LexerPlain: the plain law. -/
import Derived.Test.YtlheboafhgmbpaaDoorLT
namespace Go.Proofs.YtlheboafhgmbpaaDoor
open Go.RowKit
set_option maxRecDepth 100000
set_option linter.unusedSimpArgs false
set_option linter.unusedVariables false

/-! ### UTF-8, one text behind the other -/
theorem conts_app (P Q : List UInt8) : ∀ (m k r : Nat), k + m ≤ P.length → contsB (P ++ Q) m k r = contsB P m k r
  | 0, k, r, _ => rfl
  | m + 1, k, r, h => by
    unfold contsB
    have e : (P ++ Q).getD k 0 = P.getD k 0 := by
      rw [List.getD_eq_getElem?_getD, List.getD_eq_getElem?_getD, List.getElem?_append_left (by omega)]
    rw [e, conts_app P Q m (k + 1) _ (by omega)]
theorem wid_pos (b : Nat) : 1 ≤ widB b ∧ widB b ≤ 4 := by
  unfold widB
  repeat' split
  all_goals omega
theorem chunk_len {P : List UInt8} {n : Nat} (h : chunkB P = some n) : 1 ≤ n ∧ n ≤ P.length := by
  unfold chunkB at h
  dsimp only at h
  have hw := wid_pos (P.getD 0 0).toNat
  repeat' split at h
  all_goals first
    | (cases h; done)
    | (injection h with h; subst h; omega)
theorem chunk_app {P : List UInt8} {n : Nat} (h : chunkB P = some n) (Q : List UInt8) : chunkB (P ++ Q) = some n := by
  have hl := chunk_len h
  have e : (P ++ Q).getD 0 0 = P.getD 0 0 := by
    rw [List.getD_eq_getElem?_getD, List.getD_eq_getElem?_getD, List.getElem?_append_left (by omega)]
  unfold chunkB at h ⊢
  dsimp only at h ⊢
  rw [e]
  generalize hb : (P.getD 0 0).toNat = b at *
  have hw := wid_pos b
  by_cases c1 : 128 ≤ b ∧ b < 192
  · rw [if_pos c1] at h; cases h
  rw [if_neg c1] at h ⊢
  by_cases c2 : P.length < widB b
  · rw [if_pos c2] at h; cases h
  rw [if_neg c2] at h
  rw [if_neg (by rw [List.length_append]; omega), conts_app P Q _ _ _ (by omega)]
  exact h
theorem validD_chunk {l : List UInt8} (hl : l ≠ []) : Lib.validD l = match chunkB l with
    | none => false
    | some n => Lib.validD (l.drop n) := by
  rw [Lib.validD_step l hl, chunk_decode l hl]
  by_cases hb : (Lib.decodeL l).1 = 65533 ∧ (Lib.decodeL l).2 = 1
  · rw [if_pos hb, if_pos hb]
  · rw [if_neg hb, if_neg hb]
theorem validD_app : ∀ (f : Nat) (P Q : List UInt8), P.length ≤ f → Lib.validD P = true → Lib.validD (P ++ Q) = Lib.validD Q
  | 0, P, Q, h, _ => by
    obtain rfl := List.eq_nil_of_length_eq_zero (Nat.le_zero.1 h)
    rfl
  | f + 1, P, Q, h, hv => by
    by_cases hP : P = []
    · subst hP; rfl
    rw [validD_chunk hP] at hv
    rw [validD_chunk (by simp [hP])]
    cases hc : chunkB P with
    | none => rw [hc] at hv; cases hv
    | some n =>
      rw [hc] at hv
      have hl := chunk_len hc
      rw [chunk_app hc Q]
      dsimp only at hv ⊢
      rw [List.drop_append_of_le_length hl.2]
      exact validD_app f (P.drop n) Q (by rw [List.length_drop]; omega) hv

/-! ### blanks and a remark behind a line -/
def tailR : List UInt8 := [32, 9, 32, 35, 32, 34, 120]
theorem fin_tail (r : RdS) (ws : List (List UInt8)) (h : finM (some r) = some ws) : finM (RdS.run r tailR) = some ws := by
  obtain ⟨st, w, wz⟩ := r
  have hst : st = 0 ∨ st = 1 ∨ st = 4 := by
    by_cases h0 : st = 0
    · exact .inl h0
    by_cases h1 : st = 1
    · exact .inr (.inl h1)
    by_cases h4 : st = 4
    · exact .inr (.inr h4)
    simp [finM, h0, h1, h4] at h
  rcases hst with rfl | rfl | rfl
  · rw [← h]; rfl
  · rw [← h]; rfl
  · rw [← h]; rfl
theorem run_tail : ∀ (P : List UInt8) (r : RdS) (ws : List (List UInt8)), finM (RdS.run r P) = some ws → finM (RdS.run r (P ++ tailR)) = some ws
  | [], r, ws, h => fin_tail r ws h
  | c :: P, r, ws, h => by
    rw [List.cons_append]
    unfold RdS.run at h ⊢
    cases hs : r.step c with
    | none => rw [hs] at h; cases h
    | some p =>
      obtain ⟨r', more⟩ := p
      rw [hs] at h
      dsimp only at h ⊢
      cases more with
      | false => exact h
      | true => simp only [if_true] at h ⊢; exact run_tail P r' ws h
theorem lineV_tail {p : List UInt8} {ws : List (List UInt8)} (h : lineV p = some ws) : lineV (p ++ tailR) = some ws := by
  unfold lineV at h ⊢
  by_cases hv : Lib.validD p = true
  · rw [if_pos hv] at h
    rw [validD_app p.length p tailR (Nat.le_refl _) hv, if_pos (by decide +kernel)]
    rw [← lineM_lineB, lineM_fin] at h ⊢
    exact run_tail p _ ws h
  · rw [if_neg hv] at h; cases h
theorem lineV_blank : lineV [9, 32] = some [] := by kernel_rfl

/-! ### the text with all that more -/
def moreX : List UInt8 := [32, 9, 32, 35, 32, 34, 120, 10, 9, 32]
def wideB : List UInt8 → List UInt8
  | [] => []
  | c :: r => if c == 10 then moreX ++ 10 :: wideB r else c :: wideB r
theorem wideB_cons (c : UInt8) (r : List UInt8) : wideB (c :: r) = if c == 10 then moreX ++ 10 :: wideB r else c :: wideB r := rfl
theorem wideB_app : ∀ a b : List UInt8, wideB (a ++ b) = wideB a ++ wideB b
  | [], b => rfl
  | c :: a, b => by
    rw [List.cons_append, wideB_cons, wideB_cons, wideB_app a b]
    split <;> simp
theorem wideB_len : ∀ a : List UInt8, (wideB a).length ≤ 11 * a.length
  | [] => by simp [wideB]
  | c :: a => by
    have := wideB_len a
    unfold wideB
    split
    · simp [moreX]; omega
    · simp; omega
def wideP : List (List UInt8) → List (List UInt8)
  | [] => []
  | [p] => [p]
  | p :: q :: ps => (p ++ tailR) :: [9, 32] :: wideP (q :: ps)
theorem wideP_head (c : UInt8) (p : List UInt8) (ps : List (List UInt8)) : ∃ x xs, wideP (p :: ps) = x :: xs ∧ wideP ((c :: p) :: ps) = (c :: x) :: xs := by
  cases ps with
  | nil => exact ⟨p, [], rfl, rfl⟩
  | cons q ps => exact ⟨p ++ tailR, [9, 32] :: wideP (q :: ps), rfl, rfl⟩
theorem wideP_ne {p : List UInt8} {ps : List (List UInt8)} : wideP (p :: ps) ≠ [] := by
  cases ps <;> simp [wideP]
theorem cutB_wide : ∀ b : List UInt8, cutB (wideB b) = wideP (cutB b)
  | [] => rfl
  | c :: r => by
    have ih := cutB_wide r
    obtain ⟨p, ps, hp⟩ : ∃ p ps, cutB r = p :: ps := by
      cases h : cutB r with
      | nil => exact absurd h (cutB_ne r)
      | cons p ps => exact ⟨p, ps, rfl⟩
    unfold wideB
    rw [cutB_cons c r]
    by_cases h : (c == 10) = true
    · rw [if_pos h, if_pos h, cutB_join, ih, hp]
      have : cutB moreX = [tailR, [9, 32]] := by decide +kernel
      rw [this]
      rfl
    · rw [if_neg h, if_neg h, cutB_cons, if_neg h, ih, hp]
      obtain ⟨x, xs, e1, e2⟩ := wideP_head c p ps
      rw [e1]
      exact e2.symm
def dblE (x : LineE) : LineE := ⟨2 * x.n - 1, x.words⟩
theorem addL_dbl (acc : List LineE) (k : Nat) (ws : List (List UInt8)) : addL (acc.map dblE) (2 * k - 1) ws = (addL acc k ws).map dblE := by
  unfold addL
  split
  · rfl
  · simp [dblE]
theorem foldL_wide : ∀ (P : List (List UInt8)) (acc : List LineE) (k : Nat) (ls : List LineE), 1 ≤ k → foldL acc k P = .ok ls → foldL (acc.map dblE) (2 * k - 1) (wideP P) = .ok (ls.map dblE)
  | [], acc, k, ls, hk, h => by unfold foldL at h; injection h with h; subst h; rfl
  | [p], acc, k, ls, hk, h => by
    cases hl : lineV p with
    | none => rw [foldL_none hl] at h; cases h
    | some ws =>
      rw [foldL_some hl] at h
      unfold foldL at h
      injection h with h
      subst h
      show foldL _ _ [p] = _
      rw [foldL_some hl, addL_dbl]
      rfl
  | p :: q :: ps, acc, k, ls, hk, h => by
    cases hl : lineV p with
    | none => rw [foldL_none hl] at h; cases h
    | some ws =>
      rw [foldL_some hl] at h
      have ih := foldL_wide (q :: ps) _ (k + 1) ls (by omega) h
      show foldL _ _ ((p ++ tailR) :: [9, 32] :: wideP (q :: ps)) = _
      rw [foldL_some (lineV_tail hl), foldL_some lineV_blank, addL_dbl]
      rw [show addL ((addL acc k ws).map dblE) (2 * k - 1 + 1) [] = (addL acc k ws).map dblE from rfl]
      rw [show 2 * k - 1 + 1 + 1 = 2 * (k + 1) - 1 by omega]
      exact ih
theorem foldL_pos : ∀ (P : List (List UInt8)) (acc : List LineE) (n : Nat) (xs : List LineE), (∀ x ∈ acc, 1 ≤ x.n) → 1 ≤ n → foldL acc n P = .ok xs → ∀ x ∈ xs, 1 ≤ x.n
  | [], acc, n, xs, ha, _, h => by unfold foldL at h; injection h with h; subst h; exact ha
  | p :: P, acc, n, xs, ha, hn, h => by
    cases hl : lineV p with
    | none => rw [foldL_none hl] at h; cases h
    | some ws =>
      rw [foldL_some hl] at h
      refine foldL_pos P _ _ _ (fun x hx => ?_) (by omega) h
      unfold addL at hx
      split at hx
      · exact ha x hx
      · rcases List.mem_append.1 hx with hx | hx
        · exact ha x hx
        · simp at hx; subst hx; exact hn
end Go.Proofs.YtlheboafhgmbpaaDoor
