/- UTF-8 as the document tells it is UTF-8 as the model's decoder has it. -/
import Derived.Test.YtlheboafhgmbpaaDoorLB
namespace Go.Proofs.YtlheboafhgmbpaaDoor
open Go.Lib
set_option maxRecDepth 100000
set_option linter.unusedSimpArgs false
set_option linter.unusedVariables false

def widB (b : Nat) : Nat := if 240 ≤ b then 4 else if 224 ≤ b then 3 else if 192 ≤ b then 2 else 1
def lowB (b : Nat) : Nat := if 240 ≤ b then b - 240 else if 224 ≤ b then b - 224 else if 192 ≤ b then b - 192 else b
def leastB (n : Nat) : Nat := if n = 4 then 65536 else if n = 3 then 2048 else if n = 2 then 128 else 0
/-- So many more bytes of a rune, from the k-th on. -/
def contsB (l : List UInt8) : Nat → Nat → Nat → Option Nat
  | 0, _, r => some r
  | m + 1, k, r => if (l.getD k 0).toNat < 128 ∨ 191 < (l.getD k 0).toNat then none else contsB l m (k + 1) (r * 64 + (l.getD k 0).toNat - 128)
def fitB (n r : Nat) : Bool := !(decide (r < leastB n) || decide (1114111 < r) || (decide (55296 ≤ r) && decide (r ≤ 57343)))
/-- A rune at the head: how many bytes it takes. -/
def chunkB (l : List UInt8) : Option Nat :=
  let b := (l.getD 0 0).toNat
  if 128 ≤ b ∧ b < 192 then none
  else if l.length < widB b then none
  else match contsB l (widB b - 1) 1 (lowB b) with
    | none => none
    | some r => if fitB (widB b) r = true then some (widB b) else none
def utfB : Nat → List UInt8 → Bool
  | 0, _ => true
  | f + 1, l => if l = [] then true else match chunkB l with
    | none => false
    | some n => utfB f (l.drop n)
theorem chunk_decode (l : List UInt8) (hne : l ≠ []) : chunkB l = if (decodeL l).1 = 65533 ∧ (decodeL l).2 = 1 then none else some (decodeL l).2 := by
  have hl : 0 < l.length := List.length_pos_iff.2 hne
  rw [decodeL_N]
  unfold chunkB
  have k0 := (l.getD 0 0).toNat_lt
  have k1 := (l.getD 1 0).toNat_lt
  have k2 := (l.getD 2 0).toNat_lt
  have k3 := (l.getD 3 0).toNat_lt
  have c0 : ∀ k r, contsB l 0 k r = some r := fun _ _ => rfl
  have cs : ∀ m k r, contsB l (m + 1) k r = if (l.getD k 0).toNat < 128 ∨ 191 < (l.getD k 0).toNat then none else contsB l m (k + 1) (r * 64 + (l.getD k 0).toNat - 128) := fun _ _ _ => rfl
  obtain ⟨b0, h0⟩ : ∃ b, (l.getD 0 0).toNat = b := ⟨_, rfl⟩
  obtain ⟨b1, h1⟩ : ∃ b, (l.getD 1 0).toNat = b := ⟨_, rfl⟩
  obtain ⟨b2, h2⟩ : ∃ b, (l.getD 2 0).toNat = b := ⟨_, rfl⟩
  obtain ⟨b3, h3⟩ : ∃ b, (l.getD 3 0).toNat = b := ⟨_, rfl⟩
  rw [h0] at k0
  rw [h1] at k1
  rw [h2] at k2
  rw [h3] at k3
  rw [h0, h1, h2, h3]
  dsimp only
  generalize l.length = n at *
  by_cases q1 : b0 < 128
  · have e : decodeN n b0 b1 b2 b3 = (b0, 1) := by unfold decodeN; rw [if_pos q1]
    have w1 : widB b0 = 1 := by unfold widB; rw [if_neg (by omega), if_neg (by omega), if_neg (by omega)]
    have w2 : lowB b0 = b0 := by unfold lowB; rw [if_neg (by omega), if_neg (by omega), if_neg (by omega)]
    have w3 : fitB 1 b0 = true := by unfold fitB leastB; simp; omega
    rw [e, w1, w2, if_neg (by omega), if_neg (by omega), c0, if_neg (by dsimp only; omega)]
    dsimp only
    rw [w3, if_pos rfl]
  by_cases q2 : b0 < 192
  · rw [if_pos (by omega)]
    have e : decodeN n b0 b1 b2 b3 = (65533, 1) := by
      rcases decodeN_shape n b0 b1 b2 b3 with ⟨c, e⟩ | ⟨c1, c2, c3, cv, e⟩ | ⟨c1, c2, c3, c4, cv, cw, e⟩ | ⟨c1, c2, c3, c4, c5, cv, cw, e⟩ | e
      · omega
      · omega
      · omega
      · omega
      · exact e
    rw [e, if_pos ⟨rfl, rfl⟩]
  rw [if_neg (by omega)]
  have fitT : ∀ k r, leastB k ≤ r → r ≤ 1114111 → ¬ (55296 ≤ r ∧ r ≤ 57343) → fitB k r = true := fun k r a b c => by unfold fitB; simp; omega
  have fitF : ∀ k r, (r < leastB k ∨ 1114111 < r ∨ (55296 ≤ r ∧ r ≤ 57343)) → ¬ fitB k r = true := fun k r a => by unfold fitB; simp; omega
  by_cases q3 : b0 < 224
  · skip
    have w1 : widB b0 = 2 := by unfold widB; rw [if_neg (by omega), if_neg (by omega), if_pos (by omega)]
    have w2 : lowB b0 = b0 - 192 := by unfold lowB; rw [if_neg (by omega), if_neg (by omega), if_pos (by omega)]
    have l2 : leastB 2 = 128 := rfl
    rw [w1, w2]
    by_cases a1 : n < 2
    · rw [if_pos a1]
      have e : decodeN n b0 b1 b2 b3 = (65533, 1) := by
        rcases decodeN_shape n b0 b1 b2 b3 with ⟨c, e⟩ | ⟨c1, c2, c3, cv, e⟩ | ⟨c1, c2, c3, c4, cv, cw, e⟩ | ⟨c1, c2, c3, c4, c5, cv, cw, e⟩ | e
        · omega
        · omega
        · omega
        · omega
        · exact e
      rw [e]
      rw [if_pos ⟨rfl, rfl⟩]
    rw [if_neg a1]
    show (match contsB l 1 1 (b0 - 192) with | none => none | some r => if fitB 2 r = true then some 2 else none) = _
    rw [cs, h1]
    by_cases d1 : b1 < 128 ∨ 191 < b1
    · rw [if_pos d1]
      have e : decodeN n b0 b1 b2 b3 = (65533, 1) := by
        rcases decodeN_shape n b0 b1 b2 b3 with ⟨c, e⟩ | ⟨c1, c2, c3, cv, e⟩ | ⟨c1, c2, c3, c4, cv, cw, e⟩ | ⟨c1, c2, c3, c4, c5, cv, cw, e⟩ | e
        · omega
        · omega
        · omega
        · omega
        · exact e
      rw [e]
      rw [if_pos ⟨rfl, rfl⟩]
    rw [if_neg d1]
    rw [c0]
    dsimp only
    obtain ⟨r, hr⟩ : ∃ r, ((b0 - 192) * 64 + b1 - 128) = r := ⟨_, rfl⟩
    rw [hr]
    by_cases f : r < 128 ∨ 1114111 < r ∨ (55296 ≤ r ∧ r ≤ 57343)
    · rw [if_neg (fitF 2 r (by rw [l2]; exact f))]
      have e : decodeN n b0 b1 b2 b3 = (65533, 1) := by
        rcases decodeN_shape n b0 b1 b2 b3 with ⟨c, e⟩ | ⟨c1, c2, c3, cv, e⟩ | ⟨c1, c2, c3, c4, cv, cw, e⟩ | ⟨c1, c2, c3, c4, c5, cv, cw, e⟩ | e
        · omega
        · omega
        · omega
        · omega
        · exact e
      rw [e]
      rw [if_pos ⟨rfl, rfl⟩]
    · rw [if_pos (fitT 2 r (by rw [l2]; omega) (by omega) (by omega))]
      have e : decodeN n b0 b1 b2 b3 = (b0 % 32 * 64 + b1 % 64, 2) := by
        unfold decodeN
        rw [if_neg q1, if_pos (by omega), if_pos (by omega)]
      rw [e, if_neg (by dsimp only; omega)]
  by_cases q4 : b0 < 240
  · skip
    have w1 : widB b0 = 3 := by unfold widB; rw [if_neg (by omega), if_pos (by omega)]
    have w2 : lowB b0 = b0 - 224 := by unfold lowB; rw [if_neg (by omega), if_pos (by omega)]
    have l2 : leastB 3 = 2048 := rfl
    rw [w1, w2]
    by_cases a1 : n < 3
    · rw [if_pos a1]
      have e : decodeN n b0 b1 b2 b3 = (65533, 1) := by
        rcases decodeN_shape n b0 b1 b2 b3 with ⟨c, e⟩ | ⟨c1, c2, c3, cv, e⟩ | ⟨c1, c2, c3, c4, cv, cw, e⟩ | ⟨c1, c2, c3, c4, c5, cv, cw, e⟩ | e
        · omega
        · omega
        · omega
        · omega
        · exact e
      rw [e]
      rw [if_pos ⟨rfl, rfl⟩]
    rw [if_neg a1]
    show (match contsB l 2 1 (b0 - 224) with | none => none | some r => if fitB 3 r = true then some 3 else none) = _
    rw [cs, h1]
    by_cases d1 : b1 < 128 ∨ 191 < b1
    · rw [if_pos d1]
      have e : decodeN n b0 b1 b2 b3 = (65533, 1) := by
        rcases decodeN_shape n b0 b1 b2 b3 with ⟨c, e⟩ | ⟨c1, c2, c3, cv, e⟩ | ⟨c1, c2, c3, c4, cv, cw, e⟩ | ⟨c1, c2, c3, c4, c5, cv, cw, e⟩ | e
        · omega
        · omega
        · omega
        · omega
        · exact e
      rw [e]
      rw [if_pos ⟨rfl, rfl⟩]
    rw [if_neg d1]
    rw [cs, h2]
    by_cases d2 : b2 < 128 ∨ 191 < b2
    · rw [if_pos d2]
      have e : decodeN n b0 b1 b2 b3 = (65533, 1) := by
        rcases decodeN_shape n b0 b1 b2 b3 with ⟨c, e⟩ | ⟨c1, c2, c3, cv, e⟩ | ⟨c1, c2, c3, c4, cv, cw, e⟩ | ⟨c1, c2, c3, c4, c5, cv, cw, e⟩ | e
        · omega
        · omega
        · omega
        · omega
        · exact e
      rw [e]
      rw [if_pos ⟨rfl, rfl⟩]
    rw [if_neg d2]
    rw [c0]
    dsimp only
    obtain ⟨r, hr⟩ : ∃ r, (((b0 - 224) * 64 + b1 - 128) * 64 + b2 - 128) = r := ⟨_, rfl⟩
    rw [hr]
    by_cases f : r < 2048 ∨ 1114111 < r ∨ (55296 ≤ r ∧ r ≤ 57343)
    · rw [if_neg (fitF 3 r (by rw [l2]; exact f))]
      have e : decodeN n b0 b1 b2 b3 = (65533, 1) := by
        rcases decodeN_shape n b0 b1 b2 b3 with ⟨c, e⟩ | ⟨c1, c2, c3, cv, e⟩ | ⟨c1, c2, c3, c4, cv, cw, e⟩ | ⟨c1, c2, c3, c4, c5, cv, cw, e⟩ | e
        · omega
        · omega
        · omega
        · omega
        · exact e
      rw [e]
      rw [if_pos ⟨rfl, rfl⟩]
    · rw [if_pos (fitT 3 r (by rw [l2]; omega) (by omega) (by omega))]
      have e : decodeN n b0 b1 b2 b3 = (b0 % 16 * 4096 + b1 % 64 * 64 + b2 % 64, 3) := by
        unfold decodeN
        rw [if_neg q1, if_neg (by omega), if_pos (by omega), if_pos (by omega)]
      rw [e, if_neg (by dsimp only; omega)]
  · skip
    have w1 : widB b0 = 4 := by unfold widB; rw [if_pos (by omega)]
    have w2 : lowB b0 = b0 - 240 := by unfold lowB; rw [if_pos (by omega)]
    have l2 : leastB 4 = 65536 := rfl
    rw [w1, w2]
    by_cases a1 : n < 4
    · rw [if_pos a1]
      have e : decodeN n b0 b1 b2 b3 = (65533, 1) := by
        rcases decodeN_shape n b0 b1 b2 b3 with ⟨c, e⟩ | ⟨c1, c2, c3, cv, e⟩ | ⟨c1, c2, c3, c4, cv, cw, e⟩ | ⟨c1, c2, c3, c4, c5, cv, cw, e⟩ | e
        · omega
        · omega
        · omega
        · omega
        · exact e
      rw [e]
      rw [if_pos ⟨rfl, rfl⟩]
    rw [if_neg a1]
    show (match contsB l 3 1 (b0 - 240) with | none => none | some r => if fitB 4 r = true then some 4 else none) = _
    rw [cs, h1]
    by_cases d1 : b1 < 128 ∨ 191 < b1
    · rw [if_pos d1]
      have e : decodeN n b0 b1 b2 b3 = (65533, 1) := by
        rcases decodeN_shape n b0 b1 b2 b3 with ⟨c, e⟩ | ⟨c1, c2, c3, cv, e⟩ | ⟨c1, c2, c3, c4, cv, cw, e⟩ | ⟨c1, c2, c3, c4, c5, cv, cw, e⟩ | e
        · omega
        · omega
        · omega
        · omega
        · exact e
      rw [e]
      rw [if_pos ⟨rfl, rfl⟩]
    rw [if_neg d1]
    rw [cs, h2]
    by_cases d2 : b2 < 128 ∨ 191 < b2
    · rw [if_pos d2]
      have e : decodeN n b0 b1 b2 b3 = (65533, 1) := by
        rcases decodeN_shape n b0 b1 b2 b3 with ⟨c, e⟩ | ⟨c1, c2, c3, cv, e⟩ | ⟨c1, c2, c3, c4, cv, cw, e⟩ | ⟨c1, c2, c3, c4, c5, cv, cw, e⟩ | e
        · omega
        · omega
        · omega
        · omega
        · exact e
      rw [e]
      rw [if_pos ⟨rfl, rfl⟩]
    rw [if_neg d2]
    rw [cs, h3]
    by_cases d3 : b3 < 128 ∨ 191 < b3
    · rw [if_pos d3]
      have e : decodeN n b0 b1 b2 b3 = (65533, 1) := by
        rcases decodeN_shape n b0 b1 b2 b3 with ⟨c, e⟩ | ⟨c1, c2, c3, cv, e⟩ | ⟨c1, c2, c3, c4, cv, cw, e⟩ | ⟨c1, c2, c3, c4, c5, cv, cw, e⟩ | e
        · omega
        · omega
        · omega
        · omega
        · exact e
      rw [e]
      rw [if_pos ⟨rfl, rfl⟩]
    rw [if_neg d3]
    rw [c0]
    dsimp only
    obtain ⟨r, hr⟩ : ∃ r, ((((b0 - 240) * 64 + b1 - 128) * 64 + b2 - 128) * 64 + b3 - 128) = r := ⟨_, rfl⟩
    rw [hr]
    by_cases f : r < 65536 ∨ 1114111 < r ∨ (55296 ≤ r ∧ r ≤ 57343)
    · rw [if_neg (fitF 4 r (by rw [l2]; exact f))]
      have e : decodeN n b0 b1 b2 b3 = (65533, 1) := by
        rcases decodeN_shape n b0 b1 b2 b3 with ⟨c, e⟩ | ⟨c1, c2, c3, cv, e⟩ | ⟨c1, c2, c3, c4, cv, cw, e⟩ | ⟨c1, c2, c3, c4, c5, cv, cw, e⟩ | e
        · omega
        · omega
        · omega
        · omega
        · exact e
      rw [e]
      rw [if_pos ⟨rfl, rfl⟩]
    · rw [if_pos (fitT 4 r (by rw [l2]; omega) (by omega) (by omega))]
      have e : decodeN n b0 b1 b2 b3 = (b0 % 8 * 262144 + b1 % 64 * 4096 + b2 % 64 * 64 + b3 % 64, 4) := by
        unfold decodeN
        rw [if_neg q1, if_neg (by omega), if_neg (by omega), if_pos (by omega), if_pos (by omega)]
      rw [e, if_neg (by dsimp only; omega)]
theorem utf_valid : ∀ (f : Nat) (l : List UInt8), l.length ≤ f → utfB f l = validD l
  | 0, l, h => by
    obtain rfl := List.eq_nil_of_length_eq_zero (Nat.le_zero.1 h)
    rfl
  | f + 1, l, h => by
    unfold utfB
    by_cases hl : l = []
    · subst hl; rfl
    rw [if_neg hl, validD_step l hl, chunk_decode l hl]
    have hw := decodeL_width l
    by_cases hb : (decodeL l).1 = 65533 ∧ (decodeL l).2 = 1
    · rw [if_pos hb, if_pos hb]
    · rw [if_neg hb, if_neg hb]
      exact utf_valid f _ (by rw [List.length_drop]; omega)
end Go.Proofs.YtlheboafhgmbpaaDoor
