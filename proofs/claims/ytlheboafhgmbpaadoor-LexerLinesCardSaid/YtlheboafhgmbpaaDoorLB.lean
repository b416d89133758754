/- The lexer's plain law, second part: the machine tells what the document tells; runes and bytes; UTF-8 as the document has it. -/
import Derived.Test.YtlheboafhgmbpaaDoorLA
import Derived.Lib.MapLaws
import Derived.Lib.ValidLaws
namespace Go.Proofs.YtlheboafhgmbpaaDoor
open Go.Lib
set_option maxRecDepth 100000
set_option linter.unusedSimpArgs false
set_option linter.unusedVariables false

def HeadEnd (q : List UInt8) : Prop := q = [] ∨ ∃ d r, q = d :: r ∧ endB d = true
theorem quoted_shape : ∀ (n : Nat) (l : List UInt8), l.length ≤ n → ∀ x q, quotedB l = some (x, q) → q.length < l.length ∧ HeadEnd q
  | _, [], _, x, q, h => by simp [quotedB] at h
  | _, [c], _, x, q, h => by
    unfold quotedB at h
    by_cases h1 : (c == 34) = true
    · simp only [h1, if_true] at h
      injection h with h; injection h with _ h; subst h
      exact ⟨by simp, .inl rfl⟩
    · simp [h1] at h
  | 0, _ :: _ :: _, hn, _, _, _ => absurd hn (by simp)
  | n + 1, c :: d :: r, hn, x, q, h => by
    have ih1 := quoted_shape n (d :: r) (by simp at hn ⊢; omega)
    have ih2 := quoted_shape n r (by simp at hn ⊢; omega)
    unfold quotedB at h
    by_cases h1 : (c == 34) = true
    · by_cases h2 : endB d = true
      · simp only [h1, h2, if_true] at h
        injection h with h; injection h with _ h; subst h
        exact ⟨by simp, .inr ⟨d, r, rfl, h2⟩⟩
      · simp [h1, h2] at h
    · by_cases h2 : (c == 92) = true
      · simp only [h1, h2, if_true, if_false, Bool.false_eq_true] at h
        by_cases h3 : (d == 110) = true
        · simp only [h3, if_true] at h
          cases hq : quotedB r with
          | none => rw [hq] at h; simp at h
          | some p =>
            obtain ⟨y, z⟩ := p
            rw [hq] at h
            simp only [Option.map_some, Option.some.injEq, Prod.mk.injEq] at h
            obtain ⟨_, rfl⟩ := h
            have := ih2 y z hq
            exact ⟨by simp; omega, this.2⟩
        · by_cases h4 : (d == 34 || d == 92) = true
          · simp only [h3, h4, if_true, if_false, Bool.false_eq_true] at h
            cases hq : quotedB r with
            | none => rw [hq] at h; simp at h
            | some p =>
              obtain ⟨y, z⟩ := p
              rw [hq] at h
              simp only [Option.map_some, Option.some.injEq, Prod.mk.injEq] at h
              obtain ⟨_, rfl⟩ := h
              have := ih2 y z hq
              exact ⟨by simp; omega, this.2⟩
          · simp [h3, h4] at h
      · by_cases h3 : ctrlB c = true
        · simp [h1, h2, h3] at h
        · simp only [h1, h2, h3, if_false, Bool.false_eq_true] at h
          cases hq : quotedB (d :: r) with
          | none => rw [hq] at h; simp at h
          | some p =>
            obtain ⟨y, z⟩ := p
            rw [hq] at h
            simp only [Option.map_some, Option.some.injEq, Prod.mk.injEq] at h
            obtain ⟨_, rfl⟩ := h
            have := ih1 y z hq
            exact ⟨by simp at this ⊢; omega, this.2⟩
theorem plain_shape : ∀ (l x q : List UInt8), plainB l = some (x, q) → q.length ≤ l.length ∧ HeadEnd q
  | [], x, q, h => by
    unfold plainB at h
    injection h with h; injection h with _ h; subst h
    exact ⟨by simp, .inl rfl⟩
  | c :: l, x, q, h => by
    unfold plainB at h
    by_cases h1 : endB c = true
    · simp only [h1, if_true] at h
      injection h with h; injection h with _ h; subst h
      exact ⟨by simp, .inr ⟨c, l, rfl, h1⟩⟩
    · by_cases h2 : (c == 34) = true
      · simp [h1, h2] at h
      · by_cases h3 : ctrlB c = true
        · simp [h1, h2, h3] at h
        · simp only [h1, h2, h3, if_false, Bool.false_eq_true] at h
          cases hq : plainB l with
          | none => rw [hq] at h; simp at h
          | some p =>
            obtain ⟨y, z⟩ := p
            rw [hq] at h
            simp only [Option.map_some, Option.some.injEq, Prod.mk.injEq] at h
            obtain ⟨_, rfl⟩ := h
            have := plain_shape l y z hq
            exact ⟨by simp; omega, this.2⟩
theorem fin4 {q : List UInt8} (h : HeadEnd q) (ws : List (List UInt8)) : finM (RdS.run ⟨4, [], ws⟩ q) = finM (RdS.run ⟨0, [], ws⟩ q) := by
  rcases h with rfl | ⟨d, r, rfl, hd⟩
  · rfl
  · rw [run_end hd]
theorem step0 (ws : List (List UInt8)) (c : UInt8) (l : List UInt8) : RdS.run ⟨0, [], ws⟩ (c :: l) =
    if c == 35 then some ⟨0, [], ws⟩ else if blankB c then RdS.run ⟨0, [], ws⟩ l else if c == 34 then RdS.run ⟨2, [], ws⟩ l else if ctrlB c then none else RdS.run ⟨1, [c], ws⟩ l := by
  by_cases h1 : (c == 35) = true
  · have h1' : c = 35 := by simpa using h1
    subst h1'
    rfl
  · have h1' : ¬ c = 35 := by simpa using h1
    by_cases h2 : blankB c = true
    · have he : endB c = true := by unfold endB; simp [h2]
      have hc : (c != 35) = true := by simpa using h1'
      simp [RdS.run, RdS.step, he, hc, h1', h2]
    · have he : endB c = false := by unfold endB; simp [h2, h1']
      by_cases h3 : (c == 34) = true
      · have h3' : c = 34 := by simpa using h3
        subst h3'
        rfl
      · have h3' : ¬ c = 34 := by simpa using h3
        by_cases h4 : ctrlB c = true
        · simp [RdS.run, RdS.step, he, h1', h2, h3', h4]
        · simp [RdS.run, RdS.step, RdS.put, he, h1', h2, h3', h4]
theorem words_run : ∀ (n : Nat) (l : List UInt8), l.length < n → ∀ ws, finM (RdS.run ⟨0, [], ws⟩ l) = (wordsB n l).map (fun x => ws ++ x)
  | 0, _, h, _ => absurd h (by omega)
  | n + 1, [], _, ws => by simp [RdS.run, finM, wordsB]
  | n + 1, c :: r, h, ws => by
    have ih := words_run n
    rw [step0]
    unfold wordsB
    have hr : r.length < n := by simp at h; omega
    by_cases h1 : (c == 35) = true
    · have h1' : c = 35 := by simpa using h1
      subst h1'
      have hb : blankB 35 = false := by decide
      simp [hb, finM]
    · by_cases h2 : blankB c = true
      · simp only [h1, h2, if_true, if_false, Bool.false_eq_true]
        exact ih r hr ws
      · by_cases h3 : (c == 34) = true
        · simp only [h1, h2, h3, if_true, if_false, Bool.false_eq_true]
          rw [quoted_run r.length r (Nat.le_refl _)]
          cases hq : quotedB r with
          | none => rfl
          | some p =>
            obtain ⟨x, q⟩ := p
            have hs := quoted_shape r.length r (Nat.le_refl _) x q hq
            dsimp only
            rw [fin4 hs.2, ih q (by omega)]
            cases wordsB n q <;> simp
        · have he : endB c = false := by
            have h1' : ¬ c = 35 := by simpa using h1
            unfold endB; simp [h2, h1']
          simp only [h1, h2, h3, if_false, Bool.false_eq_true]
          have hp : plainB (c :: r) = if ctrlB c then none else (plainB r).map fun p => (c :: p.1, p.2) := by
            conv => lhs; unfold plainB
            simp only [he, h3, if_false, Bool.false_eq_true]
          rw [hp]
          by_cases h4 : ctrlB c = true
          · simp [h4, finM]
          · simp only [h4, if_false, Bool.false_eq_true]
            rw [plain_run]
            cases hq : plainB r with
            | none => rfl
            | some p =>
              obtain ⟨x, q⟩ := p
              have hs := plain_shape r x q hq
              simp only [Option.map_some]
              rw [ih q (by omega)]
              cases wordsB n q <;> simp
theorem lineM_lineB (l : List UInt8) : lineM l = lineB l := by
  rw [lineM_fin, words_run (l.length + 1) l (by omega)]
  unfold lineB
  cases wordsB (l.length + 1) l <;> simp

/-! ### runes -/
def oddR (c : Nat) : Bool := decide (c < 32) || c == 127
def RdS.putR (r : RdS) (n : Nat) (c : Nat) : RdS := ⟨n, r.word ++ encodeRune c, r.words⟩
/-- One rune read. -/
def RdS.stepR (r : RdS) (c : Nat) : Option (RdS × Bool) :=
  if r.st = 3 then
    (if c = 110 then some (r.putR 2 10, true) else if c = 34 ∨ c = 92 then some (r.putR 2 c, true) else none)
  else if r.st = 2 then
    (if c = 34 then some ({ r.stop with st := 4 }, true) else if c = 92 then some ({ r with st := 3 }, true) else if oddR c = true then none else some (r.putR 2 c, true))
  else if c = 32 ∨ c = 9 ∨ c = 35 then some ({ (if r.st = 1 then r.stop else r) with st := 0 }, c != 35)
  else if r.st = 4 ∨ (c = 34 ∧ r.st = 1) ∨ (c ≠ 34 ∧ oddR c = true) then none
  else if c = 34 then some ({ r with st := 2 }, true)
  else some (r.putR 1 c, true)
/-- All runes of a line (fuel: its length). -/
def runL : Nat → List UInt8 → RdS → Option RdS
  | 0, _, r => some r
  | f + 1, l, r => if l = [] then some r else match r.stepR (decodeL l).1 with
    | none => none
    | some (r', more) => if more then runL f (l.drop (decodeL l).2) r' else some r'
theorem enc_byte (c : UInt8) (h : c.toNat < 128) : encodeRune (c.toNat : Nat) = [c] := by
  unfold encodeRune
  rw [encodeRuneZ_one (by omega) (by omega)]
  simp
theorem byte_eq (c : UInt8) (n : Nat) (hn : n < 256) : (c == UInt8.ofNat n) = decide (c.toNat = n) := by
  rw [Bool.eq_iff_iff]
  simp only [beq_iff_eq, decide_eq_true_eq]
  constructor
  · intro h; subst h; simp; omega
  · intro h; apply UInt8.toNat_inj.1; rw [h]; simp; omega
theorem step_ascii (r : RdS) (c : UInt8) (h : c.toNat < 128) : r.stepR c.toNat = r.step c := by
  have e := enc_byte c h
  have b110 : (c == 110) = decide (c.toNat = 110) := byte_eq c 110 (by omega)
  have b34 : (c == 34) = decide (c.toNat = 34) := byte_eq c 34 (by omega)
  have b92 : (c == 92) = decide (c.toNat = 92) := byte_eq c 92 (by omega)
  have b32 : (c == 32) = decide (c.toNat = 32) := byte_eq c 32 (by omega)
  have b9 : (c == 9) = decide (c.toNat = 9) := byte_eq c 9 (by omega)
  have b35 : (c == 35) = decide (c.toNat = 35) := byte_eq c 35 (by omega)
  have b127 : (c == 127) = decide (c.toNat = 127) := byte_eq c 127 (by omega)
  have l32 : (c < 32) ↔ c.toNat < 32 := by rw [UInt8.lt_iff_toNat_lt]; rfl
  have n34 : (c != 34) = !decide (c.toNat = 34) := by rw [bne, b34]
  have n35 : (c != 35) = !decide (c.toNat = 35) := by rw [bne, b35]
  have m35 : (c.toNat != 35) = !decide (c.toNat = 35) := by by_cases h : c.toNat = 35 <;> simp [h]
  have e10 : encodeRune ((10 : Nat) : Int) = [10] := by decide +kernel
  unfold RdS.stepR RdS.step ctrlB endB blankB oddR RdS.putR RdS.put
  rw [e, b110, b34, b92, b32, b9, b35, b127, n34, n35, e10]
  generalize c.toNat = k at *
  simp only [l32]
  repeat' split
  all_goals (simp_all <;> try omega)
/-- A rune of valid UTF-8 beyond ASCII is bytes from 128 on. -/
theorem decode_high_bytes (l : List UInt8) (hne : l ≠ []) (hv : ¬ ((decodeL l).1 = 65533 ∧ (decodeL l).2 = 1)) (h : ¬ ((l.getD 0 0).toNat < 128)) :
    128 ≤ (decodeL l).1 ∧ ∀ b ∈ l.take (decodeL l).2, 128 ≤ b.toNat := by
  have hl : 0 < l.length := List.length_pos_iff.2 hne
  rw [decodeL_N] at hv ⊢
  have k0 := (l.getD 0 0).toNat_lt
  rcases decodeN_shape l.length (l.getD 0 0).toNat (l.getD 1 0).toNat (l.getD 2 0).toNat (l.getD 3 0).toNat with ⟨c, e⟩ | ⟨c1, c2, c3, cv, e⟩ | ⟨c1, c2, c3, c4, cv, cs, e⟩ | ⟨c1, c2, c3, c4, c5, cv, cw, e⟩ | e
  · exact absurd c h
  · rw [e]; dsimp only; rw [takeB l c2]
    refine ⟨by omega, fun b hb => ?_⟩
    simp only [List.mem_cons, List.not_mem_nil, or_false] at hb
    rcases hb with rfl | rfl <;> omega
  · rw [e]; dsimp only; rw [takeC l c2]
    refine ⟨by omega, fun b hb => ?_⟩
    simp only [List.mem_cons, List.not_mem_nil, or_false] at hb
    rcases hb with rfl | rfl | rfl <;> omega
  · rw [e]; dsimp only; rw [takeD l c2]
    refine ⟨by omega, fun b hb => ?_⟩
    simp only [List.mem_cons, List.not_mem_nil, or_false] at hb
    rcases hb with rfl | rfl | rfl | rfl <;> omega
  · rw [e] at hv; exact absurd ⟨rfl, rfl⟩ hv
theorem high_put (n : Nat) (r : RdS) (hr : r.st ≠ 3 ∧ r.st ≠ 4) (hn : n = if r.st = 2 then 2 else 1) (b : UInt8) (hb : 128 ≤ b.toNat) : r.step b = some (r.put n b, true) := by
  have b34 : (b == 34) = false := by have q : (b == 34) = decide (b.toNat = 34) := byte_eq b 34 (by omega); rw [q]; simp; omega
  have b92 : (b == 92) = false := by have q : (b == 92) = decide (b.toNat = 92) := byte_eq b 92 (by omega); rw [q]; simp; omega
  have b32 : (b == 32) = false := by have q : (b == 32) = decide (b.toNat = 32) := byte_eq b 32 (by omega); rw [q]; simp; omega
  have b9 : (b == 9) = false := by have q : (b == 9) = decide (b.toNat = 9) := byte_eq b 9 (by omega); rw [q]; simp; omega
  have b35 : (b == 35) = false := by have q : (b == 35) = decide (b.toNat = 35) := byte_eq b 35 (by omega); rw [q]; simp; omega
  have b127 : (b == 127) = false := by have q : (b == 127) = decide (b.toNat = 127) := byte_eq b 127 (by omega); rw [q]; simp; omega
  have l32 : ¬ (b < 32) := by rw [UInt8.lt_iff_toNat_lt]; show ¬ b.toNat < 32; omega
  have hc : ctrlB b = false := by unfold ctrlB; simp [l32, b127]
  have he : endB b = false := by unfold endB blankB; simp [b32, b9, b35]
  obtain ⟨h3, h4⟩ := hr
  unfold RdS.step
  rw [b34, b92, hc, he]
  by_cases h2 : r.st = 2
  · rw [if_pos h2] at hn; subst hn
    simp [h2]
  · rw [if_neg h2] at hn; subst hn
    simp [h2, h3, h4]
theorem run_more {r r' : RdS} {b : UInt8} {l : List UInt8} (h : r.step b = some (r', true)) : RdS.run r (b :: l) = RdS.run r' l := by
  conv => lhs; unfold RdS.run
  rw [h]; rfl
theorem high_run (n : Nat) (hn : n = 1 ∨ n = 2) : ∀ (x q : List UInt8) (w : List UInt8) (ws : List (List UInt8)), (∀ b ∈ x, 128 ≤ b.toNat) → RdS.run ⟨n, w, ws⟩ (x ++ q) = RdS.run ⟨n, w ++ x, ws⟩ q
  | [], q, w, ws, _ => by simp
  | b :: x, q, w, ws, h => by
    have h1 := high_put n ⟨n, w, ws⟩ (by dsimp only; omega) (by dsimp only; split <;> omega) b (h b (by simp))
    rw [List.cons_append, run_more h1]
    simp only [RdS.put]
    rw [high_run n hn x q (w ++ [b]) ws (fun c hc => h c (by simp [hc]))]
    simp
theorem high_none (x : List UInt8) (q : List UInt8) (r : RdS) (hr : r.st = 3 ∨ r.st = 4) (hx : x ≠ []) (h : ∀ b ∈ x, 128 ≤ b.toNat) : RdS.run r (x ++ q) = none := by
  cases x with
  | nil => exact absurd rfl hx
  | cons b x =>
    have hb := h b (by simp)
    have b110 : (b == 110) = false := by have q : (b == 110) = decide (b.toNat = 110) := byte_eq b 110 (by omega); rw [q]; simp; omega
    have b34 : (b == 34) = false := by have q : (b == 34) = decide (b.toNat = 34) := byte_eq b 34 (by omega); rw [q]; simp; omega
    have b92 : (b == 92) = false := by have q : (b == 92) = decide (b.toNat = 92) := byte_eq b 92 (by omega); rw [q]; simp; omega
    have b32 : (b == 32) = false := by have q : (b == 32) = decide (b.toNat = 32) := byte_eq b 32 (by omega); rw [q]; simp; omega
    have b9 : (b == 9) = false := by have q : (b == 9) = decide (b.toNat = 9) := byte_eq b 9 (by omega); rw [q]; simp; omega
    have b35 : (b == 35) = false := by have q : (b == 35) = decide (b.toNat = 35) := byte_eq b 35 (by omega); rw [q]; simp; omega
    have he : endB b = false := by unfold endB blankB; simp [b32, b9, b35]
    have hs : r.step b = none := by
      unfold RdS.step
      rw [b110, b34, b92, he]
      rcases hr with hr | hr <;> simp [hr]
    rw [List.cons_append]
    unfold RdS.run
    rw [hs]
theorem stepR_high (r : RdS) (c : Nat) (hc : 128 ≤ c) : r.stepR c = if r.st = 3 ∨ r.st = 4 then none else some (r.putR (if r.st = 2 then 2 else 1) c, true) := by
  have ho : oddR c = false := by unfold oddR; simp; omega
  unfold RdS.stepR
  rw [ho]
  have c110 : ¬ c = 110 := by omega
  have c34 : ¬ c = 34 := by omega
  have c92 : ¬ c = 92 := by omega
  have c32 : ¬ c = 32 := by omega
  have c9 : ¬ c = 9 := by omega
  have c35 : ¬ c = 35 := by omega
  by_cases h3 : r.st = 3
  · simp [h3, c110, c34, c92]
  · by_cases h2 : r.st = 2
    · simp [h2, c34, c92]
    · by_cases h4 : r.st = 4
      · simp [h4, c32, c9, c35]
      · simp [h2, h3, h4, c32, c9, c35, c34]
/-- Read rune by rune or byte by byte: the same, where the bytes are UTF-8. -/
theorem runL_run : ∀ (f : Nat) (l : List UInt8) (r : RdS), l.length ≤ f → validD l = true → runL f l r = RdS.run r l
  | 0, l, r, h, _ => by
    obtain rfl := List.eq_nil_of_length_eq_zero (Nat.le_zero.1 h)
    rfl
  | f + 1, l, r, h, hv => by
    unfold runL
    by_cases hl : l = []
    · subst hl; rfl
    rw [if_neg hl]
    rw [validD_step l hl] at hv
    by_cases hb : (decodeL l).1 = 65533 ∧ (decodeL l).2 = 1
    · rw [if_pos hb] at hv; cases hv
    rw [if_neg hb] at hv
    have hw := decodeL_width l
    have hle := decodeL_le l hl
    have ih := fun r' => runL_run f (l.drop (decodeL l).2) r' (by rw [List.length_drop]; omega) hv
    by_cases ha : (l.getD 0 0).toNat < 128
    · have hd : decodeL l = ((l.getD 0 0).toNat, 1) := by
        rw [decodeL_N]; unfold decodeN; rw [if_pos ha]
      rw [hd] at ih ⊢
      dsimp only at ih ⊢
      rw [step_ascii r _ ha]
      obtain ⟨b, t, rfl⟩ : ∃ b t, l = b :: t := by
        cases l with
        | nil => exact absurd rfl hl
        | cons b t => exact ⟨b, t, rfl⟩
      show (match r.step b with | none => none | some (r', more) => if more then runL f ((b :: t).drop 1) r' else some r') = RdS.run r (b :: t)
      conv => rhs; unfold RdS.run
      cases r.step b with
      | none => rfl
      | some p =>
        obtain ⟨r', more⟩ := p
        dsimp only
        cases more with
        | false => rfl
        | true => simp only [if_true]; exact ih r'
    · obtain ⟨hc, hbs⟩ := decode_high_bytes l hl hb ha
      have henc := encode_decode l hl hb
      rw [stepR_high r _ hc]
      have hsplit : l = l.take (decodeL l).2 ++ l.drop (decodeL l).2 := (List.take_append_drop _ _).symm
      have hxne : l.take (decodeL l).2 ≠ [] := by
        intro e
        have := congrArg List.length e
        rw [List.length_take, List.length_nil] at this
        have hl1 : 0 < l.length := List.length_pos_iff.2 hl
        omega
      by_cases h34 : r.st = 3 ∨ r.st = 4
      · rw [if_pos h34]
        conv => rhs; rw [hsplit]
        rw [high_none _ _ r h34 hxne hbs]
      · rw [if_neg h34]
        dsimp only
        simp only [if_true]
        rw [ih]
        conv => rhs; rw [hsplit]
        obtain ⟨st, w, ws⟩ := r
        dsimp only [RdS.putR] at h34 ⊢
        rw [henc]
        by_cases h2 : st = 2
        · subst h2
          rw [if_pos rfl, high_run 2 (.inr rfl) _ _ _ _ hbs]
        · rw [if_neg h2]
          -- states 0 and 1: the first byte leads into 1
          cases hx : l.take (decodeL l).2 with
          | nil => exact absurd hx hxne
          | cons b x =>
            have hb1 := high_put 1 ⟨st, w, ws⟩ (by dsimp only; omega) (by dsimp only; rw [if_neg h2]) b (hbs b (by rw [hx]; simp))
            rw [List.cons_append, run_more hb1]
            simp only [RdS.put]
            rw [high_run 1 (.inl rfl) x _ _ _ (fun c hc => hbs c (by rw [hx]; simp [hc]))]
            simp
end Go.Proofs.YtlheboafhgmbpaaDoor
