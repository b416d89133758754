/- LexerBack: the plain law. -/
import Derived.Test.YtlheboafhgmbpaaDoorLX
namespace Go.Proofs.YtlheboafhgmbpaaDoor
open Go.RowKit
set_option maxRecDepth 100000
set_option linter.unusedSimpArgs false
set_option linter.unusedVariables false

/-- A rune's bytes may be followed by whatever. -/
theorem chunk_turn {P Q : List UInt8} (h : chunkB (P ++ Q) = some P.length) (Q' : List UInt8) : chunkB (P ++ Q') = some P.length := by
  have h0 : 1 ≤ P.length := (chunk_len h).1
  have e : ∀ R : List UInt8, (P ++ R).getD 0 0 = P.getD 0 0 := fun R => by
    rw [List.getD_eq_getElem?_getD, List.getD_eq_getElem?_getD, List.getElem?_append_left (by omega)]
  unfold chunkB at h ⊢
  dsimp only at h ⊢
  rw [e] at h ⊢
  generalize hb : (P.getD 0 0).toNat = b at *
  have hw := wid_pos b
  by_cases c1 : 128 ≤ b ∧ b < 192
  · rw [if_pos c1] at h; cases h
  rw [if_neg c1] at h ⊢
  have hwP : widB b = P.length := by
    repeat' split at h
    all_goals first
      | (cases h; done)
      | (injection h with h)
  rw [if_neg (by rw [List.length_append]; omega)] at h ⊢
  rw [conts_app P _ _ _ _ (by omega)] at h ⊢
  exact h
theorem utf_rune {l : List UInt8} (hl : l ≠ []) (hv : ¬ ((Lib.decodeL l).1 = 65533 ∧ (Lib.decodeL l).2 = 1)) (Q : List UInt8) : Lib.validD (l.take (Lib.decodeL l).2 ++ Q) = Lib.validD Q := by
  have hc := chunk_decode l hl
  rw [if_neg hv] at hc
  have hle := Lib.decodeL_le l hl
  have hlen : (l.take (Lib.decodeL l).2).length = (Lib.decodeL l).2 := by rw [List.length_take]; omega
  have h1 := chunk_len hc
  generalize (Lib.decodeL l).2 = n at *
  have ht := chunk_turn (P := l.take n) (Q := l.drop n) (by rw [List.take_append_drop, hlen]; exact hc) Q
  have hne : l.take n ≠ [] := fun e => by rw [e] at hlen; simp at hlen; omega
  rw [validD_chunk (by simp [hne]), ht]
  dsimp only
  rw [List.drop_append_of_le_length (by omega), List.drop_length, List.nil_append]

/-- What is written leads the reader there, is UTF-8, and ends no line. -/
structure Lead (ys : List UInt8) (st : Nat) (w : List UInt8) (ws : List (List UInt8)) : Prop where
  run : ∀ Q, RdS.run ⟨0, [], []⟩ (ys ++ Q) = RdS.run ⟨st, w, ws⟩ Q
  utf : ∀ Q, Lib.validD (ys ++ Q) = Lib.validD Q
  flat : ∀ b ∈ ys, b ≠ 10
theorem Lead.nil : Lead [] 0 [] [] := ⟨fun _ => rfl, fun _ => rfl, fun b h => by simp at h⟩
theorem Lead.more {ys x : List UInt8} {st st' : Nat} {w w' : List UInt8} {ws ws' : List (List UInt8)} (h : Lead ys st w ws) (hr : ∀ Q, RdS.run ⟨st, w, ws⟩ (x ++ Q) = RdS.run ⟨st', w', ws'⟩ Q) (hu : ∀ Q, Lib.validD (x ++ Q) = Lib.validD Q) (hf : ∀ b ∈ x, b ≠ 10) : Lead (ys ++ x) st' w' ws' :=
  ⟨fun Q => by rw [List.append_assoc, h.run, hr], fun Q => by rw [List.append_assoc, h.utf, hu], fun b hb => (List.mem_append.1 hb).elim (h.flat b) (hf b)⟩
theorem utf_two (a b : UInt8) (ha : a.toNat < 128) (hb : b.toNat < 128) (Q : List UInt8) : Lib.validD ([a, b] ++ Q) = Lib.validD Q := by
  show Lib.validD (a :: b :: Q) = _
  rw [Lib.validD_cons a _ ha, Lib.validD_cons b _ hb]
theorem Lead.begin {ys : List UInt8} {st : Nat} {ws : List (List UInt8)} (h : Lead ys st [] ws) (hst : st = 0 ∨ st = 4) : Lead (ys ++ [32, 34]) 2 [] ws := by
  refine h.more (fun Q => ?_) (utf_two _ _ (by decide) (by decide)) (by decide)
  rcases hst with rfl | rfl
  · rfl
  · rfl
theorem Lead.close {ys w : List UInt8} {ws : List (List UInt8)} (h : Lead ys 2 w ws) : Lead (ys ++ [34]) 4 [] (ws ++ [w]) :=
  h.more (fun Q => by rw [List.singleton_append, step2]; rfl) (fun Q => Lib.validD_cons _ _ (by decide)) (by decide)
/-- How a rune is written. -/
def quoteR (c : Nat) : List UInt8 := if c = 10 then [92, 110] else if c = 34 ∨ c = 92 then [92, UInt8.ofNat c] else Lib.encodeRune (c : Int)
theorem decode_ascii {l : List UInt8} (ha : (l.getD 0 0).toNat < 128) : Lib.decodeL l = ((l.getD 0 0).toNat, 1) := by
  rw [Lib.decodeL_N]; unfold Lib.decodeN; rw [if_pos ha]
theorem Lead.rune {ys x : List UInt8} {p c n : Nat} {ws : List (List UInt8)} (h : Lead ys 2 (x.take p) ws) (hp : p < x.length) (hd : Lib.decodeL (x.drop p) = (c, n)) (hc : c = 10 ∨ (32 ≤ c ∧ c ≠ 127 ∧ c ≠ 65533)) :
    Lead (ys ++ quoteR c) 2 (x.take (p + n)) ws ∧ (quoteR c).length ≤ 2 * n := by
  have hl : x.drop p ≠ [] := fun e => by have := congrArg List.length e; simp at this; omega
  have hv : ¬ ((Lib.decodeL (x.drop p)).1 = 65533 ∧ (Lib.decodeL (x.drop p)).2 = 1) := by rw [hd]; dsimp only; omega
  have henc := Lib.encode_decode _ hl hv
  have hu := utf_rune hl hv
  have hle := Lib.decodeL_le _ hl
  have hw := Lib.decodeL_width (x.drop p)
  have ht : x.take (p + n) = x.take p ++ (x.drop p).take n := by rw [List.take_add]
  rw [hd] at henc hu hle hw
  dsimp only at henc hu hle hw
  by_cases ha : ((x.drop p).getD 0 0).toNat < 128
  · have hd2 := decode_ascii ha
    rw [hd] at hd2
    injection hd2 with hc1 hn1
    subst hn1
    generalize (x.drop p).getD 0 0 = b at *
    have hb : (x.drop p).take 1 = [b] := by rw [← henc, hc1]; exact enc_byte b ha
    rw [ht, hb]
    rw [hb] at henc
    by_cases e10 : c = 10
    · have : b = 10 := UInt8.toNat_inj.1 (by rw [← hc1, e10]; rfl)
      subst this
      rw [e10]
      refine ⟨h.more (fun Q => ?_) (utf_two _ _ (by decide) (by decide)) (by decide), by decide⟩
      show RdS.run _ (92 :: 110 :: Q) = _
      rw [step2]
      simp only [show ((92 : UInt8) == 34) = false by decide, show ((92 : UInt8) == 92) = true by decide, if_true, Bool.false_eq_true, if_false]
      rw [step3]
      simp
    by_cases e3 : c = 34 ∨ c = 92
    · have hq : quoteR c = [92, b] := by
        unfold quoteR
        rw [if_neg e10, if_pos e3, hc1]
        simp
      rw [hq]
      have hb3 : b = 34 ∨ b = 92 := by
        rcases e3 with e | e
        · exact .inl (UInt8.toNat_inj.1 (by rw [← hc1, e]; rfl))
        · exact .inr (UInt8.toNat_inj.1 (by rw [← hc1, e]; rfl))
      refine ⟨h.more (fun Q => ?_) (utf_two _ _ (by decide) ha) ?_, by simp⟩
      · show RdS.run _ (92 :: b :: Q) = _
        rw [step2]
        simp only [show ((92 : UInt8) == 34) = false by decide, show ((92 : UInt8) == 92) = true by decide, if_true, Bool.false_eq_true, if_false]
        rw [step3]
        rcases hb3 with rfl | rfl <;> rfl
      · rcases hb3 with rfl | rfl <;> decide
    · have hq : quoteR c = [b] := by
        unfold quoteR
        rw [if_neg e10, if_neg e3, henc]
      rw [hq]
      have n34 : (b == 34) = false := by have q : (b == 34) = decide (b.toNat = 34) := byte_eq b 34 (by omega); rw [q]; simp; omega
      have n92 : (b == 92) = false := by have q : (b == 92) = decide (b.toNat = 92) := byte_eq b 92 (by omega); rw [q]; simp; omega
      have n10 : (b == 10) = false := by have q : (b == 10) = decide (b.toNat = 10) := byte_eq b 10 (by omega); rw [q]; simp; omega
      have n127 : (b == 127) = false := by have q : (b == 127) = decide (b.toNat = 127) := byte_eq b 127 (by omega); rw [q]; simp; omega
      have l32 : ¬ (b < 32) := by rw [UInt8.lt_iff_toNat_lt]; show ¬ b.toNat < 32; omega
      have hct : ctrlB b = false := by unfold ctrlB; simp [l32, n127]
      refine ⟨h.more (fun Q => ?_) (fun Q => Lib.validD_cons _ _ ha) (fun z hz => ?_), by simp⟩
      · rw [List.singleton_append, step2, n34, n92, hct]; rfl
      · simp only [List.mem_singleton] at hz
        subst hz
        simpa using n10
  · obtain ⟨hc1, hbs⟩ := decode_high_bytes _ hl hv ha
    rw [hd] at hc1 hbs
    dsimp only at hc1 hbs
    have hq : quoteR c = (x.drop p).take n := by
      unfold quoteR
      rw [if_neg (by omega), if_neg (by omega), henc]
    rw [hq, ht]
    refine ⟨h.more (fun Q => high_run 2 (.inr rfl) _ _ _ _ hbs) hu (fun z hz e => ?_), by rw [List.length_take]; omega⟩
    have := hbs z hz
    subst e
    exact absurd this (by decide)
theorem cutB_flat : ∀ (l : List UInt8), (∀ b ∈ l, b ≠ 10) → cutB l = [l]
  | [], _ => rfl
  | c :: l, h => by
    have h1 : (c == 10) = false := by simpa using h c (by simp)
    rw [cutB_cons, if_neg (by rw [h1]; simp), cutB_flat l (fun b hb => h b (by simp [hb]))]
/-- What was written is read again. -/
theorem Lead.lines {ys : List UInt8} {ws : List (List UInt8)} (h : Lead ys 4 [] ws) (hw : ws ≠ []) (hl : ¬ 20000 < ys.length) : linesB ys = .ok [⟨1, ws⟩] := by
  have hv : Lib.validD ys = true := by have := h.utf []; rw [List.append_nil] at this; rw [this]; rfl
  have hr : RdS.run ⟨0, [], []⟩ ys = some ⟨4, [], ws⟩ := by have := h.run []; rw [List.append_nil] at this; rw [this]; rfl
  have hL : lineV ys = some ws := by
    unfold lineV
    rw [if_pos hv, ← lineM_lineB, lineM_fin, hr]
    rfl
  rw [linesB_short hl, cutB_flat ys h.flat, foldL_some hL]
  unfold foldL addL
  rw [if_neg hw]
  rfl
end Go.Proofs.YtlheboafhgmbpaaDoor
