/- The lexer's plain law: the words of a line, byte by byte (the document) and as a machine over runes (lexer). -/
import Derived.Test.YtlheboafhgmbpaaDoorT0
namespace Go.Proofs.YtlheboafhgmbpaaDoor

def ctrlB (c : UInt8) : Bool := c < 32 || c == 127
def blankB (c : UInt8) : Bool := c == 32 || c == 9
def endB (c : UInt8) : Bool := blankB c || c == 35
/-- May a quoted word end ahead of this? -/
def afterB : List UInt8 → Bool
  | [] => true
  | c :: _ => endB c
/-- A quoted word, behind its ": the word and what follows it. -/
def quotedB : List UInt8 → Option (List UInt8 × List UInt8)
  | [] => none
  | [c] => if c == 34 then some ([], []) else none
  | c :: d :: r =>
    if c == 34 then (if endB d then some ([], d :: r) else none)
    else if c == 92 then
      if d == 110 then (quotedB r).map fun p => (10 :: p.1, p.2)
      else if d == 34 || d == 92 then (quotedB r).map fun p => (d :: p.1, p.2)
      else none
    else if ctrlB c then none
    else (quotedB (d :: r)).map fun p => (c :: p.1, p.2)
/-- A plain word: the word and what follows it. -/
def plainB : List UInt8 → Option (List UInt8 × List UInt8)
  | [] => some ([], [])
  | c :: r => if endB c then some ([], c :: r) else if c == 34 then none else if ctrlB c then none else (plainB r).map fun p => (c :: p.1, p.2)
/-- A line's words (fuel: its length and one more). -/
def wordsB : Nat → List UInt8 → Option (List (List UInt8))
  | 0, _ => none
  | _ + 1, [] => some []
  | n + 1, c :: r =>
    if blankB c then wordsB n r
    else if c == 35 then some []
    else if c == 34 then match quotedB r with
      | none => none
      | some (w, q) => (wordsB n q).map fun ws => w :: ws
    else match plainB (c :: r) with
      | none => none
      | some (w, q) => (wordsB n q).map fun ws => w :: ws
def lineB (l : List UInt8) : Option (List (List UInt8)) := wordsB (l.length + 1) l

/-- The reader: its state (0 between, 1 plain, 2 quoted, 3 escaped, 4 closed), its word, its words. -/
structure RdS where
  st : Nat
  word : List UInt8
  words : List (List UInt8)
def RdS.stop (r : RdS) : RdS := ⟨0, [], r.words ++ [r.word]⟩
def RdS.put (r : RdS) (n : Nat) (c : UInt8) : RdS := ⟨n, r.word ++ [c], r.words⟩
/-- One byte read: the reader behind it, and whether a remark has not begun; none: refused. -/
def RdS.step (r : RdS) (c : UInt8) : Option (RdS × Bool) :=
  if r.st = 3 then
    (if c == 110 then some (r.put 2 10, true) else if c == 34 || c == 92 then some (r.put 2 c, true) else none)
  else if r.st = 2 then
    (if c == 34 then some ({ r.stop with st := 4 }, true) else if c == 92 then some ({ r with st := 3 }, true) else if ctrlB c then none else some (r.put 2 c, true))
  else if endB c then some ({ (if r.st = 1 then r.stop else r) with st := 0 }, c != 35)
  else if r.st = 4 || (c == 34 && r.st == 1) || (c != 34 && ctrlB c) then none
  else if c == 34 then some ({ r with st := 2 }, true)
  else some (r.put 1 c, true)
/-- All bytes of a line. -/
def RdS.run (r : RdS) : List UInt8 → Option RdS
  | [] => some r
  | c :: l => match r.step c with
    | none => none
    | some (r', more) => if more then RdS.run r' l else some r'
def lineM (l : List UInt8) : Option (List (List UInt8)) :=
  match RdS.run ⟨0, [], []⟩ l with
  | none => none
  | some r => let r2 := if r.st = 1 then r.stop else r
    if r2.st = 0 || r2.st = 4 then some r2.words else none
/-- What is told at a line's end. -/
def finM : Option RdS → Option (List (List UInt8))
  | none => none
  | some r => let r2 := if r.st = 1 then r.stop else r
    if r2.st = 0 || r2.st = 4 then some r2.words else none
theorem lineM_fin (l : List UInt8) : lineM l = finM (RdS.run ⟨0, [], []⟩ l) := by unfold lineM finM; rfl
theorem run_end {ws : List (List UInt8)} {d : UInt8} {r : List UInt8} (hd : endB d = true) : RdS.run ⟨4, [], ws⟩ (d :: r) = RdS.run ⟨0, [], ws⟩ (d :: r) := by
  simp [RdS.run, RdS.step, hd]
theorem run_closed {ws : List (List UInt8)} {d : UInt8} {r : List UInt8} (hd : endB d = false) : RdS.run ⟨4, [], ws⟩ (d :: r) = none := by
  simp [RdS.run, RdS.step, hd]
theorem step2 (w : List UInt8) (ws : List (List UInt8)) (c : UInt8) (l : List UInt8) : RdS.run ⟨2, w, ws⟩ (c :: l) =
    if c == 34 then RdS.run ⟨4, [], ws ++ [w]⟩ l else if c == 92 then RdS.run ⟨3, w, ws⟩ l else if ctrlB c then none else RdS.run ⟨2, w ++ [c], ws⟩ l := by
  simp only [RdS.run, RdS.step, RdS.stop, RdS.put]
  repeat' split
  all_goals simp_all
theorem step3 (w : List UInt8) (ws : List (List UInt8)) (c : UInt8) (l : List UInt8) : RdS.run ⟨3, w, ws⟩ (c :: l) =
    if c == 110 then RdS.run ⟨2, w ++ [10], ws⟩ l else if c == 34 || c == 92 then RdS.run ⟨2, w ++ [c], ws⟩ l else none := by
  simp only [RdS.run, RdS.step, RdS.stop, RdS.put]
  repeat' split
  all_goals simp_all
theorem fin3_nil (w : List UInt8) (ws : List (List UInt8)) : finM (RdS.run ⟨3, w, ws⟩ []) = none := by simp [RdS.run, finM]
theorem fin2_nil (w : List UInt8) (ws : List (List UInt8)) : finM (RdS.run ⟨2, w, ws⟩ []) = none := by simp [RdS.run, finM]
theorem quoted_run : ∀ (n : Nat) (l : List UInt8), l.length ≤ n → ∀ (w : List UInt8) (ws : List (List UInt8)), finM (RdS.run ⟨2, w, ws⟩ l) = match quotedB l with
    | none => none
    | some (x, q) => finM (RdS.run ⟨4, [], ws ++ [w ++ x]⟩ q)
  | _, [], _, w, ws => by rw [fin2_nil]; rfl
  | _, [c], _, w, ws => by
    rw [step2]; unfold quotedB
    by_cases h1 : (c == 34) = true
    · simp [h1]
    · by_cases h2 : (c == 92) = true
      · simp [h1, h2, fin3_nil]
      · by_cases h3 : ctrlB c = true
        · simp [h1, h2, h3, finM]
        · simp [h1, h2, h3, fin2_nil]
  | 0, _ :: _ :: _, h, _, _ => absurd h (by simp)
  | n + 1, c :: d :: r, h, w, ws => by
    have ih1 := quoted_run n (d :: r) (by simp at h ⊢; omega)
    have ih2 := quoted_run n r (by simp at h ⊢; omega)
    rw [step2]; unfold quotedB
    by_cases h1 : (c == 34) = true
    · by_cases h2 : endB d = true
      · simp [h1, h2]
      · have h2 : endB d = false := by simpa using h2
        simp [h1, h2, run_closed, finM]
    · by_cases h2 : (c == 92) = true
      · simp only [h1, h2, if_true, if_false, Bool.false_eq_true, step3]
        by_cases h3 : (d == 110) = true
        · simp only [h3, if_true, ih2]
          cases quotedB r <;> simp
        · by_cases h4 : (d == 34 || d == 92) = true
          · simp only [h3, h4, if_true, if_false, Bool.false_eq_true, ih2]
            cases quotedB r <;> simp
          · simp [h3, h4, finM]
      · by_cases h3 : ctrlB c = true
        · simp [h1, h2, h3, finM]
        · simp only [h1, h2, h3, if_false, Bool.false_eq_true, ih1]
          cases quotedB (d :: r) <;> simp
theorem step1 (w : List UInt8) (ws : List (List UInt8)) (c : UInt8) (l : List UInt8) : RdS.run ⟨1, w, ws⟩ (c :: l) =
    if endB c then RdS.run ⟨0, [], ws ++ [w]⟩ (c :: l) else if c == 34 then none else if ctrlB c then none else RdS.run ⟨1, w ++ [c], ws⟩ l := by
  by_cases h1 : endB c = true
  · simp [RdS.run, RdS.step, RdS.stop, h1]
  · by_cases h2 : (c == 34) = true
    · simp [RdS.run, RdS.step, h1, h2]
    · by_cases h3 : ctrlB c = true
      · have h2' : ¬ c = 34 := by simpa using h2
        simp [RdS.run, RdS.step, h1, h2', h3]
      · have h2' : ¬ c = 34 := by simpa using h2
        simp [RdS.run, RdS.step, RdS.put, h1, h2', h3]
theorem plain_run : ∀ (l : List UInt8) (w : List UInt8) (ws : List (List UInt8)), finM (RdS.run ⟨1, w, ws⟩ l) = match plainB l with
    | none => none
    | some (x, q) => finM (RdS.run ⟨0, [], ws ++ [w ++ x]⟩ q)
  | [], w, ws => by simp [RdS.run, finM, plainB, RdS.stop]
  | c :: l, w, ws => by
    have ih := plain_run l (w ++ [c]) ws
    rw [step1]; unfold plainB
    by_cases h1 : endB c = true
    · simp [h1]
    · by_cases h2 : (c == 34) = true
      · simp [h1, h2, finM]
      · by_cases h3 : ctrlB c = true
        · simp [h1, h2, h3, finM]
        · simp only [h1, h2, h3, if_false, Bool.false_eq_true, ih]
          cases plainB l <;> simp
end Go.Proofs.YtlheboafhgmbpaaDoor
