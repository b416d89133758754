/- LexerLines: a line's words, step by step. -/
import Derived.Test.YtlheboafhgmbpaaDoorNB
namespace Go.Proofs.YtlheboafhgmbpaaDoor
open Go.RowKit
set_option maxRecDepth 100000
set_option linter.unusedSimpArgs false
set_option linter.unusedVariables false

theorem wordsB_fuel {n : Nat} {l : List UInt8} (h : l.length < n) : wordsB n l = lineB l := by
  rw [← lineM_lineB, lineM_fin, words_run n l h]
  cases wordsB n l <;> simp
def wordsR (out : List (List UInt8)) (x : Option (List (List UInt8))) : Option (List (List UInt8)) := x.map fun ws => out ++ ws
theorem wordsR_nil (x : Option (List (List UInt8))) : wordsR [] x = x := by cases x <;> rfl
theorem wordsR_more (out : List (List UInt8)) (w : List UInt8) (x : Option (List (List UInt8))) : wordsR out (x.map fun ws => w :: ws) = wordsR (out ++ [w]) x := by cases x <;> simp [wordsR]
theorem lineB_nil : lineB [] = some [] := rfl
theorem lineB_cons (c : UInt8) (r : List UInt8) : lineB (c :: r) =
    if blankB c then lineB r
    else if c == 35 then some []
    else if c == 34 then (match quotedB r with
      | none => none
      | some (w, q) => (lineB q).map fun ws => w :: ws)
    else match plainB (c :: r) with
      | none => none
      | some (w, q) => (lineB q).map fun ws => w :: ws := by
  conv => lhs; unfold lineB wordsB
  by_cases h1 : blankB c = true
  · rw [if_pos h1, if_pos h1, wordsB_fuel (by simp)]
  rw [if_neg h1, if_neg h1]
  by_cases h2 : (c == 35) = true
  · rw [if_pos h2, if_pos h2]
  rw [if_neg h2, if_neg h2]
  by_cases h3 : (c == 34) = true
  · rw [if_pos h3, if_pos h3]
    cases hq : quotedB r with
    | none => rfl
    | some p =>
      obtain ⟨x, q⟩ := p
      have hs := quoted_shape r.length r (Nat.le_refl _) x q hq
      dsimp only
      rw [wordsB_fuel (by simp; omega)]
  · rw [if_neg h3, if_neg h3]
    have he : endB c = false := by
      have h2' : ¬ c = 35 := by simpa using h2
      unfold endB; simp [h1, h2']
    have hp : plainB (c :: r) = if ctrlB c then none else (plainB r).map fun p => (c :: p.1, p.2) := by
      conv => lhs; unfold plainB
      simp only [he, h3, if_false, Bool.false_eq_true]
    cases hq : plainB (c :: r) with
    | none => rfl
    | some p =>
      obtain ⟨x, q⟩ := p
      have hlen : q.length ≤ r.length := by
        rw [hp] at hq
        split at hq
        · cases hq
        · cases hr : plainB r with
          | none => rw [hr] at hq; cases hq
          | some y =>
            rw [hr] at hq
            injection hq with hq
            injection hq with _ hq
            subst hq
            exact (plain_shape r y.1 y.2 hr).1
      dsimp only
      rw [wordsB_fuel (by simp; omega)]
theorem plainB_nil : plainB [] = some ([], []) := rfl
theorem plainB_cons (c : UInt8) (r : List UInt8) : plainB (c :: r) = if endB c then some ([], c :: r) else if c == 34 then none else if ctrlB c then none else (plainB r).map fun p => (c :: p.1, p.2) := rfl
theorem bslice_str (x : ByteArray) (w : World) : (Instr.buildSlice 30 1 #[(0, .string x)]).run Tryd.prog w = .ok (.slice (some ⟨w.heap.size, 0, none⟩) 1 1) (w.alloc (.cells #[.string x] 9)) := by kernel_rfl
theorem out_app {w0 w : World} {v : Value} {ws : List (List UInt8)} (ho : w.ownsRow w0.heap.size 9 1 v ws.length (sv ws)) (hk : Kept (fun _ => False) w0 w) (x : List UInt8) (hn : ws.length ≤ 900000) (ty : TypeId) :
    ∃ a c zs w', zs = ws ++ [x] ∧ (Builtin.append_ #[30, 30] ty #[v, .slice (some ⟨w.heap.size, 0, none⟩) 1 1]).run Tryd.prog (w.alloc (.cells #[.string ⟨x.toArray⟩] 9)) = .ok (.slice a zs.length c) w' ∧ w'.ownsRow w0.heap.size 9 1 (.slice a zs.length c) zs.length (sv zs) ∧ Kept (fun _ => False) w0 w' := by
  have k1 : Kept (fun _ => False) w (w.alloc (.cells #[.string ⟨x.toArray⟩] 9)) := (Kept.refl _ w).alloc _
  have hg := heap_last w (.cells #[.string ⟨x.toArray⟩] 9)
  obtain ⟨v', w', a1, a2, a3⟩ := app_str (row_kept ho k1) x (c := 1) hg (by omega) (by have := hk.size; have := k1.size; omega) ty
  rw [show ws.length + 1 = (ws ++ [x]).length by simp] at a2
  obtain ⟨a, c, rfl⟩ := row_form a2
  exact ⟨a, c, _, w', rfl, a1, a2, grown_kept (hk.trans k1) a3 (fun k e => (World.ownsRow.lt (row_kept ho k1) k e).1)⟩
end Go.Proofs.YtlheboafhgmbpaaDoor
