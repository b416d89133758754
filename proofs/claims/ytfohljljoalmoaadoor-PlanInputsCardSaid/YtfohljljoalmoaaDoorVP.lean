/- Under as a function; TreeUnder's walk. -/
import Derived.Test.YtfohljljoalmoaaDoorVM
namespace Go.Proofs.YtfohljljoalmoaaDoor
open Go.RowKit
set_option maxRecDepth 100000
set_option linter.unusedSimpArgs false
set_option linter.unusedVariables false

def underC (l : List FileE) (d : ByteArray) : Nat := if (mayB l && pathB d) = false then 2 else if mayB (l.map (upF d)) = false then 8 else 0
def UnderOut (l : List FileE) (d : ByteArray) (w : World) (e : Ending) : Prop :=
  (underC l d ≠ 0 ∧ e = .returned (.tuple #[.slice none 0 0, .int .i64 (underC l d)])) ∨ (underC l d = 0 ∧ ∃ v', e = .returned (.tuple #[v', .int .i64 0]) ∧ TreeAt w v' (l.map (upF d)))
theorem under_out {w : World} {v : Value} {l : List FileE} (h : TreeAt w v l) (d : ByteArray) (hd : d.size ≤ maxLen) :
    Calls Tryd.prog 27 #[v, .string d] w fun e w' => UnderOut l d w' e ∧ Kept (fun _ => False) w w' := by
  refine (under_any h d hd).mono fun e w' ⟨h1, h2⟩ => ⟨?_, h2⟩
  unfold UnderOut underC
  rcases h1 with ⟨q, he⟩ | ⟨q, q2, he⟩ | ⟨q, q2, v', he, ht⟩
  · rw [if_pos q]; exact .inl ⟨by omega, he⟩
  · rw [if_neg (by rw [q]; simp), if_pos q2]; exact .inl ⟨by omega, he⟩
  · rw [if_neg (by rw [q]; simp), if_neg (by rw [q2]; simp)]; exact .inr ⟨rfl, v', he, ht⟩
theorem underC_zero {l : List FileE} {d : ByteArray} : underC l d = 0 ↔ mayB l = true ∧ pathB d = true ∧ mayB (l.map (upF d)) = true := by
  unfold underC
  cases mayB l <;> cases pathB d <;> cases mayB (l.map (upF d)) <;> simp
theorem under_two {l : List FileE} {a b : ByteArray} (h1 : underC l b = 0) (h2 : underC (l.map (upF b)) a = 0) : (a.size + b.size + 1 ≤ 40 ↔ underC l (slashed a b) = 0) := by
  obtain ⟨q1, q2, q3⟩ := underC_zero.1 h1
  obtain ⟨_, q4, q5⟩ := underC_zero.1 h2
  rw [up_two] at q5
  rw [underC_zero, path_slashed, q2, q4, q5, q1]
  simp
theorem under_join {la lb o : List FileE} {d : ByteArray} (hj : Joined la lb o) (hu : underC o d = 0) : underC lb d = 0 ∧ Joined (la.map (upF d)) (lb.map (upF d)) (o.map (upF d)) := by
  obtain ⟨_, q2, q3⟩ := underC_zero.1 hu
  have m1 := up_part hj.may1 q3 (fun f hf => hj.perm.mem_iff.2 (List.mem_append.2 (.inl hf)))
  have m2 := up_part hj.may2 q3 (fun f hf => hj.perm.mem_iff.2 (List.mem_append.2 (.inr hf)))
  refine ⟨underC_zero.2 ⟨hj.may2, q2, m2⟩, ⟨m1, m2, q3, ?_⟩⟩
  rw [← List.map_append]
  exact hj.perm.map _


end Go.Proofs.YtfohljljoalmoaaDoor
