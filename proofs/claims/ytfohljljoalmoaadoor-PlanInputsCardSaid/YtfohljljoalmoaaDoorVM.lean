/- Join as a function; TreeJoins' walk. -/
import Derived.Test.YtfohljljoalmoaaDoorVL
namespace Go.Proofs.YtfohljljoalmoaaDoor
open Go.RowKit
set_option maxRecDepth 100000
set_option linter.unusedSimpArgs false
set_option linter.unusedVariables false

def leB (f g : FileE) : Bool := !ltB g.path f.path
def joinO (l m : List FileE) : List FileE := (l ++ m).mergeSort leB
theorem joinO_perm (l m : List FileE) : (joinO l m).Perm (l ++ m) := List.mergeSort_perm _ _
theorem joinO_sorted (l m : List FileE) : (joinO l m).Pairwise leF := by
  have := List.pairwise_mergeSort (le := leB) (fun a b c h k => by
    unfold leB at *
    simp only [Bool.not_eq_true'] at *
    exact ltB_ntrans k h) (fun a b => by
    unfold leB
    cases h : ltB b.path a.path with
    | false => rfl
    | true => simp [ltB_asymm h]) (l ++ m)
  refine this.imp ?_
  intro a b h
  unfold leB at h
  simpa [leF] using h
/-- 0: they can be joined; else the error. -/
def joinC (l m : List FileE) : Nat := if (mayB l && mayB m) = false then 2 else if dupTo (joinO l m) (joinO l m).length = true then 7 else if mayB (joinO l m) = false then 8 else 0
def JoinOut (l m : List FileE) (w : World) (e : Ending) : Prop :=
  (joinC l m ≠ 0 ∧ e = .returned (.tuple #[.slice none 0 0, .int .i64 (joinC l m)])) ∨ (joinC l m = 0 ∧ ∃ v', e = .returned (.tuple #[v', .int .i64 0]) ∧ TreeAt w v' (joinO l m))
theorem dup_perm {o o2 : List FileE} (h : o.Pairwise leF) (h2 : o2.Pairwise leF) (hp : o2.Perm o) : dupTo o2 o2.length = dupTo o o.length := by
  cases hd : dupTo o o.length with
  | false => exact (sorted_eq (strict_of h hd) h2 hp).1
  | true =>
    cases hd2 : dupTo o2 o2.length with
    | true => rfl
    | false => rw [(sorted_eq (strict_of h2 hd2) h hp.symm).1] at hd; cases hd
theorem join_out {l m : List FileE} {w : World} {e : Ending} (h : JoinIs l m w e) : JoinOut l m w e := by
  unfold JoinOut joinC
  rcases h with ⟨h1, he⟩ | ⟨h1, o, hp, hs, h2⟩
  · rw [if_pos h1]; exact .inl ⟨by omega, he⟩
  · rw [if_neg (by rw [h1]; simp)]
    have hpo : o.Perm (joinO l m) := hp.trans (joinO_perm l m).symm
    have hd := dup_perm (joinO_sorted l m) hs hpo
    rcases h2 with ⟨h3, he⟩ | ⟨h3, h4, he⟩ | ⟨h3, h4, v', he, ht⟩
    · rw [if_pos (by rw [← hd, h3])]; exact .inl ⟨by omega, he⟩
    · rw [if_neg (by rw [← hd, h3]; simp)]
      have e2 := (sorted_eq (strict_of hs h3) (joinO_sorted l m) hpo.symm).2
      rw [e2, if_pos h4]; exact .inl ⟨by omega, he⟩
    · rw [if_neg (by rw [← hd, h3]; simp)]
      have e2 := (sorted_eq (strict_of hs h3) (joinO_sorted l m) hpo.symm).2
      rw [e2, if_neg (by rw [h4]; simp)]; exact .inr ⟨rfl, v', he, ht⟩
theorem joined_ct {w : World} {va vb : Value} {la lb : List FileE} (ha : TreeAt w va la) (hb : TreeAt w vb lb) :
    Calls Tryd.prog 28 #[va, vb] w fun e w' => JoinOut la lb w' e ∧ Kept (fun _ => False) w w' :=
  (join_ct ha hb).mono fun _ _ ⟨h1, h2⟩ => ⟨join_out h1, h2⟩
structure Joined (l m o : List FileE) : Prop where
  may1 : mayB l = true
  may2 : mayB m = true
  may : mayB o = true
  perm : o.Perm (l ++ m)
theorem joinC_zero {l m : List FileE} (h : joinC l m = 0) : Joined l m (joinO l m) := by
  unfold joinC at h
  split at h
  · cases h
  · rename_i h1
    split at h
    · cases h
    · split at h
      · cases h
      · rename_i h3
        have h1 : (mayB l && mayB m) = true := by simpa using h1
        rw [Bool.and_eq_true] at h1
        exact ⟨h1.1, h1.2, by simpa using h3, joinO_perm l m⟩
theorem joined_c {l m o : List FileE} (h : Joined l m o) : joinC l m = 0 ∧ joinO l m = o := by
  have ho := (mayB_iff.1 h.may).2.2.1
  obtain ⟨hd, he⟩ := sorted_eq ho (joinO_sorted l m) ((joinO_perm l m).trans h.perm.symm)
  refine ⟨?_, he⟩
  unfold joinC
  rw [if_neg (by rw [h.may1, h.may2]; simp), if_neg (by rw [hd]; simp), if_neg (by rw [he, h.may]; simp)]
theorem joinC_comm (l m : List FileE) : joinC l m = joinC m l := by
  have hp : (joinO m l).Perm (joinO l m) := (joinO_perm m l).trans (List.perm_append_comm.trans (joinO_perm l m).symm)
  have hd := dup_perm (joinO_sorted l m) (joinO_sorted m l) hp
  unfold joinC
  rw [Bool.and_comm (mayB l), hd]
  cases hdl : dupTo (joinO l m) (joinO l m).length with
  | true => rfl
  | false => rw [(sorted_eq (strict_of (joinO_sorted l m) hdl) (joinO_sorted m l) hp).2]
theorem joinO_comm {l m : List FileE} (h : joinC l m = 0) : joinO m l = joinO l m := by
  have hj := joinC_zero h
  exact (joined_c ⟨hj.may2, hj.may1, hj.may, hj.perm.trans List.perm_append_comm⟩).2
end Go.Proofs.YtfohljljoalmoaaDoor
