/- put, plain; the document's made, With, Under, Below. -/
import Derived.Test.YtfohljljoalmoaaDoorWF
import Derived.Test.YtfohljljoalmoaaDoorTM
import Derived.Test.YtfohljljoalmoaaDoorVP
namespace Go.Proofs.YtfohljljoalmoaaDoor
open Go.RowKit
set_option maxRecDepth 100000
set_option linter.unusedSimpArgs false
set_option linter.unusedVariables false

theorem putGo_true (f : FileE) : ∀ l : List FileE, putGo f l true = l.filter fun g => !eqB g.path f.path
  | [] => rfl
  | g :: r => by
    rw [putGo]
    simp only [Bool.not_true, Bool.false_and, Bool.false_eq_true, if_false, List.nil_append, Bool.true_or]
    rw [putGo_true f r, List.filter_cons]
    cases eqB g.path f.path <;> rfl
theorem put_form {l : List FileE} (f : FileE) : putL l f = l.takeWhile (fun g => ltB g.path f.path) ++ f :: (l.dropWhile fun g => ltB g.path f.path).filter fun g => !eqB g.path f.path := by
  unfold putL
  induction l with
  | nil => rfl
  | cons g r ih =>
    rw [putGo, List.takeWhile_cons, List.dropWhile_cons]
    cases hl : ltB g.path f.path with
    | true =>
      have he : eqB g.path f.path = false := by
        rw [Bool.eq_false_iff]; intro h
        have := eqB_iff.1 h
        rw [this, ltB_irrefl] at hl; cases hl
      simp only [Bool.not_true, Bool.and_false, Bool.false_eq_true, if_false, List.nil_append, he, Bool.or_false, if_true]
      rw [ih]; rfl
    | false =>
      simp only [Bool.not_false, Bool.and_true, Bool.false_or, if_true, Bool.false_eq_true, if_false]
      rw [putGo_true, List.filter_cons]
      cases eqB g.path f.path <;> rfl
theorem strict_sub {l m : List FileE} (h : l.Pairwise ltF) (hs : m.Sublist l) : m.Pairwise ltF := List.Pairwise.sublist hs h
theorem drop_ge {s : ByteArray} : ∀ {l : List FileE}, l.Pairwise ltF → ∀ g ∈ l.dropWhile (fun g => ltB g.path s), ltB g.path s = false
  | [], _, g, hg => by simp at hg
  | f :: r, h, g, hg => by
    rw [List.dropWhile_cons] at hg
    cases hl : ltB f.path s with
    | true => rw [hl] at hg; exact drop_ge (List.pairwise_cons.1 h).2 g hg
    | false =>
      rw [hl] at hg
      simp at hg
      rcases hg with rfl | hg
      · exact hl
      · have := (List.pairwise_cons.1 h).1 g hg
        cases hh : ltB g.path s with
        | false => rfl
        | true => have := ltB_trans this hh; rw [hl] at this; cases this
theorem take_lt {s : ByteArray} {l : List FileE} : ∀ g ∈ l.takeWhile (fun g => ltB g.path s), ltB g.path s = true := fun g hg => by
  induction l with
  | nil => simp at hg
  | cons f r ih =>
    rw [List.takeWhile_cons] at hg
    split at hg
    · rename_i h
      rcases List.mem_cons.1 hg with rfl | q
      · exact h
      · exact ih q
    · simp at hg
theorem put_new {l : List FileE} {f : FileE} (h : l.Pairwise ltF) (hn : ∀ g ∈ l, g.path ≠ f.path) : (putL l f).Pairwise ltF ∧ (putL l f).Perm (f :: l) := by
  have hf : (l.dropWhile fun g => ltB g.path f.path).filter (fun g => !eqB g.path f.path) = l.dropWhile fun g => ltB g.path f.path := by
    rw [List.filter_eq_self]
    intro g hg
    have := hn g ((List.dropWhile_sublist _).subset hg)
    simp only [Bool.not_eq_true']
    rw [Bool.eq_false_iff]
    intro e; exact this (eqB_iff.1 e)
  rw [put_form, hf]
  constructor
  · rw [List.pairwise_append]
    refine ⟨strict_sub h (List.takeWhile_sublist _), List.pairwise_cons.2 ⟨fun g hg => ?_, strict_sub h (List.dropWhile_sublist _)⟩, fun a ha g hg => ?_⟩
    · have h1 := drop_ge h g hg
      cases h2 : ltB f.path g.path with
      | true => exact h2
      | false => exact absurd (ltB_tri h1 h2) (hn g ((List.dropWhile_sublist _).subset hg))
    · have h1 := take_lt a ha
      rcases List.mem_cons.1 hg with rfl | hg
      · exact h1
      · have h3 := drop_ge h g hg
        cases h2 : ltB f.path g.path with
        | true => exact ltB_trans h1 h2
        | false => exact absurd (ltB_tri h3 h2) (hn g ((List.dropWhile_sublist _).subset hg))
  · refine List.perm_middle.trans ?_
    rw [List.takeWhile_append_dropWhile]
theorem drop_pos (s : ByteArray) : ∀ l : List FileE, l.dropWhile (fun g => ltB g.path s) = l.drop (posL l s)
  | [] => rfl
  | f :: r => by
    have ih := drop_pos s r
    unfold posL at *
    rw [List.dropWhile_cons, List.takeWhile_cons]
    cases ltB f.path s with
    | true => simpa using ih
    | false => rfl
theorem take_pos (s : ByteArray) : ∀ l : List FileE, l.takeWhile (fun g => ltB g.path s) = l.take (posL l s)
  | [] => rfl
  | f :: r => by
    have ih := take_pos s r
    unfold posL at *
    rw [List.takeWhile_cons]
    cases ltB f.path s with
    | true => simpa using ih
    | false => rfl
theorem put_with {l : List FileE} (h : l.Pairwise ltF) (s : ByteArray) (b : List UInt8) : putL l ⟨s, b⟩ = withL l s b := by
  rw [put_form]
  show l.takeWhile (fun g => ltB g.path s) ++ ⟨s, b⟩ :: (l.dropWhile fun g => ltB g.path s).filter (fun g => !eqB g.path s) = _
  rw [drop_pos, take_pos]
  have hple := pos_le l s
  unfold withL
  cases ht : thereB l s with
  | true =>
    obtain ⟨f, hf, hfs⟩ := pos_there ht
    obtain ⟨hlt, hfe⟩ := List.getElem?_eq_some_iff.1 hf
    rw [if_pos rfl, List.set_eq_take_append_cons_drop, if_pos hlt, List.drop_eq_getElem_cons hlt, hfe, List.filter_cons]
    have e1 : eqB f.path s = true := eqB_iff.2 hfs
    rw [e1]
    simp only [Bool.not_true, Bool.false_eq_true, if_false]
    congr 2
    rw [List.filter_eq_self]
    intro g hg
    have h2 : (l.drop (posL l s)).Pairwise ltF := strict_sub h (List.drop_sublist _ _)
    rw [List.drop_eq_getElem_cons hlt, hfe] at h2
    have h3 := (List.pairwise_cons.1 h2).1 g hg
    simp only [Bool.not_eq_true']
    rw [Bool.eq_false_iff]
    intro e
    have := eqB_iff.1 e
    unfold ltF at h3
    rw [this, hfs, ltB_irrefl] at h3; cases h3
  | false =>
    rw [if_neg (by simp)]
    congr 2
    rw [List.filter_eq_self]
    intro g hg
    simp only [Bool.not_eq_true']
    rw [Bool.eq_false_iff]
    intro e
    have e := eqB_iff.1 e
    cases hd : l.drop (posL l s) with
    | nil => rw [hd] at hg; simp at hg
    | cons f r =>
      have hlt : posL l s < l.length := by
        have := congrArg List.length hd
        rw [List.length_drop, List.length_cons] at this; omega
      rw [List.drop_eq_getElem_cons hlt] at hd
      injection hd with hd1 hd2
      have hne : eqB f.path s = false := by
        unfold thereB at ht
        rw [List.getElem?_eq_getElem hlt, hd1] at ht; exact ht
      rw [List.drop_eq_getElem_cons hlt, hd1] at hg
      rcases List.mem_cons.1 hg with q | q
      · rw [q] at e; rw [eqB_iff.2 e] at hne; cases hne
      · have h2 : (l.drop (posL l s)).Pairwise ltF := strict_sub h (List.drop_sublist _ _)
        rw [List.drop_eq_getElem_cons hlt, hd1] at h2
        have h3 := (List.pairwise_cons.1 h2).1 g q
        have h4 := drop_ge (s := s) h f (by rw [drop_pos, List.drop_eq_getElem_cons hlt, hd1]; simp)
        unfold ltF at h3
        rw [e, h4] at h3; cases h3
end Go.Proofs.YtfohljljoalmoaaDoor
