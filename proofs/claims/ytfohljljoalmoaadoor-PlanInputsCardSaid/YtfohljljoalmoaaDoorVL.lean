/- Joined trees, trees below a directory: plain facts. -/
import Derived.Test.YtfohljljoalmoaaDoorVK
import Derived.Test.YtfohljljoalmoaaDoorUF
import Derived.Test.YtfohljljoalmoaaDoorTD
namespace Go.Proofs.YtfohljljoalmoaaDoor
open Go.RowKit
set_option maxRecDepth 100000
set_option linter.unusedSimpArgs false
set_option linter.unusedVariables false

def ltF (f g : FileE) : Prop := ltB f.path g.path = true
theorem sumTo_all (l : List FileE) : sumTo l l.length = (l.map fun f => f.bytes.length).sum := by unfold sumTo; rw [List.take_length]
theorem okTo_of {l : List FileE} : ∀ k, (∀ i, i < k → okAt l i = true) → okTo l k = true
  | 0, _ => rfl
  | k + 1, h => by unfold okTo; rw [okTo_of k (fun i hi => h i (by omega)), h k (by omega)]; rfl
theorem mayB_iff {l : List FileE} : mayB l = true ↔ l.length ≤ 16 ∧ (∀ f ∈ l, pathB f.path = true ∧ f.bytes.length ≤ 2000) ∧ l.Pairwise ltF ∧ (l.map fun f => f.bytes.length).sum ≤ 4000 := by
  constructor
  · intro h
    have hi := mayIs h
    refine ⟨hi.len, fun f hf => ⟨(hi.file f hf).1, (hi.file f hf).2.2⟩, ?_, ?_⟩
    · rw [List.pairwise_iff_getElem]
      intro i j hi hj hij
      exact may_lt h j i _ _ hij (List.getElem?_eq_getElem hi) (List.getElem?_eq_getElem hj)
    · unfold mayB at h
      simp only [Bool.and_eq_true, decide_eq_true_eq] at h
      rw [← sumTo_all]; exact h.2
  · rintro ⟨h1, h2, h3, h4⟩
    unfold mayB
    simp only [Bool.and_eq_true, decide_eq_true_eq]
    refine ⟨⟨h1, okTo_of _ (fun i hi => ?_)⟩, by rw [sumTo_all]; exact h4⟩
    unfold okAt
    rw [List.getElem?_eq_getElem hi]
    have := h2 l[i] (List.getElem_mem hi)
    simp only [Bool.and_eq_true, decide_eq_true_eq]
    refine ⟨⟨this.1, this.2⟩, ?_⟩
    cases i with
    | zero => rfl
    | succ j =>
      simp only [prevOk, List.getElem?_eq_getElem (show j < l.length by omega)]
      exact (List.pairwise_iff_getElem.1 h3) j (j + 1) (by omega) hi (by omega)
theorem strict_of {o : List FileE} (hs : o.Pairwise leF) (hd : dupTo o o.length = false) : o.Pairwise ltF := by
  rw [List.pairwise_iff_getElem] at hs ⊢
  have adj : ∀ i (h : i + 1 < o.length), ltB o[i].path o[i + 1].path = true := fun i h => by
    cases hb : ltB o[i].path o[i + 1].path with
    | true => rfl
    | false =>
      have he := ltB_tri hb (hs i (i + 1) (by omega) h (by omega))
      have : dupAt o (i + 1) = true := by
        simp only [dupAt, List.getElem?_eq_getElem h, List.getElem?_eq_getElem (show i < o.length by omega)]
        exact eqB_iff.2 he
      rw [dupTo_yes this _ h] at hd
      cases hd
  intro i j hi hj hij
  induction j with
  | zero => omega
  | succ j ih =>
    by_cases e : i = j
    · subst e; exact adj i hj
    · exact ltB_trans (ih (by omega) (by omega)) (adj j hj)
theorem nodup_of {o : List FileE} (h : o.Pairwise ltF) : (o.map FileE.path).Nodup := by
  unfold List.Nodup
  rw [List.pairwise_map]
  refine h.imp ?_
  intro f g hlt he
  unfold ltF at hlt
  rw [he, ltB_irrefl] at hlt; cases hlt
theorem dup_of_nodup {o : List FileE} (h : (o.map FileE.path).Nodup) : ∀ k, dupTo o k = false
  | 0 => rfl
  | k + 1 => by
    unfold dupTo
    rw [dup_of_nodup h k, Bool.false_or]
    cases k with
    | zero => rfl
    | succ i =>
      simp only [dupAt]
      cases hf : o[i]? with
      | none => rfl
      | some f =>
        cases hg : o[i + 1]? with
        | none => rfl
        | some g =>
          simp only
          rw [Bool.eq_false_iff]
          intro he
          have he := eqB_iff.1 he
          obtain ⟨h1, rfl⟩ := List.getElem?_eq_some_iff.1 hf
          obtain ⟨h2, rfl⟩ := List.getElem?_eq_some_iff.1 hg
          have := (List.pairwise_iff_getElem.1 h) i (i + 1) (by simpa using h1) (by simpa using h2) (by omega)
          simp at this
          exact this he
theorem sorted_eq {o o2 : List FileE} (h : o.Pairwise ltF) (h2 : o2.Pairwise leF) (hp : o2.Perm o) : dupTo o2 o2.length = false ∧ o2 = o := by
  have hd : dupTo o2 o2.length = false := dup_of_nodup ((hp.map FileE.path).nodup_iff.2 (nodup_of h)) _
  refine ⟨hd, ?_⟩
  have hs2 := strict_of h2 hd
  refine List.Perm.eq_of_pairwise (le := ltF) (fun a b _ _ hab hba => ?_) hs2 h hp
  unfold ltF at hab hba
  rw [ltB_asymm hab] at hba; cases hba
theorem lt_le {o : List FileE} (h : o.Pairwise ltF) : o.Pairwise leF := h.imp (fun {a b} hab => ltB_asymm hab)
theorem bless_pre : ∀ (a x y : List UInt8), Op.bytesLess (a ++ x) (a ++ y) = Op.bytesLess x y
  | [], _, _ => rfl
  | c :: a, x, y => by rw [List.cons_append, List.cons_append, bless_cons, bless_pre a x y]; simp
theorem slashed_list (d p : ByteArray) : (slashed d p).toList = (dirS d).toList ++ p.toList := by
  rw [data_toList, data_toList, data_toList, slashed_dir, ByteArray.data_append, Array.toList_append]
theorem lt_slashed (d p q : ByteArray) : ltB (slashed d p) (slashed d q) = ltB p q := by
  unfold ltB; rw [slashed_list, slashed_list, bless_pre]
theorem up_strict {l : List FileE} (d : ByteArray) (h : l.Pairwise ltF) : (l.map (upF d)).Pairwise ltF := by
  rw [List.pairwise_map]
  exact h.imp (fun {a b} hab => by unfold ltF upF; rw [lt_slashed]; exact hab)
theorem up_sum (d : ByteArray) (l : List FileE) : ((l.map (upF d)).map fun f => f.bytes.length).sum = (l.map fun f => f.bytes.length).sum := by
  rw [List.map_map]; rfl
/-- A part of what may be below a directory may be below it. -/
theorem up_part {o l : List FileE} {d : ByteArray} (hl : mayB l = true) (ho : mayB (o.map (upF d)) = true) (hs : ∀ f ∈ l, f ∈ o) : mayB (l.map (upF d)) = true := by
  obtain ⟨h1, h2, h3, h4⟩ := mayB_iff.1 hl
  obtain ⟨q1, q2, q3, q4⟩ := mayB_iff.1 ho
  refine mayB_iff.2 ⟨by rw [List.length_map]; exact h1, fun f hf => ?_, up_strict d h3, by rw [up_sum]; exact h4⟩
  obtain ⟨g, hg, rfl⟩ := List.mem_map.1 hf
  exact q2 _ (List.mem_map_of_mem (hs g hg))
theorem slashed_two (a b p : ByteArray) : slashed a (slashed b p) = slashed (slashed a b) p := by
  apply ba_ext
  rw [slashed_list, slashed_list, slashed_list]
  unfold dirS
  simp only [data_toList, ByteArray.data_append, Array.toList_append, slashed, List.append_assoc]
theorem up_two (a b : ByteArray) (l : List FileE) : (l.map (upF b)).map (upF a) = l.map (upF (slashed a b)) := by
  rw [List.map_map]
  apply List.map_congr_left
  intro f _
  show upF a (upF b f) = upF (slashed a b) f
  unfold upF
  rw [slashed_two]
theorem path_slashed (a b : ByteArray) : pathB (slashed a b) = (pathB a && pathB b && decide (a.size + b.size + 1 ≤ 40)) := pathB_join a b
end Go.Proofs.YtfohljljoalmoaaDoor
