/- slices.SortFunc over a row of rows of bytes, what it comes to. -/
import Derived.Test.YthachckofghppaaDoorYG
namespace Go.Proofs.YthachckofghppaaDoor
open Go.RowKit Go.Sort Go.Shelf Go.Lib
set_option maxRecDepth 100000
set_option linter.unusedSimpArgs false
set_option linter.unusedVariables false

/-- Rows of bytes in their order. -/
def sortR (ls : List (List UInt8)) : List (List UInt8) := ls.mergeSort fun a b => decide (a ≤ b)
theorem leR_trans (a b c : List UInt8) (h : decide (a ≤ b) = true) (k : decide (b ≤ c) = true) : decide (a ≤ c) = true := by
  simp only [decide_eq_true_eq] at *
  exact List.le_trans h k
theorem leR_total (a b : List UInt8) : (decide (a ≤ b) || decide (b ≤ a)) = true := by
  simp only [Bool.or_eq_true, decide_eq_true_eq]
  exact List.le_total a b
theorem sortR_perm (ls : List (List UInt8)) : (sortR ls).Perm ls := List.mergeSort_perm ls _
theorem sortR_sorted (ls : List (List UInt8)) : (sortR ls).Pairwise fun a b => decide (a ≤ b) = true := List.pairwise_mergeSort leR_trans leR_total ls
theorem sortR_len (ls : List (List UInt8)) : (sortR ls).length = ls.length := (sortR_perm ls).length_eq
/-- There is one order. -/
theorem sortR_uniq {ls l : List (List UInt8)} (hp : l.Perm ls) (hs : l.Pairwise fun a b => decide (a ≤ b) = true) : l = sortR ls := by
  refine List.Perm.eq_of_pairwise (le := fun a b => decide (a ≤ b) = true) (fun a b _ _ h1 h2 => ?_) hs (sortR_sorted ls) (hp.trans (sortR_perm ls).symm)
  simp only [decide_eq_true_eq] at h1 h2
  exact List.le_antisymm h1 h2
theorem putCells_all {α : Type} [Inhabited α] (enc : α → Value) (d : Array α) (C : Array Value) (h : C.size = d.size) : putCells enc 0 d C = d.map enc := by
  apply Array.ext_getElem?
  intro i
  unfold putCells
  rw [Array.getElem?_mapIdx, Array.getElem?_map]
  by_cases hi : i < d.size
  · rw [Array.getElem?_eq_getElem hi, Array.getElem?_eq_getElem (by omega)]
    simp only [Option.map_some]
    rw [if_pos ⟨Nat.zero_le _, by omega⟩, Nat.sub_zero, getElem!_pos d i hi]
  · rw [Array.getElem?_eq_none (by omega), Array.getElem?_eq_none (by omega)]
    rfl
theorem heap_sortWorld {α : Type} [Inhabited α] (enc : α → Value) {w : World} {blk : Nat} {C : Array Value} {t : TypeId} {fr : Nat × Nat} (hg : w.heap[blk]? = some (.cells C t fr)) (m : Nat) (d : Array α) (os : Array Obj) (h : C.size = d.size) :
    (sortWorld enc w blk 0 m d os).heap[blk]? = some (.cells (d.map enc) t fr) := by
  have hlt := (Array.getElem?_eq_some_iff.1 hg).1
  show ((w.heap.modify blk _) ++ os)[blk]? = _
  rw [Array.getElem?_append_left (by simpa using hlt), Array.getElem?_modify, if_pos rfl, hg]
  show some (Obj.cells (putCells enc 0 d C) t fr) = _
  rw [putCells_all enc d C h]
def PiecesX (X : Nat) (w : World) (vs : List Value) (ls : List (List UInt8)) : Prop := vs.length = ls.length ∧ ∀ (j : Nat) l, ls[j]? = some l → ∃ x, vs[j]? = some x ∧ ByX X w x l
theorem PiecesX.kept {X : Nat} {w w' : World} {vs : List Value} {ls : List (List UInt8)} (h : PiecesX X w vs ls) (k : Kept (fun k => k = X) w w') : PiecesX X w' vs ls :=
  ⟨h.1, fun j l hl => by obtain ⟨x, h1, h2⟩ := h.2 j l hl; exact ⟨x, h1, h2.kept k⟩⟩
theorem ByX.slc {X : Nat} {w : World} {v : Value} {l : List UInt8} (h : ByX X w v l) : ∃ a c, v = .slice a l.length c := h.at.1.slc
set_option maxHeartbeats 1000000 in
theorem sortF_ct {w : World} {blk : Nat} {vs : List Value} {ls : List (List UInt8)} (hg : w.heap[blk]? = some (.cells vs.toArray 22 (0, 0))) (hp : PiecesX blk w vs ls) (hl : ls.length ≤ 1000000) :
    Calls Tryd.prog 42 #[.slice (some ⟨blk, 0, none⟩) ls.length ls.length, .func (.func 43) #[] #[]] w fun e w' => e = .returned (.tuple #[]) ∧ ∃ vs' : List Value,
      w'.heap[blk]? = some (.cells vs'.toArray 22 (0, 0)) ∧ PiecesX blk w' vs' (sortR ls) ∧ Kept (fun k => k = blk) w w' := by
  obtain ⟨hv, hp⟩ := hp
  have hlt := (Array.getElem?_eq_some_iff.1 hg).1
  have key : ∀ i : Fin ls.length, ByX blk w (vs[i.val]'(by rw [hv]; exact i.isLt)) ls[i.val] := fun i => by
    obtain ⟨x, h1, h2⟩ := hp i.val ls[i.val] (List.getElem?_eq_getElem i.isLt)
    rw [List.getElem?_eq_getElem (by rw [hv]; exact i.isLt)] at h1
    injection h1 with h1
    rw [h1]; exact h2
  obtain ⟨d, hd⟩ : ∃ d : Array (PieceE blk w), d = Array.ofFn fun i : Fin ls.length => (⟨vs[i.val]'(by rw [hv]; exact i.isLt), ls[i.val], key i⟩ : PieceE blk w) := ⟨_, rfl⟩
  have hsz : d.size = ls.length := by rw [hd]; simp
  have h1 : d.toList.map (fun p => p.v) = vs := by
    apply List.ext_getElem
    · simp [hsz, hv]
    · intro i h1 h2
      simp [hd]
  have h2 : d.toList.map (fun p => p.l) = ls := by
    apply List.ext_getElem
    · simp [hsz]
    · intro i h1 h2
      simp [hd]
  have hH : Holds (encP blk w) w blk 0 d := fun j hj => by
    have hjv : j < vs.length := by rw [hv, ← hsz]; exact hj
    refine ⟨?_, by simp [World.frozen?, hg]⟩
    rw [cell_of_row _ _ _ _ _ _ hg, Nat.zero_add, getElem!_pos d j hj, List.getElem?_toArray, List.getElem?_eq_getElem hjv]
    have : (d.toList.map (fun p => p.v))[j]'(by rw [h1]; exact hjv) = vs[j] := by simp [h1]
    rw [← this]
    simp [encP]
  have eg : ∀ args w, (callFunc 43 args).run Tryd.prog w = .ok (.enter 43 args) w := enters_of Tryd.func43 (by kernel_rfl) rfl
  have hcon := Any.slices_SortFunc laysF (encP blk w) (fun p => by
    obtain ⟨a, c, e⟩ := p.ok.slc
    show p.v.oneCell' = true
    rw [e]; rfl) (cfP blk w) (swoP blk w) 43 #[] blk 0 ls.length d w eg (cmpP blk 0 d.size w).lays hH hlt (by omega)
  rw [hsz] at hcon
  refine hcon.mono fun e w' ⟨he, d', n, os, hperm, hsort, hw⟩ => ⟨he, d'.toList.map (fun p => p.v), ?_⟩
  subst hw
  obtain ⟨q1, _, q3⟩ := hperm
  rw [hsz] at q1
  have k := kept_sortWorld (encP blk w) w blk 0 n d' os
  have hp2 : (d'.toList.map (fun p => p.l)).Perm ls := by
    rw [← h2]
    refine List.Perm.map _ ?_
    have e1 : d'.extract 0 ls.length = d' := by rw [← q1]; simp
    have e2 : d.extract 0 ls.length = d := by rw [← hsz]; simp
    rw [e1, e2] at q3
    exact q3
  have hs2 : (d'.toList.map (fun p => p.l)).Pairwise fun a b => decide (a ≤ b) = true := by
    rw [List.pairwise_map, List.pairwise_iff_getElem]
    intro i j hi hj hij
    have := hsort i j (Nat.zero_le _) hij (by rw [← q1]; simpa using hj)
    rw [ltP, decide_eq_false_iff_not, getElem!_pos d' i (by simpa using hi), getElem!_pos d' j (by simpa using hj)] at this
    simp only [decide_eq_true_eq]
    exact List.not_lt.1 this
  have hse := sortR_uniq hp2 hs2
  refine ⟨?_, ⟨?_, ?_⟩, k⟩
  · rw [heap_sortWorld (encP blk w) hg n d' os (by rw [List.size_toArray, hv, q1])]
    congr 2
    apply Array.ext'
    simp [encP]
  · rw [sortR_len, List.length_map, Array.length_toList, q1]
  · intro j l hj
    rw [← hse, List.getElem?_map] at hj
    cases hq : d'.toList[j]? with
    | none => rw [hq] at hj; cases hj
    | some p =>
      rw [hq] at hj
      simp only [Option.map_some, Option.some.injEq] at hj
      subst hj
      exact ⟨p.v, by rw [List.getElem?_map, hq]; rfl, p.ok.kept k⟩
end Go.Proofs.YthachckofghppaaDoor
