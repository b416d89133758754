/- TreeBack: the plain law, the walk. -/
import Derived.Test.YtfohljljoalmoaaDoorUE
import Derived.Test.YtfohljljoalmoaaDoorTK
namespace Go.Proofs.YtfohljljoalmoaaDoor
open Go.RowKit
set_option maxRecDepth 100000
set_option linter.unusedSimpArgs false
set_option linter.unusedVariables false

theorem eqF_rfl (f : FileE) : eqF f f = true := by unfold eqF; simp
theorem sameTo_rfl (l : List FileE) : ∀ k, k ≤ l.length → sameTo l l k = true
  | 0, _ => rfl
  | k + 1, h => by
    unfold sameTo
    rw [sameTo_rfl l k (by omega), List.getElem?_eq_getElem (by omega)]
    simp [eqF_rfl]
theorem sameB_rfl (l : List FileE) : sameB l l = true := by unfold sameB; rw [sameTo_rfl l _ (Nat.le_refl _)]; simp
theorem extract_app (a b : ByteArray) : (a ++ b).extract a.size (a ++ b).size = b := by
  rw [ByteArray.size_append]
  apply ba_ext
  rw [data_toList, data_toList, ByteArray.data_extract, ByteArray.data_append]
  show ((a.data ++ b.data).extract a.data.size (a.data.size + b.data.size)).toList = b.data.toList
  simp
  rw [List.drop_of_length_le (show a.data.toList.length ≤ a.size from Nat.le_refl _), List.take_nil, List.nil_append, List.take_of_length_le (show b.data.toList.length ≤ b.size from Nat.le_refl _)]
theorem extract_pre (a b : ByteArray) : (a ++ b).extract 0 a.size = a := by
  apply ba_ext
  rw [data_toList, data_toList, ByteArray.data_extract, ByteArray.data_append]
  show ((a.data ++ b.data).extract 0 a.data.size).toList = a.data.toList
  simp
  rw [List.take_of_length_le (show a.data.toList.length ≤ a.size from Nat.le_refl _)]
theorem slashed_dir (d p : ByteArray) : slashed d p = dirS d ++ p := rfl
theorem has_slashed (d p : ByteArray) : hasB (slashed d p) (dirS d) = true := by
  unfold hasB
  rw [slashed_dir, extract_pre, ByteArray.size_append, decide_eq_true (by omega)]; simp
theorem rest_slashed (d p : ByteArray) : restS d (slashed d p) = p := by unfold restS; rw [slashed_dir, extract_app]
theorem below_up (d : ByteArray) : ∀ (l : List FileE), belowL d (l.map (upF d)) = l
  | [] => rfl
  | f :: l => by
    have ih := below_up d l
    unfold belowL at *
    rw [List.map_cons, List.filterMap_cons]
    simp only [upF, has_slashed, if_true, rest_slashed]
    rw [ih]
theorem pos_at {l : List FileE} (h : mayB l = true) {i : Nat} {f : FileE} (hf : l[i]? = some f) : posL l f.path = i := by
  refine (pos_of (fun t g ht hg => may_lt h i t g f ht hg hf) (fun g hg => ?_) (Nat.le_of_lt (List.getElem?_eq_some_iff.1 hf).1)).symm
  rw [hf] at hg; injection hg with hg; subst hg; exact ltB_irrefl _
theorem there_at {l : List FileE} (h : mayB l = true) {i : Nat} {f : FileE} (hf : l[i]? = some f) : thereB l f.path = true := by
  unfold thereB; rw [pos_at h hf, hf]; exact eqB_iff.2 rfl
theorem get_at {l : List FileE} (h : mayB l = true) {f : FileE} (hf : f ∈ l) : thereB l f.path = true ∧ l[posL l f.path]? = some f := by
  obtain ⟨i, hi, rfl⟩ := List.getElem_of_mem hf
  have := List.getElem?_eq_getElem hi
  exact ⟨there_at h this, by rw [pos_at h this]; exact this⟩
theorem with_has (l : List FileE) (s : ByteArray) (b : List UInt8) : (⟨s, b⟩ : FileE) ∈ withL l s b := by
  unfold withL
  split
  · rename_i ht
    obtain ⟨f, hf, _⟩ := pos_there ht
    exact List.mem_set (List.getElem?_eq_some_iff.1 hf).1 _
  · simp
theorem with_keeps {l : List FileE} {s : ByteArray} {b : List UInt8} {f : FileE} (hf : f ∈ l) (hs : f.path ≠ s) : f ∈ withL l s b := by
  unfold withL
  split
  · rename_i ht
    obtain ⟨g, hg, hgs⟩ := pos_there ht
    obtain ⟨i, hi, rfl⟩ := List.getElem_of_mem hf
    refine List.mem_iff_getElem?.2 ⟨i, ?_⟩
    rw [List.getElem?_set_ne (fun e => ?_)]
    · exact List.getElem?_eq_getElem hi
    · subst e; rw [List.getElem?_eq_getElem hi] at hg; injection hg with hg; subst hg; exact hs hgs
  · have := List.take_append_drop (posL l s) l
    rw [← this] at hf
    rcases List.mem_append.1 hf with h | h
    · exact List.mem_append.2 (.inl h)
    · exact List.mem_append.2 (.inr (List.mem_cons.2 (.inr h)))
theorem with_len (l : List FileE) (s : ByteArray) (b : List UInt8) : (withL l s b).length = if thereB l s = true then l.length else l.length + 1 := by
  have := pos_le l s
  unfold withL
  split
  · rw [List.length_set]
  · rw [List.length_append, List.length_cons, List.length_take, List.length_drop]; omega
/-- What Under gives. -/
def UnderIs (l : List FileE) (d : ByteArray) (w : World) (e : Ending) : Prop :=
  ((mayB l && pathB d) = false ∧ e = .returned (.tuple #[.slice none 0 0, .int .i64 2])) ∨
  ((mayB l && pathB d) = true ∧ mayB (l.map (upF d)) = false ∧ e = .returned (.tuple #[.slice none 0 0, .int .i64 8])) ∨
  ((mayB l && pathB d) = true ∧ mayB (l.map (upF d)) = true ∧ ∃ v', e = .returned (.tuple #[v', .int .i64 0]) ∧ TreeAt w v' (l.map (upF d)))
theorem under_any {w : World} {v : Value} {l : List FileE} (h : TreeAt w v l) (d : ByteArray) (hd : d.size ≤ maxLen) :
    Calls Tryd.prog 27 #[v, .string d] w fun e w' => UnderIs l d w' e ∧ Kept (fun _ => False) w w' := by
  cases hn : mayB l && pathB d with
  | false => exact (not_path_under h d hd hn).mono fun e w' ⟨h1, h2⟩ => ⟨.inl ⟨hn, h1⟩, h2⟩
  | true =>
    have hn2 := hn
    rw [Bool.and_eq_true] at hn2
    refine (under_ct h hn2.1 hn2.2).mono fun e w' ⟨h1, h2⟩ => ⟨.inr ?_, h2⟩
    rcases h1 with ⟨m, v', e1, t⟩ | ⟨m, e1⟩
    · exact .inr ⟨hn, m, v', e1, t⟩
    · exact .inl ⟨hn, m, e1⟩
/-- What Get gives, of a file that is there. -/
theorem get_is {l : List FileE} {s : ByteArray} {w : World} {e : Ending} (hg : GetIs l s w e) (h : mayB l = true) {f : FileE} (hf : f ∈ l) (hs : f.path = s) : ∃ v, e = .returned (.tuple #[v, .bool true]) ∧ ByAt w v f.bytes := by
  subst hs
  obtain ⟨h1, h2⟩ := get_at h hf
  rcases hg with ⟨v, g, _, hg, he, hb⟩ | ⟨hn, _⟩
  · rw [h2] at hg; injection hg with hg; subst hg; exact ⟨v, he, hb⟩
  · rw [h, h1] at hn; cases hn
theorem get_form {l : List FileE} {s : ByteArray} {w : World} {e : Ending} (hg : GetIs l s w e) : ∃ a n c, e = .returned (.tuple #[.slice a n c, .bool (mayB l && thereB l s)]) := by
  rcases hg with ⟨v, g, hm, _, he, hb⟩ | ⟨hn, he⟩
  · obtain ⟨a, c, rfl⟩ := hb.slc
    exact ⟨_, _, _, by rw [he, hm]⟩
  · exact ⟨_, _, _, by rw [he, hn]⟩
end Go.Proofs.YtfohljljoalmoaaDoor
