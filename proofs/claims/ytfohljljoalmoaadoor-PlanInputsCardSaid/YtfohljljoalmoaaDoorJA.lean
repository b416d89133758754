/- What a target is run on: plain. -/
import Derived.Test.YtfohljljoalmoaaDoorVP
namespace Go.Proofs.YtfohljljoalmoaaDoor
open Go.RowKit
set_option maxRecDepth 100000
set_option linter.unusedSimpArgs false
set_option linter.unusedVariables false

def srcS : ByteArray := ⟨#[115, 114, 99]⟩
def inW : ByteArray := ⟨#[105, 110]⟩
def inS (d : ByteArray) : ByteArray := ⟨#[105, 110, 47]⟩ ++ d
theorem inS_eq (d : ByteArray) : inS d = slashed inW d := by
  apply ba_ext
  rw [slashed_list, inS, data_toList, data_toList, data_toList, ByteArray.data_append, Array.toList_append]; rfl
def NAMES : ByteArray := ⟨#[97, 98, 99, 100, 101, 102, 103, 104, 105, 106, 107, 108, 109, 110, 111, 112, 113, 114, 115, 116, 117, 118, 119, 120, 121, 122, 48, 49, 50, 51, 52, 53, 54, 55, 56, 57, 95, 45]⟩
def nameB (s : ByteArray) : Bool := decide (1 ≤ s.size) && decide (s.size ≤ 10) && s.data.toList.all fun c => NAMES.data.toList.contains c
theorem names_plain : ∀ c : UInt8, NAMES.data.toList.contains c = true → plainC c.toNat = true ∧ c ≠ 47 := by
  intro c hc
  have hm : c ∈ NAMES.data.toList := by simpa using hc
  unfold NAMES at hm
  simp only [List.mem_cons, List.not_mem_nil, or_false] at hm
  rcases hm with h | h | h | h | h | h | h | h | h | h | h | h | h | h | h | h | h | h | h | h | h | h | h | h | h | h | h | h | h | h | h | h | h | h | h | h | h | h <;> subst h <;> exact ⟨by decide, by decide⟩
theorem okL_plain : ∀ (l : List Nat) (last : Nat), (∀ c ∈ l, plainC c = true) → okL last l = true
  | [], _, _ => rfl
  | c :: l, last, h => by
    unfold okL
    rw [okL_plain l c (fun x hx => h x (List.mem_cons_of_mem _ hx))]
    unfold okC
    rw [h c (List.mem_cons_self ..)]; rfl
theorem name_path {s : ByteArray} (h : nameB s = true) : pathB s = true ∧ s.size ≤ 10 := by
  unfold nameB at h
  simp only [Bool.and_eq_true, decide_eq_true_eq, List.all_eq_true] at h
  obtain ⟨⟨h1, h2⟩, h3⟩ := h
  refine ⟨?_, h2⟩
  have hp : ∀ c ∈ nums s, plainC c = true ∧ c ≠ 47 := fun c hc => by
    unfold nums at hc
    obtain ⟨u, hu, rfl⟩ := List.mem_map.1 hc
    have := names_plain u (h3 u hu)
    exact ⟨this.1, fun e => this.2 (UInt8.toNat_inj.1 e)⟩
  rw [pathB_L]
  unfold pathL
  rw [nums_len, decide_eq_true h1, decide_eq_true (by omega), okL_plain _ _ (fun c hc => (hp c hc).1)]
  have hl := nums_len s
  have hlast : (nums s).getLastD 0 ≠ 47 := by
    rw [List.getLastD_eq_getLast?]
    cases hg : (nums s).getLast? with
    | none => simp
    | some c => exact (hp c (List.mem_of_getLast? hg)).2
  simpa using hlast
theorem in_path {d : ByteArray} (h : nameB d = true) : pathB (inS d) = true := by
  obtain ⟨h1, h2⟩ := name_path h
  rw [inS_eq, path_slashed, h1]
  have : inW.size = 2 := by kernel_rfl
  rw [this, decide_eq_true (by omega)]
  decide +kernel
theorem src_path : pathB srcS = true := by decide +kernel

abbrev Dep := ByteArray × List FileE
def foldI : List Dep → List FileE → Option (List FileE)
  | [], t => some t
  | (d, l) :: r, t => if underC l (inS d) ≠ 0 then none else if joinC t (l.map (upF (inS d))) ≠ 0 then none else foldI r (joinO t (l.map (upF (inS d))))
def depF (x : Dep) : List FileE := x.2.map (upF (inS x.1))
def insO (ls : List FileE) (ds : List Dep) : Option (List FileE) := if underC ls srcS ≠ 0 then none else foldI ds (ls.map (upF srcS))
def allF (ls : List FileE) (ds : List Dep) : List FileE := ls.map (upF srcS) ++ ds.flatMap depF

theorem foldI_perm : ∀ {ds : List Dep} {t o : List FileE}, mayB t = true → foldI ds t = some o → mayB o = true ∧ o.Perm (t ++ ds.flatMap depF)
  | [], t, o, ht, h => by
    unfold foldI at h
    injection h with h
    subst h
    exact ⟨ht, by simp⟩
  | (d, l) :: r, t, o, ht, h => by
    unfold foldI at h
    split at h
    · cases h
    · split at h
      · cases h
      · rename_i h1 h2
        have hj := joinC_zero (Decidable.not_not.1 h2)
        obtain ⟨q1, q2⟩ := foldI_perm hj.may h
        refine ⟨q1, q2.trans ?_⟩
        rw [List.flatMap_cons, ← List.append_assoc]
        exact hj.perm.append_right _
theorem may_part {o j x : List FileE} (ho : mayB o = true) (hp : o.Perm (j ++ x)) (hs : j.Pairwise leF) : mayB j = true := by
  obtain ⟨h1, h2, h3, h4⟩ := mayB_iff.1 ho
  have hl := hp.length_eq
  rw [List.length_append] at hl
  have hnd : (j.map FileE.path).Nodup := by
    have := (hp.map FileE.path).nodup_iff.1 (nodup_of h3)
    rw [List.map_append] at this
    exact (List.nodup_append.1 this).1
  refine mayB_iff.2 ⟨by omega, fun f hf => h2 f (hp.mem_iff.2 (List.mem_append.2 (.inl hf))), strict_of hs (dup_of_nodup hnd _), ?_⟩
  have := (hp.map fun f => f.bytes.length).sum_nat
  rw [List.map_append, List.sum_append] at this
  omega
theorem up_may {o l : List FileE} {d : ByteArray} (hl : mayB l = true) (ho : mayB o = true) (hs : ∀ f ∈ l, upF d f ∈ o) : mayB (l.map (upF d)) = true := by
  obtain ⟨h1, h2, h3, h4⟩ := mayB_iff.1 hl
  obtain ⟨q1, q2, q3, q4⟩ := mayB_iff.1 ho
  refine mayB_iff.2 ⟨by rw [List.length_map]; exact h1, fun f hf => ?_, up_strict d h3, by rw [up_sum]; exact h4⟩
  obtain ⟨g, hg, rfl⟩ := List.mem_map.1 hf
  exact q2 _ (hs g hg)
theorem foldI_of : ∀ {ds : List Dep} {t o : List FileE}, (∀ x ∈ ds, nameB x.1 = true ∧ mayB x.2 = true) → mayB t = true → mayB o = true → o.Perm (t ++ ds.flatMap depF) → foldI ds t = some o
  | [], t, o, _, ht, ho, hp => by
    unfold foldI
    have := (sorted_eq (mayB_iff.1 ht).2.2.1 (lt_le (mayB_iff.1 ho).2.2.1) (by simpa using hp)).2
    rw [this]
  | (d, l) :: r, t, o, hd, ht, ho, hp => by
    have h0 := hd _ (List.mem_cons_self ..)
    rw [List.flatMap_cons, ← List.append_assoc] at hp
    have hu : mayB (l.map (upF (inS d))) = true := up_may h0.2 ho (fun f hf => hp.mem_iff.2 (List.mem_append.2 (.inl (List.mem_append.2 (.inr (List.mem_map_of_mem hf))))))
    have hjp := joinO_perm t (l.map (upF (inS d)))
    have hp2 : o.Perm (joinO t (l.map (upF (inS d))) ++ r.flatMap depF) := hp.trans (hjp.symm.append_right _)
    have hj : mayB (joinO t (l.map (upF (inS d)))) = true := may_part ho hp2 (joinO_sorted _ _)
    have hc := (joined_c ⟨ht, hu, hj, hjp⟩).1
    unfold foldI
    rw [if_neg (by rw [underC_zero.2 ⟨h0.2, in_path h0.1, hu⟩]; simp), if_neg (by rw [hc]; simp)]
    exact foldI_of (fun x hx => hd x (List.mem_cons_of_mem _ hx)) hj ho hp2
structure DepsOk (ls : List FileE) (ds : List Dep) : Prop where
  src : mayB ls = true
  dep : ∀ x ∈ ds, nameB x.1 = true ∧ mayB x.2 = true
theorem insO_iff {ls : List FileE} {ds : List Dep} {o : List FileE} (h : DepsOk ls ds) : insO ls ds = some o ↔ mayB o = true ∧ o.Perm (allF ls ds) := by
  unfold insO
  constructor
  · intro q
    split at q
    · cases q
    · rename_i h1
      exact foldI_perm (underC_zero.1 (Decidable.not_not.1 h1)).2.2 q
  · rintro ⟨h1, h2⟩
    have hu : mayB (ls.map (upF srcS)) = true := up_may h.src h1 (fun f hf => h2.mem_iff.2 (List.mem_append.2 (.inl (List.mem_map_of_mem hf))))
    rw [if_neg (by rw [underC_zero.2 ⟨h.src, src_path, hu⟩]; simp)]
    exact foldI_of h.dep hu h1 h2
/-- The deps in another order. -/
theorem insO_perm {ls : List FileE} {ds ds2 : List Dep} {o : List FileE} (h : DepsOk ls ds) (hp : ds2.Perm ds) (hi : insO ls ds = some o) : insO ls ds2 = some o := by
  obtain ⟨h1, h2⟩ := (insO_iff h).1 hi
  exact (insO_iff ⟨h.src, fun x hx => h.dep x (hp.mem_iff.1 hx)⟩).2 ⟨h1, h2.trans ((hp.flatMap_right depF).symm.append_left _)⟩

/-- Below a directory there are the files that were put there. -/
theorem belowL_app (d : ByteArray) (a b : List FileE) : belowL d (a ++ b) = belowL d a ++ belowL d b := by unfold belowL; rw [List.filterMap_append]
def apart (a b : ByteArray) : Prop := ∀ p, hasB (slashed b p) (dirS a) = false
theorem below_apart {a b : ByteArray} (h : apart a b) (l : List FileE) : belowL a (l.map (upF b)) = [] := by
  unfold belowL
  rw [List.filterMap_map]
  refine List.filterMap_eq_nil_iff.2 fun f _ => ?_
  show (if hasB (upF b f).path (dirS a) = true then _ else none) = none
  rw [show (upF b f).path = slashed b f.path from rfl, h f.path]; rfl
theorem has_pre {s p : ByteArray} (h : hasB s p = true) : ∃ r, s.data.toList = p.data.toList ++ r := by
  unfold hasB at h
  rw [Bool.and_eq_true, decide_eq_true_eq, beq_iff_eq, data_toList, data_toList] at h
  refine ⟨s.data.toList.drop p.size, ?_⟩
  rw [← h.2, ByteArray.data_extract]
  conv => lhs; rw [← List.take_append_drop p.size s.data.toList]
  simp
theorem slash_first : ∀ {a a' b r : List UInt8}, 47 ∉ a → 47 ∉ a' → a ++ 47 :: b = a' ++ 47 :: r → a = a'
  | [], [], _, _, _, _, _ => rfl
  | [], c :: a', b, r, _, h, e => by
    rw [List.nil_append, List.cons_append] at e
    injection e with e _
    exact absurd (List.mem_cons.2 (.inl e)) h
  | c :: a, [], b, r, h, _, e => by
    rw [List.nil_append, List.cons_append] at e
    injection e with e _
    exact absurd (List.mem_cons.2 (.inl e.symm)) h
  | c :: a, c' :: a', b, r, h, h', e => by
    rw [List.cons_append, List.cons_append] at e
    injection e with e1 e2
    rw [e1, slash_first (fun q => h (List.mem_cons_of_mem _ q)) (fun q => h' (List.mem_cons_of_mem _ q)) e2]
theorem slashed_data (d p : ByteArray) : (slashed d p).data.toList = d.data.toList ++ 47 :: p.data.toList := by
  unfold slashed
  rw [ByteArray.data_append, ByteArray.data_append, Array.toList_append, Array.toList_append, List.append_assoc]; rfl
theorem dirS_data (d : ByteArray) : (dirS d).data.toList = d.data.toList ++ [47] := by
  unfold dirS
  rw [ByteArray.data_append, Array.toList_append]
theorem inS_data (d : ByteArray) : (inS d).data.toList = 105 :: 110 :: 47 :: d.data.toList := by
  unfold inS
  rw [ByteArray.data_append, Array.toList_append]; rfl
theorem name_slash {s : ByteArray} (h : nameB s = true) : (47 : UInt8) ∉ s.data.toList := by
  unfold nameB at h
  simp only [Bool.and_eq_true, List.all_eq_true] at h
  exact fun hm => (names_plain 47 (h.2 47 hm)).2 rfl
theorem apart_src (d : ByteArray) : apart srcS (inS d) := by
  intro p
  rw [Bool.eq_false_iff]
  intro h
  obtain ⟨r, hr⟩ := has_pre h
  rw [slashed_data, inS_data, dirS_data] at hr
  have : (105 : UInt8) = 115 := by injection hr
  exact absurd this (by decide)
theorem apart_in (d : ByteArray) : apart (inS d) srcS := by
  intro p
  rw [Bool.eq_false_iff]
  intro h
  obtain ⟨r, hr⟩ := has_pre h
  rw [slashed_data, dirS_data, inS_data] at hr
  have : (115 : UInt8) = 105 := by injection hr
  exact absurd this (by decide)
theorem apart_two {d d' : ByteArray} (h : nameB d = true) (h' : nameB d' = true) (hn : d ≠ d') : apart (inS d') (inS d) := by
  intro p
  rw [Bool.eq_false_iff]
  intro h0
  obtain ⟨r, hr⟩ := has_pre h0
  rw [slashed_data, dirS_data, inS_data, inS_data] at hr
  simp only [List.cons_append, List.cons.injEq, true_and, List.append_assoc, List.nil_append] at hr
  exact hn (ba_ext (by rw [data_toList, data_toList]; exact slash_first (name_slash h) (name_slash h') hr))
theorem below_strict {d : ByteArray} : ∀ {l : List FileE}, l.Pairwise ltF → (belowL d l).Pairwise ltF
  | [], _ => List.Pairwise.nil
  | f :: l, h => by
    obtain ⟨h1, h2⟩ := List.pairwise_cons.1 h
    have ih := below_strict (d := d) h2
    unfold belowL at *
    rw [List.filterMap_cons]
    by_cases hb : hasB f.path (dirS d) = true
    · simp only [if_pos hb]
      refine List.pairwise_cons.2 ⟨fun g hg => ?_, ih⟩
      obtain ⟨k, hk, hkg⟩ := List.mem_filterMap.1 hg
      by_cases hb2 : hasB k.path (dirS d) = true
      · rw [if_pos hb2] at hkg
        injection hkg with hkg
        subst hkg
        have hlt := h1 k hk
        have un : ∀ s : ByteArray, hasB s (dirS d) = true → s = slashed d (restS d s) := fun s hs => by
          obtain ⟨r, hr⟩ := has_pre hs
          have : s = dirS d ++ ⟨r.toArray⟩ := ba_ext (by rw [data_toList, data_toList, ByteArray.data_append, Array.toList_append, hr])
          rw [this]
          show dirS d ++ _ = slashed d (restS d (dirS d ++ _))
          rw [← slashed_dir, rest_slashed]
        unfold ltF at hlt ⊢
        rw [un _ hb, un _ hb2, lt_slashed] at hlt
        exact hlt
      · rw [if_neg hb2] at hkg; cases hkg
    · simp only [if_neg hb]
      exact ih
theorem below_flat {s : ByteArray} : ∀ (ds : List Dep), (∀ x ∈ ds, apart s (inS x.1)) → belowL s (ds.flatMap depF) = []
  | [], _ => rfl
  | x :: ds, h => by
    rw [List.flatMap_cons, belowL_app, below_flat ds (fun y hy => h y (List.mem_cons_of_mem _ hy)), List.append_nil]
    exact below_apart (h x (List.mem_cons_self ..)) _
theorem below_at : ∀ {ds : List Dep} {i : Nat} {x : Dep}, (∀ y ∈ ds, nameB y.1 = true) → (ds.map (·.1)).Nodup → ds[i]? = some x → belowL (inS x.1) (ds.flatMap depF) = x.2
  | [], i, x, _, _, h => by simp at h
  | y :: ds, i, x, hn, hd, h => by
    rw [List.map_cons, List.nodup_cons] at hd
    rw [List.flatMap_cons, belowL_app]
    cases i with
    | zero =>
      simp only [List.getElem?_cons_zero, Option.some.injEq] at h
      subst h
      rw [show belowL (inS y.1) (depF y) = y.2 from below_up _ _, below_flat ds (fun z hz => apart_two (hn z (List.mem_cons_of_mem _ hz)) (hn y (List.mem_cons_self ..)) (fun e => hd.1 (List.mem_map.2 ⟨z, hz, e⟩))), List.append_nil]
    | succ i =>
      simp only [List.getElem?_cons_succ] at h
      have hx := List.mem_of_getElem? h
      rw [below_at (fun z hz => hn z (List.mem_cons_of_mem _ hz)) hd.2 h]
      rw [show belowL (inS x.1) (depF y) = [] from below_apart (apart_two (hn y (List.mem_cons_self ..)) (hn x (List.mem_cons_of_mem _ hx)) (fun e => hd.1 (List.mem_map.2 ⟨x, hx, e.symm⟩))) _, List.nil_append]
theorem below_perm {s : ByteArray} {o l : List FileE} (ho : mayB o = true) (hl : mayB l = true) (hp : (belowL s o).Perm l) : belowL s o = l :=
  (sorted_eq (mayB_iff.1 hl).2.2.1 (lt_le (below_strict (mayB_iff.1 ho).2.2.1)) hp).2
theorem below_congr {s : ByteArray} {o a : List FileE} (hp : o.Perm a) : (belowL s o).Perm (belowL s a) := hp.filterMap _
theorem ins_src {ls : List FileE} {ds : List Dep} {o : List FileE} (h : DepsOk ls ds) (hi : insO ls ds = some o) : belowL srcS o = ls := by
  obtain ⟨h1, h2⟩ := (insO_iff h).1 hi
  refine below_perm h1 h.src ((below_congr h2).trans ?_)
  unfold allF
  rw [belowL_app, below_up, below_flat ds (fun x _ => apart_src x.1), List.append_nil]
theorem ins_dep {ls : List FileE} {ds : List Dep} {o : List FileE} (h : DepsOk ls ds) (hd : (ds.map (·.1)).Nodup) (hi : insO ls ds = some o) {i : Nat} {x : Dep} (hx : ds[i]? = some x) : belowL (inS x.1) o = x.2 := by
  obtain ⟨h1, h2⟩ := (insO_iff h).1 hi
  refine below_perm h1 (h.dep x (List.mem_of_getElem? hx)).2 ((below_congr h2).trans ?_)
  unfold allF
  rw [belowL_app, below_apart (apart_in x.1), List.nil_append, below_at (fun y hy => (h.dep y hy).1) hd hx]
theorem ins_len {ls : List FileE} {ds : List Dep} {o : List FileE} (h : DepsOk ls ds) (hi : insO ls ds = some o) : o.length = ls.length + (ds.map fun x => x.2.length).sum := by
  obtain ⟨_, h2⟩ := (insO_iff h).1 hi
  rw [h2.length_eq]
  unfold allF
  rw [List.length_append, List.length_map, List.length_flatMap]
  congr 2
  apply List.map_congr_left
  intro x _
  unfold depF
  rw [List.length_map]
end Go.Proofs.YtfohljljoalmoaaDoor
