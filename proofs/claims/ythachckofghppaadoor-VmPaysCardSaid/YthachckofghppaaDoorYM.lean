/- vm.pack. -/
import Derived.Test.YthachckofghppaaDoorYL
import Derived.Test.YthachckofghppaaDoorRG
import Derived.Test.YthachckofghppaaDoorYI
namespace Go.Proofs.YthachckofghppaaDoor
open Go.RowKit
set_option maxRecDepth 100000
set_option linter.unusedSimpArgs false
set_option linter.unusedVariables false

/-- The bytes of the files below a directory, but one. -/
def packV (s : VmS) (d t : ByteArray) : Option (List UInt8) := if mayB ((belowL d s.fs).filter fun f => !delP d t f) = true then some (rawL ((belowL d s.fs).filter fun f => !delP d t f)) else none
def PackOut (X : Nat) (F : Int) (s : VmS) (d t : ByteArray) (e : Ending) (w : World) : Prop := RunAt w X F s ∧ match packV s d t with
  | some b => ∃ v, e = .returned v ∧ ByX X w v b
  | none => e = STOP 8
theorem make_fv (b1 b2 : Nat) (w : World) : (Instr.makeFunc (.func 46) #[] #[.pointer (some ⟨b1, 0, none⟩), .pointer (some ⟨b2, 0, none⟩)]).run Tryd.prog w = .ok (FV b1 b2) w := rfl
set_option maxHeartbeats 1000000 in
theorem bytes_no {w : World} {v : Value} {l : List FileE} (h : TreeAt w v l) (hm : mayB l = false) :
    Calls Tryd.prog 47 #[v] w fun e w' => e = .returned (.tuple #[.slice none 0 0, .int .i64 2]) ∧ Kept (fun _ => False) w w' := by
  have mc := may_ct h
  rw [hm] at mc
  obtain ⟨a, c, hv⟩ := h.slc
  subst hv
  go_enter Tryd.func47, Tryd.ntmps47
  go_wp2_with fail
  refine mc.mono ?_
  rintro e W ⟨rfl, k1⟩
  go_wp2_with fail
  go_ret2
  exact ⟨rfl, k1⟩
theorem delT_ct {w : World} {base : Nat} {v : Value} {l : List FileE} (h : TreeAt w v l) (ho : OwnT base w v l.length) (hn : l.length ≤ 1000) (hsz : ∀ f ∈ l, f.path.size ≤ 100000) {B1 B2 : Nat} {d t : ByteArray} (h1 : BoxS w B1 d) (h2 : BoxS w B2 t) (hB1 : B1 < base) (hB2 : B2 < base) (hbw : base ≤ w.heap.size) :
    Calls Tryd.prog 45 #[v, FV B1 B2] w fun e w' => DelOut d t l w' e ∧ Kept (fun k => base ≤ k) w w' := by
  obtain ⟨ps, hl, hr, hp⟩ := own_pairs h ho rfl
  exact delF_ct h hl hr hp hn hsz h1 h2 hB1 hB2 hbw
theorem belowL_paths {d : ByteArray} {l : List FileE} {n : Nat} (h : ∀ f ∈ l, f.path.size ≤ n) : ∀ f ∈ belowL d l, f.path.size ≤ n := fun f hf => by
  unfold belowL at hf
  rw [List.mem_filterMap] at hf
  obtain ⟨g, hg, hq⟩ := hf
  split at hq
  · injection hq with hq
    subst hq
    have := h g hg
    have h2 : (restS d g.path).size ≤ g.path.size := extract_le _ _ _
    exact Nat.le_trans h2 this
  · cases hq
set_option maxRecDepth 100000 in
set_option maxHeartbeats 4000000 in
theorem pack_ct {w : World} {X : Nat} {F : Int} {s : VmS} (h : RunAt w X F s) {d t : ByteArray} (hd : pathB d = true) (hds : d.size ≤ 1000) (hts : t.size ≤ 1000) :
    Calls Tryd.prog 29 #[.pointer (some ⟨X, 0, none⟩), .string d, .string t] w fun e w' => PackOut X F s d t e w' ∧ Kept (fun _ => False) w w' := by
  have h' := h
  obtain ⟨⟨vf, hx, ht⟩, hm, _⟩ := h
  have hz := (Array.getElem?_eq_some_iff.1 hx).1
  have k1 : Kept (fun _ => False) w ((w.alloc (.cells #[.string d] 9)).alloc (.cells #[.string t] 9)) := ((Kept.refl _ w).alloc _).alloc _
  have b1 : BoxS ((w.alloc (.cells #[.string d] 9)).alloc (.cells #[.string t] 9)) w.heap.size d := ⟨by rw [Below.heap_alloc _ _ _ (by simp)]; exact heap_last w _, by omega⟩
  have b2 : BoxS ((w.alloc (.cells #[.string d] 9)).alloc (.cells #[.string t] 9)) (w.heap.size + 1) t := ⟨by have := heap_last (w.alloc (.cells #[.string d] 9)) (.cells #[.string t] 9); simpa using this, by omega⟩
  go_enter Tryd.func29, Tryd.ntmps29
  go_upto_region 1 with fail
  generalize (w.alloc (.cells #[.string d] 9)).alloc (.cells #[.string t] 9) = W1 at k1 b1 b2 ⊢
  generalize w.heap.size + 1 = B2 at b2 ⊢
  generalize hB1e : w.heap.size = B1 at b1 ⊢
  have hB1 := (Array.getElem?_eq_some_iff.1 b1.heap).1
  have hB2 := (Array.getElem?_eq_some_iff.1 b2.heap).1
  have hr1 := h'.kept k1
  have c0 : ∀ w', Kept (fun _ => False) W1 w' → w'.cell? ⟨X, 0, none⟩ = some vf := fun w' z => by rw [cell_of_row _ _ _ _ _ _ (show w'.heap[X]? = some _ by rw [(k1.trans z).block _ hz not_false]; exact hx)]; rfl
  have cb : ∀ w', Kept (fun _ => False) W1 w' → w'.cell? ⟨B1, 0, none⟩ = some (.string d) := fun w' z => (b1.kept z not_false).cell
  have bc := fun w' (z : Kept (fun _ => False) W1 w') => below_ctS (ht.kept (k1.trans z).x).at hm hd
  have hi := mayIs hm
  have hps : ∀ f ∈ belowL d s.fs, f.path.size ≤ 100000 := belowL_paths (fun f hf => by have := (hi.file f hf).2.1; omega)
  have hbl : (belowL d s.fs).length ≤ 1000 := by have := belowL_len d s.fs; have := hi.len; omega
  have dc := fun (w' : World) (base : Nat) (v : Value) (z : Kept (fun _ => False) W1 w') (hb : W1.heap.size ≤ base) (hb2 : base ≤ w'.heap.size) (h : TreeAt w' v (belowL d s.fs)) (ho : OwnT base w' v (belowL d s.fs).length) => delT_ct h ho hbl hps (b1.kept z not_false) (b2.kept z not_false) (by omega) (by omega) hb2
  have mf := fun w' => make_fv B1 B2 w'
  obtain ⟨av, cv, hvf⟩ := ht.at.slc
  subst hvf
  clear hx ht
  unfold FV at mf dc
  refine wp_region_held_drew (S := (Kept (fun _ => False) W1)) (by kernel_rfl) ((Kept.refl _ W1).drew) (fun hHeld => ?_)
  refine held_q (v := ?_) (i := 0) rfl (by kernel_rfl) (by kernel_rfl) (by kernel_rfl) (fun _ _ _ h => h) (by rfl) hHeld ?_ ?_
  rotate_left
  · (intro w' hS'; go_simp <;> (with_reducible rfl))
  simp only [Act.put, List.getElem_toArray, List.getElem_cons_zero, List.getElem_cons_succ, List.setIfInBounds_toArray, List.set_cons_zero, List.set_cons_succ]
  refine held_q (v := ?_) (i := 1) rfl (by kernel_rfl) (by kernel_rfl) (by kernel_rfl) (fun _ _ _ h => h) (by rfl) hHeld ?_ ?_
  rotate_left
  · (intro w' hS'; go_simp <;> (with_reducible rfl))
  simp only [Act.put, List.getElem_toArray, List.getElem_cons_zero, List.getElem_cons_succ, List.setIfInBounds_toArray, List.set_cons_zero, List.set_cons_succ]
  refine held_q (v := ?_) (i := 2) rfl (by kernel_rfl) (by kernel_rfl) (by kernel_rfl) (fun _ _ _ h => h) (by rfl) hHeld ?_ ?_
  rotate_left
  · (intro w' hS'; go_simp <;> (with_reducible rfl))
  simp only [Act.put, List.getElem_toArray, List.getElem_cons_zero, List.getElem_cons_succ, List.setIfInBounds_toArray, List.set_cons_zero, List.set_cons_succ]
  refine held_q (v := ?_) (i := 3) rfl (by kernel_rfl) (by kernel_rfl) (by kernel_rfl) (fun _ _ _ h => h) (by rfl) hHeld ?_ ?_
  rotate_left
  · (intro w' hS'; go_simp <;> (with_reducible rfl))
  simp only [Act.put, List.getElem_toArray, List.getElem_cons_zero, List.getElem_cons_succ, List.setIfInBounds_toArray, List.set_cons_zero, List.set_cons_succ]
  refine held_q (v := ?_) (i := 4) rfl (by kernel_rfl) (by kernel_rfl) (by kernel_rfl) (fun _ _ _ h => h) (by rfl) hHeld ?_ ?_
  rotate_left
  · (intro w' hS'; go_simp <;> (with_reducible rfl))
  simp only [Act.put, List.getElem_toArray, List.getElem_cons_zero, List.getElem_cons_succ, List.setIfInBounds_toArray, List.set_cons_zero, List.set_cons_succ]
  refine held_q (v := ?_) (i := 6) rfl (by kernel_rfl) (by kernel_rfl) (by kernel_rfl) (fun _ _ _ h => h) (by rfl) hHeld ?_ ?_
  rotate_left
  · (intro w' hS'; go_simp <;> (with_reducible rfl))
  simp only [Act.put, List.getElem_toArray, List.getElem_cons_zero, List.getElem_cons_succ, List.setIfInBounds_toArray, List.set_cons_zero, List.set_cons_succ]
  refine held_c (i := 5) (f := 12) (args := #[.slice av s.fs.length cv, .string d]) (by kernel_rfl) rfl (by rfl) ?_ (bc _ hHeld) ?_
  · (go_simp <;> rfl)
  rintro e W5 ⟨v5, rfl, ht5, ho5, k5⟩
  have hHeld := hHeld.trans k5
  refine ⟨_, rfl, hHeld, ?_⟩
  simp only [Act.put, List.getElem_toArray, List.getElem_cons_zero, List.getElem_cons_succ, List.setIfInBounds_toArray, List.set_cons_zero, List.set_cons_succ]
  refine held_c (i := 7) (f := 45) (args := #[v5, .func (.func 46) #[] #[.pointer (some ⟨B1, 0, none⟩), .pointer (some ⟨B2, 0, none⟩)]]) (by kernel_rfl) rfl (by rfl) ?_ (dc _ _ _ hHeld (Kept.drew (Kept.refl (fun _ => False) W1)).size k5.size ht5 ho5) ?_
  · (go_simp <;> rfl)
  rintro e W7 ⟨⟨v7, rfl, ht7⟩, k7⟩
  have hHeld := hHeld.trans' k7 (fun k hk e => by have := (Kept.drew (Kept.refl (fun _ => False) W1)).size; omega)
  refine ⟨_, rfl, hHeld, ?_⟩
  simp only [Act.put, List.getElem_toArray, List.getElem_cons_zero, List.getElem_cons_succ, List.setIfInBounds_toArray, List.set_cons_zero, List.set_cons_succ]
  refine held_q (v := ?_) (i := 8) rfl (by kernel_rfl) (by kernel_rfl) (by kernel_rfl) (fun _ _ _ h => h) (by rfl) hHeld ?_ ?_
  rotate_left
  · (intro w' hS'; go_simp <;> (with_reducible rfl))
  simp only [Act.put, List.getElem_toArray, List.getElem_cons_zero, List.getElem_cons_succ, List.setIfInBounds_toArray, List.set_cons_zero, List.set_cons_succ]
  refine wpAnyH_done (by kernel_rfl) ?_ _
  clear dc mf bc cb c0
  have k7w := k1.trans hHeld
  have hr7 := hr1.kept hHeld
  have hX7 : X + 1 ≤ W7.heap.size := Nat.lt_of_lt_of_le hz k7w.size
  have hPV : packV s d t = if mayB ((belowL d s.fs).filter fun f => !delP d t f) = true then some (rawL ((belowL d s.fs).filter fun f => !delP d t f)) else none := rfl
  have hPV := Lib.hid hPV
  generalize (belowL d s.fs).filter (fun f => !delP d t f) = L at ht7 hPV
  obtain ⟨a7, c7, hv7⟩ := ht7.slc
  subst hv7
  cases hmL : mayB L with
  | false =>
    have bn := bytes_no ht7 hmL
    rw [hmL] at hPV
    go_wp2_with fail
    refine bn.mono ?_
    rintro e W8 ⟨rfl, k8⟩
    go_wp2_with fail
    refine (must_no 8 _).mono ?_
    rintro e W9 ⟨rfl, hw⟩
    subst hw
    go_wp2_with fail
    refine ⟨rfl, ⟨hr7.kept k8, ?_⟩, k7w.trans k8⟩
    rw [hPV.out, if_neg (by simp)]
    rfl
  | true =>
    have hiL := mayIs hmL
    have bn := bytes_ctO (B := X + 1) hX7 ht7 hmL (fun f hf => ⟨(hiL.file f hf).2.1, (hiL.file f hf).2.2⟩) hiL.len
    rw [hmL] at hPV
    go_wp2_with fail
    refine bn.mono ?_
    rintro e W8 ⟨v8, rfl, h8, k8⟩
    obtain ⟨a8, c8, hv8, _⟩ := h8.1.slc
    subst hv8
    go_wp2_with fail
    refine (must_yes 8 _).mono ?_
    rintro e W9 ⟨rfl, hw⟩
    subst hw
    go_wp2_with fail
    go_ret
    refine ⟨⟨hr7.kept k8, ?_⟩, k7w.trans k8⟩
    rw [hPV.out, if_pos (by simp)]
    exact ⟨_, rfl, (ByB.own h8.2).x (by omega)⟩
end Go.Proofs.YthachckofghppaaDoor
