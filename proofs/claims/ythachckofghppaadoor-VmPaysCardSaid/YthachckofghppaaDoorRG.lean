/- A tree's bytes, in memory of the call's own (SY's text). -/
import Derived.Test.YthachckofghppaaDoorYC
import Derived.Test.YthachckofghppaaDoorT5
import Derived.Test.YthachckofghppaaDoorRF
namespace Go.Proofs.YthachckofghppaaDoor
open Go.RowKit
set_option maxRecDepth 100000
set_option linter.unusedSimpArgs false
set_option linter.unusedVariables false

/-- These bytes, with their room, in a row of the call's own at B or above. -/
def OwnR (B : Nat) (w : World) (v : Value) (l : List UInt8) : Prop := ByC w v l ∧ w.ownsRow B 5 1 v l.length (bv l)
theorem OwnR.own {B : Nat} {w : World} {v : Value} {l : List UInt8} (h : w.ownsRow B 5 1 v l.length (bv l)) : OwnR B w v l := ⟨ByC.own h, h⟩
theorem OwnR.kept {B : Nat} {w w' : World} {v : Value} {l : List UInt8} (h : OwnR B w v l) (hk : Kept (fun _ => False) w w') : OwnR B w' v l := ⟨h.1.kept hk, row_kept h.2 hk⟩
set_option maxHeartbeats 1000000 in
theorem appendUint_ctO {w : World} {v : Value} {l : List UInt8} {B : Nat} (hB : B ≤ w.heap.size) (h : ByAt w v l) (hl : l.length ≤ 100000) {n : Nat} (hn : n < 18446744073709551616) :
    Calls Tryd.prog 90 #[v, .int .u64 n] w fun e w' => ∃ v', e = .returned v' ∧ OwnR B w' v' (l ++ formL n) ∧ Kept (fun _ => False) w w' := by
  obtain ⟨a, c, hv⟩ := h.slc
  subst hv
  go_enter Tryd.func90, Tryd.ntmps90
  go_wp2_with fail
  refine (form_ct n hn w).mono ?_
  rintro e W ⟨v1, rfl, h1, k1⟩
  obtain ⟨a1, c1, hv1⟩ := h1.slc
  subst hv1
  go_wp2_with fail
  have k2 : Kept (fun _ => False) W (W.alloc (.cells #[.slice a l.length c, .slice a1 (formL n).length c1] 22)) := (Kept.refl _ W).alloc _
  have hg := heap_last W (.cells #[.slice a l.length c, .slice a1 (formL n).length c1] 22)
  have hR : RowsAt (W.alloc (.cells #[.slice a l.length c, .slice a1 (formL n).length c1] 22)) (.slice (some ⟨W.heap.size, 0, none⟩) 2 2) [l, formL n] :=
    ⟨W.heap.size, [.slice a l.length c, .slice a1 (formL n).length c1], 2, rfl, rfl, hg, fun j x hx => by
      match j, hx with
      | 0, hx => simp at hx; subst hx; exact ⟨_, rfl, h.kept (k1.trans k2)⟩
      | 1, hx => simp at hx; subst hx; exact ⟨_, rfl, h1.kept k2⟩⟩
  have hfl := formL_len n
  have ht : total [l, formL n] = l.length + (formL n).length := by simp [total]
  refine (behind_ct hR (by omega) (by simp)).mono ?_
  rintro e W3 ⟨v3, rfl, ho, k3⟩
  rw [ht] at ho
  obtain ⟨a3, c3, rfl⟩ := row_form ho
  go_wp2_with fail
  go_ret
  exact ⟨_, rfl, OwnR.own (by simpa using own_base ho (Nat.le_trans hB (k1.trans k2).size)), (k1.trans k2).trans k3⟩
set_option maxHeartbeats 1000000 in
theorem appendBytes_ctO {w : World} {v x : Value} {l m : List UInt8} {B : Nat} (hB : B ≤ w.heap.size) (h : ByAt w v l) (hx : ByAt w x m) (hl : l.length ≤ 100000) (hm : m.length ≤ 100000) :
    Calls Tryd.prog 91 #[v, x] w fun e w' => ∃ v', e = .returned v' ∧ OwnR B w' v' (l ++ formL m.length ++ m) ∧ Kept (fun _ => False) w w' := by
  obtain ⟨a, c, hv⟩ := h.slc
  subst hv
  obtain ⟨b, d, hy⟩ := hx.slc
  subst hy
  have hw : IntKind.u64.wrap (m.length : Int) = m.length := IntWalk.u64_in _ (by omega)
  go_enter Tryd.func91, Tryd.ntmps91
  go_wp2_with fail
  refine (form_ct m.length (by omega) w).mono ?_
  rintro e W ⟨v1, rfl, h1, k1⟩
  obtain ⟨a1, c1, hv1⟩ := h1.slc
  subst hv1
  go_wp2_with fail
  have k2 : Kept (fun _ => False) W (W.alloc (.cells #[.slice a l.length c, .slice a1 (formL m.length).length c1, .slice b m.length d] 22)) := (Kept.refl _ W).alloc _
  have hg := heap_last W (.cells #[.slice a l.length c, .slice a1 (formL m.length).length c1, .slice b m.length d] 22)
  have hR : RowsAt (W.alloc (.cells #[.slice a l.length c, .slice a1 (formL m.length).length c1, .slice b m.length d] 22)) (.slice (some ⟨W.heap.size, 0, none⟩) 3 3) [l, formL m.length, m] :=
    ⟨W.heap.size, [.slice a l.length c, .slice a1 (formL m.length).length c1, .slice b m.length d], 3, rfl, rfl, hg, fun j x hx' => by
      match j, hx' with
      | 0, hx' => simp at hx'; subst hx'; exact ⟨_, rfl, h.kept (k1.trans k2)⟩
      | 1, hx' => simp at hx'; subst hx'; exact ⟨_, rfl, h1.kept k2⟩
      | 2, hx' => simp at hx'; subst hx'; exact ⟨_, rfl, hx.kept (k1.trans k2)⟩⟩
  have hfl := formL_len m.length
  have ht : total [l, formL m.length, m] = l.length + ((formL m.length).length + m.length) := by simp [total]
  refine (behind_ct hR (by omega) (by simp)).mono ?_
  rintro e W3 ⟨v3, rfl, ho, k3⟩
  rw [ht] at ho
  obtain ⟨a3, c3, rfl⟩ := row_form ho
  go_wp2_with fail
  go_ret
  exact ⟨_, rfl, OwnR.own (by simpa using own_base ho (Nat.le_trans hB (k1.trans k2).size)), (k1.trans k2).trans k3⟩

set_option maxRecDepth 100000 in
set_option maxHeartbeats 2000000 in
theorem raw_ctO {w : World} {v : Value} {l : List FileE} {B : Nat} (hB : B ≤ w.heap.size) (h : TreeAt w v l) (hl : l.length ≤ 16) (hf : ∀ f ∈ l, f.path.size ≤ 40 ∧ f.bytes.length ≤ 2000) :
    Calls Tryd.prog 64 #[v] w fun e w' => ∃ v', e = .returned v' ∧ OwnR B w' v' (rawL l) ∧ Kept (fun _ => False) w w' := by
  obtain ⟨a, c, hv⟩ := h.slc
  subst hv
  have hw : IntKind.u64.wrap (l.length : Int) = l.length := IntWalk.u64_in _ (by omega)
  go_enter Tryd.func64, Tryd.ntmps64
  go_wp2_with fail
  refine (appendUint_ctO hB (ByAt.nil w 0) (by simp) (n := l.length) (by omega)).mono ?_
  rintro e W ⟨v1, rfl, h1, k1⟩
  obtain ⟨a1, c1, hv1⟩ := h1.1.1.slc
  subst hv1
  go_wp2_with fail
  rw [List.nil_append] at h1
  go_loopw [3, 12] (fun s i wr => ∃ k : Nat, k ≤ l.length ∧ i = .int .i64 k ∧ OwnR B wr s (formL l.length ++ filesL (l.take k)) ∧ Kept (fun _ => False) w wr) (fun _ i _ => l.length - (intOf i).toNat)
  case atStart => exact ⟨0, by omega, rfl, by simpa [filesL] using h1, k1⟩
  case round =>
    obtain ⟨k, hk, rfl, hb, hkr⟩ := hrel
    obtain ⟨as1, cs1, rfl⟩ := hb.1.1.slc
    by_cases hlt : k < l.length
    · have hfk : l[k]? = some l[k] := List.getElem?_eq_getElem hlt
      have hft := filesL_take hfk
      have hff := hf l[k] (List.getElem_mem hlt)
      have hlen := filesL_len (l := l.take k) (fun g hg => hf g (List.mem_of_mem_take hg))
      have hl9 := formL_len l.length
      have hl9' := formL_len l[k].path.size
      have hlen2 : (formL l.length ++ filesL (l.take k)).length ≤ 50000 := by rw [List.length_append]; simp only [List.length_take] at hlen; omega
      generalize l[k] = f at hfk hft hff hl9'
      obtain ⟨hps, b, o, x, rfl, hbl, hrx, hBy⟩ := (h.kept hkr).file hfk
      obtain ⟨ab, cb, rfl⟩ := hBy.slc
      have ld := load_file hrx
      have st := store_file (w := wr) (p := f.path) (a := ab) (n := f.bytes.length) (c := cb)
      go_upto_region 5 with (first
        | (with_reducible refine wpl_load 33 _ rfl rfl ?_ ld ?_
           · rfl
           simp only [Act.put, List.getElem_toArray, List.getElem_cons_zero, List.getElem_cons_succ, List.setIfInBounds_toArray, List.set_cons_zero, List.set_cons_succ])
        | (with_reducible refine wpl_alloc 33 rfl rfl (zeroFile _) ?_
           simp only [World.size_alloc, Act.put, List.getElem_toArray, List.getElem_cons_zero, List.getElem_cons_succ, List.setIfInBounds_toArray, List.set_cons_zero, List.set_cons_succ])
        | (with_reducible refine wpl_store 33 _ _ rfl rfl ?_ ?_ st ?_
           · rfl
           · rfl
           simp only [Act.put, List.getElem_toArray, List.getElem_cons_zero, List.getElem_cons_succ, List.setIfInBounds_toArray, List.set_cons_zero, List.set_cons_succ]))
      have hb7 := heap_last wr (.cells #[.string f.path, .slice ab f.bytes.length cb] 33)
      have k7 : Kept (fun _ => False) wr (wr.alloc (.cells #[.string f.path, .slice ab f.bytes.length cb] 33)) := (Kept.refl _ wr).alloc _
      generalize wr.alloc (.cells #[.string f.path, .slice ab f.bytes.length cb] 33) = W7 at hb7 k7 ⊢
      have hz7 := (Array.getElem?_eq_some_iff.1 hb7).1
      generalize wr.heap.size = Bk at hb7 hz7 ⊢
      have cF0 : ∀ w', Kept (fun _ => False) W7 w' → w'.cell? ⟨Bk, 0, none⟩ = some (.string f.path) := fun w' q => by rw [q.cell (p := ⟨Bk, 0, none⟩) hz7 not_false, cell_of_row _ _ _ _ _ _ hb7]; rfl
      have cF1 : ∀ w', Kept (fun _ => False) W7 w' → w'.cell? ⟨Bk, 1, none⟩ = some (.slice ab f.bytes.length cb) := fun w' q => by rw [q.cell (p := ⟨Bk, 1, none⟩) hz7 not_false, cell_of_row _ _ _ _ _ _ hb7]; rfl
      have kw7 := hkr.trans k7
      have hB0 := Nat.le_trans hB kw7.size
      have hb7' := hb.1.1.kept k7
      have hB7 := hBy.kept k7
      obtain ⟨v8, W8, cv, h8, k8, a8, n8, c8, hv8⟩ := conv_by W7.drew f.path hps
      have k78 : Kept (fun _ => False) W7 W8 := ((Kept.refl _ W7).drew).trans k8
      have e8 : f.path.data.toList.length = f.path.size := by simp
      have hl9b := formL_len f.path.data.toList.length
      subst hv8
      clear ld st hrx hBy hb
      refine wp_region_held_drew (S := (Kept (fun _ => False) W7)) (by kernel_rfl) ((Kept.refl _ W7).drew) (fun hHeld => ?_)
      refine held_q (v := ?_) (i := 0) rfl (by kernel_rfl) (by kernel_rfl) (by kernel_rfl) (fun _ _ _ h => h) (by rfl) hHeld ?_ ?_
      rotate_left
      · (intro w' hS'; go_simp <;> (with_reducible rfl))
      simp only [Act.put, List.getElem_toArray, List.getElem_cons_zero, List.getElem_cons_succ, List.setIfInBounds_toArray, List.set_cons_zero, List.set_cons_succ]
      refine held_q (v := ?_) (i := 1) rfl (by kernel_rfl) (by kernel_rfl) (by kernel_rfl) (fun _ _ _ h => h) (by rfl) hHeld ?_ ?_
      rotate_left
      · (intro w' hS'; go_simp <;> (with_reducible rfl))
      simp only [Act.put, List.getElem_toArray, List.getElem_cons_zero, List.getElem_cons_succ, List.setIfInBounds_toArray, List.set_cons_zero, List.set_cons_succ]
      refine held_q (v := ?_) (i := 2) rfl (by kernel_rfl) (by kernel_rfl) (by kernel_rfl) (fun _ _ _ h => h) (by rfl) hHeld ?_ ?_
      rotate_left
      · (intro w' hS'; go_simp <;> (with_reducible rfl))
      simp only [Act.put, List.getElem_toArray, List.getElem_cons_zero, List.getElem_cons_succ, List.setIfInBounds_toArray, List.set_cons_zero, List.set_cons_succ]
      refine held_q (v := ?_) (i := 5) rfl (by kernel_rfl) (by kernel_rfl) (by kernel_rfl) (fun _ _ _ h => h) (by rfl) hHeld ?_ ?_
      rotate_left
      · (intro w' hS'; go_simp <;> (with_reducible rfl))
      simp only [Act.put, List.getElem_toArray, List.getElem_cons_zero, List.getElem_cons_succ, List.setIfInBounds_toArray, List.set_cons_zero, List.set_cons_succ]
      refine held_q (v := ?_) (i := 6) rfl (by kernel_rfl) (by kernel_rfl) (by kernel_rfl) (fun _ _ _ h => h) (by rfl) hHeld ?_ ?_
      rotate_left
      · (intro w' hS'; go_simp <;> (with_reducible rfl))
      simp only [Act.put, List.getElem_toArray, List.getElem_cons_zero, List.getElem_cons_succ, List.setIfInBounds_toArray, List.set_cons_zero, List.set_cons_succ]
      refine held_v (i := 3) (by kernel_rfl) rfl (by rfl) (exec_conv 9 22 _ rfl rfl cv) (k78) (fun hHeld => ?_)
      simp only [Act.put, List.getElem_toArray, List.getElem_cons_zero, List.getElem_cons_succ, List.setIfInBounds_toArray, List.set_cons_zero, List.set_cons_succ]
      refine held_c (i := 4) (f := 91) (args := #[.slice as1 (formL l.length ++ filesL (l.take k)).length cs1, .slice a8 n8 c8]) (by kernel_rfl) rfl (by rfl) ?_ (appendBytes_ct (hb7'.kept k78) h8 (by omega) (by omega)) ?_
      · (go_simp <;> rfl)
      rintro e W9 ⟨v9, rfl, h9, k9⟩
      have hHeld := k78.trans k9
      refine ⟨_, rfl, hHeld, ?_⟩
      simp only [Act.put, List.getElem_toArray, List.getElem_cons_zero, List.getElem_cons_succ, List.setIfInBounds_toArray, List.set_cons_zero, List.set_cons_succ]
      obtain ⟨a9, c9, hv9⟩ := h9.slc
      subst hv9
      refine held_c (i := 7) (f := 91) (args := #[.slice a9 (formL l.length ++ filesL (l.take k) ++ formL f.path.data.toList.length ++ f.path.data.toList).length c9, .slice ab f.bytes.length cb]) (by kernel_rfl) rfl (by rfl) ?_ (appendBytes_ctO (Nat.le_trans hB0 (k78.trans k9).size) h9 (hB7.kept (k78.trans k9)) (by simp only [List.length_append] at hlen2 ⊢; omega) (by omega)) ?_
      · (go_simp <;> rfl)
      rintro e W10 ⟨v10, rfl, h10, k10⟩
      have hHeld := (k78.trans k9).trans k10
      refine ⟨_, rfl, hHeld, ?_⟩
      simp only [Act.put, List.getElem_toArray, List.getElem_cons_zero, List.getElem_cons_succ, List.setIfInBounds_toArray, List.set_cons_zero, List.set_cons_succ]
      refine held_q (v := ?_) (i := 8) rfl (by kernel_rfl) (by kernel_rfl) (by kernel_rfl) (fun _ _ _ h => h) (by rfl) hHeld ?_ ?_
      rotate_left
      · (intro w' hS'; go_simp <;> (with_reducible rfl))
      simp only [Act.put, List.getElem_toArray, List.getElem_cons_zero, List.getElem_cons_succ, List.setIfInBounds_toArray, List.set_cons_zero, List.set_cons_succ]
      refine wpAnyH_done (by kernel_rfl) ?_ _
      obtain ⟨a10, c10, hv10⟩ := h10.1.1.slc
      subst hv10
      go_wp2_with fail
      go_roundw
      case rel => exact ⟨k + 1, by omega, by go_num, by
        rw [hft]
        rw [e8] at h10
        simpa [List.append_assoc] using h10, kw7.trans hHeld⟩
      case measure => simp [intOf]; omega
    · obtain rfl : k = l.length := by omega
      rw [List.take_length] at hb
      go_wp2_with fail
      go_ret
      exact ⟨_, rfl, by simpa [rawL] using hb, hkr⟩

set_option maxHeartbeats 1000000 in
theorem bytes_ctO {w : World} {v : Value} {l : List FileE} {B : Nat} (hB : B ≤ w.heap.size) (h : TreeAt w v l) (hm : mayB l = true) (hf : ∀ f ∈ l, f.path.size ≤ 40 ∧ f.bytes.length ≤ 2000) (hl : l.length ≤ 16) :
    Calls Tryd.prog 47 #[v] w fun e w' => ∃ v', e = .returned (.tuple #[v', .int .i64 0]) ∧ OwnR B w' v' (rawL l) ∧ Kept (fun _ => False) w w' := by
  have mc := may_ct h
  rw [hm] at mc
  obtain ⟨a, c, hv⟩ := h.slc
  subst hv
  go_enter Tryd.func47, Tryd.ntmps47
  go_wp2_with fail
  refine mc.mono ?_
  rintro e W ⟨rfl, k1⟩
  go_wp2_with fail
  refine (raw_ctO (Nat.le_trans hB k1.size) (h.kept k1) hl hf).mono ?_
  rintro e W2 ⟨v2, rfl, h2, k2⟩
  obtain ⟨a2, c2, hv2⟩ := h2.1.1.slc
  subst hv2
  go_wp2_with fail
  go_ret2
  exact ⟨_, rfl, h2, k1.trans k2⟩
end Go.Proofs.YthachckofghppaaDoor
