/- A tree's bytes, with their room; tree.Root. -/
import Derived.Test.YtehpaddddiigbaaDoorSX
import Derived.Test.YtehpaddddiigbaaDoorTC
namespace Go.Proofs.YtehpaddddiigbaaDoor
open Go.RowKit
set_option maxRecDepth 100000
set_option linter.unusedSimpArgs false
set_option linter.unusedVariables false

set_option maxHeartbeats 1000000 in
theorem appendUint_ctC {w : World} {v : Value} {l : List UInt8} (h : ByAt w v l) (hl : l.length ≤ 100000) {n : Nat} (hn : n < 18446744073709551616) :
    Calls Tryd.prog 42 #[v, .int .u64 n] w fun e w' => ∃ v', e = .returned v' ∧ ByC w' v' (l ++ formL n) ∧ Kept (fun _ => False) w w' := by
  obtain ⟨a, c, hv⟩ := h.slc
  subst hv
  go_enter Tryd.func42, Tryd.ntmps42
  go_wp2_with fail
  refine (form_ct n hn w).mono ?_
  rintro e W ⟨v1, rfl, h1, k1⟩
  obtain ⟨a1, c1, hv1⟩ := h1.slc
  subst hv1
  go_wp2_with fail
  have k2 : Kept (fun _ => False) W (W.alloc (.cells #[.slice a l.length c, .slice a1 (formL n).length c1] 32)) := (Kept.refl _ W).alloc _
  have hg := heap_last W (.cells #[.slice a l.length c, .slice a1 (formL n).length c1] 32)
  have hR : RowsAt (W.alloc (.cells #[.slice a l.length c, .slice a1 (formL n).length c1] 32)) (.slice (some ⟨W.heap.size, 0, none⟩) 2 2) [l, formL n] :=
    ⟨W.heap.size, [.slice a l.length c, .slice a1 (formL n).length c1], 2, rfl, rfl, hg, fun j x hx => by
      match j, hx with
      | 0, hx => simp at hx; subst hx; exact ⟨_, rfl, h.kept (k1.trans k2)⟩
      | 1, hx => simp at hx; subst hx; exact ⟨_, rfl, h1.kept k2⟩⟩
  have hfl := formL_len n
  have ht : total [l, formL n] = l.length + (formL n).length := by simp [total]
  refine (behind_ct hR (by omega) (by simp)).mono ?_
  rintro e W3 ⟨v3, rfl, ho, k3⟩
  rw [ht] at ho
  obtain ⟨a3, c3, rfl⟩ := row_form ho
  go_wp2_with fail
  go_ret
  exact ⟨_, rfl, ByC.own (by simpa using ho), (k1.trans k2).trans k3⟩
set_option maxHeartbeats 1000000 in
theorem appendBytes_ctC {w : World} {v x : Value} {l m : List UInt8} (h : ByAt w v l) (hx : ByAt w x m) (hl : l.length ≤ 100000) (hm : m.length ≤ 100000) :
    Calls Tryd.prog 43 #[v, x] w fun e w' => ∃ v', e = .returned v' ∧ ByC w' v' (l ++ formL m.length ++ m) ∧ Kept (fun _ => False) w w' := by
  obtain ⟨a, c, hv⟩ := h.slc
  subst hv
  obtain ⟨b, d, hy⟩ := hx.slc
  subst hy
  have hw : IntKind.u64.wrap (m.length : Int) = m.length := IntWalk.u64_in _ (by omega)
  go_enter Tryd.func43, Tryd.ntmps43
  go_wp2_with fail
  refine (form_ct m.length (by omega) w).mono ?_
  rintro e W ⟨v1, rfl, h1, k1⟩
  obtain ⟨a1, c1, hv1⟩ := h1.slc
  subst hv1
  go_wp2_with fail
  have k2 : Kept (fun _ => False) W (W.alloc (.cells #[.slice a l.length c, .slice a1 (formL m.length).length c1, .slice b m.length d] 32)) := (Kept.refl _ W).alloc _
  have hg := heap_last W (.cells #[.slice a l.length c, .slice a1 (formL m.length).length c1, .slice b m.length d] 32)
  have hR : RowsAt (W.alloc (.cells #[.slice a l.length c, .slice a1 (formL m.length).length c1, .slice b m.length d] 32)) (.slice (some ⟨W.heap.size, 0, none⟩) 3 3) [l, formL m.length, m] :=
    ⟨W.heap.size, [.slice a l.length c, .slice a1 (formL m.length).length c1, .slice b m.length d], 3, rfl, rfl, hg, fun j x hx' => by
      match j, hx' with
      | 0, hx' => simp at hx'; subst hx'; exact ⟨_, rfl, h.kept (k1.trans k2)⟩
      | 1, hx' => simp at hx'; subst hx'; exact ⟨_, rfl, h1.kept k2⟩
      | 2, hx' => simp at hx'; subst hx'; exact ⟨_, rfl, hx.kept (k1.trans k2)⟩⟩
  have hfl := formL_len m.length
  have ht : total [l, formL m.length, m] = l.length + ((formL m.length).length + m.length) := by simp [total]
  refine (behind_ct hR (by omega) (by simp)).mono ?_
  rintro e W3 ⟨v3, rfl, ho, k3⟩
  rw [ht] at ho
  obtain ⟨a3, c3, rfl⟩ := row_form ho
  go_wp2_with fail
  go_ret
  exact ⟨_, rfl, ByC.own (by simpa using ho), (k1.trans k2).trans k3⟩

set_option maxRecDepth 100000 in
set_option maxHeartbeats 2000000 in
theorem raw_ctC {w : World} {v : Value} {l : List FileE} (h : TreeAt w v l) (hl : l.length ≤ 16) (hf : ∀ f ∈ l, f.path.size ≤ 40 ∧ f.bytes.length ≤ 2000) :
    Calls Tryd.prog 27 #[v] w fun e w' => ∃ v', e = .returned v' ∧ ByC w' v' (rawL l) ∧ Kept (fun _ => False) w w' := by
  obtain ⟨a, c, hv⟩ := h.slc
  subst hv
  have hw : IntKind.u64.wrap (l.length : Int) = l.length := IntWalk.u64_in _ (by omega)
  go_enter Tryd.func27, Tryd.ntmps27
  go_wp2_with fail
  refine (appendUint_ctC (ByAt.nil w 0) (by simp) (n := l.length) (by omega)).mono ?_
  rintro e W ⟨v1, rfl, h1, k1⟩
  obtain ⟨a1, c1, hv1⟩ := h1.1.slc
  subst hv1
  go_wp2_with fail
  rw [List.nil_append] at h1
  go_loopw [3, 12] (fun s i wr => ∃ k : Nat, k ≤ l.length ∧ i = .int .i64 k ∧ ByC wr s (formL l.length ++ filesL (l.take k)) ∧ Kept (fun _ => False) w wr) (fun _ i _ => l.length - (intOf i).toNat)
  case atStart => exact ⟨0, by omega, rfl, by simpa [filesL] using h1, k1⟩
  case round =>
    obtain ⟨k, hk, rfl, hb, hkr⟩ := hrel
    obtain ⟨as1, cs1, rfl⟩ := hb.1.slc
    by_cases hlt : k < l.length
    · have hfk : l[k]? = some l[k] := List.getElem?_eq_getElem hlt
      have hft := filesL_take hfk
      have hff := hf l[k] (List.getElem_mem hlt)
      have hlen := filesL_len (l := l.take k) (fun g hg => hf g (List.mem_of_mem_take hg))
      have hl9 := formL_len l.length
      have hl9' := formL_len l[k].path.size
      have hlen2 : (formL l.length ++ filesL (l.take k)).length ≤ 50000 := by rw [List.length_append]; simp only [List.length_take] at hlen; omega
      generalize l[k] = f at hfk hft hff hl9'
      obtain ⟨hps, b, o, x, rfl, hbl, hrx, hB⟩ := (h.kept hkr).file hfk
      obtain ⟨ab, cb, rfl⟩ := hB.slc
      have ld := load_file hrx
      have st := store_file (w := wr) (p := f.path) (a := ab) (n := f.bytes.length) (c := cb)
      go_upto_region 5 with (first
        | (with_reducible refine wpl_load 41 _ rfl rfl ?_ ld ?_
           · rfl
           simp only [Act.put, List.getElem_toArray, List.getElem_cons_zero, List.getElem_cons_succ, List.setIfInBounds_toArray, List.set_cons_zero, List.set_cons_succ])
        | (with_reducible refine wpl_alloc 41 rfl rfl (zeroFile _) ?_
           simp only [World.size_alloc, Act.put, List.getElem_toArray, List.getElem_cons_zero, List.getElem_cons_succ, List.setIfInBounds_toArray, List.set_cons_zero, List.set_cons_succ])
        | (with_reducible refine wpl_store 41 _ _ rfl rfl ?_ ?_ st ?_
           · rfl
           · rfl
           simp only [Act.put, List.getElem_toArray, List.getElem_cons_zero, List.getElem_cons_succ, List.setIfInBounds_toArray, List.set_cons_zero, List.set_cons_succ]))
      have hb7 := heap_last wr (.cells #[.string f.path, .slice ab f.bytes.length cb] 41)
      have k7 : Kept (fun _ => False) wr (wr.alloc (.cells #[.string f.path, .slice ab f.bytes.length cb] 41)) := (Kept.refl _ wr).alloc _
      generalize wr.alloc (.cells #[.string f.path, .slice ab f.bytes.length cb] 41) = W7 at hb7 k7 ⊢
      have hz7 := (Array.getElem?_eq_some_iff.1 hb7).1
      generalize wr.heap.size = B at hb7 hz7 ⊢
      have cF0 : ∀ w', Kept (fun _ => False) W7 w' → w'.cell? ⟨B, 0, none⟩ = some (.string f.path) := fun w' q => by rw [q.cell (p := ⟨B, 0, none⟩) hz7 not_false, cell_of_row _ _ _ _ _ _ hb7]; rfl
      have cF1 : ∀ w', Kept (fun _ => False) W7 w' → w'.cell? ⟨B, 1, none⟩ = some (.slice ab f.bytes.length cb) := fun w' q => by rw [q.cell (p := ⟨B, 1, none⟩) hz7 not_false, cell_of_row _ _ _ _ _ _ hb7]; rfl
      have kw7 := hkr.trans k7
      have hb7' := hb.1.kept k7
      have hB7 := hB.kept k7
      obtain ⟨v8, W8, cv, h8, k8, a8, n8, c8, hv8⟩ := conv_by W7.drew f.path hps
      have k78 : Kept (fun _ => False) W7 W8 := ((Kept.refl _ W7).drew).trans k8
      have e8 : f.path.data.toList.length = f.path.size := by simp
      have hl9b := formL_len f.path.data.toList.length
      subst hv8
      clear ld st hrx hB hb
      refine wp_region_held_drew (S := (Kept (fun _ => False) W7)) (by kernel_rfl) ((Kept.refl _ W7).drew) (fun hHeld => ?_)
      refine held_q (v := ?_) (i := 0) rfl (by kernel_rfl) (by kernel_rfl) (by kernel_rfl) (fun _ _ _ h => h) (by rfl) hHeld ?_ ?_
      rotate_left
      · (intro w' hS'; go_simp <;> (with_reducible rfl))
      simp only [Act.put, List.getElem_toArray, List.getElem_cons_zero, List.getElem_cons_succ, List.setIfInBounds_toArray, List.set_cons_zero, List.set_cons_succ]
      refine held_q (v := ?_) (i := 1) rfl (by kernel_rfl) (by kernel_rfl) (by kernel_rfl) (fun _ _ _ h => h) (by rfl) hHeld ?_ ?_
      rotate_left
      · (intro w' hS'; go_simp <;> (with_reducible rfl))
      simp only [Act.put, List.getElem_toArray, List.getElem_cons_zero, List.getElem_cons_succ, List.setIfInBounds_toArray, List.set_cons_zero, List.set_cons_succ]
      refine held_q (v := ?_) (i := 2) rfl (by kernel_rfl) (by kernel_rfl) (by kernel_rfl) (fun _ _ _ h => h) (by rfl) hHeld ?_ ?_
      rotate_left
      · (intro w' hS'; go_simp <;> (with_reducible rfl))
      simp only [Act.put, List.getElem_toArray, List.getElem_cons_zero, List.getElem_cons_succ, List.setIfInBounds_toArray, List.set_cons_zero, List.set_cons_succ]
      refine held_q (v := ?_) (i := 5) rfl (by kernel_rfl) (by kernel_rfl) (by kernel_rfl) (fun _ _ _ h => h) (by rfl) hHeld ?_ ?_
      rotate_left
      · (intro w' hS'; go_simp <;> (with_reducible rfl))
      simp only [Act.put, List.getElem_toArray, List.getElem_cons_zero, List.getElem_cons_succ, List.setIfInBounds_toArray, List.set_cons_zero, List.set_cons_succ]
      refine held_q (v := ?_) (i := 6) rfl (by kernel_rfl) (by kernel_rfl) (by kernel_rfl) (fun _ _ _ h => h) (by rfl) hHeld ?_ ?_
      rotate_left
      · (intro w' hS'; go_simp <;> (with_reducible rfl))
      simp only [Act.put, List.getElem_toArray, List.getElem_cons_zero, List.getElem_cons_succ, List.setIfInBounds_toArray, List.set_cons_zero, List.set_cons_succ]
      refine held_v (i := 3) (by kernel_rfl) rfl (by rfl) (exec_conv 9 32 _ rfl rfl cv) (k78) (fun hHeld => ?_)
      simp only [Act.put, List.getElem_toArray, List.getElem_cons_zero, List.getElem_cons_succ, List.setIfInBounds_toArray, List.set_cons_zero, List.set_cons_succ]
      refine held_c (i := 4) (f := 43) (args := #[.slice as1 (formL l.length ++ filesL (l.take k)).length cs1, .slice a8 n8 c8]) (by kernel_rfl) rfl (by rfl) ?_ (appendBytes_ct (hb7'.kept k78) h8 (by omega) (by omega)) ?_
      · (go_simp <;> rfl)
      rintro e W9 ⟨v9, rfl, h9, k9⟩
      have hHeld := k78.trans k9
      refine ⟨_, rfl, hHeld, ?_⟩
      simp only [Act.put, List.getElem_toArray, List.getElem_cons_zero, List.getElem_cons_succ, List.setIfInBounds_toArray, List.set_cons_zero, List.set_cons_succ]
      obtain ⟨a9, c9, hv9⟩ := h9.slc
      subst hv9
      refine held_c (i := 7) (f := 43) (args := #[.slice a9 (formL l.length ++ filesL (l.take k) ++ formL f.path.data.toList.length ++ f.path.data.toList).length c9, .slice ab f.bytes.length cb]) (by kernel_rfl) rfl (by rfl) ?_ (appendBytes_ctC h9 (hB7.kept (k78.trans k9)) (by simp only [List.length_append] at hlen2 ⊢; omega) (by omega)) ?_
      · (go_simp <;> rfl)
      rintro e W10 ⟨v10, rfl, h10, k10⟩
      have hHeld := (k78.trans k9).trans k10
      refine ⟨_, rfl, hHeld, ?_⟩
      simp only [Act.put, List.getElem_toArray, List.getElem_cons_zero, List.getElem_cons_succ, List.setIfInBounds_toArray, List.set_cons_zero, List.set_cons_succ]
      refine held_q (v := ?_) (i := 8) rfl (by kernel_rfl) (by kernel_rfl) (by kernel_rfl) (fun _ _ _ h => h) (by rfl) hHeld ?_ ?_
      rotate_left
      · (intro w' hS'; go_simp <;> (with_reducible rfl))
      simp only [Act.put, List.getElem_toArray, List.getElem_cons_zero, List.getElem_cons_succ, List.setIfInBounds_toArray, List.set_cons_zero, List.set_cons_succ]
      refine wpAnyH_done (by kernel_rfl) ?_ _
      obtain ⟨a10, c10, hv10⟩ := h10.1.slc
      subst hv10
      go_wp2_with fail
      go_roundw
      case rel => exact ⟨k + 1, by omega, by go_num, by
        rw [hft]
        rw [e8] at h10
        simpa [List.append_assoc] using h10, kw7.trans hHeld⟩
      case measure => simp [intOf]; omega
    · obtain rfl : k = l.length := by omega
      rw [List.take_length] at hb
      go_wp2_with fail
      go_ret
      exact ⟨_, rfl, by simpa [rawL] using hb, hkr⟩

set_option maxHeartbeats 1000000 in
theorem bytes_ctC {w : World} {v : Value} {l : List FileE} (h : TreeAt w v l) (hm : mayB l = true) (hf : ∀ f ∈ l, f.path.size ≤ 40 ∧ f.bytes.length ≤ 2000) (hl : l.length ≤ 16) :
    Calls Tryd.prog 12 #[v] w fun e w' => ∃ v', e = .returned (.tuple #[v', .int .i64 0]) ∧ ByC w' v' (rawL l) ∧ Kept (fun _ => False) w w' := by
  have mc := may_ct h
  rw [hm] at mc
  obtain ⟨a, c, hv⟩ := h.slc
  subst hv
  go_enter Tryd.func12, Tryd.ntmps12
  go_wp2_with fail
  refine mc.mono ?_
  rintro e W ⟨rfl, k1⟩
  go_wp2_with fail
  refine (raw_ctC (h.kept k1) hl hf).mono ?_
  rintro e W2 ⟨v2, rfl, h2, k2⟩
  obtain ⟨a2, c2, hv2⟩ := h2.1.slc
  subst hv2
  go_wp2_with fail
  go_ret2
  exact ⟨_, rfl, h2, k1.trans k2⟩

theorem rawL_le {l : List FileE} (hm : mayB l = true) : (rawL l).length ≤ 100000 := by
  have hi := mayIs hm
  have h1 := filesL_len (l := l) (fun f hf => ⟨(hi.file f hf).2.1, (hi.file f hf).2.2⟩)
  have h2 := formL_len l.length
  have h3 := hi.len
  unfold rawL
  rw [List.length_append]
  omega
set_option maxHeartbeats 1000000 in
theorem bytes_no {w : World} {v : Value} {l : List FileE} (h : TreeAt w v l) (hm : mayB l = false) :
    Calls Tryd.prog 12 #[v] w fun e w' => e = .returned (.tuple #[.slice none 0 0, .int .i64 2]) ∧ Kept (fun _ => False) w w' := by
  have mc := may_ct h
  rw [hm] at mc
  obtain ⟨a, c, hv⟩ := h.slc
  subst hv
  go_enter Tryd.func12, Tryd.ntmps12
  go_wp2_with fail
  refine mc.mono ?_
  rintro e W ⟨rfl, k1⟩
  go_wp2_with fail
  go_ret2
  exact ⟨rfl, k1⟩
theorem bld_dig0 (w : World) : (Instr.build 27 #[]).run Tryd.prog w = .ok ((Value.agg (List.toArray (kv .u8 z32)))) w := by kernel_rfl
theorem results_cell_tmp {P : Program} {fn : Func} {p q : Tmp} {ty : TypeId} (h : fn.results = #[.cell p ty, .tmp q]) (tmps : Array Value) (w : World) {a : Nat} {x : Value}
    (hp : tmps.getD p undef = .pointer (some ⟨a, 0, none⟩)) (h1 : (loadVar ty ⟨a, 0, none⟩).run P w = .ok x w) : (results fn tmps).run P w = .ok (.tuple #[x, tmps.getD q undef]) w := by
  have hp' : tmps[p]?.getD undef = .pointer (some ⟨a, 0, none⟩) := by simpa using hp
  simp [results, h, hp', asAddr, h1]
set_option maxHeartbeats 2000000 in
theorem troot_no {w : World} {v : Value} {l : List FileE} (h : TreeAt w v l) (hm : mayB l = false) :
    Calls Tryd.prog 7 #[v] w fun e w' => e = .returned (.tuple #[(Value.agg (List.toArray (kv .u8 z32))), .int .i64 2]) ∧ Kept (fun _ => False) w w' := by
  have zz := zeroDig
  obtain ⟨a, c, hv⟩ := h.slc
  go_enter Tryd.func7, Tryd.ntmps7
  go_upto_region 1 with (first
    | (with_reducible refine wpl_alloc 27 rfl rfl (zz _) ?_
       simp only [World.size_alloc, Act.put, List.getElem_toArray, List.getElem_cons_zero, List.getElem_cons_succ, List.setIfInBounds_toArray, List.set_cons_zero, List.set_cons_succ]))
  obtain ⟨X, hX⟩ : ∃ X, w.heap.size = X := ⟨_, rfl⟩
  have k0 := (Kept.refl (fun _ => False) w).alloc (.cells (kv .u8 z32).toArray 27)
  have m0 : Arr (w.alloc (.cells (kv .u8 z32).toArray 27)) X 27 .u8 z32 := Arr.new hX.symm
  rw [hX]
  generalize w.alloc (.cells (kv .u8 z32).toArray 27) = W0 at k0 m0 ⊢
  have HX := Lib.hid hX
  clear hX zz
  have bn := bytes_no (h.kept k0) hm
  subst hv
  go_wp2_with fail
  refine bn.mono ?_
  rintro e W1 ⟨rfl, k1⟩
  have m1 := m0.stay k1 not_false
  have s1 := stDig m1 (m := z32) rfl rfl
  have p1 := m1.put z32
  have kp : Kept (fun _ => False) w (W1.setRow X (kv .u8 z32).toArray) := (k0.trans k1).setRow (fun h => absurd h (by have := HX.out; omega)) _
  have bd := bld_dig0 W1
  go_wp2_with (first
    | (with_reducible refine wpl_build 27 _ rfl rfl ?_ bd ?_
       · (go_simp <;> rfl)
       simp only [Act.put, List.getElem_toArray, List.getElem_cons_zero, List.getElem_cons_succ, List.setIfInBounds_toArray, List.set_cons_zero, List.set_cons_succ])
    | (with_reducible refine wpl_store 27 _ _ rfl rfl ?_ ?_ s1 ?_
       · rfl
       · rfl
       simp only [Act.put, List.getElem_toArray, List.getElem_cons_zero, List.getElem_cons_succ, List.setIfInBounds_toArray, List.set_cons_zero, List.set_cons_succ]))
  refine bodyPost_ret (results_cell_tmp rfl _ _ rfl (run_loadVar_row _ X _ _ _ _ _ p1 Tryd.underlying27 rfl (by rw [List.size_toArray, kv_len]; kernel_rfl))) rfl ?_
  exact ⟨rfl, kp⟩
set_option maxHeartbeats 2000000 in
theorem troot_ct {w : World} {v : Value} {l : List FileE} (h : TreeAt w v l) (hm : mayB l = true) (hT : Tabs w) :
    Calls Tryd.prog 7 #[v] w fun e w' => e = .returned (.tuple #[(Value.agg (List.toArray (kv .u8 (nv (rootL (rawL l)))))), .int .i64 0]) ∧ Kept (fun _ => False) w w' := by
  have zz := zeroDig
  obtain ⟨a, c, hv⟩ := h.slc
  go_enter Tryd.func7, Tryd.ntmps7
  go_upto_region 1 with (first
    | (with_reducible refine wpl_alloc 27 rfl rfl (zz _) ?_
       simp only [World.size_alloc, Act.put, List.getElem_toArray, List.getElem_cons_zero, List.getElem_cons_succ, List.setIfInBounds_toArray, List.set_cons_zero, List.set_cons_succ]))
  obtain ⟨X, hX⟩ : ∃ X, w.heap.size = X := ⟨_, rfl⟩
  have k0 := (Kept.refl (fun _ => False) w).alloc (.cells (kv .u8 z32).toArray 27)
  have m0 : Arr (w.alloc (.cells (kv .u8 z32).toArray 27)) X 27 .u8 z32 := Arr.new hX.symm
  rw [hX]
  generalize w.alloc (.cells (kv .u8 z32).toArray 27) = W0 at k0 m0 ⊢
  have HX := Lib.hid hX
  clear hX zz
  have hi := mayIs hm
  have bn := bytes_ctC (h.kept k0) hm (fun f hf => ⟨(hi.file f hf).2.1, (hi.file f hf).2.2⟩) hi.len
  have hrl := rawL_le hm
  subst hv
  clear hi
  go_wp2_with fail
  refine bn.mono ?_
  rintro e W1 ⟨v2, rfl, h2, k1⟩
  have rc := mRoot_ct h2 hrl (hT.kept (k0.trans k1))
  obtain ⟨a2, c2, hv2⟩ := h2.1.slc
  generalize hrw : rawL l = rw0 at *
  have HRW := Lib.hid hrw
  clear hrw
  subst hv2
  go_wp2_with fail
  refine rc.mono ?_
  rintro e W2 ⟨rfl, k2⟩
  have hdl : (nv (rootL rw0)).length = 32 := by rw [nv_len, rootL_len]
  have m1 := m0.stay (k1.trans k2) not_false
  have s1 := stDig m1 (m := nv (rootL rw0)) rfl hdl
  have p1 := m1.put (nv (rootL rw0))
  have kp : Kept (fun _ => False) w (W2.setRow X (kv .u8 (nv (rootL rw0))).toArray) := ((k0.trans k1).trans k2).setRow (fun h => absurd h (by have := HX.out; omega)) _
  go_wp2_with (first
    | (with_reducible refine wpl_store 27 _ _ rfl rfl ?_ ?_ s1 ?_
       · rfl
       · rfl
       simp only [Act.put, List.getElem_toArray, List.getElem_cons_zero, List.getElem_cons_succ, List.setIfInBounds_toArray, List.set_cons_zero, List.set_cons_succ]))
  refine bodyPost_ret (results_cell_tmp rfl _ _ rfl (run_loadVar_row _ X _ _ _ _ _ p1 Tryd.underlying27 rfl (by rw [List.size_toArray, kv_len, hdl]; kernel_rfl))) rfl ?_
  exact ⟨by rw [HRW.out] <;> rfl, kp⟩
