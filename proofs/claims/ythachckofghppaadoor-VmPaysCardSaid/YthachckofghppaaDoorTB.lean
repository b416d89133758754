/- Below. -/
import Derived.Test.YthachckofghppaaDoorTA
namespace Go.Proofs.YthachckofghppaaDoor
open Go.RowKit
set_option maxRecDepth 100000
set_option linter.unusedSimpArgs false
set_option linter.unusedVariables false

def dirS (d : ByteArray) : ByteArray := d ++ ⟨#[47]⟩
def restS (d s : ByteArray) : ByteArray := s.extract (dirS d).size s.size
def belowL (d : ByteArray) (l : List FileE) : List FileE := l.filterMap fun f => if hasB f.path (dirS d) = true then some ⟨restS d f.path, f.bytes⟩ else none
theorem belowL_yes {d : ByteArray} {l : List FileE} {k : Nat} {f : FileE} (hf : l[k]? = some f) (hb : hasB f.path (dirS d) = true) : belowL d (l.take (k + 1)) = belowL d (l.take k) ++ [⟨restS d f.path, f.bytes⟩] := by
  obtain ⟨hk, rfl⟩ := List.getElem?_eq_some_iff.1 hf
  unfold belowL
  rw [List.take_succ_eq_append_getElem hk, List.filterMap_append]
  simp [hb]
theorem belowL_no {d : ByteArray} {l : List FileE} {k : Nat} {f : FileE} (hf : l[k]? = some f) (hb : hasB f.path (dirS d) = false) : belowL d (l.take (k + 1)) = belowL d (l.take k) := by
  obtain ⟨hk, rfl⟩ := List.getElem?_eq_some_iff.1 hf
  unfold belowL
  rw [List.take_succ_eq_append_getElem hk, List.filterMap_append]
  simp [hb]
theorem belowL_len (d : ByteArray) (l : List FileE) : (belowL d l).length ≤ l.length := List.length_filterMap_le ..
theorem belowL_mem {d : ByteArray} {l : List FileE} {g : FileE} (h : g ∈ belowL d l) : ∃ f ∈ l, g.bytes = f.bytes := by
  unfold belowL at h
  obtain ⟨f, hf, h⟩ := List.mem_filterMap.1 h
  split at h
  · injection h with h; subst h; exact ⟨f, hf, rfl⟩
  · cases h
theorem bslice_f1 (p : ByteArray) (a : Option Addr) (n c : Nat) (w : World) : (Instr.buildSlice 28 1 #[(0, .agg #[.string p, .slice a n c])]).run Tryd.prog w = .ok (.slice (some ⟨w.heap.size, 0, none⟩) 1 1) (w.alloc (.cells #[.string p, .slice a n c] 33)) := by kernel_rfl
theorem build_f (p : ByteArray) (a : Option Addr) (n c : Nat) (w : World) : (Instr.build 33 #[(0, .string p), (1, .slice a n c)]).run Tryd.prog w = .ok (.agg #[.string p, .slice a n c]) w := by kernel_rfl
theorem PairsAt.snoc {w : World} {ps : List (ByteArray × Value)} {l : List FileE} (h : PairsAt w ps l) {f : FileE} {x : Value} (hs : f.path.size ≤ maxLen) (hx : ByAt w x f.bytes) : PairsAt w (ps ++ [(f.path, x)]) (l ++ [f]) := by
  refine ⟨by simp [h.1], fun j g hg => ?_⟩
  by_cases e : j < l.length
  · rw [List.getElem?_append_left e] at hg
    obtain ⟨h1, y, h2, h3⟩ := h.2 j g hg
    exact ⟨h1, y, by rw [List.getElem?_append_left (by rw [h.1]; exact e)]; exact h2, h3⟩
  · have hj := (List.getElem?_eq_some_iff.1 hg).1
    simp at hj
    obtain rfl : j = l.length := by omega
    rw [List.getElem?_append_right (Nat.le_refl _)] at hg
    simp at hg
    subst hg
    exact ⟨hs, x, by rw [List.getElem?_append_right (by rw [h.1]; exact Nat.le_refl _), h.1]; simp, hx⟩
theorem prs_app (ps qs : List (ByteArray × Value)) : prs (ps ++ qs) = prs ps ++ prs qs := by unfold prs; rw [List.flatMap_append]
theorem extract_le (s : ByteArray) (i j : Nat) : (s.extract i j).size ≤ s.size := by rw [ByteArray.size_extract]; omega

set_option maxRecDepth 100000 in
set_option maxHeartbeats 4000000 in
theorem below_ct {w : World} {v : Value} {l : List FileE} (h : TreeAt w v l) (hm : mayB l = true) {d : ByteArray} (hd : pathB d = true) :
    Calls Tryd.prog 12 #[v, .string d] w fun e w' => ∃ v', e = .returned v' ∧ TreeAt w' v' (belowL d l) ∧ Kept (fun _ => False) w w' := by
  have mc := may_ct h
  rw [hm] at mc
  have hi := mayIs hm
  have hds := pathB_size hd
  have ip := fun w' => isPath_ct d w' (by have := hds.2; simp only [maxLen]; omega)
  rw [hd] at ip
  obtain ⟨a, c, hv⟩ := h.slc
  subst hv
  have hl16 := hi.len
  go_enter Tryd.func12, Tryd.ntmps12
  go_wp2_with fail
  refine mc.mono ?_
  rintro e W ⟨rfl, k1⟩
  go_wp2_with fail
  refine (ip _).mono ?_
  rintro e W1 ⟨rfl, k2⟩
  have k12 := k1.trans k2
  clear mc ip k1 k2
  go_wp2_with fail
  go_loopw [4, 19] (fun r i wr => ∃ (k : Nat) (ps : List (ByteArray × Value)), k ≤ l.length ∧ i = .int .i64 k ∧ wr.ownsRow w.heap.size 33 2 r ps.length (prs ps) ∧ PairsAt w ps (belowL d (l.take k)) ∧ Kept (fun _ => False) w wr) (fun _ i _ => l.length - (intOf i).toNat)
  case atStart => exact ⟨0, [], by omega, rfl, World.ownsRow_nil _ _ _ _, ⟨rfl, fun j f hf => by simp [belowL] at hf⟩, k12⟩
  case round =>
    obtain ⟨k, ps, hk, rfl, ho, hp, hkr⟩ := hrel
    obtain ⟨ao, co, hvo⟩ := row_form ho
    subst hvo
    by_cases hlt : k < l.length
    · have hfk : l[k]? = some l[k] := List.getElem?_eq_getElem hlt
      have hff := hi.file l[k] (List.getElem_mem hlt)
      generalize l[k] = f at hfk hff
      obtain ⟨hps, b, o, x, rfl, hbl, hrx, hB⟩ := h.file hfk
      obtain ⟨ab, cb, rfl⟩ := hB.slc
      have ld := load_file (rangeAt_stay hkr hbl not_false hrx)
      have st := store_file (w := wr) (p := f.path) (a := ab) (n := f.bytes.length) (c := cb)
      go_upto_region 6 with (first
        | (with_reducible refine wpl_load 33 _ rfl rfl ?_ ld ?_
           · rfl
           simp only [Act.put, List.getElem_toArray, List.getElem_cons_zero, List.getElem_cons_succ, List.setIfInBounds_toArray, List.set_cons_zero, List.set_cons_succ])
        | (with_reducible refine wpl_alloc 33 rfl rfl (zeroFile _) ?_
           simp only [World.size_alloc, Act.put, List.getElem_toArray, List.getElem_cons_zero, List.getElem_cons_succ, List.setIfInBounds_toArray, List.set_cons_zero, List.set_cons_succ])
        | (with_reducible refine wpl_store 33 _ _ rfl rfl ?_ ?_ st ?_
           · rfl
           · rfl
           simp only [Act.put, List.getElem_toArray, List.getElem_cons_zero, List.getElem_cons_succ, List.setIfInBounds_toArray, List.set_cons_zero, List.set_cons_succ]))
      have hb7 := heap_last wr (.cells #[.string f.path, .slice ab f.bytes.length cb] 33)
      have k7 : Kept (fun _ => False) wr (wr.alloc (.cells #[.string f.path, .slice ab f.bytes.length cb] 33)) := (Kept.refl _ wr).alloc _
      generalize wr.alloc (.cells #[.string f.path, .slice ab f.bytes.length cb] 33) = W7 at hb7 k7 ⊢
      generalize wr.heap.size = B at hb7 ⊢
      have cF0 : W7.cell? ⟨B, 0, none⟩ = some (.string f.path) := by rw [cell_of_row _ _ _ _ _ _ hb7]; rfl
      have cF1 : W7.cell? ⟨B, 1, none⟩ = some (.slice ab f.bytes.length cb) := by rw [cell_of_row _ _ _ _ _ _ hb7]; rfl
      have hdS : (dirS d).size = d.size + 1 := by unfold dirS; rw [ByteArray.size_append]; rfl
      have cc := cut_ct f.path (dirS d) W7 (by omega) (by omega)
      have ho7 := row_kept ho k7
      have kw7 := hkr.trans k7
      have hps16 : ps.length ≤ 16 := by
        have hpl := hp.1
        have hbl2 := belowL_len d (l.take k)
        have hll : (l.take k).length ≤ 16 := by rw [List.length_take]; omega
        omega
      clear ld st hrx ho
      unfold cutV at cc
      cases hb : hasB f.path (dirS d) with
      | true =>
        have hbe := belowL_yes hfk hb
        rw [hb] at cc
        clear hb
        have hrs : (restS d f.path).size ≤ f.path.size := extract_le _ _ _
        have hsn := hp.snoc (f := ⟨restS d f.path, f.bytes⟩) (x := .slice ab f.bytes.length cb) (by simp only [maxLen]; omega) hB
        rw [← hbe] at hsn
        have hrd : f.path.extract (dirS d).size f.path.size = restS d f.path := rfl
        rw [hrd] at cc
        generalize restS d f.path = rest at cc hsn hrs
        have hdd : dirS d = d ++ ⟨#[47]⟩ := rfl
        rw [hdd] at cc
        clear hrd hdd hdS hbe
        go_wp2_with fail
        refine cc.mono ?_
        rintro e W8 ⟨rfl, hW8⟩
        subst hW8
        have bs := bslice_f1 rest ab f.bytes.length cb W8
        have bf := build_f rest ab f.bytes.length cb W8
        have k8 : Kept (fun _ => False) W8 (W8.alloc (.cells #[.string rest, .slice ab f.bytes.length cb] 33)) := (Kept.refl _ W8).alloc _
        have hr8 := heap_last W8 (.cells #[.string rest, .slice ab f.bytes.length cb] 33)
        generalize W8.alloc (.cells #[.string rest, .slice ab f.bytes.length cb] 33) = W9 at bs k8 hr8
        obtain ⟨v', w', ap, ho', hg'⟩ := app_files (row_kept ho7 k8) (ad := ⟨W8.heap.size, 0, none⟩) (m := 1) (c := 1) (news := prs [(rest, .slice ab f.bytes.length cb)]) rfl (fun j u hu => by
          rw [Addr.add_mid, Nat.zero_add, cell_of_row _ _ _ _ _ _ hr8]
          simpa [prs] using hu) (fun u hu => by simp [prs] at hu; rcases hu with rfl | rfl <;> rfl) (by omega) (Nat.le_trans kw7.size k8.size) 28 28 Tryd.underlying28
        have k9 : Kept (fun _ => False) w w' := grown_kept (kw7.trans k8) hg' (fun k e => (World.ownsRow.lt ho7 k e).1)
        rw [← prs_app] at ho'
        obtain ⟨a', c', hv'⟩ := row_form ho'
        subst hv'
        have HSN := Lib.hid hsn
        clear ho7 hp hg' hr8 k8 hsn hB
        go_wp2_with (first
          | (with_reducible refine wpl_build 33 _ rfl rfl ?_ bf ?_
             · (go_simp <;> rfl)
             simp only [Act.put, List.getElem_toArray, List.getElem_cons_zero, List.getElem_cons_succ, List.setIfInBounds_toArray, List.set_cons_zero, List.set_cons_succ])
          | (with_reducible refine wpl_bslice 28 _ _ rfl rfl ?_ bs ?_
             · (go_simp <;> rfl)
             simp only [Act.put, List.getElem_toArray, List.getElem_cons_zero, List.getElem_cons_succ, List.setIfInBounds_toArray, List.set_cons_zero, List.set_cons_succ])
          | (refine wpl_val rfl (exec_append 28 _ _ rfl rfl rfl ap) ?_))
        go_roundw
        case rel => exact ⟨k + 1, _, by omega, by go_num, by rw [List.length_append]; exact ho', HSN.out, k9⟩
        case measure => simp [intOf]; omega
      | false =>
        have hbe := belowL_no hfk hb
        rw [hb] at cc
        clear hb
        rw [← hbe] at hp
        have HP := Lib.hid hp
        clear hp hB
        have hdd : dirS d = d ++ ⟨#[47]⟩ := rfl
        rw [hdd] at cc
        clear hdd hdS hbe
        go_wp2_with fail
        refine cc.mono ?_
        rintro e W8 ⟨rfl, hW8⟩
        subst hW8
        go_wp2_with fail
        go_roundw
        case rel => exact ⟨k + 1, ps, by omega, by go_num, ho7, HP.out, kw7⟩
        case measure => simp [intOf]; omega
    · obtain rfl : k = l.length := by omega
      rw [List.take_length] at hp
      have ht := TreeAt.of_row ho (hp.kept hkr)
      have oc := own_ct ht (by have := belowL_len d l; omega) (fun g hg => by obtain ⟨f, hf, e⟩ := belowL_mem hg; rw [e]; have := (hi.file f hf).2.2; omega)
      clear ho hp
      go_wp2_with fail
      refine oc.mono ?_
      rintro e W5 ⟨v5, rfl, h5, k5⟩
      obtain ⟨a5, c5, hv5⟩ := h5.slc
      subst hv5
      go_wp2_with fail
      go_ret
      exact ⟨_, rfl, h5, hkr.trans k5⟩
end Go.Proofs.YthachckofghppaaDoor
