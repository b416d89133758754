/- Below, Get, With: in memory of their own. -/
import Derived.Test.YthachckofghppaaDoorWB
namespace Go.Proofs.YthachckofghppaaDoor
open Go.RowKit
set_option maxRecDepth 100000
set_option linter.unusedSimpArgs false
set_option linter.unusedVariables false

set_option maxRecDepth 100000 in
set_option maxHeartbeats 4000000 in
theorem below_ctS {w : World} {v : Value} {l : List FileE} (h : TreeAt w v l) (hm : mayB l = true) {d : ByteArray} (hd : pathB d = true) :
    Calls Tryd.prog 12 #[v, .string d] w fun e w' => ∃ v', e = .returned v' ∧ TreeAt w' v' (belowL d l) ∧ OwnT w.heap.size w' v' (belowL d l).length ∧ Kept (fun _ => False) w w' := by
  have mc := may_ct h
  rw [hm] at mc
  have hi := mayIs hm
  have hds := pathB_size hd
  have ip := fun w' => isPath_ct d w' (by have := hds.2; simp only [maxLen]; omega)
  rw [hd] at ip
  obtain ⟨a, c, hv⟩ := h.slc
  subst hv
  have hl16 := hi.len
  go_enter Tryd.func12, Tryd.ntmps12
  go_wp2_with fail
  refine mc.mono ?_
  rintro e W ⟨rfl, k1⟩
  go_wp2_with fail
  refine (ip _).mono ?_
  rintro e W1 ⟨rfl, k2⟩
  have k12 := k1.trans k2
  clear mc ip k1 k2
  go_wp2_with fail
  go_loopw [4, 19] (fun r i wr => ∃ (k : Nat) (ps : List (ByteArray × Value)), k ≤ l.length ∧ i = .int .i64 k ∧ wr.ownsRow w.heap.size 33 2 r ps.length (prs ps) ∧ PairsAt w ps (belowL d (l.take k)) ∧ Kept (fun _ => False) w wr) (fun _ i _ => l.length - (intOf i).toNat)
  case atStart => exact ⟨0, [], by omega, rfl, World.ownsRow_nil _ _ _ _, ⟨rfl, fun j f hf => by simp [belowL] at hf⟩, k12⟩
  case round =>
    obtain ⟨k, ps, hk, rfl, ho, hp, hkr⟩ := hrel
    obtain ⟨ao, co, hvo⟩ := row_form ho
    subst hvo
    by_cases hlt : k < l.length
    · have hfk : l[k]? = some l[k] := List.getElem?_eq_getElem hlt
      have hff := hi.file l[k] (List.getElem_mem hlt)
      generalize l[k] = f at hfk hff
      obtain ⟨hps, b, o, x, rfl, hbl, hrx, hB⟩ := h.file hfk
      obtain ⟨ab, cb, rfl⟩ := hB.slc
      have ld := load_file (rangeAt_stay hkr hbl not_false hrx)
      have st := store_file (w := wr) (p := f.path) (a := ab) (n := f.bytes.length) (c := cb)
      go_upto_region 6 with (first
        | (with_reducible refine wpl_load 33 _ rfl rfl ?_ ld ?_
           · rfl
           simp only [Act.put, List.getElem_toArray, List.getElem_cons_zero, List.getElem_cons_succ, List.setIfInBounds_toArray, List.set_cons_zero, List.set_cons_succ])
        | (with_reducible refine wpl_alloc 33 rfl rfl (zeroFile _) ?_
           simp only [World.size_alloc, Act.put, List.getElem_toArray, List.getElem_cons_zero, List.getElem_cons_succ, List.setIfInBounds_toArray, List.set_cons_zero, List.set_cons_succ])
        | (with_reducible refine wpl_store 33 _ _ rfl rfl ?_ ?_ st ?_
           · rfl
           · rfl
           simp only [Act.put, List.getElem_toArray, List.getElem_cons_zero, List.getElem_cons_succ, List.setIfInBounds_toArray, List.set_cons_zero, List.set_cons_succ]))
      have hb7 := heap_last wr (.cells #[.string f.path, .slice ab f.bytes.length cb] 33)
      have k7 : Kept (fun _ => False) wr (wr.alloc (.cells #[.string f.path, .slice ab f.bytes.length cb] 33)) := (Kept.refl _ wr).alloc _
      generalize wr.alloc (.cells #[.string f.path, .slice ab f.bytes.length cb] 33) = W7 at hb7 k7 ⊢
      generalize wr.heap.size = B at hb7 ⊢
      have cF0 : W7.cell? ⟨B, 0, none⟩ = some (.string f.path) := by rw [cell_of_row _ _ _ _ _ _ hb7]; rfl
      have cF1 : W7.cell? ⟨B, 1, none⟩ = some (.slice ab f.bytes.length cb) := by rw [cell_of_row _ _ _ _ _ _ hb7]; rfl
      have hdS : (dirS d).size = d.size + 1 := by unfold dirS; rw [ByteArray.size_append]; rfl
      have cc := cut_ct f.path (dirS d) W7 (by omega) (by omega)
      have ho7 := row_kept ho k7
      have kw7 := hkr.trans k7
      have hps16 : ps.length ≤ 16 := by
        have hpl := hp.1
        have hbl2 := belowL_len d (l.take k)
        have hll : (l.take k).length ≤ 16 := by rw [List.length_take]; omega
        omega
      clear ld st hrx ho
      unfold cutV at cc
      cases hb : hasB f.path (dirS d) with
      | true =>
        have hbe := belowL_yes hfk hb
        rw [hb] at cc
        clear hb
        have hrs : (restS d f.path).size ≤ f.path.size := extract_le _ _ _
        have hsn := hp.snoc (f := ⟨restS d f.path, f.bytes⟩) (x := .slice ab f.bytes.length cb) (by simp only [maxLen]; omega) hB
        rw [← hbe] at hsn
        have hrd : f.path.extract (dirS d).size f.path.size = restS d f.path := rfl
        rw [hrd] at cc
        generalize restS d f.path = rest at cc hsn hrs
        have hdd : dirS d = d ++ ⟨#[47]⟩ := rfl
        rw [hdd] at cc
        clear hrd hdd hdS hbe
        go_wp2_with fail
        refine cc.mono ?_
        rintro e W8 ⟨rfl, hW8⟩
        subst hW8
        have bs := bslice_f1 rest ab f.bytes.length cb W8
        have bf := build_f rest ab f.bytes.length cb W8
        have k8 : Kept (fun _ => False) W8 (W8.alloc (.cells #[.string rest, .slice ab f.bytes.length cb] 33)) := (Kept.refl _ W8).alloc _
        have hr8 := heap_last W8 (.cells #[.string rest, .slice ab f.bytes.length cb] 33)
        generalize W8.alloc (.cells #[.string rest, .slice ab f.bytes.length cb] 33) = W9 at bs k8 hr8
        obtain ⟨v', w', ap, ho', hg'⟩ := app_files (row_kept ho7 k8) (ad := ⟨W8.heap.size, 0, none⟩) (m := 1) (c := 1) (news := prs [(rest, .slice ab f.bytes.length cb)]) rfl (fun j u hu => by
          rw [Addr.add_mid, Nat.zero_add, cell_of_row _ _ _ _ _ _ hr8]
          simpa [prs] using hu) (fun u hu => by simp [prs] at hu; rcases hu with rfl | rfl <;> rfl) (by omega) (Nat.le_trans kw7.size k8.size) 28 28 Tryd.underlying28
        have k9 : Kept (fun _ => False) w w' := grown_kept (kw7.trans k8) hg' (fun k e => (World.ownsRow.lt ho7 k e).1)
        rw [← prs_app] at ho'
        obtain ⟨a', c', hv'⟩ := row_form ho'
        subst hv'
        have HSN := Lib.hid hsn
        clear ho7 hp hg' hr8 k8 hsn hB
        go_wp2_with (first
          | (with_reducible refine wpl_build 33 _ rfl rfl ?_ bf ?_
             · (go_simp <;> rfl)
             simp only [Act.put, List.getElem_toArray, List.getElem_cons_zero, List.getElem_cons_succ, List.setIfInBounds_toArray, List.set_cons_zero, List.set_cons_succ])
          | (with_reducible refine wpl_bslice 28 _ _ rfl rfl ?_ bs ?_
             · (go_simp <;> rfl)
             simp only [Act.put, List.getElem_toArray, List.getElem_cons_zero, List.getElem_cons_succ, List.setIfInBounds_toArray, List.set_cons_zero, List.set_cons_succ])
          | (refine wpl_val rfl (exec_append 28 _ _ rfl rfl rfl ap) ?_))
        go_roundw
        case rel => exact ⟨k + 1, _, by omega, by go_num, by rw [List.length_append]; exact ho', HSN.out, k9⟩
        case measure => simp [intOf]; omega
      | false =>
        have hbe := belowL_no hfk hb
        rw [hb] at cc
        clear hb
        rw [← hbe] at hp
        have HP := Lib.hid hp
        clear hp hB
        have hdd : dirS d = d ++ ⟨#[47]⟩ := rfl
        rw [hdd] at cc
        clear hdd hdS hbe
        go_wp2_with fail
        refine cc.mono ?_
        rintro e W8 ⟨rfl, hW8⟩
        subst hW8
        go_wp2_with fail
        go_roundw
        case rel => exact ⟨k + 1, ps, by omega, by go_num, ho7, HP.out, kw7⟩
        case measure => simp [intOf]; omega
    · obtain rfl : k = l.length := by omega
      rw [List.take_length] at hp
      have ht := TreeAt.of_row ho (hp.kept hkr)
      have oc := own_ctS ht (by have := belowL_len d l; omega) (fun g hg => by obtain ⟨f, hf, e⟩ := belowL_mem hg; rw [e]; have := (hi.file f hf).2.2; omega)
      clear ho hp
      go_wp2_with fail
      refine oc.mono ?_
      rintro e W5 ⟨v5, rfl, h5, hO5, k5⟩
      obtain ⟨a5, c5, hv5⟩ := h5.slc
      subst hv5
      go_wp2_with fail
      go_ret
      exact ⟨_, rfl, h5, hO5.low hkr.size, hkr.trans k5⟩
def GetIsS (base : Nat) (l : List FileE) (s : ByteArray) (w : World) (e : Ending) : Prop :=
  (∃ v f, (mayB l && thereB l s) = true ∧ l[posL l s]? = some f ∧ e = .returned (.tuple #[v, .bool true]) ∧ ByAt w v f.bytes ∧ OwnBy base w v f.bytes.length) ∨ ((mayB l && thereB l s) = false ∧ e = .returned (.tuple #[.slice none 0 0, .bool false]))
set_option maxHeartbeats 1000000 in
theorem get_ctS {w : World} {v : Value} {l : List FileE} (h : TreeAt w v l) (s : ByteArray) :
    Calls Tryd.prog 31 #[v, .string s] w fun e w' => GetIsS w.heap.size l s w' e ∧ Kept (fun _ => False) w w' := by
  have mc := may_ct h
  cases hm : mayB l with
  | false =>
    rw [hm] at mc
    obtain ⟨a, c, hv⟩ := h.slc
    subst hv
    go_enter Tryd.func31, Tryd.ntmps31
    go_wp2_with fail
    refine (mc).mono ?_
    rintro e W ⟨rfl, k1⟩
    go_wp2_with fail
    go_ret2
    exact ⟨.inr ⟨by rw [hm]; rfl, rfl⟩, k1⟩
  | true =>
    rw [hm] at mc
    have fc := fun w' (k : Kept (fun _ => False) w w') => find_ct (h.kept k) hm s
    have hi := mayIs hm
    have HM := Lib.hid hm
    clear hm
    cases ht : thereB l s with
    | false =>
      rw [ht] at fc
      obtain ⟨a, c, hv⟩ := h.slc
      subst hv
      have HT := Lib.hid ht
      clear ht hi
      go_enter Tryd.func31, Tryd.ntmps31
      go_wp2_with fail
      refine (mc).mono ?_
      rintro e W ⟨rfl, k1⟩
      go_wp2_with fail
      refine (fc _ k1).mono ?_
      rintro e W2 ⟨rfl, k2⟩
      go_wp2_with fail
      go_ret2
      exact ⟨.inr ⟨by rw [HT.out, HM.out] <;> rfl, rfl⟩, k1.trans k2⟩
    | true =>
      rw [ht] at fc
      obtain ⟨f, hf, _⟩ := pos_there ht
      have hff := (hi.file f (List.mem_of_getElem? hf)).2.2
      have hlt := (List.getElem?_eq_some_iff.1 hf).1
      have hl16 := hi.len
      obtain ⟨a0, c0, hv⟩ := h.slc
      subst hv
      obtain ⟨_, b1, o1, x, rfl, hbl, hrx, hB⟩ := h.file hf
      obtain ⟨a3, c3, rfl⟩ := hB.slc
      have q1 : ∀ w', Kept (fun _ => False) w w' → w'.cell? ⟨b1, o1 + posL l s * 2 + 1, none⟩ = some (.slice a3 f.bytes.length c3) := fun w' q => (q.cell (p := ⟨b1, o1 + posL l s * 2 + 1, none⟩) hbl not_false).trans (hrx 1 _ rfl)
      have HT := Lib.hid ht
      have HF := Lib.hid hf
      generalize hp : posL l s = j at fc q1 hlt
      clear ht hi hrx hf h
      go_enter Tryd.func31, Tryd.ntmps31
      go_wp2_with fail
      refine (mc).mono ?_
      rintro e W ⟨rfl, k1⟩
      go_wp2_with fail
      refine (fc _ k1).mono ?_
      rintro e W2 ⟨rfl, k2⟩
      have q2 := q1 _ (k1.trans k2)
      go_wp2_with fail
      refine (cloneB_ctS (hB.kept (k1.trans k2)) (by omega)).mono ?_
      rintro e W3 ⟨v3, rfl, h3, hO3, k3⟩
      obtain ⟨a4, c4, rfl⟩ := h3.slc
      go_wp2_with fail
      go_ret2
      exact ⟨.inl ⟨_, f, by rw [HT.out, HM.out] <;> rfl, by rw [HF.out], rfl, h3, hO3.low (k1.trans k2).size⟩, (k1.trans k2).trans k3⟩

def WithIsS (base : Nat) (l : List FileE) (s : ByteArray) (b : List UInt8) (w : World) (e : Ending) : Prop :=
  ((mayB l && pathB s) = false ∧ e = .returned (.tuple #[.slice none 0 0, .int .i64 2])) ∨
  ((mayB l && pathB s) = true ∧ mayB (withL l s b) = false ∧ e = .returned (.tuple #[.slice none 0 0, .int .i64 8])) ∨
  ((mayB l && pathB s) = true ∧ mayB (withL l s b) = true ∧ ∃ v', e = .returned (.tuple #[v', .int .i64 0]) ∧ TreeAt w v' (withL l s b) ∧ OwnT base w v' (withL l s b).length)

set_option maxRecDepth 100000 in
set_option maxHeartbeats 4000000 in
theorem with_ctS {w : World} {v x : Value} {l : List FileE} (h : TreeAt w v l) (s : ByteArray) (hs : s.size ≤ maxLen) {b : List UInt8} (hb : ByAt w x b) :
    Calls Tryd.prog 37 #[v, .string s, x] w fun e w' => WithIsS w.heap.size l s b w' e ∧ Kept (fun _ => False) w w' := by
  have mc := may_ct h
  have ip := fun w' => isPath_ct s w' hs
  cases hm : mayB l with
  | false =>
    rw [hm] at mc
    obtain ⟨a, c, hv⟩ := h.slc
    subst hv
    obtain ⟨a2, c2, hx⟩ := hb.slc
    subst hx
    go_enter Tryd.func37, Tryd.ntmps37
    go_wp2_with fail
    refine (mc).mono ?_
    rintro e W ⟨rfl, k1⟩
    go_wp2_with fail
    go_ret2
    exact ⟨.inl ⟨by rw [hm]; rfl, rfl⟩, k1⟩
  | true =>
    rw [hm] at mc
    cases hp : pathB s with
    | false =>
      rw [hp] at ip
      obtain ⟨a, c, hv⟩ := h.slc
      subst hv
      obtain ⟨a2, c2, hx⟩ := hb.slc
      subst hx
      have HP := Lib.hid hp
      clear hp hm
      go_enter Tryd.func37, Tryd.ntmps37
      go_wp2_with fail
      refine (mc).mono ?_
      rintro e W ⟨rfl, k1⟩
      go_wp2_with fail
      refine (ip _).mono ?_
      rintro e W2 ⟨rfl, k2⟩
      go_wp2_with fail
      go_ret2
      exact ⟨.inl ⟨by rw [HP.out, Bool.and_false], rfl⟩, k1.trans k2⟩
    | true =>
      rw [hp] at ip
      have fc := fun w' (k : Kept (fun _ => False) w w') => find_ct (h.kept k) hm s
      have hi := mayIs hm
      have hl16 := hi.len
      have hw : withL l s b = if thereB l s = true then l.set (posL l s) ⟨s, b⟩ else l.take (posL l s) ++ ⟨s, b⟩ :: l.drop (posL l s) := rfl
      have hple := pos_le l s
      have HMP : Hid ((mayB l && pathB s) = true) := by unfold Hid; rw [hm, hp]; rfl
      have hpt := fun h => pos_there (l := l) (s := s) h
      obtain ⟨a, c, hv⟩ := h.slc
      subst hv
      obtain ⟨a2, c2, hx⟩ := hb.slc
      subst hx
      have hbone := hb.one
      clear hp hm
      have HPT := Lib.hid hpt
      have HW := Lib.hid hw
      clear hw hpt
      generalize posL l s = j at fc hple HPT HW
      generalize thereB l s = th at fc HPT HW
      go_enter Tryd.func37, Tryd.ntmps37
      go_wp2_with fail
      refine (mc).mono ?_
      rintro e W ⟨rfl, k1⟩
      go_wp2_with fail
      refine (ip _).mono ?_
      rintro e W2 ⟨rfl, k2⟩
      go_wp2_with fail
      have k12 := k1.trans k2
      refine (fc _ k12).mono ?_
      rintro e W3 ⟨rfl, k3⟩
      have k13 := k12.trans k3
      clear k1 k2 k3 k12 mc ip fc
      have st := store_file (w := W3) (p := s) (a := a2) (n := b.length) (c := c2)
      go_wp2_with (first
        | (with_reducible refine wpl_alloc 33 rfl rfl (zeroFile _) ?_
           simp only [World.size_alloc, Act.put, List.getElem_toArray, List.getElem_cons_zero, List.getElem_cons_succ, List.setIfInBounds_toArray, List.set_cons_zero, List.set_cons_succ])
        | (with_reducible refine wpl_store 33 _ _ rfl rfl ?_ ?_ st ?_
           · rfl
           · rfl
           simp only [Act.put, List.getElem_toArray, List.getElem_cons_zero, List.getElem_cons_succ, List.setIfInBounds_toArray, List.set_cons_zero, List.set_cons_succ]))
      have hgb := heap_last W3 (.cells #[.string s, .slice a2 b.length c2] 33)
      have k4 : Kept (fun _ => False) w (W3.alloc (.cells #[.string s, .slice a2 b.length c2] 33)) := k13.alloc _
      have hgbl := (Array.getElem?_eq_some_iff.1 hgb).1
      generalize W3.alloc (.cells #[.string s, .slice a2 b.length c2] 33) = W4 at hgb k4 hgbl ⊢
      generalize W3.heap.size = gb at hgb hgbl ⊢
      clear st k13
      refine (cloneT2_ct (h.kept k4) (by omega)).mono ?_
      rintro e W5 ⟨v5, ps, rfl, ho, hps, k5⟩
      have hgb5 := (k5.block gb hgbl not_false).trans hgb
      have hb5 := hb.kept (k4.trans k5)
      have hpl := hps.1
      rw [← hpl] at ho hple
      have hb4 := hb.kept k4
      have k05 := k4.trans k5
      cases th with
      | true =>
        obtain ⟨f, hf, hfs⟩ := HPT.out rfl
        have hj : j < ps.length := by rw [hpl]; exact (List.getElem?_eq_some_iff.1 hf).1
        obtain ⟨g, cap, hv5⟩ : ∃ g cap, v5 = .slice (some ⟨g, 0, none⟩) ps.length cap := by
          rcases ho.2 with ⟨e, h0⟩ | ⟨g, cap, _, e, _⟩
          · omega
          · exact ⟨g, cap, e⟩
        subst hv5
        have hgg := (World.ownsRow.lt ho g rfl).1
        obtain ⟨W6, st6, ho6, k6⟩ := store_file2 ho hj s hbone
        have k46 : Kept (fun _ => False) W4 W6 := k5.trans' k6 (fun k hk e => by subst e; omega)
        have ld := load_row (P := Tryd.prog) (ty := 33) Tryd.underlying33 rfl hgb5 (by kernel_rfl)
        have hps6 := (hps.kept k46).set3 (by rw [← hpl]; exact hj) hs (hb4.kept k46)
        have ma := made_anyS (TreeAt.of_row ho6 hps6)
        have hwl : withL l s b = l.set j ⟨s, b⟩ := by rw [HW.out]; rfl
        rw [← hwl] at ma
        have HWL := Lib.hid hwl
        have k06 := k4.trans k46
        have hn63 : ps.length ≤ 2 ^ 63 - 1 := by omega
        have HPL := Lib.hid hpl
        clear ho ho6 hps hps6 hb5 hb4 hf hwl HPT HW hpl
        go_wp2_with (first
          | (with_reducible refine wpl_load 33 _ rfl rfl ?_ ld ?_
             · rfl
             simp only [Act.put, List.getElem_toArray, List.getElem_cons_zero, List.getElem_cons_succ, List.setIfInBounds_toArray, List.set_cons_zero, List.set_cons_succ])
          | (with_reducible refine wpl_store 33 _ _ rfl rfl ?_ ?_ st6 ?_
             · rfl
             · rfl
             simp only [Act.put, List.getElem_toArray, List.getElem_cons_zero, List.getElem_cons_succ, List.setIfInBounds_toArray, List.set_cons_zero, List.set_cons_succ]))
        refine ma.mono ?_
        rintro e W7 ⟨hr, k7⟩
        rcases hr with ⟨hm2, v', rfl, h7, hO7⟩ | ⟨hm2, rfl⟩
        · obtain ⟨a7, c7, hv7⟩ := h7.slc
          subst hv7
          go_wp2_with fail
          go_ret2
          exact ⟨.inr (.inr ⟨HMP.out, hm2, _, rfl, h7, hO7.low k06.size⟩), k06.trans k7⟩
        · go_wp2_with fail
          go_ret2
          exact ⟨.inr (.inl ⟨HMP.out, hm2, rfl⟩), k06.trans k7⟩
      | false =>
        have ld := load_row (P := Tryd.prog) (ty := 33) Tryd.underlying33 rfl hgb5 (by kernel_rfl)
        have bs := bslice_f26 s a2 b.length c2 W5
        have hgb6 := heap_last W5 (.cells #[.string s, .slice a2 b.length c2] 33)
        have k6 : Kept (fun _ => False) W5 (W5.alloc (.cells #[.string s, .slice a2 b.length c2] 33)) := (Kept.refl _ W5).alloc _
        have ho6 := row_kept ho k6
        have hne : v5.ownBlock ≠ some W5.heap.size := fun e => by
          have := (World.ownsRow.lt ho _ e).2
          omega
        generalize W5.alloc (.cells #[.string s, .slice a2 b.length c2] 33) = W6 at bs hgb6 k6 ho6
        have ic := insert_ct ho6 (by omega) hple (k5.trans k6) hgb6 hbone hne hps.one
        have hwl : withL l s b = l.take j ++ ⟨s, b⟩ :: l.drop j := by rw [HW.out]; rfl
        have HWL := Lib.hid hwl
        obtain ⟨a5, c5, hv5⟩ := row_form ho
        subst hv5
        have HPL := Lib.hid hpl
        clear ho ho6 hb5 hwl HPT HW hne hgb6 hpl
        generalize W5.heap.size = gb2 at bs ic
        go_wp2_with (first
          | (with_reducible refine wpl_load 33 _ rfl rfl ?_ ld ?_
             · rfl
             simp only [Act.put, List.getElem_toArray, List.getElem_cons_zero, List.getElem_cons_succ, List.setIfInBounds_toArray, List.set_cons_zero, List.set_cons_succ])
          | (with_reducible refine wpl_bslice 27 _ _ rfl rfl ?_ bs ?_
             · (go_simp <;> rfl)
             simp only [Act.put, List.getElem_toArray, List.getElem_cons_zero, List.getElem_cons_succ, List.setIfInBounds_toArray, List.set_cons_zero, List.set_cons_succ]))
        refine ic.mono ?_
        rintro e W7 ⟨v7, rfl, ho7, k47⟩
        have hps7 := (hps.kept k47).ins j (by rw [← HPL.out]; exact hple) hs (hb4.kept k47)
        have ma := made_anyS (TreeAt.of_row ho7 hps7)
        rw [← HWL.out] at ma
        obtain ⟨a7, c7, hv7⟩ := row_form ho7
        subst hv7
        clear ho7 hps7 hps ic
        go_wp2_with fail
        refine ma.mono ?_
        rintro e W8 ⟨hr, k8⟩
        rcases hr with ⟨hm2, v', rfl, h8, hO8⟩ | ⟨hm2, rfl⟩
        · obtain ⟨a8, c8, hv8⟩ := h8.slc
          subst hv8
          go_wp2_with fail
          go_ret2
          exact ⟨.inr (.inr ⟨HMP.out, hm2, _, rfl, h8, hO8.low (k4.trans k47).size⟩), (k4.trans k47).trans k8⟩
        · go_wp2_with fail
          go_ret2
          exact ⟨.inr (.inl ⟨HMP.out, hm2, rfl⟩), (k4.trans k47).trans k8⟩
end Go.Proofs.YthachckofghppaaDoor
