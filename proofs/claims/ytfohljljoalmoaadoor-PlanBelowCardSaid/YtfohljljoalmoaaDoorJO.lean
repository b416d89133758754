/- PlanBelow's walk. -/
import Derived.Test.YtfohljljoalmoaaDoorJJ
import Derived.Test.YtfohljljoalmoaaDoorTN
namespace Go.Proofs.YtfohljljoalmoaaDoor
open Go.RowKit
set_option maxRecDepth 100000
set_option linter.unusedSimpArgs false
set_option linter.unusedVariables false

def lenTo (ls : List FileE) (ds : List Dep) (k : Nat) : Nat := ls.length + ((ds.take k).map fun x => x.2.length).sum
theorem lenTo_succ {ls : List FileE} {ds : List Dep} {k : Nat} {x : Dep} (h : ds[k]? = some x) : lenTo ls ds (k + 1) = lenTo ls ds k + x.2.length := by
  obtain ⟨hk, rfl⟩ := List.getElem?_eq_some_iff.1 h
  unfold lenTo
  rw [List.take_succ_eq_append_getElem hk, List.map_append, List.sum_append]; simp; omega
theorem lenTo_le (ls : List FileE) (ds : List Dep) (k : Nat) : lenTo ls ds k ≤ lenTo ls ds ds.length := by
  unfold lenTo
  rw [List.take_length]
  have : ((ds.take k).map fun x => x.2.length).sum + ((ds.drop k).map fun x => x.2.length).sum = (ds.map fun x => x.2.length).sum := by
    rw [← List.sum_append, ← List.map_append, List.take_append_drop]
  omega

set_option maxRecDepth 100000 in
set_option maxHeartbeats 8000000 in
theorem pbelow_law {w : World} (hT : FldTab w) {x : TgtE} {vd vp vs vo : Value} {ls : List FileE} {ts : List (List FileE)} (h : TgtAt w x vd vp) (hs : TreeAt w vs ls) (ho : TreesAt w vo ts) :
    Calls Tryd.prog 5 #[.agg (tgtC x vd vp), vs, vo] w fun e w' => e = .returned (.bool true) ∧ Kept (fun _ => False) w w' := by
  obtain ⟨a1, c1, a2, c2, rfl, rfl, hc1, hc2, hm1⟩ := h.words
  obtain ⟨a3, c3, rfl⟩ := hs.slc
  obtain ⟨a4, c4, rfl, hc4, hm4⟩ := ho.slc
  simp only [maxLen] at hm1 hm4
  unfold tgtC
  have k1 : Kept (fun _ => False) w (w.alloc (.cells #[.string x.name, .slice a1 x.deps.length c1, .int .i64 x.fuel, .slice a2 x.prog.length c2] 25)) := (Kept.refl _ w).alloc _
  have hb0 := heap_last w (.cells #[.string x.name, .slice a1 x.deps.length c1, .int .i64 x.fuel, .slice a2 x.prog.length c2] 25)
  go_enter Tryd.func5, Tryd.ntmps5
  go_upto_region 1 with fail
  generalize w.alloc (.cells #[.string x.name, .slice a1 x.deps.length c1, .int .i64 x.fuel, .slice a2 x.prog.length c2] 25) = W1 at k1 hb0 ⊢
  have hzB := (Array.getElem?_eq_some_iff.1 hb0).1
  have hBw : w.heap.size = w.heap.size := rfl
  generalize hBe : w.heap.size = B at hb0 hzB ⊢
  have hbW : ∀ w', Kept (fun _ => False) W1 w' → w'.heap[B]? = some (.cells #[.string x.name, .slice a1 x.deps.length c1, .int .i64 x.fuel, .slice a2 x.prog.length c2] 25) := fun w' q => by rw [q.block _ hzB not_false]; exact hb0
  have ldB : ∀ w', Kept (fun _ => False) W1 w' → (Instr.loadAt 25 (.pointer (some ⟨B, 0, none⟩))).run Tryd.prog w' = .ok (.agg #[.string x.name, .slice a1 x.deps.length c1, .int .i64 x.fuel, .slice a2 x.prog.length c2]) w' := fun w' q => load_row Tryd.underlying25 rfl (hbW w' q) (by kernel_rfl)
  have ld1 := ldB W1 (Kept.refl _ _)
  have gc := great16_ct (h.kept k1) (hs.kept k1) (ho.kept k1)
  unfold tgtC at gc
  clear hBw hBe
  go_wp2_with (first
    | (with_reducible refine wpl_load 25 _ rfl rfl ?_ ld1 ?_
       · rfl
       simp only [Act.put, List.getElem_toArray, List.getElem_cons_zero, List.getElem_cons_succ, List.setIfInBounds_toArray, List.set_cons_zero, List.set_cons_succ]))
  refine gc.mono ?_
  rintro e W2 ⟨⟨q, rfl⟩, k2⟩
  have K2 := k1.trans k2
  clear gc ld1
  cases q with
  | true =>
    go_wp2_with fail
    refine (known16_ct (hT.kept (K2))).mono ?_
    rintro e Wk ⟨rfl, kk⟩
    go_wp2_with fail
    go_ret
    exact ⟨rfl, (K2).trans kk⟩
  | false =>
    have ld2 := ldB W2 k2
    have ic := inputs_ct (hT.kept K2) (h.kept K2) (hs.kept K2) (ho.kept K2)
    unfold tgtC at ic
    go_wp2_with (first
      | (with_reducible refine wpl_load 25 _ rfl rfl ?_ ld2 ?_
         · rfl
         simp only [Act.put, List.getElem_toArray, List.getElem_cons_zero, List.getElem_cons_succ, List.setIfInBounds_toArray, List.set_cons_zero, List.set_cons_succ]))
    refine ic.mono ?_
    rintro e W3 ⟨hi, k3⟩
    have K3 := K2.trans k3
    clear ic ld2
    rcases hi with ⟨_, rfl⟩ | ⟨_, ⟨_, rfl⟩ | ⟨o, v', hio, rfl, hto⟩⟩
    · go_wp2_with fail
      refine (known16_ct (hT.kept (K3))).mono ?_
      rintro e Wk ⟨rfl, kk⟩
      go_wp2_with fail
      go_ret
      exact ⟨rfl, (K3).trans kk⟩
    · go_wp2_with fail
      refine (known16_ct (hT.kept (K3))).mono ?_
      rintro e Wk ⟨rfl, kk⟩
      go_wp2_with fail
      go_ret
      exact ⟨rfl, (K3).trans kk⟩
    · obtain ⟨a5, c5, rfl⟩ := hto.slc
      rename_i hok
      obtain ⟨hdo, hlen, h5, hnd, hnm, hmy⟩ := okI_deps hok
      have hmo : mayB o = true := ((insO_iff hdo).1 hio).1
      have hol := (mayIs hmo).len
      have hzl : (depsZ x ts).length = ts.length := by unfold depsZ; rw [List.length_zip, hlen, Nat.min_self]
      have hzn : ((depsZ x ts).map (·.1)).Nodup := by
        unfold depsZ
        rw [List.map_fst_zip (by omega)]; exact hnd
      have hzat : ∀ k d l, x.deps[k]? = some d → ts[k]? = some l → (depsZ x ts)[k]? = some (d, l) := fun k d l hd hl => by unfold depsZ; rw [List.getElem?_zip_eq_some]; exact ⟨hd, hl⟩
      have hoe : o.length = lenTo ls (depsZ x ts) (depsZ x ts).length := by rw [ins_len hdo hio]; unfold lenTo; rw [List.take_length]
      have hle : ∀ k, lenTo ls (depsZ x ts) k ≤ 16 := fun k => by have := lenTo_le ls (depsZ x ts) k; omega
      have hbs := ins_src hdo hio
      have hbd : ∀ k d l, x.deps[k]? = some d → ts[k]? = some l → belowL (inS d) o = l := fun k d l hd hl => ins_dep hdo hzn hio (hzat k d l hd hl)
      have hls16 : ls.length ≤ 16 := (mayIs hdo.src).len
      have HLEN := Lib.hid (And.intro hlen (And.intro hoe hzl))
      have HLE := Lib.hid hle
      have hcB : ∀ w', Kept (fun _ => False) W1 w' → w'.cell? ⟨B, 1, none⟩ = some (.slice a1 x.deps.length c1) := fun w' q => by rw [cell_of_row _ _ _ _ _ _ (hbW w' q)]; rfl
      have K13 := k2.trans k3
      have rm := rMay_ct hto
      rw [hmo] at rm
      have ilen : ((ts.length : Int) != (x.deps.length : Int)) = false := by rw [hlen]; simp
      clear hio hdo hnd hzn hle hoe hzl hok hlen
      go_wp2_with fail
      refine rm.mono ?_
      rintro e W4 ⟨rfl, k4⟩
      have bc : Calls Tryd.prog 19 #[.slice a5 o.length c5, .string ⟨#[115, 114, 99]⟩] W4 (fun e w' => ∃ v', e = .returned v' ∧ TreeAt w' v' (belowL srcS o) ∧ Kept (fun _ => False) W4 w') := below_ct (hto.kept k4) hmo src_path
      rw [hbs] at bc
      clear rm
      go_wp2_with fail
      refine bc.mono ?_
      rintro e W5 ⟨v5, rfl, ht5, k5⟩
      obtain ⟨a6, c6, rfl⟩ := ht5.slc
      have K5 := (K3.trans k4).trans k5
      have sc := same_ct ht5 (hs.kept K5) (by omega) (by omega)
      rw [sameB_rfl] at sc
      clear bc
      go_wp2_with fail
      refine sc.mono ?_
      rintro e W6 ⟨rfl, k6⟩
      have K6 := K5.trans k6
      have K36 := (k4.trans k5).trans k6
      have c16 := hcB W6 (K13.trans K36)
      clear sc ht5
      go_wp2_with fail
      go_loopg [9, 53] ts.length (fun gk s9 s53 wr => ∃ k : Nat, gk = ts.length - k ∧ k ≤ ts.length ∧ s53 = .int .i64 k ∧ s9 = .int .i64 (lenTo ls (depsZ x ts) k) ∧ Kept (fun _ => False) W6 wr)
      case atStart => exact ⟨0, by omega, by omega, rfl, by unfold lenTo; simp, Kept.refl _ _⟩
      case round =>
        obtain ⟨k, rfl, hk, rfl, rfl, hkr⟩ := hrel
        have Kr := K6.trans hkr
        by_cases hlt : k < ts.length
        · have hkd : k < x.deps.length := by rw [← HLEN.out.1]; exact hlt
          have hd0 : x.deps[k]? = some x.deps[k] := List.getElem?_eq_getElem hkd
          have hl0 : ts[k]? = some ts[k] := List.getElem?_eq_getElem hlt
          have hbk := hbd k _ _ hd0 hl0
          have hz0 := hzat k _ _ hd0 hl0
          generalize x.deps[k] = d at hd0 hbk hz0
          generalize ts[k] = l at hl0 hbk hz0
          have hnk := lenTo_succ (ls := ls) hz0
          have hb1 := HLE.out (k + 1)
          rw [hnk] at hb1
          have HNK : Hid (lenTo ls (depsZ x ts) (k + 1) = lenTo ls (depsZ x ts) k + l.length) := hnk
          have hnd := hnm d (List.mem_of_getElem? hd0)
          have hd10 := (name_path hnd).2
          have hml := hmy l (List.mem_of_getElem? hl0)
          have hl16 := (mayIs hml).len
          obtain ⟨_, b, q, rfl, hb, hcell⟩ := h.deps.elem hd0
          obtain ⟨b2, q2, v2, rfl, hb2, hcell2, htl⟩ := ho.elem hl0
          obtain ⟨a8, c8, rfl⟩ := htl.slc
          have cB := fun w' (z : Kept (fun _ => False) wr w') => hcB w' (((K13.trans K36).trans hkr).trans z)
          have cS : ∀ w', Kept (fun _ => False) wr w' → w'.cell? ⟨b, q + k, none⟩ = some (.string d) := fun w' z => by rw [(Kr.trans z).cell (p := ⟨b, q + k, none⟩) hb not_false]; exact hcell
          have cT : ∀ w', Kept (fun _ => False) wr w' → w'.cell? ⟨b2, q2 + k, none⟩ = some (.slice a8 l.length c8) := fun w' z => by rw [(Kr.trans z).cell (p := ⟨b2, q2 + k, none⟩) hb2 not_false]; exact hcell2
          have cTr := cT wr (Kept.refl _ _)
          have hcat : (⟨#[105, 110, 47]⟩ : ByteArray).size + d.size ≤ 9223372036854775807 := by
            have : (⟨#[105, 110, 47]⟩ : ByteArray).size = 3 := rfl
            omega
          have hcat2 : (9223372036854775807 < 3 + d.size) = False := by simp; omega
          obtain ⟨sd, hsd⟩ : ∃ sd, (⟨#[105, 110, 47]⟩ : ByteArray) ++ d = sd := ⟨_, rfl⟩
          have hin : inS d = sd := hsd
          rw [hin] at hbk
          have hpd : pathB sd = true := by rw [← hin]; exact in_path hnd
          have bc := fun w' (z : Kept (fun _ => False) wr w') => below_ct (hto.kept ((K36.trans hkr).trans z)) hmo hpd
          rw [hbk] at bc
          have ikd : (k : Int) < (x.deps.length : Int) := by omega
          have ikt : (k : Int) < (ts.length : Int) := by omega
          clear hin hpd hd0 hl0 hbk hz0 hcell hcell2 hbd hzat hnm hmy hnk
          generalize lenTo ls (depsZ x ts) k = nk at hb1 HNK ⊢
          have bnk : -9223372036854775808 ≤ (nk : Int) + (l.length : Int) ∧ (nk : Int) + (l.length : Int) ≤ 9223372036854775807 := by omega
          have i16 : l.length ≤ 100000 := by omega
          go_wp2_with fail
          refine wp_region_held_drew (S := (Kept (fun _ => False) wr)) (by kernel_rfl) ((Kept.refl _ wr).drew) (fun hHeld => ?_)
          refine held_q (v := ?_) (i := 0) rfl (by kernel_rfl) (by kernel_rfl) (by kernel_rfl) (fun _ _ _ h => h) (by rfl) hHeld ?_ ?_
          rotate_left
          · (intro w' hS'; go_simp <;> (with_reducible rfl))
          simp only [Act.put, List.getElem_toArray, List.getElem_cons_zero, List.getElem_cons_succ, List.setIfInBounds_toArray, List.set_cons_zero, List.set_cons_succ]
          refine held_q (v := ?_) (i := 1) rfl (by kernel_rfl) (by kernel_rfl) (by kernel_rfl) (fun _ _ _ h => h) (by rfl) hHeld ?_ ?_
          rotate_left
          · (intro w' hS'; go_simp <;> (with_reducible rfl))
          simp only [Act.put, List.getElem_toArray, List.getElem_cons_zero, List.getElem_cons_succ, List.setIfInBounds_toArray, List.set_cons_zero, List.set_cons_succ]
          refine held_q (v := ?_) (i := 2) rfl (by kernel_rfl) (by kernel_rfl) (by kernel_rfl) (fun _ _ _ h => h) (by rfl) hHeld ?_ ?_
          rotate_left
          · (intro w' hS'; go_simp <;> (with_reducible rfl))
          simp only [Act.put, List.getElem_toArray, List.getElem_cons_zero, List.getElem_cons_succ, List.setIfInBounds_toArray, List.set_cons_zero, List.set_cons_succ]
          refine held_q (v := ?_) (i := 3) rfl (by kernel_rfl) (by kernel_rfl) (by kernel_rfl) (fun _ _ _ h => h) (by rfl) hHeld ?_ ?_
          rotate_left
          · (intro w' hS'; go_simp <;> (with_reducible rfl))
          simp only [Act.put, List.getElem_toArray, List.getElem_cons_zero, List.getElem_cons_succ, List.setIfInBounds_toArray, List.set_cons_zero, List.set_cons_succ]
          refine held_q (v := ?_) (i := 4) rfl (by kernel_rfl) (by kernel_rfl) (by kernel_rfl) (fun _ _ _ h => h) (by rfl) hHeld ?_ ?_
          rotate_left
          · (intro w' hS'; go_simp <;> (with_reducible rfl))
          simp only [Act.put, List.getElem_toArray, List.getElem_cons_zero, List.getElem_cons_succ, List.setIfInBounds_toArray, List.set_cons_zero, List.set_cons_succ]
          refine held_q (v := ?_) (i := 5) rfl (by kernel_rfl) (by kernel_rfl) (by kernel_rfl) (fun _ _ _ h => h) (by rfl) hHeld ?_ ?_
          rotate_left
          · (intro w' hS'; go_simp <;> (with_reducible rfl))
          simp only [Act.put, List.getElem_toArray, List.getElem_cons_zero, List.getElem_cons_succ, List.setIfInBounds_toArray, List.set_cons_zero, List.set_cons_succ]
          refine held_q (v := ?_) (i := 6) rfl (by kernel_rfl) (by kernel_rfl) (by kernel_rfl) (fun _ _ _ h => h) (by rfl) hHeld ?_ ?_
          rotate_left
          · (intro w' hS'; go_simp <;> (with_reducible rfl))
          simp only [Act.put, List.getElem_toArray, List.getElem_cons_zero, List.getElem_cons_succ, List.setIfInBounds_toArray, List.set_cons_zero, List.set_cons_succ]
          refine held_q (v := ?_) (i := 8) rfl (by kernel_rfl) (by kernel_rfl) (by kernel_rfl) (fun _ _ _ h => h) (by rfl) hHeld ?_ ?_
          rotate_left
          · (intro w' hS'; go_simp <;> (with_reducible rfl))
          simp only [Act.put, List.getElem_toArray, List.getElem_cons_zero, List.getElem_cons_succ, List.setIfInBounds_toArray, List.set_cons_zero, List.set_cons_succ]
          refine held_q (v := ?_) (i := 9) rfl (by kernel_rfl) (by kernel_rfl) (by kernel_rfl) (fun _ _ _ h => h) (by rfl) hHeld ?_ ?_
          rotate_left
          · (intro w' hS'; go_simp <;> (with_reducible rfl))
          simp only [Act.put, List.getElem_toArray, List.getElem_cons_zero, List.getElem_cons_succ, List.setIfInBounds_toArray, List.set_cons_zero, List.set_cons_succ]
          refine held_q (v := ?_) (i := 10) rfl (by kernel_rfl) (by kernel_rfl) (by kernel_rfl) (fun _ _ _ h => h) (by rfl) hHeld ?_ ?_
          rotate_left
          · (intro w' hS'; go_simp <;> (with_reducible rfl))
          simp only [Act.put, List.getElem_toArray, List.getElem_cons_zero, List.getElem_cons_succ, List.setIfInBounds_toArray, List.set_cons_zero, List.set_cons_succ]
          refine held_q (v := ?_) (i := 11) rfl (by kernel_rfl) (by kernel_rfl) (by kernel_rfl) (fun _ _ _ h => h) (by rfl) hHeld ?_ ?_
          rotate_left
          · (intro w' hS'; go_simp <;> (with_reducible rfl))
          simp only [Act.put, List.getElem_toArray, List.getElem_cons_zero, List.getElem_cons_succ, List.setIfInBounds_toArray, List.set_cons_zero, List.set_cons_succ]
          refine held_c (i := 7) (f := 19) (args := #[.slice a5 o.length c5, .string sd]) (by kernel_rfl) rfl (by rfl) ?_ (bc _ hHeld) ?_
          · (go_simp <;> rfl)
          rintro e W7 ⟨v9, rfl, ht9, kq⟩
          have hHeld := hHeld.trans kq
          refine ⟨_, rfl, hHeld, ?_⟩
          simp only [Act.put, List.getElem_toArray, List.getElem_cons_zero, List.getElem_cons_succ, List.setIfInBounds_toArray, List.set_cons_zero, List.set_cons_succ]
          obtain ⟨a9, c9, rfl⟩ := ht9.slc
          refine held_c (i := 12) (f := 18) (args := #[.slice a9 l.length c9, .slice a8 l.length c8]) (by kernel_rfl) rfl (by rfl) ?_ (same_ct ht9 (htl.kept (Kr.trans hHeld)) i16 i16) ?_
          · (go_simp <;> rfl)
          rintro e W8 ⟨rfl, kq⟩
          have hHeld := hHeld.trans kq
          refine ⟨_, rfl, hHeld, ?_⟩
          simp only [Act.put, List.getElem_toArray, List.getElem_cons_zero, List.getElem_cons_succ, List.setIfInBounds_toArray, List.set_cons_zero, List.set_cons_succ]
          rw [sameB_rfl]
          refine held_q (v := ?_) (i := 13) rfl (by kernel_rfl) (by kernel_rfl) (by kernel_rfl) (fun _ _ _ h => h) (by rfl) hHeld ?_ ?_
          rotate_left
          · (intro w' hS'; go_simp <;> (with_reducible rfl))
          simp only [Act.put, List.getElem_toArray, List.getElem_cons_zero, List.getElem_cons_succ, List.setIfInBounds_toArray, List.set_cons_zero, List.set_cons_succ]
          refine wpAnyH_done (by kernel_rfl) ?_ _
          have cT8 := cT _ hHeld
          have gnk : IntKind.i64.wrap ((nk : Int) + (l.length : Int)) = (nk : Int) + (l.length : Int) := IntWalk.i64_in _ bnk
          go_wp2_with fail
          clear gnk
          go_roundg (ts.length - (k + 1))
          case rel => exact ⟨k + 1, rfl, by omega, by go_num, by rw [HNK.out]; go_num, hkr.trans hHeld⟩
          case measure => omega
        · obtain rfl : k = ts.length := by omega
          have hoe : o.length = lenTo ls (depsZ x ts) ts.length := by rw [← HLEN.out.2.2]; exact HLEN.out.2.1
          have io : ((o.length : Int) == ((lenTo ls (depsZ x ts) ts.length : Nat) : Int)) = true := by rw [← hoe]; simp
          clear hoe
          go_wp2_with fail
          refine (known16_ct (hT.kept (Kr))).mono ?_
          rintro e Wk ⟨rfl, kk⟩
          go_wp2_with fail
          go_ret
          exact ⟨rfl, (Kr).trans kk⟩
end Go.Proofs.YtfohljljoalmoaaDoor
