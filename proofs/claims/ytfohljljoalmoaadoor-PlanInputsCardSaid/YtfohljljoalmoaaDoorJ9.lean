/- The texts J4, J3, J7, J5, UH, JL, JM, WO, J6 in one. -/
import Derived.Test.YtfohljljoalmoaaDoorWQ
import Derived.Test.YtfohljljoalmoaaDoorJ8
import Derived.Test.YtfohljljoalmoaaDoorJQ
import Derived.Test.YtfohljljoalmoaaDoorTK
import Derived.Test.YtfohljljoalmoaaDoorJE
import Derived.Test.YtfohljljoalmoaaDoorJG
import Derived.Test.YtfohljljoalmoaaDoorCards
import Derived.Test.YtfohljljoalmoaaDoorTie
import Derived.Deep.DeepHandedRow
import Derived.Lib.LaidU8
import Derived.Lib.LaidU8T
namespace Go.Proofs.YtfohljljoalmoaaDoor
/- The document's Copy: what it tells is in memory of its own. -/
open Go.RowKit
set_option maxRecDepth 100000
set_option linter.unusedSimpArgs false
set_option linter.unusedVariables false

theorem OwnT.of_rows {base : Nat} {w : World} {v : Value} {ps : List (ByteArray × Value)} {l : List FileE} (h : w.ownsRow base 46 2 v ps.length (prs ps)) (hp : OwnP base w ps l) : OwnT base w v l.length := by
  refine ⟨ps, hp.1, by rw [← hp.1]; exact h, fun p hpm => ?_⟩
  obtain ⟨j, hj, rfl⟩ := List.getElem_of_mem hpm
  have hjl : j < l.length := by rw [← hp.1]; exact hj
  obtain ⟨_, x, hx, ho⟩ := hp.2 j _ (List.getElem?_eq_getElem hjl)
  rw [List.getElem?_eq_getElem hj] at hx
  injection hx with hx
  rw [hx]
  exact ⟨_, _, ho⟩
set_option maxRecDepth 100000 in
set_option maxHeartbeats 4000000 in
theorem rCopyS_ct {w : World} {v : Value} {l : List FileE} (h : TreeAt w v l) (hsz : l.length * 40 ≤ 140737488351232) (hbz : ∀ f ∈ l, f.bytes.length ≤ 140737488351232) :
    Calls Tryd.prog 11 #[v] w fun e w' => ∃ v', e = .returned v' ∧ TreeAt w' v' l ∧ OwnT w.heap.size w' v' l.length ∧ Kept (fun _ => False) w w' := by
  obtain ⟨a, c, hv⟩ := h.slc
  subst hv
  go_enter Tryd.func11, Tryd.ntmps11
  go_wp2_with fail
  go_loopw [3, 4] (fun so si wr => ∃ (k : Nat) (ps : List (ByteArray × Value)), k ≤ l.length ∧ si = .int .i64 k ∧ (∃ aa cc, so = .slice aa ps.length cc) ∧ Hid (wr.ownsRow w.heap.size 46 2 so ps.length (prs ps) ∧ OwnP w.heap.size wr ps (l.take k)) ∧ Kept (fun _ => False) w wr) (fun _ si _ => l.length - (intOf si).toNat)
  case atStart => exact ⟨0, [], by omega, rfl, ⟨none, 0, rfl⟩, ⟨World.ownsRow_nil _ _ _ _, ⟨rfl, fun j f hf => by simp at hf⟩⟩, Kept.refl _ _⟩
  case round =>
    obtain ⟨k, ps, hk, rfl, ⟨aa, cc, rfl⟩, HR, hkr⟩ := hrel
    by_cases hlt : k < l.length
    · have hga := List.getElem?_eq_getElem hlt
      have htk : l.take (k + 1) = l.take k ++ [l[k]] := List.take_succ_eq_append_getElem hlt
      have hfb := hbz l[k] (List.getElem_mem hlt)
      have hpl : ps.length = k := by have := HR.out.2.1; rw [List.length_take] at this; omega
      have hp40 : (ps.length + 1) * 40 ≤ 140737488351232 := by rw [hpl]; omega
      generalize l[k] = f at hga htk hfb
      obtain ⟨hgs, b1, o1, y, rfl, hbl, hrx, hBg⟩ := h.file hga
      obtain ⟨ag, cg, rfl⟩ := hBg.slc
      have q0 : ∀ w', Kept (fun k => w.heap.size ≤ k) wr w' → w'.cell? ⟨b1, o1 + k * 2, none⟩ = some (.string f.path) := fun w' q => (q.cell (p := ⟨b1, o1 + k * 2, none⟩) (Nat.lt_of_lt_of_le hbl hkr.size) (Nat.not_le.2 hbl)).trans ((hkr.cell (p := ⟨b1, o1 + k * 2, none⟩) hbl not_false).trans (hrx 0 _ rfl))
      have q1 : ∀ w', Kept (fun k => w.heap.size ≤ k) wr w' → w'.cell? ⟨b1, o1 + k * 2 + 1, none⟩ = some (.slice ag f.bytes.length cg) := fun w' q => (q.cell (p := ⟨b1, o1 + k * 2 + 1, none⟩) (Nat.lt_of_lt_of_le hbl hkr.size) (Nat.not_le.2 hbl)).trans ((hkr.cell (p := ⟨b1, o1 + k * 2 + 1, none⟩) hbl not_false).trans (hrx 1 _ rfl))
      have kd := hkr.drew
      have krd : Kept (fun _ => False) wr wr.drew := (Kept.refl _ wr).drew
      have hrd := row_kept HR.out.1 krd
      have hpd := HR.out.2.kept krd
      have bs0 := bslice_b0 wr.drew
      have ks1 : Kept (fun k => w.heap.size ≤ k) wr (wr.drew.alloc (.cells #[] 5)) := (Kept.refl _ wr).drew.alloc _
      obtain ⟨ab, cb, W2, ap2, hob, k2, _⟩ := copy_byL (hBg.kept kd) hfb 44
      have hrd2 := row_kept hrd k2
      have hpd2 := hpd.kept k2
      have ks2 : Kept (fun k => w.heap.size ≤ k) wr W2 := (krd.trans k2).mono (fun _ _ q => q.elim)
      have k20 := kd.trans k2
      have hob := row_low hob kd.size
      have bf := build_f f.path ab f.bytes.length cb
      have bs3 := bslice_f1 f.path ab f.bytes.length cb W2
      have hg3 := heap_last W2 (.cells #[.string f.path, .slice ab f.bytes.length cb] 46)
      have k23 : Kept (fun _ => False) W2 (W2.alloc (.cells #[.string f.path, .slice ab f.bytes.length cb] 46)) := (Kept.refl _ W2).alloc _
      have ks3 : Kept (fun k => w.heap.size ≤ k) wr (W2.alloc (.cells #[.string f.path, .slice ab f.bytes.length cb] 46)) := ks2.alloc _
      generalize W2.alloc (.cells #[.string f.path, .slice ab f.bytes.length cb] 46) = W3 at bs3 hg3 k23 ks3
      have hrd3 := row_kept hrd2 k23
      obtain ⟨a4, c4, W4, ap4, ho4, k4, gr4⟩ := app_oneL hrd3 hg3 rfl hp40 (k20.trans k23) 27
      have hp4 := ((hpd2.kept k23).snoc (f := f) hgs (row_kept hob k23)).grown hrd3 gr4
      have ks4 : Kept (fun k => w.heap.size ≤ k) wr W4 := ks3.trans ⟨gr4.os, gr4.tape, gr4.output, gr4.size, fun b hb hs => gr4.block b hb (fun e => hs (World.ownsRow.lt hrd3 b e.symm).1)⟩
      have HN : Hid (W4.ownsRow w.heap.size 46 2 (.slice a4 (ps.length + 1) c4) (ps.length + 1) (prs (ps ++ [(f.path, .slice ab f.bytes.length cb)])) ∧ OwnP w.heap.size W4 (ps ++ [(f.path, .slice ab f.bytes.length cb)]) (l.take (k + 1))) := ⟨ho4, by rw [htk]; exact hp4⟩
      have hdz : wr.drew.heap.size = wr.heap.size := rfl
      rw [hdz] at bs0 ap2
      clear hrx hBg hga htk HR ho4 hp4 gr4 hrd3 hrd2 hpd2 hrd hpd hob hg3 hdz hpl hp40
      generalize wr.heap.size = B1 at bs0 ap2
      generalize W2.heap.size = B2 at bs3 ap4
      go_wp2_with fail
      refine wp_region_held_drew (S := (Kept (fun k => w.heap.size ≤ k) wr)) (by kernel_rfl) ((Kept.refl _ wr).drew) (fun hHeld => ?_)
      refine held_q (v := ?_) (i := 0) rfl (by kernel_rfl) (by kernel_rfl) (by kernel_rfl) (fun _ _ _ h => h) (by rfl) hHeld ?_ ?_
      rotate_left
      · (intro w' hS'; go_simp <;> (with_reducible rfl))
      simp only [Act.put, List.getElem_toArray, List.getElem_cons_zero, List.getElem_cons_succ, List.setIfInBounds_toArray, List.set_cons_zero, List.set_cons_succ]
      refine held_q (v := ?_) (i := 1) rfl (by kernel_rfl) (by kernel_rfl) (by kernel_rfl) (fun _ _ _ h => h) (by rfl) hHeld ?_ ?_
      rotate_left
      · (intro w' hS'; go_simp <;> (with_reducible rfl))
      simp only [Act.put, List.getElem_toArray, List.getElem_cons_zero, List.getElem_cons_succ, List.setIfInBounds_toArray, List.set_cons_zero, List.set_cons_succ]
      refine held_q (v := ?_) (i := 2) rfl (by kernel_rfl) (by kernel_rfl) (by kernel_rfl) (fun _ _ _ h => h) (by rfl) hHeld ?_ ?_
      rotate_left
      · (intro w' hS'; go_simp <;> (with_reducible rfl))
      simp only [Act.put, List.getElem_toArray, List.getElem_cons_zero, List.getElem_cons_succ, List.setIfInBounds_toArray, List.set_cons_zero, List.set_cons_succ]
      refine held_q (v := ?_) (i := 3) rfl (by kernel_rfl) (by kernel_rfl) (by kernel_rfl) (fun _ _ _ h => h) (by rfl) hHeld ?_ ?_
      rotate_left
      · (intro w' hS'; go_simp <;> (with_reducible rfl))
      simp only [Act.put, List.getElem_toArray, List.getElem_cons_zero, List.getElem_cons_succ, List.setIfInBounds_toArray, List.set_cons_zero, List.set_cons_succ]
      refine held_q (v := ?_) (i := 4) rfl (by kernel_rfl) (by kernel_rfl) (by kernel_rfl) (fun _ _ _ h => h) (by rfl) hHeld ?_ ?_
      rotate_left
      · (intro w' hS'; go_simp <;> (with_reducible rfl))
      simp only [Act.put, List.getElem_toArray, List.getElem_cons_zero, List.getElem_cons_succ, List.setIfInBounds_toArray, List.set_cons_zero, List.set_cons_succ]
      refine held_q (v := ?_) (i := 5) rfl (by kernel_rfl) (by kernel_rfl) (by kernel_rfl) (fun _ _ _ h => h) (by rfl) hHeld ?_ ?_
      rotate_left
      · (intro w' hS'; go_simp <;> (with_reducible rfl))
      simp only [Act.put, List.getElem_toArray, List.getElem_cons_zero, List.getElem_cons_succ, List.setIfInBounds_toArray, List.set_cons_zero, List.set_cons_succ]
      refine held_q (v := ?_) (i := 7) rfl (by kernel_rfl) (by kernel_rfl) (by kernel_rfl) (fun _ _ _ h => h) (by rfl) hHeld ?_ ?_
      rotate_left
      · (intro w' hS'; go_simp <;> (with_reducible rfl))
      simp only [Act.put, List.getElem_toArray, List.getElem_cons_zero, List.getElem_cons_succ, List.setIfInBounds_toArray, List.set_cons_zero, List.set_cons_succ]
      refine held_q (v := ?_) (i := 8) rfl (by kernel_rfl) (by kernel_rfl) (by kernel_rfl) (fun _ _ _ h => h) (by rfl) hHeld ?_ ?_
      rotate_left
      · (intro w' hS'; go_simp <;> (with_reducible rfl))
      simp only [Act.put, List.getElem_toArray, List.getElem_cons_zero, List.getElem_cons_succ, List.setIfInBounds_toArray, List.set_cons_zero, List.set_cons_succ]
      refine held_q (v := ?_) (i := 9) rfl (by kernel_rfl) (by kernel_rfl) (by kernel_rfl) (fun _ _ _ h => h) (by rfl) hHeld ?_ ?_
      rotate_left
      · (intro w' hS'; go_simp <;> (with_reducible rfl))
      simp only [Act.put, List.getElem_toArray, List.getElem_cons_zero, List.getElem_cons_succ, List.setIfInBounds_toArray, List.set_cons_zero, List.set_cons_succ]
      refine held_q (v := ?_) (i := 10) rfl (by kernel_rfl) (by kernel_rfl) (by kernel_rfl) (fun _ _ _ h => h) (by rfl) hHeld ?_ ?_
      rotate_left
      · (intro w' hS'; go_simp <;> (with_reducible rfl))
      simp only [Act.put, List.getElem_toArray, List.getElem_cons_zero, List.getElem_cons_succ, List.setIfInBounds_toArray, List.set_cons_zero, List.set_cons_succ]
      refine held_q (v := ?_) (i := 11) rfl (by kernel_rfl) (by kernel_rfl) (by kernel_rfl) (fun _ _ _ h => h) (by rfl) hHeld ?_ ?_
      rotate_left
      · (intro w' hS'; go_simp <;> (with_reducible rfl))
      simp only [Act.put, List.getElem_toArray, List.getElem_cons_zero, List.getElem_cons_succ, List.setIfInBounds_toArray, List.set_cons_zero, List.set_cons_succ]
      refine held_v (i := 6) (by kernel_rfl) rfl (by rfl) (exec_buildSlice 44 0 _ rfl (by go_simp <;> rfl) bs0) (ks1) (fun hHeld => ?_)
      simp only [Act.put, List.getElem_toArray, List.getElem_cons_zero, List.getElem_cons_succ, List.setIfInBounds_toArray, List.set_cons_zero, List.set_cons_succ]
      refine held_v (i := 12) (by kernel_rfl) rfl (by rfl) (exec_append2 44 44 _ _ rfl rfl rfl ap2) (ks2) (fun hHeld => ?_)
      simp only [Act.put, List.getElem_toArray, List.getElem_cons_zero, List.getElem_cons_succ, List.setIfInBounds_toArray, List.set_cons_zero, List.set_cons_succ]
      refine held_q (i := 13) rfl (by kernel_rfl) (by kernel_rfl) (by kernel_rfl) (fun _ _ _ h => h) (by rfl) hHeld (fun w' hS' => exec_build 46 _ rfl (by go_simp <;> rfl) (bf w')) ?_
      simp only [Act.put, List.getElem_toArray, List.getElem_cons_zero, List.getElem_cons_succ, List.setIfInBounds_toArray, List.set_cons_zero, List.set_cons_succ]
      refine held_v (i := 14) (by kernel_rfl) rfl (by rfl) (exec_buildSlice 27 1 _ rfl (by go_simp <;> rfl) bs3) (ks3) (fun hHeld => ?_)
      simp only [Act.put, List.getElem_toArray, List.getElem_cons_zero, List.getElem_cons_succ, List.setIfInBounds_toArray, List.set_cons_zero, List.set_cons_succ]
      refine held_v (i := 15) (by kernel_rfl) rfl (by rfl) (exec_append2 27 27 _ _ rfl rfl rfl ap4) (ks4) (fun hHeld => ?_)
      simp only [Act.put, List.getElem_toArray, List.getElem_cons_zero, List.getElem_cons_succ, List.setIfInBounds_toArray, List.set_cons_zero, List.set_cons_succ]
      refine held_q (v := ?_) (i := 16) rfl (by kernel_rfl) (by kernel_rfl) (by kernel_rfl) (fun _ _ _ h => h) (by rfl) hHeld ?_ ?_
      rotate_left
      · (intro w' hS'; go_simp <;> (with_reducible rfl))
      simp only [Act.put, List.getElem_toArray, List.getElem_cons_zero, List.getElem_cons_succ, List.setIfInBounds_toArray, List.set_cons_zero, List.set_cons_succ]
      refine wpAnyH_done (by kernel_rfl) ?_ _
      go_wp2_with fail
      go_roundw
      case rel => exact ⟨k + 1, ps ++ [(f.path, .slice ab f.bytes.length cb)], by omega, by go_num, ⟨a4, c4, by rw [List.length_append]; rfl⟩, by rw [List.length_append]; exact HN.out, k4⟩
      case measure => simp [intOf]; omega
    · obtain rfl : k = l.length := by omega
      have hHR := HR.out
      rw [List.take_length] at hHR
      have HT := Lib.hid (And.intro (TreeAt.of_row hHR.1 hHR.2.pairs) (OwnT.of_rows hHR.1 hHR.2))
      clear hHR HR
      go_wp2_with fail
      go_ret
      exact ⟨_, rfl, HT.out.1, HT.out.2, hkr⟩

/- PlanInputs: outs are few where they are not great; copies. -/

set_option maxRecDepth 100000 in
set_option maxHeartbeats 4000000 in
theorem great16b_ct {w : World} {x : TgtE} {vd vp vs vo : Value} {ls : List FileE} {ts : List (List FileE)} (h : TgtAt w x vd vp) (hs : TreeAt w vs ls) (ho : TreesAt w vo ts) :
    Calls Tryd.prog 7 #[.agg (tgtC x vd vp), vs, vo] w fun e w' => (∃ g, e = .returned (.bool g) ∧ (g = false → ts.length ≤ 10)) ∧ Kept (fun _ => False) w w' := by
  obtain ⟨a1, c1, a2, c2, rfl, rfl, hc1, hc2, hm1⟩ := h.words
  obtain ⟨a3, c3, rfl⟩ := hs.slc
  obtain ⟨a4, c4, rfl, hc4, hm4⟩ := ho.slc
  simp only [maxLen] at hm1 hm4
  unfold tgtC
  have k1 : Kept (fun _ => False) w (w.alloc (.cells #[.string x.name, .slice a1 x.deps.length c1, .int .i64 x.fuel, .slice a2 x.prog.length c2] 25)) := (Kept.refl _ w).alloc _
  have hb0 := heap_last w (.cells #[.string x.name, .slice a1 x.deps.length c1, .int .i64 x.fuel, .slice a2 x.prog.length c2] 25)
  have ldB : (Instr.loadAt 25 (.pointer (some ⟨w.heap.size, 0, none⟩))).run Tryd.prog (w.alloc (.cells #[.string x.name, .slice a1 x.deps.length c1, .int .i64 x.fuel, .slice a2 x.prog.length c2] 25)) = .ok (.agg #[.string x.name, .slice a1 x.deps.length c1, .int .i64 x.fuel, .slice a2 x.prog.length c2]) _ := load_row Tryd.underlying25 rfl hb0 (by kernel_rfl)
  go_enter Tryd.func7, Tryd.ntmps7
  go_upto_region 1 with fail
  generalize w.alloc (.cells #[.string x.name, .slice a1 x.deps.length c1, .int .i64 x.fuel, .slice a2 x.prog.length c2] 25) = W1 at k1 hb0 ldB ⊢
  generalize w.heap.size = B at hb0 ldB ⊢
  have bs := bslice_tg x.name a1 a2 x.deps.length c1 x.prog.length c2 x.fuel W1
  have k2 : Kept (fun _ => False) w (W1.alloc (.cells #[.string x.name, .slice a1 x.deps.length c1, .int .i64 x.fuel, .slice a2 x.prog.length c2] 25)) := k1.alloc _
  have hg := heap_last W1 (.cells #[.string x.name, .slice a1 x.deps.length c1, .int .i64 x.fuel, .slice a2 x.prog.length c2] 25)
  generalize W1.alloc (.cells #[.string x.name, .slice a1 x.deps.length c1, .int .i64 x.fuel, .slice a2 x.prog.length c2] 25) = W2 at bs k2 hg
  generalize W1.heap.size = G at bs hg
  have gc := great14_ct (h.kept k2) hg
  go_wp2_with (first
    | (with_reducible refine wpl_load 25 _ rfl rfl ?_ ldB ?_
       · rfl
       simp only [Act.put, List.getElem_toArray, List.getElem_cons_zero, List.getElem_cons_succ, List.setIfInBounds_toArray, List.set_cons_zero, List.set_cons_succ])
    | (with_reducible refine wpl_bslice 54 _ _ rfl rfl ?_ bs ?_
       · (go_simp <;> rfl)
       simp only [Act.put, List.getElem_toArray, List.getElem_cons_zero, List.getElem_cons_succ, List.setIfInBounds_toArray, List.set_cons_zero, List.set_cons_succ]))
  refine gc.mono ?_
  rintro e W3 ⟨⟨q, rfl⟩, k3⟩
  have K3 := k2.trans k3
  clear bs ldB hb0 hg gc
  cases q with
  | true =>
    go_wp2_with fail
    go_ret
    exact ⟨⟨_, rfl, by intro q; first | omega | exact absurd q (by decide)⟩, K3⟩
  | false =>
    go_wp2_with fail
    refine (great_ct (hs.kept K3)).mono ?_
    rintro e W4 ⟨⟨q, rfl⟩, k4⟩
    have K4 := K3.trans k4
    cases q with
    | true =>
      go_wp2_with fail
      go_ret
      exact ⟨⟨_, rfl, by intro q; first | omega | exact absurd q (by decide)⟩, K4⟩
    | false =>
      by_cases h10 : ts.length > 10
      · have i10 : (10 : Int) < (ts.length : Int) := by omega
        go_wp2_with fail
        go_ret
        exact ⟨⟨_, rfl, by intro q; first | omega | exact absurd q (by decide)⟩, K4⟩
      · have i10 : ¬ (10 : Int) < (ts.length : Int) := by omega
        go_wp2_with fail
        go_loopg [7] ts.length (fun gk i wr => ∃ k : Nat, gk = ts.length - k ∧ k ≤ ts.length ∧ i = .int .i64 k ∧ Kept (fun _ => False) w wr)
        case atStart => exact ⟨0, by omega, by omega, rfl, K4⟩
        case round =>
          obtain ⟨k, rfl, hk, rfl, hkr⟩ := hrel
          by_cases hlt : k < ts.length
          · have hf : ts[k]? = some ts[k] := List.getElem?_eq_getElem hlt
            generalize ts[k] = l at hf
            obtain ⟨b, o, v, rfl, hb, hcell, ht⟩ := (ho.kept hkr).elem hf
            have gc := great_ct ht
            obtain ⟨a8, c8, rfl⟩ := ht.slc
            clear hf
            go_wp2_with fail
            refine gc.mono ?_
            rintro e W5 ⟨⟨q, rfl⟩, k5⟩
            clear gc
            cases q with
            | true =>
              go_wp2_with fail
              go_ret
              exact ⟨⟨_, rfl, by intro q; first | omega | exact absurd q (by decide)⟩, hkr.trans k5⟩
            | false =>
              go_wp2_with fail
              go_roundg (ts.length - (k + 1))
              case rel => exact ⟨k + 1, rfl, by omega, by go_num, hkr.trans k5⟩
              case measure => omega
          · obtain rfl : k = ts.length := by omega
            go_wp2_with fail
            go_ret
            exact ⟨⟨_, rfl, by intro q; first | omega | exact absurd q (by decide)⟩, hkr⟩

/-- Small enough to be copied. -/
def SmallT (l : List FileE) : Prop := l.length * 40 ≤ 140737488351232 ∧ ∀ f ∈ l, f.bytes.length ≤ 140737488351232
/-- Copies of trees, each in memory of its own, in a row of the call's own. -/
def CopiesAt (base : Nat) (w : World) (v : Value) (ts : List (List FileE)) : Prop :=
  ∃ vs : List Value, vs.length = ts.length ∧ w.ownsRow base 27 1 v ts.length vs ∧ ∀ (j : Nat) l, ts[j]? = some l → ∃ x, vs[j]? = some x ∧ TreeAt w x l ∧ OwnT base w x l.length
theorem CopiesAt.at {base : Nat} {w : World} {v : Value} {ts : List (List FileE)} (h : CopiesAt base w v ts) (hm : ts.length ≤ maxLen) : TreesAt w v ts := by
  obtain ⟨vs, h1, h2, h3⟩ := h
  exact ⟨vs, h1, RowAt.own h2 h1 hm, fun j l hl => by obtain ⟨x, hx, ht, _⟩ := h3 j l hl; exact ⟨x, hx, ht⟩⟩
theorem CopiesAt.nil (base : Nat) (w : World) : CopiesAt base w (.slice none 0 0) [] := ⟨[], rfl, World.ownsRow_nil _ _ _ _, fun j l hl => by simp at hl⟩
theorem CopiesAt.kept {base : Nat} {w w' : World} {v : Value} {ts : List (List FileE)} (h : CopiesAt base w v ts) (hk : Kept (fun _ => False) w w') : CopiesAt base w' v ts := by
  obtain ⟨vs, h1, h2, h3⟩ := h
  refine ⟨vs, h1, row_kept h2 hk, fun j l hl => ?_⟩
  obtain ⟨x, hx, ht, ho⟩ := h3 j l hl
  exact ⟨x, hx, ht.kept hk, ho.kept hk⟩
theorem bs_t3 (a : Option Addr) (n c : Nat) (w : World) : (Instr.buildSlice 28 1 #[(0, .slice a n c)]).run Tryd.prog w = .ok (.slice (some ⟨w.heap.size, 0, none⟩) 1 1) (w.alloc (.cells #[.slice a n c] 27)) := bs_t a n c w
theorem own_S {S : Nat → Prop} {w w' : World} {base n : Nat} {v : Value} (h : OwnT base w v n) (hk : Kept S w w') (hS : ∀ k c, base ≤ k → w.heap[k]? = some (.cells c 5 (0, 0)) ∨ w.heap[k]? = some (.cells c 46 (0, 0)) → ¬ S k) : OwnT base w' v n := by
  obtain ⟨ps, hl, ho, hp⟩ := h
  refine ⟨ps, hl, row_stay ho hk (fun k hk2 => ?_), fun p hpm => ?_⟩
  · obtain ⟨h1, c, h2⟩ := own_type ho hk2
    exact hS k c h1 (.inr h2)
  · obtain ⟨m, ys, hm⟩ := hp p hpm
    refine ⟨m, ys, row_stay hm hk (fun k hk2 => ?_)⟩
    obtain ⟨h1, c, h2⟩ := own_type hm hk2
    exact hS k c h1 (.inl h2)
/-- One copy more. -/
theorem CopiesAt.push {base : Nat} {w : World} {v : Value} {ts : List (List FileE)} (h : CopiesAt base w v ts) {a : Option Addr} {c : Nat} {l : List FileE} (ht : TreeAt w (.slice a l.length c) l) (ho : OwnT base w (.slice a l.length c) l.length) (hn : ts.length + 1 ≤ 1000000) (hb : base ≤ w.heap.size) (ty : TypeId) :
    ∃ a' c' w', (Builtin.append_ #[28, 28] ty #[v, .slice (some ⟨w.heap.size, 0, none⟩) 1 1]).run Tryd.prog (w.alloc (.cells #[.slice a l.length c] 27)) = .ok (.slice a' (ts.length + 1) c') w' ∧ CopiesAt base w' (.slice a' (ts.length + 1) c') (ts ++ [l]) ∧ Kept (fun k => v.ownBlock = some k) w w' := by
  obtain ⟨vs, h1, h2, h3⟩ := h
  have k1 : Kept (fun _ => False) w (w.alloc (.cells #[.slice a l.length c] 27)) := (Kept.refl _ w).alloc _
  obtain ⟨a', c', w', ap, ho', hg⟩ := push_t (c := 1) (alloc_row h2 (.cells #[.slice a l.length c] 27)) (u := .slice a l.length c) rfl (heap_last w _) hn (Nat.le_trans hb k1.size) ty
  have kr := grown_row hg
  have hrow := row_kept h2 k1
  have hS : ∀ (k : Nat) (cq : Array Value), base ≤ k → (w.alloc (.cells #[.slice a l.length c] 27)).heap[k]? = some (.cells cq 5 (0, 0)) ∨ (w.alloc (.cells #[.slice a l.length c] 27)).heap[k]? = some (.cells cq 46 (0, 0)) → ¬ v.ownBlock = some k := fun k cc _ hh e => by
    obtain ⟨_, cq, hq⟩ := own_type hrow e
    rcases hh with hh | hh
    · rw [hq] at hh; injection hh with hh; injection hh with _ hh; exact absurd hh (by decide)
    · rw [hq] at hh; injection hh with hh; injection hh with _ hh; exact absurd hh (by decide)
  refine ⟨a', c', w', ap, ⟨vs ++ [.slice a l.length c], by simp [h1], by rw [List.length_append]; exact ho', fun j m hm => ?_⟩, (k1.mono (fun _ _ q => q.elim)).trans kr⟩
  by_cases hj : j < ts.length
  · rw [List.getElem?_append_left hj] at hm
    obtain ⟨x, hx, htx, hox⟩ := h3 j m hm
    have hox1 := hox.kept k1
    exact ⟨x, by rw [List.getElem?_append_left (by omega)]; exact hx, tree_S hox1 rfl (htx.kept k1) kr hS, own_S hox1 kr hS⟩
  · have hjl := (List.getElem?_eq_some_iff.1 hm).1
    simp at hjl
    obtain rfl : j = ts.length := by omega
    rw [List.getElem?_append_right (Nat.le_refl _)] at hm
    simp at hm
    subst hm
    refine ⟨.slice a l.length c, by rw [← h1, List.getElem?_append_right (Nat.le_refl _)]; simp, tree_S (ho.kept k1) rfl (ht.kept k1) kr hS, own_S (ho.kept k1) kr hS⟩

/- A program of the call's own, of which one number is written over. -/

/-- A row of instructions: what stands where the number N stands is a number. -/
def OwnN (base : Nat) (w : World) (v : Value) (n : Nat) : Prop :=
  ∃ (a : Option Addr) (c : Nat), v = .slice a n c ∧ (0 < n → ∃ g C, a = some ⟨g, 0, none⟩ ∧ base ≤ g ∧ w.heap[g]? = some (.cells C 48 (0, 0)) ∧ ∀ j, j < n → ∃ i : Int, C[j * 6 + 4]? = some (.int .i64 i))
theorem insCs_n {p : List InsE} {j : Nat} (hj : j < p.length) : (insCs p)[j * 6 + 4]? = some (.int .i64 p[j].n) := by
  unfold insCs
  rw [flat_get (z := 6) (j := j) (r := insC p[j]) (insC_z p) (by rw [List.getElem?_map, List.getElem?_eq_getElem hj]; rfl) 4 (by omega)]
  rfl
theorem OwnI.ns {base : Nat} {w : World} {v : Value} {p : List InsE} (h : OwnI base w v p) : OwnN base w v p.length := by
  obtain ⟨⟨h1, h2⟩, _⟩ := h
  rcases h2 with ⟨hv, h0⟩ | ⟨g, cap, cur, rfl, hb, hg, hn, hm, hs, ht⟩
  · subst hv
    exact ⟨none, 0, by rw [h0], fun q => by omega⟩
  · refine ⟨_, _, rfl, fun _ => ⟨g, cur, rfl, hb, hg, fun j hj => ⟨p[j].n, ?_⟩⟩⟩
    have e := insCs_n hj
    have hl : (insCs p).length = p.length * 6 := insCs_len p
    rw [← ht, List.getElem?_take_of_lt (by omega)] at e
    simpa using e
theorem OwnN.spared {base : Nat} {w w' : World} {v : Value} {n : Nat} (h : OwnN base w v n) (s : Spared w w') : OwnN base w' v n := by
  obtain ⟨a, c, hv, hr⟩ := h
  refine ⟨a, c, hv, fun q => ?_⟩
  obtain ⟨g, C, e, hb, hg, hj⟩ := hr q
  exact ⟨g, C, e, hb, s.other g C _ _ hg (by decide), hj⟩
theorem OwnN.kept {base : Nat} {w w' : World} {v : Value} {n : Nat} (h : OwnN base w v n) (k : Kept (fun _ => False) w w') : OwnN base w' v n := h.spared (Spared.of_kept k)
theorem OwnN.poke {base : Nat} {w : World} {v : Value} {n : Nat} (h : OwnN base w v n) {g j : Nat} {C : Array Value} (hg : w.heap[g]? = some (.cells C 48 (0, 0))) (u : Int) : OwnN base (w.setCell ⟨g, j, none⟩ (.int .i64 u)) v n := by
  obtain ⟨a, c, hv, hr⟩ := h
  refine ⟨a, c, hv, fun q => ?_⟩
  obtain ⟨g', C', e, hb, hg', hj⟩ := hr q
  by_cases eg : g' = g
  · subst eg
    refine ⟨g', _, e, hb, heap_setCell_same hg' _, fun k hk => ?_⟩
    obtain ⟨i, hi⟩ := hj k hk
    rw [Array.getElem?_setIfInBounds]
    split
    · rename_i ej
      have hlt := (Array.getElem?_eq_some_iff.1 hi).1
      rw [if_pos (by omega)]
      exact ⟨u, rfl⟩
    · exact ⟨i, hi⟩
  · exact ⟨g', C', e, hb, by rw [Below.heap_setCell _ _ _ _ eg]; exact hg', hj⟩
theorem OwnN.at' {base : Nat} {w : World} {a : Option Addr} {m c n : Nat} (h : OwnN base w (.slice a m c) n) {k : Nat} (hk : k < n) :
    ∃ g C, ∃ i : Int, a = some ⟨g, 0, none⟩ ∧ base ≤ g ∧ w.heap[g]? = some (.cells C 48 (0, 0)) ∧ w.cell? ⟨g, k * 6 + 4, none⟩ = some (.int .i64 i) ∧ w.frozen? ⟨g, k * 6 + 4, none⟩ = false := by
  obtain ⟨a', c', hv, hr⟩ := h
  injection hv with e1 e2 e3
  subst e1
  obtain ⟨g, C, e, hb, hg, hj⟩ := hr (by omega)
  obtain ⟨i, hi⟩ := hj k hk
  exact ⟨g, C, i, e, hb, hg, by rw [cell_of_row _ _ _ _ _ _ hg]; exact hi, by simp [World.frozen?, hg]⟩
theorem OwnN.low {base b2 : Nat} {w : World} {v : Value} {n : Nat} (h : OwnN base w v n) (hb : b2 ≤ base) : OwnN b2 w v n := by
  obtain ⟨a, c, hv, hr⟩ := h
  exact ⟨a, c, hv, fun q => by obtain ⟨g, C, e, hb2, r⟩ := hr q; exact ⟨g, C, e, Nat.le_trans hb hb2, r⟩⟩
/-- A block of another kind stays. -/
theorem poke_row {w : World} {g j G : Nat} {C C' : Array Value} {t t' : TypeId} {fr fr' : Nat × Nat} (hg : w.heap[g]? = some (.cells C t fr)) (hG : w.heap[G]? = some (.cells C' t' fr')) (ht : t ≠ t') (u : Value) : (w.setCell ⟨g, j, none⟩ u).heap[G]? = some (.cells C' t' fr') := by
  rw [Below.heap_setCell _ _ _ _ (fun e => by
    have e : G = g := e
    subst e
    rw [hg] at hG
    injection hG with hG
    injection hG with _ hG _
    exact ht hG)]
  exact hG

/- PlanInputs' walk (under way). -/

theorem insout_no {x : TgtE} {ls : List FileE} {ts : List (List FileE)} {w : World} {e : Ending} (h : InsOut x ls ts w e) (hok : okI x ls ts = false) : e = .returned (.tuple #[.slice none 0 0, .int .i64 2]) := by
  rcases h with ⟨_, he⟩ | ⟨q, _⟩
  · exact he
  · rw [hok] at q; cases q
theorem insout_none {x : TgtE} {ls : List FileE} {ts : List (List FileE)} {w : World} {e : Ending} (h : InsOut x ls ts w e) (hok : okI x ls ts = true) (hn : insO ls (depsZ x ts) = none) : e = .returned (.tuple #[.slice none 0 0, .int .i64 8]) := by
  rcases h with ⟨q, _⟩ | ⟨_, ⟨_, he⟩ | ⟨o, v, q, _⟩⟩
  · rw [hok] at q; cases q
  · exact he
  · rw [hn] at q; cases q
theorem insout_some {x : TgtE} {ls o : List FileE} {ts : List (List FileE)} {w : World} {e : Ending} (h : InsOut x ls ts w e) (hok : okI x ls ts = true) (hn : insO ls (depsZ x ts) = some o) : ∃ v, e = .returned (.tuple #[v, .int .i64 0]) ∧ TreeAt w v o := by
  rcases h with ⟨q, _⟩ | ⟨_, ⟨q, _⟩ | ⟨o', v, q, he, ht⟩⟩
  · rw [hok] at q; cases q
  · rw [hn] at q; cases q
  · rw [hn] at q; injection q with q; subst q; exact ⟨v, he, ht⟩
theorem actout_no {base : Nat} {x : TgtE} {ls : List FileE} {ts : List (List FileE)} {w : World} {e : Ending} (h : ActOut base x ls ts w e) (hok : okI x ls ts = false) : e = .returned (.tuple #[.agg (actC (.slice none 0 0) (.slice none 0 0) 0), .int .i64 2]) := by
  rcases h with ⟨_, he⟩ | ⟨q, _⟩
  · exact he
  · rw [hok] at q; cases q
theorem actout_none {base : Nat} {x : TgtE} {ls : List FileE} {ts : List (List FileE)} {w : World} {e : Ending} (h : ActOut base x ls ts w e) (hok : okI x ls ts = true) (hn : insO ls (depsZ x ts) = none) : e = .returned (.tuple #[.agg (actC (.slice none 0 0) (.slice none 0 0) 0), .int .i64 8]) := by
  rcases h with ⟨q, _⟩ | ⟨_, ⟨_, he⟩ | ⟨o, vp, vt, q, _⟩⟩
  · rw [hok] at q; cases q
  · exact he
  · rw [hn] at q; cases q
theorem actout_some {base : Nat} {x : TgtE} {ls o : List FileE} {ts : List (List FileE)} {w : World} {e : Ending} (h : ActOut base x ls ts w e) (hok : okI x ls ts = true) (hn : insO ls (depsZ x ts) = some o) : ∃ vp vt, e = .returned (.tuple #[.agg (actC vp vt x.fuel), .int .i64 0]) ∧ OwnI base w vp x.prog ∧ TreeAt w vt o := by
  rcases h with ⟨q, _⟩ | ⟨_, ⟨q, _⟩ | ⟨o', vp, vt, q, he, h1, h2⟩⟩
  · rw [hok] at q; cases q
  · rw [hn] at q; cases q
  · rw [hn] at q; injection q with q; subst q; exact ⟨vp, vt, he, h1, h2⟩
theorem nilP (w : World) : ProgAt w (.slice none 0 0) [] := ⟨RowAt.nil _ _ _, fun x hx => by simp at hx⟩
set_option maxRecDepth 100000 in
set_option maxHeartbeats 8000000 in
theorem pinputs_law {w : World} (hT : FldTab w) {x : TgtE} {vd vp vs vo : Value} {ls : List FileE} {ts : List (List FileE)} (h : TgtAt w x vd vp) (hs : TreeAt w vs ls) (ho : TreesAt w vo ts) (hsm : SmallT ls) (hsmt : ∀ l ∈ ts, SmallT l) :
    Calls Tryd.prog 4 #[.agg (tgtC x vd vp), vs, vo] w fun e w' => e = .returned (.bool true) ∧ Kept (fun _ => False) w w' := by
  obtain ⟨a1, c1, a2, c2, rfl, rfl, hc1, hc2, hm1⟩ := h.words
  obtain ⟨a3, c3, rfl⟩ := hs.slc
  obtain ⟨a4, c4, rfl, hc4, hm4⟩ := ho.slc
  simp only [maxLen] at hm1 hm4
  unfold tgtC
  have k1 : Kept (fun _ => False) w (w.alloc (.cells #[.string x.name, .slice a1 x.deps.length c1, .int .i64 x.fuel, .slice a2 x.prog.length c2] 25)) := (Kept.refl _ w).alloc _
  have hb0 := heap_last w (.cells #[.string x.name, .slice a1 x.deps.length c1, .int .i64 x.fuel, .slice a2 x.prog.length c2] 25)
  go_enter Tryd.func4, Tryd.ntmps4
  go_upto_region 1 with fail
  generalize w.alloc (.cells #[.string x.name, .slice a1 x.deps.length c1, .int .i64 x.fuel, .slice a2 x.prog.length c2] 25) = W1 at k1 hb0 ⊢
  have hzB := (Array.getElem?_eq_some_iff.1 hb0).1
  generalize hBe : w.heap.size = B at hb0 hzB ⊢
  have hbW : ∀ w', Kept (fun _ => False) W1 w' → w'.heap[B]? = some (.cells #[.string x.name, .slice a1 x.deps.length c1, .int .i64 x.fuel, .slice a2 x.prog.length c2] 25) := fun w' q => by rw [q.block _ hzB not_false]; exact hb0
  have ldB : ∀ w', Kept (fun _ => False) W1 w' → (Instr.loadAt 25 (.pointer (some ⟨B, 0, none⟩))).run Tryd.prog w' = .ok (.agg #[.string x.name, .slice a1 x.deps.length c1, .int .i64 x.fuel, .slice a2 x.prog.length c2]) w' := fun w' q => load_row Tryd.underlying25 rfl (hbW w' q) (by kernel_rfl)
  have ld1 := ldB W1 (Kept.refl _ _)
  have gc := great16b_ct (h.kept k1) (hs.kept k1) (ho.kept k1)
  unfold tgtC at gc
  clear hBe
  go_wp2_with (first
    | (with_reducible refine wpl_load 25 _ rfl rfl ?_ ld1 ?_
       · rfl
       simp only [Act.put, List.getElem_toArray, List.getElem_cons_zero, List.getElem_cons_succ, List.setIfInBounds_toArray, List.set_cons_zero, List.set_cons_succ]))
  refine gc.mono ?_
  rintro e W2 ⟨⟨q, rfl, hten⟩, k2⟩
  have K2 := k1.trans k2
  clear gc ld1
  cases q with
  | true =>
    go_wp2_with fail
    refine (known16_ct (hT.kept (K2))).mono ?_
    rintro e Wk ⟨rfl, kk⟩
    go_wp2_with fail
    go_ret
    exact ⟨rfl, (K2).trans kk⟩
  | false =>
    have h10 : ts.length ≤ 10 := hten rfl
    clear hten
    go_wp2_with fail
    refine (rCopyS_ct (hs.kept K2) hsm.1 hsm.2).mono ?_
    rintro e W3 ⟨v3, rfl, ht3, ho3, k3⟩
    have K3 := K2.trans k3
    have K13 := k2.trans k3
    obtain ⟨a5, c5, rfl⟩ := ht3.slc
    go_wp2_with fail
    obtain ⟨D0, hD0⟩ : ∃ D0, D0 = W3.heap.size := ⟨_, rfl⟩
    have hD0a : D0 ≤ W3.heap.size := by omega
    have hD0b : W3.heap.size ≤ D0 := by omega
    clear hD0
    go_loopg [8, 29] ts.length (fun gk s8 s29 wr => ∃ (k : Nat) (a : Option Addr) (c : Nat), gk = ts.length - k ∧ k ≤ ts.length ∧ s29 = .int .i64 k ∧ s8 = .slice a k c ∧ Hid (CopiesAt D0 wr (.slice a k c) (ts.take k)) ∧ Kept (fun i => D0 ≤ i) W3 wr)
    case atStart => exact ⟨0, none, 0, by omega, by omega, rfl, rfl, CopiesAt.nil _ _, Kept.refl _ _⟩
    case round =>
      obtain ⟨k, a6, c6, rfl, hk, rfl, rfl, HC, hkr⟩ := hrel
      have K3r : Kept (fun _ => False) W3 wr := hkr.mono (fun i hi e => by omega)
      have Kr := K3.trans K3r
      by_cases hlt : k < ts.length
      · have hf : ts[k]? = some ts[k] := List.getElem?_eq_getElem hlt
        have htk : ts.take (k + 1) = ts.take k ++ [ts[k]] := List.take_succ_eq_append_getElem hlt
        have hsl := hsmt ts[k] (List.getElem_mem hlt)
        generalize ts[k] = l at hf htk hsl
        obtain ⟨b, o, v, rfl, hb, hcell, ht⟩ := (ho.kept Kr).elem hf
        have cc := rCopyS_ct ht hsl.1 hsl.2
        obtain ⟨a7, c7, rfl⟩ := ht.slc
        clear hf
        go_wp2_with fail
        refine cc.mono ?_
        rintro e W4 ⟨v8, rfl, ht8, ho8, k4⟩
        obtain ⟨a8, c8, rfl⟩ := ht8.slc
        have hwr : D0 ≤ wr.heap.size := Nat.le_trans hD0a hkr.size
        have hw4 : D0 ≤ W4.heap.size := Nat.le_trans hwr k4.size
        have hlk : (ts.take k).length = k := by rw [List.length_take]; omega
        have hC4 := HC.out.kept k4
        have hown : ∀ i, (Value.slice a6 k c6).ownBlock = some i → D0 ≤ i := fun i hi => by
          obtain ⟨vs, _, q2, _⟩ := hC4
          exact (own_type q2 hi).1
        obtain ⟨a9, c9, W5, ap, hC5, k5⟩ := hC4.push ht8 (ho8.low hwr) (by omega) hw4 28
        rw [hlk] at ap hC5
        rw [← htk] at hC5
        have HC5 := Lib.hid hC5
        have bs := bs_t3 a8 l.length c8 W4
        have hkr5 : Kept (fun i => D0 ≤ i) W3 W5 := (hkr.trans (k4.mono (fun _ _ q => q.elim))).trans (k5.mono (fun i _ e => hown i e))
        clear cc hC4 hC5 htk HC k5 ht8 ho8 hown hlk ht hcell
        go_wp2_with (first
          | (with_reducible refine wpl_bslice 28 _ _ rfl rfl ?_ bs ?_
             · (go_simp <;> rfl)
             simp only [Act.put, List.getElem_toArray, List.getElem_cons_zero, List.getElem_cons_succ, List.setIfInBounds_toArray, List.set_cons_zero, List.set_cons_succ])
          | (with_reducible refine wpl_append 28 _ _ rfl rfl ?_ ?_ ap ?_
             · rfl
             · rfl
             simp only [Act.put, List.getElem_toArray, List.getElem_cons_zero, List.getElem_cons_succ, List.setIfInBounds_toArray, List.set_cons_zero, List.set_cons_succ]))
        go_roundg (ts.length - (k + 1))
        case rel => exact ⟨k + 1, a9, c9, rfl, by omega, by go_num, rfl, HC5, hkr5⟩
        case measure => omega
      · obtain rfl : k = ts.length := by omega
        have hC := HC.out
        rw [List.take_length] at hC
        have hot := hC.at (by simp only [maxLen]; omega)
        clear HC
        have K1r := K13.trans K3r
        have ldr := ldB wr K1r
        have ic := inputs_ctS (hT.kept Kr) (h.kept Kr) (ht3.kept K3r) hot
        unfold tgtC at ic
        go_wp2_with (first
          | (with_reducible refine wpl_load 25 _ rfl rfl ?_ ldr ?_
             · rfl
             simp only [Act.put, List.getElem_toArray, List.getElem_cons_zero, List.getElem_cons_succ, List.setIfInBounds_toArray, List.set_cons_zero, List.set_cons_succ]))
        refine ic.mono ?_
        rintro e W4 ⟨hi1, k4⟩
        have K4 := Kr.trans k4
        have rc := rinputs_ct (h.kept K4) (hs.kept K4) (ho.kept K4)
        have ld4 := ldB W4 (K1r.trans k4)
        unfold tgtC at rc
        clear ic ldr
        rcases hi1 with ⟨hok, rfl⟩ | ⟨hok, ⟨hn, rfl⟩ | ⟨o, v4, hio, rfl, hto, hoo⟩⟩
        · skip
          go_wp2_with (first
            | (with_reducible refine wpl_load 25 _ rfl rfl ?_ ld4 ?_
               · rfl
               simp only [Act.put, List.getElem_toArray, List.getElem_cons_zero, List.getElem_cons_succ, List.setIfInBounds_toArray, List.set_cons_zero, List.set_cons_succ]))
          refine rc.mono ?_
          rintro e W5 ⟨hi2, k5⟩
          obtain rfl := insout_no hi2 hok
          have K5 := K4.trans k5
          have ac := action_ct (hT.kept K5) (h.kept K5) (ht3.kept ((K3r.trans k4).trans k5)) (hot.kept (k4.trans k5))
          have ld5 := ldB W5 ((K1r.trans k4).trans k5)
          unfold tgtC at ac
          clear rc ld4
          go_wp2_with (first
            | (with_reducible refine wpl_load 25 _ rfl rfl ?_ ld5 ?_
               · rfl
               simp only [Act.put, List.getElem_toArray, List.getElem_cons_zero, List.getElem_cons_succ, List.setIfInBounds_toArray, List.set_cons_zero, List.set_cons_succ]))
          refine ac.mono ?_
          rintro e W6 ⟨ha, k6⟩
          obtain rfl := actout_no ha hok
          have K6 := K5.trans k6
          have za := zero_a W6
          have st := store_new (P := Tryd.prog) (ty := 39) (c := #[.slice none 0 0, .slice none 0 0, .int .i64 0]) (c' := #[.slice none 0 0, .slice none 0 0, .int .i64 0]) (by kernel_rfl) rfl (by simp [Value.oneCell']) (w := W6) (b := W6.heap.size) rfl
          clear ac ld5 ha hi2
          unfold actC
          go_upto_region 13 with (first
            | (with_reducible refine wpl_alloc 39 rfl rfl za ?_
               simp only [World.size_alloc, Act.put, List.getElem_toArray, List.getElem_cons_zero, List.getElem_cons_succ, List.setIfInBounds_toArray, List.set_cons_zero, List.set_cons_succ])
            | (with_reducible refine wpl_store 39 _ _ rfl rfl ?_ ?_ st ?_
               · rfl
               · rfl
               simp only [Act.put, List.getElem_toArray, List.getElem_cons_zero, List.getElem_cons_succ, List.setIfInBounds_toArray, List.set_cons_zero, List.set_cons_succ]))
          have k7 : Kept (fun _ => False) W6 (W6.alloc (.cells #[.slice none 0 0, .slice none 0 0, .int .i64 0] 39)) := (Kept.refl _ W6).alloc _
          have hP7 := heap_last W6 (.cells #[.slice none 0 0, .slice none 0 0, .int .i64 0] 39)
          clear st za
          generalize W6.alloc (.cells #[.slice none 0 0, .slice none 0 0, .int .i64 0] 39) = W7 at k7 hP7 ⊢
          generalize W6.heap.size = G at hP7 ⊢
          have K7 := K6.trans k7
          have K47 := ((k4.trans k5).trans k6).trans k7
          have hzP := (Array.getElem?_eq_some_iff.1 hP7).1
          have ldP : ∀ w', Kept (fun _ => False) W7 w' → (Instr.loadAt 39 (.pointer (some ⟨G, 0, none⟩))).run Tryd.prog w' = .ok (.agg #[.slice none 0 0, .slice none 0 0, .int .i64 0]) w' := fun w' q => load_row Tryd.underlying39 rfl (by rw [q.block _ hzP not_false]; exact hP7) (by kernel_rfl)
          have sc := rSame_ct (TreeAt.nil W7 0) (TreeAt.nil W7 0)
          rw [sameB_rfl] at sc
          go_wp2_with fail
          refine sc.mono ?_
          rintro e W8 ⟨rfl, k8⟩
          clear sc
          have ld8 := ldP W8 k8
          have r16 := rsame16_ct (f := 0) (g := 0) (nilP W8) (nilP W8) (TreeAt.nil W8 0) (TreeAt.nil W8 0)
          rw [sameP_rfl, sameB_rfl] at r16
          unfold actC at r16
          go_wp2_with (first
            | (with_reducible refine wpl_load_g 39 _ ?_ rfl ?_ ld8 ?_
               · rfl
               · rfl
               simp only [Act.put, List.getElem_toArray, List.getElem_cons_zero, List.getElem_cons_succ, List.setIfInBounds_toArray, List.set_cons_zero, List.set_cons_succ]))
          refine r16.mono ?_
          rintro e W9 ⟨rfl, k9⟩
          have K9 := K7.trans (k8.trans k9)
          have k79 := k8.trans k9
          clear r16 ld8
          have k19 := ((K1r.trans K47).trans k79)
          have cB3 : ∀ w', Kept (fun _ => False) W9 w' → w'.cell? ⟨B, 3, none⟩ = some (.slice a2 x.prog.length c2) := fun w' z => by rw [cell_of_row _ _ _ _ _ _ (hbW w' (k19.trans z))]; rfl
          have cB2 : ∀ w', Kept (fun _ => False) W9 w' → w'.cell? ⟨B, 2, none⟩ = some (.int .i64 x.fuel) := fun w' z => by rw [cell_of_row _ _ _ _ _ _ (hbW w' (k19.trans z))]; rfl
          have p1 := fun w' => plsame_ct (f := 0) (g := 0) (nilP w') (nilP w') (TreeAt.nil w' 0) (TreeAt.nil w' 0) (by simp)
          have p2 := fun w' (z : Kept (fun _ => False) W9 w') => plsame_ct (f := 0) (g := x.fuel) (nilP w') (h.prog.kept (K9.trans z)) (TreeAt.nil w' 0) (hs.kept (K9.trans z)) (by simp)
          have p3 := fun w' (z : Kept (fun _ => False) W9 w') => rsame16_ct (f := 0) (g := x.fuel) (nilP w') (h.prog.kept (K9.trans z)) (TreeAt.nil w' 0) (hs.kept (K9.trans z))
          have bd := fun w' => bd_a a2 a3 x.prog.length c2 ls.length c3 x.fuel w'
          simp only [sameP_rfl, sameB_rfl] at p1
          unfold actC at p1 p2 p3
          generalize (sameP [] x.prog && sameB [] ls && (0 == x.fuel)) = Q at p2 p3
          go_wp2_with fail
          refine wp_region_held_drew (S := (Kept (fun _ => False) W9)) (by kernel_rfl) ((Kept.refl _ W9).drew) (fun hHeld => ?_)
          refine held_q (i := 0) rfl (by kernel_rfl) (by kernel_rfl) (by kernel_rfl) (fun _ _ _ h => h) (by rfl) hHeld (fun w' hS' => exec_load 39 _ rfl rfl (ldP w' (k79.trans hS'))) ?_
          simp only [Act.put, List.getElem_toArray, List.getElem_cons_zero, List.getElem_cons_succ, List.setIfInBounds_toArray, List.set_cons_zero, List.set_cons_succ]
          refine held_q (i := 1) rfl (by kernel_rfl) (by kernel_rfl) (by kernel_rfl) (fun _ _ _ h => h) (by rfl) hHeld (fun w' hS' => exec_load 39 _ rfl rfl (ldP w' (k79.trans hS'))) ?_
          simp only [Act.put, List.getElem_toArray, List.getElem_cons_zero, List.getElem_cons_succ, List.setIfInBounds_toArray, List.set_cons_zero, List.set_cons_succ]
          refine held_c (i := 2) (f := 16) (args := #[.agg #[.slice none 0 0, .slice none 0 0, .int .i64 0], .agg #[.slice none 0 0, .slice none 0 0, .int .i64 0]]) (by kernel_rfl) rfl (by rfl) ?_ (p1 _) ?_
          · (go_simp <;> rfl)
          rintro e WA ⟨rfl, kq⟩
          have hHeld := hHeld.trans kq
          refine ⟨_, rfl, hHeld, ?_⟩
          simp only [Act.put, List.getElem_toArray, List.getElem_cons_zero, List.getElem_cons_succ, List.setIfInBounds_toArray, List.set_cons_zero, List.set_cons_succ]
          refine held_q (v := ?_) (i := 3) rfl (by kernel_rfl) (by kernel_rfl) (by kernel_rfl) (fun _ _ _ h => h) (by rfl) hHeld ?_ ?_
          rotate_left
          · (intro w' hS'; go_simp <;> (with_reducible rfl))
          simp only [Act.put, List.getElem_toArray, List.getElem_cons_zero, List.getElem_cons_succ, List.setIfInBounds_toArray, List.set_cons_zero, List.set_cons_succ]
          refine held_q (v := ?_) (i := 4) rfl (by kernel_rfl) (by kernel_rfl) (by kernel_rfl) (fun _ _ _ h => h) (by rfl) hHeld ?_ ?_
          rotate_left
          · (intro w' hS'; go_simp <;> (with_reducible rfl))
          simp only [Act.put, List.getElem_toArray, List.getElem_cons_zero, List.getElem_cons_succ, List.setIfInBounds_toArray, List.set_cons_zero, List.set_cons_succ]
          refine held_q (i := 5) rfl (by kernel_rfl) (by kernel_rfl) (by kernel_rfl) (fun _ _ _ h => h) (by rfl) hHeld (fun w' hS' => exec_load 39 _ rfl rfl (ldP w' (k79.trans hS'))) ?_
          simp only [Act.put, List.getElem_toArray, List.getElem_cons_zero, List.getElem_cons_succ, List.setIfInBounds_toArray, List.set_cons_zero, List.set_cons_succ]
          refine held_q (v := ?_) (i := 6) rfl (by kernel_rfl) (by kernel_rfl) (by kernel_rfl) (fun _ _ _ h => h) (by rfl) hHeld ?_ ?_
          rotate_left
          · (intro w' hS'; go_simp <;> (with_reducible rfl))
          simp only [Act.put, List.getElem_toArray, List.getElem_cons_zero, List.getElem_cons_succ, List.setIfInBounds_toArray, List.set_cons_zero, List.set_cons_succ]
          refine held_q (v := ?_) (i := 7) rfl (by kernel_rfl) (by kernel_rfl) (by kernel_rfl) (fun _ _ _ h => h) (by rfl) hHeld ?_ ?_
          rotate_left
          · (intro w' hS'; go_simp <;> (with_reducible rfl))
          simp only [Act.put, List.getElem_toArray, List.getElem_cons_zero, List.getElem_cons_succ, List.setIfInBounds_toArray, List.set_cons_zero, List.set_cons_succ]
          refine held_q (v := ?_) (i := 8) rfl (by kernel_rfl) (by kernel_rfl) (by kernel_rfl) (fun _ _ _ h => h) (by rfl) hHeld ?_ ?_
          rotate_left
          · (intro w' hS'; go_simp <;> (with_reducible rfl))
          simp only [Act.put, List.getElem_toArray, List.getElem_cons_zero, List.getElem_cons_succ, List.setIfInBounds_toArray, List.set_cons_zero, List.set_cons_succ]
          refine held_q (v := ?_) (i := 9) rfl (by kernel_rfl) (by kernel_rfl) (by kernel_rfl) (fun _ _ _ h => h) (by rfl) hHeld ?_ ?_
          rotate_left
          · (intro w' hS'; go_simp <;> (with_reducible rfl))
          simp only [Act.put, List.getElem_toArray, List.getElem_cons_zero, List.getElem_cons_succ, List.setIfInBounds_toArray, List.set_cons_zero, List.set_cons_succ]
          refine held_q (v := ?_) (i := 10) rfl (by kernel_rfl) (by kernel_rfl) (by kernel_rfl) (fun _ _ _ h => h) (by rfl) hHeld ?_ ?_
          rotate_left
          · (intro w' hS'; go_simp <;> (with_reducible rfl))
          simp only [Act.put, List.getElem_toArray, List.getElem_cons_zero, List.getElem_cons_succ, List.setIfInBounds_toArray, List.set_cons_zero, List.set_cons_succ]
          refine held_q (i := 11) rfl (by kernel_rfl) (by kernel_rfl) (by kernel_rfl) (fun _ _ _ h => h) (by rfl) hHeld (fun w' hS' => exec_build 39 _ rfl (by go_simp <;> rfl) (bd w')) ?_
          simp only [Act.put, List.getElem_toArray, List.getElem_cons_zero, List.getElem_cons_succ, List.setIfInBounds_toArray, List.set_cons_zero, List.set_cons_succ]
          refine held_q (i := 13) rfl (by kernel_rfl) (by kernel_rfl) (by kernel_rfl) (fun _ _ _ h => h) (by rfl) hHeld (fun w' hS' => exec_load 39 _ rfl rfl (ldP w' (k79.trans hS'))) ?_
          simp only [Act.put, List.getElem_toArray, List.getElem_cons_zero, List.getElem_cons_succ, List.setIfInBounds_toArray, List.set_cons_zero, List.set_cons_succ]
          refine held_q (v := ?_) (i := 14) rfl (by kernel_rfl) (by kernel_rfl) (by kernel_rfl) (fun _ _ _ h => h) (by rfl) hHeld ?_ ?_
          rotate_left
          · (intro w' hS'; go_simp <;> (with_reducible rfl))
          simp only [Act.put, List.getElem_toArray, List.getElem_cons_zero, List.getElem_cons_succ, List.setIfInBounds_toArray, List.set_cons_zero, List.set_cons_succ]
          refine held_q (v := ?_) (i := 15) rfl (by kernel_rfl) (by kernel_rfl) (by kernel_rfl) (fun _ _ _ h => h) (by rfl) hHeld ?_ ?_
          rotate_left
          · (intro w' hS'; go_simp <;> (with_reducible rfl))
          simp only [Act.put, List.getElem_toArray, List.getElem_cons_zero, List.getElem_cons_succ, List.setIfInBounds_toArray, List.set_cons_zero, List.set_cons_succ]
          refine held_q (v := ?_) (i := 16) rfl (by kernel_rfl) (by kernel_rfl) (by kernel_rfl) (fun _ _ _ h => h) (by rfl) hHeld ?_ ?_
          rotate_left
          · (intro w' hS'; go_simp <;> (with_reducible rfl))
          simp only [Act.put, List.getElem_toArray, List.getElem_cons_zero, List.getElem_cons_succ, List.setIfInBounds_toArray, List.set_cons_zero, List.set_cons_succ]
          refine held_q (v := ?_) (i := 17) rfl (by kernel_rfl) (by kernel_rfl) (by kernel_rfl) (fun _ _ _ h => h) (by rfl) hHeld ?_ ?_
          rotate_left
          · (intro w' hS'; go_simp <;> (with_reducible rfl))
          simp only [Act.put, List.getElem_toArray, List.getElem_cons_zero, List.getElem_cons_succ, List.setIfInBounds_toArray, List.set_cons_zero, List.set_cons_succ]
          refine held_q (v := ?_) (i := 18) rfl (by kernel_rfl) (by kernel_rfl) (by kernel_rfl) (fun _ _ _ h => h) (by rfl) hHeld ?_ ?_
          rotate_left
          · (intro w' hS'; go_simp <;> (with_reducible rfl))
          simp only [Act.put, List.getElem_toArray, List.getElem_cons_zero, List.getElem_cons_succ, List.setIfInBounds_toArray, List.set_cons_zero, List.set_cons_succ]
          refine held_q (i := 19) rfl (by kernel_rfl) (by kernel_rfl) (by kernel_rfl) (fun _ _ _ h => h) (by rfl) hHeld (fun w' hS' => exec_build 39 _ rfl (by go_simp <;> rfl) (bd w')) ?_
          simp only [Act.put, List.getElem_toArray, List.getElem_cons_zero, List.getElem_cons_succ, List.setIfInBounds_toArray, List.set_cons_zero, List.set_cons_succ]
          refine held_c (i := 12) (f := 16) (args := #[.agg #[.slice none 0 0, .slice none 0 0, .int .i64 0], .agg #[.slice a2 x.prog.length c2, .slice a3 ls.length c3, .int .i64 x.fuel]]) (by kernel_rfl) rfl (by rfl) ?_ (p2 _ hHeld) ?_
          · (go_simp <;> rfl)
          rintro e WB ⟨rfl, kq⟩
          have hHeld := hHeld.trans kq
          refine ⟨_, rfl, hHeld, ?_⟩
          simp only [Act.put, List.getElem_toArray, List.getElem_cons_zero, List.getElem_cons_succ, List.setIfInBounds_toArray, List.set_cons_zero, List.set_cons_succ]
          refine held_c (i := 20) (f := 15) (args := #[.agg #[.slice none 0 0, .slice none 0 0, .int .i64 0], .agg #[.slice a2 x.prog.length c2, .slice a3 ls.length c3, .int .i64 x.fuel]]) (by kernel_rfl) rfl (by rfl) ?_ (p3 _ hHeld) ?_
          · (go_simp <;> rfl)
          rintro e WC ⟨rfl, kq⟩
          have hHeld := hHeld.trans kq
          refine ⟨_, rfl, hHeld, ?_⟩
          simp only [Act.put, List.getElem_toArray, List.getElem_cons_zero, List.getElem_cons_succ, List.setIfInBounds_toArray, List.set_cons_zero, List.set_cons_succ]
          refine held_q (v := ?_) (i := 21) rfl (by kernel_rfl) (by kernel_rfl) (by kernel_rfl) (fun _ _ _ h => h) (by rfl) hHeld ?_ ?_
          rotate_left
          · (intro w' hS'; go_simp <;> (with_reducible rfl))
          simp only [Act.put, List.getElem_toArray, List.getElem_cons_zero, List.getElem_cons_succ, List.setIfInBounds_toArray, List.set_cons_zero, List.set_cons_succ]
          refine held_q (v := ?_) (i := 22) rfl (by kernel_rfl) (by kernel_rfl) (by kernel_rfl) (fun _ _ _ h => h) (by rfl) hHeld ?_ ?_
          rotate_left
          · (intro w' hS'; go_simp <;> (with_reducible rfl))
          simp only [Act.put, List.getElem_toArray, List.getElem_cons_zero, List.getElem_cons_succ, List.setIfInBounds_toArray, List.set_cons_zero, List.set_cons_succ]
          refine wpAnyH_done (by kernel_rfl) ?_ _
          have KC := K9.trans hHeld
          have k7C := k79.trans hHeld
          have cP0 : WC.cell? ⟨G, 0, none⟩ = some (.slice none 0 0) := by rw [cell_of_row _ _ _ _ _ _ (show WC.heap[G]? = some (.cells #[.slice none 0 0, .slice none 0 0, .int .i64 0] 39 (0, 0)) by rw [k7C.block _ hzP not_false]; exact hP7)]; rfl
          have hotC := hot.kept (K47.trans k7C)
          have htC := ht3.kept (K3r.trans (K47.trans k7C))
          clear p1 p2 p3 bd cB2 cB3 ldP
          go_wp2_with fail
          refine wp_loop_rounds 1 ?_
          rw [rounds_succ]
          go_wp2_with fail
          refine wp_loop_rounds 1 ?_
          rw [rounds_succ]
          go_wp2_with fail
          go_loopg [177] ts.length (fun gk s177 wq => ∃ k : Nat, gk = ts.length - k ∧ k ≤ ts.length ∧ s177 = .int .i64 k ∧ Kept (fun _ => False) w wq ∧ Kept (fun _ => False) WC wq)
          case atStart => exact ⟨0, by omega, by omega, rfl, KC, Kept.refl _ _⟩
          case round =>
            obtain ⟨k, rfl, hk, rfl, hkw, hkC⟩ := hrel
            by_cases hlt : k < ts.length
            · have hf : ts[k]? = some ts[k] := List.getElem?_eq_getElem hlt
              generalize ts[k] = l at hf
              obtain ⟨b, o, v, hae, hb, hcell, ht⟩ := hotC.elem hf
              obtain ⟨b2, o2, v2, hae2, hb2, hcell2, ht2⟩ := ho.elem hf
              obtain ⟨aa, cc, rfl⟩ := ht.slc
              obtain ⟨ab, cb, rfl⟩ := ht2.slc
              subst hae
              subst hae2
              have cT1 : ∀ w', Kept (fun _ => False) wr w' → w'.cell? ⟨b, o + k, none⟩ = some (.slice aa l.length cc) := fun w' z => by rw [(hkC.trans z).cell (p := ⟨b, o + k, none⟩) hb not_false]; exact hcell
              have cT2 : ∀ w', Kept (fun _ => False) wr w' → w'.cell? ⟨b2, o2 + k, none⟩ = some (.slice ab l.length cb) := fun w' z => by rw [(hkw.trans z).cell (p := ⟨b2, o2 + k, none⟩) hb2 not_false]; exact hcell2
              have sc := fun w' (z : Kept (fun _ => False) wr w') => rSame_ct (ht.kept (hkC.trans z)) (ht2.kept (hkw.trans z))
              simp only [sameB_rfl] at sc
              have ikt : (k : Int) < (ts.length : Int) := by omega
              clear hf hcell hcell2
              go_wp2_with fail
              refine wp_region_held_drew (S := (Kept (fun _ => False) wr)) (by kernel_rfl) ((Kept.refl _ wr).drew) (fun hHeld => ?_)
              refine held_q (v := ?_) (i := 0) rfl (by kernel_rfl) (by kernel_rfl) (by kernel_rfl) (fun _ _ _ h => h) (by rfl) hHeld ?_ ?_
              rotate_left
              · (intro w' hS'; go_simp <;> (with_reducible rfl))
              simp only [Act.put, List.getElem_toArray, List.getElem_cons_zero, List.getElem_cons_succ, List.setIfInBounds_toArray, List.set_cons_zero, List.set_cons_succ]
              refine held_q (v := ?_) (i := 1) rfl (by kernel_rfl) (by kernel_rfl) (by kernel_rfl) (fun _ _ _ h => h) (by rfl) hHeld ?_ ?_
              rotate_left
              · (intro w' hS'; go_simp <;> (with_reducible rfl))
              simp only [Act.put, List.getElem_toArray, List.getElem_cons_zero, List.getElem_cons_succ, List.setIfInBounds_toArray, List.set_cons_zero, List.set_cons_succ]
              refine held_q (v := ?_) (i := 2) rfl (by kernel_rfl) (by kernel_rfl) (by kernel_rfl) (fun _ _ _ h => h) (by rfl) hHeld ?_ ?_
              rotate_left
              · (intro w' hS'; go_simp <;> (with_reducible rfl))
              simp only [Act.put, List.getElem_toArray, List.getElem_cons_zero, List.getElem_cons_succ, List.setIfInBounds_toArray, List.set_cons_zero, List.set_cons_succ]
              refine held_q (v := ?_) (i := 3) rfl (by kernel_rfl) (by kernel_rfl) (by kernel_rfl) (fun _ _ _ h => h) (by rfl) hHeld ?_ ?_
              rotate_left
              · (intro w' hS'; go_simp <;> (with_reducible rfl))
              simp only [Act.put, List.getElem_toArray, List.getElem_cons_zero, List.getElem_cons_succ, List.setIfInBounds_toArray, List.set_cons_zero, List.set_cons_succ]
              refine held_q (v := ?_) (i := 4) rfl (by kernel_rfl) (by kernel_rfl) (by kernel_rfl) (fun _ _ _ h => h) (by rfl) hHeld ?_ ?_
              rotate_left
              · (intro w' hS'; go_simp <;> (with_reducible rfl))
              simp only [Act.put, List.getElem_toArray, List.getElem_cons_zero, List.getElem_cons_succ, List.setIfInBounds_toArray, List.set_cons_zero, List.set_cons_succ]
              refine held_q (v := ?_) (i := 5) rfl (by kernel_rfl) (by kernel_rfl) (by kernel_rfl) (fun _ _ _ h => h) (by rfl) hHeld ?_ ?_
              rotate_left
              · (intro w' hS'; go_simp <;> (with_reducible rfl))
              simp only [Act.put, List.getElem_toArray, List.getElem_cons_zero, List.getElem_cons_succ, List.setIfInBounds_toArray, List.set_cons_zero, List.set_cons_succ]
              refine held_q (v := ?_) (i := 6) rfl (by kernel_rfl) (by kernel_rfl) (by kernel_rfl) (fun _ _ _ h => h) (by rfl) hHeld ?_ ?_
              rotate_left
              · (intro w' hS'; go_simp <;> (with_reducible rfl))
              simp only [Act.put, List.getElem_toArray, List.getElem_cons_zero, List.getElem_cons_succ, List.setIfInBounds_toArray, List.set_cons_zero, List.set_cons_succ]
              refine held_q (v := ?_) (i := 7) rfl (by kernel_rfl) (by kernel_rfl) (by kernel_rfl) (fun _ _ _ h => h) (by rfl) hHeld ?_ ?_
              rotate_left
              · (intro w' hS'; go_simp <;> (with_reducible rfl))
              simp only [Act.put, List.getElem_toArray, List.getElem_cons_zero, List.getElem_cons_succ, List.setIfInBounds_toArray, List.set_cons_zero, List.set_cons_succ]
              refine held_c (i := 8) (f := 10) (args := #[.slice aa l.length cc, .slice ab l.length cb]) (by kernel_rfl) rfl (by rfl) ?_ (sc _ hHeld) ?_
              · (go_simp <;> rfl)
              rintro e WE ⟨rfl, kq⟩
              have hHeld := hHeld.trans kq
              refine ⟨_, rfl, hHeld, ?_⟩
              simp only [Act.put, List.getElem_toArray, List.getElem_cons_zero, List.getElem_cons_succ, List.setIfInBounds_toArray, List.set_cons_zero, List.set_cons_succ]
              refine held_q (v := ?_) (i := 9) rfl (by kernel_rfl) (by kernel_rfl) (by kernel_rfl) (fun _ _ _ h => h) (by rfl) hHeld ?_ ?_
              rotate_left
              · (intro w' hS'; go_simp <;> (with_reducible rfl))
              simp only [Act.put, List.getElem_toArray, List.getElem_cons_zero, List.getElem_cons_succ, List.setIfInBounds_toArray, List.set_cons_zero, List.set_cons_succ]
              refine wpAnyH_done (by kernel_rfl) ?_ _
              go_wp2_with fail
              go_roundg (ts.length - (k + 1))
              case rel => exact ⟨k + 1, rfl, by omega, by go_num, hkw.trans hHeld, hkC.trans hHeld⟩
              case measure => omega
            · obtain rfl : k = ts.length := by omega
              have sc := rSame_ct (htC.kept hkC) (hs.kept hkw)
              rw [sameB_rfl] at sc
              go_wp2_with fail
              refine sc.mono ?_
              rintro e WF ⟨rfl, kf⟩
              clear sc
              go_wp2_with fail
              refine (known16_ct (hT.kept (hkw.trans kf))).mono ?_
              rintro e Wk ⟨rfl, kk⟩
              go_wp2_with fail
              go_ret
              exact ⟨rfl, (hkw.trans kf).trans kk⟩
        · skip
          go_wp2_with (first
            | (with_reducible refine wpl_load 25 _ rfl rfl ?_ ld4 ?_
               · rfl
               simp only [Act.put, List.getElem_toArray, List.getElem_cons_zero, List.getElem_cons_succ, List.setIfInBounds_toArray, List.set_cons_zero, List.set_cons_succ]))
          refine rc.mono ?_
          rintro e W5 ⟨hi2, k5⟩
          obtain rfl := insout_none hi2 hok hn
          have K5 := K4.trans k5
          have ac := action_ct (hT.kept K5) (h.kept K5) (ht3.kept ((K3r.trans k4).trans k5)) (hot.kept (k4.trans k5))
          have ld5 := ldB W5 ((K1r.trans k4).trans k5)
          unfold tgtC at ac
          clear rc ld4
          go_wp2_with (first
            | (with_reducible refine wpl_load 25 _ rfl rfl ?_ ld5 ?_
               · rfl
               simp only [Act.put, List.getElem_toArray, List.getElem_cons_zero, List.getElem_cons_succ, List.setIfInBounds_toArray, List.set_cons_zero, List.set_cons_succ]))
          refine ac.mono ?_
          rintro e W6 ⟨ha, k6⟩
          obtain rfl := actout_none ha hok hn
          have K6 := K5.trans k6
          have za := zero_a W6
          have st := store_new (P := Tryd.prog) (ty := 39) (c := #[.slice none 0 0, .slice none 0 0, .int .i64 0]) (c' := #[.slice none 0 0, .slice none 0 0, .int .i64 0]) (by kernel_rfl) rfl (by simp [Value.oneCell']) (w := W6) (b := W6.heap.size) rfl
          clear ac ld5 ha hi2
          unfold actC
          go_upto_region 13 with (first
            | (with_reducible refine wpl_alloc 39 rfl rfl za ?_
               simp only [World.size_alloc, Act.put, List.getElem_toArray, List.getElem_cons_zero, List.getElem_cons_succ, List.setIfInBounds_toArray, List.set_cons_zero, List.set_cons_succ])
            | (with_reducible refine wpl_store 39 _ _ rfl rfl ?_ ?_ st ?_
               · rfl
               · rfl
               simp only [Act.put, List.getElem_toArray, List.getElem_cons_zero, List.getElem_cons_succ, List.setIfInBounds_toArray, List.set_cons_zero, List.set_cons_succ]))
          have k7 : Kept (fun _ => False) W6 (W6.alloc (.cells #[.slice none 0 0, .slice none 0 0, .int .i64 0] 39)) := (Kept.refl _ W6).alloc _
          have hP7 := heap_last W6 (.cells #[.slice none 0 0, .slice none 0 0, .int .i64 0] 39)
          clear st za
          generalize W6.alloc (.cells #[.slice none 0 0, .slice none 0 0, .int .i64 0] 39) = W7 at k7 hP7 ⊢
          generalize W6.heap.size = G at hP7 ⊢
          have K7 := K6.trans k7
          have K47 := ((k4.trans k5).trans k6).trans k7
          have hzP := (Array.getElem?_eq_some_iff.1 hP7).1
          have ldP : ∀ w', Kept (fun _ => False) W7 w' → (Instr.loadAt 39 (.pointer (some ⟨G, 0, none⟩))).run Tryd.prog w' = .ok (.agg #[.slice none 0 0, .slice none 0 0, .int .i64 0]) w' := fun w' q => load_row Tryd.underlying39 rfl (by rw [q.block _ hzP not_false]; exact hP7) (by kernel_rfl)
          have sc := rSame_ct (TreeAt.nil W7 0) (TreeAt.nil W7 0)
          rw [sameB_rfl] at sc
          go_wp2_with fail
          refine sc.mono ?_
          rintro e W8 ⟨rfl, k8⟩
          clear sc
          have ld8 := ldP W8 k8
          have r16 := rsame16_ct (f := 0) (g := 0) (nilP W8) (nilP W8) (TreeAt.nil W8 0) (TreeAt.nil W8 0)
          rw [sameP_rfl, sameB_rfl] at r16
          unfold actC at r16
          go_wp2_with (first
            | (with_reducible refine wpl_load_g 39 _ ?_ rfl ?_ ld8 ?_
               · rfl
               · rfl
               simp only [Act.put, List.getElem_toArray, List.getElem_cons_zero, List.getElem_cons_succ, List.setIfInBounds_toArray, List.set_cons_zero, List.set_cons_succ]))
          refine r16.mono ?_
          rintro e W9 ⟨rfl, k9⟩
          have K9 := K7.trans (k8.trans k9)
          have k79 := k8.trans k9
          clear r16 ld8
          have k19 := ((K1r.trans K47).trans k79)
          have cB3 : ∀ w', Kept (fun _ => False) W9 w' → w'.cell? ⟨B, 3, none⟩ = some (.slice a2 x.prog.length c2) := fun w' z => by rw [cell_of_row _ _ _ _ _ _ (hbW w' (k19.trans z))]; rfl
          have cB2 : ∀ w', Kept (fun _ => False) W9 w' → w'.cell? ⟨B, 2, none⟩ = some (.int .i64 x.fuel) := fun w' z => by rw [cell_of_row _ _ _ _ _ _ (hbW w' (k19.trans z))]; rfl
          have p1 := fun w' => plsame_ct (f := 0) (g := 0) (nilP w') (nilP w') (TreeAt.nil w' 0) (TreeAt.nil w' 0) (by simp)
          have p2 := fun w' (z : Kept (fun _ => False) W9 w') => plsame_ct (f := 0) (g := x.fuel) (nilP w') (h.prog.kept (K9.trans z)) (TreeAt.nil w' 0) (hs.kept (K9.trans z)) (by simp)
          have p3 := fun w' (z : Kept (fun _ => False) W9 w') => rsame16_ct (f := 0) (g := x.fuel) (nilP w') (h.prog.kept (K9.trans z)) (TreeAt.nil w' 0) (hs.kept (K9.trans z))
          have bd := fun w' => bd_a a2 a3 x.prog.length c2 ls.length c3 x.fuel w'
          simp only [sameP_rfl, sameB_rfl] at p1
          unfold actC at p1 p2 p3
          generalize (sameP [] x.prog && sameB [] ls && (0 == x.fuel)) = Q at p2 p3
          go_wp2_with fail
          refine wp_region_held_drew (S := (Kept (fun _ => False) W9)) (by kernel_rfl) ((Kept.refl _ W9).drew) (fun hHeld => ?_)
          refine held_q (i := 0) rfl (by kernel_rfl) (by kernel_rfl) (by kernel_rfl) (fun _ _ _ h => h) (by rfl) hHeld (fun w' hS' => exec_load 39 _ rfl rfl (ldP w' (k79.trans hS'))) ?_
          simp only [Act.put, List.getElem_toArray, List.getElem_cons_zero, List.getElem_cons_succ, List.setIfInBounds_toArray, List.set_cons_zero, List.set_cons_succ]
          refine held_q (i := 1) rfl (by kernel_rfl) (by kernel_rfl) (by kernel_rfl) (fun _ _ _ h => h) (by rfl) hHeld (fun w' hS' => exec_load 39 _ rfl rfl (ldP w' (k79.trans hS'))) ?_
          simp only [Act.put, List.getElem_toArray, List.getElem_cons_zero, List.getElem_cons_succ, List.setIfInBounds_toArray, List.set_cons_zero, List.set_cons_succ]
          refine held_c (i := 2) (f := 16) (args := #[.agg #[.slice none 0 0, .slice none 0 0, .int .i64 0], .agg #[.slice none 0 0, .slice none 0 0, .int .i64 0]]) (by kernel_rfl) rfl (by rfl) ?_ (p1 _) ?_
          · (go_simp <;> rfl)
          rintro e WA ⟨rfl, kq⟩
          have hHeld := hHeld.trans kq
          refine ⟨_, rfl, hHeld, ?_⟩
          simp only [Act.put, List.getElem_toArray, List.getElem_cons_zero, List.getElem_cons_succ, List.setIfInBounds_toArray, List.set_cons_zero, List.set_cons_succ]
          refine held_q (v := ?_) (i := 3) rfl (by kernel_rfl) (by kernel_rfl) (by kernel_rfl) (fun _ _ _ h => h) (by rfl) hHeld ?_ ?_
          rotate_left
          · (intro w' hS'; go_simp <;> (with_reducible rfl))
          simp only [Act.put, List.getElem_toArray, List.getElem_cons_zero, List.getElem_cons_succ, List.setIfInBounds_toArray, List.set_cons_zero, List.set_cons_succ]
          refine held_q (v := ?_) (i := 4) rfl (by kernel_rfl) (by kernel_rfl) (by kernel_rfl) (fun _ _ _ h => h) (by rfl) hHeld ?_ ?_
          rotate_left
          · (intro w' hS'; go_simp <;> (with_reducible rfl))
          simp only [Act.put, List.getElem_toArray, List.getElem_cons_zero, List.getElem_cons_succ, List.setIfInBounds_toArray, List.set_cons_zero, List.set_cons_succ]
          refine held_q (i := 5) rfl (by kernel_rfl) (by kernel_rfl) (by kernel_rfl) (fun _ _ _ h => h) (by rfl) hHeld (fun w' hS' => exec_load 39 _ rfl rfl (ldP w' (k79.trans hS'))) ?_
          simp only [Act.put, List.getElem_toArray, List.getElem_cons_zero, List.getElem_cons_succ, List.setIfInBounds_toArray, List.set_cons_zero, List.set_cons_succ]
          refine held_q (v := ?_) (i := 6) rfl (by kernel_rfl) (by kernel_rfl) (by kernel_rfl) (fun _ _ _ h => h) (by rfl) hHeld ?_ ?_
          rotate_left
          · (intro w' hS'; go_simp <;> (with_reducible rfl))
          simp only [Act.put, List.getElem_toArray, List.getElem_cons_zero, List.getElem_cons_succ, List.setIfInBounds_toArray, List.set_cons_zero, List.set_cons_succ]
          refine held_q (v := ?_) (i := 7) rfl (by kernel_rfl) (by kernel_rfl) (by kernel_rfl) (fun _ _ _ h => h) (by rfl) hHeld ?_ ?_
          rotate_left
          · (intro w' hS'; go_simp <;> (with_reducible rfl))
          simp only [Act.put, List.getElem_toArray, List.getElem_cons_zero, List.getElem_cons_succ, List.setIfInBounds_toArray, List.set_cons_zero, List.set_cons_succ]
          refine held_q (v := ?_) (i := 8) rfl (by kernel_rfl) (by kernel_rfl) (by kernel_rfl) (fun _ _ _ h => h) (by rfl) hHeld ?_ ?_
          rotate_left
          · (intro w' hS'; go_simp <;> (with_reducible rfl))
          simp only [Act.put, List.getElem_toArray, List.getElem_cons_zero, List.getElem_cons_succ, List.setIfInBounds_toArray, List.set_cons_zero, List.set_cons_succ]
          refine held_q (v := ?_) (i := 9) rfl (by kernel_rfl) (by kernel_rfl) (by kernel_rfl) (fun _ _ _ h => h) (by rfl) hHeld ?_ ?_
          rotate_left
          · (intro w' hS'; go_simp <;> (with_reducible rfl))
          simp only [Act.put, List.getElem_toArray, List.getElem_cons_zero, List.getElem_cons_succ, List.setIfInBounds_toArray, List.set_cons_zero, List.set_cons_succ]
          refine held_q (v := ?_) (i := 10) rfl (by kernel_rfl) (by kernel_rfl) (by kernel_rfl) (fun _ _ _ h => h) (by rfl) hHeld ?_ ?_
          rotate_left
          · (intro w' hS'; go_simp <;> (with_reducible rfl))
          simp only [Act.put, List.getElem_toArray, List.getElem_cons_zero, List.getElem_cons_succ, List.setIfInBounds_toArray, List.set_cons_zero, List.set_cons_succ]
          refine held_q (i := 11) rfl (by kernel_rfl) (by kernel_rfl) (by kernel_rfl) (fun _ _ _ h => h) (by rfl) hHeld (fun w' hS' => exec_build 39 _ rfl (by go_simp <;> rfl) (bd w')) ?_
          simp only [Act.put, List.getElem_toArray, List.getElem_cons_zero, List.getElem_cons_succ, List.setIfInBounds_toArray, List.set_cons_zero, List.set_cons_succ]
          refine held_q (i := 13) rfl (by kernel_rfl) (by kernel_rfl) (by kernel_rfl) (fun _ _ _ h => h) (by rfl) hHeld (fun w' hS' => exec_load 39 _ rfl rfl (ldP w' (k79.trans hS'))) ?_
          simp only [Act.put, List.getElem_toArray, List.getElem_cons_zero, List.getElem_cons_succ, List.setIfInBounds_toArray, List.set_cons_zero, List.set_cons_succ]
          refine held_q (v := ?_) (i := 14) rfl (by kernel_rfl) (by kernel_rfl) (by kernel_rfl) (fun _ _ _ h => h) (by rfl) hHeld ?_ ?_
          rotate_left
          · (intro w' hS'; go_simp <;> (with_reducible rfl))
          simp only [Act.put, List.getElem_toArray, List.getElem_cons_zero, List.getElem_cons_succ, List.setIfInBounds_toArray, List.set_cons_zero, List.set_cons_succ]
          refine held_q (v := ?_) (i := 15) rfl (by kernel_rfl) (by kernel_rfl) (by kernel_rfl) (fun _ _ _ h => h) (by rfl) hHeld ?_ ?_
          rotate_left
          · (intro w' hS'; go_simp <;> (with_reducible rfl))
          simp only [Act.put, List.getElem_toArray, List.getElem_cons_zero, List.getElem_cons_succ, List.setIfInBounds_toArray, List.set_cons_zero, List.set_cons_succ]
          refine held_q (v := ?_) (i := 16) rfl (by kernel_rfl) (by kernel_rfl) (by kernel_rfl) (fun _ _ _ h => h) (by rfl) hHeld ?_ ?_
          rotate_left
          · (intro w' hS'; go_simp <;> (with_reducible rfl))
          simp only [Act.put, List.getElem_toArray, List.getElem_cons_zero, List.getElem_cons_succ, List.setIfInBounds_toArray, List.set_cons_zero, List.set_cons_succ]
          refine held_q (v := ?_) (i := 17) rfl (by kernel_rfl) (by kernel_rfl) (by kernel_rfl) (fun _ _ _ h => h) (by rfl) hHeld ?_ ?_
          rotate_left
          · (intro w' hS'; go_simp <;> (with_reducible rfl))
          simp only [Act.put, List.getElem_toArray, List.getElem_cons_zero, List.getElem_cons_succ, List.setIfInBounds_toArray, List.set_cons_zero, List.set_cons_succ]
          refine held_q (v := ?_) (i := 18) rfl (by kernel_rfl) (by kernel_rfl) (by kernel_rfl) (fun _ _ _ h => h) (by rfl) hHeld ?_ ?_
          rotate_left
          · (intro w' hS'; go_simp <;> (with_reducible rfl))
          simp only [Act.put, List.getElem_toArray, List.getElem_cons_zero, List.getElem_cons_succ, List.setIfInBounds_toArray, List.set_cons_zero, List.set_cons_succ]
          refine held_q (i := 19) rfl (by kernel_rfl) (by kernel_rfl) (by kernel_rfl) (fun _ _ _ h => h) (by rfl) hHeld (fun w' hS' => exec_build 39 _ rfl (by go_simp <;> rfl) (bd w')) ?_
          simp only [Act.put, List.getElem_toArray, List.getElem_cons_zero, List.getElem_cons_succ, List.setIfInBounds_toArray, List.set_cons_zero, List.set_cons_succ]
          refine held_c (i := 12) (f := 16) (args := #[.agg #[.slice none 0 0, .slice none 0 0, .int .i64 0], .agg #[.slice a2 x.prog.length c2, .slice a3 ls.length c3, .int .i64 x.fuel]]) (by kernel_rfl) rfl (by rfl) ?_ (p2 _ hHeld) ?_
          · (go_simp <;> rfl)
          rintro e WB ⟨rfl, kq⟩
          have hHeld := hHeld.trans kq
          refine ⟨_, rfl, hHeld, ?_⟩
          simp only [Act.put, List.getElem_toArray, List.getElem_cons_zero, List.getElem_cons_succ, List.setIfInBounds_toArray, List.set_cons_zero, List.set_cons_succ]
          refine held_c (i := 20) (f := 15) (args := #[.agg #[.slice none 0 0, .slice none 0 0, .int .i64 0], .agg #[.slice a2 x.prog.length c2, .slice a3 ls.length c3, .int .i64 x.fuel]]) (by kernel_rfl) rfl (by rfl) ?_ (p3 _ hHeld) ?_
          · (go_simp <;> rfl)
          rintro e WC ⟨rfl, kq⟩
          have hHeld := hHeld.trans kq
          refine ⟨_, rfl, hHeld, ?_⟩
          simp only [Act.put, List.getElem_toArray, List.getElem_cons_zero, List.getElem_cons_succ, List.setIfInBounds_toArray, List.set_cons_zero, List.set_cons_succ]
          refine held_q (v := ?_) (i := 21) rfl (by kernel_rfl) (by kernel_rfl) (by kernel_rfl) (fun _ _ _ h => h) (by rfl) hHeld ?_ ?_
          rotate_left
          · (intro w' hS'; go_simp <;> (with_reducible rfl))
          simp only [Act.put, List.getElem_toArray, List.getElem_cons_zero, List.getElem_cons_succ, List.setIfInBounds_toArray, List.set_cons_zero, List.set_cons_succ]
          refine held_q (v := ?_) (i := 22) rfl (by kernel_rfl) (by kernel_rfl) (by kernel_rfl) (fun _ _ _ h => h) (by rfl) hHeld ?_ ?_
          rotate_left
          · (intro w' hS'; go_simp <;> (with_reducible rfl))
          simp only [Act.put, List.getElem_toArray, List.getElem_cons_zero, List.getElem_cons_succ, List.setIfInBounds_toArray, List.set_cons_zero, List.set_cons_succ]
          refine wpAnyH_done (by kernel_rfl) ?_ _
          have KC := K9.trans hHeld
          have k7C := k79.trans hHeld
          have cP0 : WC.cell? ⟨G, 0, none⟩ = some (.slice none 0 0) := by rw [cell_of_row _ _ _ _ _ _ (show WC.heap[G]? = some (.cells #[.slice none 0 0, .slice none 0 0, .int .i64 0] 39 (0, 0)) by rw [k7C.block _ hzP not_false]; exact hP7)]; rfl
          have hotC := hot.kept (K47.trans k7C)
          have htC := ht3.kept (K3r.trans (K47.trans k7C))
          clear p1 p2 p3 bd cB2 cB3 ldP
          go_wp2_with fail
          refine wp_loop_rounds 1 ?_
          rw [rounds_succ]
          go_wp2_with fail
          refine wp_loop_rounds 1 ?_
          rw [rounds_succ]
          go_wp2_with fail
          go_loopg [177] ts.length (fun gk s177 wq => ∃ k : Nat, gk = ts.length - k ∧ k ≤ ts.length ∧ s177 = .int .i64 k ∧ Kept (fun _ => False) w wq ∧ Kept (fun _ => False) WC wq)
          case atStart => exact ⟨0, by omega, by omega, rfl, KC, Kept.refl _ _⟩
          case round =>
            obtain ⟨k, rfl, hk, rfl, hkw, hkC⟩ := hrel
            by_cases hlt : k < ts.length
            · have hf : ts[k]? = some ts[k] := List.getElem?_eq_getElem hlt
              generalize ts[k] = l at hf
              obtain ⟨b, o, v, hae, hb, hcell, ht⟩ := hotC.elem hf
              obtain ⟨b2, o2, v2, hae2, hb2, hcell2, ht2⟩ := ho.elem hf
              obtain ⟨aa, cc, rfl⟩ := ht.slc
              obtain ⟨ab, cb, rfl⟩ := ht2.slc
              subst hae
              subst hae2
              have cT1 : ∀ w', Kept (fun _ => False) wr w' → w'.cell? ⟨b, o + k, none⟩ = some (.slice aa l.length cc) := fun w' z => by rw [(hkC.trans z).cell (p := ⟨b, o + k, none⟩) hb not_false]; exact hcell
              have cT2 : ∀ w', Kept (fun _ => False) wr w' → w'.cell? ⟨b2, o2 + k, none⟩ = some (.slice ab l.length cb) := fun w' z => by rw [(hkw.trans z).cell (p := ⟨b2, o2 + k, none⟩) hb2 not_false]; exact hcell2
              have sc := fun w' (z : Kept (fun _ => False) wr w') => rSame_ct (ht.kept (hkC.trans z)) (ht2.kept (hkw.trans z))
              simp only [sameB_rfl] at sc
              have ikt : (k : Int) < (ts.length : Int) := by omega
              clear hf hcell hcell2
              go_wp2_with fail
              refine wp_region_held_drew (S := (Kept (fun _ => False) wr)) (by kernel_rfl) ((Kept.refl _ wr).drew) (fun hHeld => ?_)
              refine held_q (v := ?_) (i := 0) rfl (by kernel_rfl) (by kernel_rfl) (by kernel_rfl) (fun _ _ _ h => h) (by rfl) hHeld ?_ ?_
              rotate_left
              · (intro w' hS'; go_simp <;> (with_reducible rfl))
              simp only [Act.put, List.getElem_toArray, List.getElem_cons_zero, List.getElem_cons_succ, List.setIfInBounds_toArray, List.set_cons_zero, List.set_cons_succ]
              refine held_q (v := ?_) (i := 1) rfl (by kernel_rfl) (by kernel_rfl) (by kernel_rfl) (fun _ _ _ h => h) (by rfl) hHeld ?_ ?_
              rotate_left
              · (intro w' hS'; go_simp <;> (with_reducible rfl))
              simp only [Act.put, List.getElem_toArray, List.getElem_cons_zero, List.getElem_cons_succ, List.setIfInBounds_toArray, List.set_cons_zero, List.set_cons_succ]
              refine held_q (v := ?_) (i := 2) rfl (by kernel_rfl) (by kernel_rfl) (by kernel_rfl) (fun _ _ _ h => h) (by rfl) hHeld ?_ ?_
              rotate_left
              · (intro w' hS'; go_simp <;> (with_reducible rfl))
              simp only [Act.put, List.getElem_toArray, List.getElem_cons_zero, List.getElem_cons_succ, List.setIfInBounds_toArray, List.set_cons_zero, List.set_cons_succ]
              refine held_q (v := ?_) (i := 3) rfl (by kernel_rfl) (by kernel_rfl) (by kernel_rfl) (fun _ _ _ h => h) (by rfl) hHeld ?_ ?_
              rotate_left
              · (intro w' hS'; go_simp <;> (with_reducible rfl))
              simp only [Act.put, List.getElem_toArray, List.getElem_cons_zero, List.getElem_cons_succ, List.setIfInBounds_toArray, List.set_cons_zero, List.set_cons_succ]
              refine held_q (v := ?_) (i := 4) rfl (by kernel_rfl) (by kernel_rfl) (by kernel_rfl) (fun _ _ _ h => h) (by rfl) hHeld ?_ ?_
              rotate_left
              · (intro w' hS'; go_simp <;> (with_reducible rfl))
              simp only [Act.put, List.getElem_toArray, List.getElem_cons_zero, List.getElem_cons_succ, List.setIfInBounds_toArray, List.set_cons_zero, List.set_cons_succ]
              refine held_q (v := ?_) (i := 5) rfl (by kernel_rfl) (by kernel_rfl) (by kernel_rfl) (fun _ _ _ h => h) (by rfl) hHeld ?_ ?_
              rotate_left
              · (intro w' hS'; go_simp <;> (with_reducible rfl))
              simp only [Act.put, List.getElem_toArray, List.getElem_cons_zero, List.getElem_cons_succ, List.setIfInBounds_toArray, List.set_cons_zero, List.set_cons_succ]
              refine held_q (v := ?_) (i := 6) rfl (by kernel_rfl) (by kernel_rfl) (by kernel_rfl) (fun _ _ _ h => h) (by rfl) hHeld ?_ ?_
              rotate_left
              · (intro w' hS'; go_simp <;> (with_reducible rfl))
              simp only [Act.put, List.getElem_toArray, List.getElem_cons_zero, List.getElem_cons_succ, List.setIfInBounds_toArray, List.set_cons_zero, List.set_cons_succ]
              refine held_q (v := ?_) (i := 7) rfl (by kernel_rfl) (by kernel_rfl) (by kernel_rfl) (fun _ _ _ h => h) (by rfl) hHeld ?_ ?_
              rotate_left
              · (intro w' hS'; go_simp <;> (with_reducible rfl))
              simp only [Act.put, List.getElem_toArray, List.getElem_cons_zero, List.getElem_cons_succ, List.setIfInBounds_toArray, List.set_cons_zero, List.set_cons_succ]
              refine held_c (i := 8) (f := 10) (args := #[.slice aa l.length cc, .slice ab l.length cb]) (by kernel_rfl) rfl (by rfl) ?_ (sc _ hHeld) ?_
              · (go_simp <;> rfl)
              rintro e WE ⟨rfl, kq⟩
              have hHeld := hHeld.trans kq
              refine ⟨_, rfl, hHeld, ?_⟩
              simp only [Act.put, List.getElem_toArray, List.getElem_cons_zero, List.getElem_cons_succ, List.setIfInBounds_toArray, List.set_cons_zero, List.set_cons_succ]
              refine held_q (v := ?_) (i := 9) rfl (by kernel_rfl) (by kernel_rfl) (by kernel_rfl) (fun _ _ _ h => h) (by rfl) hHeld ?_ ?_
              rotate_left
              · (intro w' hS'; go_simp <;> (with_reducible rfl))
              simp only [Act.put, List.getElem_toArray, List.getElem_cons_zero, List.getElem_cons_succ, List.setIfInBounds_toArray, List.set_cons_zero, List.set_cons_succ]
              refine wpAnyH_done (by kernel_rfl) ?_ _
              go_wp2_with fail
              go_roundg (ts.length - (k + 1))
              case rel => exact ⟨k + 1, rfl, by omega, by go_num, hkw.trans hHeld, hkC.trans hHeld⟩
              case measure => omega
            · obtain rfl : k = ts.length := by omega
              have sc := rSame_ct (htC.kept hkC) (hs.kept hkw)
              rw [sameB_rfl] at sc
              go_wp2_with fail
              refine sc.mono ?_
              rintro e WF ⟨rfl, kf⟩
              clear sc
              go_wp2_with fail
              refine (known16_ct (hT.kept (hkw.trans kf))).mono ?_
              rintro e Wk ⟨rfl, kk⟩
              go_wp2_with fail
              go_ret
              exact ⟨rfl, (hkw.trans kf).trans kk⟩
        · skip
          obtain ⟨a10, c10, hv4⟩ := hto.slc
          subst hv4
          have hol : o.length ≤ 16 := (mayIs ((insO_iff (okI_deps hok).1).1 hio).1).len
          obtain ⟨D, hDe⟩ : ∃ D, D = wr.heap.size := ⟨_, rfl⟩
          rw [← hDe] at hoo
          have hDa : D ≤ wr.heap.size := by omega
          have hDb : wr.heap.size ≤ D := by omega
          clear hDe
          go_wp2_with (first
            | (with_reducible refine wpl_load 25 _ rfl rfl ?_ ld4 ?_
               · rfl
               simp only [Act.put, List.getElem_toArray, List.getElem_cons_zero, List.getElem_cons_succ, List.setIfInBounds_toArray, List.set_cons_zero, List.set_cons_succ]))
          refine rc.mono ?_
          rintro e W5 ⟨hi2, k5⟩
          obtain ⟨v5, rfl, ht5⟩ := insout_some hi2 hok hio
          obtain ⟨a11, c11, hv5⟩ := ht5.slc
          subst hv5
          have K5 := K4.trans k5
          have ac := action_ct (hT.kept K5) (h.kept K5) (ht3.kept ((K3r.trans k4).trans k5)) (hot.kept (k4.trans k5))
          have ld5 := ldB W5 ((K1r.trans k4).trans k5)
          have hD5 : D ≤ W5.heap.size := Nat.le_trans hDa (k4.trans k5).size
          unfold tgtC at ac
          clear rc ld4
          go_wp2_with (first
            | (with_reducible refine wpl_load 25 _ rfl rfl ?_ ld5 ?_
               · rfl
               simp only [Act.put, List.getElem_toArray, List.getElem_cons_zero, List.getElem_cons_succ, List.setIfInBounds_toArray, List.set_cons_zero, List.set_cons_succ]))
          refine ac.mono ?_
          rintro e W6 ⟨ha, k6⟩
          obtain ⟨vp, vt, rfl, hpo, hta⟩ := actout_some ha hok hio
          obtain ⟨a12, c12, hvt⟩ := hta.slc
          subst hvt
          have K6 := K5.trans k6
          have hpm : x.prog.length ≤ maxLen := by obtain ⟨_, _, _, _, q⟩ := h.prog.slc; exact q
          have hpn := hpo.ns.low hD5
          have hpa := hpo.at hpm
          obtain ⟨a13, c13, hvp, _, _⟩ := hpa.slc
          subst hvp
          have za := zero_a W6
          have st := store_new (P := Tryd.prog) (ty := 39) (c := #[.slice none 0 0, .slice none 0 0, .int .i64 0]) (c' := #[.slice a13 x.prog.length c13, .slice a12 o.length c12, .int .i64 x.fuel]) (by kernel_rfl) rfl (by simp [Value.oneCell']) (w := W6) (b := W6.heap.size) rfl
          clear ac ld5 ha hi2 hpo
          unfold actC
          go_upto_region 13 with (first
            | (with_reducible refine wpl_alloc 39 rfl rfl za ?_
               simp only [World.size_alloc, Act.put, List.getElem_toArray, List.getElem_cons_zero, List.getElem_cons_succ, List.setIfInBounds_toArray, List.set_cons_zero, List.set_cons_succ])
            | (with_reducible refine wpl_store 39 _ _ rfl rfl ?_ ?_ st ?_
               · rfl
               · rfl
               simp only [Act.put, List.getElem_toArray, List.getElem_cons_zero, List.getElem_cons_succ, List.setIfInBounds_toArray, List.set_cons_zero, List.set_cons_succ]))
          have k7 : Kept (fun _ => False) W6 (W6.alloc (.cells #[.slice a13 x.prog.length c13, .slice a12 o.length c12, .int .i64 x.fuel] 39)) := (Kept.refl _ W6).alloc _
          have hP7 := heap_last W6 (.cells #[.slice a13 x.prog.length c13, .slice a12 o.length c12, .int .i64 x.fuel] 39)
          clear st za
          generalize W6.alloc (.cells #[.slice a13 x.prog.length c13, .slice a12 o.length c12, .int .i64 x.fuel] 39) = W7 at k7 hP7 ⊢
          generalize W6.heap.size = G at hP7 ⊢
          have K7 := K6.trans k7
          have K47 := ((k4.trans k5).trans k6).trans k7
          have hzP := (Array.getElem?_eq_some_iff.1 hP7).1
          have hgW : ∀ w', Kept (fun _ => False) W7 w' → w'.heap[G]? = some (.cells #[.slice a13 x.prog.length c13, .slice a12 o.length c12, .int .i64 x.fuel] 39 (0, 0)) := fun w' q => by rw [q.block _ hzP not_false]; exact hP7
          have ldP : ∀ w', Kept (fun _ => False) W7 w' → (Instr.loadAt 39 (.pointer (some ⟨G, 0, none⟩))).run Tryd.prog w' = .ok (.agg #[.slice a13 x.prog.length c13, .slice a12 o.length c12, .int .i64 x.fuel]) w' := fun w' q => load_row Tryd.underlying39 rfl (hgW w' q) (by kernel_rfl)
          have hto7 := hto.kept ((k5.trans k6).trans k7)
          have hoo7 := hoo.kept ((k5.trans k6).trans k7)
          have ht57 := ht5.kept (k6.trans k7)
          have hta7 := hta.kept k7
          have hpa7 := hpa.kept k7
          have hpn7 := Lib.hid (hpn.kept k7)
          clear hpn hto hoo ht5 hta hpa
          have sc := rSame_ct hto7 ht57
          rw [sameB_rfl] at sc
          go_wp2_with fail
          refine sc.mono ?_
          rintro e W8 ⟨rfl, k8⟩
          clear sc
          have k18 := (K1r.trans K47).trans k8
          have cG1 : W8.cell? ⟨G, 1, none⟩ = some (.slice a12 o.length c12) := by rw [cell_of_row _ _ _ _ _ _ (hgW _ k8)]; rfl
          have sc := rSame_ct (hta7.kept k8) (ht57.kept k8)
          rw [sameB_rfl] at sc
          go_wp2_with fail
          refine sc.mono ?_
          rintro e W9 ⟨rfl, k9⟩
          clear sc cG1
          have k79 := k8.trans k9
          have k19 := k18.trans k9
          have cG0 : W9.cell? ⟨G, 0, none⟩ = some (.slice a13 x.prog.length c13) := by rw [cell_of_row _ _ _ _ _ _ (hgW _ k79)]; rfl
          have cB3 : W9.cell? ⟨B, 3, none⟩ = some (.slice a2 x.prog.length c2) := by rw [cell_of_row _ _ _ _ _ _ (hbW W9 k19)]; rfl
          have sc := rsameP_ct (hpa7.kept k79) (h.prog.kept (K7.trans k79))
          rw [sameP_rfl] at sc
          go_wp2_with fail
          refine sc.mono ?_
          rintro e WT ⟨rfl, kT⟩
          clear sc cG0 cB3
          have k7T := k79.trans kT
          have k1T := k19.trans kT
          have KT := K7.trans k7T
          have cG2 : WT.cell? ⟨G, 2, none⟩ = some (.int .i64 x.fuel) := by rw [cell_of_row _ _ _ _ _ _ (hgW _ k7T)]; rfl
          have cB2t : WT.cell? ⟨B, 2, none⟩ = some (.int .i64 x.fuel) := by rw [cell_of_row _ _ _ _ _ _ (hbW WT k1T)]; rfl
          go_upto_region 17 with fail
          clear cG2 cB2t
          have cB3 : ∀ w', Kept (fun _ => False) WT w' → w'.cell? ⟨B, 3, none⟩ = some (.slice a2 x.prog.length c2) := fun w' z => by rw [cell_of_row _ _ _ _ _ _ (hbW w' (k1T.trans z))]; rfl
          have cB2 : ∀ w', Kept (fun _ => False) WT w' → w'.cell? ⟨B, 2, none⟩ = some (.int .i64 x.fuel) := fun w' z => by rw [cell_of_row _ _ _ _ _ _ (hbW w' (k1T.trans z))]; rfl
          have hol2 : o.length ≤ 100000 := by omega
          have p1 := fun w' (z : Kept (fun _ => False) WT w') => plsame_ct (f := x.fuel) (g := x.fuel) (hpa7.kept (k7T.trans z)) (hpa7.kept (k7T.trans z)) (hta7.kept (k7T.trans z)) (hta7.kept (k7T.trans z)) hol2
          have p2 := fun w' (z : Kept (fun _ => False) WT w') => plsame_ct (f := x.fuel) (g := x.fuel) (hpa7.kept (k7T.trans z)) (h.prog.kept (KT.trans z)) (hta7.kept (k7T.trans z)) (hs.kept (KT.trans z)) hol2
          have p3 := fun w' (z : Kept (fun _ => False) WT w') => rsame16_ct (f := x.fuel) (g := x.fuel) (hpa7.kept (k7T.trans z)) (h.prog.kept (KT.trans z)) (hta7.kept (k7T.trans z)) (hs.kept (KT.trans z))
          have bd := fun w' => bd_a a2 a3 x.prog.length c2 ls.length c3 x.fuel w'
          simp only [sameP_rfl, sameB_rfl, beq_self_eq_true, Bool.and_self] at p1
          unfold actC at p1 p2 p3
          generalize (sameP x.prog x.prog && sameB o ls && (x.fuel == x.fuel)) = Q at p2 p3
          refine wp_region_held_drew (S := (Kept (fun _ => False) WT)) (by kernel_rfl) ((Kept.refl _ WT).drew) (fun hHeld => ?_)
          refine held_q (i := 0) rfl (by kernel_rfl) (by kernel_rfl) (by kernel_rfl) (fun _ _ _ h => h) (by rfl) hHeld (fun w' hS' => exec_load 39 _ rfl rfl (ldP w' (k7T.trans hS'))) ?_
          simp only [Act.put, List.getElem_toArray, List.getElem_cons_zero, List.getElem_cons_succ, List.setIfInBounds_toArray, List.set_cons_zero, List.set_cons_succ]
          refine held_q (i := 1) rfl (by kernel_rfl) (by kernel_rfl) (by kernel_rfl) (fun _ _ _ h => h) (by rfl) hHeld (fun w' hS' => exec_load 39 _ rfl rfl (ldP w' (k7T.trans hS'))) ?_
          simp only [Act.put, List.getElem_toArray, List.getElem_cons_zero, List.getElem_cons_succ, List.setIfInBounds_toArray, List.set_cons_zero, List.set_cons_succ]
          refine held_c (i := 2) (f := 16) (args := #[.agg #[.slice a13 x.prog.length c13, .slice a12 o.length c12, .int .i64 x.fuel], .agg #[.slice a13 x.prog.length c13, .slice a12 o.length c12, .int .i64 x.fuel]]) (by kernel_rfl) rfl (by rfl) ?_ (p1 _ hHeld) ?_
          · (go_simp <;> rfl)
          rintro e WA ⟨rfl, kq⟩
          have hHeld := hHeld.trans kq
          refine ⟨_, rfl, hHeld, ?_⟩
          simp only [Act.put, List.getElem_toArray, List.getElem_cons_zero, List.getElem_cons_succ, List.setIfInBounds_toArray, List.set_cons_zero, List.set_cons_succ]
          refine held_q (v := ?_) (i := 3) rfl (by kernel_rfl) (by kernel_rfl) (by kernel_rfl) (fun _ _ _ h => h) (by rfl) hHeld ?_ ?_
          rotate_left
          · (intro w' hS'; go_simp <;> (with_reducible rfl))
          simp only [Act.put, List.getElem_toArray, List.getElem_cons_zero, List.getElem_cons_succ, List.setIfInBounds_toArray, List.set_cons_zero, List.set_cons_succ]
          refine held_q (v := ?_) (i := 4) rfl (by kernel_rfl) (by kernel_rfl) (by kernel_rfl) (fun _ _ _ h => h) (by rfl) hHeld ?_ ?_
          rotate_left
          · (intro w' hS'; go_simp <;> (with_reducible rfl))
          simp only [Act.put, List.getElem_toArray, List.getElem_cons_zero, List.getElem_cons_succ, List.setIfInBounds_toArray, List.set_cons_zero, List.set_cons_succ]
          refine held_q (i := 5) rfl (by kernel_rfl) (by kernel_rfl) (by kernel_rfl) (fun _ _ _ h => h) (by rfl) hHeld (fun w' hS' => exec_load 39 _ rfl rfl (ldP w' (k7T.trans hS'))) ?_
          simp only [Act.put, List.getElem_toArray, List.getElem_cons_zero, List.getElem_cons_succ, List.setIfInBounds_toArray, List.set_cons_zero, List.set_cons_succ]
          refine held_q (v := ?_) (i := 6) rfl (by kernel_rfl) (by kernel_rfl) (by kernel_rfl) (fun _ _ _ h => h) (by rfl) hHeld ?_ ?_
          rotate_left
          · (intro w' hS'; go_simp <;> (with_reducible rfl))
          simp only [Act.put, List.getElem_toArray, List.getElem_cons_zero, List.getElem_cons_succ, List.setIfInBounds_toArray, List.set_cons_zero, List.set_cons_succ]
          refine held_q (v := ?_) (i := 7) rfl (by kernel_rfl) (by kernel_rfl) (by kernel_rfl) (fun _ _ _ h => h) (by rfl) hHeld ?_ ?_
          rotate_left
          · (intro w' hS'; go_simp <;> (with_reducible rfl))
          simp only [Act.put, List.getElem_toArray, List.getElem_cons_zero, List.getElem_cons_succ, List.setIfInBounds_toArray, List.set_cons_zero, List.set_cons_succ]
          refine held_q (v := ?_) (i := 8) rfl (by kernel_rfl) (by kernel_rfl) (by kernel_rfl) (fun _ _ _ h => h) (by rfl) hHeld ?_ ?_
          rotate_left
          · (intro w' hS'; go_simp <;> (with_reducible rfl))
          simp only [Act.put, List.getElem_toArray, List.getElem_cons_zero, List.getElem_cons_succ, List.setIfInBounds_toArray, List.set_cons_zero, List.set_cons_succ]
          refine held_q (v := ?_) (i := 9) rfl (by kernel_rfl) (by kernel_rfl) (by kernel_rfl) (fun _ _ _ h => h) (by rfl) hHeld ?_ ?_
          rotate_left
          · (intro w' hS'; go_simp <;> (with_reducible rfl))
          simp only [Act.put, List.getElem_toArray, List.getElem_cons_zero, List.getElem_cons_succ, List.setIfInBounds_toArray, List.set_cons_zero, List.set_cons_succ]
          refine held_q (v := ?_) (i := 10) rfl (by kernel_rfl) (by kernel_rfl) (by kernel_rfl) (fun _ _ _ h => h) (by rfl) hHeld ?_ ?_
          rotate_left
          · (intro w' hS'; go_simp <;> (with_reducible rfl))
          simp only [Act.put, List.getElem_toArray, List.getElem_cons_zero, List.getElem_cons_succ, List.setIfInBounds_toArray, List.set_cons_zero, List.set_cons_succ]
          refine held_q (i := 11) rfl (by kernel_rfl) (by kernel_rfl) (by kernel_rfl) (fun _ _ _ h => h) (by rfl) hHeld (fun w' hS' => exec_build 39 _ rfl (by go_simp <;> rfl) (bd w')) ?_
          simp only [Act.put, List.getElem_toArray, List.getElem_cons_zero, List.getElem_cons_succ, List.setIfInBounds_toArray, List.set_cons_zero, List.set_cons_succ]
          refine held_q (i := 13) rfl (by kernel_rfl) (by kernel_rfl) (by kernel_rfl) (fun _ _ _ h => h) (by rfl) hHeld (fun w' hS' => exec_load 39 _ rfl rfl (ldP w' (k7T.trans hS'))) ?_
          simp only [Act.put, List.getElem_toArray, List.getElem_cons_zero, List.getElem_cons_succ, List.setIfInBounds_toArray, List.set_cons_zero, List.set_cons_succ]
          refine held_q (v := ?_) (i := 14) rfl (by kernel_rfl) (by kernel_rfl) (by kernel_rfl) (fun _ _ _ h => h) (by rfl) hHeld ?_ ?_
          rotate_left
          · (intro w' hS'; go_simp <;> (with_reducible rfl))
          simp only [Act.put, List.getElem_toArray, List.getElem_cons_zero, List.getElem_cons_succ, List.setIfInBounds_toArray, List.set_cons_zero, List.set_cons_succ]
          refine held_q (v := ?_) (i := 15) rfl (by kernel_rfl) (by kernel_rfl) (by kernel_rfl) (fun _ _ _ h => h) (by rfl) hHeld ?_ ?_
          rotate_left
          · (intro w' hS'; go_simp <;> (with_reducible rfl))
          simp only [Act.put, List.getElem_toArray, List.getElem_cons_zero, List.getElem_cons_succ, List.setIfInBounds_toArray, List.set_cons_zero, List.set_cons_succ]
          refine held_q (v := ?_) (i := 16) rfl (by kernel_rfl) (by kernel_rfl) (by kernel_rfl) (fun _ _ _ h => h) (by rfl) hHeld ?_ ?_
          rotate_left
          · (intro w' hS'; go_simp <;> (with_reducible rfl))
          simp only [Act.put, List.getElem_toArray, List.getElem_cons_zero, List.getElem_cons_succ, List.setIfInBounds_toArray, List.set_cons_zero, List.set_cons_succ]
          refine held_q (v := ?_) (i := 17) rfl (by kernel_rfl) (by kernel_rfl) (by kernel_rfl) (fun _ _ _ h => h) (by rfl) hHeld ?_ ?_
          rotate_left
          · (intro w' hS'; go_simp <;> (with_reducible rfl))
          simp only [Act.put, List.getElem_toArray, List.getElem_cons_zero, List.getElem_cons_succ, List.setIfInBounds_toArray, List.set_cons_zero, List.set_cons_succ]
          refine held_q (v := ?_) (i := 18) rfl (by kernel_rfl) (by kernel_rfl) (by kernel_rfl) (fun _ _ _ h => h) (by rfl) hHeld ?_ ?_
          rotate_left
          · (intro w' hS'; go_simp <;> (with_reducible rfl))
          simp only [Act.put, List.getElem_toArray, List.getElem_cons_zero, List.getElem_cons_succ, List.setIfInBounds_toArray, List.set_cons_zero, List.set_cons_succ]
          refine held_q (i := 19) rfl (by kernel_rfl) (by kernel_rfl) (by kernel_rfl) (fun _ _ _ h => h) (by rfl) hHeld (fun w' hS' => exec_build 39 _ rfl (by go_simp <;> rfl) (bd w')) ?_
          simp only [Act.put, List.getElem_toArray, List.getElem_cons_zero, List.getElem_cons_succ, List.setIfInBounds_toArray, List.set_cons_zero, List.set_cons_succ]
          refine held_c (i := 12) (f := 16) (args := #[.agg #[.slice a13 x.prog.length c13, .slice a12 o.length c12, .int .i64 x.fuel], .agg #[.slice a2 x.prog.length c2, .slice a3 ls.length c3, .int .i64 x.fuel]]) (by kernel_rfl) rfl (by rfl) ?_ (p2 _ hHeld) ?_
          · (go_simp <;> rfl)
          rintro e WB ⟨rfl, kq⟩
          have hHeld := hHeld.trans kq
          refine ⟨_, rfl, hHeld, ?_⟩
          simp only [Act.put, List.getElem_toArray, List.getElem_cons_zero, List.getElem_cons_succ, List.setIfInBounds_toArray, List.set_cons_zero, List.set_cons_succ]
          refine held_c (i := 20) (f := 15) (args := #[.agg #[.slice a13 x.prog.length c13, .slice a12 o.length c12, .int .i64 x.fuel], .agg #[.slice a2 x.prog.length c2, .slice a3 ls.length c3, .int .i64 x.fuel]]) (by kernel_rfl) rfl (by rfl) ?_ (p3 _ hHeld) ?_
          · (go_simp <;> rfl)
          rintro e WC ⟨rfl, kq⟩
          have hHeld := hHeld.trans kq
          refine ⟨_, rfl, hHeld, ?_⟩
          simp only [Act.put, List.getElem_toArray, List.getElem_cons_zero, List.getElem_cons_succ, List.setIfInBounds_toArray, List.set_cons_zero, List.set_cons_succ]
          refine held_q (v := ?_) (i := 21) rfl (by kernel_rfl) (by kernel_rfl) (by kernel_rfl) (fun _ _ _ h => h) (by rfl) hHeld ?_ ?_
          rotate_left
          · (intro w' hS'; go_simp <;> (with_reducible rfl))
          simp only [Act.put, List.getElem_toArray, List.getElem_cons_zero, List.getElem_cons_succ, List.setIfInBounds_toArray, List.set_cons_zero, List.set_cons_succ]
          refine held_q (v := ?_) (i := 22) rfl (by kernel_rfl) (by kernel_rfl) (by kernel_rfl) (fun _ _ _ h => h) (by rfl) hHeld ?_ ?_
          rotate_left
          · (intro w' hS'; go_simp <;> (with_reducible rfl))
          simp only [Act.put, List.getElem_toArray, List.getElem_cons_zero, List.getElem_cons_succ, List.setIfInBounds_toArray, List.set_cons_zero, List.set_cons_succ]
          refine wpAnyH_done (by kernel_rfl) ?_ _
          have KC := KT.trans hHeld
          have k7C := k7T.trans hHeld
          have hGC := hgW WC k7C
          have hotC := hot.kept (K47.trans k7C)
          have htC := ht3.kept (K3r.trans (K47.trans k7C))
          have hooC := hoo7.kept k7C
          have hpnC := Lib.hid (hpn7.out.kept k7C)
          have hDC : D ≤ WC.heap.size := Nat.le_trans hDa (K47.trans k7C).size
          clear p1 p2 p3 bd cB2 cB3 ldP hpn7 hgW hoo7 hto7 ht57 hta7 hpa7
          have kwC : Kept (fun i => D ≤ i) wr WC := (K47.trans k7C).mono (fun _ _ q => q.elim)
          obtain ⟨ps, hps, hrow, hB⟩ := hooC
          have hB := Lib.hid hB
          have HPS := Lib.hid hps
          clear hps
          go_wp2_with fail
          go_loopg [135] o.length (fun gk s135 wz => ∃ k : Nat, gk = o.length - k ∧ k ≤ o.length ∧ s135 = .int .i64 k ∧ Kept (fun i => D ≤ i) WC wz ∧ Hid (Spared WC wz))
          case atStart => exact ⟨0, by omega, by omega, rfl, Kept.refl _ _, Lib.hid (Spared.refl _)⟩
          case round =>
            obtain ⟨k, rfl, hk, rfl, hkr5, HSR⟩ := hrel
            by_cases hlt : k < o.length
            · obtain ⟨p, hp⟩ : ∃ p, ps[k]? = some p := ⟨_, List.getElem?_eq_getElem (by have := HPS.out; omega)⟩
              obtain ⟨m, hm⟩ := hB.out p (List.mem_of_getElem? hp)
              rcases hrow.2 with ⟨_, h0⟩ | ⟨g, cap, cur, hv, hbg, hg, hnc, hcm, hcsz, htake⟩
              · omega
              injection hv with e1 _ e3
              subst e1
              subst e3
              obtain ⟨p1, p2⟩ := prs_get ps k p hp
              have c2e : cur[k * 2 + 1]? = some p.2 := by
                have := HPS.out
                rw [← htake, List.getElem?_take_of_lt (by omega)] at p2
                simpa using p2
              have hq : ∀ w', Spared WC w' → w'.cell? ⟨g, k * 2 + 1, none⟩ = some p.2 := fun w' q => by
                rw [cell_of_row _ _ _ _ _ _ (q.other g cur _ _ hg (by decide))]; exact c2e
              have HQ := Lib.hid hq
              have HM := Lib.hid hm
              obtain ⟨xa, xc, hx⟩ := hm.slc
              have hml : m ≤ maxLen := by
                obtain ⟨l, _, h2⟩ := hm
                rcases h2 with ⟨_, h2⟩ | ⟨_, cap2, _, _, _, _, q1, q2, _⟩
                · omega
                · omega
              simp only [maxLen] at hml
              have q0 := hq wr HSR.out
              rw [hx] at q0
              clear hm hq p1 p2 c2e hg htake hcsz
              go_wp2_with fail
              have HKR := Lib.hid hkr5
              clear hkr5 q0
              go_loopg [144] m (fun gk s144 wy => ∃ j : Nat, gk = m - j ∧ j ≤ m ∧ s144 = .int .i64 j ∧ Kept (fun i => D ≤ i) wr wy ∧ Hid (Spared wr wy))
              case atStart => exact ⟨0, by omega, by omega, rfl, Kept.refl _ _, Lib.hid (Spared.refl _)⟩
              case round =>
                obtain ⟨j, rfl, hj, rfl, hjr, HJ⟩ := hrel
                have HJR := Lib.hid hjr
                clear hjr
                by_cases hjl : j < m
                · have S := HSR.out.trans HJ.out
                  obtain ⟨gb, cb, C, u, hxe, hbb, hgb, hcu, hfz⟩ := (S.by' _ _ _ HM.out).at' hjl
                  obtain ⟨u2, hu2⟩ := u8_next u
                  have q0 := HQ.out wr S
                  rw [hxe] at q0
                  have sp : Spared wr (wr.setCell ⟨gb, j, none⟩ (.int .u8 u2.toNat)) := Spared.poke hgb u2
                  have kp : Kept (fun k => D ≤ k) wr (wr.setCell ⟨gb, j, none⟩ (.int .u8 u2.toNat)) := (Kept.refl (fun k => D ≤ k) wr).setCell (p := ⟨gb, j, none⟩) (fun _ => hbb) _
                  have HS2 := Lib.hid (HJ.out.trans sp)
                  have HK2 := Lib.hid (HJR.out.trans kp)
                  clear S sp kp hgb hxe hx
                  go_wp2_with fail
                  go_roundg (m - (j + 1))
                  case rel => exact ⟨j + 1, rfl, by omega, by go_num, HK2.out, HS2⟩
                  case measure => omega
                · obtain rfl : j = m := by omega
                  go_wp2_with fail
                  go_roundg (o.length - (k + 1))
                  case rel => exact ⟨k + 1, rfl, by omega, by go_num, HKR.out.trans HJR.out, Lib.hid (HSR.out.trans HJ.out)⟩
                  case measure => omega
            · obtain rfl : k = o.length := by omega
              have hGz := HSR.out.other _ _ _ _ hGC (by decide)
              have hpnz := Lib.hid (hpnC.out.spared HSR.out)
              have cG0 : wr.cell? ⟨G, 0, none⟩ = some (.slice a13 x.prog.length c13) := by rw [cell_of_row _ _ _ _ _ _ hGz]; rfl
              clear hrow
              go_wp2_with fail
              clear cG0
              go_loopg [162] x.prog.length (fun gk s162 wn => ∃ k : Nat, gk = x.prog.length - k ∧ k ≤ x.prog.length ∧ s162 = .int .i64 k ∧ Kept (fun i => D ≤ i) WC wn ∧ wn.heap[G]? = some (.cells #[.slice a13 x.prog.length c13, .slice a12 o.length c12, .int .i64 x.fuel] 39 (0, 0)) ∧ Hid (OwnN D wn (.slice a13 x.prog.length c13) x.prog.length))
              case atStart => exact ⟨0, by omega, by omega, rfl, hkr5, hGz, hpnz⟩
              case round =>
                obtain ⟨k, rfl, hk, rfl, hkn, hGn, HN⟩ := hrel
                have cG0 : wr.cell? ⟨G, 0, none⟩ = some (.slice a13 x.prog.length c13) := by rw [cell_of_row _ _ _ _ _ _ hGn]; rfl
                by_cases hlt : k < x.prog.length
                · obtain ⟨g, C, i, hae, hbg, hgn, hcu, hfz⟩ := HN.out.at' hlt
                  subst hae
                  have kp : Kept (fun i => D ≤ i) WC (wr.setCell ⟨g, k * 6 + 4, none⟩ (.int .i64 (wrap64 (i + 1)))) := hkn.setCell (p := ⟨g, k * 6 + 4, none⟩) (fun _ => hbg) _
                  have hG2 := poke_row (j := k * 6 + 4) hgn hGn (by decide) (.int .i64 (wrap64 (i + 1)))
                  have HN2 := Lib.hid (HN.out.poke (j := k * 6 + 4) hgn (wrap64 (i + 1)))
                  clear hgn hGn hGC hGz
                  have hpm2 := hpm
                  simp only [maxLen] at hpm2
                  go_wp2_with fail
                  go_roundg (x.prog.length - (k + 1))
                  case rel => exact ⟨k + 1, rfl, by omega, by go_num, kp, hG2, HN2⟩
                  case measure => omega
                · obtain rfl : k = x.prog.length := by omega
                  have kk := (kwC.trans hkn).mono (T := fun _ => False) (fun i hi e => by omega)
                  have KC := Kr.trans kk
                  have hotC := hot.kept kk
                  have htC := ht3.kept (K3r.trans kk)
                  go_wp2_with fail
                  clear cG0
                  go_loopg [177] ts.length (fun gk s177 wq => ∃ k : Nat, gk = ts.length - k ∧ k ≤ ts.length ∧ s177 = .int .i64 k ∧ Kept (fun _ => False) w wq ∧ Kept (fun _ => False) wr wq)
                  case atStart => exact ⟨0, by omega, by omega, rfl, KC, Kept.refl _ _⟩
                  case round =>
                    obtain ⟨k, rfl, hk, rfl, hkw, hkC⟩ := hrel
                    by_cases hlt : k < ts.length
                    · have hf : ts[k]? = some ts[k] := List.getElem?_eq_getElem hlt
                      generalize ts[k] = l at hf
                      obtain ⟨b, o, v, hae, hb, hcell, ht⟩ := hotC.elem hf
                      obtain ⟨b2, o2, v2, hae2, hb2, hcell2, ht2⟩ := ho.elem hf
                      obtain ⟨aa, cc, rfl⟩ := ht.slc
                      obtain ⟨ab, cb, rfl⟩ := ht2.slc
                      subst hae
                      subst hae2
                      have cT1 : ∀ w', Kept (fun _ => False) wr w' → w'.cell? ⟨b, o + k, none⟩ = some (.slice aa l.length cc) := fun w' z => by rw [(hkC.trans z).cell (p := ⟨b, o + k, none⟩) hb not_false]; exact hcell
                      have cT2 : ∀ w', Kept (fun _ => False) wr w' → w'.cell? ⟨b2, o2 + k, none⟩ = some (.slice ab l.length cb) := fun w' z => by rw [(hkw.trans z).cell (p := ⟨b2, o2 + k, none⟩) hb2 not_false]; exact hcell2
                      have sc := fun w' (z : Kept (fun _ => False) wr w') => rSame_ct (ht.kept (hkC.trans z)) (ht2.kept (hkw.trans z))
                      simp only [sameB_rfl] at sc
                      have ikt : (k : Int) < (ts.length : Int) := by omega
                      clear hf hcell hcell2
                      go_wp2_with fail
                      refine wp_region_held_drew (S := (Kept (fun _ => False) wr)) (by kernel_rfl) ((Kept.refl _ wr).drew) (fun hHeld => ?_)
                      refine held_q (v := ?_) (i := 0) rfl (by kernel_rfl) (by kernel_rfl) (by kernel_rfl) (fun _ _ _ h => h) (by rfl) hHeld ?_ ?_
                      rotate_left
                      · (intro w' hS'; go_simp <;> (with_reducible rfl))
                      simp only [Act.put, List.getElem_toArray, List.getElem_cons_zero, List.getElem_cons_succ, List.setIfInBounds_toArray, List.set_cons_zero, List.set_cons_succ]
                      refine held_q (v := ?_) (i := 1) rfl (by kernel_rfl) (by kernel_rfl) (by kernel_rfl) (fun _ _ _ h => h) (by rfl) hHeld ?_ ?_
                      rotate_left
                      · (intro w' hS'; go_simp <;> (with_reducible rfl))
                      simp only [Act.put, List.getElem_toArray, List.getElem_cons_zero, List.getElem_cons_succ, List.setIfInBounds_toArray, List.set_cons_zero, List.set_cons_succ]
                      refine held_q (v := ?_) (i := 2) rfl (by kernel_rfl) (by kernel_rfl) (by kernel_rfl) (fun _ _ _ h => h) (by rfl) hHeld ?_ ?_
                      rotate_left
                      · (intro w' hS'; go_simp <;> (with_reducible rfl))
                      simp only [Act.put, List.getElem_toArray, List.getElem_cons_zero, List.getElem_cons_succ, List.setIfInBounds_toArray, List.set_cons_zero, List.set_cons_succ]
                      refine held_q (v := ?_) (i := 3) rfl (by kernel_rfl) (by kernel_rfl) (by kernel_rfl) (fun _ _ _ h => h) (by rfl) hHeld ?_ ?_
                      rotate_left
                      · (intro w' hS'; go_simp <;> (with_reducible rfl))
                      simp only [Act.put, List.getElem_toArray, List.getElem_cons_zero, List.getElem_cons_succ, List.setIfInBounds_toArray, List.set_cons_zero, List.set_cons_succ]
                      refine held_q (v := ?_) (i := 4) rfl (by kernel_rfl) (by kernel_rfl) (by kernel_rfl) (fun _ _ _ h => h) (by rfl) hHeld ?_ ?_
                      rotate_left
                      · (intro w' hS'; go_simp <;> (with_reducible rfl))
                      simp only [Act.put, List.getElem_toArray, List.getElem_cons_zero, List.getElem_cons_succ, List.setIfInBounds_toArray, List.set_cons_zero, List.set_cons_succ]
                      refine held_q (v := ?_) (i := 5) rfl (by kernel_rfl) (by kernel_rfl) (by kernel_rfl) (fun _ _ _ h => h) (by rfl) hHeld ?_ ?_
                      rotate_left
                      · (intro w' hS'; go_simp <;> (with_reducible rfl))
                      simp only [Act.put, List.getElem_toArray, List.getElem_cons_zero, List.getElem_cons_succ, List.setIfInBounds_toArray, List.set_cons_zero, List.set_cons_succ]
                      refine held_q (v := ?_) (i := 6) rfl (by kernel_rfl) (by kernel_rfl) (by kernel_rfl) (fun _ _ _ h => h) (by rfl) hHeld ?_ ?_
                      rotate_left
                      · (intro w' hS'; go_simp <;> (with_reducible rfl))
                      simp only [Act.put, List.getElem_toArray, List.getElem_cons_zero, List.getElem_cons_succ, List.setIfInBounds_toArray, List.set_cons_zero, List.set_cons_succ]
                      refine held_q (v := ?_) (i := 7) rfl (by kernel_rfl) (by kernel_rfl) (by kernel_rfl) (fun _ _ _ h => h) (by rfl) hHeld ?_ ?_
                      rotate_left
                      · (intro w' hS'; go_simp <;> (with_reducible rfl))
                      simp only [Act.put, List.getElem_toArray, List.getElem_cons_zero, List.getElem_cons_succ, List.setIfInBounds_toArray, List.set_cons_zero, List.set_cons_succ]
                      refine held_c (i := 8) (f := 10) (args := #[.slice aa l.length cc, .slice ab l.length cb]) (by kernel_rfl) rfl (by rfl) ?_ (sc _ hHeld) ?_
                      · (go_simp <;> rfl)
                      rintro e WE ⟨rfl, kq⟩
                      have hHeld := hHeld.trans kq
                      refine ⟨_, rfl, hHeld, ?_⟩
                      simp only [Act.put, List.getElem_toArray, List.getElem_cons_zero, List.getElem_cons_succ, List.setIfInBounds_toArray, List.set_cons_zero, List.set_cons_succ]
                      refine held_q (v := ?_) (i := 9) rfl (by kernel_rfl) (by kernel_rfl) (by kernel_rfl) (fun _ _ _ h => h) (by rfl) hHeld ?_ ?_
                      rotate_left
                      · (intro w' hS'; go_simp <;> (with_reducible rfl))
                      simp only [Act.put, List.getElem_toArray, List.getElem_cons_zero, List.getElem_cons_succ, List.setIfInBounds_toArray, List.set_cons_zero, List.set_cons_succ]
                      refine wpAnyH_done (by kernel_rfl) ?_ _
                      go_wp2_with fail
                      go_roundg (ts.length - (k + 1))
                      case rel => exact ⟨k + 1, rfl, by omega, by go_num, hkw.trans hHeld, hkC.trans hHeld⟩
                      case measure => omega
                    · obtain rfl : k = ts.length := by omega
                      have sc := rSame_ct (htC.kept hkC) (hs.kept hkw)
                      rw [sameB_rfl] at sc
                      go_wp2_with fail
                      refine sc.mono ?_
                      rintro e WF ⟨rfl, kf⟩
                      clear sc
                      go_wp2_with fail
                      refine (known16_ct (hT.kept (hkw.trans kf))).mono ?_
                      rintro e Wk ⟨rfl, kk⟩
                      go_wp2_with fail
                      go_ret
                      exact ⟨rfl, (hkw.trans kf).trans kk⟩

/- Trees as arguments. -/
open Go.ChangeShapes Go.WideShapes Go.ChangeAt Go.RowKit

section
variable {H : Type} {enc : TypeId × Value → H} {w : World} {base : Nat} {spare : Nat → Bool} {held : Bool}
theorem file_cells {fuel : Nat} {cs : List Value} {x : DataW H × List MemPlace} (h : DataW.trod enc Tryd.prog w base spare held fuel 46 cs = some x) :
    ∃ (f : FileE) (v : Value), f.path.size ≤ maxLen ∧ cs = [.string f.path, v] ∧ ByAt w v f.bytes := by
  have hcc : Tryd.prog.cellsOf 46 = 2 := by kernel_rfl
  have hcs : Tryd.prog.cellsOf 9 = 1 := by kernel_rfl
  have hcb : Tryd.prog.cellsOf 44 = 1 := by kernel_rfl
  obtain ⟨xs, m, _, _, hlen, hxl, hg⟩ := DataW.trod_struct Tryd.underlying46 h
  rw [hcc] at hlen
  have hx2 : xs.length = 2 := hxl
  have g0 : DataW.trod enc Tryd.prog w base spare held m 9 ((cs.drop 0).take (Tryd.prog.cellsOf 9)) = xs[0]? := hg 0 _ rfl
  have g1 : DataW.trod enc Tryd.prog w base spare held m 44 ((cs.drop 1).take (Tryd.prog.cellsOf 44)) = xs[1]? := hg 1 _ rfl
  simp only [hcs, hcb] at g0 g1
  have d0 : (cs.drop 0).take 1 = [cs[0]] := by rw [List.drop_eq_getElem_cons (by omega)]; rfl
  have d1 : (cs.drop 1).take 1 = [cs[1]] := by rw [List.drop_eq_getElem_cons (by omega)]; rfl
  rw [d0, List.getElem?_eq_getElem (by omega)] at g0
  rw [d1, List.getElem?_eq_getElem (by omega)] at g1
  obtain ⟨s, e0, _, hs⟩ := DataW.trod_string Tryd.underlying9 g0
  obtain ⟨v, l, e1, hb⟩ := bytes_open g1
  simp only [List.cons.injEq, and_true] at e0 e1
  refine ⟨⟨s, l⟩, v, hs, ?_, hb.1⟩
  have h5 : cs = [cs[0], cs[1]] := by
    conv => lhs; rw [← List.drop_zero (l := cs)]
    rw [List.drop_eq_getElem_cons (by omega), List.drop_eq_getElem_cons (by omega), List.drop_of_length_le (by omega)]
  rw [e0, e1] at h5
  exact h5

theorem tree_open {fuel : Nat} {cs : List Value} {x : DataW H × List MemPlace} (h : DataW.trod enc Tryd.prog w base spare held fuel 27 cs = some x) :
    ∃ (v : Value) (l : List FileE), cs = [v] ∧ TreeAt w v l := by
  have hcc : Tryd.prog.cellsOf 46 = 2 := by kernel_rfl
  rcases DataW.trod_slice Tryd.underlying27 h with ⟨rfl, _⟩ | ⟨a, len, cap, elems, rest, m, _, rfl, _, hb, hl, hm, hlen, hel, _, _⟩
  · exact ⟨_, [], rfl, TreeAt.nil w 0⟩
  · have hsp : 0 < len → a.spot = none := fun h0 => by
      have h1 := hel 0 h0
      rw [hcc, List.getElem?_eq_getElem (by omega)] at h1
      obtain ⟨c, hc, ht⟩ := Option.bind_eq_some_iff.1 h1
      obtain ⟨_, hl1, hc3⟩ := World.cells?_some hc
      have h2 := hc3 0 (by omega)
      rw [List.getElem?_eq_getElem (by omega)] at h2
      have ha : (a.add (0 * 2)).add 0 = a := by simp [Addr.add]
      rw [ha] at h2
      exact World.cell?_spot h2
    have key : ∀ i, ∃ f : FileE, i < len → ∃ b q y, a = ⟨b, q, none⟩ ∧ b < w.heap.size ∧ f.path.size ≤ maxLen ∧ w.rangeAt b (q + i * 2) [.string f.path, y] ∧ ByAt w y f.bytes := fun i => by
      by_cases hi : i < len
      · have h1 := hel i hi
        rw [hcc, List.getElem?_eq_getElem (by omega)] at h1
        obtain ⟨c, hc, ht⟩ := Option.bind_eq_some_iff.1 h1
        obtain ⟨f, y, hs, rfl, hby⟩ := file_cells ht
        refine ⟨f, fun _ => ?_⟩
        have hz := World.cells?_block hc (by omega)
        obtain ⟨hc1, hc2, hc3⟩ := World.cells?_some hc
        obtain ⟨b, q, s⟩ := a
        have : s = none := hsp (by omega)
        subst this
        refine ⟨b, q, y, rfl, by simpa [block_add] using hz, hs, fun j v hv => ?_, hby⟩
        have hj : j < 2 := by have := (List.getElem?_eq_some_iff.1 hv).1; simpa using this
        have := hc3 j hj
        rw [Addr.add_mid, Addr.add_mid] at this
        rw [this, hv]
      · exact ⟨⟨⟨#[]⟩, []⟩, fun h => absurd h hi⟩
    obtain ⟨f, hf⟩ := Classical.axiomOfChoice key
    have hlen2 : ((List.range len).map f).length = len := by simp
    refine ⟨_, (List.range len).map f, rfl, some a, cap, by rw [hlen2], by rw [hlen2]; omega, fun hne => ?_⟩
    have h0 : 0 < len := by
      rcases Nat.eq_zero_or_pos len with h0 | h0
      · exact absurd (by rw [h0]; rfl) hne
      · exact h0
    obtain ⟨b, q, _, ha, hz, _⟩ := hf 0 h0
    refine ⟨b, q, by rw [ha], hz, fun i g hg => ?_⟩
    have hi : i < len := by have := (List.getElem?_eq_some_iff.1 hg).1; rw [hlen2] at this; exact this
    obtain ⟨b', q', y, ha', _, hs, hr, hby⟩ := hf i hi
    rw [ha] at ha'
    injection ha' with e1 e2
    subst e1; subst e2
    have hge : f i = g := by
      rw [List.getElem?_map, List.getElem?_range hi] at hg
      simpa using hg
    subst hge
    exact ⟨hs, y, hr, hby⟩
end

/- Targets and rows of trees as arguments; the tables as the rows list them. -/
open Go.ChangeShapes Go.WideShapes Go.ChangeAt Go.RowKit

theorem rows_pick {α : Type} {f : α → List Value} {p : α → Prop} : ∀ (rows : List (List Value)), (∀ r ∈ rows, ∃ s, r = f s ∧ p s) → ∃ ss : List α, rows = ss.map f ∧ ∀ s ∈ ss, p s
  | [], _ => ⟨[], rfl, fun s hs => by simp at hs⟩
  | r :: rows, h => by
    obtain ⟨s, hs, hp⟩ := h r (List.mem_cons_self ..)
    obtain ⟨ss, e, hss⟩ := rows_pick rows (fun r hr => h r (List.mem_cons_of_mem _ hr))
    refine ⟨s :: ss, by rw [hs, e, List.map_cons], fun y hy => ?_⟩
    rcases List.mem_cons.1 hy with rfl | hy
    · exact hp
    · exact hss y hy
section
variable {H : Type} {enc : TypeId × Value → H} {w : World} {base : Nat} {spare : Nat → Bool} {held : Bool}
theorem row_open {ts e : TypeId} {z : Nat} (ht : Tryd.prog.underlying ts = some (.slice e)) (hcc : Tryd.prog.cellsOf e = z) (hz : 0 < z) {Q : List Value → Prop}
    (hq : ∀ (m : Nat) (cs : List Value) (x : DataW H × List MemPlace), DataW.trod enc Tryd.prog w base spare held m e cs = some x → cs.length = z → Q cs)
    {fuel : Nat} {cs : List Value} {x : DataW H × List MemPlace} (h : DataW.trod enc Tryd.prog w base spare held fuel ts cs = some x) :
    ∃ (v : Value) (rows : List (List Value)), cs = [v] ∧ RowAt w z v rows ∧ ∀ r ∈ rows, Q r := by
  rcases DataW.trod_slice ht h with ⟨rfl, _⟩ | ⟨a, len, cap, elems, rest, m, _, rfl, _, hb, hl, hm, hlen, hel, _, _⟩
  · exact ⟨_, [], rfl, RowAt.nil w z 0, fun r hr => by simp at hr⟩
  · have hsp : 0 < len → a.spot = none := fun h0 => by
      have h1 := hel 0 h0
      rw [hcc, List.getElem?_eq_getElem (by omega)] at h1
      obtain ⟨c, hc, ht⟩ := Option.bind_eq_some_iff.1 h1
      obtain ⟨_, hl1, hc3⟩ := World.cells?_some hc
      have h2 := hc3 0 (by omega)
      rw [List.getElem?_eq_getElem (by omega)] at h2
      have ha : (a.add (0 * z)).add 0 = a := by simp [Addr.add]
      rw [ha] at h2
      exact World.cell?_spot h2
    have key : ∀ i, ∃ f : List Value, i < len → ∃ b q, a = ⟨b, q, none⟩ ∧ b < w.heap.size ∧ w.rangeAt b (q + i * z) f ∧ Q f := fun i => by
      by_cases hi : i < len
      · have h1 := hel i hi
        rw [hcc, List.getElem?_eq_getElem (by omega)] at h1
        obtain ⟨c, hc, ht⟩ := Option.bind_eq_some_iff.1 h1
        have hzz := World.cells?_block hc hz
        obtain ⟨hc1, hc2, hc3⟩ := World.cells?_some hc
        refine ⟨c, fun _ => ?_⟩
        obtain ⟨b, q, s⟩ := a
        have : s = none := hsp (by omega)
        subst this
        refine ⟨b, q, rfl, by simpa [block_add] using hzz, fun j v hv => ?_, hq _ _ _ ht hc2⟩
        have hj : j < z := by have := (List.getElem?_eq_some_iff.1 hv).1; omega
        have := hc3 j hj
        rw [Addr.add_mid, Addr.add_mid] at this
        rw [this, hv]
      · exact ⟨[], fun h => absurd h hi⟩
    obtain ⟨f, hf⟩ := Classical.axiomOfChoice key
    have hlen2 : ((List.range len).map f).length = len := by simp
    refine ⟨_, (List.range len).map f, rfl, ⟨some a, cap, by rw [hlen2], by rw [hlen2]; exact hl, by rw [hlen2]; omega, fun hne => ?_⟩, fun r hr => ?_⟩
    · have h0 : 0 < len := by
        rcases Nat.eq_zero_or_pos len with h0 | h0
        · exact absurd (by rw [h0]; rfl) hne
        · exact h0
      obtain ⟨b, q, ha, hzz, _⟩ := hf 0 h0
      refine ⟨b, q, by rw [ha], hzz, fun i g hg => ?_⟩
      have hi : i < len := by have := (List.getElem?_eq_some_iff.1 hg).1; rw [hlen2] at this; exact this
      obtain ⟨b', q', ha', _, hr, _⟩ := hf i hi
      rw [ha] at ha'
      injection ha' with e1 e2
      subst e1; subst e2
      have hge : f i = g := by
        rw [List.getElem?_map, List.getElem?_range hi] at hg
        simpa using hg
      subst hge
      exact hr
    · obtain ⟨i, hi, rfl⟩ := List.mem_map.1 hr
      exact (hf i (by simpa using hi)).choose_spec.choose_spec.2.2.2
theorem deps_open {fuel : Nat} {cs : List Value} {x : DataW H × List MemPlace} (h : DataW.trod enc Tryd.prog w base spare held fuel 22 cs = some x) :
    ∃ (v : Value) (ds : List ByteArray), cs = [v] ∧ DepsAt w v ds := by
  obtain ⟨v, rows, e, hr, hq⟩ := row_open (z := 1) (Q := fun cs => ∃ s : ByteArray, cs = [Value.string s] ∧ s.size ≤ maxLen) Tryd.underlying22 (by kernel_rfl) (by omega)
    (fun m cs x ht _ => by obtain ⟨s, h1, _, h2⟩ := DataW.trod_string Tryd.underlying9 ht; exact ⟨s, h1, h2⟩) h
  obtain ⟨ds, rfl, hp⟩ := rows_pick (f := fun s : ByteArray => [Value.string s]) rows hq
  exact ⟨v, ds, e, hr, hp⟩
theorem i64_wf {n : Int} (h : (Lit.int .i64 n).wf = true) : -9223372036854775808 ≤ n ∧ n ≤ 9223372036854775807 := by
  simp only [Lit.wf, Bool.and_eq_true, decide_eq_true_eq] at h
  have h1 : -(2 ^ 63) ≤ n := h.1
  have h2 : n ≤ 2 ^ 63 - 1 := h.2
  omega
theorem one_cell {α : Type} {cs : List α} {i : Nat} (h : i < cs.length) : (cs.drop i).take 1 = [cs[i]] := by rw [List.drop_eq_getElem_cons h]; rfl
theorem ins_cells {fuel : Nat} {cs : List Value} {x : DataW H × List MemPlace} (h : DataW.trod enc Tryd.prog w base spare held fuel 48 cs = some x) :
    ∃ y : InsE, cs = insC y ∧ y.Fits := by
  have hcc : Tryd.prog.cellsOf 48 = 6 := by kernel_rfl
  have hcs : Tryd.prog.cellsOf 9 = 1 := by kernel_rfl
  have hcb : Tryd.prog.cellsOf 5 = 1 := by kernel_rfl
  have hci : Tryd.prog.cellsOf 3 = 1 := by kernel_rfl
  obtain ⟨xs, m, _, _, hlen, hxl, hg⟩ := DataW.trod_struct Tryd.underlying48 h
  rw [hcc] at hlen
  have hx6 : xs.length = 6 := hxl
  have g0 : DataW.trod enc Tryd.prog w base spare held m 5 ((cs.drop 0).take (Tryd.prog.cellsOf 5)) = xs[0]? := hg 0 _ rfl
  have g1 : DataW.trod enc Tryd.prog w base spare held m 9 ((cs.drop 1).take (Tryd.prog.cellsOf 9)) = xs[1]? := hg 1 _ rfl
  have g2 : DataW.trod enc Tryd.prog w base spare held m 9 ((cs.drop 2).take (Tryd.prog.cellsOf 9)) = xs[2]? := hg 2 _ rfl
  have g3 : DataW.trod enc Tryd.prog w base spare held m 9 ((cs.drop 3).take (Tryd.prog.cellsOf 9)) = xs[3]? := hg 3 _ rfl
  have g4 : DataW.trod enc Tryd.prog w base spare held m 3 ((cs.drop 4).take (Tryd.prog.cellsOf 3)) = xs[4]? := hg 4 _ rfl
  have g5 : DataW.trod enc Tryd.prog w base spare held m 3 ((cs.drop 5).take (Tryd.prog.cellsOf 3)) = xs[5]? := hg 5 _ rfl
  rw [hcb, one_cell (by omega)] at g0
  rw [hcs, one_cell (by omega), List.getElem?_eq_getElem (by omega)] at g1 g2 g3
  rw [hci, one_cell (by omega)] at g4 g5
  obtain ⟨k, e0, w0⟩ := one_of_int Tryd.underlying5 (by rw [List.getElem?_eq_getElem (by omega)]; rfl) g0
  obtain ⟨s1, e1, _, w1⟩ := DataW.trod_string Tryd.underlying9 g1
  obtain ⟨s2, e2, _, w2⟩ := DataW.trod_string Tryd.underlying9 g2
  obtain ⟨s3, e3, _, w3⟩ := DataW.trod_string Tryd.underlying9 g3
  obtain ⟨n, e4, w4⟩ := one_of_int Tryd.underlying3 (by rw [List.getElem?_eq_getElem (by omega)]; rfl) g4
  obtain ⟨o, e5, w5⟩ := one_of_int Tryd.underlying3 (by rw [List.getElem?_eq_getElem (by omega)]; rfl) g5
  obtain ⟨h0, h256⟩ := u8_of_wf w0
  simp only [List.cons.injEq, and_true] at e0 e1 e2 e3 e4 e5
  refine ⟨⟨k.toNat, s1, s2, s3, n, o⟩, ?_, ⟨by show k.toNat < 256; omega, w1, w2, w3, i64_wf w4, i64_wf w5⟩⟩
  apply List.ext_getElem
  · rw [hlen]; rfl
  · intro i h1 h2
    rw [hlen] at h1
    match i, h1 with
    | 0, _ => rw [e0]; show Value.int .u8 k = .int .u8 (k.toNat : Int); rw [Int.toNat_of_nonneg h0]
    | 1, _ => exact e1
    | 2, _ => exact e2
    | 3, _ => exact e3
    | 4, _ => exact e4
    | 5, _ => exact e5
theorem prog_open {fuel : Nat} {cs : List Value} {x : DataW H × List MemPlace} (h : DataW.trod enc Tryd.prog w base spare held fuel 23 cs = some x) :
    ∃ (v : Value) (p : List InsE), cs = [v] ∧ ProgAt w v p := by
  obtain ⟨v, rows, e, hr, hq⟩ := row_open (z := 6) (Q := fun cs => ∃ y : InsE, cs = insC y ∧ y.Fits) Tryd.underlying23 (by kernel_rfl) (by omega) (fun m cs x ht _ => ins_cells ht) h
  obtain ⟨p, rfl, hp⟩ := rows_pick (f := insC) rows hq
  exact ⟨v, p, e, hr, hp⟩
theorem trees_open {fuel : Nat} {cs : List Value} {x : DataW H × List MemPlace} (h : DataW.trod enc Tryd.prog w base spare held fuel 28 cs = some x) :
    ∃ (v : Value) (ts : List (List FileE)), cs = [v] ∧ TreesAt w v ts := by
  obtain ⟨v, rows, e, hr, hq⟩ := row_open (z := 1) (Q := fun cs => ∃ s : Value × List FileE, cs = [s.1] ∧ TreeAt w s.1 s.2) Tryd.underlying28 (by kernel_rfl) (by omega)
    (fun m cs x ht _ => by obtain ⟨v, l, h1, h2⟩ := tree_open ht; exact ⟨(v, l), h1, h2⟩) h
  obtain ⟨ps, rfl, hp⟩ := rows_pick (f := fun s : Value × List FileE => [s.1]) rows hq
  refine ⟨v, ps.map (·.2), e, ps.map (·.1), by rw [List.length_map, List.length_map], by rw [List.map_map]; exact hr, fun j l hl => ?_⟩
  rw [List.getElem?_map] at hl
  cases hj : ps[j]? with
  | none => rw [hj] at hl; cases hl
  | some q =>
    rw [hj] at hl
    simp only [Option.map_some, Option.some.injEq] at hl
    subst hl
    exact ⟨q.1, by rw [List.getElem?_map, hj]; rfl, hp q (List.mem_of_getElem? hj)⟩
theorem tgt_cells {fuel : Nat} {cs : List Value} {x : DataW H × List MemPlace} (h : DataW.trod enc Tryd.prog w base spare held fuel 25 cs = some x) :
    ∃ (y : TgtE) (vd vp : Value), cs = (tgtC y vd vp).toList ∧ TgtAt w y vd vp := by
  have hcc : Tryd.prog.cellsOf 25 = 4 := by kernel_rfl
  have hcs : Tryd.prog.cellsOf 9 = 1 := by kernel_rfl
  have hcd : Tryd.prog.cellsOf 22 = 1 := by kernel_rfl
  have hci : Tryd.prog.cellsOf 3 = 1 := by kernel_rfl
  have hcp : Tryd.prog.cellsOf 23 = 1 := by kernel_rfl
  obtain ⟨xs, m, _, _, hlen, hxl, hg⟩ := DataW.trod_struct Tryd.underlying25 h
  rw [hcc] at hlen
  have hx4 : xs.length = 4 := hxl
  have g0 : DataW.trod enc Tryd.prog w base spare held m 9 ((cs.drop 0).take (Tryd.prog.cellsOf 9)) = xs[0]? := hg 0 _ rfl
  have g1 : DataW.trod enc Tryd.prog w base spare held m 22 ((cs.drop 1).take (Tryd.prog.cellsOf 22)) = xs[1]? := hg 1 _ rfl
  have g2 : DataW.trod enc Tryd.prog w base spare held m 3 ((cs.drop 2).take (Tryd.prog.cellsOf 3)) = xs[2]? := hg 2 _ rfl
  have g3 : DataW.trod enc Tryd.prog w base spare held m 23 ((cs.drop 3).take (Tryd.prog.cellsOf 23)) = xs[3]? := hg 3 _ rfl
  rw [hcs, one_cell (by omega), List.getElem?_eq_getElem (by omega)] at g0
  rw [hcd, one_cell (by omega), List.getElem?_eq_getElem (by omega)] at g1
  rw [hci, one_cell (by omega)] at g2
  rw [hcp, one_cell (by omega), List.getElem?_eq_getElem (by omega)] at g3
  obtain ⟨s, e0, _, w0⟩ := DataW.trod_string Tryd.underlying9 g0
  obtain ⟨vd, ds, e1, hd⟩ := deps_open g1
  obtain ⟨n, e2, w2⟩ := one_of_int Tryd.underlying3 (by rw [List.getElem?_eq_getElem (by omega)]; rfl) g2
  obtain ⟨vp, p, e3, hp⟩ := prog_open g3
  simp only [List.cons.injEq, and_true] at e0 e1 e2 e3
  refine ⟨⟨s, ds, n, p⟩, vd, vp, ?_, ⟨w0, hd, hp⟩⟩
  apply List.ext_getElem
  · rw [hlen]; rfl
  · intro i h1 h2
    rw [hlen] at h1
    match i, h1 with
    | 0, _ => exact e0
    | 1, _ => exact e1
    | 2, _ => exact e2
    | 3, _ => exact e3
end
theorem gFld : Tryd.prog.globalNamed "murmuration/program.fields" = some 0 := by kernel_rfl
theorem gFldT : (Tryd.prog.globals[0]?).map (·.type) = some 111 := by kernel_rfl
theorem laid_flds {W : World} (h : Lib.VarReads Tryd.prog W "murmuration/program.fields" Rows.laid_murmuration_program_fields) : FldTab W := by
  obtain ⟨g, t, cs, fuel, p, h1, h2, h3, h4⟩ := h
  rw [gFld] at h1
  injection h1 with h1
  subst h1
  rw [gFldT] at h2
  injection h2 with h2
  subst h2
  unfold World.var? at h3
  rw [gFld] at h3
  simp only [Option.bind_some] at h3
  cases hb : W.heap[0]? with
  | none => rw [hb] at h3; cases h3
  | some o =>
    rw [hb] at h3
    cases o with
    | cells C T fr =>
      simp only [Option.some.injEq] at h3
      subst h3
      have hcs : Tryd.prog.cellsOf 9 = 1 := by kernel_rfl
      have hcc : Tryd.prog.cellsOf 111 = 12 := by kernel_rfl
      obtain ⟨xs, m, _, hx, hlen, hxl, hg⟩ := DataW.trod_array Tryd.underlying111 h4
      rw [hcc] at hlen
      refine ⟨(Array.getElem?_eq_some_iff.1 hb).1, fun k hk => ?_⟩
      have hgk := hg k hk
      rw [hcs, Nat.mul_one, one_cell (by omega), List.getElem?_eq_getElem (by omega)] at hgk
      obtain ⟨s, e1, e2, _⟩ := DataW.trod_string Tryd.underlying9 hgk
      simp only [List.cons.injEq, and_true] at e1
      have hd : (Rows.laid_murmuration_program_fields : DataW Unit) = .agg (xs.map (·.1)) := congrArg Prod.fst hx
      have hl : FLDS.map (fun l => (DataW.lit (.string l) : DataW Unit)) = xs.map (·.1) := by
        have : (Rows.laid_murmuration_program_fields : DataW Unit) = .agg (FLDS.map (fun l => (DataW.lit (.string l) : DataW Unit))) := rfl
        rw [this] at hd
        injection hd
      have hk2 := congrArg (fun l : List (DataW Unit) => l[k]?) hl
      simp only [List.getElem?_map] at hk2
      rw [List.getElem?_eq_getElem (show k < xs.length by omega)] at hk2
      have hfl : k < FLDS.length := hk
      rw [List.getElem?_eq_getElem hfl] at hk2
      simp only [Option.map_some, Option.some.injEq] at hk2
      rw [e2] at hk2
      simp only [DataW.lit.injEq, Lit.string.injEq] at hk2
      rw [cell_of_row _ _ _ _ _ _ hb]
      have hs : s = fld k := by
        apply ba_ext
        rw [data_toList, data_toList, ← hk2]
        unfold fld fldL
        rw [List.getD_eq_getElem?_getD, List.getElem?_eq_getElem hfl]; rfl
      rw [← hs, ← e1]
      have hC : k < C.size := by simpa using (show k < C.toList.length by omega)
      rw [Array.getElem?_eq_getElem hC]; simp
    | _ => cases h3

/- The tables of the plan's rows; a world for the witness. -/

def laidP : List (String × DataW Unit) := [("unicode/utf8.acceptRanges", Rows.laid_unicode_utf8_acceptRanges), ("murmuration/program.fields", Rows.laid_murmuration_program_fields), ("unicode/utf8.first", Rows.laid_unicode_utf8_first)]
theorem flds_of {W : World} (h : laidMetH Tryd.prog laidP W) : FldTab W := by
  have h' : laidMet Tryd.prog laidP W := h
  exact laid_flds (Lib.laidMet.reads h' (n := "murmuration/program.fields") (d := Rows.laid_murmuration_program_fields) (by unfold laidP; simp))
def layFirst : Obj → Obj
  | .cells _ t frozen => .cells (Lib.firstTab.map fun z => Value.int .u8 z).toArray t frozen
  | o => o
def layAcc : Obj → Obj
  | .cells _ t frozen => .cells ((List.range 16).flatMap fun i => [Value.int .u8 (Lib.accLo i), Value.int .u8 (Lib.accHi i)]).toArray t frozen
  | o => o
def layFld : Obj → Obj
  | .cells _ t frozen => .cells (FLDS.map fun l => Value.string ⟨l.toArray⟩).toArray t frozen
  | o => o
noncomputable def laidHeap (os : Os) : Array Obj := Array.modify (Array.modify (Array.modify (World.holding Tryd.prog os ⟨#[], #[], []⟩).heap 1 layFirst) 2 layAcc) 0 layFld
/-- A world for the witness: the settled one, the tables holding what the text lays. -/
noncomputable def laidWorld (os : Os) : World := { World.holding Tryd.prog os ⟨#[], #[], []⟩ with heap := laidHeap os }

/- Trees as arguments, and how great they are. -/
open Go.ChangeShapes Go.WideShapes Go.ChangeAt Go.RowKit

section
variable {H : Type} {enc : TypeId × Value → H} {w : World} {base : Nat} {spare : Nat → Bool} {held : Bool}
theorem weightsAll_mem {P : Program} {e : TypeId} : ∀ {l : List (DataW H)} {d : DataW H}, d ∈ l → ∀ n ∈ d.weights P e, n ∈ DataW.weightsAll P e l
  | x :: r, d, h, n, hn => by
    simp only [DataW.weightsAll, List.mem_append]
    rcases List.mem_cons.1 h with rfl | h
    · exact .inl hn
    · exact .inr (weightsAll_mem h n hn)
def Under' (ws : List Nat) (k : Nat) : Prop := k = 0 ∨ ∃ n ∈ ws, k ≤ n
theorem bytes_sized {fuel : Nat} {v : Value} {x : DataW H × List MemPlace} (h : DataW.trod enc Tryd.prog w base spare held fuel 44 [v] = some x) {l : List UInt8} (hb : ByAt w v l) : Under' (x.1.weights Tryd.prog 44) l.length := by
  have hbo : Tryd.prog.bytesOf 5 = 1 := by kernel_rfl
  obtain ⟨a, c, rfl⟩ := hb.slc
  rcases DataW.trod_slice Tryd.underlying44 h with ⟨e, _⟩ | ⟨a', len, cap, elems, rest, m, _, e, hx, _, _, _, hlen, _, _, _⟩
  · injection e with e; injection e with _ e _; exact .inl e
  · injection e with e
    injection e with _ e _
    refine .inr ⟨(elems.length + rest.length) * Tryd.prog.bytesOf 5, ?_, by rw [hbo]; omega⟩
    rw [hx]
    simp [DataW.weights, Tryd.underlying44]
theorem file_sized {fuel : Nat} {cs : List Value} {x : DataW H × List MemPlace} (h : DataW.trod enc Tryd.prog w base spare held fuel 46 cs = some x) :
    ∃ (f : FileE) (v : Value), f.path.size ≤ maxLen ∧ cs = [.string f.path, v] ∧ ByAt w v f.bytes ∧ Under' (x.1.weights Tryd.prog 46) f.bytes.length := by
  obtain ⟨f, v, h1, h2, h3⟩ := file_cells h
  refine ⟨f, v, h1, h2, h3, ?_⟩
  obtain ⟨xs, m, _, hx, _, hxl, hg⟩ := DataW.trod_struct Tryd.underlying46 h
  have hx2 : xs.length = 2 := hxl
  clear hxl
  obtain ⟨y0, y1, rfl⟩ : ∃ y0 y1, xs = [y0, y1] := by
    match xs, hx2 with
    | [a, b], _ => exact ⟨a, b, rfl⟩
  have hcb : Tryd.prog.cellsOf 44 = 1 := by kernel_rfl
  have g1 : DataW.trod enc Tryd.prog w base spare held m 44 ((cs.drop 1).take (Tryd.prog.cellsOf 44)) = some y1 := hg 1 _ rfl
  rw [hcb, h2] at g1
  have g2 : DataW.trod enc Tryd.prog w base spare held m 44 [v] = some y1 := g1
  rcases bytes_sized g2 h3 with q | ⟨n, q1, q2⟩
  · exact .inl q
  · refine .inr ⟨n, ?_, q2⟩
    rw [hx]
    simp only [DataW.weights, Tryd.underlying46, List.map_cons, List.map_nil]
    show n ∈ DataW.weightsEach Tryd.prog [9, 44] [y0.1, y1.1]
    simp only [DataW.weightsEach, List.mem_append]
    exact .inr (.inl q1)
theorem tree_sized {fuel : Nat} {v : Value} {x : DataW H × List MemPlace} (h : DataW.trod enc Tryd.prog w base spare held fuel 27 [v] = some x) :
    ∃ l : List FileE, TreeAt w v l ∧ Under' (x.1.weights Tryd.prog 27) (l.length * 40) ∧ ∀ f ∈ l, Under' (x.1.weights Tryd.prog 27) f.bytes.length := by
  have hbo : Tryd.prog.bytesOf 46 = 40 := by kernel_rfl
  have hcc : Tryd.prog.cellsOf 46 = 2 := by kernel_rfl
  obtain ⟨v', l, e, ht⟩ := tree_open h
  injection e with e
  subst e
  refine ⟨l, ht, ?_⟩
  obtain ⟨ta, tc, rfl⟩ := ht.slc
  rcases DataW.trod_slice Tryd.underlying27 h with ⟨e, _⟩ | ⟨a', len, cap, elems, rest, m, _, e, hx, _, _, _, hlen, hel, _, _⟩
  · injection e with e; injection e with _ e _
    have : l = [] := List.eq_nil_of_length_eq_zero e
    subst this
    exact ⟨.inl rfl, fun f hf => by simp at hf⟩
  · injection e with e
    injection e with ea e _
    subst ea
    refine ⟨.inr ⟨(elems.length + rest.length) * Tryd.prog.bytesOf 46, by rw [hx]; simp [DataW.weights, Tryd.underlying27], by rw [hbo]; omega⟩, fun f hf => ?_⟩
    obtain ⟨i, hi, rfl⟩ := List.getElem_of_mem hf
    have h1 := hel i (by omega)
    rw [hcc, List.getElem?_eq_getElem (by omega)] at h1
    obtain ⟨c, hc, htr⟩ := Option.bind_eq_some_iff.1 h1
    obtain ⟨g, y, _, hcs, hgy, hu⟩ := file_sized htr
    -- the same file
    obtain ⟨_, b, o, x2, eb, hbl, hr, hB⟩ := ht.file (List.getElem?_eq_getElem hi)
    injection eb with eb
    subst eb
    obtain ⟨_, _, hc3⟩ := World.cells?_some hc
    have c1 := hc3 1 (by omega)
    rw [Addr.add_mid, Addr.add_mid] at c1
    have r1 := hr 1 _ rfl
    rw [c1, hcs] at r1
    have hxy : y = x2 := by simpa using r1
    subst hxy
    have hlen2 : g.bytes.length = l[i].bytes.length := by
      obtain ⟨_, _, e1⟩ := hgy.slc
      obtain ⟨_, _, e2⟩ := hB.slc
      rw [e1] at e2
      injection e2
    rw [← hlen2]
    rcases hu with q | ⟨n, q1, q2⟩
    · exact .inl q
    · refine .inr ⟨n, ?_, q2⟩
      rw [hx]
      simp only [DataW.weights, Tryd.underlying27]
      refine List.mem_cons.2 (.inr (List.mem_append.2 (.inl ?_)))
      exact weightsAll_mem (List.mem_map_of_mem (List.getElem_mem (by omega))) n q1
end

/- 'Rows.PlanInputsCardSaid': the inputs and the action of any target, sources and outs, or the refusal, are the document's; all stay, and what is told may be written over; whatever the target and the trees. The library's and the program's tables listed start as their text lays them (the card ties them). No other condition. -/
open Go.ChangeShapes Go.WideShapes Go.ChangeAt Go.ChangeMaps Go.RowKit

theorem Under'.le {ws : List Nat} {k : Nat} (h : Under' ws k) (hw : ∀ n ∈ ws, n ≤ 140737488351232) : k ≤ 140737488351232 := by
  rcases h with h | ⟨n, h1, h2⟩
  · omega
  · have := hw n h1; omega
def SizedT (ws : List Nat) (l : List FileE) : Prop := Under' ws (l.length * 40) ∧ ∀ f ∈ l, Under' ws f.bytes.length
theorem SizedT.small {ws : List Nat} {l : List FileE} (h : SizedT ws l) (hw : ∀ n ∈ ws, n ≤ 140737488351232) : SmallT l := ⟨h.1.le hw, fun f hf => (h.2 f hf).le hw⟩
theorem Under'.sub {ws ws' : List Nat} {k : Nat} (h : Under' ws k) (hs : ∀ n ∈ ws, n ∈ ws') : Under' ws' k := by
  rcases h with h | ⟨n, h1, h2⟩
  · exact .inl h
  · exact .inr ⟨n, hs n h1, h2⟩
theorem SizedT.sub {ws ws' : List Nat} {l : List FileE} (h : SizedT ws l) (hs : ∀ n ∈ ws, n ∈ ws') : SizedT ws' l := ⟨h.1.sub hs, fun f hf => (h.2 f hf).sub hs⟩
section
variable {H : Type} {enc : TypeId × Value → H} {w : World} {base : Nat} {spare : Nat → Bool} {held : Bool}
theorem row_open_w {ts e : TypeId} {z : Nat} (ht : Tryd.prog.underlying ts = some (.slice e)) (hcc : Tryd.prog.cellsOf e = z) (hz : 0 < z) {Q : List Value → Prop}
    {x : DataW H × List MemPlace} (hq : ∀ (m : Nat) (cs : List Value) (y : DataW H × List MemPlace), DataW.trod enc Tryd.prog w base spare held m e cs = some y → cs.length = z → (∀ n ∈ y.1.weights Tryd.prog e, n ∈ x.1.weights Tryd.prog ts) → Q cs)
    {fuel : Nat} {cs : List Value} (h : DataW.trod enc Tryd.prog w base spare held fuel ts cs = some x) :
    ∃ (v : Value) (rows : List (List Value)), cs = [v] ∧ RowAt w z v rows ∧ ∀ r ∈ rows, Q r := by
  rcases DataW.trod_slice ht h with ⟨rfl, _⟩ | ⟨a, len, cap, elems, rest, m, _, rfl, hx, hb, hl, hm, hlen, hel, _, _⟩
  · exact ⟨_, [], rfl, RowAt.nil w z 0, fun r hr => by simp at hr⟩
  · have hsp : 0 < len → a.spot = none := fun h0 => by
      have h1 := hel 0 h0
      rw [hcc, List.getElem?_eq_getElem (by omega)] at h1
      obtain ⟨c, hc, htr⟩ := Option.bind_eq_some_iff.1 h1
      obtain ⟨_, hl1, hc3⟩ := World.cells?_some hc
      have h2 := hc3 0 (by omega)
      rw [List.getElem?_eq_getElem (by omega)] at h2
      have ha : (a.add (0 * z)).add 0 = a := by simp [Addr.add]
      rw [ha] at h2
      exact World.cell?_spot h2
    have key : ∀ i, ∃ f : List Value, i < len → ∃ b q, a = ⟨b, q, none⟩ ∧ b < w.heap.size ∧ w.rangeAt b (q + i * z) f ∧ Q f := fun i => by
      by_cases hi : i < len
      · have h1 := hel i hi
        rw [hcc, List.getElem?_eq_getElem (by omega)] at h1
        obtain ⟨c, hc, htr⟩ := Option.bind_eq_some_iff.1 h1
        have hzz := World.cells?_block hc hz
        obtain ⟨hc1, hc2, hc3⟩ := World.cells?_some hc
        refine ⟨c, fun _ => ?_⟩
        obtain ⟨b, q, s⟩ := a
        have : s = none := hsp (by omega)
        subst this
        refine ⟨b, q, rfl, by simpa [block_add] using hzz, fun j v hv => ?_, hq _ _ _ htr hc2 (fun n hn => ?_)⟩
        · have hj : j < z := by have := (List.getElem?_eq_some_iff.1 hv).1; omega
          have := hc3 j hj
          rw [Addr.add_mid, Addr.add_mid] at this
          rw [this, hv]
        · rw [hx]
          simp only [DataW.weights, ht]
          refine List.mem_cons.2 (.inr (List.mem_append.2 (.inl ?_)))
          exact weightsAll_mem (List.mem_map_of_mem (List.getElem_mem (by omega))) n hn
      · exact ⟨[], fun h => absurd h hi⟩
    obtain ⟨f, hf⟩ := Classical.axiomOfChoice key
    have hlen2 : ((List.range len).map f).length = len := by simp
    refine ⟨_, (List.range len).map f, rfl, ⟨some a, cap, by rw [hlen2], by rw [hlen2]; exact hl, by rw [hlen2]; omega, fun hne => ?_⟩, fun r hr => ?_⟩
    · have h0 : 0 < len := by
        rcases Nat.eq_zero_or_pos len with h0 | h0
        · exact absurd (by rw [h0]; rfl) hne
        · exact h0
      obtain ⟨b, q, ha, hzz, _⟩ := hf 0 h0
      refine ⟨b, q, by rw [ha], hzz, fun i g hg => ?_⟩
      have hi : i < len := by have := (List.getElem?_eq_some_iff.1 hg).1; rw [hlen2] at this; exact this
      obtain ⟨b', q', ha', _, hr, _⟩ := hf i hi
      rw [ha] at ha'
      injection ha' with e1 e2
      subst e1; subst e2
      have hge : f i = g := by
        rw [List.getElem?_map, List.getElem?_range hi] at hg
        simpa using hg
      subst hge
      exact hr
    · obtain ⟨i, hi, rfl⟩ := List.mem_map.1 hr
      exact (hf i (by simpa using hi)).choose_spec.choose_spec.2.2.2
theorem trees_sized {fuel : Nat} {v : Value} {x : DataW H × List MemPlace} (h : DataW.trod enc Tryd.prog w base spare held fuel 28 [v] = some x) :
    ∃ ts : List (List FileE), TreesAt w v ts ∧ ∀ s ∈ ts, SizedT (x.1.weights Tryd.prog 28) s := by
  obtain ⟨v', rows, e, hr, hq⟩ := row_open_w (z := 1) (Q := fun cs => ∃ s : Value × List FileE, cs = [s.1] ∧ TreeAt w s.1 s.2 ∧ SizedT (x.1.weights Tryd.prog 28) s.2) Tryd.underlying28 (by kernel_rfl) (by omega)
    (fun m cs y ht _ hs => by
      obtain ⟨v, l, h1, h2⟩ := tree_open ht
      subst h1
      obtain ⟨l', q1, q2⟩ := tree_sized ht
      exact ⟨(v, l'), rfl, q1, SizedT.sub q2 hs⟩) h
  injection e with e
  subst e
  obtain ⟨ps, rfl, hp⟩ := rows_pick (f := fun s : Value × List FileE => [s.1]) rows hq
  refine ⟨ps.map (·.2), ⟨ps.map (·.1), by rw [List.length_map, List.length_map], by rw [List.map_map]; exact hr, fun j l hl => ?_⟩, fun s hs => ?_⟩
  · rw [List.getElem?_map] at hl
    cases hj : ps[j]? with
    | none => rw [hj] at hl; cases hl
    | some q =>
      rw [hj] at hl
      simp only [Option.map_some, Option.some.injEq] at hl
      subst hl
      exact ⟨q.1, by rw [List.getElem?_map, hj]; rfl, (hp q (List.mem_of_getElem? hj)).1⟩
  · obtain ⟨y, hy, rfl⟩ := List.mem_map.1 hs
    exact (hp y hy).2
end
theorem laid_pinputs : Rows.planInputsRow.laid = laidP := by kernel_rfl
set_option maxRecDepth 100000 in
theorem pinputs_contract (H : Type) (enc : TypeId × Value → H) (W : World) (base : Nat) (args : Array Value) (ds gs : List (DataW H)) (before : List MemPlace)
    (hval : ∀ (j : Nat) t v, Tryd.f4.params[j]? = some t → args[j]? = some v → Value.okWide Tryd.prog W .any base t v)
    (hW : DataW.Whole enc Tryd.prog Tryd.f4.params.toList Rows.planInputsSpec.vars false W args.toList ds gs before) (hsz : (DataW.weightsEach Tryd.prog (Tryd.f4.params.toList ++ (OpenSpec.ofChange Rows.planInputsSpec).bare.plain.varTypes Tryd.prog) (ds ++ gs)).all (· ≤ reachBytes) = true) (hL : laidMetH Tryd.prog Rows.planInputsRow.laid W) :
    Calls Tryd.prog 4 args W fun e W' => ∃ v, e = .returned v ∧ Rows.planInputsSpec.post enc Tryd.prog Tryd.f4 false true false false W args v W' := by
  rw [laid_pinputs] at hL
  have hT := flds_of hL
  have hW' := hW
  obtain ⟨p, q, hA0, hV, rfl, hfz, hnd⟩ := hW
  have hA : DataW.TrodAll enc Tryd.prog W 0 (fun _ => true) true Tryd.f4.params.toList args.toList ds p := hA0
  rw [Tryd.params4] at hA hval
  obtain ⟨v0, vs0, d0, ds0, p0, q0, hargs, rfl, rfl, h0, r0⟩ := trodAll_cons hA
  obtain ⟨v1, vs1, d1, ds1, p1, q1, rfl, rfl, rfl, h1, r1⟩ := trodAll_cons r0
  obtain ⟨v2, vs2, d2, ds2, p2, q2, rfl, rfl, rfl, h2, r2⟩ := trodAll_cons r1
  obtain ⟨rfl, rfl, rfl⟩ := trodAll_nil r2
  obtain rfl : args = #[v0, v1, v2] := by cases args; simp_all
  obtain ⟨rfl, rfl⟩ := trodVars_none hV
  have k0 := h0
  have lt0 : ∀ x ∈ p0, x.block < W.heap.size := by obtain ⟨m, hm⟩ := k0; exact DataW.trod_lt m _ _ _ hm
  obtain ⟨C0, rfl, hC0⟩ := okWide_struct Tryd.underlying25 (hval 0 25 v0 rfl rfl)
  obtain ⟨y0, vd0, vp0, rfl, hb0⟩ : ∃ (y : TgtE) (vd vp : Value), C0 = tgtC y vd vp ∧ TgtAt W y vd vp := by
    obtain ⟨fuel, hf⟩ := k0
    obtain ⟨y, vd, vp, e, ht⟩ := tgt_cells hf
    exact ⟨y, vd, vp, Array.toList_inj.1 e, ht⟩
  have k1 := h1
  have lt1 : ∀ x ∈ p1, x.block < W.heap.size := by obtain ⟨m, hm⟩ := k1; exact DataW.trod_lt m _ _ _ hm
  obtain ⟨l1, hb1, hu1⟩ : ∃ l : List FileE, TreeAt W v1 l ∧ SizedT (d1.weights Tryd.prog 27) l := by
    obtain ⟨fuel, hf⟩ := k1
    obtain ⟨a, n, cap, rfl⟩ := okWide_slice Tryd.underlying27 (hval 1 27 v1 rfl rfl)
    exact tree_sized hf
  have wz1 : ∀ n ∈ d1.weights Tryd.prog 27, n ≤ 140737488351232 := fun n hn => by
    have := List.all_eq_true.1 hsz n (DataW.weights_mem_each (j := 1) (t := 27) (by kernel_rfl) rfl n hn)
    exact of_decide_eq_true this
  have k2 := h2
  have lt2 : ∀ x ∈ p2, x.block < W.heap.size := by obtain ⟨m, hm⟩ := k2; exact DataW.trod_lt m _ _ _ hm
  obtain ⟨l2, hb2, hu2⟩ : ∃ l : List (List FileE), TreesAt W v2 l ∧ ∀ s ∈ l, SizedT (d2.weights Tryd.prog 28) s := by
    obtain ⟨fuel, hf⟩ := k2
    obtain ⟨a, n, cap, rfl⟩ := okWide_slice Tryd.underlying28 (hval 2 28 v2 rfl rfl)
    exact trees_sized hf
  have wz2 : ∀ n ∈ d2.weights Tryd.prog 28, n ≤ 140737488351232 := fun n hn => by
    have := List.all_eq_true.1 hsz n (DataW.weights_mem_each (j := 2) (t := 28) (by kernel_rfl) rfl n hn)
    exact of_decide_eq_true this
  clear hA0
  refine (pinputs_law hT hb0 hb1 hb2 (hu1.small wz1) (fun s hs => (hu2 s hs).small wz2)).mono fun e W' ⟨he, hk⟩ => ?_
  subst he
  have bel : Below W.heap.size W W' := hk.below (Nat.le_refl _) (fun _ q => q.elim)
  exact ⟨_, rfl, _, _, _, [], _, [], hW', trodAll_mk1 (shut_bool Tryd.underlying4 _), (trodAll_cons_mk (Below.trod Tryd.laidOut (by kernel_rfl) (of_decide_eq_true (by kernel_rfl)) k0 bel lt0) (trodAll_cons_mk (Below.trod Tryd.laidOut (by kernel_rfl) (of_decide_eq_true (by kernel_rfl)) k1 bel lt1) (trodAll_cons_mk (Below.trod Tryd.laidOut (by kernel_rfl) (of_decide_eq_true (by kernel_rfl)) k2 bel lt2) trodAll_mk0))), rfl, bel.frame _, fun h => by cases h⟩
theorem pinputs_met (os : Os) : laidMet Tryd.prog Rows.planInputsRow.laid ((laidWorld os).forCall (fun _ _ => 0) ⟨#[], #[.agg #[.string ⟨#[]⟩, .slice none 0 0, .int .i64 0, .slice none 0 0], .slice none 0 0, .slice none 0 0], []⟩).memory :=
  laidMet_of_run' 8 (by kernel_rfl) (by kernel_rfl)
theorem pinputs_reads (os : Os) {H : Type} (enc : TypeId × Value → H) : ∃ places, DataW.whole enc Tryd.prog ((laidWorld os).forCall (fun _ _ => 0) ⟨#[], #[.agg #[.string ⟨#[]⟩, .slice none 0 0, .int .i64 0, .slice none 0 0], .slice none 0 0, .slice none 0 0], []⟩).memory Tryd.f4.params.toList Rows.planInputsSpec.vars false (#[.agg #[.string ⟨#[]⟩, .slice none 0 0, .int .i64 0, .slice none 0 0], .slice none 0 0, .slice none 0 0] : Array Value).toList 8 = some ([.agg [.lit (.string []), .nil, .lit (.int .i64 0), .nil], .nil, .nil], [], places) :=
  ⟨[], by kernel_rfl⟩
theorem pinputs_lifted (os : Os) (started : os.Started) (H : Type) (enc : TypeId × Value → H) (F : Stop.Interp) :
    ReturnsInHanded {} Tryd.checked os 4 .any ((OpenSpec.ofChange Rows.planInputsSpec).preRow enc Tryd.prog Tryd.f4 Rows.planInputsRow.domain false Rows.planInputsRow.laid) (((OpenSpec.ofChange Rows.planInputsSpec).at F).post enc Tryd.prog Tryd.f4 false true false false) := by
  obtain ⟨places, hx⟩ := pinputs_reads os enc
  refine returnsInHanded_of_row (C := Tryd.checked) (s := OpenSpec.ofChange Rows.planInputsSpec) Tryd.own started (by kernel_rfl) Tryd.func4
    (witness_row_at (enc := enc) (C := Tryd.checked) false (laidWorld os) #[.agg #[.string ⟨#[]⟩, .slice none 0 0, .int .i64 0, .slice none 0 0], .slice none 0 0, .slice none 0 0] rfl (by kernel_rfl) (by kernel_rfl) (by kernel_rfl)
      (OpenSpec.preRow_of_cond 8 hx (by kernel_rfl) (fun k hk => by cases hk) (by kernel_rfl) (pinputs_met os))) ?_
  intro W base args ds gs before hval hW _ _ hsz hL _ _
  exact pinputs_contract H enc W base args ds gs before hval hW hsz hL
theorem pinputs_said : Rows.PlanInputsSaid :=
  OpenClaim.holds_of_cond 4 Tryd.f4 rfl rfl rfl rfl rfl rfl rfl ⟨rfl, rfl, rfl, rfl, rfl⟩ rfl rfl rfl rfl rfl (by kernel_rfl) Tryd.func4 (by kernel_rfl)
    (of_decide_eq_true (by kernel_rfl)) (by unfold Func.isWrapper; first | (rw [if_pos (by decide +kernel)]; kernel_rfl) | (rw [if_neg (by decide +kernel)]; exact ⟨rfl, rfl⟩))
    (fun os started H enc _ F => by rw [OpenClaim.pre_eq_preRow]; exact pinputs_lifted os started H enc F)
theorem pinputs_plain (f : FuncId) (fn : Func) (hf : Tryd.pinned.checked.prog.funcNamed "murmuration/murmurationlaw16.PlanInputs" = some f) (hfn : Tryd.pinned.checked.prog.funcs[f]? = some fn) :
    false = Tryd.pinned.checked.prog.looks [] ∧ ∀ (j : Nat) t, fn.params[j]? = some t → Tryd.pinned.checked.prog.wantsStandIn t = false := by
  obtain rfl : f = 4 := Option.some.inj ((show Tryd.prog.funcNamed "murmuration/murmurationlaw16.PlanInputs" = some 4 by kernel_rfl).symm.trans hf) |>.symm
  obtain rfl : fn = Tryd.f4 := (Option.some.inj (Tryd.func4.symm.trans hfn)).symm
  refine ⟨by kernel_rfl, fun j t ht => ?_⟩
  rw [Tryd.params4] at ht
  have hm : t = 25 ∨ t = 27 ∨ t = 28 := by simpa using Array.mem_of_getElem? ht
  rcases hm with rfl | rfl | rfl
  · exact (show Tryd.prog.wantsStandIn 25 = false by kernel_rfl)
  · exact (show Tryd.prog.wantsStandIn 27 = false by kernel_rfl)
  · exact (show Tryd.prog.wantsStandIn 28 = false by kernel_rfl)
theorem planInputs_card : Rows.PlanInputsCardSaid :=
  Claim7.holds_tied_plain_at .later [] _ _ _ _ pinputs_said (fun _ h => by cases h) (by kernel_rfl) (fun _ h => by cases h) planInputs_row_tie rfl ⟨rfl, rfl⟩ (by kernel_rfl) rfl pinputs_plain (by kernel_rfl)
#print axioms planInputs_card

end Go.Proofs.YtfohljljoalmoaaDoor
