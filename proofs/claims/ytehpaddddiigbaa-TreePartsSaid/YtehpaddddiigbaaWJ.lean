/- The document's Below; Below of any tree. -/
import Derived.Test.YtehpaddddiigbaaWI
import Derived.Test.YtehpaddddiigbaaWC
namespace Go.Proofs.Ytehpaddddiigbaa
open Go.RowKit
set_option linter.unusedSimpArgs false
set_option linter.unusedVariables false

def belowR (l : List FileE) (d : ByteArray) : List FileE := if (mayB l && pathB d) = true then belowL d l else []
set_option maxHeartbeats 1000000 in
theorem below_anyS {w : World} {v : Value} {l : List FileE} (h : TreeAt w v l) (d : ByteArray) (hd : d.size ≤ maxLen) :
    Calls Try.prog 20 #[v, .string d] w fun e w' => ∃ v', e = .returned v' ∧ TreeAt w' v' (belowR l d) ∧ OwnT w.heap.size w' v' (belowR l d).length ∧ Kept (fun _ => False) w w' := by
  have mc := may_ct h
  have ip := fun w' => isPath_ct d w' hd
  cases hm : mayB l with
  | false =>
    have hr : belowR l d = [] := by unfold belowR; rw [hm]; simp
    rw [hm] at mc
    rw [hr]
    obtain ⟨a, c, hv⟩ := h.slc
    subst hv
    clear hr hm
    go_enter Try.func20, Try.ntmps20
    go_wp2_with fail
    refine (mc).mono ?_
    rintro e W ⟨rfl, k1⟩
    go_wp2_with fail
    go_ret
    exact ⟨_, rfl, TreeAt.nil _ 0, OwnT.nil _ _, k1⟩
  | true =>
    cases hp : pathB d with
    | false =>
      have hr : belowR l d = [] := by unfold belowR; rw [hp]; simp
      rw [hm] at mc
      rw [hp] at ip
      rw [hr]
      obtain ⟨a, c, hv⟩ := h.slc
      subst hv
      clear hr hm hp
      go_enter Try.func20, Try.ntmps20
      go_wp2_with fail
      refine (mc).mono ?_
      rintro e W ⟨rfl, k1⟩
      go_wp2_with fail
      refine (ip _).mono ?_
      rintro e W2 ⟨rfl, k2⟩
      go_wp2_with fail
      go_ret
      exact ⟨_, rfl, TreeAt.nil _ 0, OwnT.nil _ _, k1.trans k2⟩
    | true =>
      have hr : belowR l d = belowL d l := by unfold belowR; rw [hm, hp]; simp
      rw [hr]
      exact below_ctS h hm hp
theorem path_dir (d : ByteArray) : pathB (dirS d) = false := by
  rw [pathB_L]
  unfold dirS
  rw [nums_app]
  unfold pathL
  have : (nums d ++ nums ⟨#[47]⟩).getLastD 0 = 47 := by
    rw [List.getLastD_eq_getLast?, List.getLast?_append]
    rfl
  rw [this]; simp
theorem has_short {s d : ByteArray} (hs : pathB s = true) (h : s.size ≤ d.size + 1) : hasB s (dirS d) = false := by
  rw [Bool.eq_false_iff]
  intro hb
  unfold hasB at hb
  have hz : (dirS d).size = d.size + 1 := by unfold dirS; rw [ByteArray.size_append]; rfl
  rw [Bool.and_eq_true, hz] at hb
  have h1 : d.size + 1 ≤ s.size := by simpa using hb.1
  have h2 : s.size = d.size + 1 := by omega
  have h3 : s.extract 0 (d.size + 1) = dirS d := ba_ext (by simpa using hb.2)
  rw [← h2, ByteArray.extract_zero_size] at h3
  rw [h3, path_dir] at hs; cases hs

set_option maxRecDepth 100000 in
set_option maxHeartbeats 4000000 in
theorem rBelow_ct {w : World} {v : Value} {l : List FileE} (h : TreeAt w v l) (d : ByteArray) (hd : d.size ≤ maxLen) :
    Calls Try.prog 29 #[v, .string d] w fun e w' => ∃ v', e = .returned v' ∧ TreeAt w' v' (belowR l d) ∧ Kept (fun _ => False) w w' := by
  have mc := rMay_ct h
  have ip := fun w' => rIsPath_ct d w' hd
  obtain ⟨a, c, hv⟩ := h.slc
  subst hv
  cases hm : mayB l with
  | false =>
    have hr : belowR l d = [] := by unfold belowR; rw [hm]; simp
    rw [hm] at mc
    rw [hr]
    clear hr hm
    go_enter Try.func29, Try.ntmps29
    go_wp2_with fail
    refine (mc).mono ?_
    rintro e W ⟨rfl, k1⟩
    go_wp2_with fail
    go_ret
    exact ⟨_, rfl, TreeAt.nil _ 0, k1⟩
  | true =>
    rw [hm] at mc
    cases hp : pathB d with
    | false =>
      have hr : belowR l d = [] := by unfold belowR; rw [hp]; simp
      rw [hp] at ip
      rw [hr]
      clear hr hm hp
      go_enter Try.func29, Try.ntmps29
      go_wp2_with fail
      refine (mc).mono ?_
      rintro e W ⟨rfl, k1⟩
      go_wp2_with fail
      refine (ip _).mono ?_
      rintro e W2 ⟨rfl, hW2⟩
      subst hW2
      go_wp2_with fail
      go_ret
      exact ⟨_, rfl, TreeAt.nil _ 0, k1⟩
    | true =>
      have hi := mayIs hm
      have hl16 := hi.len
      have hds := pathB_size hp
      have hr : belowR l d = belowL d l := by unfold belowR; rw [hm, hp]; simp
      rw [hr]
      rw [hp] at ip
      clear hr hm hp
      go_enter Try.func29, Try.ntmps29
      go_wp2_with fail
      refine (mc).mono ?_
      rintro e W ⟨rfl, k1⟩
      go_wp2_with fail
      refine (ip _).mono ?_
      rintro e W2 ⟨rfl, hW2⟩
      subst hW2
      clear mc ip
      go_wp2_with fail
      go_loopw [5, 6] (fun so si wr => ∃ (k : Nat) (ps : List (ByteArray × Value)), k ≤ l.length ∧ si = .int .i64 k ∧ (∃ aa cc, so = .slice aa ps.length cc) ∧ Hid (wr.ownsRow w.heap.size 43 2 so ps.length (prs ps) ∧ PairsAt w ps (belowL d (l.take k))) ∧ Kept (fun _ => False) w wr) (fun _ si _ => l.length - (intOf si).toNat)
      case atStart => exact ⟨0, [], by omega, rfl, ⟨none, 0, rfl⟩, ⟨World.ownsRow_nil _ _ _ _, ⟨rfl, fun j f hf => by simp [belowL] at hf⟩⟩, k1⟩
      case round =>
        obtain ⟨k, ps, hk, rfl, ⟨aa, cc, rfl⟩, HR, hkr⟩ := hrel
        by_cases hlt : k < l.length
        · have hga := List.getElem?_eq_getElem hlt
          have hpl : ps.length ≤ 16 := by
            have h1 := HR.out.2.1
            have h2 := belowL_len d (l.take k)
            have h3 : (l.take k).length ≤ 16 := by rw [List.length_take]; omega
            omega
          have hfi := hi.file l[k] (List.getElem_mem hlt)
          generalize l[k] = f at hga hfi
          obtain ⟨hgs, b1, o1, y, rfl, hbl, hrx, hBg⟩ := h.file hga
          obtain ⟨ag, cg, rfl⟩ := hBg.slc
          have hff := hfi.2.1
          have q0 : wr.cell? ⟨b1, o1 + k * 2, none⟩ = some (.string f.path) := (hkr.cell (p := ⟨b1, o1 + k * 2, none⟩) hbl not_false).trans (hrx 0 _ rfl)
          by_cases hlen : d.size + 1 < f.path.size
          · have d1 : decide ((d.size : Int) + 1 < (f.path.size : Int)) = true := decide_eq_true (by omega)
            have i1 : (d.size : Int) + 1 ≤ (f.path.size : Int) := by omega
            have i2 : (0 : Int) ≤ (d.size : Int) + 1 := by omega
            have hhs : hasB f.path (dirS d) = ((f.path.extract 0 (d.size + 1)).toList == (d ++ ⟨#[47]⟩).toList) := by
              unfold hasB
              have hz : (dirS d).size = d.size + 1 := by unfold dirS; rw [ByteArray.size_append]; rfl
              rw [hz, decide_eq_true (by omega)]; rfl
            cases hpe : ((f.path.extract 0 (d.size + 1)).toList == (d ++ ⟨#[47]⟩).toList) with
            | false =>
              have hhb : hasB f.path (dirS d) = false := hhs.trans hpe
              have hbe := belowL_no hga hhb
              have HN : Hid (wr.ownsRow w.heap.size 43 2 (.slice aa ps.length cc) ps.length (prs ps) ∧ PairsAt w ps (belowL d (l.take (k + 1)))) := ⟨HR.out.1, by rw [hbe]; exact HR.out.2⟩
              clear hrx hBg hga HR hbe hhb hhs
              go_wp2_with fail
              go_roundw
              case rel => exact ⟨k + 1, ps, by omega, by go_num, ⟨aa, cc, rfl⟩, HN, hkr⟩
              case measure => simp [intOf]; omega
            | true =>
              have hhb : hasB f.path (dirS d) = true := hhs.trans hpe
              have hbe := belowL_yes hga hhb
              have hrest : restS d f.path = f.path.extract (d.size + 1) f.path.size := by
                unfold restS
                have hz : (dirS d).size = d.size + 1 := by unfold dirS; rw [ByteArray.size_append]; rfl
                rw [hz]
              have hrs : (restS d f.path).size ≤ f.path.size := extract_le _ _ _
              have q1 : ∀ w', Kept (fun k => w.heap.size ≤ k) wr w' → w'.cell? ⟨b1, o1 + k * 2 + 1, none⟩ = some (.slice ag f.bytes.length cg) := fun w' q => (q.cell (p := ⟨b1, o1 + k * 2 + 1, none⟩) (Nat.lt_of_lt_of_le hbl hkr.size) (Nat.not_le.2 hbl)).trans ((hkr.cell (p := ⟨b1, o1 + k * 2 + 1, none⟩) hbl not_false).trans (hrx 1 _ rfl))
              have wds : IntKind.i64.wrap ((d.size : Int) + 1) = (d.size : Int) + 1 := IntWalk.i64_in _ (by omega)
              have tn : ((d.size : Int) + 1).toNat = d.size + 1 := by omega
              have bf := build_f (f.path.extract (d.size + 1) f.path.size) ag f.bytes.length cg
              have bs1 := bslice_f1 (f.path.extract (d.size + 1) f.path.size) ag f.bytes.length cg wr.drew
              have hg2 := heap_last wr.drew (.cells #[.string (f.path.extract (d.size + 1) f.path.size), .slice ag f.bytes.length cg] 43)
              have k12 : Kept (fun _ => False) wr (wr.drew.alloc (.cells #[.string (f.path.extract (d.size + 1) f.path.size), .slice ag f.bytes.length cg] 43)) := (Kept.refl _ wr).drew.alloc _
              have ks1 : Kept (fun k => w.heap.size ≤ k) wr (wr.drew.alloc (.cells #[.string (f.path.extract (d.size + 1) f.path.size), .slice ag f.bytes.length cg] 43)) := (Kept.refl _ wr).drew.alloc _
              generalize wr.drew.alloc (.cells #[.string (f.path.extract (d.size + 1) f.path.size), .slice ag f.bytes.length cg] 43) = W2' at bs1 hg2 k12 ks1
              obtain ⟨aA, cA, WA, ap3, ho3, k3, ks23⟩ := app_one2 (row_kept HR.out.1 k12) hg2 rfl (by omega) (hkr.trans k12) 27
              have ks3 := ks1.trans ks23
              have HN : Hid (WA.ownsRow w.heap.size 43 2 (.slice aA (ps.length + 1) cA) (ps.length + 1) (prs (ps ++ [(f.path.extract (d.size + 1) f.path.size, .slice ag f.bytes.length cg)])) ∧ PairsAt w (ps ++ [(f.path.extract (d.size + 1) f.path.size, .slice ag f.bytes.length cg)]) (belowL d (l.take (k + 1)))) := by
                refine ⟨ho3, ?_⟩
                rw [hbe, ← hrest]
                exact HR.out.2.snoc (f := ⟨restS d f.path, f.bytes⟩) (by show (restS d f.path).size ≤ _; simp only [maxLen]; omega) hBg
              have hdz : wr.drew.heap.size = wr.heap.size := rfl
              rw [hdz] at bs1 ap3
              clear hrx hBg hga HR ho3 hg2 hdz hbe hhb hhs hrest hrs
              generalize wr.heap.size = B1 at bs1 ap3
              go_wp2_with fail
              refine wp_region_held_drew (S := (Kept (fun k => w.heap.size ≤ k) wr)) (by kernel_rfl) ((Kept.refl _ wr).drew) (fun hHeld => ?_)
              refine held_q (v := ?_) (i := 0) rfl (by kernel_rfl) (by kernel_rfl) (by kernel_rfl) (fun _ _ _ h => h) (by rfl) hHeld ?_ ?_
              rotate_left
              · (intro w' hS'; go_simp <;> (with_reducible rfl))
              simp only [Act.put, List.getElem_toArray, List.getElem_cons_zero, List.getElem_cons_succ, List.setIfInBounds_toArray, List.set_cons_zero, List.set_cons_succ]
              refine held_q (v := ?_) (i := 1) rfl (by kernel_rfl) (by kernel_rfl) (by kernel_rfl) (fun _ _ _ h => h) (by rfl) hHeld ?_ ?_
              rotate_left
              · (intro w' hS'; go_simp <;> (with_reducible rfl))
              simp only [Act.put, List.getElem_toArray, List.getElem_cons_zero, List.getElem_cons_succ, List.setIfInBounds_toArray, List.set_cons_zero, List.set_cons_succ]
              refine held_q (v := ?_) (i := 2) rfl (by kernel_rfl) (by kernel_rfl) (by kernel_rfl) (fun _ _ _ h => h) (by rfl) hHeld ?_ ?_
              rotate_left
              · (intro w' hS'; go_simp <;> (with_reducible rfl))
              simp only [Act.put, List.getElem_toArray, List.getElem_cons_zero, List.getElem_cons_succ, List.setIfInBounds_toArray, List.set_cons_zero, List.set_cons_succ]
              refine held_q (v := ?_) (i := 3) rfl (by kernel_rfl) (by kernel_rfl) (by kernel_rfl) (fun _ _ _ h => h) (by rfl) hHeld ?_ ?_
              rotate_left
              · (intro w' hS'; go_simp <;> (with_reducible rfl))
              simp only [Act.put, List.getElem_toArray, List.getElem_cons_zero, List.getElem_cons_succ, List.setIfInBounds_toArray, List.set_cons_zero, List.set_cons_succ]
              refine held_q (v := ?_) (i := 4) rfl (by kernel_rfl) (by kernel_rfl) (by kernel_rfl) (fun _ _ _ h => h) (by rfl) hHeld ?_ ?_
              rotate_left
              · (intro w' hS'; go_simp <;> (with_reducible rfl))
              simp only [Act.put, List.getElem_toArray, List.getElem_cons_zero, List.getElem_cons_succ, List.setIfInBounds_toArray, List.set_cons_zero, List.set_cons_succ]
              refine held_q (v := ?_) (i := 5) rfl (by kernel_rfl) (by kernel_rfl) (by kernel_rfl) (fun _ _ _ h => h) (by rfl) hHeld ?_ ?_
              rotate_left
              · (intro w' hS'; go_simp <;> (with_reducible rfl))
              simp only [Act.put, List.getElem_toArray, List.getElem_cons_zero, List.getElem_cons_succ, List.setIfInBounds_toArray, List.set_cons_zero, List.set_cons_succ]
              refine held_q (v := ?_) (i := 6) rfl (by kernel_rfl) (by kernel_rfl) (by kernel_rfl) (fun _ _ _ h => h) (by rfl) hHeld ?_ ?_
              rotate_left
              · (intro w' hS'; go_simp <;> (with_reducible rfl))
              simp only [Act.put, List.getElem_toArray, List.getElem_cons_zero, List.getElem_cons_succ, List.setIfInBounds_toArray, List.set_cons_zero, List.set_cons_succ]
              refine held_q (v := ?_) (i := 7) rfl (by kernel_rfl) (by kernel_rfl) (by kernel_rfl) (fun _ _ _ h => h) (by rfl) hHeld ?_ ?_
              rotate_left
              · (intro w' hS'; go_simp <;> (with_reducible rfl))
              simp only [Act.put, List.getElem_toArray, List.getElem_cons_zero, List.getElem_cons_succ, List.setIfInBounds_toArray, List.set_cons_zero, List.set_cons_succ]
              refine held_q (v := ?_) (i := 8) rfl (by kernel_rfl) (by kernel_rfl) (by kernel_rfl) (fun _ _ _ h => h) (by rfl) hHeld ?_ ?_
              rotate_left
              · (intro w' hS'; go_simp <;> (with_reducible rfl))
              simp only [Act.put, List.getElem_toArray, List.getElem_cons_zero, List.getElem_cons_succ, List.setIfInBounds_toArray, List.set_cons_zero, List.set_cons_succ]
              refine held_q (v := ?_) (i := 9) rfl (by kernel_rfl) (by kernel_rfl) (by kernel_rfl) (fun _ _ _ h => h) (by rfl) hHeld ?_ ?_
              rotate_left
              · (intro w' hS'; go_simp <;> (with_reducible rfl))
              simp only [Act.put, List.getElem_toArray, List.getElem_cons_zero, List.getElem_cons_succ, List.setIfInBounds_toArray, List.set_cons_zero, List.set_cons_succ]
              refine held_q (v := ?_) (i := 10) rfl (by kernel_rfl) (by kernel_rfl) (by kernel_rfl) (fun _ _ _ h => h) (by rfl) hHeld ?_ ?_
              rotate_left
              · (intro w' hS'; go_simp <;> (with_reducible rfl))
              simp only [Act.put, List.getElem_toArray, List.getElem_cons_zero, List.getElem_cons_succ, List.setIfInBounds_toArray, List.set_cons_zero, List.set_cons_succ]
              refine held_q (i := 11) rfl (by kernel_rfl) (by kernel_rfl) (by kernel_rfl) (fun _ _ _ h => h) (by rfl) hHeld (fun w' hS' => exec_build 43 _ rfl (by go_simp <;> rfl) (bf w')) ?_
              simp only [Act.put, List.getElem_toArray, List.getElem_cons_zero, List.getElem_cons_succ, List.setIfInBounds_toArray, List.set_cons_zero, List.set_cons_succ]
              refine held_v (i := 12) (by kernel_rfl) rfl (by rfl) (exec_buildSlice 27 1 _ rfl (by go_simp <;> rfl) bs1) (ks1) (fun hHeld => ?_)
              simp only [Act.put, List.getElem_toArray, List.getElem_cons_zero, List.getElem_cons_succ, List.setIfInBounds_toArray, List.set_cons_zero, List.set_cons_succ]
              refine held_v (i := 13) (by kernel_rfl) rfl (by rfl) (exec_append2 27 27 _ _ rfl rfl rfl ap3) (ks3) (fun hHeld => ?_)
              simp only [Act.put, List.getElem_toArray, List.getElem_cons_zero, List.getElem_cons_succ, List.setIfInBounds_toArray, List.set_cons_zero, List.set_cons_succ]
              refine held_q (v := ?_) (i := 14) rfl (by kernel_rfl) (by kernel_rfl) (by kernel_rfl) (fun _ _ _ h => h) (by rfl) hHeld ?_ ?_
              rotate_left
              · (intro w' hS'; go_simp <;> (with_reducible rfl))
              simp only [Act.put, List.getElem_toArray, List.getElem_cons_zero, List.getElem_cons_succ, List.setIfInBounds_toArray, List.set_cons_zero, List.set_cons_succ]
              refine wpAnyH_done (by kernel_rfl) ?_ _
              go_wp2_with fail
              go_roundw
              case rel => exact ⟨k + 1, ps ++ [(f.path.extract (d.size + 1) f.path.size, .slice ag f.bytes.length cg)], by omega, by go_num, ⟨aA, cA, by rw [List.length_append]; rfl⟩, by rw [List.length_append]; exact HN.out, k3⟩
              case measure => simp [intOf]; omega
          · have d1 : decide ((d.size : Int) + 1 < (f.path.size : Int)) = false := decide_eq_false (by omega)
            have hhb := has_short hfi.1 (show f.path.size ≤ d.size + 1 by omega)
            have hbe := belowL_no hga hhb
            have HN : Hid (wr.ownsRow w.heap.size 43 2 (.slice aa ps.length cc) ps.length (prs ps) ∧ PairsAt w ps (belowL d (l.take (k + 1)))) := ⟨HR.out.1, by rw [hbe]; exact HR.out.2⟩
            clear hrx hBg hga HR hbe hhb
            go_wp2_with fail
            go_roundw
            case rel => exact ⟨k + 1, ps, by omega, by go_num, ⟨aa, cc, rfl⟩, HN, hkr⟩
            case measure => simp [intOf]; omega
        · obtain rfl : k = l.length := by omega
          have hHR := HR.out
          rw [List.take_length] at hHR
          have HT := Lib.hid (TreeAt.of_row hHR.1 (hHR.2.kept hkr))
          clear hHR HR
          go_wp2_with fail
          go_ret
          exact ⟨_, rfl, HT.out, hkr⟩
end Go.Proofs.Ytehpaddddiigbaa
