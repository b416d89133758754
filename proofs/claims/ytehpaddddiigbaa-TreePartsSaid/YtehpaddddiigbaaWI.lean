/- The document's Under. -/
import Derived.Test.YtehpaddddiigbaaWH
namespace Go.Proofs.Ytehpaddddiigbaa
open Go.RowKit
set_option linter.unusedSimpArgs false
set_option linter.unusedVariables false

theorem app_one2 {w w0 : World} {v : Value} {ps : List (ByteArray × Value)} (ho : w.ownsRow w0.heap.size 43 2 v ps.length (prs ps)) {gb : Nat} {p : ByteArray} {x : Value} {fr : Nat × Nat} (hg : w.heap[gb]? = some (.cells #[.string p, x] 43 fr)) (h1 : x.oneCell' = true) (hn : ps.length ≤ 100000) (hk : Kept (fun _ => False) w0 w) (ty : TypeId) :
    ∃ a' c' w', (Builtin.append_ #[27, 27] ty #[v, .slice (some ⟨gb, 0, none⟩) 1 1]).run Try.prog w = .ok (.slice a' (ps.length + 1) c') w' ∧ w'.ownsRow w0.heap.size 43 2 (.slice a' (ps.length + 1) c') (ps.length + 1) (prs (ps ++ [(p, x)])) ∧ Kept (fun _ => False) w0 w' ∧ Kept (fun k => w0.heap.size ≤ k) w w' := by
  obtain ⟨v', w', ap, ho', hg'⟩ := app_files ho (ad := ⟨gb, 0, none⟩) (m := 1) (c := 1) (news := [.string p, x]) rfl (fun j u hu => by
    rw [Addr.add_mid, Nat.zero_add, cell_of_row _ _ _ _ _ _ hg]; simpa using hu) (fun u hu => by simp at hu; rcases hu with rfl | rfl; rfl; exact h1) (by omega) hk.size 27 ty Try.underlying27
  obtain ⟨a', c', hv⟩ := row_form ho'
  subst hv
  have k1 := grown_kept hk hg' (fun k e => (World.ownsRow.lt ho k e).1)
  exact ⟨a', c', w', ap, by rw [prs_app2]; exact ho', k1, ⟨hg'.os, hg'.tape, hg'.output, hg'.size, fun b hb hs => by rw [k1.block b (Nat.lt_of_not_le hs) not_false, hk.block b (Nat.lt_of_not_le hs) not_false]⟩⟩
set_option maxRecDepth 100000 in
set_option maxHeartbeats 4000000 in
theorem rUnder_ct {w : World} {v : Value} {l : List FileE} (h : TreeAt w v l) (d : ByteArray) (hd : d.size ≤ maxLen) :
    Calls Try.prog 30 #[v, .string d] w fun e w' => TreeOut (underC l d) (l.map (upF d)) w' e ∧ Kept (fun _ => False) w w' := by
  have mc := rMay_ct h
  have ip := fun w' => rIsPath_ct d w' hd
  obtain ⟨a, c, hv⟩ := h.slc
  subst hv
  cases hm : mayB l with
  | false =>
    have hc : underC l d = 2 := by unfold underC; rw [hm]; simp
    rw [hm] at mc
    rw [hc]
    clear hc hm
    go_enter Try.func30, Try.ntmps30
    go_wp2_with fail
    refine (mc).mono ?_
    rintro e W ⟨rfl, k1⟩
    go_wp2_with fail
    go_ret2
    exact ⟨.inl ⟨by omega, rfl⟩, k1⟩
  | true =>
    rw [hm] at mc
    cases hp : pathB d with
    | false =>
      have hc : underC l d = 2 := by unfold underC; rw [hp]; simp
      rw [hp] at ip
      rw [hc]
      clear hc hm hp
      go_enter Try.func30, Try.ntmps30
      go_wp2_with fail
      refine (mc).mono ?_
      rintro e W ⟨rfl, k1⟩
      go_wp2_with fail
      refine (ip _).mono ?_
      rintro e W2 ⟨rfl, hW2⟩
      subst hW2
      go_wp2_with fail
      go_ret2
      exact ⟨.inl ⟨by omega, rfl⟩, k1⟩
    | true =>
      have hi := mayIs hm
      have hl16 := hi.len
      have hds := pathB_size hp
      have hc : underC l d = if mayB (l.map (upF d)) = false then 8 else 0 := by unfold underC; rw [hm, hp]; simp
      rw [hp] at ip
      obtain ⟨cz, hcz⟩ : ∃ cz, cz = (if mayB (l.map (upF d)) = false then 8 else 0) := ⟨_, rfl⟩
      rw [hc, ← hcz]
      have HCZ := Lib.hid hcz
      clear hc hm hp hcz
      go_enter Try.func30, Try.ntmps30
      go_wp2_with fail
      refine (mc).mono ?_
      rintro e W ⟨rfl, k1⟩
      go_wp2_with fail
      refine (ip _).mono ?_
      rintro e W2 ⟨rfl, hW2⟩
      subst hW2
      clear mc ip
      go_wp2_with fail
      go_loopw [6, 7] (fun so si wr => ∃ (k : Nat) (ps : List (ByteArray × Value)), k ≤ l.length ∧ si = .int .i64 k ∧ (∃ aa cc, so = .slice aa ps.length cc) ∧ Hid (wr.ownsRow w.heap.size 43 2 so ps.length (prs ps) ∧ PairsAt w ps ((l.take k).map (upF d))) ∧ Kept (fun _ => False) w wr) (fun _ si _ => l.length - (intOf si).toNat)
      case atStart => exact ⟨0, [], by omega, rfl, ⟨none, 0, rfl⟩, ⟨World.ownsRow_nil _ _ _ _, ⟨rfl, fun j f hf => by simp at hf⟩⟩, k1⟩
      case round =>
        obtain ⟨k, ps, hk, rfl, ⟨aa, cc, rfl⟩, HR, hkr⟩ := hrel
        have hpl : ps.length = k := by have := HR.out.2.1; rw [List.length_map, List.length_take] at this; omega
        by_cases hlt : k < l.length
        · have hga := List.getElem?_eq_getElem hlt
          have htk : l.take (k + 1) = l.take k ++ [l[k]] := List.take_succ_eq_append_getElem hlt
          have hff := (hi.file l[k] (List.getElem_mem hlt)).2.1
          generalize l[k] = f at hga htk hff
          obtain ⟨hgs, b1, o1, y, rfl, hbl, hrx, hBg⟩ := h.file hga
          obtain ⟨ag, cg, rfl⟩ := hBg.slc
          have q0 : ∀ w', Kept (fun k => w.heap.size ≤ k) wr w' → w'.cell? ⟨b1, o1 + k * 2, none⟩ = some (.string f.path) := fun w' q => (q.cell (p := ⟨b1, o1 + k * 2, none⟩) (Nat.lt_of_lt_of_le hbl hkr.size) (Nat.not_le.2 hbl)).trans ((hkr.cell (p := ⟨b1, o1 + k * 2, none⟩) hbl not_false).trans (hrx 0 _ rfl))
          have q1 : ∀ w', Kept (fun k => w.heap.size ≤ k) wr w' → w'.cell? ⟨b1, o1 + k * 2 + 1, none⟩ = some (.slice ag f.bytes.length cg) := fun w' q => (q.cell (p := ⟨b1, o1 + k * 2 + 1, none⟩) (Nat.lt_of_lt_of_le hbl hkr.size) (Nat.not_le.2 hbl)).trans ((hkr.cell (p := ⟨b1, o1 + k * 2 + 1, none⟩) hbl not_false).trans (hrx 1 _ rfl))
          have hss := slashed_size d f.path
          have z1 : ¬ 9223372036854775807 < d.size + 1 := by omega
          have z2 : ¬ 9223372036854775807 < d.size + 1 + f.path.size := by omega
          have bf := build_f (d ++ ⟨#[47]⟩ ++ f.path) ag f.bytes.length cg
          have bs1 := bslice_f1 (d ++ ⟨#[47]⟩ ++ f.path) ag f.bytes.length cg wr.drew
          have hg2 := heap_last wr.drew (.cells #[.string (d ++ ⟨#[47]⟩ ++ f.path), .slice ag f.bytes.length cg] 43)
          have k12 : Kept (fun _ => False) wr (wr.drew.alloc (.cells #[.string (d ++ ⟨#[47]⟩ ++ f.path), .slice ag f.bytes.length cg] 43)) := (Kept.refl _ wr).drew.alloc _
          have ks1 : Kept (fun k => w.heap.size ≤ k) wr (wr.drew.alloc (.cells #[.string (d ++ ⟨#[47]⟩ ++ f.path), .slice ag f.bytes.length cg] 43)) := (Kept.refl _ wr).drew.alloc _
          generalize wr.drew.alloc (.cells #[.string (d ++ ⟨#[47]⟩ ++ f.path), .slice ag f.bytes.length cg] 43) = W2' at bs1 hg2 k12 ks1
          obtain ⟨aA, cA, WA, ap3, ho3, k3, ks23⟩ := app_one2 (row_kept HR.out.1 k12) hg2 rfl (by omega) (hkr.trans k12) 27
          have ks3 := ks1.trans ks23
          have HN : Hid (WA.ownsRow w.heap.size 43 2 (.slice aA (ps.length + 1) cA) (ps.length + 1) (prs (ps ++ [(slashed d f.path, .slice ag f.bytes.length cg)])) ∧ PairsAt w (ps ++ [(slashed d f.path, .slice ag f.bytes.length cg)]) ((l.take (k + 1)).map (upF d))) := by
            refine ⟨ho3, ?_⟩
            rw [htk, List.map_append]
            exact HR.out.2.snoc (f := upF d f) (by show (slashed d f.path).size ≤ _; simp only [maxLen]; omega) hBg
          clear hrx hBg hga htk HR ho3 hg2 hss
          have HPL := Lib.hid hpl
          clear hpl
          have hdz : wr.drew.heap.size = wr.heap.size := rfl
          rw [hdz] at bs1 ap3
          clear hdz
          generalize wr.heap.size = B1 at bs1 ap3
          go_wp2_with fail
          refine wp_region_held_drew (S := (Kept (fun k => w.heap.size ≤ k) wr)) (by kernel_rfl) ((Kept.refl _ wr).drew) (fun hHeld => ?_)
          refine held_q (v := ?_) (i := 0) rfl (by kernel_rfl) (by kernel_rfl) (by kernel_rfl) (fun _ _ _ h => h) (by rfl) hHeld ?_ ?_
          rotate_left
          · (intro w' hS'; go_simp <;> (with_reducible rfl))
          simp only [Act.put, List.getElem_toArray, List.getElem_cons_zero, List.getElem_cons_succ, List.setIfInBounds_toArray, List.set_cons_zero, List.set_cons_succ]
          refine held_q (v := ?_) (i := 1) rfl (by kernel_rfl) (by kernel_rfl) (by kernel_rfl) (fun _ _ _ h => h) (by rfl) hHeld ?_ ?_
          rotate_left
          · (intro w' hS'; go_simp <;> (with_reducible rfl))
          simp only [Act.put, List.getElem_toArray, List.getElem_cons_zero, List.getElem_cons_succ, List.setIfInBounds_toArray, List.set_cons_zero, List.set_cons_succ]
          refine held_q (v := ?_) (i := 2) rfl (by kernel_rfl) (by kernel_rfl) (by kernel_rfl) (fun _ _ _ h => h) (by rfl) hHeld ?_ ?_
          rotate_left
          · (intro w' hS'; go_simp <;> (with_reducible rfl))
          simp only [Act.put, List.getElem_toArray, List.getElem_cons_zero, List.getElem_cons_succ, List.setIfInBounds_toArray, List.set_cons_zero, List.set_cons_succ]
          refine held_q (v := ?_) (i := 3) rfl (by kernel_rfl) (by kernel_rfl) (by kernel_rfl) (fun _ _ _ h => h) (by rfl) hHeld ?_ ?_
          rotate_left
          · (intro w' hS'; go_simp <;> (with_reducible rfl))
          simp only [Act.put, List.getElem_toArray, List.getElem_cons_zero, List.getElem_cons_succ, List.setIfInBounds_toArray, List.set_cons_zero, List.set_cons_succ]
          refine held_q (v := ?_) (i := 4) rfl (by kernel_rfl) (by kernel_rfl) (by kernel_rfl) (fun _ _ _ h => h) (by rfl) hHeld ?_ ?_
          rotate_left
          · (intro w' hS'; go_simp <;> (with_reducible rfl))
          simp only [Act.put, List.getElem_toArray, List.getElem_cons_zero, List.getElem_cons_succ, List.setIfInBounds_toArray, List.set_cons_zero, List.set_cons_succ]
          refine held_q (v := ?_) (i := 5) rfl (by kernel_rfl) (by kernel_rfl) (by kernel_rfl) (fun _ _ _ h => h) (by rfl) hHeld ?_ ?_
          rotate_left
          · (intro w' hS'; go_simp <;> (with_reducible rfl))
          simp only [Act.put, List.getElem_toArray, List.getElem_cons_zero, List.getElem_cons_succ, List.setIfInBounds_toArray, List.set_cons_zero, List.set_cons_succ]
          refine held_q (v := ?_) (i := 6) rfl (by kernel_rfl) (by kernel_rfl) (by kernel_rfl) (fun _ _ _ h => h) (by rfl) hHeld ?_ ?_
          rotate_left
          · (intro w' hS'; go_simp <;> (with_reducible rfl))
          simp only [Act.put, List.getElem_toArray, List.getElem_cons_zero, List.getElem_cons_succ, List.setIfInBounds_toArray, List.set_cons_zero, List.set_cons_succ]
          refine held_q (v := ?_) (i := 7) rfl (by kernel_rfl) (by kernel_rfl) (by kernel_rfl) (fun _ _ _ h => h) (by rfl) hHeld ?_ ?_
          rotate_left
          · (intro w' hS'; go_simp <;> (with_reducible rfl))
          simp only [Act.put, List.getElem_toArray, List.getElem_cons_zero, List.getElem_cons_succ, List.setIfInBounds_toArray, List.set_cons_zero, List.set_cons_succ]
          refine held_q (v := ?_) (i := 8) rfl (by kernel_rfl) (by kernel_rfl) (by kernel_rfl) (fun _ _ _ h => h) (by rfl) hHeld ?_ ?_
          rotate_left
          · (intro w' hS'; go_simp <;> (with_reducible rfl))
          simp only [Act.put, List.getElem_toArray, List.getElem_cons_zero, List.getElem_cons_succ, List.setIfInBounds_toArray, List.set_cons_zero, List.set_cons_succ]
          refine held_q (v := ?_) (i := 9) rfl (by kernel_rfl) (by kernel_rfl) (by kernel_rfl) (fun _ _ _ h => h) (by rfl) hHeld ?_ ?_
          rotate_left
          · (intro w' hS'; go_simp <;> (with_reducible rfl))
          simp only [Act.put, List.getElem_toArray, List.getElem_cons_zero, List.getElem_cons_succ, List.setIfInBounds_toArray, List.set_cons_zero, List.set_cons_succ]
          refine held_q (v := ?_) (i := 10) rfl (by kernel_rfl) (by kernel_rfl) (by kernel_rfl) (fun _ _ _ h => h) (by rfl) hHeld ?_ ?_
          rotate_left
          · (intro w' hS'; go_simp <;> (with_reducible rfl))
          simp only [Act.put, List.getElem_toArray, List.getElem_cons_zero, List.getElem_cons_succ, List.setIfInBounds_toArray, List.set_cons_zero, List.set_cons_succ]
          refine held_q (v := ?_) (i := 11) rfl (by kernel_rfl) (by kernel_rfl) (by kernel_rfl) (fun _ _ _ h => h) (by rfl) hHeld ?_ ?_
          rotate_left
          · (intro w' hS'; go_simp <;> (with_reducible rfl))
          simp only [Act.put, List.getElem_toArray, List.getElem_cons_zero, List.getElem_cons_succ, List.setIfInBounds_toArray, List.set_cons_zero, List.set_cons_succ]
          refine held_q (v := ?_) (i := 12) rfl (by kernel_rfl) (by kernel_rfl) (by kernel_rfl) (fun _ _ _ h => h) (by rfl) hHeld ?_ ?_
          rotate_left
          · (intro w' hS'; go_simp <;> (with_reducible rfl))
          simp only [Act.put, List.getElem_toArray, List.getElem_cons_zero, List.getElem_cons_succ, List.setIfInBounds_toArray, List.set_cons_zero, List.set_cons_succ]
          refine held_q (v := ?_) (i := 13) rfl (by kernel_rfl) (by kernel_rfl) (by kernel_rfl) (fun _ _ _ h => h) (by rfl) hHeld ?_ ?_
          rotate_left
          · (intro w' hS'; go_simp <;> (with_reducible rfl))
          simp only [Act.put, List.getElem_toArray, List.getElem_cons_zero, List.getElem_cons_succ, List.setIfInBounds_toArray, List.set_cons_zero, List.set_cons_succ]
          refine held_q (i := 14) rfl (by kernel_rfl) (by kernel_rfl) (by kernel_rfl) (fun _ _ _ h => h) (by rfl) hHeld (fun w' hS' => exec_build 43 _ rfl (by go_simp <;> rfl) (bf w')) ?_
          simp only [Act.put, List.getElem_toArray, List.getElem_cons_zero, List.getElem_cons_succ, List.setIfInBounds_toArray, List.set_cons_zero, List.set_cons_succ]
          refine held_v (i := 15) (by kernel_rfl) rfl (by rfl) (exec_buildSlice 27 1 _ rfl (by go_simp <;> rfl) bs1) (ks1) (fun hHeld => ?_)
          simp only [Act.put, List.getElem_toArray, List.getElem_cons_zero, List.getElem_cons_succ, List.setIfInBounds_toArray, List.set_cons_zero, List.set_cons_succ]
          refine held_v (i := 16) (by kernel_rfl) rfl (by rfl) (exec_append2 27 27 _ _ rfl rfl rfl ap3) (ks3) (fun hHeld => ?_)
          simp only [Act.put, List.getElem_toArray, List.getElem_cons_zero, List.getElem_cons_succ, List.setIfInBounds_toArray, List.set_cons_zero, List.set_cons_succ]
          refine held_q (v := ?_) (i := 17) rfl (by kernel_rfl) (by kernel_rfl) (by kernel_rfl) (fun _ _ _ h => h) (by rfl) hHeld ?_ ?_
          rotate_left
          · (intro w' hS'; go_simp <;> (with_reducible rfl))
          simp only [Act.put, List.getElem_toArray, List.getElem_cons_zero, List.getElem_cons_succ, List.setIfInBounds_toArray, List.set_cons_zero, List.set_cons_succ]
          refine wpAnyH_done (by kernel_rfl) ?_ _
          go_wp2_with fail
          go_roundw
          case rel => exact ⟨k + 1, ps ++ [(slashed d f.path, .slice ag f.bytes.length cg)], by omega, by go_num, ⟨aA, cA, by rw [List.length_append]; rfl⟩, by rw [List.length_append]; exact HN.out, k3⟩
          case measure => simp [intOf]; omega
        · obtain rfl : k = l.length := by omega
          have hHR := HR.out
          rw [List.take_length] at hHR
          have ht := TreeAt.of_row hHR.1 (hHR.2.kept hkr)
          have md := rMade_ct ht
          have HPL := Lib.hid hpl
          clear hpl
          have HT := Lib.hid ht
          clear hHR HR ht
          go_wp2_with fail
          refine md.mono ?_
          rintro e W4 ⟨hr, k4⟩
          rcases hr with ⟨hm, rfl⟩ | ⟨hm, rfl⟩
          · go_wp2_with fail
            go_ret2
            exact ⟨.inr ⟨by rw [HCZ.out, hm]; rfl, _, rfl, HT.out.kept k4⟩, hkr.trans k4⟩
          · go_wp2_with fail
            go_ret2
            exact ⟨.inl ⟨by rw [HCZ.out, hm]; simp, by rw [HCZ.out, hm]; rfl⟩, hkr.trans k4⟩
end Go.Proofs.Ytehpaddddiigbaa
