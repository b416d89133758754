/- The document's Copy, of trees of whatever size. -/
import Derived.Test.YtehpaddddiigbaaWI
namespace Go.Proofs.Ytehpaddddiigbaa
open Go.RowKit
set_option linter.unusedSimpArgs false
set_option linter.unusedVariables false

theorem app_byL {w : World} {base n : Nat} {v x : Value} {xs : List Value} {l : List UInt8} (h : w.ownsRow base 5 1 v n xs) (hx : ByAt w x l) (hn : n + l.length ≤ 140737488351232) (hb : base ≤ w.heap.size) (ty : TypeId) :
    ∃ v' w', (Builtin.append_ #[25, 25] ty #[v, x]).run Try.prog w = .ok v' w' ∧ w'.ownsRow base 5 1 v' (n + l.length) (xs ++ bv l) ∧ w.grownBy w' v.ownBlock := by
  obtain ⟨i, hi⟩ : ∃ i, Try.prog.info? 5 = some i := ⟨_, rfl⟩
  obtain ⟨z, hz⟩ : ∃ z, i.zero = some z := by injection hi with hi; subst hi; exact ⟨_, rfl⟩
  have hs : i.size = 1 := by injection hi with hi; subst hi; rfl
  have hzs : z.cells.size = 1 := by injection hi with hi; subst hi; injection hz with hz; subst hz; rfl
  have hby : i.bytes ≤ 1 := by injection hi with hi; subst hi; decide
  obtain ⟨a, cap, rfl, hl, ha⟩ := hx
  cases a with
  | none =>
    have hl0 : l = [] := by
      apply Classical.byContradiction; intro hh
      obtain ⟨b, o, e, _⟩ := ha hh; cases e
    subst hl0
    refine ⟨v, w, ?_, by simpa [bv] using h, ⟨rfl, rfl, rfl, Nat.le_refl _, fun _ _ _ => rfl⟩⟩
    rcases h.2 with ⟨rfl, rfl⟩ | ⟨g, cap', cur, rfl, _, _, hnc, _⟩
    · simp [Builtin.append_, run_underlying Try.underlying25, sizeOf, typeInfo, hi, Builtin.lenOf, Builtin.firstCells]
    · simp [Builtin.append_, run_underlying Try.underlying25, sizeOf, typeInfo, hi, Builtin.lenOf, Builtin.firstCells, hnc, storeCells]
  | some ad =>
    obtain ⟨v', w', a1, a2, a3, _⟩ := run_append_own (P := Try.prog) w base 25 ty 5 i z 1 i.bytes Try.underlying25 hi hz hs rfl hzs (by omega) v n xs h ad l.length cap (bv l) (by simp [bv])
      (fun j u hu => by
        have hne : l ≠ [] := fun e => by subst e; simp [bv] at hu
        obtain ⟨b, o, e, _, hr⟩ := ha hne
        injection e with e; subst e
        rw [Addr.add_mid]; exact hr j u hu) (bv_one l) (by simp only [maxLen]; omega)
      (by have : (n + l.length) * i.bytes ≤ 140737488351232 * 1 := Nat.mul_le_mul hn hby; omega) hb
    exact ⟨v', w', a1, a2, a3⟩
theorem app_filesL {w : World} {base n : Nat} {v : Value} {xs : List Value} (h : w.ownsRow base 43 2 v n xs) {ad : Addr} {m c : Nat} {news : List Value} (hl : news.length = m * 2) (hnews : ∀ j u, news[j]? = some u → w.cell? (ad.add j) = some u) (h1 : ∀ u ∈ news, u.oneCell' = true) (hn : (n + m) * 40 ≤ 140737488351232) (hb : base ≤ w.heap.size) (t ty : TypeId) (ht : Try.prog.underlying t = some (.slice 43)) :
    ∃ v' w', (Builtin.append_ #[t, t] ty #[v, .slice (some ad) m c]).run Try.prog w = .ok v' w' ∧ w'.ownsRow base 43 2 v' (n + m) (xs ++ news) ∧ w.grownBy w' v.ownBlock := by
  obtain ⟨i, hi⟩ : ∃ i, Try.prog.info? 43 = some i := ⟨_, rfl⟩
  obtain ⟨z, hz⟩ : ∃ z, i.zero = some z := by injection hi with hi; subst hi; exact ⟨_, rfl⟩
  have hs : i.size = 2 := by injection hi with hi; subst hi; rfl
  have hzs : z.cells.size = 2 := by injection hi with hi; subst hi; injection hz with hz; subst hz; rfl
  have hby : i.bytes ≤ 40 := by injection hi with hi; subst hi; decide
  obtain ⟨v', w', a1, a2, a3, _⟩ := run_append_own (P := Try.prog) w base t ty 43 i z 2 i.bytes ht hi hz hs rfl hzs (by omega) v n xs h ad m c news hl hnews h1 (by simp only [maxLen]; omega)
    (by have : (n + m) * i.bytes ≤ (n + m) * 40 := Nat.mul_le_mul_left _ hby; omega) hb
  exact ⟨v', w', a1, a2, a3⟩

theorem app_oneL {w w0 : World} {v : Value} {ps : List (ByteArray × Value)} (ho : w.ownsRow w0.heap.size 43 2 v ps.length (prs ps)) {gb : Nat} {p : ByteArray} {x : Value} {fr : Nat × Nat} (hg : w.heap[gb]? = some (.cells #[.string p, x] 43 fr)) (h1 : x.oneCell' = true) (hn : (ps.length + 1) * 40 ≤ 140737488351232) (hk : Kept (fun _ => False) w0 w) (ty : TypeId) :
    ∃ a' c' w', (Builtin.append_ #[27, 27] ty #[v, .slice (some ⟨gb, 0, none⟩) 1 1]).run Try.prog w = .ok (.slice a' (ps.length + 1) c') w' ∧ w'.ownsRow w0.heap.size 43 2 (.slice a' (ps.length + 1) c') (ps.length + 1) (prs (ps ++ [(p, x)])) ∧ Kept (fun _ => False) w0 w' ∧ w.grownBy w' v.ownBlock := by
  obtain ⟨v', w', ap, ho', hg'⟩ := app_filesL ho (ad := ⟨gb, 0, none⟩) (m := 1) (c := 1) (news := [.string p, x]) rfl (fun j u hu => by
    rw [Addr.add_mid, Nat.zero_add, cell_of_row _ _ _ _ _ _ hg]; simpa using hu) (fun u hu => by simp at hu; rcases hu with rfl | rfl; rfl; exact h1) hn hk.size 27 ty Try.underlying27
  obtain ⟨a', c', hv⟩ := row_form ho'
  subst hv
  exact ⟨a', c', w', ap, by rw [prs_app2]; exact ho', grown_kept hk hg' (fun k e => (World.ownsRow.lt ho k e).1), hg'⟩
/-- A copy of bytes. -/
theorem copy_byL {w : World} {v : Value} {l : List UInt8} (h : ByAt w v l) (hn : l.length ≤ 140737488351232) (ty : TypeId) :
    ∃ a' c' w', (Builtin.append_ #[25, 25] ty #[.slice (some ⟨w.heap.size, 0, none⟩) 0 0, v]).run Try.prog (w.alloc (.cells #[] 5)) = .ok (.slice a' l.length c') w' ∧ w'.ownsRow w.heap.size 5 1 (.slice a' l.length c') l.length (bv l) ∧ Kept (fun _ => False) w w' ∧ Kept (fun k => w.heap.size ≤ k) (w.alloc (.cells #[] 5)) w' := by
  have k1 : Kept (fun _ => False) w (w.alloc (.cells #[] 5)) := (Kept.refl _ w).alloc _
  have ho : (w.alloc (.cells #[] 5)).ownsRow w.heap.size 5 1 (.slice (some ⟨w.heap.size, 0, none⟩) 0 0) ([] : List UInt8).length (bv []) := World.ownsRow_made w #[] 0 (Nat.le_refl _) (Nat.zero_le _) rfl
  obtain ⟨v', w', ap, ho', hg⟩ := app_byL ho (h.kept k1) (by simpa using hn) k1.size ty
  obtain ⟨a', c', hv⟩ := row_form ho'
  subst hv
  have k2 := grown_kept k1 hg (fun k e => by have e : some w.heap.size = some k := e; injection e with e; omega)
  have k3 : Kept (fun k => w.heap.size ≤ k) (w.alloc (.cells #[] 5)) w' := ⟨hg.os, hg.tape, hg.output, hg.size, fun b hb hs => hg.block b hb (fun e => hs (by have e : some b = some w.heap.size := e; injection e with e; omega))⟩
  rw [show bv [] ++ bv l = bv l from rfl] at ho'
  simp only [List.length_nil, Nat.zero_add] at ap ho'
  exact ⟨a', c', w', ap, ho', k2, k3⟩
theorem row_low {w : World} {b b2 : Nat} {t : TypeId} {z : Nat} {x : Value} {n : Nat} {xs : List Value} (h : w.ownsRow b t z x n xs) (hb : b2 ≤ b) : w.ownsRow b2 t z x n xs := by
  refine ⟨h.1, ?_⟩
  rcases h.2 with h2 | ⟨g, cap, cur, q1, q2, q3⟩
  · exact .inl h2
  · exact .inr ⟨g, cap, cur, q1, Nat.le_trans hb q2, q3⟩
def OwnP (base : Nat) (w : World) (ps : List (ByteArray × Value)) (l : List FileE) : Prop := ps.length = l.length ∧ ∀ (j : Nat) f, l[j]? = some f → f.path.size ≤ maxLen ∧ ∃ x, ps[j]? = some (f.path, x) ∧ w.ownsRow base 5 1 x f.bytes.length (bv f.bytes)
theorem OwnP.kept {base : Nat} {w w' : World} {ps : List (ByteArray × Value)} {l : List FileE} (h : OwnP base w ps l) (hk : Kept (fun _ => False) w w') : OwnP base w' ps l :=
  ⟨h.1, fun j f hf => by obtain ⟨h1, x, h2, h3⟩ := h.2 j f hf; exact ⟨h1, x, h2, row_kept h3 hk⟩⟩
theorem OwnP.pairs {base : Nat} {w : World} {ps : List (ByteArray × Value)} {l : List FileE} (h : OwnP base w ps l) : PairsAt w ps l :=
  ⟨h.1, fun j f hf => by obtain ⟨h1, x, h2, h3⟩ := h.2 j f hf; exact ⟨h1, x, h2, ByAt.own h3⟩⟩
theorem OwnP.snoc {base : Nat} {w : World} {ps : List (ByteArray × Value)} {l : List FileE} (h : OwnP base w ps l) {f : FileE} {x : Value} (hs : f.path.size ≤ maxLen) (hx : w.ownsRow base 5 1 x f.bytes.length (bv f.bytes)) : OwnP base w (ps ++ [(f.path, x)]) (l ++ [f]) := by
  refine ⟨by simp [h.1], fun j g hg => ?_⟩
  by_cases e : j < l.length
  · rw [List.getElem?_append_left e] at hg
    obtain ⟨h1, y, h2, h3⟩ := h.2 j g hg
    exact ⟨h1, y, by rw [List.getElem?_append_left (by rw [h.1]; exact e)]; exact h2, h3⟩
  · have hj := (List.getElem?_eq_some_iff.1 hg).1
    simp at hj
    obtain rfl : j = l.length := by omega
    rw [List.getElem?_append_right (Nat.le_refl _)] at hg
    simp at hg
    subst hg
    exact ⟨hs, x, by rw [List.getElem?_append_right (by rw [h.1]; exact Nat.le_refl _), h.1]; simp, hx⟩
/-- Rows of bytes stay where a row of files grows. -/
theorem OwnP.grown {base b2 : Nat} {w w' : World} {ps : List (ByteArray × Value)} {l : List FileE} (h : OwnP base w ps l) {v : Value} {n : Nat} {xs : List Value} (hv : w.ownsRow b2 43 2 v n xs) (hg : w.grownBy w' v.ownBlock) : OwnP base w' ps l := by
  refine ⟨h.1, fun j f hf => ?_⟩
  obtain ⟨h1, x, h2, h3, h4⟩ := h.2 j f hf
  refine ⟨h1, x, h2, h3, ?_⟩
  rcases h4 with h4 | ⟨g, cap, cur, q1, q2, q3, q4⟩
  · exact .inl h4
  · refine .inr ⟨g, cap, cur, q1, q2, ?_, q4⟩
    rw [hg.block g (Array.getElem?_eq_some_iff.1 q3).1 ?_]
    · exact q3
    · intro e
      rcases hv.2 with ⟨hv, _⟩ | ⟨g', cap', cur', hv, _, hh, _⟩
      · subst hv; cases e
      · subst hv
        have e : some g = some g' := e
        injection e with e
        subst e
        rw [hh] at q3
        injection q3 with q3
        injection q3 with _ q3 _
        exact absurd q3 (by decide)
set_option maxRecDepth 100000 in
set_option maxHeartbeats 4000000 in
theorem rCopy_ct {w : World} {v : Value} {l : List FileE} (h : TreeAt w v l) (hsz : l.length * 40 ≤ 140737488351232) (hbz : ∀ f ∈ l, f.bytes.length ≤ 140737488351232) :
    Calls Try.prog 25 #[v] w fun e w' => ∃ v', e = .returned v' ∧ TreeAt w' v' l ∧ Kept (fun _ => False) w w' := by
  obtain ⟨a, c, hv⟩ := h.slc
  subst hv
  go_enter Try.func25, Try.ntmps25
  go_wp2_with fail
  go_loopw [3, 4] (fun so si wr => ∃ (k : Nat) (ps : List (ByteArray × Value)), k ≤ l.length ∧ si = .int .i64 k ∧ (∃ aa cc, so = .slice aa ps.length cc) ∧ Hid (wr.ownsRow w.heap.size 43 2 so ps.length (prs ps) ∧ OwnP w.heap.size wr ps (l.take k)) ∧ Kept (fun _ => False) w wr) (fun _ si _ => l.length - (intOf si).toNat)
  case atStart => exact ⟨0, [], by omega, rfl, ⟨none, 0, rfl⟩, ⟨World.ownsRow_nil _ _ _ _, ⟨rfl, fun j f hf => by simp at hf⟩⟩, Kept.refl _ _⟩
  case round =>
    obtain ⟨k, ps, hk, rfl, ⟨aa, cc, rfl⟩, HR, hkr⟩ := hrel
    by_cases hlt : k < l.length
    · have hga := List.getElem?_eq_getElem hlt
      have htk : l.take (k + 1) = l.take k ++ [l[k]] := List.take_succ_eq_append_getElem hlt
      have hfb := hbz l[k] (List.getElem_mem hlt)
      have hpl : ps.length = k := by have := HR.out.2.1; rw [List.length_take] at this; omega
      have hp40 : (ps.length + 1) * 40 ≤ 140737488351232 := by rw [hpl]; omega
      generalize l[k] = f at hga htk hfb
      obtain ⟨hgs, b1, o1, y, rfl, hbl, hrx, hBg⟩ := h.file hga
      obtain ⟨ag, cg, rfl⟩ := hBg.slc
      have q0 : ∀ w', Kept (fun k => w.heap.size ≤ k) wr w' → w'.cell? ⟨b1, o1 + k * 2, none⟩ = some (.string f.path) := fun w' q => (q.cell (p := ⟨b1, o1 + k * 2, none⟩) (Nat.lt_of_lt_of_le hbl hkr.size) (Nat.not_le.2 hbl)).trans ((hkr.cell (p := ⟨b1, o1 + k * 2, none⟩) hbl not_false).trans (hrx 0 _ rfl))
      have q1 : ∀ w', Kept (fun k => w.heap.size ≤ k) wr w' → w'.cell? ⟨b1, o1 + k * 2 + 1, none⟩ = some (.slice ag f.bytes.length cg) := fun w' q => (q.cell (p := ⟨b1, o1 + k * 2 + 1, none⟩) (Nat.lt_of_lt_of_le hbl hkr.size) (Nat.not_le.2 hbl)).trans ((hkr.cell (p := ⟨b1, o1 + k * 2 + 1, none⟩) hbl not_false).trans (hrx 1 _ rfl))
      have kd := hkr.drew
      have krd : Kept (fun _ => False) wr wr.drew := (Kept.refl _ wr).drew
      have hrd := row_kept HR.out.1 krd
      have hpd := HR.out.2.kept krd
      have bs0 := bslice_b0 wr.drew
      have ks1 : Kept (fun k => w.heap.size ≤ k) wr (wr.drew.alloc (.cells #[] 5)) := (Kept.refl _ wr).drew.alloc _
      obtain ⟨ab, cb, W2, ap2, hob, k2, _⟩ := copy_byL (hBg.kept kd) hfb 25
      have hrd2 := row_kept hrd k2
      have hpd2 := hpd.kept k2
      have ks2 : Kept (fun k => w.heap.size ≤ k) wr W2 := (krd.trans k2).mono (fun _ _ q => q.elim)
      have k20 := kd.trans k2
      have hob := row_low hob kd.size
      have bf := build_f f.path ab f.bytes.length cb
      have bs3 := bslice_f1 f.path ab f.bytes.length cb W2
      have hg3 := heap_last W2 (.cells #[.string f.path, .slice ab f.bytes.length cb] 43)
      have k23 : Kept (fun _ => False) W2 (W2.alloc (.cells #[.string f.path, .slice ab f.bytes.length cb] 43)) := (Kept.refl _ W2).alloc _
      have ks3 : Kept (fun k => w.heap.size ≤ k) wr (W2.alloc (.cells #[.string f.path, .slice ab f.bytes.length cb] 43)) := ks2.alloc _
      generalize W2.alloc (.cells #[.string f.path, .slice ab f.bytes.length cb] 43) = W3 at bs3 hg3 k23 ks3
      have hrd3 := row_kept hrd2 k23
      obtain ⟨a4, c4, W4, ap4, ho4, k4, gr4⟩ := app_oneL hrd3 hg3 rfl hp40 (k20.trans k23) 27
      have hp4 := ((hpd2.kept k23).snoc (f := f) hgs (row_kept hob k23)).grown hrd3 gr4
      have ks4 : Kept (fun k => w.heap.size ≤ k) wr W4 := ks3.trans ⟨gr4.os, gr4.tape, gr4.output, gr4.size, fun b hb hs => gr4.block b hb (fun e => hs (World.ownsRow.lt hrd3 b e.symm).1)⟩
      have HN : Hid (W4.ownsRow w.heap.size 43 2 (.slice a4 (ps.length + 1) c4) (ps.length + 1) (prs (ps ++ [(f.path, .slice ab f.bytes.length cb)])) ∧ OwnP w.heap.size W4 (ps ++ [(f.path, .slice ab f.bytes.length cb)]) (l.take (k + 1))) := ⟨ho4, by rw [htk]; exact hp4⟩
      have hdz : wr.drew.heap.size = wr.heap.size := rfl
      rw [hdz] at bs0 ap2
      clear hrx hBg hga htk HR ho4 hp4 gr4 hrd3 hrd2 hpd2 hrd hpd hob hg3 hdz hpl hp40
      generalize wr.heap.size = B1 at bs0 ap2
      generalize W2.heap.size = B2 at bs3 ap4
      go_wp2_with fail
      refine wp_region_held_drew (S := (Kept (fun k => w.heap.size ≤ k) wr)) (by kernel_rfl) ((Kept.refl _ wr).drew) (fun hHeld => ?_)
      refine held_q (v := ?_) (i := 0) rfl (by kernel_rfl) (by kernel_rfl) (by kernel_rfl) (fun _ _ _ h => h) (by rfl) hHeld ?_ ?_
      rotate_left
      · (intro w' hS'; go_simp <;> (with_reducible rfl))
      simp only [Act.put, List.getElem_toArray, List.getElem_cons_zero, List.getElem_cons_succ, List.setIfInBounds_toArray, List.set_cons_zero, List.set_cons_succ]
      refine held_q (v := ?_) (i := 1) rfl (by kernel_rfl) (by kernel_rfl) (by kernel_rfl) (fun _ _ _ h => h) (by rfl) hHeld ?_ ?_
      rotate_left
      · (intro w' hS'; go_simp <;> (with_reducible rfl))
      simp only [Act.put, List.getElem_toArray, List.getElem_cons_zero, List.getElem_cons_succ, List.setIfInBounds_toArray, List.set_cons_zero, List.set_cons_succ]
      refine held_q (v := ?_) (i := 2) rfl (by kernel_rfl) (by kernel_rfl) (by kernel_rfl) (fun _ _ _ h => h) (by rfl) hHeld ?_ ?_
      rotate_left
      · (intro w' hS'; go_simp <;> (with_reducible rfl))
      simp only [Act.put, List.getElem_toArray, List.getElem_cons_zero, List.getElem_cons_succ, List.setIfInBounds_toArray, List.set_cons_zero, List.set_cons_succ]
      refine held_q (v := ?_) (i := 3) rfl (by kernel_rfl) (by kernel_rfl) (by kernel_rfl) (fun _ _ _ h => h) (by rfl) hHeld ?_ ?_
      rotate_left
      · (intro w' hS'; go_simp <;> (with_reducible rfl))
      simp only [Act.put, List.getElem_toArray, List.getElem_cons_zero, List.getElem_cons_succ, List.setIfInBounds_toArray, List.set_cons_zero, List.set_cons_succ]
      refine held_q (v := ?_) (i := 4) rfl (by kernel_rfl) (by kernel_rfl) (by kernel_rfl) (fun _ _ _ h => h) (by rfl) hHeld ?_ ?_
      rotate_left
      · (intro w' hS'; go_simp <;> (with_reducible rfl))
      simp only [Act.put, List.getElem_toArray, List.getElem_cons_zero, List.getElem_cons_succ, List.setIfInBounds_toArray, List.set_cons_zero, List.set_cons_succ]
      refine held_q (v := ?_) (i := 5) rfl (by kernel_rfl) (by kernel_rfl) (by kernel_rfl) (fun _ _ _ h => h) (by rfl) hHeld ?_ ?_
      rotate_left
      · (intro w' hS'; go_simp <;> (with_reducible rfl))
      simp only [Act.put, List.getElem_toArray, List.getElem_cons_zero, List.getElem_cons_succ, List.setIfInBounds_toArray, List.set_cons_zero, List.set_cons_succ]
      refine held_q (v := ?_) (i := 7) rfl (by kernel_rfl) (by kernel_rfl) (by kernel_rfl) (fun _ _ _ h => h) (by rfl) hHeld ?_ ?_
      rotate_left
      · (intro w' hS'; go_simp <;> (with_reducible rfl))
      simp only [Act.put, List.getElem_toArray, List.getElem_cons_zero, List.getElem_cons_succ, List.setIfInBounds_toArray, List.set_cons_zero, List.set_cons_succ]
      refine held_q (v := ?_) (i := 8) rfl (by kernel_rfl) (by kernel_rfl) (by kernel_rfl) (fun _ _ _ h => h) (by rfl) hHeld ?_ ?_
      rotate_left
      · (intro w' hS'; go_simp <;> (with_reducible rfl))
      simp only [Act.put, List.getElem_toArray, List.getElem_cons_zero, List.getElem_cons_succ, List.setIfInBounds_toArray, List.set_cons_zero, List.set_cons_succ]
      refine held_q (v := ?_) (i := 9) rfl (by kernel_rfl) (by kernel_rfl) (by kernel_rfl) (fun _ _ _ h => h) (by rfl) hHeld ?_ ?_
      rotate_left
      · (intro w' hS'; go_simp <;> (with_reducible rfl))
      simp only [Act.put, List.getElem_toArray, List.getElem_cons_zero, List.getElem_cons_succ, List.setIfInBounds_toArray, List.set_cons_zero, List.set_cons_succ]
      refine held_q (v := ?_) (i := 10) rfl (by kernel_rfl) (by kernel_rfl) (by kernel_rfl) (fun _ _ _ h => h) (by rfl) hHeld ?_ ?_
      rotate_left
      · (intro w' hS'; go_simp <;> (with_reducible rfl))
      simp only [Act.put, List.getElem_toArray, List.getElem_cons_zero, List.getElem_cons_succ, List.setIfInBounds_toArray, List.set_cons_zero, List.set_cons_succ]
      refine held_q (v := ?_) (i := 11) rfl (by kernel_rfl) (by kernel_rfl) (by kernel_rfl) (fun _ _ _ h => h) (by rfl) hHeld ?_ ?_
      rotate_left
      · (intro w' hS'; go_simp <;> (with_reducible rfl))
      simp only [Act.put, List.getElem_toArray, List.getElem_cons_zero, List.getElem_cons_succ, List.setIfInBounds_toArray, List.set_cons_zero, List.set_cons_succ]
      refine held_v (i := 6) (by kernel_rfl) rfl (by rfl) (exec_buildSlice 25 0 _ rfl (by go_simp <;> rfl) bs0) (ks1) (fun hHeld => ?_)
      simp only [Act.put, List.getElem_toArray, List.getElem_cons_zero, List.getElem_cons_succ, List.setIfInBounds_toArray, List.set_cons_zero, List.set_cons_succ]
      refine held_v (i := 12) (by kernel_rfl) rfl (by rfl) (exec_append2 25 25 _ _ rfl rfl rfl ap2) (ks2) (fun hHeld => ?_)
      simp only [Act.put, List.getElem_toArray, List.getElem_cons_zero, List.getElem_cons_succ, List.setIfInBounds_toArray, List.set_cons_zero, List.set_cons_succ]
      refine held_q (i := 13) rfl (by kernel_rfl) (by kernel_rfl) (by kernel_rfl) (fun _ _ _ h => h) (by rfl) hHeld (fun w' hS' => exec_build 43 _ rfl (by go_simp <;> rfl) (bf w')) ?_
      simp only [Act.put, List.getElem_toArray, List.getElem_cons_zero, List.getElem_cons_succ, List.setIfInBounds_toArray, List.set_cons_zero, List.set_cons_succ]
      refine held_v (i := 14) (by kernel_rfl) rfl (by rfl) (exec_buildSlice 27 1 _ rfl (by go_simp <;> rfl) bs3) (ks3) (fun hHeld => ?_)
      simp only [Act.put, List.getElem_toArray, List.getElem_cons_zero, List.getElem_cons_succ, List.setIfInBounds_toArray, List.set_cons_zero, List.set_cons_succ]
      refine held_v (i := 15) (by kernel_rfl) rfl (by rfl) (exec_append2 27 27 _ _ rfl rfl rfl ap4) (ks4) (fun hHeld => ?_)
      simp only [Act.put, List.getElem_toArray, List.getElem_cons_zero, List.getElem_cons_succ, List.setIfInBounds_toArray, List.set_cons_zero, List.set_cons_succ]
      refine held_q (v := ?_) (i := 16) rfl (by kernel_rfl) (by kernel_rfl) (by kernel_rfl) (fun _ _ _ h => h) (by rfl) hHeld ?_ ?_
      rotate_left
      · (intro w' hS'; go_simp <;> (with_reducible rfl))
      simp only [Act.put, List.getElem_toArray, List.getElem_cons_zero, List.getElem_cons_succ, List.setIfInBounds_toArray, List.set_cons_zero, List.set_cons_succ]
      refine wpAnyH_done (by kernel_rfl) ?_ _
      go_wp2_with fail
      go_roundw
      case rel => exact ⟨k + 1, ps ++ [(f.path, .slice ab f.bytes.length cb)], by omega, by go_num, ⟨a4, c4, by rw [List.length_append]; rfl⟩, by rw [List.length_append]; exact HN.out, k4⟩
      case measure => simp [intOf]; omega
    · obtain rfl : k = l.length := by omega
      have hHR := HR.out
      rw [List.take_length] at hHR
      have HT := Lib.hid (TreeAt.of_row hHR.1 hHR.2.pairs)
      clear hHR HR
      go_wp2_with fail
      go_ret
      exact ⟨_, rfl, HT.out, hkr⟩
end Go.Proofs.Ytehpaddddiigbaa
