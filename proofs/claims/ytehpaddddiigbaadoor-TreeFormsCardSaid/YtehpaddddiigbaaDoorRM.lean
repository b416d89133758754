/- The texts RE, RF, RG, RH, RI, RJ in one. -/
import Derived.Test.YtehpaddddiigbaaDoorTS
import Derived.Test.YtehpaddddiigbaaDoorTH
import Derived.Test.YtehpaddddiigbaaDoorSY
import Derived.Test.YtehpaddddiigbaaDoorRB
import Derived.Test.YtehpaddddiigbaaDoorTN
import Derived.Test.YtehpaddddiigbaaDoorTO
import Derived.Test.YtehpaddddiigbaaDoorRC
import Derived.Test.YtehpaddddiigbaaDoorWO
namespace Go.Proofs.YtehpaddddiigbaaDoor
/- The document's Copy, of trees of whatever size (WL's text for a seat without the chain). -/
open Go.RowKit
set_option maxRecDepth 100000
set_option linter.unusedSimpArgs false
set_option linter.unusedVariables false
theorem prs_app2 (p q : List (ByteArray × Value)) : prs (p ++ q) = prs p ++ prs q := by unfold prs; rw [List.flatMap_append]
theorem exec_append2 {P : Program} {o : Oper} {a : Act} {w w1 : World} {p q v : Value} (t u : TypeId) (x y : Operand) (ho : o.op = .call { callee := .builtin .append, args := #[x, y], argTypes := #[t, u] }) (hx : a.eval x = p) (hy : a.eval y = q)
    (h : (Builtin.append_ #[t, u] o.type #[p, q]).run P w = .ok v w1) : (execOp a.eval o).run P w = .ok (.value v) w1 := by
  unfold execOp
  simp only [ho, resolve, invoke, builtin, Sem.run_bind, Sem.run_pure, Result.andThen_ok]
  simp only [List.map_toArray, List.map_cons, List.map_nil, hx, hy, h, Result.andThen_ok]

theorem app_byL {w : World} {base n : Nat} {v x : Value} {xs : List Value} {l : List UInt8} (h : w.ownsRow base 5 1 v n xs) (hx : ByAt w x l) (hn : n + l.length ≤ 140737488351232) (hb : base ≤ w.heap.size) (ty : TypeId) :
    ∃ v' w', (Builtin.append_ #[32, 32] ty #[v, x]).run Tryd.prog w = .ok v' w' ∧ w'.ownsRow base 5 1 v' (n + l.length) (xs ++ bv l) ∧ w.grownBy w' v.ownBlock := by
  obtain ⟨i, hi⟩ : ∃ i, Tryd.prog.info? 5 = some i := ⟨_, rfl⟩
  obtain ⟨z, hz⟩ : ∃ z, i.zero = some z := by injection hi with hi; subst hi; exact ⟨_, rfl⟩
  have hs : i.size = 1 := by injection hi with hi; subst hi; rfl
  have hzs : z.cells.size = 1 := by injection hi with hi; subst hi; injection hz with hz; subst hz; rfl
  have hby : i.bytes ≤ 1 := by injection hi with hi; subst hi; decide
  obtain ⟨a, cap, rfl, hl, ha⟩ := hx
  cases a with
  | none =>
    have hl0 : l = [] := by
      apply Classical.byContradiction; intro hh
      obtain ⟨b, o, e, _⟩ := ha hh; cases e
    subst hl0
    refine ⟨v, w, ?_, by simpa [bv] using h, ⟨rfl, rfl, rfl, Nat.le_refl _, fun _ _ _ => rfl⟩⟩
    rcases h.2 with ⟨rfl, rfl⟩ | ⟨g, cap', cur, rfl, _, _, hnc, _⟩
    · simp [Builtin.append_, run_underlying Tryd.underlying32, sizeOf, typeInfo, hi, Builtin.lenOf, Builtin.firstCells]
    · simp [Builtin.append_, run_underlying Tryd.underlying32, sizeOf, typeInfo, hi, Builtin.lenOf, Builtin.firstCells, hnc, storeCells]
  | some ad =>
    obtain ⟨v', w', a1, a2, a3, _⟩ := run_append_own (P := Tryd.prog) w base 32 ty 5 i z 1 i.bytes Tryd.underlying32 hi hz hs rfl hzs (by omega) v n xs h ad l.length cap (bv l) (by simp [bv])
      (fun j u hu => by
        have hne : l ≠ [] := fun e => by subst e; simp [bv] at hu
        obtain ⟨b, o, e, _, hr⟩ := ha hne
        injection e with e; subst e
        rw [Addr.add_mid]; exact hr j u hu) (bv_one l) (by simp only [maxLen]; omega)
      (by have : (n + l.length) * i.bytes ≤ 140737488351232 * 1 := Nat.mul_le_mul hn hby; omega) hb
    exact ⟨v', w', a1, a2, a3⟩
theorem app_filesL {w : World} {base n : Nat} {v : Value} {xs : List Value} (h : w.ownsRow base 41 2 v n xs) {ad : Addr} {m c : Nat} {news : List Value} (hl : news.length = m * 2) (hnews : ∀ j u, news[j]? = some u → w.cell? (ad.add j) = some u) (h1 : ∀ u ∈ news, u.oneCell' = true) (hn : (n + m) * 40 ≤ 140737488351232) (hb : base ≤ w.heap.size) (t ty : TypeId) (ht : Tryd.prog.underlying t = some (.slice 41)) :
    ∃ v' w', (Builtin.append_ #[t, t] ty #[v, .slice (some ad) m c]).run Tryd.prog w = .ok v' w' ∧ w'.ownsRow base 41 2 v' (n + m) (xs ++ news) ∧ w.grownBy w' v.ownBlock := by
  obtain ⟨i, hi⟩ : ∃ i, Tryd.prog.info? 41 = some i := ⟨_, rfl⟩
  obtain ⟨z, hz⟩ : ∃ z, i.zero = some z := by injection hi with hi; subst hi; exact ⟨_, rfl⟩
  have hs : i.size = 2 := by injection hi with hi; subst hi; rfl
  have hzs : z.cells.size = 2 := by injection hi with hi; subst hi; injection hz with hz; subst hz; rfl
  have hby : i.bytes ≤ 40 := by injection hi with hi; subst hi; decide
  obtain ⟨v', w', a1, a2, a3, _⟩ := run_append_own (P := Tryd.prog) w base t ty 41 i z 2 i.bytes ht hi hz hs rfl hzs (by omega) v n xs h ad m c news hl hnews h1 (by simp only [maxLen]; omega)
    (by have : (n + m) * i.bytes ≤ (n + m) * 40 := Nat.mul_le_mul_left _ hby; omega) hb
  exact ⟨v', w', a1, a2, a3⟩

theorem app_oneL {w w0 : World} {v : Value} {ps : List (ByteArray × Value)} (ho : w.ownsRow w0.heap.size 41 2 v ps.length (prs ps)) {gb : Nat} {p : ByteArray} {x : Value} {fr : Nat × Nat} (hg : w.heap[gb]? = some (.cells #[.string p, x] 41 fr)) (h1 : x.oneCell' = true) (hn : (ps.length + 1) * 40 ≤ 140737488351232) (hk : Kept (fun _ => False) w0 w) (ty : TypeId) :
    ∃ a' c' w', (Builtin.append_ #[23, 23] ty #[v, .slice (some ⟨gb, 0, none⟩) 1 1]).run Tryd.prog w = .ok (.slice a' (ps.length + 1) c') w' ∧ w'.ownsRow w0.heap.size 41 2 (.slice a' (ps.length + 1) c') (ps.length + 1) (prs (ps ++ [(p, x)])) ∧ Kept (fun _ => False) w0 w' ∧ w.grownBy w' v.ownBlock := by
  obtain ⟨v', w', ap, ho', hg'⟩ := app_filesL ho (ad := ⟨gb, 0, none⟩) (m := 1) (c := 1) (news := [.string p, x]) rfl (fun j u hu => by
    rw [Addr.add_mid, Nat.zero_add, cell_of_row _ _ _ _ _ _ hg]; simpa using hu) (fun u hu => by simp at hu; rcases hu with rfl | rfl; rfl; exact h1) hn hk.size 23 ty Tryd.underlying23
  obtain ⟨a', c', hv⟩ := row_form ho'
  subst hv
  exact ⟨a', c', w', ap, by rw [prs_app2]; exact ho', grown_kept hk hg' (fun k e => (World.ownsRow.lt ho k e).1), hg'⟩
/-- A copy of bytes. -/
theorem copy_byL {w : World} {v : Value} {l : List UInt8} (h : ByAt w v l) (hn : l.length ≤ 140737488351232) (ty : TypeId) :
    ∃ a' c' w', (Builtin.append_ #[32, 32] ty #[.slice (some ⟨w.heap.size, 0, none⟩) 0 0, v]).run Tryd.prog (w.alloc (.cells #[] 5)) = .ok (.slice a' l.length c') w' ∧ w'.ownsRow w.heap.size 5 1 (.slice a' l.length c') l.length (bv l) ∧ Kept (fun _ => False) w w' ∧ Kept (fun k => w.heap.size ≤ k) (w.alloc (.cells #[] 5)) w' := by
  have k1 : Kept (fun _ => False) w (w.alloc (.cells #[] 5)) := (Kept.refl _ w).alloc _
  have ho : (w.alloc (.cells #[] 5)).ownsRow w.heap.size 5 1 (.slice (some ⟨w.heap.size, 0, none⟩) 0 0) ([] : List UInt8).length (bv []) := World.ownsRow_made w #[] 0 (Nat.le_refl _) (Nat.zero_le _) rfl
  obtain ⟨v', w', ap, ho', hg⟩ := app_byL ho (h.kept k1) (by simpa using hn) k1.size ty
  obtain ⟨a', c', hv⟩ := row_form ho'
  subst hv
  have k2 := grown_kept k1 hg (fun k e => by have e : some w.heap.size = some k := e; injection e with e; omega)
  have k3 : Kept (fun k => w.heap.size ≤ k) (w.alloc (.cells #[] 5)) w' := ⟨hg.os, hg.tape, hg.output, hg.size, fun b hb hs => hg.block b hb (fun e => hs (by have e : some b = some w.heap.size := e; injection e with e; omega))⟩
  rw [show bv [] ++ bv l = bv l from rfl] at ho'
  simp only [List.length_nil, Nat.zero_add] at ap ho'
  exact ⟨a', c', w', ap, ho', k2, k3⟩
theorem row_low {w : World} {b b2 : Nat} {t : TypeId} {z : Nat} {x : Value} {n : Nat} {xs : List Value} (h : w.ownsRow b t z x n xs) (hb : b2 ≤ b) : w.ownsRow b2 t z x n xs := by
  refine ⟨h.1, ?_⟩
  rcases h.2 with h2 | ⟨g, cap, cur, q1, q2, q3⟩
  · exact .inl h2
  · exact .inr ⟨g, cap, cur, q1, Nat.le_trans hb q2, q3⟩
def OwnP (base : Nat) (w : World) (ps : List (ByteArray × Value)) (l : List FileE) : Prop := ps.length = l.length ∧ ∀ (j : Nat) f, l[j]? = some f → f.path.size ≤ maxLen ∧ ∃ x, ps[j]? = some (f.path, x) ∧ w.ownsRow base 5 1 x f.bytes.length (bv f.bytes)
theorem OwnP.kept {base : Nat} {w w' : World} {ps : List (ByteArray × Value)} {l : List FileE} (h : OwnP base w ps l) (hk : Kept (fun _ => False) w w') : OwnP base w' ps l :=
  ⟨h.1, fun j f hf => by obtain ⟨h1, x, h2, h3⟩ := h.2 j f hf; exact ⟨h1, x, h2, row_kept h3 hk⟩⟩
theorem OwnP.pairs {base : Nat} {w : World} {ps : List (ByteArray × Value)} {l : List FileE} (h : OwnP base w ps l) : PairsAt w ps l :=
  ⟨h.1, fun j f hf => by obtain ⟨h1, x, h2, h3⟩ := h.2 j f hf; exact ⟨h1, x, h2, ByAt.own h3⟩⟩
theorem OwnP.snoc {base : Nat} {w : World} {ps : List (ByteArray × Value)} {l : List FileE} (h : OwnP base w ps l) {f : FileE} {x : Value} (hs : f.path.size ≤ maxLen) (hx : w.ownsRow base 5 1 x f.bytes.length (bv f.bytes)) : OwnP base w (ps ++ [(f.path, x)]) (l ++ [f]) := by
  refine ⟨by simp [h.1], fun j g hg => ?_⟩
  by_cases e : j < l.length
  · rw [List.getElem?_append_left e] at hg
    obtain ⟨h1, y, h2, h3⟩ := h.2 j g hg
    exact ⟨h1, y, by rw [List.getElem?_append_left (by rw [h.1]; exact e)]; exact h2, h3⟩
  · have hj := (List.getElem?_eq_some_iff.1 hg).1
    simp at hj
    obtain rfl : j = l.length := by omega
    rw [List.getElem?_append_right (Nat.le_refl _)] at hg
    simp at hg
    subst hg
    exact ⟨hs, x, by rw [List.getElem?_append_right (by rw [h.1]; exact Nat.le_refl _), h.1]; simp, hx⟩
/-- Rows of bytes stay where a row of files grows. -/
theorem OwnP.grown {base b2 : Nat} {w w' : World} {ps : List (ByteArray × Value)} {l : List FileE} (h : OwnP base w ps l) {v : Value} {n : Nat} {xs : List Value} (hv : w.ownsRow b2 41 2 v n xs) (hg : w.grownBy w' v.ownBlock) : OwnP base w' ps l := by
  refine ⟨h.1, fun j f hf => ?_⟩
  obtain ⟨h1, x, h2, h3, h4⟩ := h.2 j f hf
  refine ⟨h1, x, h2, h3, ?_⟩
  rcases h4 with h4 | ⟨g, cap, cur, q1, q2, q3, q4⟩
  · exact .inl h4
  · refine .inr ⟨g, cap, cur, q1, q2, ?_, q4⟩
    rw [hg.block g (Array.getElem?_eq_some_iff.1 q3).1 ?_]
    · exact q3
    · intro e
      rcases hv.2 with ⟨hv, _⟩ | ⟨g', cap', cur', hv, _, hh, _⟩
      · subst hv; cases e
      · subst hv
        have e : some g = some g' := e
        injection e with e
        subst e
        rw [hh] at q3
        injection q3 with q3
        injection q3 with _ q3 _
        exact absurd q3 (by decide)
set_option maxRecDepth 100000 in
set_option maxHeartbeats 4000000 in
theorem rCopy_ct {w : World} {v : Value} {l : List FileE} (h : TreeAt w v l) (hsz : l.length * 40 ≤ 140737488351232) (hbz : ∀ f ∈ l, f.bytes.length ≤ 140737488351232) :
    Calls Tryd.prog 11 #[v] w fun e w' => ∃ v', e = .returned v' ∧ TreeAt w' v' l ∧ Kept (fun _ => False) w w' := by
  obtain ⟨a, c, hv⟩ := h.slc
  subst hv
  go_enter Tryd.func11, Tryd.ntmps11
  go_wp2_with fail
  go_loopw [3, 4] (fun so si wr => ∃ (k : Nat) (ps : List (ByteArray × Value)), k ≤ l.length ∧ si = .int .i64 k ∧ (∃ aa cc, so = .slice aa ps.length cc) ∧ Hid (wr.ownsRow w.heap.size 41 2 so ps.length (prs ps) ∧ OwnP w.heap.size wr ps (l.take k)) ∧ Kept (fun _ => False) w wr) (fun _ si _ => l.length - (intOf si).toNat)
  case atStart => exact ⟨0, [], by omega, rfl, ⟨none, 0, rfl⟩, ⟨World.ownsRow_nil _ _ _ _, ⟨rfl, fun j f hf => by simp at hf⟩⟩, Kept.refl _ _⟩
  case round =>
    obtain ⟨k, ps, hk, rfl, ⟨aa, cc, rfl⟩, HR, hkr⟩ := hrel
    by_cases hlt : k < l.length
    · have hga := List.getElem?_eq_getElem hlt
      have htk : l.take (k + 1) = l.take k ++ [l[k]] := List.take_succ_eq_append_getElem hlt
      have hfb := hbz l[k] (List.getElem_mem hlt)
      have hpl : ps.length = k := by have := HR.out.2.1; rw [List.length_take] at this; omega
      have hp40 : (ps.length + 1) * 40 ≤ 140737488351232 := by rw [hpl]; omega
      generalize l[k] = f at hga htk hfb
      obtain ⟨hgs, b1, o1, y, rfl, hbl, hrx, hBg⟩ := h.file hga
      obtain ⟨ag, cg, rfl⟩ := hBg.slc
      have q0 : ∀ w', Kept (fun k => w.heap.size ≤ k) wr w' → w'.cell? ⟨b1, o1 + k * 2, none⟩ = some (.string f.path) := fun w' q => (q.cell (p := ⟨b1, o1 + k * 2, none⟩) (Nat.lt_of_lt_of_le hbl hkr.size) (Nat.not_le.2 hbl)).trans ((hkr.cell (p := ⟨b1, o1 + k * 2, none⟩) hbl not_false).trans (hrx 0 _ rfl))
      have q1 : ∀ w', Kept (fun k => w.heap.size ≤ k) wr w' → w'.cell? ⟨b1, o1 + k * 2 + 1, none⟩ = some (.slice ag f.bytes.length cg) := fun w' q => (q.cell (p := ⟨b1, o1 + k * 2 + 1, none⟩) (Nat.lt_of_lt_of_le hbl hkr.size) (Nat.not_le.2 hbl)).trans ((hkr.cell (p := ⟨b1, o1 + k * 2 + 1, none⟩) hbl not_false).trans (hrx 1 _ rfl))
      have kd := hkr.drew
      have krd : Kept (fun _ => False) wr wr.drew := (Kept.refl _ wr).drew
      have hrd := row_kept HR.out.1 krd
      have hpd := HR.out.2.kept krd
      have bs0 := bslice_b0 wr.drew
      have ks1 : Kept (fun k => w.heap.size ≤ k) wr (wr.drew.alloc (.cells #[] 5)) := (Kept.refl _ wr).drew.alloc _
      obtain ⟨ab, cb, W2, ap2, hob, k2, _⟩ := copy_byL (hBg.kept kd) hfb 32
      have hrd2 := row_kept hrd k2
      have hpd2 := hpd.kept k2
      have ks2 : Kept (fun k => w.heap.size ≤ k) wr W2 := (krd.trans k2).mono (fun _ _ q => q.elim)
      have k20 := kd.trans k2
      have hob := row_low hob kd.size
      have bf := build_f f.path ab f.bytes.length cb
      have bs3 := bslice_f1 f.path ab f.bytes.length cb W2
      have hg3 := heap_last W2 (.cells #[.string f.path, .slice ab f.bytes.length cb] 41)
      have k23 : Kept (fun _ => False) W2 (W2.alloc (.cells #[.string f.path, .slice ab f.bytes.length cb] 41)) := (Kept.refl _ W2).alloc _
      have ks3 : Kept (fun k => w.heap.size ≤ k) wr (W2.alloc (.cells #[.string f.path, .slice ab f.bytes.length cb] 41)) := ks2.alloc _
      generalize W2.alloc (.cells #[.string f.path, .slice ab f.bytes.length cb] 41) = W3 at bs3 hg3 k23 ks3
      have hrd3 := row_kept hrd2 k23
      obtain ⟨a4, c4, W4, ap4, ho4, k4, gr4⟩ := app_oneL hrd3 hg3 rfl hp40 (k20.trans k23) 23
      have hp4 := ((hpd2.kept k23).snoc (f := f) hgs (row_kept hob k23)).grown hrd3 gr4
      have ks4 : Kept (fun k => w.heap.size ≤ k) wr W4 := ks3.trans ⟨gr4.os, gr4.tape, gr4.output, gr4.size, fun b hb hs => gr4.block b hb (fun e => hs (World.ownsRow.lt hrd3 b e.symm).1)⟩
      have HN : Hid (W4.ownsRow w.heap.size 41 2 (.slice a4 (ps.length + 1) c4) (ps.length + 1) (prs (ps ++ [(f.path, .slice ab f.bytes.length cb)])) ∧ OwnP w.heap.size W4 (ps ++ [(f.path, .slice ab f.bytes.length cb)]) (l.take (k + 1))) := ⟨ho4, by rw [htk]; exact hp4⟩
      have hdz : wr.drew.heap.size = wr.heap.size := rfl
      rw [hdz] at bs0 ap2
      clear hrx hBg hga htk HR ho4 hp4 gr4 hrd3 hrd2 hpd2 hrd hpd hob hg3 hdz hpl hp40
      generalize wr.heap.size = B1 at bs0 ap2
      generalize W2.heap.size = B2 at bs3 ap4
      go_wp2_with fail
      refine wp_region_held_drew (S := (Kept (fun k => w.heap.size ≤ k) wr)) (by kernel_rfl) ((Kept.refl _ wr).drew) (fun hHeld => ?_)
      refine held_q (v := ?_) (i := 0) rfl (by kernel_rfl) (by kernel_rfl) (by kernel_rfl) (fun _ _ _ h => h) (by rfl) hHeld ?_ ?_
      rotate_left
      · (intro w' hS'; go_simp <;> (with_reducible rfl))
      simp only [Act.put, List.getElem_toArray, List.getElem_cons_zero, List.getElem_cons_succ, List.setIfInBounds_toArray, List.set_cons_zero, List.set_cons_succ]
      refine held_q (v := ?_) (i := 1) rfl (by kernel_rfl) (by kernel_rfl) (by kernel_rfl) (fun _ _ _ h => h) (by rfl) hHeld ?_ ?_
      rotate_left
      · (intro w' hS'; go_simp <;> (with_reducible rfl))
      simp only [Act.put, List.getElem_toArray, List.getElem_cons_zero, List.getElem_cons_succ, List.setIfInBounds_toArray, List.set_cons_zero, List.set_cons_succ]
      refine held_q (v := ?_) (i := 2) rfl (by kernel_rfl) (by kernel_rfl) (by kernel_rfl) (fun _ _ _ h => h) (by rfl) hHeld ?_ ?_
      rotate_left
      · (intro w' hS'; go_simp <;> (with_reducible rfl))
      simp only [Act.put, List.getElem_toArray, List.getElem_cons_zero, List.getElem_cons_succ, List.setIfInBounds_toArray, List.set_cons_zero, List.set_cons_succ]
      refine held_q (v := ?_) (i := 3) rfl (by kernel_rfl) (by kernel_rfl) (by kernel_rfl) (fun _ _ _ h => h) (by rfl) hHeld ?_ ?_
      rotate_left
      · (intro w' hS'; go_simp <;> (with_reducible rfl))
      simp only [Act.put, List.getElem_toArray, List.getElem_cons_zero, List.getElem_cons_succ, List.setIfInBounds_toArray, List.set_cons_zero, List.set_cons_succ]
      refine held_q (v := ?_) (i := 4) rfl (by kernel_rfl) (by kernel_rfl) (by kernel_rfl) (fun _ _ _ h => h) (by rfl) hHeld ?_ ?_
      rotate_left
      · (intro w' hS'; go_simp <;> (with_reducible rfl))
      simp only [Act.put, List.getElem_toArray, List.getElem_cons_zero, List.getElem_cons_succ, List.setIfInBounds_toArray, List.set_cons_zero, List.set_cons_succ]
      refine held_q (v := ?_) (i := 5) rfl (by kernel_rfl) (by kernel_rfl) (by kernel_rfl) (fun _ _ _ h => h) (by rfl) hHeld ?_ ?_
      rotate_left
      · (intro w' hS'; go_simp <;> (with_reducible rfl))
      simp only [Act.put, List.getElem_toArray, List.getElem_cons_zero, List.getElem_cons_succ, List.setIfInBounds_toArray, List.set_cons_zero, List.set_cons_succ]
      refine held_q (v := ?_) (i := 7) rfl (by kernel_rfl) (by kernel_rfl) (by kernel_rfl) (fun _ _ _ h => h) (by rfl) hHeld ?_ ?_
      rotate_left
      · (intro w' hS'; go_simp <;> (with_reducible rfl))
      simp only [Act.put, List.getElem_toArray, List.getElem_cons_zero, List.getElem_cons_succ, List.setIfInBounds_toArray, List.set_cons_zero, List.set_cons_succ]
      refine held_q (v := ?_) (i := 8) rfl (by kernel_rfl) (by kernel_rfl) (by kernel_rfl) (fun _ _ _ h => h) (by rfl) hHeld ?_ ?_
      rotate_left
      · (intro w' hS'; go_simp <;> (with_reducible rfl))
      simp only [Act.put, List.getElem_toArray, List.getElem_cons_zero, List.getElem_cons_succ, List.setIfInBounds_toArray, List.set_cons_zero, List.set_cons_succ]
      refine held_q (v := ?_) (i := 9) rfl (by kernel_rfl) (by kernel_rfl) (by kernel_rfl) (fun _ _ _ h => h) (by rfl) hHeld ?_ ?_
      rotate_left
      · (intro w' hS'; go_simp <;> (with_reducible rfl))
      simp only [Act.put, List.getElem_toArray, List.getElem_cons_zero, List.getElem_cons_succ, List.setIfInBounds_toArray, List.set_cons_zero, List.set_cons_succ]
      refine held_q (v := ?_) (i := 10) rfl (by kernel_rfl) (by kernel_rfl) (by kernel_rfl) (fun _ _ _ h => h) (by rfl) hHeld ?_ ?_
      rotate_left
      · (intro w' hS'; go_simp <;> (with_reducible rfl))
      simp only [Act.put, List.getElem_toArray, List.getElem_cons_zero, List.getElem_cons_succ, List.setIfInBounds_toArray, List.set_cons_zero, List.set_cons_succ]
      refine held_q (v := ?_) (i := 11) rfl (by kernel_rfl) (by kernel_rfl) (by kernel_rfl) (fun _ _ _ h => h) (by rfl) hHeld ?_ ?_
      rotate_left
      · (intro w' hS'; go_simp <;> (with_reducible rfl))
      simp only [Act.put, List.getElem_toArray, List.getElem_cons_zero, List.getElem_cons_succ, List.setIfInBounds_toArray, List.set_cons_zero, List.set_cons_succ]
      refine held_v (i := 6) (by kernel_rfl) rfl (by rfl) (exec_buildSlice 32 0 _ rfl (by go_simp <;> rfl) bs0) (ks1) (fun hHeld => ?_)
      simp only [Act.put, List.getElem_toArray, List.getElem_cons_zero, List.getElem_cons_succ, List.setIfInBounds_toArray, List.set_cons_zero, List.set_cons_succ]
      refine held_v (i := 12) (by kernel_rfl) rfl (by rfl) (exec_append2 32 32 _ _ rfl rfl rfl ap2) (ks2) (fun hHeld => ?_)
      simp only [Act.put, List.getElem_toArray, List.getElem_cons_zero, List.getElem_cons_succ, List.setIfInBounds_toArray, List.set_cons_zero, List.set_cons_succ]
      refine held_q (i := 13) rfl (by kernel_rfl) (by kernel_rfl) (by kernel_rfl) (fun _ _ _ h => h) (by rfl) hHeld (fun w' hS' => exec_build 41 _ rfl (by go_simp <;> rfl) (bf w')) ?_
      simp only [Act.put, List.getElem_toArray, List.getElem_cons_zero, List.getElem_cons_succ, List.setIfInBounds_toArray, List.set_cons_zero, List.set_cons_succ]
      refine held_v (i := 14) (by kernel_rfl) rfl (by rfl) (exec_buildSlice 23 1 _ rfl (by go_simp <;> rfl) bs3) (ks3) (fun hHeld => ?_)
      simp only [Act.put, List.getElem_toArray, List.getElem_cons_zero, List.getElem_cons_succ, List.setIfInBounds_toArray, List.set_cons_zero, List.set_cons_succ]
      refine held_v (i := 15) (by kernel_rfl) rfl (by rfl) (exec_append2 23 23 _ _ rfl rfl rfl ap4) (ks4) (fun hHeld => ?_)
      simp only [Act.put, List.getElem_toArray, List.getElem_cons_zero, List.getElem_cons_succ, List.setIfInBounds_toArray, List.set_cons_zero, List.set_cons_succ]
      refine held_q (v := ?_) (i := 16) rfl (by kernel_rfl) (by kernel_rfl) (by kernel_rfl) (fun _ _ _ h => h) (by rfl) hHeld ?_ ?_
      rotate_left
      · (intro w' hS'; go_simp <;> (with_reducible rfl))
      simp only [Act.put, List.getElem_toArray, List.getElem_cons_zero, List.getElem_cons_succ, List.setIfInBounds_toArray, List.set_cons_zero, List.set_cons_succ]
      refine wpAnyH_done (by kernel_rfl) ?_ _
      go_wp2_with fail
      go_roundw
      case rel => exact ⟨k + 1, ps ++ [(f.path, .slice ab f.bytes.length cb)], by omega, by go_num, ⟨a4, c4, by rw [List.length_append]; rfl⟩, by rw [List.length_append]; exact HN.out, k4⟩
      case measure => simp [intOf]; omega
    · obtain rfl : k = l.length := by omega
      have hHR := HR.out
      rw [List.take_length] at hHR
      have HT := Lib.hid (TreeAt.of_row hHR.1 hHR.2.pairs)
      clear hHR HR
      go_wp2_with fail
      go_ret
      exact ⟨_, rfl, HT.out, hkr⟩

/- tree.Read, what it reads lying above what was there (TH's text with a base). -/

theorem row_keepB {S : Nat → Prop} {w w' : World} {base : Nat} {t : TypeId} {z : Nat} {v : Value} {n : Nat} {xs : List Value} (h : w.ownsRow base t z v n xs) (hk : Kept S w w') (hS : ∀ k, v.ownBlock = some k → ¬ S k) : w'.ownsRow base t z v n xs := by
  refine ⟨h.1, ?_⟩
  rcases h.2 with h0 | ⟨g, cap, cur, rfl, hb, hg, hr⟩
  · exact .inl h0
  · exact .inr ⟨g, cap, cur, rfl, hb, by rw [hk.block g (Array.getElem?_eq_some_iff.1 hg).1 (hS g rfl)]; exact hg, hr⟩
/-- A tree at B or above: it stays though what lies below turns. -/
def TreeFar (B : Nat) (w : World) (x : Value) (fs : List FileE) : Prop := ∀ w', Kept (fun k => k < B) w w' → TreeAt w' x fs
/-- A row of files whose bytes lie in rows of their own, at B or above. -/
def PairsB (B : Nat) (w : World) (ps : List (ByteArray × Value)) (l : List FileE) : Prop := ps.length = l.length ∧ ∀ (j : Nat) f, l[j]? = some f → f.path.size ≤ maxLen ∧ ∃ x, ps[j]? = some (f.path, x) ∧ w.ownsRow B 5 1 x f.bytes.length (bv f.bytes)
theorem PairsB.at {B : Nat} {w : World} {ps : List (ByteArray × Value)} {l : List FileE} (h : PairsB B w ps l) : PairsAt w ps l :=
  ⟨h.1, fun j f hf => by obtain ⟨h1, x, h2, h3⟩ := h.2 j f hf; exact ⟨h1, x, h2, ByAt.own h3⟩⟩
theorem PairsB.kept {B : Nat} {w w' : World} {ps : List (ByteArray × Value)} {l : List FileE} (h : PairsB B w ps l) (hk : Kept (fun _ => False) w w') : PairsB B w' ps l :=
  ⟨h.1, fun j f hf => by obtain ⟨h1, x, h2, h3⟩ := h.2 j f hf; exact ⟨h1, x, h2, row_kept h3 hk⟩⟩
/-- A row of files grows: the bytes stay. -/
theorem PairsB.grown {B : Nat} {w w' : World} {ps : List (ByteArray × Value)} {l : List FileE} {base n : Nat} {v : Value} {xs : List Value} (h : PairsB B w ps l) (ho : w.ownsRow base 41 2 v n xs) (hg : w.grownBy w' v.ownBlock) : PairsB B w' ps l :=
  ⟨h.1, fun j f hf => by
    obtain ⟨h1, x, h2, h3⟩ := h.2 j f hf
    refine ⟨h1, x, h2, h3.kept hg ?_⟩
    rcases h3.2 with ⟨rfl, _⟩ | ⟨g, cap, cur, rfl, _, hgx, _⟩
    · exact .inl rfl
    · right
      intro e
      rcases ho.2 with ⟨rfl, _⟩ | ⟨g', cap', cur', rfl, _, hgo, _⟩
      · cases e
      · have e : some g = some g' := e
        injection e with e; subst e
        rw [hgx] at hgo; injection hgo with hgo; injection hgo with _ hgo; exact absurd hgo (by decide)⟩
theorem PairsB.snoc {B : Nat} {w : World} {ps : List (ByteArray × Value)} {l : List FileE} (h : PairsB B w ps l) {f : FileE} {x : Value} (hs : f.path.size ≤ maxLen) (hx : w.ownsRow B 5 1 x f.bytes.length (bv f.bytes)) : PairsB B w (ps ++ [(f.path, x)]) (l ++ [f]) := by
  refine ⟨by simp [h.1], fun j g hg => ?_⟩
  by_cases e : j < l.length
  · rw [List.getElem?_append_left e] at hg
    obtain ⟨h1, y, h2, h3⟩ := h.2 j g hg
    exact ⟨h1, y, by rw [List.getElem?_append_left (by rw [h.1]; exact e)]; exact h2, h3⟩
  · have hj := (List.getElem?_eq_some_iff.1 hg).1
    simp at hj
    obtain rfl : j = l.length := by omega
    rw [List.getElem?_append_right (Nat.le_refl _)] at hg
    simp at hg
    subst hg
    exact ⟨hs, x, by rw [List.getElem?_append_right (by rw [h.1]; exact Nat.le_refl _), h.1]; simp, hx⟩

theorem PairsB.keptS {B : Nat} {w w' : World} {ps : List (ByteArray × Value)} {l : List FileE} (h : PairsB B w ps l) (hk : Kept (fun k => k < B) w w') : PairsB B w' ps l :=
  ⟨h.1, fun j f hf => by obtain ⟨h1, x, h2, h3⟩ := h.2 j f hf; exact ⟨h1, x, h2, row_keepB h3 hk (fun k e hlt => absurd (World.ownsRow.lt h3 k e).1 (by omega))⟩⟩
theorem TreeFar.of_row {B base : Nat} {w : World} {x : Value} {ps : List (ByteArray × Value)} {l : List FileE} (ho : w.ownsRow base 41 2 x ps.length (prs ps)) (hB : B ≤ base) (hp : PairsB B w ps l) : TreeFar B w x l :=
  fun w' hk => TreeAt.of_row (row_keepB ho hk (fun k e hlt => absurd (World.ownsRow.lt ho k e).1 (by omega))) (hp.keptS hk).at
theorem TreeFar.kept {B : Nat} {w w' : World} {x : Value} {l : List FileE} (h : TreeFar B w x l) (hk : Kept (fun _ => False) w w') : TreeFar B w' x l :=
  fun w'' k => h w'' ((hk.mono (fun _ _ q => q.elim)).trans k)

/-- What Read hands back. -/
def ReadFar (B : Nat) (w : World) (res : Option (List FileE)) (e : Ending) (w' : World) : Prop := Kept (fun _ => False) w w' ∧ match res with
  | some fs => ∃ x, e = .returned (.tuple #[x, .int .i64 0]) ∧ TreeFar B w' x fs
  | none => e = .returned (.tuple #[.slice none 0 0, .int .i64 5])
theorem ReadFar.no {B : Nat} {w w' : World} {res : Option (List FileE)} (h : res = none) (hk : Kept (fun _ => False) w w') : ReadFar B w res (.returned (.tuple #[.slice none 0 0, .int .i64 5])) w' := by subst h; exact ⟨hk, rfl⟩
theorem ReadFar.yes {B : Nat} {w w' : World} {res : Option (List FileE)} {fs : List FileE} {x : Value} (h : res = some fs) (hk : Kept (fun _ => False) w w') (ht : TreeFar B w' x fs) : ReadFar B w res (.returned (.tuple #[x, .int .i64 0])) w' := by subst h; exact ⟨hk, x, rfl, ht⟩

set_option maxRecDepth 100000 in
set_option maxHeartbeats 4000000 in
theorem read_ctB {B : Nat} {w : World} {v : Value} {l : List UInt8} (h : ByC w v l) (hl : l.length ≤ 100000) (hB : B ≤ w.heap.size) :
    Calls Tryd.prog 16 #[v] w fun e w' => ReadFar B w (readS l) e w' := by
  have uc := uint_ct h (i := 0) (by omega) hl
  rw [List.drop_zero] at uc
  have bc := fun (w' : World) (q : Kept (fun _ => False) w w') (i : Nat) (hi : i ≤ l.length) => wireBytes_ct (h.kept q) hi hl (m := 40) (by omega)
  have bc2 := fun (w' : World) (q : Kept (fun _ => False) w w') (i : Nat) (hi : i ≤ l.length) => wireBytes_ct (h.kept q) hi hl (m := 2000) (by omega)
  generalize hres0 : readS l = res
  unfold readS at hres0
  cases hu : uintS l with
  | none =>
    rw [hu] at uc hres0
    dsimp only at uc hres0
    have HR := Lib.hid hres0.symm
    clear hres0
    obtain ⟨_, a, c, hv, _⟩ := h
    subst hv
    clear hu bc bc2
    go_enter Tryd.func16, Tryd.ntmps16
    go_wp2_with fail
    refine uc.mono ?_
    rintro e W ⟨rfl, x, hx, rfl⟩
    go_wp2_with fail
    go_ret2
    exact ReadFar.no HR.out (Kept.refl _ _)
  | some nk =>
    obtain ⟨n, k⟩ := nk
    obtain ⟨hk, hn8⟩ := uintS_le hu
    rw [hu] at uc hres0
    dsimp only at uc hres0
    rw [Nat.zero_add] at uc
    by_cases h16 : 16 < n
    · rw [if_pos h16] at hres0
      have HR := Lib.hid hres0.symm
      clear hres0
      have d16 : decide ((16 : Int) < (n : Int)) = true := decide_eq_true (by omega)
      have h16i : (16 : Int) < n := by omega
      obtain ⟨_, a, c, hv, _⟩ := h
      subst hv
      clear hu bc bc2
      go_enter Tryd.func16, Tryd.ntmps16
      go_wp2_with fail
      refine uc.mono ?_
      rintro e W ⟨rfl, rfl⟩
      go_wp2_with fail
      go_ret2
      exact ReadFar.no HR.out (Kept.refl _ _)
    rw [if_neg h16] at hres0
    have d16 : decide ((16 : Int) < (n : Int)) = false := decide_eq_false (by omega)
    have hcap := h.2
    obtain ⟨_, a, c, hv, _⟩ := h
    subst hv
    clear hu hcap
    have hres : finS l [] k n = res := by rw [← hres0]; unfold finS; rfl
    clear hres0
    go_enter Tryd.func16, Tryd.ntmps16
    go_wp2_with fail
    refine uc.mono ?_
    rintro e W ⟨hW, rfl⟩
    subst hW
    go_wp2_with fail
    go_loopw [5, 7, 25] (fun x5 x7 x25 wr => ∃ (q i : Nat) (ps : List (ByteArray × Value)) (fs0 : List FileE), q ≤ n ∧ x25 = .int .u64 q ∧ x5 = .int .i64 i ∧ i ≤ l.length ∧ wr.ownsRow W.heap.size 41 2 x7 ps.length (prs ps) ∧ PairsB B wr ps fs0 ∧ fs0.length = q ∧ Kept (fun _ => False) W wr ∧ finS l fs0 i (n - q) = res) (fun _ _ x25 _ => n - (intOf x25).toNat)
    case atStart => exact ⟨0, k, [], [], by omega, rfl, rfl, hk, World.ownsRow_nil _ _ _ _, ⟨rfl, fun j f hf => by simp at hf⟩, rfl, Kept.refl _ _, hres⟩
    case round =>
      obtain ⟨q, i, ps, fs0, hq, rfl, rfl, hi, ho, hp, hfl, hkr, hrs⟩ := hrel
      obtain ⟨ao, co, hvo⟩ := row_form ho
      subst hvo
      have HRS := Lib.hid hrs
      have hpl := hp.1
      have hps16 : ps.length ≤ 16 := by omega
      clear hrs hpl hres
      by_cases hlt : q < n
      · obtain ⟨m, hm⟩ : ∃ m, n - q = m + 1 := ⟨n - q - 1, by omega⟩
        have hqn : (q : Int) < n := by omega
        have b1 := bc wr hkr i hi
        cases hb1 : bytesS (l.drop i) 40 with
        | none =>
          rw [hb1] at b1
          dsimp only at b1
          have hr0 : res = none := by rw [← HRS.out, hm]; exact finS_none1 hb1
          have HR := Lib.hid hr0
          clear hb1 bc bc2 ho hp hr0
          go_wp2_with fail
          refine b1.mono ?_
          rintro e W1 ⟨k1, x, hx, rfl⟩
          go_wp2_with fail
          go_ret2
          exact ReadFar.no HR.out (hkr.trans k1)
        | some pk =>
          obtain ⟨p, k1⟩ := pk
          obtain ⟨hk1, hp40⟩ := bytesS_le hb1
          rw [List.length_drop] at hk1
          have hi1 : i + k1 ≤ l.length := by omega
          rw [hb1] at b1
          dsimp only at b1
          go_wp2_with fail
          refine b1.mono ?_
          rintro e W1 ⟨kw1, x1, rfl, ho1⟩
          have kk1 := hkr.trans kw1
          have b2 := bc2 W1 kk1 (i + k1) hi1
          obtain ⟨ax, cx, hx1⟩ := row_form ho1
          subst hx1
          have ho1' := own_base ho1 (Nat.le_trans hB hkr.size)
          obtain ⟨ij, hij⟩ : ∃ ij, i + k1 = ij := ⟨_, rfl⟩
          rw [hij] at b2 hi1
          cases hb2 : bytesS (l.drop ij) 2000 with
          | none =>
            rw [hb2] at b2
            dsimp only at b2
            have hr0 : res = none := by rw [← HRS.out, hm]; exact finS_none2 hb1 (by rw [hij]; exact hb2)
            have HR := Lib.hid hr0
            clear hb1 hb2 bc bc2 ho hp b1 ho1 ho1' hr0
            try rw [hij]
            go_wp2_with fail
            refine b2.mono ?_
            rintro e W2 ⟨k2, x, hx, rfl⟩
            go_wp2_with fail
            go_ret2
            exact ReadFar.no HR.out (kk1.trans k2)
          | some xk =>
            obtain ⟨xs, k2⟩ := xk
            obtain ⟨hk2, hx2000⟩ := bytesS_le hb2
            rw [List.length_drop] at hk2
            rw [hb2] at b2
            dsimp only at b2
            have hnext : finS l (fs0 ++ [⟨⟨p.toArray⟩, xs⟩]) (ij + k2) (n - (q + 1)) = res := by
              rw [← HRS.out, hm, finS_some hb1 (by rw [hij]; exact hb2), hij]
              congr 1; omega
            have HN := Lib.hid hnext
            clear hb1 hb2 bc bc2 b1 hnext hm
            try rw [hij]
            go_wp2_with fail
            refine b2.mono ?_
            rintro e W2 ⟨kw2, x2, rfl, ho2⟩
            have kk2 := kk1.trans kw2
            obtain ⟨ay, cy, hx2⟩ := row_form ho2
            subst hx2
            have ho2' := own_base ho2 (Nat.le_trans hB kk1.size)
            have cs := conv_str (ByAt.own (row_kept ho1' kw2))
            have hps40 : (⟨p.toArray⟩ : ByteArray).size = p.length := by simp [ByteArray.size]
            have bf := build_f ⟨p.toArray⟩ ay xs.length cy W2
            have bs := bslice_f1 ⟨p.toArray⟩ ay xs.length cy W2
            have k3 : Kept (fun _ => False) W2 (W2.alloc (.cells #[.string ⟨p.toArray⟩, .slice ay xs.length cy] 41)) := (Kept.refl _ W2).alloc _
            have hr3 := heap_last W2 (.cells #[.string ⟨p.toArray⟩, .slice ay xs.length cy] 41)
            generalize W2.alloc (.cells #[.string ⟨p.toArray⟩, .slice ay xs.length cy] 41) = W3 at bs k3 hr3
            have hoo := row_kept (row_kept (row_kept ho kw1) kw2) k3
            obtain ⟨v', w', ap, ho', hg'⟩ := app_files hoo (ad := ⟨W2.heap.size, 0, none⟩) (m := 1) (c := 1) (news := prs [((⟨p.toArray⟩ : ByteArray), Value.slice ay xs.length cy)]) rfl (fun j u hu => by
              rw [Addr.add_mid, Nat.zero_add, cell_of_row _ _ _ _ _ _ hr3]
              simpa [prs] using hu) (fun u hu => by simp [prs] at hu; rcases hu with rfl | rfl <;> rfl) (by omega) (Nat.le_trans kk2.size k3.size) 23 23 Tryd.underlying23
            have kk3 : Kept (fun _ => False) W w' := grown_kept (kk2.trans k3) hg' (fun k e => (World.ownsRow.lt hoo k e).1)
            have hp3 := (((hp.kept kw1).kept kw2).kept k3).snoc (f := ⟨⟨p.toArray⟩, xs⟩) (x := .slice ay xs.length cy) (by simp only [hps40, maxLen]; omega) (row_kept ho2' k3)
            have hp4 := hp3.grown hoo hg'
            rw [← prs_app] at ho'
            obtain ⟨a', c', hv'⟩ := row_form ho'
            subst hv'
            have HP4 := Lib.hid hp4
            have HO4 := Lib.hid ho'
            clear hp4 hp3 hp ho ho1 ho1' ho2 ho2' hoo hg' hr3 k3 ho' hps40
            have hik : ij + k2 ≤ l.length := by omega
            go_wp2_with (first
              | (with_reducible refine wpl_build 41 _ rfl rfl ?_ bf ?_
                 · (go_simp <;> rfl)
                 simp only [Act.put, List.getElem_toArray, List.getElem_cons_zero, List.getElem_cons_succ, List.setIfInBounds_toArray, List.set_cons_zero, List.set_cons_succ])
              | (with_reducible refine wpl_bslice 23 _ _ rfl rfl ?_ bs ?_
                 · (go_simp <;> rfl)
                 simp only [Act.put, List.getElem_toArray, List.getElem_cons_zero, List.getElem_cons_succ, List.setIfInBounds_toArray, List.set_cons_zero, List.set_cons_succ])
              | (refine wpl_val rfl (exec_append 23 _ _ rfl rfl rfl ap) ?_))
            go_roundw
            case rel => exact ⟨q + 1, ij + k2, _, _, by omega, by go_num, by simp, hik, by rw [List.length_append]; exact HO4.out, HP4.out, by rw [List.length_append, hfl]; rfl, kk3, HN.out⟩
            case measure => simp [intOf]; omega
      · obtain rfl : q = n := by omega
        have hrz : res = if i = l.length ∧ mayB fs0 = true then some fs0 else none := by
          rw [← HRS.out, Nat.sub_self, finS_zero]
        have HRZ := Lib.hid hrz
        have ht := TreeAt.of_row ho hp.at
        have htB := TreeFar.of_row ho hB hp
        have mc := may_ct ht
        clear hrz bc bc2 ho hp
        by_cases hil : i = l.length
        · have en : ((i : Int) != (l.length : Int)) = false := by rw [hil]; simp
          generalize hmb : mayB fs0 = mb at mc
          have HIL := Lib.hid hil
          have HMB := Lib.hid hmb
          clear hil hmb
          cases mb with
          | true =>
            go_wp2_with fail
            refine mc.mono ?_
            rintro e W5 ⟨rfl, k5⟩
            go_wp2_with fail
            go_ret2
            exact ReadFar.yes (by rw [HRZ.out, if_pos ⟨HIL.out, HMB.out⟩]) (hkr.trans k5) (htB.kept k5)
          | false =>
            go_wp2_with fail
            refine mc.mono ?_
            rintro e W5 ⟨rfl, k5⟩
            go_wp2_with fail
            go_ret2
            exact ReadFar.no (by rw [HRZ.out, if_neg (fun z => by rw [HMB.out] at z; cases z.2)]) (hkr.trans k5)
        · have en : ((i : Int) != (l.length : Int)) = true := by simp; omega
          have HIL := Lib.hid hil
          clear hil mc
          go_wp2_with fail
          go_ret2
          exact ReadFar.no (by rw [HRZ.out, if_neg (fun z => HIL.out z.1)]) hkr

/- A tree's bytes, in memory of the call's own (SY's text). -/

/-- These bytes, with their room, in a row of the call's own at B or above. -/
def OwnR (B : Nat) (w : World) (v : Value) (l : List UInt8) : Prop := ByC w v l ∧ w.ownsRow B 5 1 v l.length (bv l)
theorem OwnR.own {B : Nat} {w : World} {v : Value} {l : List UInt8} (h : w.ownsRow B 5 1 v l.length (bv l)) : OwnR B w v l := ⟨ByC.own h, h⟩
theorem OwnR.kept {B : Nat} {w w' : World} {v : Value} {l : List UInt8} (h : OwnR B w v l) (hk : Kept (fun _ => False) w w') : OwnR B w' v l := ⟨h.1.kept hk, row_kept h.2 hk⟩
set_option maxHeartbeats 1000000 in
theorem appendUint_ctO {w : World} {v : Value} {l : List UInt8} {B : Nat} (hB : B ≤ w.heap.size) (h : ByAt w v l) (hl : l.length ≤ 100000) {n : Nat} (hn : n < 18446744073709551616) :
    Calls Tryd.prog 42 #[v, .int .u64 n] w fun e w' => ∃ v', e = .returned v' ∧ OwnR B w' v' (l ++ formL n) ∧ Kept (fun _ => False) w w' := by
  obtain ⟨a, c, hv⟩ := h.slc
  subst hv
  go_enter Tryd.func42, Tryd.ntmps42
  go_wp2_with fail
  refine (form_ct n hn w).mono ?_
  rintro e W ⟨v1, rfl, h1, k1⟩
  obtain ⟨a1, c1, hv1⟩ := h1.slc
  subst hv1
  go_wp2_with fail
  have k2 : Kept (fun _ => False) W (W.alloc (.cells #[.slice a l.length c, .slice a1 (formL n).length c1] 32)) := (Kept.refl _ W).alloc _
  have hg := heap_last W (.cells #[.slice a l.length c, .slice a1 (formL n).length c1] 32)
  have hR : RowsAt (W.alloc (.cells #[.slice a l.length c, .slice a1 (formL n).length c1] 32)) (.slice (some ⟨W.heap.size, 0, none⟩) 2 2) [l, formL n] :=
    ⟨W.heap.size, [.slice a l.length c, .slice a1 (formL n).length c1], 2, rfl, rfl, hg, fun j x hx => by
      match j, hx with
      | 0, hx => simp at hx; subst hx; exact ⟨_, rfl, h.kept (k1.trans k2)⟩
      | 1, hx => simp at hx; subst hx; exact ⟨_, rfl, h1.kept k2⟩⟩
  have hfl := formL_len n
  have ht : total [l, formL n] = l.length + (formL n).length := by simp [total]
  refine (behind_ct hR (by omega) (by simp)).mono ?_
  rintro e W3 ⟨v3, rfl, ho, k3⟩
  rw [ht] at ho
  obtain ⟨a3, c3, rfl⟩ := row_form ho
  go_wp2_with fail
  go_ret
  exact ⟨_, rfl, OwnR.own (by simpa using own_base ho (Nat.le_trans hB (k1.trans k2).size)), (k1.trans k2).trans k3⟩
set_option maxHeartbeats 1000000 in
theorem appendBytes_ctO {w : World} {v x : Value} {l m : List UInt8} {B : Nat} (hB : B ≤ w.heap.size) (h : ByAt w v l) (hx : ByAt w x m) (hl : l.length ≤ 100000) (hm : m.length ≤ 100000) :
    Calls Tryd.prog 43 #[v, x] w fun e w' => ∃ v', e = .returned v' ∧ OwnR B w' v' (l ++ formL m.length ++ m) ∧ Kept (fun _ => False) w w' := by
  obtain ⟨a, c, hv⟩ := h.slc
  subst hv
  obtain ⟨b, d, hy⟩ := hx.slc
  subst hy
  have hw : IntKind.u64.wrap (m.length : Int) = m.length := IntWalk.u64_in _ (by omega)
  go_enter Tryd.func43, Tryd.ntmps43
  go_wp2_with fail
  refine (form_ct m.length (by omega) w).mono ?_
  rintro e W ⟨v1, rfl, h1, k1⟩
  obtain ⟨a1, c1, hv1⟩ := h1.slc
  subst hv1
  go_wp2_with fail
  have k2 : Kept (fun _ => False) W (W.alloc (.cells #[.slice a l.length c, .slice a1 (formL m.length).length c1, .slice b m.length d] 32)) := (Kept.refl _ W).alloc _
  have hg := heap_last W (.cells #[.slice a l.length c, .slice a1 (formL m.length).length c1, .slice b m.length d] 32)
  have hR : RowsAt (W.alloc (.cells #[.slice a l.length c, .slice a1 (formL m.length).length c1, .slice b m.length d] 32)) (.slice (some ⟨W.heap.size, 0, none⟩) 3 3) [l, formL m.length, m] :=
    ⟨W.heap.size, [.slice a l.length c, .slice a1 (formL m.length).length c1, .slice b m.length d], 3, rfl, rfl, hg, fun j x hx' => by
      match j, hx' with
      | 0, hx' => simp at hx'; subst hx'; exact ⟨_, rfl, h.kept (k1.trans k2)⟩
      | 1, hx' => simp at hx'; subst hx'; exact ⟨_, rfl, h1.kept k2⟩
      | 2, hx' => simp at hx'; subst hx'; exact ⟨_, rfl, hx.kept (k1.trans k2)⟩⟩
  have hfl := formL_len m.length
  have ht : total [l, formL m.length, m] = l.length + ((formL m.length).length + m.length) := by simp [total]
  refine (behind_ct hR (by omega) (by simp)).mono ?_
  rintro e W3 ⟨v3, rfl, ho, k3⟩
  rw [ht] at ho
  obtain ⟨a3, c3, rfl⟩ := row_form ho
  go_wp2_with fail
  go_ret
  exact ⟨_, rfl, OwnR.own (by simpa using own_base ho (Nat.le_trans hB (k1.trans k2).size)), (k1.trans k2).trans k3⟩

set_option maxRecDepth 100000 in
set_option maxHeartbeats 2000000 in
theorem raw_ctO {w : World} {v : Value} {l : List FileE} {B : Nat} (hB : B ≤ w.heap.size) (h : TreeAt w v l) (hl : l.length ≤ 16) (hf : ∀ f ∈ l, f.path.size ≤ 40 ∧ f.bytes.length ≤ 2000) :
    Calls Tryd.prog 27 #[v] w fun e w' => ∃ v', e = .returned v' ∧ OwnR B w' v' (rawL l) ∧ Kept (fun _ => False) w w' := by
  obtain ⟨a, c, hv⟩ := h.slc
  subst hv
  have hw : IntKind.u64.wrap (l.length : Int) = l.length := IntWalk.u64_in _ (by omega)
  go_enter Tryd.func27, Tryd.ntmps27
  go_wp2_with fail
  refine (appendUint_ctO hB (ByAt.nil w 0) (by simp) (n := l.length) (by omega)).mono ?_
  rintro e W ⟨v1, rfl, h1, k1⟩
  obtain ⟨a1, c1, hv1⟩ := h1.1.1.slc
  subst hv1
  go_wp2_with fail
  rw [List.nil_append] at h1
  go_loopw [3, 12] (fun s i wr => ∃ k : Nat, k ≤ l.length ∧ i = .int .i64 k ∧ OwnR B wr s (formL l.length ++ filesL (l.take k)) ∧ Kept (fun _ => False) w wr) (fun _ i _ => l.length - (intOf i).toNat)
  case atStart => exact ⟨0, by omega, rfl, by simpa [filesL] using h1, k1⟩
  case round =>
    obtain ⟨k, hk, rfl, hb, hkr⟩ := hrel
    obtain ⟨as1, cs1, rfl⟩ := hb.1.1.slc
    by_cases hlt : k < l.length
    · have hfk : l[k]? = some l[k] := List.getElem?_eq_getElem hlt
      have hft := filesL_take hfk
      have hff := hf l[k] (List.getElem_mem hlt)
      have hlen := filesL_len (l := l.take k) (fun g hg => hf g (List.mem_of_mem_take hg))
      have hl9 := formL_len l.length
      have hl9' := formL_len l[k].path.size
      have hlen2 : (formL l.length ++ filesL (l.take k)).length ≤ 50000 := by rw [List.length_append]; simp only [List.length_take] at hlen; omega
      generalize l[k] = f at hfk hft hff hl9'
      obtain ⟨hps, b, o, x, rfl, hbl, hrx, hBy⟩ := (h.kept hkr).file hfk
      obtain ⟨ab, cb, rfl⟩ := hBy.slc
      have ld := load_file hrx
      have st := store_file (w := wr) (p := f.path) (a := ab) (n := f.bytes.length) (c := cb)
      go_upto_region 5 with (first
        | (with_reducible refine wpl_load 41 _ rfl rfl ?_ ld ?_
           · rfl
           simp only [Act.put, List.getElem_toArray, List.getElem_cons_zero, List.getElem_cons_succ, List.setIfInBounds_toArray, List.set_cons_zero, List.set_cons_succ])
        | (with_reducible refine wpl_alloc 41 rfl rfl (zeroFile _) ?_
           simp only [World.size_alloc, Act.put, List.getElem_toArray, List.getElem_cons_zero, List.getElem_cons_succ, List.setIfInBounds_toArray, List.set_cons_zero, List.set_cons_succ])
        | (with_reducible refine wpl_store 41 _ _ rfl rfl ?_ ?_ st ?_
           · rfl
           · rfl
           simp only [Act.put, List.getElem_toArray, List.getElem_cons_zero, List.getElem_cons_succ, List.setIfInBounds_toArray, List.set_cons_zero, List.set_cons_succ]))
      have hb7 := heap_last wr (.cells #[.string f.path, .slice ab f.bytes.length cb] 41)
      have k7 : Kept (fun _ => False) wr (wr.alloc (.cells #[.string f.path, .slice ab f.bytes.length cb] 41)) := (Kept.refl _ wr).alloc _
      generalize wr.alloc (.cells #[.string f.path, .slice ab f.bytes.length cb] 41) = W7 at hb7 k7 ⊢
      have hz7 := (Array.getElem?_eq_some_iff.1 hb7).1
      generalize wr.heap.size = Bk at hb7 hz7 ⊢
      have cF0 : ∀ w', Kept (fun _ => False) W7 w' → w'.cell? ⟨Bk, 0, none⟩ = some (.string f.path) := fun w' q => by rw [q.cell (p := ⟨Bk, 0, none⟩) hz7 not_false, cell_of_row _ _ _ _ _ _ hb7]; rfl
      have cF1 : ∀ w', Kept (fun _ => False) W7 w' → w'.cell? ⟨Bk, 1, none⟩ = some (.slice ab f.bytes.length cb) := fun w' q => by rw [q.cell (p := ⟨Bk, 1, none⟩) hz7 not_false, cell_of_row _ _ _ _ _ _ hb7]; rfl
      have kw7 := hkr.trans k7
      have hB0 := Nat.le_trans hB kw7.size
      have hb7' := hb.1.1.kept k7
      have hB7 := hBy.kept k7
      obtain ⟨v8, W8, cv, h8, k8, a8, n8, c8, hv8⟩ := conv_by W7.drew f.path hps
      have k78 : Kept (fun _ => False) W7 W8 := ((Kept.refl _ W7).drew).trans k8
      have e8 : f.path.data.toList.length = f.path.size := by simp
      have hl9b := formL_len f.path.data.toList.length
      subst hv8
      clear ld st hrx hBy hb
      refine wp_region_held_drew (S := (Kept (fun _ => False) W7)) (by kernel_rfl) ((Kept.refl _ W7).drew) (fun hHeld => ?_)
      refine held_q (v := ?_) (i := 0) rfl (by kernel_rfl) (by kernel_rfl) (by kernel_rfl) (fun _ _ _ h => h) (by rfl) hHeld ?_ ?_
      rotate_left
      · (intro w' hS'; go_simp <;> (with_reducible rfl))
      simp only [Act.put, List.getElem_toArray, List.getElem_cons_zero, List.getElem_cons_succ, List.setIfInBounds_toArray, List.set_cons_zero, List.set_cons_succ]
      refine held_q (v := ?_) (i := 1) rfl (by kernel_rfl) (by kernel_rfl) (by kernel_rfl) (fun _ _ _ h => h) (by rfl) hHeld ?_ ?_
      rotate_left
      · (intro w' hS'; go_simp <;> (with_reducible rfl))
      simp only [Act.put, List.getElem_toArray, List.getElem_cons_zero, List.getElem_cons_succ, List.setIfInBounds_toArray, List.set_cons_zero, List.set_cons_succ]
      refine held_q (v := ?_) (i := 2) rfl (by kernel_rfl) (by kernel_rfl) (by kernel_rfl) (fun _ _ _ h => h) (by rfl) hHeld ?_ ?_
      rotate_left
      · (intro w' hS'; go_simp <;> (with_reducible rfl))
      simp only [Act.put, List.getElem_toArray, List.getElem_cons_zero, List.getElem_cons_succ, List.setIfInBounds_toArray, List.set_cons_zero, List.set_cons_succ]
      refine held_q (v := ?_) (i := 5) rfl (by kernel_rfl) (by kernel_rfl) (by kernel_rfl) (fun _ _ _ h => h) (by rfl) hHeld ?_ ?_
      rotate_left
      · (intro w' hS'; go_simp <;> (with_reducible rfl))
      simp only [Act.put, List.getElem_toArray, List.getElem_cons_zero, List.getElem_cons_succ, List.setIfInBounds_toArray, List.set_cons_zero, List.set_cons_succ]
      refine held_q (v := ?_) (i := 6) rfl (by kernel_rfl) (by kernel_rfl) (by kernel_rfl) (fun _ _ _ h => h) (by rfl) hHeld ?_ ?_
      rotate_left
      · (intro w' hS'; go_simp <;> (with_reducible rfl))
      simp only [Act.put, List.getElem_toArray, List.getElem_cons_zero, List.getElem_cons_succ, List.setIfInBounds_toArray, List.set_cons_zero, List.set_cons_succ]
      refine held_v (i := 3) (by kernel_rfl) rfl (by rfl) (exec_conv 9 32 _ rfl rfl cv) (k78) (fun hHeld => ?_)
      simp only [Act.put, List.getElem_toArray, List.getElem_cons_zero, List.getElem_cons_succ, List.setIfInBounds_toArray, List.set_cons_zero, List.set_cons_succ]
      refine held_c (i := 4) (f := 43) (args := #[.slice as1 (formL l.length ++ filesL (l.take k)).length cs1, .slice a8 n8 c8]) (by kernel_rfl) rfl (by rfl) ?_ (appendBytes_ct (hb7'.kept k78) h8 (by omega) (by omega)) ?_
      · (go_simp <;> rfl)
      rintro e W9 ⟨v9, rfl, h9, k9⟩
      have hHeld := k78.trans k9
      refine ⟨_, rfl, hHeld, ?_⟩
      simp only [Act.put, List.getElem_toArray, List.getElem_cons_zero, List.getElem_cons_succ, List.setIfInBounds_toArray, List.set_cons_zero, List.set_cons_succ]
      obtain ⟨a9, c9, hv9⟩ := h9.slc
      subst hv9
      refine held_c (i := 7) (f := 43) (args := #[.slice a9 (formL l.length ++ filesL (l.take k) ++ formL f.path.data.toList.length ++ f.path.data.toList).length c9, .slice ab f.bytes.length cb]) (by kernel_rfl) rfl (by rfl) ?_ (appendBytes_ctO (Nat.le_trans hB0 (k78.trans k9).size) h9 (hB7.kept (k78.trans k9)) (by simp only [List.length_append] at hlen2 ⊢; omega) (by omega)) ?_
      · (go_simp <;> rfl)
      rintro e W10 ⟨v10, rfl, h10, k10⟩
      have hHeld := (k78.trans k9).trans k10
      refine ⟨_, rfl, hHeld, ?_⟩
      simp only [Act.put, List.getElem_toArray, List.getElem_cons_zero, List.getElem_cons_succ, List.setIfInBounds_toArray, List.set_cons_zero, List.set_cons_succ]
      refine held_q (v := ?_) (i := 8) rfl (by kernel_rfl) (by kernel_rfl) (by kernel_rfl) (fun _ _ _ h => h) (by rfl) hHeld ?_ ?_
      rotate_left
      · (intro w' hS'; go_simp <;> (with_reducible rfl))
      simp only [Act.put, List.getElem_toArray, List.getElem_cons_zero, List.getElem_cons_succ, List.setIfInBounds_toArray, List.set_cons_zero, List.set_cons_succ]
      refine wpAnyH_done (by kernel_rfl) ?_ _
      obtain ⟨a10, c10, hv10⟩ := h10.1.1.slc
      subst hv10
      go_wp2_with fail
      go_roundw
      case rel => exact ⟨k + 1, by omega, by go_num, by
        rw [hft]
        rw [e8] at h10
        simpa [List.append_assoc] using h10, kw7.trans hHeld⟩
      case measure => simp [intOf]; omega
    · obtain rfl : k = l.length := by omega
      rw [List.take_length] at hb
      go_wp2_with fail
      go_ret
      exact ⟨_, rfl, by simpa [rawL] using hb, hkr⟩

set_option maxHeartbeats 1000000 in
theorem bytes_ctO {w : World} {v : Value} {l : List FileE} {B : Nat} (hB : B ≤ w.heap.size) (h : TreeAt w v l) (hm : mayB l = true) (hf : ∀ f ∈ l, f.path.size ≤ 40 ∧ f.bytes.length ≤ 2000) (hl : l.length ≤ 16) :
    Calls Tryd.prog 12 #[v] w fun e w' => ∃ v', e = .returned (.tuple #[v', .int .i64 0]) ∧ OwnR B w' v' (rawL l) ∧ Kept (fun _ => False) w w' := by
  have mc := may_ct h
  rw [hm] at mc
  obtain ⟨a, c, hv⟩ := h.slc
  subst hv
  go_enter Tryd.func12, Tryd.ntmps12
  go_wp2_with fail
  refine mc.mono ?_
  rintro e W ⟨rfl, k1⟩
  go_wp2_with fail
  refine (raw_ctO (Nat.le_trans hB k1.size) (h.kept k1) hl hf).mono ?_
  rintro e W2 ⟨v2, rfl, h2, k2⟩
  obtain ⟨a2, c2, hv2⟩ := h2.1.1.slc
  subst hv2
  go_wp2_with fail
  go_ret2
  exact ⟨_, rfl, h2, k1.trans k2⟩

/- Own bytes that are written over (of WA and WE). -/

/-- A slice of n bytes in memory made at base or later. -/
def OwnBy (base : Nat) (w : World) (x : Value) (n : Nat) : Prop := ∃ l : List UInt8, w.ownsRow base 5 1 x n (bv l)
theorem OwnBy.kept {base : Nat} {w w' : World} {x : Value} {n : Nat} (h : OwnBy base w x n) (hk : Kept (fun _ => False) w w') : OwnBy base w' x n := by
  obtain ⟨l, h⟩ := h
  exact ⟨l, row_kept h hk⟩
theorem OwnBy.slc {base : Nat} {w : World} {x : Value} {n : Nat} (h : OwnBy base w x n) : ∃ a c, x = .slice a n c := by obtain ⟨l, h⟩ := h; exact row_form h
theorem OwnBy.low {base b2 : Nat} {w : World} {x : Value} {n : Nat} (h : OwnBy base w x n) (hb : b2 ≤ base) : OwnBy b2 w x n := by
  obtain ⟨l, h1, h2⟩ := h
  refine ⟨l, h1, ?_⟩
  rcases h2 with h2 | ⟨g, cap, cur, q1, q2, q3⟩
  · exact .inl h2
  · exact .inr ⟨g, cap, cur, q1, Nat.le_trans hb q2, q3⟩
/-- A cell of another kind of block is written. -/
theorem OwnBy.other {base : Nat} {w : World} {x : Value} {n : Nat} (h : OwnBy base w x n) {g j : Nat} {C : Array Value} {t : TypeId} {fr : Nat × Nat} (hg : w.heap[g]? = some (.cells C t fr)) (ht : t ≠ 5) (v : Value) : OwnBy base (w.setCell ⟨g, j, none⟩ v) x n := by
  obtain ⟨l, h1, h2⟩ := h
  refine ⟨l, h1, ?_⟩
  rcases h2 with h2 | ⟨g', cap, cur, q1, q2, q3, q4⟩
  · exact .inl h2
  · refine .inr ⟨g', cap, cur, q1, q2, ?_, q4⟩
    rw [Below.heap_setCell _ _ _ _ (fun e => by
      have e : g' = g := e
      subst e
      rw [hg] at q3
      injection q3 with q3
      injection q3 with _ q3 _
      exact ht q3)]
    exact q3
theorem bv_set (l : List UInt8) (j : Nat) (u : UInt8) : bv (l.set j u) = (bv l).set j (.int .u8 u.toNat) := by unfold bv; rw [List.map_set]
/-- A byte is written. -/
theorem OwnBy.poke {base : Nat} {w : World} {x : Value} {n : Nat} (h : OwnBy base w x n) {g j : Nat} {C : Array Value} (hg : w.heap[g]? = some (.cells C 5 (0, 0))) (u : UInt8) : OwnBy base (w.setCell ⟨g, j, none⟩ (.int .u8 u.toNat)) x n := by
  obtain ⟨l, h1, h2⟩ := h
  rcases h2 with h2 | ⟨g', cap, cur, q1, q2, q3, q4, q5, q6, q7⟩
  · exact ⟨l, h1, .inl h2⟩
  · by_cases e : g' = g
    · subst e
      refine ⟨l.set j u, by rw [bv_set, List.length_set]; exact h1, .inr ⟨g', cap, _, q1, q2, heap_setCell_same q3 _, q4, q5, by rw [Array.size_setIfInBounds]; exact q6, ?_⟩⟩
      rw [Array.toList_setIfInBounds, List.take_set, q7, bv_set]
    · exact ⟨l, h1, .inr ⟨g', cap, cur, q1, q2, by rw [Below.heap_setCell _ _ _ _ e]; exact q3, q4, q5, q6, q7⟩⟩
/-- One byte of a slice of own bytes. -/
theorem OwnBy.at' {base : Nat} {w : World} {x : Value} {m : Nat} (h : OwnBy base w x m) {j : Nat} (hj : j < m) : ∃ g cap C, ∃ u : UInt8, x = .slice (some ⟨g, 0, none⟩) m cap ∧ base ≤ g ∧ w.heap[g]? = some (.cells C 5 (0, 0)) ∧ w.cell? ⟨g, j, none⟩ = some (.int .u8 u.toNat) ∧ w.frozen? ⟨g, j, none⟩ = false := by
  obtain ⟨l, h1, h2⟩ := h
  rcases h2 with ⟨_, h2⟩ | ⟨g, cap, cur, rfl, hb, hg, hn, hm, hs, ht⟩
  · omega
  · have hl : l.length = m := by rw [bv_len] at h1; omega
    refine ⟨g, cap, cur, l[j]'(by omega), rfl, hb, hg, ?_, by simp [World.frozen?, hg]⟩
    rw [cell_of_row _ _ _ _ _ _ hg]
    have : (bv l)[j]? = some (.int .u8 (l[j]'(by omega)).toNat) := by unfold bv; rw [List.getElem?_map, List.getElem?_eq_getElem (by omega)]; rfl
    rw [← ht, List.getElem?_take_of_lt (by omega)] at this
    simpa using this
theorem u8_next (u : UInt8) : ∃ v : UInt8, IntKind.u8.wrap ((u.toNat : Int) + 1) = (v.toNat : Int) := by
  refine ⟨u + 1, ?_⟩
  have h := u.toNat_lt
  rw [UInt8.toNat_add]
  show ((u.toNat : Int) + 1) % 256 = _
  have : (1 : UInt8).toNat = 1 := rfl
  rw [this]
  omega
/-- A digest of noughts is the nought digest. -/
theorem eql_z32 {o : Oper} {c : Act} {w : World} (x y : Operand) (ho : o.op = .binOp .eql 27 x y 27) (hx : c.eval x = (Value.agg (List.toArray (kv .u8 z32)))) (hy : c.eval y = (Value.agg (List.toArray (kv .u8 z32)))) : (execOp c.eval o).run Tryd.prog w = .ok (.value (.bool true)) w := by
  have e : z32 = nv (List.replicate 32 0) := by unfold z32 nv; simp
  rw [e] at hx hy
  rw [eql_dg (a := List.replicate 32 0) (b := List.replicate 32 0) (by simp) (by simp) x y ho hx hy, decide_eq_true rfl]

/- TreeForms' walk. -/

/-- Bytes of the call's own are written over, between B and C. -/
def Mid (B C : Nat) (k : Nat) : Prop := B ≤ k ∧ k < C
set_option maxRecDepth 100000 in
set_option maxHeartbeats 8000000 in
theorem forms_law {w : World} {v : Value} {l : List FileE} (h : TreeAt w v l) (hT : Tabs w) (hsz : l.length * 40 ≤ 140737488351232) (hbz : ∀ f ∈ l, f.bytes.length ≤ 140737488351232) :
    Calls Tryd.prog 4 #[v] w fun e w' => e = .returned (.bool true) ∧ Kept (fun _ => False) w w' := by
  have zz := zeroDig
  obtain ⟨a, c, hv⟩ := h.slc
  subst hv
  go_enter Tryd.func4, Tryd.ntmps4
  go_wp2_with fail
  refine (greatA_ct h).mono ?_
  rintro e W1 ⟨⟨g1, rfl⟩, k1⟩
  cases g1 with
  | true =>
    go_wp2_with fail
    refine (known_ct _).mono ?_
    rintro e W99 ⟨rfl, k99⟩
    go_wp2_with fail
    go_ret
    exact ⟨rfl, (k1).trans k99⟩
  | false =>
    go_wp2_with fail
    refine (rCopy_ct (h.kept k1) hsz hbz).mono ?_
    rintro e W2 ⟨vi, rfl, hi2, k2⟩
    obtain ⟨ai, ci, hvi⟩ := hi2.slc
    subst hvi
    have kk2 := k1.trans k2
    have st0 : ∀ (W : World) (d : List Nat), d.length = 32 → (Instr.storeAt 27 (.pointer (some ⟨W.heap.size, 0, none⟩)) ((Value.agg (List.toArray (kv .u8 d))))).run Tryd.prog (W.alloc (.cells (kv .u8 z32).toArray 27)) = .ok () (W.alloc (.cells (kv .u8 d).toArray 27)) := fun W d hd =>
      store_new (by rw [List.size_toArray, kv_len, hd]; kernel_rfl) (by rw [List.size_toArray, List.size_toArray, kv_len, kv_len, hd]; rfl) (kv_one _ _) rfl
    have HSZ := Lib.hid (And.intro hsz hbz)
    clear hsz hbz
    have mc : ∀ w', Kept (fun _ => False) W2 w' → Calls Tryd.prog 13 #[.slice ai l.length ci] w' fun e w'' => e = .returned (.bool (mayB l)) ∧ Kept (fun _ => False) w' w'' := fun w' q => may_ct (hi2.kept q)
    have rmc : ∀ w', Kept (fun _ => False) W2 w' → Calls Tryd.prog 14 #[.slice a l.length c] w' fun e w'' => e = .returned (.bool (mayB l)) ∧ Kept (fun _ => False) w' w'' := fun w' q => rMay_ct (h.kept (kk2.trans q))
    have sc : ∀ w', Kept (fun _ => False) W2 w' → Calls Tryd.prog 15 #[.slice ai l.length ci, .slice a l.length c] w' fun e w'' => e = .returned (.bool true) ∧ Kept (fun _ => False) w' w'' := fun w' q => by
      have q2 := rSame_ct (hi2.kept q) (h.kept (kk2.trans q))
      rw [sameB_rflA] at q2
      exact q2
    cases hm : mayB l with
    | false =>
      rw [hm] at mc rmc
      go_wp2_with fail
      refine (bytes_no hi2 hm).mono ?_
      rintro e W3 ⟨rfl, k3⟩
      have tn := troot_no (hi2.kept k3) hm
      have HM := Lib.hid hm
      clear hm
      go_wp2_with fail
      refine tn.mono ?_
      rintro e W4 ⟨rfl, k4⟩
      have st := st0 W4 z32 rfl
      have ka := (Kept.refl (fun _ => False) W4).alloc (.cells (kv .u8 z32).toArray 27)
      have hx0 : Arr (W4.alloc (.cells (kv .u8 z32).toArray 27)) W4.heap.size 27 .u8 z32 := Arr.new rfl
      have k5 := (k3.trans k4).trans ka
      clear tn st0
      go_wp2_with (first
        | (with_reducible refine wpl_alloc 27 rfl rfl (zz _) ?_
           simp only [World.size_alloc, Act.put, List.getElem_toArray, List.getElem_cons_zero, List.getElem_cons_succ, List.setIfInBounds_toArray, List.set_cons_zero, List.set_cons_succ])
        | (with_reducible refine wpl_store 27 _ _ rfl rfl ?_ ?_ st ?_
           · rfl
           · rfl
           simp only [Act.put, List.getElem_toArray, List.getElem_cons_zero, List.getElem_cons_succ, List.setIfInBounds_toArray, List.set_cons_zero, List.set_cons_succ]))
      obtain ⟨X, hX⟩ : ∃ X, W4.heap.size = X := ⟨_, rfl⟩
      rw [hX] at hx0
      rw [hX]
      generalize W4.alloc (.cells (kv .u8 z32).toArray 27) = W5 at k5 hx0 ⊢
      clear st ka hX
      refine (mc W5 k5).mono ?_
      rintro e W6 ⟨rfl, k6⟩
      have q6 := k5.trans k6
      go_wp2_with fail
      refine (rmc W6 q6).mono ?_
      rintro e W7 ⟨rfl, k7⟩
      have q7 := q6.trans k7
      go_wp2_with fail
      refine (sc W7 q7).mono ?_
      rintro e W8 ⟨rfl, k8⟩
      have q8 := q7.trans k8
      go_wp2_with fail
      refine (rmc W8 q8).mono ?_
      rintro e W9 ⟨rfl, k9⟩
      have q9 := q8.trans k9
      have lx := ldDig (((hx0.stay k6 not_false).stay k7 not_false).stay (k8.trans k9) not_false) (by rfl)
      have bd := bld_dig0 W9
      clear mc rmc sc
      go_wp2_with (first
        | (with_reducible refine wpl_load_g 27 _ ?_ rfl ?_ lx ?_
           · rfl
           · rfl
           simp only [Act.put, List.getElem_toArray, List.getElem_cons_zero, List.getElem_cons_succ, List.setIfInBounds_toArray, List.set_cons_zero, List.set_cons_succ])
        | (refine wpl_val_g (by rfl) (exec_build 27 _ rfl rfl bd) ?_)
        | (refine wpl_val_g (by rfl) (eql_z32 _ _ rfl rfl rfl) ?_))
      refine (known_ct _).mono ?_
      rintro e W99 ⟨rfl, k99⟩
      go_wp2_with fail
      go_ret
      exact ⟨rfl, (kk2.trans q9).trans k99⟩
    | true =>
      rw [hm] at mc rmc
      have hi := mayIs hm
      have hle := rawL_le hm
      have rs := readS_rawL hm
      have bc := bytes_ctO (B := W2.heap.size) (Nat.le_refl _) hi2 hm (fun f hf => ⟨(hi.file f hf).2.1, (hi.file f hf).2.2⟩) hi.len
      have tc := fun (W : World) (q : Kept (fun _ => False) W2 W) => troot_ct (hi2.kept q) hm (hT.kept (kk2.trans q))
      have rc := fun (W : World) (q : Kept (fun _ => False) W2 W) => rRaw_ctC (h.kept (kk2.trans q)) hi.len (fun f hf => ⟨(hi.file f hf).2.1, (hi.file f hf).2.2⟩)
      obtain ⟨P, hP⟩ : ∃ P, rawL l = P := ⟨_, rfl⟩
      obtain ⟨rx, hrx⟩ : ∃ r, rootL P = r := ⟨_, rfl⟩
      have lrx : rx.length = 32 := by rw [← hrx, rootL_len]
      rw [hP] at hle rs bc tc rc
      rw [hrx] at tc
      have HM := Lib.hid (And.intro hm (And.intro hP hrx))
      clear hm hP hrx hi
      go_wp2_with fail
      refine bc.mono ?_
      rintro e W3 ⟨vb, rfl, hb3, k3⟩
      obtain ⟨ab, cb, hvb⟩ := hb3.1.1.slc
      subst hvb
      have ow3 : OwnBy W2.heap.size W3 (.slice ab P.length cb) P.length := ⟨P, hb3.2⟩
      have own3 : ∀ k, (Value.slice ab P.length cb).ownBlock = some k → k < W3.heap.size := fun k e => (World.ownsRow.lt hb3.2 k e).2
      clear bc
      go_wp2_with fail
      refine (tc W3 k3).mono ?_
      rintro e W4 ⟨rfl, k4⟩
      have st := st0 W4 (nv rx) (by rw [nv_len, lrx])
      have ka := (Kept.refl (fun _ => False) W4).alloc (.cells (kv .u8 (nv rx)).toArray 27)
      have hx0 : Arr (W4.alloc (.cells (kv .u8 (nv rx)).toArray 27)) W4.heap.size 27 .u8 (nv rx) := Arr.new rfl
      have k5 := (k3.trans k4).trans ka
      have b5 := hb3.kept (k4.trans ka)
      have o5 := ow3.kept (k4.trans ka)
      have z5 := Nat.le_trans k4.size ka.size
      clear tc st0 hb3
      go_wp2_with (first
        | (with_reducible refine wpl_alloc 27 rfl rfl (zz _) ?_
           simp only [World.size_alloc, Act.put, List.getElem_toArray, List.getElem_cons_zero, List.getElem_cons_succ, List.setIfInBounds_toArray, List.set_cons_zero, List.set_cons_succ])
        | (with_reducible refine wpl_store 27 _ _ rfl rfl ?_ ?_ st ?_
           · rfl
           · rfl
           simp only [Act.put, List.getElem_toArray, List.getElem_cons_zero, List.getElem_cons_succ, List.setIfInBounds_toArray, List.set_cons_zero, List.set_cons_succ]))
      obtain ⟨X, hX⟩ : ∃ X, W4.heap.size = X := ⟨_, rfl⟩
      rw [hX] at hx0
      rw [hX]
      generalize W4.alloc (.cells (kv .u8 (nv rx)).toArray 27) = W5 at k5 hx0 b5 o5 z5 ⊢
      clear st ka hX ow3
      refine (mc W5 k5).mono ?_
      rintro e W6 ⟨rfl, k6⟩
      have q6 := k5.trans k6
      go_wp2_with fail
      refine (rmc W6 q6).mono ?_
      rintro e W7 ⟨rfl, k7⟩
      have q7 := q6.trans k7
      go_wp2_with fail
      refine (sc W7 q7).mono ?_
      rintro e W8 ⟨rfl, k8⟩
      have q8 := q7.trans k8
      go_wp2_with fail
      refine (rmc W8 q8).mono ?_
      rintro e W9 ⟨rfl, k9⟩
      have q9 := q8.trans k9
      have x9 := (k6.trans k7).trans (k8.trans k9)
      have b9 := b5.kept x9
      have o9 := o5.kept x9
      have d9 := hx0.stay x9 not_false
      have own9 : ∀ k, (Value.slice ab P.length cb).ownBlock = some k → k < W9.heap.size := fun k e => Nat.lt_of_lt_of_le (own3 k e) (Nat.le_trans z5 x9.size)
      have rd := read_ctB (B := W9.heap.size) b9.1 hle (Nat.le_refl _)
      rw [rs] at rd
      clear mc rmc sc b5 o5 hx0 own3 z5 rs
      go_wp2_with fail
      refine rd.mono ?_
      rintro e W10 ⟨k10, vu, rfl, hu⟩
      obtain ⟨au, cu, hvu⟩ := (hu W10 (Kept.refl _ _)).slc
      subst hvu
      have q10 := q9.trans k10
      have b10 := b9.kept k10
      have o10 := o9.kept k10
      have d10 := d9.stay k10 not_false
      clear rd b9 o9 d9
      have cv1 := fun w' (q : Kept (fun _ => False) W10 w') => conv_str (b10.1.1.kept q)
      have rr : ∀ w', Kept (fun _ => False) W10 w' → Calls Tryd.prog 10 #[.slice ab P.length cb] w' fun e w'' => e = .returned ((Value.agg (List.toArray (kv .u8 (nv rx))))) ∧ Kept (fun _ => False) w' w'' := fun w' q => by
        have q2 := rRoot_ct (b10.1.kept q) hle
        rw [HM.out.2.2] at q2
        exact q2
      have su : ∀ w', Kept (fun k => k < W9.heap.size ∧ W2.heap.size ≤ k) W10 w' → Calls Tryd.prog 15 #[.slice au l.length cu, .slice a l.length c] w' fun e w'' => e = .returned (.bool true) ∧ Kept (fun _ => False) w' w'' := fun w' q => by
        have q2 := rSame_ct (hu w' (q.mono (fun _ _ z => z.1))) (h.kept ((kk2.trans q10).trans' (q.mono (T := fun k => W2.heap.size ≤ k) (fun _ _ z => z.2)) (fun k hk z => by have := kk2.size; omega)))
        rw [sameB_rflA] at q2
        exact q2
      have eqq : ∀ (o : Oper) (c : Act) (w' : World) (x y : Operand), o.op = .binOp .eql 27 x y 27 → c.eval x = (Value.agg (List.toArray (kv .u8 (nv rx)))) → c.eval y = (Value.agg (List.toArray (kv .u8 (nv rx)))) → (execOp c.eval o).run Tryd.prog w' = .ok (.value (.bool true)) w' := fun o c w' x y h1 h2 h3 => by
        rw [eql_dg lrx lrx x y h1 h2 h3, decide_eq_true rfl]
      have HU := Lib.hid hu
      clear hu
      go_wp2_with fail
      refine wp_region_held_drew (S := (Kept (fun _ => False) W10)) (by kernel_rfl) ((Kept.refl _ W10).drew) (fun hHeld => ?_)
      refine held_q (v := ?_) (i := 0) rfl (by kernel_rfl) (by kernel_rfl) (by kernel_rfl) (fun _ _ _ h => h) (by rfl) hHeld ?_ ?_
      rotate_left
      · (intro w' hS'; go_simp <;> (with_reducible rfl))
      simp only [Act.put, List.getElem_toArray, List.getElem_cons_zero, List.getElem_cons_succ, List.setIfInBounds_toArray, List.set_cons_zero, List.set_cons_succ]
      refine held_q (v := ?_) (i := 1) rfl (by kernel_rfl) (by kernel_rfl) (by kernel_rfl) (fun _ _ _ h => h) (by rfl) hHeld ?_ ?_
      rotate_left
      · (intro w' hS'; go_simp <;> (with_reducible rfl))
      simp only [Act.put, List.getElem_toArray, List.getElem_cons_zero, List.getElem_cons_succ, List.setIfInBounds_toArray, List.set_cons_zero, List.set_cons_succ]
      refine held_q (v := ?_) (i := 2) rfl (by kernel_rfl) (by kernel_rfl) (by kernel_rfl) (fun _ _ _ h => h) (by rfl) hHeld ?_ ?_
      rotate_left
      · (intro w' hS'; go_simp <;> (with_reducible rfl))
      simp only [Act.put, List.getElem_toArray, List.getElem_cons_zero, List.getElem_cons_succ, List.setIfInBounds_toArray, List.set_cons_zero, List.set_cons_succ]
      refine held_q (v := ?_) (i := 3) rfl (by kernel_rfl) (by kernel_rfl) (by kernel_rfl) (fun _ _ _ h => h) (by rfl) hHeld ?_ ?_
      rotate_left
      · (intro w' hS'; go_simp <;> (with_reducible rfl))
      simp only [Act.put, List.getElem_toArray, List.getElem_cons_zero, List.getElem_cons_succ, List.setIfInBounds_toArray, List.set_cons_zero, List.set_cons_succ]
      refine held_q (v := ?_) (i := 4) rfl (by kernel_rfl) (by kernel_rfl) (by kernel_rfl) (fun _ _ _ h => h) (by rfl) hHeld ?_ ?_
      rotate_left
      · (intro w' hS'; go_simp <;> (with_reducible rfl))
      simp only [Act.put, List.getElem_toArray, List.getElem_cons_zero, List.getElem_cons_succ, List.setIfInBounds_toArray, List.set_cons_zero, List.set_cons_succ]
      refine held_q (v := ?_) (i := 5) rfl (by kernel_rfl) (by kernel_rfl) (by kernel_rfl) (fun _ _ _ h => h) (by rfl) hHeld ?_ ?_
      rotate_left
      · (intro w' hS'; go_simp <;> (with_reducible rfl))
      simp only [Act.put, List.getElem_toArray, List.getElem_cons_zero, List.getElem_cons_succ, List.setIfInBounds_toArray, List.set_cons_zero, List.set_cons_succ]
      refine held_q (v := ?_) (i := 6) rfl (by kernel_rfl) (by kernel_rfl) (by kernel_rfl) (fun _ _ _ h => h) (by rfl) hHeld ?_ ?_
      rotate_left
      · (intro w' hS'; go_simp <;> (with_reducible rfl))
      simp only [Act.put, List.getElem_toArray, List.getElem_cons_zero, List.getElem_cons_succ, List.setIfInBounds_toArray, List.set_cons_zero, List.set_cons_succ]
      refine held_q (v := ?_) (i := 7) rfl (by kernel_rfl) (by kernel_rfl) (by kernel_rfl) (fun _ _ _ h => h) (by rfl) hHeld ?_ ?_
      rotate_left
      · (intro w' hS'; go_simp <;> (with_reducible rfl))
      simp only [Act.put, List.getElem_toArray, List.getElem_cons_zero, List.getElem_cons_succ, List.setIfInBounds_toArray, List.set_cons_zero, List.set_cons_succ]
      refine held_q (v := ?_) (i := 8) rfl (by kernel_rfl) (by kernel_rfl) (by kernel_rfl) (fun _ _ _ h => h) (by rfl) hHeld ?_ ?_
      rotate_left
      · (intro w' hS'; go_simp <;> (with_reducible rfl))
      simp only [Act.put, List.getElem_toArray, List.getElem_cons_zero, List.getElem_cons_succ, List.setIfInBounds_toArray, List.set_cons_zero, List.set_cons_succ]
      refine held_q (v := ?_) (i := 9) rfl (by kernel_rfl) (by kernel_rfl) (by kernel_rfl) (fun _ _ _ h => h) (by rfl) hHeld ?_ ?_
      rotate_left
      · (intro w' hS'; go_simp <;> (with_reducible rfl))
      simp only [Act.put, List.getElem_toArray, List.getElem_cons_zero, List.getElem_cons_succ, List.setIfInBounds_toArray, List.set_cons_zero, List.set_cons_succ]
      refine held_q (v := ?_) (i := 10) rfl (by kernel_rfl) (by kernel_rfl) (by kernel_rfl) (fun _ _ _ h => h) (by rfl) hHeld ?_ ?_
      rotate_left
      · (intro w' hS'; go_simp <;> (with_reducible rfl))
      simp only [Act.put, List.getElem_toArray, List.getElem_cons_zero, List.getElem_cons_succ, List.setIfInBounds_toArray, List.set_cons_zero, List.set_cons_succ]
      refine held_q (v := ?_) (i := 11) rfl (by kernel_rfl) (by kernel_rfl) (by kernel_rfl) (fun _ _ _ h => h) (by rfl) hHeld ?_ ?_
      rotate_left
      · (intro w' hS'; go_simp <;> (with_reducible rfl))
      simp only [Act.put, List.getElem_toArray, List.getElem_cons_zero, List.getElem_cons_succ, List.setIfInBounds_toArray, List.set_cons_zero, List.set_cons_succ]
      refine held_q (i := 12) rfl (by kernel_rfl) (by kernel_rfl) (by kernel_rfl) (fun _ _ _ h => h) (by rfl) hHeld (fun w' hS' => exec_conv 32 9 _ rfl rfl (cv1 w' hS')) ?_
      simp only [Act.put, List.getElem_toArray, List.getElem_cons_zero, List.getElem_cons_succ, List.setIfInBounds_toArray, List.set_cons_zero, List.set_cons_succ]
      refine held_q (v := ?_) (i := 13) rfl (by kernel_rfl) (by kernel_rfl) (by kernel_rfl) (fun _ _ _ h => h) (by rfl) hHeld ?_ ?_
      rotate_left
      · (intro w' hS'; go_simp <;> (with_reducible rfl))
      simp only [Act.put, List.getElem_toArray, List.getElem_cons_zero, List.getElem_cons_succ, List.setIfInBounds_toArray, List.set_cons_zero, List.set_cons_succ]
      refine held_c (i := 14) (f := 9) (args := #[.slice a l.length c]) (by kernel_rfl) rfl (by rfl) ?_ (rc _ (q10.trans hHeld)) ?_
      · (go_simp <;> rfl)
      rintro e W14 ⟨v14, rfl, h14, k14⟩
      have hHeld := hHeld.trans k14
      refine ⟨_, rfl, hHeld, ?_⟩
      simp only [Act.put, List.getElem_toArray, List.getElem_cons_zero, List.getElem_cons_succ, List.setIfInBounds_toArray, List.set_cons_zero, List.set_cons_succ]
      obtain ⟨a14, c14, hv14⟩ := h14.1.slc
      subst hv14
      have cv2 := conv_str h14.1
      refine held_v (i := 15) (by kernel_rfl) rfl (by rfl) (exec_conv 32 9 _ rfl rfl cv2) (hHeld) (fun hHeld => ?_)
      simp only [Act.put, List.getElem_toArray, List.getElem_cons_zero, List.getElem_cons_succ, List.setIfInBounds_toArray, List.set_cons_zero, List.set_cons_succ]
      refine held_q (v := ?_) (i := 16) rfl (by kernel_rfl) (by kernel_rfl) (by kernel_rfl) (fun _ _ _ h => h) (by rfl) hHeld ?_ ?_
      rotate_left
      · (intro w' hS'; go_simp <;> (with_reducible rfl))
      simp only [Act.put, List.getElem_toArray, List.getElem_cons_zero, List.getElem_cons_succ, List.setIfInBounds_toArray, List.set_cons_zero, List.set_cons_succ]
      refine held_q (v := ?_) (i := 17) rfl (by kernel_rfl) (by kernel_rfl) (by kernel_rfl) (fun _ _ _ h => h) (by rfl) hHeld ?_ ?_
      rotate_left
      · (intro w' hS'; go_simp <;> (with_reducible rfl))
      simp only [Act.put, List.getElem_toArray, List.getElem_cons_zero, List.getElem_cons_succ, List.setIfInBounds_toArray, List.set_cons_zero, List.set_cons_succ]
      refine held_q (v := ?_) (i := 18) rfl (by kernel_rfl) (by kernel_rfl) (by kernel_rfl) (fun _ _ _ h => h) (by rfl) hHeld ?_ ?_
      rotate_left
      · (intro w' hS'; go_simp <;> (with_reducible rfl))
      simp only [Act.put, List.getElem_toArray, List.getElem_cons_zero, List.getElem_cons_succ, List.setIfInBounds_toArray, List.set_cons_zero, List.set_cons_succ]
      refine held_q (i := 19) rfl (by kernel_rfl) (by kernel_rfl) (by kernel_rfl) (fun _ _ _ h => h) (by rfl) hHeld (fun w' hS' => exec_load 27 _ rfl rfl (ldDig (d10.stay hS' not_false) (by rw [nv_len, lrx]))) ?_
      simp only [Act.put, List.getElem_toArray, List.getElem_cons_zero, List.getElem_cons_succ, List.setIfInBounds_toArray, List.set_cons_zero, List.set_cons_succ]
      refine held_q (v := ?_) (i := 20) rfl (by kernel_rfl) (by kernel_rfl) (by kernel_rfl) (fun _ _ _ h => h) (by rfl) hHeld ?_ ?_
      rotate_left
      · (intro w' hS'; go_simp <;> (with_reducible rfl))
      simp only [Act.put, List.getElem_toArray, List.getElem_cons_zero, List.getElem_cons_succ, List.setIfInBounds_toArray, List.set_cons_zero, List.set_cons_succ]
      refine held_c (i := 21) (f := 10) (args := #[.slice ab P.length cb]) (by kernel_rfl) rfl (by rfl) ?_ (rr _ hHeld) ?_
      · (go_simp <;> rfl)
      rintro e W21 ⟨rfl, k21⟩
      have hHeld := hHeld.trans k21
      refine ⟨_, rfl, hHeld, ?_⟩
      simp only [Act.put, List.getElem_toArray, List.getElem_cons_zero, List.getElem_cons_succ, List.setIfInBounds_toArray, List.set_cons_zero, List.set_cons_succ]
      refine held_q (i := 22) rfl (by kernel_rfl) (by kernel_rfl) (by kernel_rfl) (fun _ _ _ h => h) (by rfl) hHeld (fun w' hS' => eqq _ _ w' _ _ rfl rfl rfl) ?_
      simp only [Act.put, List.getElem_toArray, List.getElem_cons_zero, List.getElem_cons_succ, List.setIfInBounds_toArray, List.set_cons_zero, List.set_cons_succ]
      refine held_q (v := ?_) (i := 23) rfl (by kernel_rfl) (by kernel_rfl) (by kernel_rfl) (fun _ _ _ h => h) (by rfl) hHeld ?_ ?_
      rotate_left
      · (intro w' hS'; go_simp <;> (with_reducible rfl))
      simp only [Act.put, List.getElem_toArray, List.getElem_cons_zero, List.getElem_cons_succ, List.setIfInBounds_toArray, List.set_cons_zero, List.set_cons_succ]
      refine held_q (v := ?_) (i := 24) rfl (by kernel_rfl) (by kernel_rfl) (by kernel_rfl) (fun _ _ _ h => h) (by rfl) hHeld ?_ ?_
      rotate_left
      · (intro w' hS'; go_simp <;> (with_reducible rfl))
      simp only [Act.put, List.getElem_toArray, List.getElem_cons_zero, List.getElem_cons_succ, List.setIfInBounds_toArray, List.set_cons_zero, List.set_cons_succ]
      refine held_q (v := ?_) (i := 25) rfl (by kernel_rfl) (by kernel_rfl) (by kernel_rfl) (fun _ _ _ h => h) (by rfl) hHeld ?_ ?_
      rotate_left
      · (intro w' hS'; go_simp <;> (with_reducible rfl))
      simp only [Act.put, List.getElem_toArray, List.getElem_cons_zero, List.getElem_cons_succ, List.setIfInBounds_toArray, List.set_cons_zero, List.set_cons_succ]
      refine held_q (v := ?_) (i := 26) rfl (by kernel_rfl) (by kernel_rfl) (by kernel_rfl) (fun _ _ _ h => h) (by rfl) hHeld ?_ ?_
      rotate_left
      · (intro w' hS'; go_simp <;> (with_reducible rfl))
      simp only [Act.put, List.getElem_toArray, List.getElem_cons_zero, List.getElem_cons_succ, List.setIfInBounds_toArray, List.set_cons_zero, List.set_cons_succ]
      refine held_c (i := 27) (f := 15) (args := #[.slice au l.length cu, .slice a l.length c]) (by kernel_rfl) rfl (by rfl) ?_ (su _ (hHeld.mono (fun _ _ z => z.elim))) ?_
      · (go_simp <;> rfl)
      rintro e W27 ⟨rfl, k27⟩
      have hHeld := hHeld.trans k27
      refine ⟨_, rfl, hHeld, ?_⟩
      simp only [Act.put, List.getElem_toArray, List.getElem_cons_zero, List.getElem_cons_succ, List.setIfInBounds_toArray, List.set_cons_zero, List.set_cons_succ]
      refine held_q (v := ?_) (i := 28) rfl (by kernel_rfl) (by kernel_rfl) (by kernel_rfl) (fun _ _ _ h => h) (by rfl) hHeld ?_ ?_
      rotate_left
      · (intro w' hS'; go_simp <;> (with_reducible rfl))
      simp only [Act.put, List.getElem_toArray, List.getElem_cons_zero, List.getElem_cons_succ, List.setIfInBounds_toArray, List.set_cons_zero, List.set_cons_succ]
      refine held_q (v := ?_) (i := 29) rfl (by kernel_rfl) (by kernel_rfl) (by kernel_rfl) (fun _ _ _ h => h) (by rfl) hHeld ?_ ?_
      rotate_left
      · (intro w' hS'; go_simp <;> (with_reducible rfl))
      simp only [Act.put, List.getElem_toArray, List.getElem_cons_zero, List.getElem_cons_succ, List.setIfInBounds_toArray, List.set_cons_zero, List.set_cons_succ]
      refine wpAnyH_done (by kernel_rfl) ?_ _
      have q27 := q10.trans hHeld
      have o27 := o10.kept hHeld
      have hW10 := hHeld
      clear cv1 cv2 rr eqq rc d10 b10 h14
      go_wp2_with fail
      go_loopw [96] (fun i wr => ∃ j : Nat, j ≤ P.length ∧ i = .int .i64 j ∧ Kept (fun k => k < W9.heap.size ∧ W2.heap.size ≤ k) W10 wr ∧ Hid (OwnBy W2.heap.size wr (.slice ab P.length cb) P.length)) (fun i _ => P.length - (intOf i).toNat)
      case atStart => exact ⟨0, by omega, rfl, hW10.mono (fun _ _ z => z.elim), o27⟩
      case round =>
        obtain ⟨j, hj, rfl, hkr, HO⟩ := hrel
        by_cases hjl : j < P.length
        · obtain ⟨gb, cb2, C, u, hxe, hbb, hgb, hcu, hfz⟩ := HO.out.at' hjl
          obtain ⟨u2, hu2⟩ := u8_next u
          have hlt := own9 gb (by rw [hxe]; rfl)
          have kp : Kept (fun k => k < W9.heap.size ∧ W2.heap.size ≤ k) W10 (wr.setCell ⟨gb, j, none⟩ (.int .u8 u2.toNat)) := hkr.setCell (p := ⟨gb, j, none⟩) (fun _ => ⟨hlt, hbb⟩) _
          have HO2 : Hid (OwnBy W2.heap.size (wr.setCell ⟨gb, j, none⟩ (.int .u8 u2.toNat)) (.slice ab P.length cb) P.length) := HO.out.poke hgb u2
          injection hxe with e1 e2 e3
          subst e1
          clear hgb own9 su HU hkr HO hlt
          go_wp2_with fail
          go_roundw
          case rel => exact ⟨j + 1, by omega, by go_num, kp, HO2⟩
          case measure => simp [intOf]; omega
        · obtain rfl : j = P.length := by omega
          have kfin : Kept (fun _ => False) w wr := (kk2.trans q10).trans' (hkr.mono (T := fun k => W2.heap.size ≤ k) (fun _ _ z => z.2)) (fun k hk z => by have := kk2.size; omega)
          go_wp2_with fail
          refine (su wr hkr).mono ?_
          rintro e W30 ⟨rfl, k30⟩
          have kend := kfin.trans k30
          go_wp2_with fail
          refine (known_ct _).mono ?_
          rintro e W99 ⟨rfl, k99⟩
          go_wp2_with fail
          go_ret
          exact ⟨rfl, (kend).trans k99⟩

/- 'Rows.TreeFormsCardSaid': a tree's bytes and root are the document's, or refused; what is read of them is the tree, in memory of its own; whatever the tree; the package's two tables of words start as its text lays them (the card ties them). No other condition. -/
open Go.ChangeShapes Go.WideShapes Go.ChangeAt Go.ChangeMaps Go.RowKit

theorem Under'.le {ws : List Nat} {k : Nat} (h : Under' ws k) (hw : ∀ n ∈ ws, n ≤ 140737488351232) : k ≤ 140737488351232 := by
  rcases h with h | ⟨n, h1, h2⟩
  · omega
  · have := hw n h1; omega
theorem forms_contract (H : Type) (enc : TypeId × Value → H) (W : World) (base : Nat) (args : Array Value) (ds gs : List (DataW H)) (before : List MemPlace)
    (hval : ∀ (j : Nat) t v, Tryd.f4.params[j]? = some t → args[j]? = some v → Value.okWide Tryd.prog W .any base t v)
    (hW : DataW.Whole enc Tryd.prog Tryd.f4.params.toList Rows.treeFormsSpec.vars false W args.toList ds gs before) (hsz : (DataW.weightsEach Tryd.prog (Tryd.f4.params.toList ++ (OpenSpec.ofChange Rows.treeFormsSpec).bare.plain.varTypes Tryd.prog) (ds ++ gs)).all (· ≤ reachBytes) = true) (hL : laidMetH Tryd.prog Rows.treeFormsRow.laid W) :
    Calls Tryd.prog 4 args W fun e W' => ∃ v, e = .returned v ∧ Rows.treeFormsSpec.post enc Tryd.prog Tryd.f4 false true false false W args v W' := by
  rw [laidT_forms] at hL
  have hT := tabs_of hL
  have hW' := hW
  obtain ⟨p, q, hA0, hV, rfl, hfz, hnd⟩ := hW
  have hA : DataW.TrodAll enc Tryd.prog W 0 (fun _ => true) true Tryd.f4.params.toList args.toList ds p := hA0
  rw [Tryd.params4] at hA hval
  obtain ⟨v0, vs0, d0, ds0, p0, q0, hargs, rfl, rfl, h0, r0⟩ := trodAll_cons hA
  obtain ⟨rfl, rfl, rfl⟩ := trodAll_nil r0
  obtain rfl : args = #[v0] := by cases args; simp_all
  obtain ⟨rfl, rfl⟩ := trodVars_none hV
  have k0 := h0
  have lt0 : ∀ x ∈ p0, x.block < W.heap.size := by obtain ⟨m, hm⟩ := k0; exact DataW.trod_lt m _ _ _ hm
  obtain ⟨l0, hb0, hu0, hv0⟩ : ∃ l : List FileE, TreeAt W v0 l ∧ Under' (d0.weights Tryd.prog 23) (l.length * 40) ∧ ∀ f ∈ l, Under' (d0.weights Tryd.prog 23) f.bytes.length := by
    obtain ⟨fuel, hf⟩ := k0
    obtain ⟨a, n, cap, rfl⟩ := okWide_slice Tryd.underlying23 (hval 0 23 v0 rfl rfl)
    exact tree_sized hf
  have wz0 : ∀ n ∈ d0.weights Tryd.prog 23, n ≤ 140737488351232 := fun n hn => by
    have := List.all_eq_true.1 hsz n (DataW.weights_mem_each (j := 0) (t := 23) (by kernel_rfl) rfl n hn)
    exact of_decide_eq_true this
  clear hA0
  refine (forms_law hb0 hT (hu0.le wz0) (fun f hf => (hv0 f hf).le wz0)).mono fun e W' ⟨he, hk⟩ => ?_
  subst he
  have bel : Below W.heap.size W W' := hk.below (Nat.le_refl _) (fun _ q => q.elim)
  exact ⟨_, rfl, _, _, _, [], _, [], hW', trodAll_mk1 (shut_bool Tryd.underlying4 _), (trodAll_cons_mk (Below.trod Tryd.laidOut (by kernel_rfl) (of_decide_eq_true (by kernel_rfl)) k0 bel lt0) trodAll_mk0), rfl, bel.frame _, fun h => by cases h⟩
theorem forms_met (os : Os) : laidMet Tryd.prog Rows.treeFormsRow.laid ((laidWorld os).forCall (fun _ _ => 0) ⟨#[], #[.slice none 0 0], []⟩).memory :=
  laidMet_of_run' 8 (by kernel_rfl) (by kernel_rfl)
theorem forms_reads (os : Os) {H : Type} (enc : TypeId × Value → H) : ∃ places, DataW.whole enc Tryd.prog ((laidWorld os).forCall (fun _ _ => 0) ⟨#[], #[.slice none 0 0], []⟩).memory Tryd.f4.params.toList Rows.treeFormsSpec.vars false #[Value.slice none 0 0].toList 8 = some ([.nil], [], places) :=
  ⟨[], by kernel_rfl⟩
theorem forms_lifted (os : Os) (started : os.Started) (H : Type) (enc : TypeId × Value → H) (F : Stop.Interp) :
    ReturnsInHanded {} Tryd.checked os 4 .any ((OpenSpec.ofChange Rows.treeFormsSpec).preRow enc Tryd.prog Tryd.f4 Rows.treeFormsRow.domain false Rows.treeFormsRow.laid) (((OpenSpec.ofChange Rows.treeFormsSpec).at F).post enc Tryd.prog Tryd.f4 false true false false) := by
  obtain ⟨places, hx⟩ := forms_reads os enc
  refine returnsInHanded_of_row (C := Tryd.checked) (s := OpenSpec.ofChange Rows.treeFormsSpec) Tryd.own started (by kernel_rfl) Tryd.func4
    (witness_row_at (enc := enc) (C := Tryd.checked) false (laidWorld os) #[.slice none 0 0] rfl (by kernel_rfl) (by kernel_rfl) (by kernel_rfl)
      (OpenSpec.preRow_of_cond 8 hx (by kernel_rfl) (fun k hk => by cases hk) (by kernel_rfl) (forms_met os))) ?_
  intro W base args ds gs before hval hW _ _ hsz hL _ _
  exact forms_contract H enc W base args ds gs before hval hW hsz hL
theorem forms_said : Rows.TreeFormsSaid :=
  OpenClaim.holds_of_cond 4 Tryd.f4 rfl rfl rfl rfl rfl rfl rfl ⟨rfl, rfl, rfl, rfl, rfl⟩ rfl rfl rfl rfl rfl (by kernel_rfl) Tryd.func4 (by kernel_rfl)
    (of_decide_eq_true (by kernel_rfl)) (by unfold Func.isWrapper; first | (rw [if_pos (by decide +kernel)]; kernel_rfl) | (rw [if_neg (by decide +kernel)]; exact ⟨rfl, rfl⟩))
    (fun os started H enc _ F => by rw [OpenClaim.pre_eq_preRow]; exact forms_lifted os started H enc F)
theorem forms_plain (f : FuncId) (fn : Func) (hf : Tryd.pinned.checked.prog.funcNamed "murmuration/murmurationlaw05.TreeForms" = some f) (hfn : Tryd.pinned.checked.prog.funcs[f]? = some fn) :
    false = Tryd.pinned.checked.prog.looks [] ∧ ∀ (j : Nat) t, fn.params[j]? = some t → Tryd.pinned.checked.prog.wantsStandIn t = false := by
  obtain rfl : f = 4 := Option.some.inj ((show Tryd.prog.funcNamed "murmuration/murmurationlaw05.TreeForms" = some 4 by kernel_rfl).symm.trans hf) |>.symm
  obtain rfl : fn = Tryd.f4 := (Option.some.inj (Tryd.func4.symm.trans hfn)).symm
  refine ⟨by kernel_rfl, fun j t ht => ?_⟩
  rw [Tryd.params4] at ht
  obtain rfl : t = 23 := by simpa using Array.mem_of_getElem? ht
  exact (show Tryd.prog.wantsStandIn 23 = false by kernel_rfl)
theorem treeForms_card : Rows.TreeFormsCardSaid :=
  Claim7.holds_tied_plain_at .later [] _ _ _ _ forms_said (fun _ h => by cases h) (by kernel_rfl) (fun _ h => by cases h) treeForms_row_tie rfl ⟨rfl, rfl⟩ (by kernel_rfl) rfl forms_plain (by kernel_rfl)
#print axioms treeForms_card

end Go.Proofs.YtehpaddddiigbaaDoor
