/- slices.Insert of one file. -/
import Derived.Test.YthachckofghppaaDoorUB
namespace Go.Proofs.YthachckofghppaaDoor
open Go.RowKit
set_option maxRecDepth 100000
set_option linter.unusedSimpArgs false
set_option linter.unusedVariables false

def Zf : Array Value := #[.string ⟨#[]⟩, .slice none 0 0]
theorem exec_slice_l2 {P : Program} {o : Oper} {a : Act} {w : World} {v p q : Value} (ty : TypeId) (x y : Operand) (ho : o.op = .slice ty x (some y) none none) (hx : a.eval x = p) (hy : a.eval y = q) (h : (Instr.sliceAt ty p (some q) none none).run P w = .ok v w) : (execOp a.eval o).run P w = .ok (.value v) w := by
  unfold execOp; simp only [ho, hx, hy, Option.map_some, Option.map_none, Sem.run_bind, h, Result.andThen_ok]; rfl
theorem grow_files {w : World} {g i cap k : Nat} {olds : List Value} (hold : ∀ j v, olds[j]? = some v → w.cell? ⟨g, j, none⟩ = some v) (hl : olds.length = i * 2) (h0 : 0 < k) (hg : cap < i + k) (hb : i + k ≤ 100000) (ty : TypeId) :
    ∃ G, i + k ≤ G ∧ G ≤ maxLen ∧ (Builtin.append_ #[28, 3] ty #[.slice (some ⟨g, 0, none⟩) i cap, .int .i64 k]).run Tryd.prog w = .ok (.slice (some ⟨w.heap.size, 0, none⟩) (i + k) G) (w.drew.alloc (.cells (olds.toArray ++ Builtin.zeroCells Zf k ++ Builtin.zeroCells Zf (G - (i + k))) 33)) := by
  obtain ⟨inf, hi⟩ : ∃ i, Tryd.prog.info? 33 = some i := ⟨_, rfl⟩
  have hz : inf.zero = some (.agg Zf) := by injection hi with hi; subst hi; rfl
  have hs : inf.size = 2 := by injection hi with hi; subst hi; rfl
  have hby : inf.bytes ≤ 100 := by injection hi with hi; subst hi; decide
  have h1 : (i + k) * inf.bytes ≤ 140737488355328 := Nat.le_trans (Nat.mul_le_mul hb hby) (by omega)
  have h2 : k * inf.bytes ≤ 140737488355328 := Nat.le_trans (Nat.mul_le_mul_right _ (by omega)) h1
  have hold' : (Builtin.firstCells inf.size i (.slice (some ⟨g, 0, none⟩) i cap)).run Tryd.prog w.drew = .ok olds.toArray w.drew := by
    rw [hs]
    exact run_firstCells_some w.drew 2 i ⟨g, 0, none⟩ i cap olds hl (fun j v hj => by rw [Addr.add_mid, Nat.zero_add]; exact hold j v hj)
  refine ⟨grownCap w (i + k) cap 33, grownCap_ge _ _ _ _, grownCap_le_maxLen _ _ _ _ (by simp only [maxLen]; omega), ?_⟩
  exact Lib.run_append_grow_zeros w 28 3 ty 33 inf (.agg Zf) .i64 .i64 Tryd.underlying28 Tryd.underlying3 hi hz (some ⟨g, 0, none⟩) i cap olds hold' k h0 (by omega) hg (by omega) (by omega) (growslice_fits hg h1)

set_option maxRecDepth 100000 in
set_option maxHeartbeats 4000000 in
theorem insert_ct {w w0 : World} {v : Value} {ps : List (ByteArray × Value)} (ho : w.ownsRow w0.heap.size 33 2 v ps.length (prs ps)) (hn : ps.length ≤ 1000) {i : Nat} (hi : i ≤ ps.length) (hk : Kept (fun _ => False) w0 w)
    {gb : Nat} {p : ByteArray} {x : Value} (hgb : w.heap[gb]? = some (.cells #[.string p, x] 33 (0, 0))) (hx : x.oneCell' = true) (hne : v.ownBlock ≠ some gb) (h1 : ∀ u ∈ prs ps, u.oneCell' = true) :
    Calls Tryd.prog 52 #[v, .int .i64 i, .slice (some ⟨gb, 0, none⟩) 1 1] w fun e w' => ∃ v', e = .returned v' ∧ w'.ownsRow w0.heap.size 33 2 v' (ps.length + 1) (prs (ps.take i ++ (p, x) :: ps.drop i)) ∧ Kept (fun _ => False) w0 w' := by
  have hgbl := (Array.getElem?_eq_some_iff.1 hgb).1
  have hcs : ∀ w' : World, w'.heap[gb]? = some (.cells #[.string p, x] 33 (0, 0)) → ∀ j u, ([.string p, x] : List Value)[j]? = some u → w'.cell? ((⟨gb, 0, none⟩ : Addr).add j) = some u := fun w' h j u hu => by
    rw [Addr.add_mid, Nat.zero_add, cell_of_row _ _ _ _ _ _ h]; simpa using hu
  have hc1 : ∀ u ∈ ([.string p, x] : List Value), u.oneCell' = true := fun u hu => by simp at hu; rcases hu with rfl | rfl; rfl; exact hx
  have hpn := prs_len ps
  rw [prs_ins]
  by_cases hin : i = ps.length
  · obtain ⟨v', w', ap, ho', hg'⟩ := app_files ho (ad := ⟨gb, 0, none⟩) (m := 1) (c := 1) (news := [.string p, x]) rfl (hcs w hgb) hc1 (by omega) hk.size 28 28 Tryd.underlying28
    have kk : Kept (fun _ => False) w0 w' := grown_kept hk hg' (fun k e => (World.ownsRow.lt ho k e).1)
    have hr : (prs ps).take (i * 2) ++ [.string p, x] ++ (prs ps).drop (i * 2) = prs ps ++ [.string p, x] := by
      rw [List.take_of_length_le (by rw [hpn, hin]; exact Nat.le_refl _), List.drop_of_length_le (by rw [hpn, hin]; exact Nat.le_refl _), List.append_nil]
    rw [hr]
    obtain ⟨a, c, hv⟩ := row_form ho
    subst hv
    obtain ⟨a', c', hv'⟩ := row_form ho'
    subst hv'
    rw [← append_26] at ap
    obtain ⟨a3, n3, c3, sl0⟩ := slLoAny (a := a) (n := ps.length) (c := c) (k := i) rfl hi
    have ei : ((i : Int) == (ps.length : Int)) = true := by rw [hin]; simp
    have HO := Lib.hid ho'
    generalize ps.length = n at *
    clear ho ho' hg' hr hcs hin
    go_enter Tryd.func52, Tryd.ntmps52
    go_wp2_with (first
      | (refine wpl_val rfl (exec_append2 28 27 _ _ rfl rfl rfl ap) ?_))
    go_ret
    exact ⟨_, rfl, HO.out, kk⟩
  have hilt : i < ps.length := by omega
  rcases ho.2 with ⟨_, h0⟩ | ⟨g, cap, cur, hv, hbg, hg, hnc, hcm, hcsz, htake⟩
  · omega
  subst hv
  have hneg : gb ≠ g := fun e => hne (by subst e; rfl)
  have hgl := (Array.getElem?_eq_some_iff.1 hg).1
  obtain ⟨a3, n3, c3, sl0⟩ := slLoAny (a := some ⟨g, 0, none⟩) (n := ps.length) (c := cap) (k := i) rfl hi
  have ei : ((i : Int) == (ps.length : Int)) = false := by simp; omega
  have hxl : (prs ps).length = ps.length * 2 := hpn
  have hDl : ((prs ps).drop (i * 2)).length = (ps.length - i) * 2 := by rw [List.length_drop, hpn]; omega
  have hcells : ∀ w' : World, w'.heap[g]? = w.heap[g]? → ∀ j u, (prs ps)[j]? = some u → w'.cell? ⟨g, j, none⟩ = some u := fun w' h j u hu => by
    have hj := (List.getElem?_eq_some_iff.1 hu).1
    rw [cell_of_row _ _ _ _ _ _ (h.trans hg)]
    rw [← htake, List.getElem?_take_of_lt (by omega)] at hu
    simpa using hu
  have hD1 : ∀ u ∈ (prs ps).drop (i * 2), u.oneCell' = true := fun u hu => h1 u (List.mem_of_mem_drop hu)
  by_cases hroom : ps.length + 1 ≤ cap
  · -- there is room: in place
    have hcurl : cur.toList.length = cap * 2 := by simpa using hcsz
    obtain ⟨c1, hc1e⟩ : ∃ c1 : List Value, c1 = cur.toList.take (i * 2 + 2) ++ (prs ps).drop (i * 2) ++ cur.toList.drop (i * 2 + 2 + ((prs ps).drop (i * 2)).length) := ⟨_, rfl⟩
    obtain ⟨r1, r2, r3⟩ := ins_room (cur := cur.toList) (xs := prs ps) (cs := [.string p, x]) (k := i * 2) (n := ps.length * 2) htake hpn (by omega) (by rw [hcurl]; simp; omega) c1 hc1e
    have ov := overlaps_no (w := w) (o := 0 + (i + 1) * 2) (la := 1) (ca := 1) (lb := ps.length + 1 - (i + 1)) (cb := cap - (i + 1)) hgb hg hneg (by omega)
    have hgd : w.drew.heap[g]? = some (.cells cur 33 (0, 0)) := hg
    have cp1 := copyF w.drew 28 28 3 g (0 + (i + 1) * 2) (ps.length + 1 - (i + 1)) (cap - (i + 1)) ⟨g, 0 + i * 2, none⟩ (ps.length + 1 - i) (cap - i) cur 33 ((prs ps).drop (i * 2)) Tryd.underlying28 hgd
      (by rw [hDl, show Nat.min (ps.length + 1 - i) (ps.length + 1 - (i + 1)) = ps.length - i by simp only [Nat.min_def]; split <;> omega])
      (fun j u hu => by
        rw [List.getElem?_drop] at hu
        rw [Addr.add_mid, Nat.zero_add]
        exact hcells w.drew rfl _ _ hu) (by rw [hDl]; omega) hD1
    rw [show Nat.min (ps.length + 1 - i) (ps.length + 1 - (i + 1)) = ps.length - i by simp only [Nat.min_def]; split <;> omega, Nat.zero_add, show (i + 1) * 2 = i * 2 + 2 by omega, ← hc1e] at cp1
    have k1 : Kept (fun k => k = g) w.drew (w.drew.setRow g c1.toArray) := (Kept.refl (fun k => k = g) w.drew).setRow (b := g) (fun _ => rfl) _
    have k01 : Kept (fun _ => False) w0 (w.drew.setRow g c1.toArray) := hk.drew.setRow (fun h => by omega) _
    have hg1 : (w.drew.setRow g c1.toArray).heap[g]? = some (.cells c1.toArray 33 (0, 0)) := setRow_heap w.drew g cur _ 33 _ hgd
    have hgb1 : (w.drew.setRow g c1.toArray).heap[gb]? = some (.cells #[.string p, x] 33 (0, 0)) := by rw [setRow_other _ _ _ _ hneg]; exact hgb
    generalize w.drew.setRow g c1.toArray = W1 at cp1 k1 k01 hg1 hgb1
    have cp2 := copyF W1 28 27 3 g (0 + i * 2) (ps.length + 1 - i) (cap - i) ⟨gb, 0, none⟩ 1 1 c1.toArray 33 [.string p, x] Tryd.underlying28 hg1
      (by rw [show Nat.min 1 (ps.length + 1 - i) = 1 by simp only [Nat.min_def]; split <;> omega]; rfl) (hcs W1 hgb1) (by rw [List.size_toArray, r3, hcurl]; simp; omega) hc1
    rw [show Nat.min 1 (ps.length + 1 - i) = 1 by simp only [Nat.min_def]; split <;> omega, Nat.zero_add, List.toList_toArray] at cp2
    obtain ⟨c2, hc2e⟩ : ∃ c2 : List Value, c2 = c1.take (i * 2) ++ [.string p, x] ++ c1.drop (i * 2 + ([.string p, x] : List Value).length) := ⟨_, rfl⟩
    rw [← hc2e] at cp2 r1 r2
    have k02 : Kept (fun _ => False) w0 (W1.setRow g c2.toArray) := k01.setRow (fun h => by omega) _
    have hg2 : (W1.setRow g c2.toArray).heap[g]? = some (.cells c2.toArray 33 (0, 0)) := setRow_heap W1 g _ _ 33 _ hg1
    generalize W1.setRow g c2.toArray = W2 at cp2 k02 hg2
    have HO : Hid (W2.ownsRow w0.heap.size 33 2 (.slice (some ⟨g, 0, none⟩) (ps.length + 1) cap) (ps.length + 1) ((prs ps).take (i * 2) ++ [.string p, x] ++ (prs ps).drop (i * 2))) := by
      unfold Hid
      refine ⟨?_, .inr ⟨g, cap, c2.toArray, rfl, hbg, hg2, hroom, hcm, ?_, ?_⟩⟩
      · rw [List.length_append, List.length_append, hDl, List.length_take, hpn]; simp; omega
      · rw [List.size_toArray, r2, hcurl]
      · rw [List.toList_toArray, ← r1]; congr 1; simp; omega
    have s1 : ∀ w', (Instr.sliceAt 28 (.slice (some ⟨g, 0, none⟩) ps.length cap) none (some (.int .i64 ((ps.length : Int) + 1))) none).run Tryd.prog w' = .ok (.slice (some ⟨g, 0, none⟩) (ps.length + 1) cap) w' := slHi (by omega) hroom (by omega)
    have s2 : ∀ w', (Instr.sliceAt 28 (.slice (some ⟨g, 0, none⟩) (ps.length + 1) cap) (some (.int .i64 ((i : Int) + 1))) none none).run Tryd.prog w' = .ok (.slice (some ⟨g, 0 + (i + 1) * 2, none⟩) (ps.length + 1 - (i + 1)) (cap - (i + 1))) w' := slLo (by omega) (by omega) (by omega)
    have s3 : ∀ w', (Instr.sliceAt 28 (.slice (some ⟨g, 0, none⟩) (ps.length + 1) cap) (some (.int .i64 (i : Int))) none none).run Tryd.prog w' = .ok (.slice (some ⟨g, 0 + i * 2, none⟩) (ps.length + 1 - i) (cap - i)) w' := slLo rfl (by omega) (by omega)
    have dr : decide ((cap : Int) < (ps.length : Int) + 1) = false := decide_eq_false (by omega)
    have drn : decide (cap < ps.length + 1) = false := decide_eq_false (by omega)
    have hr2 : ¬ ((cap : Int) < (ps.length : Int) + 1) := by omega
    rw [Nat.zero_add] at ov s2 s3
    rw [show (i + 1) * 2 = i * 2 + 2 by omega] at ov s2
    obtain ⟨q1, hq1⟩ : ∃ q1, q1 = ps.length + 1 - (i + 1) := ⟨_, rfl⟩
    obtain ⟨q2, hq2⟩ : ∃ q2, q2 = ps.length + 1 - i := ⟨_, rfl⟩
    obtain ⟨q3, hq3⟩ : ∃ q3, q3 = cap - (i + 1) := ⟨_, rfl⟩
    obtain ⟨q4, hq4⟩ : ∃ q4, q4 = cap - i := ⟨_, rfl⟩
    obtain ⟨q5, hq5⟩ : ∃ q5, q5 = ps.length - i := ⟨_, rfl⟩
    rw [← hq1, ← hq3] at ov s2
    rw [← hq2, ← hq4] at s3
    rw [← hq1, ← hq2, ← hq3, ← hq4, ← hq5] at cp1
    rw [Nat.zero_add] at cp1
    rw [← hq2, ← hq4] at cp2
    try rw [Nat.zero_add] at cp2
    clear hq1 hq2 hq3 hq4 hq5 ho hg hgb hcs hc1 r1 r2 r3 hc1e hc2e hg1 hgb1 hg2 hcells hD1 hDl hxl hpn htake hcsz hcurl hgd h1 hne hneg
    have wi1 : IntKind.i64.wrap ((i : Int) + 1) = (i : Int) + 1 := IntWalk.i64_in _ (by omega)
    generalize ps.length = n at *
    go_enter Tryd.func52, Tryd.ntmps52
    go_wp2_with (first
      | (simp only [ov]))
    refine wp_region_held_drew (S := (Kept (fun k => k = g) w.drew)) (by kernel_rfl) ((Kept.refl _ w.drew)) (fun hHeld => ?_)
    refine held_q (v := ?_) (i := 0) rfl (by kernel_rfl) (by kernel_rfl) (by kernel_rfl) (fun _ _ _ h => h) (by rfl) hHeld ?_ ?_
    rotate_left
    · (intro w' hS'; go_simp <;> (with_reducible rfl))
    simp only [Act.put, List.getElem_toArray, List.getElem_cons_zero, List.getElem_cons_succ, List.setIfInBounds_toArray, List.set_cons_zero, List.set_cons_succ]
    refine held_q (v := ?_) (i := 1) rfl (by kernel_rfl) (by kernel_rfl) (by kernel_rfl) (fun _ _ _ h => h) (by rfl) hHeld ?_ ?_
    rotate_left
    · (intro w' hS'; go_simp <;> (with_reducible rfl))
    simp only [Act.put, List.getElem_toArray, List.getElem_cons_zero, List.getElem_cons_succ, List.setIfInBounds_toArray, List.set_cons_zero, List.set_cons_succ]
    refine held_q (v := ?_) (i := 2) rfl (by kernel_rfl) (by kernel_rfl) (by kernel_rfl) (fun _ _ _ h => h) (by rfl) hHeld ?_ ?_
    rotate_left
    · (intro w' hS'; go_simp <;> (with_reducible rfl))
    simp only [Act.put, List.getElem_toArray, List.getElem_cons_zero, List.getElem_cons_succ, List.setIfInBounds_toArray, List.set_cons_zero, List.set_cons_succ]
    refine held_q (v := ?_) (i := 3) rfl (by kernel_rfl) (by kernel_rfl) (by kernel_rfl) (fun _ _ _ h => h) (by rfl) hHeld ?_ ?_
    rotate_left
    · (intro w' hS'; go_simp <;> (with_reducible rfl))
    simp only [Act.put, List.getElem_toArray, List.getElem_cons_zero, List.getElem_cons_succ, List.setIfInBounds_toArray, List.set_cons_zero, List.set_cons_succ]
    refine held_q (i := 4) rfl (by kernel_rfl) (by kernel_rfl) (by kernel_rfl) (fun _ _ _ h => h) (by rfl) hHeld (fun w' hS' => exec_slice_l 28 _ _ rfl rfl rfl (s2 w')) ?_
    simp only [Act.put, List.getElem_toArray, List.getElem_cons_zero, List.getElem_cons_succ, List.setIfInBounds_toArray, List.set_cons_zero, List.set_cons_succ]
    refine held_q (v := ?_) (i := 5) rfl (by kernel_rfl) (by kernel_rfl) (by kernel_rfl) (fun _ _ _ h => h) (by rfl) hHeld ?_ ?_
    rotate_left
    · (intro w' hS'; go_simp <;> (with_reducible rfl))
    simp only [Act.put, List.getElem_toArray, List.getElem_cons_zero, List.getElem_cons_succ, List.setIfInBounds_toArray, List.set_cons_zero, List.set_cons_succ]
    refine held_q (v := ?_) (i := 6) rfl (by kernel_rfl) (by kernel_rfl) (by kernel_rfl) (fun _ _ _ h => h) (by rfl) hHeld ?_ ?_
    rotate_left
    · (intro w' hS'; go_simp <;> (with_reducible rfl))
    simp only [Act.put, List.getElem_toArray, List.getElem_cons_zero, List.getElem_cons_succ, List.setIfInBounds_toArray, List.set_cons_zero, List.set_cons_succ]
    refine held_q (i := 7) rfl (by kernel_rfl) (by kernel_rfl) (by kernel_rfl) (fun _ _ _ h => h) (by rfl) hHeld (fun w' hS' => exec_slice_l 28 _ _ rfl rfl rfl (s3 w')) ?_
    simp only [Act.put, List.getElem_toArray, List.getElem_cons_zero, List.getElem_cons_succ, List.setIfInBounds_toArray, List.set_cons_zero, List.set_cons_succ]
    refine held_v (i := 8) (by kernel_rfl) rfl (by rfl) (exec_copy 28 28 _ _ rfl rfl rfl cp1) (k1) (fun hHeld => ?_)
    simp only [Act.put, List.getElem_toArray, List.getElem_cons_zero, List.getElem_cons_succ, List.setIfInBounds_toArray, List.set_cons_zero, List.set_cons_succ]
    refine wpAnyH_done (by kernel_rfl) ?_ _
    go_wp2_with (first
      | (refine wpl_val rfl (exec_copy 28 27 _ _ rfl rfl rfl cp2) ?_))
    go_ret
    exact ⟨_, rfl, HO.out, k02⟩
  · -- no room: a new row
    have hce : cap = ps.length := by omega
    subst hce
    obtain ⟨k, hkn⟩ : ∃ k, k = ps.length + 1 - i := ⟨_, rfl⟩
    have holdl : ((prs ps).take (i * 2)).length = i * 2 := by rw [List.length_take, hpn]; omega
    obtain ⟨G, hG1, hG2, ap⟩ := grow_files (w := w) (g := g) (i := i) (cap := ps.length) (k := k) (olds := (prs ps).take (i * 2)) (fun j u hu => by
      have hj := (List.getElem?_eq_some_iff.1 hu).1
      rw [holdl] at hj
      rw [List.getElem?_take_of_lt hj] at hu
      exact hcells w rfl j u hu) holdl (by omega) (by omega) (by omega) 28
    have hik : i + k = ps.length + 1 := by omega
    rw [hik] at hG1 ap
    obtain ⟨row, hrow⟩ : ∃ row : List Value, row = ((prs ps).take (i * 2)) ++ (Builtin.zeroCells Zf k).toList ++ (Builtin.zeroCells Zf (G - (ps.length + 1))).toList := ⟨_, rfl⟩
    have hzf : Zf.size = 2 := rfl
    have hrl : row.length = G * 2 := by
      rw [hrow, List.length_append, List.length_append, holdl, Array.length_toList, Array.length_toList, size_zeroCells, size_zeroCells, hzf]; omega
    have hrt : row.take (i * 2) = (prs ps).take (i * 2) := by rw [hrow, List.append_assoc]; exact List.take_left' holdl
    have hra : (((prs ps).take (i * 2)).toArray ++ Builtin.zeroCells Zf k ++ Builtin.zeroCells Zf (G - (ps.length + 1))) = row.toArray := by
      rw [hrow]; apply Array.ext'; simp
    rw [hra] at ap
    have k1 : Kept (fun _ => False) w0 (w.drew.alloc (.cells row.toArray 33)) := hk.drew.alloc _
    have hB1 := heap_last w.drew (.cells row.toArray 33)
    have hgb1 : (w.drew.alloc (.cells row.toArray 33)).heap[gb]? = some (.cells #[.string p, x] 33 (0, 0)) := (heap_alloc_old w.drew _ hgbl).trans hgb
    have hgg1 : (w.drew.alloc (.cells row.toArray 33)).heap[g]? = w.heap[g]? := heap_alloc_old w.drew _ hgl
    have hBn : w.drew.heap.size = w.heap.size := rfl
    rw [hBn] at hB1
    have hBge : w0.heap.size ≤ w.heap.size := hk.size
    have hgB : g ≠ w.heap.size := by omega
    have hgbB : gb ≠ w.heap.size := by omega
    generalize w.drew.alloc (.cells row.toArray 33) = W1 at ap k1 hB1 hgb1 hgg1
    generalize w.heap.size = B at *
    obtain ⟨c1, hc1e⟩ : ∃ c1 : List Value, c1 = row.take (i * 2) ++ [.string p, x] ++ row.drop (i * 2 + ([.string p, x] : List Value).length) := ⟨_, rfl⟩
    obtain ⟨r1, r2, r3⟩ := ins_grow (row := row) (cs := [.string p, x]) (D := (prs ps).drop (i * 2)) (k := i * 2) (by rw [hDl, hrl]; simp; omega) c1 hc1e
    have cp1 := copyF W1 28 27 3 B (0 + i * 2) (ps.length + 1 - i) (G - i) ⟨gb, 0, none⟩ 1 1 row.toArray 33 [.string p, x] Tryd.underlying28 hB1
      (by rw [show Nat.min 1 (ps.length + 1 - i) = 1 by simp only [Nat.min_def]; split <;> omega]; rfl) (hcs W1 hgb1) (by rw [List.size_toArray, hrl]; simp; omega) hc1
    rw [show Nat.min 1 (ps.length + 1 - i) = 1 by simp only [Nat.min_def]; split <;> omega, Nat.zero_add, List.toList_toArray, ← hc1e] at cp1
    have k2 : Kept (fun _ => False) w0 (W1.setRow B c1.toArray) := k1.setRow (fun h => by omega) _
    have hB2 : (W1.setRow B c1.toArray).heap[B]? = some (.cells c1.toArray 33 (0, 0)) := setRow_heap W1 B _ _ 33 _ hB1
    have hgg2 : (W1.setRow B c1.toArray).heap[g]? = w.heap[g]? := by rw [setRow_other _ _ _ _ hgB]; exact hgg1
    generalize W1.setRow B c1.toArray = W2 at cp1 k2 hB2 hgg2
    have hB2d : W2.drew.heap[B]? = some (.cells c1.toArray 33 (0, 0)) := hB2
    have cp2 := copyF W2.drew 28 28 3 B (0 + (i + 1) * 2) (ps.length + 1 - (i + 1)) (G - (i + 1)) ⟨g, 0 + i * 2, none⟩ (ps.length - i) (ps.length - i) c1.toArray 33 ((prs ps).drop (i * 2)) Tryd.underlying28 hB2d
      (by rw [hDl, show Nat.min (ps.length - i) (ps.length + 1 - (i + 1)) = ps.length - i by simp only [Nat.min_def]; split <;> omega])
      (fun j u hu => by
        rw [List.getElem?_drop] at hu
        rw [Addr.add_mid, Nat.zero_add]
        exact hcells W2.drew hgg2 _ _ hu) (by rw [hDl, List.size_toArray, r3, hrl]; omega) hD1
    rw [show Nat.min (ps.length - i) (ps.length + 1 - (i + 1)) = ps.length - i by simp only [Nat.min_def]; split <;> omega, Nat.zero_add, show (i + 1) * 2 = i * 2 + 2 by omega, List.toList_toArray] at cp2
    obtain ⟨c2, hc2e⟩ : ∃ c2 : List Value, c2 = c1.take (i * 2 + 2) ++ (prs ps).drop (i * 2) ++ c1.drop (i * 2 + 2 + ((prs ps).drop (i * 2)).length) := ⟨_, rfl⟩
    have r1' : c2.take (i * 2 + 2 + ((prs ps).drop (i * 2)).length) = row.take (i * 2) ++ [.string p, x] ++ (prs ps).drop (i * 2) := by rw [hc2e]; exact r1
    have r2' : c2.length = row.length := by rw [hc2e]; exact r2
    rw [← hc2e] at cp2
    have kk : Kept (fun k => k = B) W2.drew (W2.drew.setRow B c2.toArray) := (Kept.refl (fun k => k = B) W2.drew).setRow (b := B) (fun _ => rfl) _
    have k3 : Kept (fun _ => False) w0 (W2.drew.setRow B c2.toArray) := k2.drew.setRow (fun h => by omega) _
    have hB3 : (W2.drew.setRow B c2.toArray).heap[B]? = some (.cells c2.toArray 33 (0, 0)) := setRow_heap W2.drew B _ _ 33 _ hB2d
    generalize W2.drew.setRow B c2.toArray = W3 at cp2 kk k3 hB3
    have HO : Hid (W3.ownsRow w0.heap.size 33 2 (.slice (some ⟨B, 0, none⟩) (ps.length + 1) G) (ps.length + 1) ((prs ps).take (i * 2) ++ [.string p, x] ++ (prs ps).drop (i * 2))) := by
      unfold Hid
      refine ⟨?_, .inr ⟨B, G, c2.toArray, rfl, hBge, hB3, hG1, hG2, ?_, ?_⟩⟩
      · rw [List.length_append, List.length_append, hDl, List.length_take, hpn]; simp; omega
      · rw [List.size_toArray, r2', hrl]
      · rw [List.toList_toArray, ← hrt, ← r1']; congr 1; rw [hDl]; omega
    have kz : (ps.length : Int) + 1 - (i : Int) = (k : Int) := by omega
    have s1 : ∀ w', (Instr.sliceAt 28 (.slice (some ⟨g, 0, none⟩) ps.length ps.length) none (some (.int .i64 (i : Int))) none).run Tryd.prog w' = .ok (.slice (some ⟨g, 0, none⟩) i ps.length) w' := slHi rfl hi (by omega)
    have s2 : ∀ w', (Instr.sliceAt 28 (.slice (some ⟨B, 0, none⟩) (ps.length + 1) G) (some (.int .i64 (i : Int))) none none).run Tryd.prog w' = .ok (.slice (some ⟨B, 0 + i * 2, none⟩) (ps.length + 1 - i) (G - i)) w' := slLo rfl (by omega) (by omega)
    have s3 : ∀ w', (Instr.sliceAt 28 (.slice (some ⟨B, 0, none⟩) (ps.length + 1) G) (some (.int .i64 ((i : Int) + 1))) none none).run Tryd.prog w' = .ok (.slice (some ⟨B, 0 + (i + 1) * 2, none⟩) (ps.length + 1 - (i + 1)) (G - (i + 1))) w' := slLo (by omega) (by omega) (by omega)
    have s4 : ∀ w', (Instr.sliceAt 28 (.slice (some ⟨g, 0, none⟩) ps.length ps.length) (some (.int .i64 (i : Int))) none none).run Tryd.prog w' = .ok (.slice (some ⟨g, 0 + i * 2, none⟩) (ps.length - i) (ps.length - i)) w' := slLo rfl (by omega) (by omega)
    clear sl0
    rw [Nat.zero_add] at s2 s3 s4
    rw [show (i + 1) * 2 = i * 2 + 2 by omega] at s3
    obtain ⟨q1, hq1⟩ : ∃ q1, q1 = ps.length + 1 - (i + 1) := ⟨_, rfl⟩
    obtain ⟨q2, hq2⟩ : ∃ q2, q2 = ps.length + 1 - i := ⟨_, rfl⟩
    obtain ⟨q3, hq3⟩ : ∃ q3, q3 = G - (i + 1) := ⟨_, rfl⟩
    obtain ⟨q4, hq4⟩ : ∃ q4, q4 = G - i := ⟨_, rfl⟩
    obtain ⟨q5, hq5⟩ : ∃ q5, q5 = ps.length - i := ⟨_, rfl⟩
    rw [← hq2, ← hq4] at s2
    rw [← hq1, ← hq3] at s3
    rw [← hq5] at s4
    rw [← hq1, ← hq3, ← hq5, Nat.zero_add] at cp2
    rw [← hq2, ← hq4] at cp1
    clear hq1 hq2 hq3 hq4 hq5 ho hg hgb hcs hc1 r1 r2 r3 r1' r2' hc1e hc2e hgb1 hcells hD1 hDl hxl hpn htake hcsz h1 hne hneg hB1 hB2 hB3 hB2d hgg1 hgg2 hrow hrl hrt hra holdl hkn hik hzf
    have dr : decide ((ps.length : Int) < (ps.length : Int) + 1) = true := decide_eq_true (by omega)
    have wi1 : IntKind.i64.wrap ((i : Int) + 1) = (i : Int) + 1 := IntWalk.i64_in _ (by omega)
    generalize ps.length = n at *
    go_enter Tryd.func52, Tryd.ntmps52
    go_wp2_with (first
      | (refine wpl_val rfl (exec_append2 28 3 _ _ rfl rfl rfl ap) ?_)
      | (refine wpl_val rfl (exec_copy 28 27 _ _ rfl rfl rfl cp1) ?_))
    refine wp_region_held_drew (S := (Kept (fun k => k = B) W2.drew)) (by kernel_rfl) ((Kept.refl _ W2.drew)) (fun hHeld => ?_)
    refine held_q (v := ?_) (i := 0) rfl (by kernel_rfl) (by kernel_rfl) (by kernel_rfl) (fun _ _ _ h => h) (by rfl) hHeld ?_ ?_
    rotate_left
    · (intro w' hS'; go_simp <;> (with_reducible rfl))
    simp only [Act.put, List.getElem_toArray, List.getElem_cons_zero, List.getElem_cons_succ, List.setIfInBounds_toArray, List.set_cons_zero, List.set_cons_succ]
    refine held_q (v := ?_) (i := 1) rfl (by kernel_rfl) (by kernel_rfl) (by kernel_rfl) (fun _ _ _ h => h) (by rfl) hHeld ?_ ?_
    rotate_left
    · (intro w' hS'; go_simp <;> (with_reducible rfl))
    simp only [Act.put, List.getElem_toArray, List.getElem_cons_zero, List.getElem_cons_succ, List.setIfInBounds_toArray, List.set_cons_zero, List.set_cons_succ]
    refine held_q (v := ?_) (i := 2) rfl (by kernel_rfl) (by kernel_rfl) (by kernel_rfl) (fun _ _ _ h => h) (by rfl) hHeld ?_ ?_
    rotate_left
    · (intro w' hS'; go_simp <;> (with_reducible rfl))
    simp only [Act.put, List.getElem_toArray, List.getElem_cons_zero, List.getElem_cons_succ, List.setIfInBounds_toArray, List.set_cons_zero, List.set_cons_succ]
    refine held_q (v := ?_) (i := 3) rfl (by kernel_rfl) (by kernel_rfl) (by kernel_rfl) (fun _ _ _ h => h) (by rfl) hHeld ?_ ?_
    rotate_left
    · (intro w' hS'; go_simp <;> (with_reducible rfl))
    simp only [Act.put, List.getElem_toArray, List.getElem_cons_zero, List.getElem_cons_succ, List.setIfInBounds_toArray, List.set_cons_zero, List.set_cons_succ]
    refine held_q (i := 4) rfl (by kernel_rfl) (by kernel_rfl) (by kernel_rfl) (fun _ _ _ h => h) (by rfl) hHeld (fun w' hS' => exec_slice_l 28 _ _ rfl rfl rfl (s3 w')) ?_
    simp only [Act.put, List.getElem_toArray, List.getElem_cons_zero, List.getElem_cons_succ, List.setIfInBounds_toArray, List.set_cons_zero, List.set_cons_succ]
    refine held_q (v := ?_) (i := 5) rfl (by kernel_rfl) (by kernel_rfl) (by kernel_rfl) (fun _ _ _ h => h) (by rfl) hHeld ?_ ?_
    rotate_left
    · (intro w' hS'; go_simp <;> (with_reducible rfl))
    simp only [Act.put, List.getElem_toArray, List.getElem_cons_zero, List.getElem_cons_succ, List.setIfInBounds_toArray, List.set_cons_zero, List.set_cons_succ]
    refine held_q (v := ?_) (i := 6) rfl (by kernel_rfl) (by kernel_rfl) (by kernel_rfl) (fun _ _ _ h => h) (by rfl) hHeld ?_ ?_
    rotate_left
    · (intro w' hS'; go_simp <;> (with_reducible rfl))
    simp only [Act.put, List.getElem_toArray, List.getElem_cons_zero, List.getElem_cons_succ, List.setIfInBounds_toArray, List.set_cons_zero, List.set_cons_succ]
    refine held_q (i := 7) rfl (by kernel_rfl) (by kernel_rfl) (by kernel_rfl) (fun _ _ _ h => h) (by rfl) hHeld (fun w' hS' => exec_slice_l 28 _ _ rfl rfl rfl (s4 w')) ?_
    simp only [Act.put, List.getElem_toArray, List.getElem_cons_zero, List.getElem_cons_succ, List.setIfInBounds_toArray, List.set_cons_zero, List.set_cons_succ]
    refine held_v (i := 8) (by kernel_rfl) rfl (by rfl) (exec_copy 28 28 _ _ rfl rfl rfl cp2) (kk) (fun hHeld => ?_)
    simp only [Act.put, List.getElem_toArray, List.getElem_cons_zero, List.getElem_cons_succ, List.setIfInBounds_toArray, List.set_cons_zero, List.set_cons_succ]
    refine wpAnyH_done (by kernel_rfl) ?_ _
    go_wp2_with fail
    go_ret
    exact ⟨_, rfl, HO.out, k3⟩
end Go.Proofs.YthachckofghppaaDoor
