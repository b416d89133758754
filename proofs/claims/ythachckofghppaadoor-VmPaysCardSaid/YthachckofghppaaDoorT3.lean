/- wire: rows one behind the other; AppendUint, AppendBytes. -/
import Derived.Test.YthachckofghppaaDoorT2
import Derived.Laws.MakeOwn
namespace Go.Proofs.YthachckofghppaaDoor
open Go.RowKit
set_option maxRecDepth 100000
set_option linter.unusedSimpArgs false
set_option linter.unusedVariables false

/-- A slice of slices that read as these rows. -/
def RowsAt (w : World) (v : Value) (rows : List (List UInt8)) : Prop :=
  ∃ (g : Nat) (vs : List Value) (cap : Nat), v = .slice (some ⟨g, 0, none⟩) rows.length cap ∧ vs.length = rows.length ∧ w.heap[g]? = some (.cells vs.toArray 22 (0, 0)) ∧ ∀ (j : Nat) l, rows[j]? = some l → ∃ x, vs[j]? = some x ∧ ByAt w x l
theorem grown_kept {w0 w w' : World} {row : Option Nat} (h : Kept (fun _ => False) w0 w) (hg : w.grownBy w' row) (hr : ∀ k, row = some k → w0.heap.size ≤ k) : Kept (fun _ => False) w0 w' :=
  ⟨hg.os.trans h.os, hg.tape.trans h.tape, hg.output.trans h.output, Nat.le_trans h.size hg.size, fun k hk _ => (hg.block k (Nat.lt_of_lt_of_le hk h.size) (fun e => by have := hr k e.symm; omega)).trans (h.block k hk not_false)⟩
theorem row_form {w : World} {base : Nat} {t : TypeId} {z : Nat} {v : Value} {n : Nat} {xs : List Value} (h : w.ownsRow base t z v n xs) : ∃ a cap, v = .slice a n cap := by
  rcases h.2 with ⟨rfl, rfl⟩ | ⟨g, cap, cur, rfl, _⟩
  · exact ⟨none, 0, rfl⟩
  · exact ⟨_, cap, rfl⟩

def total (rows : List (List UInt8)) : Nat := (rows.map List.length).sum
theorem total_flat (rows : List (List UInt8)) : (rows.flatten).length = total rows := by simp [total, List.length_flatten]
theorem total_take (rows : List (List UInt8)) (k : Nat) (hk : k < rows.length) : total (rows.take (k + 1)) = total (rows.take k) + rows[k].length := by
  unfold total
  rw [List.take_succ_eq_append_getElem hk, List.map_append, List.sum_append]; simp
theorem total_le (rows : List (List UInt8)) (k : Nat) : total (rows.take k) ≤ total rows := by
  unfold total
  conv => rhs; rw [← List.take_append_drop k rows]
  rw [List.map_append, List.sum_append]; omega
theorem flat_take (rows : List (List UInt8)) (k : Nat) (hk : k < rows.length) : (rows.take (k + 1)).flatten = (rows.take k).flatten ++ rows[k] := by
  rw [List.take_succ_eq_append_getElem hk, List.flatten_append]; simp
theorem exec_append {P : Program} {o : Oper} {a : Act} {w w1 : World} {p q v : Value} (t : TypeId) (x y : Operand) (ho : o.op = .call { callee := .builtin .append, args := #[x, y], argTypes := #[t, t] }) (hx : a.eval x = p) (hy : a.eval y = q)
    (h : (Builtin.append_ #[t, t] o.type #[p, q]).run P w = .ok v w1) : (execOp a.eval o).run P w = .ok (.value v) w1 := by
  unfold execOp
  simp only [ho, resolve, invoke, builtin, Sem.run_bind, Sem.run_pure, Result.andThen_ok]
  simp only [List.map_toArray, List.map_cons, List.map_nil, hx, hy, h, Result.andThen_ok]
theorem exec_make {P : Program} {o : Oper} {a : Act} {w w1 : World} {p q v : Value} (t : TypeId) (x y : Operand) (ho : o.op = .makeSlice t x y) (hx : a.eval x = p) (hy : a.eval y = q)
    (h : (Instr.makeSlice t p q).run P w = .ok v w1) : (execOp a.eval o).run P w = .ok (.value v) w1 := by
  unfold execOp; simp only [ho, hx, hy, Sem.run_bind, h, Result.andThen_ok]; rfl
theorem make_by (w : World) (n : Nat) (hn : n ≤ 1000000) : ∃ w', (Instr.makeSlice 22 (.int .i64 0) (.int .i64 (n : Int))).run Tryd.prog w = .ok (.slice (some ⟨w.heap.size, 0, none⟩) 0 n) w' ∧
    w'.ownsRow w.heap.size 5 1 (.slice (some ⟨w.heap.size, 0, none⟩) 0 n) 0 [] ∧ w.grownBy w' none := by
  obtain ⟨i, hi⟩ : ∃ i, Tryd.prog.info? 5 = some i := ⟨_, rfl⟩
  obtain ⟨z, hz⟩ : ∃ z, i.zero = some z := by injection hi with hi; subst hi; exact ⟨_, rfl⟩
  have hs : i.size = 1 := by injection hi with hi; subst hi; rfl
  have hby : i.bytes ≤ 1 := by injection hi with hi; subst hi; decide
  exact run_make_own w w.heap.size 22 5 i z 1 Tryd.underlying22 hi hz hs .i64 .i64 n (by have : i.bytes * n ≤ 1 * 1000000 := Nat.mul_le_mul hby hn; omega) (by simp only [maxLen]; omega) (Nat.le_refl _)

set_option maxHeartbeats 2000000 in
theorem behind_ct {w : World} {v : Value} {rows : List (List UInt8)} (h : RowsAt w v rows) (hb : total rows ≤ 1000000) (hn : rows.length ≤ 1000) :
    Calls Tryd.prog 92 #[v] w fun e w' => ∃ v', e = .returned v' ∧ w'.ownsRow w.heap.size 5 1 v' (total rows) (bv rows.flatten) ∧ Kept (fun _ => False) w w' := by
  obtain ⟨g, vs, cap, rfl, hvs, hg, hr⟩ := h
  have hgl := (Array.getElem?_eq_some_iff.1 hg).1
  go_enter Tryd.func92, Tryd.ntmps92
  go_wp2_with fail
  go_loopw [3, 11] (fun s i wr => ∃ k : Nat, k ≤ rows.length ∧ i = .int .i64 k ∧ s = .int .i64 (total (rows.take k)) ∧ wr = w) (fun _ i _ => rows.length - (intOf i).toNat)
  case atStart => exact ⟨0, by omega, rfl, by simp [total], rfl⟩
  case round =>
    obtain ⟨k, hk, rfl, rfl, hw⟩ := hrel
    have hw' := hw.symm
    clear hw
    subst hw'
    by_cases hlt : k < rows.length
    · obtain ⟨x, hx, hxl⟩ := hr k rows[k] (List.getElem?_eq_getElem hlt)
      obtain ⟨a, c, rfl, hml, _⟩ := hxl
      have hc : w.cell? ⟨g, k, none⟩ = some (.slice a rows[k].length c) := by rw [cell_of_row _ _ _ _ _ _ hg]; simpa using hx
      have ht := total_take rows k hlt
      have hle := total_le rows (k + 1)
      have hsum : IntKind.i64.wrap ((total (rows.take k) : Int) + (rows[k].length : Int)) = (total (rows.take (k + 1)) : Int) := by rw [IntWalk.i64_in _ (by omega)]; omega
      generalize rows[k] = l at *
      go_wp2_with fail
      go_roundw
      case rel => exact ⟨k + 1, by omega, by go_num, by rw [ht]; simp, trivial⟩
      case measure => simp [intOf]; omega
    · obtain rfl : k = rows.length := by omega
      obtain ⟨w1, hmk, hown, hgr⟩ := make_by w (total rows) hb
      have kk : Kept (fun _ => False) w w1 := grown_kept (Kept.refl _ w) hgr (fun k e => by cases e)
      have tk : total (rows.take rows.length) = total rows := by rw [List.take_length]
      rw [← tk] at hmk
      go_wp2_with (first
        | (refine wpl_val rfl (exec_make 22 _ _ rfl rfl rfl hmk) ?_))
      go_loopw [6, 24] (fun s i wz => ∃ k : Nat, k ≤ rows.length ∧ i = .int .i64 k ∧ wz.ownsRow w.heap.size 5 1 s (total (rows.take k)) (bv (rows.take k).flatten) ∧ Kept (fun _ => False) w wz) (fun _ i _ => rows.length - (intOf i).toNat)
      case atStart => exact ⟨0, by omega, rfl, by simpa [total, bv] using hown, kk⟩
      case round =>
        obtain ⟨k, hk, rfl, hs, hkz⟩ := hrel
        by_cases hlt : k < rows.length
        · obtain ⟨x, hx, hxl⟩ := hr k rows[k] (List.getElem?_eq_getElem hlt)
          have hc : wr.cell? ⟨g, k, none⟩ = some x := by rw [hkz.cell (p := ⟨g, k, none⟩) hgl not_false, cell_of_row _ _ _ _ _ _ hg]; simpa using hx
          have ht := total_take rows k hlt
          have hf := flat_take rows k hlt
          have hle := total_le rows (k + 1)
          obtain ⟨v', w', ap, ho', hg'⟩ := app_by hs (hxl.kept hkz) (by omega) hkz.size 22
          have kz' := grown_kept hkz hg' (fun k e => (World.ownsRow.lt hs k e).1)
          obtain ⟨a, c, rfl, _⟩ := hxl
          obtain ⟨aa, cc, rfl⟩ := row_form hs
          rw [← bv_app, ← hf, ← ht] at ho'
          clear hf hle ht hs hg'
          generalize rows[k] = l at *
          go_wp2_with (first
            | (refine wpl_val rfl (exec_append 22 _ _ rfl rfl rfl ap) ?_))
          go_roundw
          case rel => exact ⟨k + 1, by omega, by go_num, ho', kz'⟩
          case measure => simp [intOf]; omega
        · obtain rfl : k = rows.length := by omega
          obtain ⟨aa, cc, rfl⟩ := row_form hs
          rw [List.take_length] at hs
          go_wp2_with fail
          go_ret
          exact ⟨_, rfl, by simpa using hs, hkz⟩

theorem formL_len (n : Nat) : (formL n).length ≤ 9 := by have := beD_len 8 n; simp [formL]; omega
theorem ByAt.slc {w : World} {v : Value} {l : List UInt8} (h : ByAt w v l) : ∃ a c, v = .slice a l.length c := by obtain ⟨a, c, h, _⟩ := h; exact ⟨a, c, h⟩
set_option maxHeartbeats 1000000 in
theorem appendUint_ct {w : World} {v : Value} {l : List UInt8} (h : ByAt w v l) (hl : l.length ≤ 100000) {n : Nat} (hn : n < 18446744073709551616) :
    Calls Tryd.prog 90 #[v, .int .u64 n] w fun e w' => ∃ v', e = .returned v' ∧ ByAt w' v' (l ++ formL n) ∧ Kept (fun _ => False) w w' := by
  obtain ⟨a, c, hv⟩ := h.slc
  subst hv
  go_enter Tryd.func90, Tryd.ntmps90
  go_wp2_with fail
  refine (form_ct n hn w).mono ?_
  rintro e W ⟨v1, rfl, h1, k1⟩
  obtain ⟨a1, c1, hv1⟩ := h1.slc
  subst hv1
  go_wp2_with fail
  have k2 : Kept (fun _ => False) W (W.alloc (.cells #[.slice a l.length c, .slice a1 (formL n).length c1] 22)) := (Kept.refl _ W).alloc _
  have hg := heap_last W (.cells #[.slice a l.length c, .slice a1 (formL n).length c1] 22)
  have hR : RowsAt (W.alloc (.cells #[.slice a l.length c, .slice a1 (formL n).length c1] 22)) (.slice (some ⟨W.heap.size, 0, none⟩) 2 2) [l, formL n] :=
    ⟨W.heap.size, [.slice a l.length c, .slice a1 (formL n).length c1], 2, rfl, rfl, hg, fun j x hx => by
      match j, hx with
      | 0, hx => simp at hx; subst hx; exact ⟨_, rfl, h.kept (k1.trans k2)⟩
      | 1, hx => simp at hx; subst hx; exact ⟨_, rfl, h1.kept k2⟩⟩
  have hfl := formL_len n
  have ht : total [l, formL n] = l.length + (formL n).length := by simp [total]
  refine (behind_ct hR (by omega) (by simp)).mono ?_
  rintro e W3 ⟨v3, rfl, ho, k3⟩
  rw [ht] at ho
  obtain ⟨a3, c3, rfl⟩ := row_form ho
  go_wp2_with fail
  go_ret
  exact ⟨_, rfl, ByAt.own (by simpa using ho), (k1.trans k2).trans k3⟩
set_option maxHeartbeats 1000000 in
theorem appendBytes_ct {w : World} {v x : Value} {l m : List UInt8} (h : ByAt w v l) (hx : ByAt w x m) (hl : l.length ≤ 100000) (hm : m.length ≤ 100000) :
    Calls Tryd.prog 91 #[v, x] w fun e w' => ∃ v', e = .returned v' ∧ ByAt w' v' (l ++ formL m.length ++ m) ∧ Kept (fun _ => False) w w' := by
  obtain ⟨a, c, hv⟩ := h.slc
  subst hv
  obtain ⟨b, d, hy⟩ := hx.slc
  subst hy
  have hw : IntKind.u64.wrap (m.length : Int) = m.length := IntWalk.u64_in _ (by omega)
  go_enter Tryd.func91, Tryd.ntmps91
  go_wp2_with fail
  refine (form_ct m.length (by omega) w).mono ?_
  rintro e W ⟨v1, rfl, h1, k1⟩
  obtain ⟨a1, c1, hv1⟩ := h1.slc
  subst hv1
  go_wp2_with fail
  have k2 : Kept (fun _ => False) W (W.alloc (.cells #[.slice a l.length c, .slice a1 (formL m.length).length c1, .slice b m.length d] 22)) := (Kept.refl _ W).alloc _
  have hg := heap_last W (.cells #[.slice a l.length c, .slice a1 (formL m.length).length c1, .slice b m.length d] 22)
  have hR : RowsAt (W.alloc (.cells #[.slice a l.length c, .slice a1 (formL m.length).length c1, .slice b m.length d] 22)) (.slice (some ⟨W.heap.size, 0, none⟩) 3 3) [l, formL m.length, m] :=
    ⟨W.heap.size, [.slice a l.length c, .slice a1 (formL m.length).length c1, .slice b m.length d], 3, rfl, rfl, hg, fun j x hx' => by
      match j, hx' with
      | 0, hx' => simp at hx'; subst hx'; exact ⟨_, rfl, h.kept (k1.trans k2)⟩
      | 1, hx' => simp at hx'; subst hx'; exact ⟨_, rfl, h1.kept k2⟩
      | 2, hx' => simp at hx'; subst hx'; exact ⟨_, rfl, hx.kept (k1.trans k2)⟩⟩
  have hfl := formL_len m.length
  have ht : total [l, formL m.length, m] = l.length + ((formL m.length).length + m.length) := by simp [total]
  refine (behind_ct hR (by omega) (by simp)).mono ?_
  rintro e W3 ⟨v3, rfl, ho, k3⟩
  rw [ht] at ho
  obtain ⟨a3, c3, rfl⟩ := row_form ho
  go_wp2_with fail
  go_ret
  exact ⟨_, rfl, ByAt.own (by simpa using ho), (k1.trans k2).trans k3⟩
end Go.Proofs.YthachckofghppaaDoor
