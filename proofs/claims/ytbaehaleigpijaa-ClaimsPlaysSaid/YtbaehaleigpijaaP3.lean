/- The document's book: Live. -/
import Derived.Test.YtbaehaleigpijaaP2
import Derived.Deep.LoopGhost
namespace Go.Proofs.Ytbaehaleigpijaa
open Go.RowKit
set_option linter.unusedSimpArgs false
set_option linter.unusedVariables false
variable {b0 : Nat}

open Classical in
theorem exec_eql_yes {D E : Array Value} (hD : IsDig D) (hE : IsDig E) (e : D = E) {o : Oper} {a : Act} {w : World} (x y : Operand) (ho : o.op = .binOp .eql 31 x y 31) (hx : a.eval x = .agg D) (hy : a.eval y = .agg E) :
    (execOp a.eval o).run Try.prog w = .ok (.value (.bool true)) w := by
  have := exec_eql_dig hD hE (w := w) x y ho hx hy
  rwa [decide_eq_true e] at this
open Classical in
theorem exec_eql_no {D E : Array Value} (hD : IsDig D) (hE : IsDig E) (e : D ≠ E) {o : Oper} {a : Act} {w : World} (x y : Operand) (ho : o.op = .binOp .eql 31 x y 31) (hx : a.eval x = .agg D) (hy : a.eval y = .agg E) :
    (execOp a.eval o).run Try.prog w = .ok (.value (.bool false)) w := by
  have := exec_eql_dig hD hE (w := w) x y ho hx hy
  rwa [decide_eq_false e] at this
def ZOth : Array Value := Z36 ++ #[.int .i64 0]
theorem zeroOth (w : World) : (zeroValue 74).run Try.prog w = .ok (.agg ZOth) w := by kernel_rfl
/-- An entry's cells as an array. -/
abbrev OthE.arr (e : OthE) : Array Value := clm e.D e.n e.i e.c e.g ++ #[.int .i64 e.u]
theorem OthE.arr_eq (e : OthE) : e.arr.toList = e.cells := by simp [OthE.cells]
theorem OthE.arr_size {e : OthE} (h : IsDig e.D) : e.arr.size = 37 := by simp [h.size]
theorem OthE.arr_one {e : OthE} (h : IsDig e.D) : e.arr.all (·.oneCell') = true := by rw [Array.all_append, clm_oneCell h]; simp [Value.oneCell']
theorem load_oth {e : OthE} (h : IsDig e.D) {w : World} {b q : Nat} (hr : w.rangeAt b q e.cells) : (Instr.loadAt 74 (.pointer (some ⟨b, q, none⟩))).run Try.prog w = .ok (.agg e.arr) w := by
  rw [← OthE.arr_eq] at hr
  have := run_loadAt_mid (P := Try.prog) w b q 74 e.arr.toList _ hr Try.underlying74 rfl (by rw [Array.length_toList, OthE.arr_size h]; kernel_rfl)
  rwa [Array.toArray_toList] at this
theorem oth_at {e : OthE} (h : IsDig e.D) {w : World} {b : Nat} {t : TypeId} {fr : Nat × Nat} (hb : w.heap[b]? = some (.cells e.arr t fr)) (j : Nat) (v : Value)
    (hv : (#[Value.int .i64 e.n, .int .u64 e.i, .int .u64 e.c, .bool e.g, .int .i64 e.u])[j]? = some v) : w.cell? ⟨b, 32 + j, none⟩ = some v := by
  have hs := h.size
  rw [cell_of_row _ _ _ _ _ _ hb]
  have hj := (Array.getElem?_eq_some_iff.1 hv).1
  have hj : j < 5 := hj
  unfold OthE.arr
  rcases (by omega : j = 0 ∨ j = 1 ∨ j = 2 ∨ j = 3 ∨ j = 4) with rfl | rfl | rfl | rfl | rfl
  · rw [Array.getElem?_append_left (by simp [hs])]; exact (clm_at h _ _ _ _ 0).trans hv
  · rw [Array.getElem?_append_left (by simp [hs])]; exact (clm_at h _ _ _ _ 1).trans hv
  · rw [Array.getElem?_append_left (by simp [hs])]; exact (clm_at h _ _ _ _ 2).trans hv
  · rw [Array.getElem?_append_left (by simp [hs])]; exact (clm_at h _ _ _ _ 3).trans hv
  · rw [Array.getElem?_append_right (by simp [hs])]; simp [hs]; simpa using hv

set_option maxHeartbeats 2000000 in
theorem rlive_ct {w : World} {R : Nat} {s : St} {owns : List OwnE} {oths : List OthE} {vo vt : Value} (h : RbS b0 w R s owns oths vo vt) (hs : Refs s owns oths) {D : Array Value} (hD : IsDig D) {now : Int} (h0 : 0 ≤ now) :
    Calls Try.prog 19 #[.pointer (some ⟨R, 0, none⟩), .agg D, .int .i64 now] w fun e w' => e = .returned (liveV (live s.U D now)) ∧ Kept (fun _ => False) w w' := by
  have k1 : Kept (fun _ => False) w (w.alloc (.cells D 31)) := (Kept.refl _ w).alloc _
  have h1 := h.kept k1
  have hx := heap_last w (.cells D 31)
  have zx : w.heap.size < (w.alloc (.cells D 31)).heap.size := by simp
  obtain ⟨ao, cap, hvo⟩ := row_form h.oth
  have hml := row_le h.oth
  simp only [maxLen] at hml
  go_enter Try.func19, Try.ntmps19
  go_wp2_with fail
  generalize w.alloc (.cells D 31) = W at k1 h1 hx zx ⊢
  generalize w.heap.size = X at hx zx ⊢
  subst hvo
  go_loopg [8] 16 (fun gk x wr => ∃ m : Nat, gk = 16 - m ∧ m ≤ 16 ∧ x = .int .i64 m ∧ Kept (fun _ => False) W wr ∧ ∀ q, q < m → alive s.U D now q = false)
  case atStart => exact ⟨0, rfl, by omega, rfl, Kept.refl _ _, by intro j hj; omega⟩
  case round =>
    obtain ⟨m, rfl, hm, rfl, hkm, hno⟩ := hrel
    have HN := Lib.hid hno
    clear hno
    by_cases hlm : m < 16
    · have hd : decide ((m : Int) < 16) = true := decide_eq_true (by omega)
      go_wp2_with fail
      try rw [hd]
      clear hd
      go_loopg [9] oths.length (fun gk x wx => ∃ k : Nat, gk = oths.length - k ∧ k ≤ oths.length ∧ x = .int .i64 k ∧ Kept (fun _ => False) W wx ∧ ∀ (j : Nat) (x : OthE), j < k → oths[j]? = some x → ¬ (x.D = D ∧ x.n = m ∧ now < x.u))
      case atStart => exact ⟨0, rfl, by omega, rfl, hkm, by intro j x hj; omega⟩
      case round =>
        obtain ⟨k, rfl, hk, rfl, hkr, hno⟩ := hrel
        have HM := Lib.hid hno
        clear hno
        have hr := h1.kept hkr
        have c6 := hr.cell 6 _ rfl
        by_cases hlt : k < oths.length
        · have hk' : oths[k]? = some oths[k] := List.getElem?_eq_getElem hlt
          generalize oths[k] = x at hk'
          have hDx := h.digT x (List.mem_of_getElem? hk')
          obtain ⟨g, cap', hv, hg, _, hra⟩ := row_at hr.oth (fun e he => OthE.len (h.digT e he)) hk'
          injection hv with hv1 hv2 hv3
          subst hv1
          have hld := load_oth hDx hra
          have st := store_new (P := Try.prog) (ty := 74) (c := ZOth) (c' := x.arr) (by rw [OthE.arr_size hDx]; kernel_rfl) (by rw [OthE.arr_size hDx]; rfl) (OthE.arr_one hDx) (w := wr) rfl
          go_upto_region 8 with (first
            | (with_reducible refine wpl_load 74 _ rfl rfl ?_ hld ?_
               · rfl
               simp only [Act.put, List.getElem_toArray, List.getElem_cons_zero, List.getElem_cons_succ, List.setIfInBounds_toArray, List.set_cons_zero, List.set_cons_succ])
            | (with_reducible refine wpl_alloc 74 rfl rfl (zeroOth _) ?_
               simp only [World.size_alloc, Act.put, List.getElem_toArray, List.getElem_cons_zero, List.getElem_cons_succ, List.setIfInBounds_toArray, List.set_cons_zero, List.set_cons_succ])
            | (with_reducible refine wpl_store 74 _ _ rfl rfl ?_ ?_ st ?_
               · rfl
               · rfl
               simp only [Act.put, List.getElem_toArray, List.getElem_cons_zero, List.getElem_cons_succ, List.setIfInBounds_toArray, List.set_cons_zero, List.set_cons_succ]))
          have k7 : Kept (fun _ => False) W (wr.alloc (.cells x.arr 74)) := hkr.alloc _
          have hb := heap_last wr (.cells x.arr 74)
          clear hld st hra
          generalize wr.alloc (.cells x.arr 74) = W7 at k7 hb ⊢
          generalize wr.heap.size = B at hb ⊢
          have cN := oth_at hDx hb 0 _ rfl
          have cU := oth_at hDx hb 4 _ rfl
          have hb' : W7.heap[B]? = some (.cells (x.D ++ (#[.int .i64 x.n, .int .u64 x.i, .int .u64 x.c, .bool x.g] ++ #[.int .i64 x.u])) 74 (0, 0)) := by rw [← Array.append_assoc]; exact hb
          have l1 := load_dig_mid hDx hb'
          have l2 := load_dig hD ((k7.block _ zx not_false).trans hx)
          clear hb hb' c6
          by_cases e1 : x.D = D
          · by_cases e2 : x.n = (m : Int)
            · have e2' : (x.n == (m : Int)) = true := by simp [e2]
              by_cases e3 : now < x.u
              · have HE := Lib.hid (And.intro e1 e2)
                have E1 := Lib.hid e1
                clear e1 e2
                go_wp2_with (first
                  | (with_reducible refine wpl_load 31 _ rfl rfl ?_ l1 ?_
                     · rfl
                     simp only [Act.put, List.getElem_toArray, List.getElem_cons_zero, List.getElem_cons_succ, List.setIfInBounds_toArray, List.set_cons_zero, List.set_cons_succ])
                  | (with_reducible refine wpl_load 31 _ rfl rfl ?_ l2 ?_
                     · rfl
                     simp only [Act.put, List.getElem_toArray, List.getElem_cons_zero, List.getElem_cons_succ, List.setIfInBounds_toArray, List.set_cons_zero, List.set_cons_succ])
                  | (with_reducible refine wpl_val rfl (exec_eql_yes hDx hD E1.out _ _ rfl rfl rfl) ?_))
                go_ret2
                have ha : alive s.U D now m = true := (hs.alive h0 m).2 ⟨k, x, hk', HE.out.1, HE.out.2, e3⟩
                exact ⟨by rw [live_some m hlm (fun q hq => HN.out q hq) ha]; rfl, k1.trans k7⟩
              · have E1 := Lib.hid e1
                clear e1 e2
                go_wp2_with (first
                  | (with_reducible refine wpl_load 31 _ rfl rfl ?_ l1 ?_
                     · rfl
                     simp only [Act.put, List.getElem_toArray, List.getElem_cons_zero, List.getElem_cons_succ, List.setIfInBounds_toArray, List.set_cons_zero, List.set_cons_succ])
                  | (with_reducible refine wpl_load 31 _ rfl rfl ?_ l2 ?_
                     · rfl
                     simp only [Act.put, List.getElem_toArray, List.getElem_cons_zero, List.getElem_cons_succ, List.setIfInBounds_toArray, List.set_cons_zero, List.set_cons_succ])
                  | (with_reducible refine wpl_val rfl (exec_eql_yes hDx hD E1.out _ _ rfl rfl rfl) ?_))
                go_roundg (oths.length - (k + 1))
                case rel => exact ⟨k + 1, rfl, by omega, by go_num, k7, fun j y hj hy => by
                  by_cases q : j = k
                  · subst q; rw [hk'] at hy; injection hy with hy; subst hy; exact fun z => Int.not_lt.2 (by omega) z.2.2
                  · exact HM.out j y (by omega) hy⟩
                case measure => omega
            · have e2' : (x.n == (m : Int)) = false := by simp [e2]
              have E1 := Lib.hid e1
              have E2 := Lib.hid e2
              clear e1 e2
              go_wp2_with (first
                | (with_reducible refine wpl_load 31 _ rfl rfl ?_ l1 ?_
                   · rfl
                   simp only [Act.put, List.getElem_toArray, List.getElem_cons_zero, List.getElem_cons_succ, List.setIfInBounds_toArray, List.set_cons_zero, List.set_cons_succ])
                | (with_reducible refine wpl_load 31 _ rfl rfl ?_ l2 ?_
                   · rfl
                   simp only [Act.put, List.getElem_toArray, List.getElem_cons_zero, List.getElem_cons_succ, List.setIfInBounds_toArray, List.set_cons_zero, List.set_cons_succ])
                | (with_reducible refine wpl_val rfl (exec_eql_yes hDx hD E1.out _ _ rfl rfl rfl) ?_))
              go_roundg (oths.length - (k + 1))
              case rel => exact ⟨k + 1, rfl, by omega, by go_num, k7, fun j y hj hy => by
                by_cases q : j = k
                · subst q; rw [hk'] at hy; injection hy with hy; subst hy; exact fun z => E2.out z.2.1
                · exact HM.out j y (by omega) hy⟩
              case measure => omega
          · have E1 := Lib.hid e1
            clear e1
            go_wp2_with (first
              | (with_reducible refine wpl_load 31 _ rfl rfl ?_ l1 ?_
                 · rfl
                 simp only [Act.put, List.getElem_toArray, List.getElem_cons_zero, List.getElem_cons_succ, List.setIfInBounds_toArray, List.set_cons_zero, List.set_cons_succ])
              | (with_reducible refine wpl_load 31 _ rfl rfl ?_ l2 ?_
                 · rfl
                 simp only [Act.put, List.getElem_toArray, List.getElem_cons_zero, List.getElem_cons_succ, List.setIfInBounds_toArray, List.set_cons_zero, List.set_cons_succ])
              | (with_reducible refine wpl_val rfl (exec_eql_no hDx hD E1.out _ _ rfl rfl rfl) ?_))
            go_roundg (oths.length - (k + 1))
            case rel => exact ⟨k + 1, rfl, by omega, by go_num, k7, fun j y hj hy => by
              by_cases q : j = k
              · subst q; rw [hk'] at hy; injection hy with hy; subst hy; exact fun z => E1.out z.1
              · exact HM.out j y (by omega) hy⟩
            case measure => omega
        · have hkk : k = oths.length := by omega
          subst hkk
          go_wp2_with fail
          go_roundg (16 - (m + 1))
          case rel => exact ⟨m + 1, rfl, by omega, by go_num, hkr, fun q hq => by
            by_cases e : q = m
            · subst e
              cases ha : alive s.U D now q with
              | false => rfl
              | true =>
                obtain ⟨j, x, a1, a2, a3, a4⟩ := (hs.alive h0 q).1 ha
                exact absurd ⟨a2, a3, a4⟩ (HM.out j x (List.getElem?_eq_some_iff.1 a1).1 a1)
            · exact HN.out q (by omega)⟩
          case measure => omega
    · have hm16 : m = 16 := by omega
      subst hm16
      go_wp2_with fail
      go_ret2
      exact ⟨by rw [live_none (fun q hq => HN.out q hq)]; rfl, k1.trans hkm⟩
end Go.Proofs.Ytbaehaleigpijaa
