/- Same; Op.claim. -/
import Derived.Test.YtbaehaleigpijaaD2
namespace Go.Proofs.Ytbaehaleigpijaa
open Go.RowKit
set_option linter.unusedSimpArgs false
set_option linter.unusedVariables false

/-- A claim whose numbers fit. -/
structure ClmOk (n i c : Int) : Prop where
  n : (Lit.int .i64 n).wf = true
  i : (Lit.int .u64 i).wf = true
  c : (Lit.int .u64 c).wf = true

theorem clm_key {D : Array Value} (hD : IsDig D) {n i c : Int} (g : Bool) (hw : ClmOk n i c) : ∃ l, keyOf Try.prog 33 (.agg (clm D n i c g)) = some l := by
  have hs := hD.size
  obtain ⟨cs, h1, h2, rfl⟩ := hD
  obtain ⟨m, hm⟩ := sz_types
  obtain ⟨l, hl⟩ := keyLits_arr (P := Try.prog) (d := m) Try.underlying31 Try.underlying5 (by kernel_rfl) (by kernel_rfl) h1 (fun x hx => wf_u8 (h2 x hx))
  have hkt : Try.prog.keyType 33 = true := by kernel_rfl
  have hcc : Try.prog.cellsOf 33 = 36 := by kernel_rfl
  have hcd : Try.prog.cellsOf 31 = 32 := by kernel_rfl
  have hci : Try.prog.cellsOf 3 = 1 := by kernel_rfl
  have hcu : Try.prog.cellsOf 22 = 1 := by kernel_rfl
  have hcb : Try.prog.cellsOf 4 = 1 := by kernel_rfl
  have hK : Try.prog.keyLits (m + 3) 33 ((cs.map (Value.int .u8)) ++ [.int .i64 n, .int .u64 i, .int .u64 c, .bool g]) = some (l ++ [.int .i64 n, .int .u64 i, .int .u64 c, .bool g]) := by
    rw [show m + 3 = (m + 2) + 1 from rfl]
    unfold Program.keyLits
    rw [Try.underlying33]
    have e1 : (List.map (Value.int IntKind.u8) cs ++ ([.int .i64 n, .int .u64 i, .int .u64 c, .bool g] : List Value)).take 32 = cs.map (Value.int .u8) := by rw [List.take_append_of_le_length (by simp [h1])]; simp [List.take_of_length_le, h1]
    have ed : ∀ k, (List.map (Value.int IntKind.u8) cs ++ ([.int .i64 n, .int .u64 i, .int .u64 c, .bool g] : List Value)).drop (32 + k) = ([.int .i64 n, .int .u64 i, .int .u64 c, .bool g] : List Value).drop k := fun k => by
      rw [List.drop_append]; simp [h1, List.drop_of_length_le]
    have e2 := ed 0
    have e3 := ed 1
    have e4 := ed 2
    have e5 := ed 3
    simp only [Nat.add_zero, List.drop_zero, List.drop_succ_cons, show 32 + 1 = 33 from rfl, show 32 + 2 = 34 from rfl, show 32 + 3 = 35 from rfl] at e2 e3 e4 e5
    have f1 : Try.prog.keyLits (m + 2) 3 [.int .i64 n] = some [.int .i64 n] := by unfold Program.keyLits; simp [Try.underlying3, hw.n]
    have f2 : Try.prog.keyLits (m + 2) 22 [.int .u64 i] = some [.int .u64 i] := by unfold Program.keyLits; simp [Try.underlying22, hw.i]
    have f3 : Try.prog.keyLits (m + 2) 22 [.int .u64 c] = some [.int .u64 c] := by unfold Program.keyLits; simp [Try.underlying22, hw.c]
    have f4 : Try.prog.keyLits (m + 2) 4 [.bool g] = some [.bool g] := by unfold Program.keyLits; simp [Try.underlying4]
    simp only [hcc, hcd, hci, hcu, hcb, List.length_append, List.length_map, h1, List.mapM_cons, List.mapM_nil, List.drop_zero, e1, e2, e3, e4, e5, f1, f2, f3, f4, hl, List.take_succ_cons, List.take_zero]
    rw [if_pos ⟨by rfl, by kernel_rfl⟩]
    rfl
  refine ⟨.string (keyBytes (l ++ [.int .i64 n, .int .u64 i, .int .u64 c, .bool g])), ?_⟩
  unfold keyOf
  rw [Try.underlying33]
  simp only [hkt, Value.formed, Try.underlying33, hcc, hm, Value.cells, Array.toList_append, hK]
  simp [h1]

theorem eq_clm {D : Array Value} (hD : IsDig D) {n i c : Int} (g : Bool) (hw : ClmOk n i c) (w : World) : (Op.equal 33 (.agg (clm D n i c g)) (.agg (clm D n i c g))).run Try.prog w = .ok true w := by
  obtain ⟨l, hl⟩ := clm_key hD g hw
  obtain ⟨r, h1, h2⟩ := run_equal_deep (P := Try.prog) w (m := 10) (by omega) (k := 33) (by kernel_rfl) (by kernel_rfl) hl hl
  rw [h1, h2.2 rfl]
theorem exec_neq_clm {D : Array Value} (hD : IsDig D) {n i c : Int} (g : Bool) (hw : ClmOk n i c) {o : Oper} {a : Act} {w : World} (x y : Operand) (ho : o.op = .binOp .neq 33 x y 33) (hx : a.eval x = .agg (clm D n i c g)) (hy : a.eval y = .agg (clm D n i c g)) :
    (execOp a.eval o).run Try.prog w = .ok (.value (.bool false)) w := by
  have hg : Try.prog.eqGuardType Try.prog.depth 33 = false := by kernel_rfl
  have hE := eq_clm hD g hw w
  unfold execOp
  simp only [ho, hx, hy, Sem.run_bind]
  have h1 : (eqGuard .neq 33 x y (.agg (clm D n i c g)) (.agg (clm D n i c g))).run Try.prog w = .ok () w := by
    simp [eqGuard, Sem.run_bind, program, Sem.run, hg]
  have h2 : (binOp .neq 33 (.agg (clm D n i c g)) (.agg (clm D n i c g))).run Try.prog w = .ok (.bool false) w := by
    simp [binOp, Sem.run_bind, hE]
  simp only [h1, h2, Result.andThen_ok]
  rfl

/-- A value that reads as what was sent. -/
def SlC (w : World) (v : Value) : Option (Array Value) → Prop
  | none => v = .slice none 0 0
  | some c => ∃ r, v = .slice (some ⟨r, 0, none⟩) 1 1 ∧ w.heap[r]? = some (.cells c 33 (0, 0))
/-- What is sent is a claim. -/
def IsSent : Option (Array Value) → Prop
  | none => True
  | some c => ∃ (D : Array Value) (n i k : Int) (g : Bool), IsDig D ∧ ClmOk n i k ∧ c = clm D n i k g
theorem Sent.slc {w w' : World} {v : Value} {o : Option (Array Value)} (h : Sent w w' v o) : SlC w' v o := by
  cases o with
  | none => exact h
  | some c => obtain ⟨r, _, h2, h3⟩ := h; exact ⟨r, h2, h3⟩
theorem Sent.later {S : Nat → Prop} {w w' w'' : World} {v : Value} {o : Option (Array Value)} (h : Sent w w' v o) (hk : Kept S w' w'') (hS : ∀ k, S k → k < w.heap.size) : SlC w'' v o := by
  cases o with
  | none => exact h
  | some c =>
    obtain ⟨r, h1, h2, h3⟩ := h
    exact ⟨r, h2, by rw [hk.block _ (Array.getElem?_eq_some_iff.1 h3).1 (fun q => by have := hS _ q; omega)]; exact h3⟩
theorem SlC.kept {w w' : World} {v : Value} {o : Option (Array Value)} (h : SlC w v o) (hk : Kept (fun _ => False) w w') : SlC w' v o := by
  cases o with
  | none => exact h
  | some c => obtain ⟨r, h1, h2⟩ := h; exact ⟨r, h1, by rw [hk.block _ (Array.getElem?_eq_some_iff.1 h2).1 not_false]; exact h2⟩

set_option maxHeartbeats 1000000 in
theorem same_ct {w : World} {v1 v2 : Value} {o : Option (Array Value)} (h1 : SlC w v1 o) (h2 : SlC w v2 o) (ho : IsSent o) :
    Calls Try.prog 12 #[v1, v2] w fun e w' => e = .returned (.bool true) ∧ Kept (fun _ => False) w w' := by
  cases o with
  | none =>
    have h1 : v1 = .slice none 0 0 := h1
    have h2 : v2 = .slice none 0 0 := h2
    subst h1; subst h2
    have e0 : ((0 : Int) != 0) = false := rfl
    go_enter Try.func12, Try.ntmps12
    go_wp2_with fail
    go_loopw [5] (fun x wr => x = .int .i64 0 ∧ wr = w) (fun _ _ => 0)
    case atStart => exact ⟨rfl, rfl⟩
    case round =>
      obtain ⟨rfl, rfl⟩ := hrel
      go_wp2_with fail
      go_ret
      exact ⟨rfl, Kept.refl _ _⟩
  | some c =>
    obtain ⟨D, n, i, k, g, hD, hw, rfl⟩ := ho
    obtain ⟨r1, rfl, hr1⟩ := h1
    obtain ⟨r2, rfl, hr2⟩ := h2
    have z1 := (Array.getElem?_eq_some_iff.1 hr1).1
    have z2 := (Array.getElem?_eq_some_iff.1 hr2).1
    have e0 : ((1 : Int) != 1) = false := rfl
    go_enter Try.func12, Try.ntmps12
    go_wp2_with fail
    go_loopw [5] (fun x wr => ∃ j : Nat, j ≤ 1 ∧ x = .int .i64 j ∧ Kept (fun _ => False) w wr) (fun x _ => 1 - (intOf x).toNat)
    case atStart => exact ⟨0, by omega, rfl, Kept.refl _ _⟩
    case round =>
      obtain ⟨j, hj, rfl, hk⟩ := hrel
      by_cases hlt : j < 1
      · obtain rfl : j = 0 := by omega
        go_wp2_with fail
        refine wp_region_held_drew (S := (Kept (fun _ => False) wr)) (by kernel_rfl) ((Kept.refl _ wr).drew) (fun hHeld => ?_)
        refine held_q (v := ?_) (i := 0) rfl (by kernel_rfl) (by kernel_rfl) (by kernel_rfl) (fun _ _ _ h => h) (by rfl) hHeld ?_ ?_
        rotate_left
        · (intro w' hS'; go_simp <;> (with_reducible rfl))
        simp only [Act.put, List.getElem_toArray, List.getElem_cons_zero, List.getElem_cons_succ, List.setIfInBounds_toArray, List.set_cons_zero, List.set_cons_succ]
        refine held_q (v := ?_) (i := 1) rfl (by kernel_rfl) (by kernel_rfl) (by kernel_rfl) (fun _ _ _ h => h) (by rfl) hHeld ?_ ?_
        rotate_left
        · (intro w' hS'; go_simp <;> (with_reducible rfl))
        simp only [Act.put, List.getElem_toArray, List.getElem_cons_zero, List.getElem_cons_succ, List.setIfInBounds_toArray, List.set_cons_zero, List.set_cons_succ]
        refine held_q (v := ?_) (i := 2) rfl (by kernel_rfl) (by kernel_rfl) (by kernel_rfl) (fun _ _ _ h => h) (by rfl) hHeld ?_ ?_
        rotate_left
        · (intro w' hS'; go_simp <;> (with_reducible rfl))
        simp only [Act.put, List.getElem_toArray, List.getElem_cons_zero, List.getElem_cons_succ, List.setIfInBounds_toArray, List.set_cons_zero, List.set_cons_succ]
        refine held_q (i := 3) rfl (by kernel_rfl) (by kernel_rfl) (by kernel_rfl) (fun _ _ _ h => h) (by rfl) hHeld (fun w' hS' => exec_load 33 _ rfl rfl (load_clm (clm_size hD n i k g) (((hk.trans hS').block _ z1 not_false).trans hr1))) ?_
        simp only [Act.put, List.getElem_toArray, List.getElem_cons_zero, List.getElem_cons_succ, List.setIfInBounds_toArray, List.set_cons_zero, List.set_cons_succ]
        refine held_q (v := ?_) (i := 4) rfl (by kernel_rfl) (by kernel_rfl) (by kernel_rfl) (fun _ _ _ h => h) (by rfl) hHeld ?_ ?_
        rotate_left
        · (intro w' hS'; go_simp <;> (with_reducible rfl))
        simp only [Act.put, List.getElem_toArray, List.getElem_cons_zero, List.getElem_cons_succ, List.setIfInBounds_toArray, List.set_cons_zero, List.set_cons_succ]
        refine held_q (v := ?_) (i := 5) rfl (by kernel_rfl) (by kernel_rfl) (by kernel_rfl) (fun _ _ _ h => h) (by rfl) hHeld ?_ ?_
        rotate_left
        · (intro w' hS'; go_simp <;> (with_reducible rfl))
        simp only [Act.put, List.getElem_toArray, List.getElem_cons_zero, List.getElem_cons_succ, List.setIfInBounds_toArray, List.set_cons_zero, List.set_cons_succ]
        refine held_q (v := ?_) (i := 6) rfl (by kernel_rfl) (by kernel_rfl) (by kernel_rfl) (fun _ _ _ h => h) (by rfl) hHeld ?_ ?_
        rotate_left
        · (intro w' hS'; go_simp <;> (with_reducible rfl))
        simp only [Act.put, List.getElem_toArray, List.getElem_cons_zero, List.getElem_cons_succ, List.setIfInBounds_toArray, List.set_cons_zero, List.set_cons_succ]
        refine held_q (i := 7) rfl (by kernel_rfl) (by kernel_rfl) (by kernel_rfl) (fun _ _ _ h => h) (by rfl) hHeld (fun w' hS' => exec_load 33 _ rfl rfl (load_clm (clm_size hD n i k g) (((hk.trans hS').block _ z2 not_false).trans hr2))) ?_
        simp only [Act.put, List.getElem_toArray, List.getElem_cons_zero, List.getElem_cons_succ, List.setIfInBounds_toArray, List.set_cons_zero, List.set_cons_succ]
        refine held_q (i := 8) rfl (by kernel_rfl) (by kernel_rfl) (by kernel_rfl) (fun _ _ _ h => h) (by rfl) hHeld (fun w' hS' => exec_neq_clm hD g hw _ _ rfl rfl rfl) ?_
        simp only [Act.put, List.getElem_toArray, List.getElem_cons_zero, List.getElem_cons_succ, List.setIfInBounds_toArray, List.set_cons_zero, List.set_cons_succ]
        refine wpAnyH_done (by kernel_rfl) ?_ _
        go_wp2_with fail
        go_roundw
        case rel => exact ⟨1, by omega, by go_num, hk.drew⟩
        case measure => simp [intOf]
      · have hj1 : j = 1 := by omega
        subst hj1
        go_wp2_with fail
        go_ret
        exact ⟨rfl, hk⟩
end Go.Proofs.Ytbaehaleigpijaa
