/- The document's book: own. -/
import Derived.Test.YtbaehaleigpijaaP1
namespace Go.Proofs.Ytbaehaleigpijaa
open Go.RowKit
set_option linter.unusedSimpArgs false
set_option linter.unusedVariables false
variable {b0 : Nat}

theorem rangeAt_left {w : World} {b o : Nat} {l1 l2 : List Value} (h : w.rangeAt b o (l1 ++ l2)) : w.rangeAt b o l1 := fun j v hv => h j v (by rw [List.getElem?_append_left (List.getElem?_eq_some_iff.1 hv).1]; exact hv)
theorem rangeAt_stay {S : Nat → Prop} {w w' : World} (h : Kept S w w') {b o : Nat} (hb : b < w.heap.size) (hS : ¬ S b) {l : List Value} (hr : w.rangeAt b o l) : w'.rangeAt b o l := fun j v hv => by
  have := hr j v hv
  unfold World.cell? at this ⊢
  rw [h.block b hb hS]; exact this
theorem load_dig_at {D : Array Value} (hD : IsDig D) {w : World} {b o : Nat} {R : List Value} (h : w.rangeAt b o (D.toList ++ R)) : (Instr.loadAt 31 (.pointer (some ⟨b, o, none⟩))).run Try.prog w = .ok (.agg D) w := by
  have := run_loadAt_mid (P := Try.prog) w b o 31 D.toList _ (rangeAt_left h) Try.underlying31 rfl (by rw [Array.length_toList, hD.size]; kernel_rfl)
  simpa using this
theorem row_form {w : World} {t : TypeId} {z : Nat} {v : Value} {n : Nat} {xs : List Value} (h : w.ownsRow b0 t z v n xs) : ∃ a cap, v = .slice a n cap := by
  rcases h.2 with ⟨rfl, rfl⟩ | ⟨g, cap, cur, rfl, _⟩
  · exact ⟨none, 0, rfl⟩
  · exact ⟨_, cap, rfl⟩
theorem row_le {w : World} {t : TypeId} {z : Nat} {v : Value} {n : Nat} {xs : List Value} (h : w.ownsRow b0 t z v n xs) : n ≤ maxLen := by
  rcases h.2 with ⟨_, rfl⟩ | ⟨g, cap, cur, _, _, _, hn, hc, _⟩
  · exact Nat.zero_le _
  · omega
theorem RbS.lt {w : World} {R : Nat} {s : St} {owns : List OwnE} {oths : List OthE} {vo vt : Value} (h : RbS b0 w R s owns oths vo vt) : R < w.heap.size := (Array.getElem?_eq_some_iff.1 h.blk).1
theorem RbS.cell {w : World} {R : Nat} {s : St} {owns : List OwnE} {oths : List OthE} {vo vt : Value} (h : RbS b0 w R s owns oths vo vt) (j : Nat) (v : Value)
    (hv : (#[Value.int .i64 s.id, .int .u64 s.inc, .int .i64 s.wait, .int .i64 s.ttl, .int .u64 s.count, vo, vt])[j]? = some v) : w.cell? ⟨R, j, none⟩ = some v := by
  rw [cell_of_row w R j _ _ _ h.blk]; exact hv
theorem row_kept {w w' : World} {t : TypeId} {z : Nat} {v : Value} {n : Nat} {xs : List Value} {S : Nat → Prop} (h : w.ownsRow b0 t z v n xs) (hk : Kept S w w') (hS : ∀ k, v.ownBlock = some k → ¬ S k) : w'.ownsRow b0 t z v n xs := by
  refine ⟨h.1, ?_⟩
  rcases h.2 with h0 | ⟨g, cap, cur, rfl, hb, hg, hr⟩
  · exact .inl h0
  · exact .inr ⟨g, cap, cur, rfl, hb, by rw [hk.block g (Array.getElem?_eq_some_iff.1 hg).1 (hS g rfl)]; exact hg, hr⟩
theorem RbS.kept {w w' : World} {R : Nat} {s : St} {owns : List OwnE} {oths : List OthE} {vo vt : Value} (h : RbS b0 w R s owns oths vo vt) (hk : Kept (fun _ => False) w w') : RbS b0 w' R s owns oths vo vt :=
  ⟨by rw [hk.block R h.lt not_false]; exact h.blk, row_kept h.own hk (fun _ _ => not_false), row_kept h.oth hk (fun _ _ => not_false), h.digO, h.digT, h.far⟩

open Classical in
set_option maxHeartbeats 1000000 in
theorem own_ct {w : World} {R : Nat} {s : St} {owns : List OwnE} {oths : List OthE} {vo vt : Value} (h : RbS b0 w R s owns oths vo vt) {D : Array Value} (hD : IsDig D) :
    Calls Try.prog 23 #[.pointer (some ⟨R, 0, none⟩), .agg D] w fun e w' => Kept (fun _ => False) w w' ∧
      ((∃ (j : Nat) (x : OwnE), owns[j]? = some x ∧ x.D = D ∧ e = .returned (.int .i64 j)) ∨ ((∀ (j : Nat) (x : OwnE), owns[j]? = some x → x.D ≠ D) ∧ e = .returned (.int .i64 (-1)))) := by
  have k1 : Kept (fun _ => False) w (w.alloc (.cells D 31)) := (Kept.refl _ w).alloc _
  have h1 := h.kept k1
  have hx := heap_last w (.cells D 31)
  have zx : w.heap.size < (w.alloc (.cells D 31)).heap.size := by simp
  obtain ⟨ao, cap, hvo⟩ := row_form h.own
  have hml := row_le h.own
  simp only [maxLen] at hml
  go_enter Try.func23, Try.ntmps23
  go_wp2_with fail
  generalize w.alloc (.cells D 31) = W at k1 h1 hx zx ⊢
  generalize w.heap.size = X at hx zx ⊢
  subst hvo
  go_loopw [5] (fun x wr => ∃ k : Nat, k ≤ owns.length ∧ x = .int .i64 k ∧ Kept (fun _ => False) W wr ∧ ∀ (j : Nat) (x : OwnE), j < k → owns[j]? = some x → x.D ≠ D) (fun x _ => owns.length - (intOf x).toNat)
  case atStart => exact ⟨0, by omega, rfl, Kept.refl _ _, by intro j x hj; omega⟩
  case round =>
    obtain ⟨k, hk, rfl, hkr, hno⟩ := hrel
    have HN := Lib.hid hno
    clear hno
    have hr := h1.kept hkr
    have c5 := hr.cell 5 _ rfl
    by_cases hlt : k < owns.length
    · have hk' : owns[k]? = some owns[k] := List.getElem?_eq_getElem hlt
      generalize owns[k] = x at hk'
      have hDx := h.digO x (List.mem_of_getElem? hk')
      obtain ⟨g, cap', hv, hg, _, hra⟩ := row_at hr.own (fun e he => OwnE.len (h.digO e he)) hk'
      injection hv with hv1 hv2 hv3
      subst hv1
      have cs : ∀ w', Kept (fun _ => False) wr w' → w'.cell? ⟨R, 5, none⟩ = some (.slice (some ⟨g, 0, none⟩) owns.length cap) := fun w' q => (hr.kept q).cell 5 _ rfl
      have hld : ∀ {w'}, Kept (fun _ => False) wr w' → (Instr.loadAt 31 (.pointer (some ⟨g, k * 37, none⟩))).run Try.prog w' = .ok (.agg x.D) w' := fun q => by
        have := rangeAt_stay q hg not_false hra
        simp only [OwnE.cells, Array.toList_append, List.append_assoc] at this
        exact load_dig_at hDx this
      go_wp2_with fail
      refine wp_region_held_drew (S := (Kept (fun _ => False) wr)) (by kernel_rfl) ((Kept.refl _ wr).drew) (fun hHeld => ?_)
      refine held_q (v := ?_) (i := 0) rfl (by kernel_rfl) (by kernel_rfl) (by kernel_rfl) (fun _ _ _ h => h) (by rfl) hHeld ?_ ?_
      rotate_left
      · (intro w' hS'; go_simp <;> (with_reducible rfl))
      simp only [Act.put, List.getElem_toArray, List.getElem_cons_zero, List.getElem_cons_succ, List.setIfInBounds_toArray, List.set_cons_zero, List.set_cons_succ]
      refine held_q (v := ?_) (i := 1) rfl (by kernel_rfl) (by kernel_rfl) (by kernel_rfl) (fun _ _ _ h => h) (by rfl) hHeld ?_ ?_
      rotate_left
      · (intro w' hS'; go_simp <;> (with_reducible rfl))
      simp only [Act.put, List.getElem_toArray, List.getElem_cons_zero, List.getElem_cons_succ, List.setIfInBounds_toArray, List.set_cons_zero, List.set_cons_succ]
      refine held_q (v := ?_) (i := 2) rfl (by kernel_rfl) (by kernel_rfl) (by kernel_rfl) (fun _ _ _ h => h) (by rfl) hHeld ?_ ?_
      rotate_left
      · (intro w' hS'; go_simp <;> (with_reducible rfl))
      simp only [Act.put, List.getElem_toArray, List.getElem_cons_zero, List.getElem_cons_succ, List.setIfInBounds_toArray, List.set_cons_zero, List.set_cons_succ]
      refine held_q (v := ?_) (i := 3) rfl (by kernel_rfl) (by kernel_rfl) (by kernel_rfl) (fun _ _ _ h => h) (by rfl) hHeld ?_ ?_
      rotate_left
      · (intro w' hS'; go_simp <;> (with_reducible rfl))
      simp only [Act.put, List.getElem_toArray, List.getElem_cons_zero, List.getElem_cons_succ, List.setIfInBounds_toArray, List.set_cons_zero, List.set_cons_succ]
      refine held_q (v := ?_) (i := 4) rfl (by kernel_rfl) (by kernel_rfl) (by kernel_rfl) (fun _ _ _ h => h) (by rfl) hHeld ?_ ?_
      rotate_left
      · (intro w' hS'; go_simp <;> (with_reducible rfl))
      simp only [Act.put, List.getElem_toArray, List.getElem_cons_zero, List.getElem_cons_succ, List.setIfInBounds_toArray, List.set_cons_zero, List.set_cons_succ]
      refine held_q (v := ?_) (i := 5) rfl (by kernel_rfl) (by kernel_rfl) (by kernel_rfl) (fun _ _ _ h => h) (by rfl) hHeld ?_ ?_
      rotate_left
      · (intro w' hS'; go_simp <;> (with_reducible rfl))
      simp only [Act.put, List.getElem_toArray, List.getElem_cons_zero, List.getElem_cons_succ, List.setIfInBounds_toArray, List.set_cons_zero, List.set_cons_succ]
      refine held_q (v := ?_) (i := 6) rfl (by kernel_rfl) (by kernel_rfl) (by kernel_rfl) (fun _ _ _ h => h) (by rfl) hHeld ?_ ?_
      rotate_left
      · (intro w' hS'; go_simp <;> (with_reducible rfl))
      simp only [Act.put, List.getElem_toArray, List.getElem_cons_zero, List.getElem_cons_succ, List.setIfInBounds_toArray, List.set_cons_zero, List.set_cons_succ]
      refine held_q (v := ?_) (i := 7) rfl (by kernel_rfl) (by kernel_rfl) (by kernel_rfl) (fun _ _ _ h => h) (by rfl) hHeld ?_ ?_
      rotate_left
      · (intro w' hS'; go_simp <;> (with_reducible rfl))
      simp only [Act.put, List.getElem_toArray, List.getElem_cons_zero, List.getElem_cons_succ, List.setIfInBounds_toArray, List.set_cons_zero, List.set_cons_succ]
      refine held_q (i := 8) rfl (by kernel_rfl) (by kernel_rfl) (by kernel_rfl) (fun _ _ _ h => h) (by rfl) hHeld (fun w' hS' => exec_load 31 _ rfl rfl (hld hS')) ?_
      simp only [Act.put, List.getElem_toArray, List.getElem_cons_zero, List.getElem_cons_succ, List.setIfInBounds_toArray, List.set_cons_zero, List.set_cons_succ]
      refine held_q (i := 9) rfl (by kernel_rfl) (by kernel_rfl) (by kernel_rfl) (fun _ _ _ h => h) (by rfl) hHeld (fun w' hS' => exec_load 31 _ rfl rfl (load_dig hD (((hkr.trans hS').block _ zx not_false).trans hx))) ?_
      simp only [Act.put, List.getElem_toArray, List.getElem_cons_zero, List.getElem_cons_succ, List.setIfInBounds_toArray, List.set_cons_zero, List.set_cons_succ]
      refine held_q (i := 10) rfl (by kernel_rfl) (by kernel_rfl) (by kernel_rfl) (fun _ _ _ h => h) (by rfl) hHeld (fun w' hS' => exec_eql_dig hDx hD _ _ rfl rfl rfl) ?_
      simp only [Act.put, List.getElem_toArray, List.getElem_cons_zero, List.getElem_cons_succ, List.setIfInBounds_toArray, List.set_cons_zero, List.set_cons_succ]
      refine wpAnyH_done (by kernel_rfl) ?_ _
      by_cases e : x.D = D
      · rw [decide_eq_true e]
        go_wp2_with fail
        go_ret
        exact ⟨k1.trans hkr.drew, .inl ⟨k, x, hk', e, rfl⟩⟩
      · rw [decide_eq_false e]
        go_wp2_with fail
        go_roundw
        case rel => exact ⟨k + 1, by omega, by go_num, hkr.drew, fun j y hj hy => by
          by_cases q : j = k
          · subst q; rw [hk'] at hy; injection hy with hy; subst hy; exact e
          · exact HN.out j y (by omega) hy⟩
        case measure => simp [intOf]; omega
    · have hkk : k = owns.length := by omega
      subst hkk
      go_wp2_with fail
      go_ret
      exact ⟨k1.trans hkr, .inr ⟨fun j y hy => HN.out j y (List.getElem?_eq_some_iff.1 hy).1 hy, rfl⟩⟩
end Go.Proofs.Ytbaehaleigpijaa
