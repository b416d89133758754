/- A drawn region whose last operation waits for all others: a condition that holds up to it, and is not asked behind it. -/
import Derived.Test.YtlheboafhgmbpaaDoorLF
namespace Go.Proofs.YtlheboafhgmbpaaDoor
open Go.RowKit
set_option maxRecDepth 100000
set_option linter.unusedSimpArgs false
set_option linter.unusedVariables false

section
variable {P : Program} {ops : Array Oper} {Q : Exit → Act → World → Prop} {md : Region.Mode} {S : World → Prop} {z : Nat}
/-- Operation z waits for operation i. -/
def waitsFor (md : Region.Mode) (ops : Array Oper) (z i : Nat) : Bool :=
  match ops[z]? with
  | none => false
  | some o => o.after.any fun e => Region.binds md e && e.on == i
/-- Whatever order is drawn from here on; S holds behind each operation but z. -/
def TailHeld (P : Program) (md : Region.Mode) (ops : Array Oper) (Q : Exit → Act → World → Prop) (S : World → Prop) (z : Nat) : Nat → Array Bool → Act → World → Prop
  | 0, l, a, w => Region.ready md ops l = [] ∧ Q .normal a w
  | n + 1, l, a, w => (Region.ready md ops l = [] → Q .normal a w) ∧
      ∀ j ∈ Region.ready md ops l, wpOp P ops Q j (fun a' w' => (j ≠ z → S w') ∧ TailHeld P md ops Q S z n (l.setIfInBounds j true) a' w') a w
theorem TailHeld.any : ∀ (n : Nat) (l : Array Bool) (a : Act) (w : World), TailHeld P md ops Q S z n l a w → wpAny P md ops Q n l a w
  | 0, _, _, _, h => h
  | n + 1, _, _, _, h => ⟨h.1, fun j hj => wpOp_mono (fun a' w' h' => TailHeld.any n _ a' w' h'.2) (h.2 j hj)⟩
theorem TailHeld.quiet {i : Nat} {oi : Oper} {v : Value} (hi : ops[i]? = some oi) (hsel : ∀ (j : Nat) (o : Oper) cs b, ops[j]? = some o → o.op ≠ .select cs b)
    (hQ : ∀ c a w, Q (.panic c) (a.put oi.dst v) w → Q (.panic c) a w) (hz : waitsFor md ops z i = true) (hiz : i ≠ z) :
    ∀ (n : Nat) (l : Array Bool) (a : Act) (w : World),
      (∀ j oj, ops[j]? = some oj → j ≠ i → l.getD j true = false → (∀ e ∈ oj.after, Region.binds md e = true → e.on ≠ i) → oi.apart ops oj = true) →
      i ∈ Region.ready md ops l → YieldsIf P ops S oi v a → S w →
      TailHeld P md ops Q S z n (l.setIfInBounds i true) (a.put oi.dst v) w → TailHeld P md ops Q S z (n + 1) l a w := by
  intro n
  induction n with
  | zero =>
    intro l a w _ hr hy hS H
    constructor
    · intro e; rw [e] at hr; cases hr
    · intro j hj
      rcases Decidable.em (j = i) with rfl | hji
      · exact hy.wpOp hi hS ⟨fun _ => hS, H⟩
      · exact absurd (ready_mono hj hji) (by rw [H.1]; simp)
  | succ n ih =>
    intro l a w hfree hr hy hS H
    constructor
    · intro e; rw [e] at hr; cases hr
    · intro j hj
      rcases Decidable.em (j = i) with rfl | hji
      · exact hy.wpOp hi hS ⟨fun _ => hS, H⟩
      · obtain ⟨hun, oj, hoj, hall⟩ := mem_ready.1 hj
        have hno : ∀ e ∈ oj.after, Region.binds md e = true → e.on ≠ i := by
          intro e he hb q
          have h1 := hall e he hb
          have h0 := (mem_ready.1 hr).1
          rw [q] at h1
          by_cases hs : i < l.size
          · simp [hs] at h0 h1; rw [h0] at h1; cases h1
          · simp [Array.getElem?_eq_none (Nat.not_lt.1 hs)] at h1
        have hjz : j ≠ z := by
          rintro rfl
          unfold waitsFor at hz
          rw [hoj] at hz
          obtain ⟨k, hk, hz⟩ := Array.any_eq_true.1 hz
          simp only [Bool.and_eq_true, beq_iff_eq] at hz
          exact hno _ (Array.getElem_mem hk) hz.1 hz.2
        have step := wpOp_putIf hoj (hfree j oj hoj hji hun hno) (fun cs b => hsel i oi cs b hi) (fun cs b => hsel j oj cs b hoj) hQ hy (H.2 j (ready_mono hj hji))
        refine wpOp_mono (fun a' w' ⟨hy', hS', h'⟩ => ⟨hS', ih (l.setIfInBounds j true) a' w' ?_ (ready_mono hr (Ne.symm hji)) hy' (hS' hjz) ?_⟩) step
        · intro k ok hk hki hku hkn
          refine hfree k ok hk hki ?_ hkn
          rcases Decidable.em (j = k) with rfl | hjk
          · exact hun
          · rw [getD_set_ne true hjk] at hku; exact hku
        · rw [Array.setIfInBounds_comm _ _ hji]; exact h'
theorem tail_q {i : Nat} {oi : Oper} {v : Value} {n : Nat} {l : Array Bool} {a : Act} {w : World} (hi : ops[i]? = some oi)
    (hs : Region.noSelect ops = true) (hf : Region.free md ops l i = true) (hr : (Region.ready md ops l).contains i = true) (hz : waitsFor md ops z i = true) (hiz : i ≠ z)
    (hQ : ∀ c a w, Q (.panic c) (a.put oi.dst v) w → Q (.panic c) a w) (hw : Region.wanted oi (yielded ops a.tmps) = true) (hS : S w)
    (hy : ∀ w, S w → (execOp a.eval oi).run P w = .ok (.value v) w)
    (h : TailHeld P md ops Q S z n (l.setIfInBounds i true) (a.put oi.dst v) w) : TailHeld P md ops Q S z (n + 1) l a w :=
  TailHeld.quiet hi (Region.noSelect_spec hs) hQ hz hiz n l a w (Region.free_spec hi hf) (by simpa using hr) (.inl ⟨hw, hy⟩) hS h
theorem tail_no {i : Nat} {oi : Oper} {n : Nat} {l : Array Bool} {a : Act} {w : World} (hi : ops[i]? = some oi)
    (hs : Region.noSelect ops = true) (hf : Region.free md ops l i = true) (hr : (Region.ready md ops l).contains i = true) (hz : waitsFor md ops z i = true) (hiz : i ≠ z)
    (hQ : ∀ c a w, Q (.panic c) (a.put oi.dst undef) w → Q (.panic c) a w) (hw : Region.wanted oi (yielded ops a.tmps) = false) (hS : S w)
    (h : TailHeld P md ops Q S z n (l.setIfInBounds i true) (a.put oi.dst undef) w) : TailHeld P md ops Q S z (n + 1) l a w :=
  TailHeld.quiet hi (Region.noSelect_spec hs) hQ hz hiz n l a w (Region.free_spec hi hf) (by simpa using hr) (.inr ⟨hw, rfl⟩) hS h
theorem tail_ready {i : Nat} {o : Oper} {n : Nat} {l : Array Bool} {a : Act} {w : World} (hr : Region.ready md ops l = [i]) (ho : ops[i]? = some o)
    (h : wpOp P ops Q i (fun a' w' => (i ≠ z → S w') ∧ TailHeld P md ops Q S z n (l.setIfInBounds i true) a' w') a w) : TailHeld P md ops Q S z (n + 1) l a w :=
  ⟨fun e => (by rw [hr] at e; cases e), fun j hj => by rw [hr, List.mem_singleton] at hj; subst hj; exact h⟩
theorem tail_v {i : Nat} {o : Oper} {v : Value} {n : Nat} {l : Array Bool} {a : Act} {w w1 : World} (hr : Region.ready md ops l = [i]) (ho : ops[i]? = some o)
    (hw : Region.wanted o (yielded ops a.tmps) = true) (hrun : (execOp a.eval o).run P w = .ok (.value v) w1) (hS : S w1)
    (h : S w1 → TailHeld P md ops Q S z n (l.setIfInBounds i true) (a.put o.dst v) w1) : TailHeld P md ops Q S z (n + 1) l a w := by
  refine tail_ready hr ho ?_
  unfold wpOp
  simp only [ho, hw, if_true, Oper.wp, hrun, Oper.upon]
  exact .inl ⟨fun _ => hS, h hS⟩
theorem tail_s {i : Nat} {o : Oper} {n : Nat} {l : Array Bool} {a : Act} {w w1 : World} (hr : Region.ready md ops l = [i]) (ho : ops[i]? = some o)
    (hw : Region.wanted o (yielded ops a.tmps) = true) (hrun : (execOp a.eval o).run P w = .ok .skip w1) (hS : S w1)
    (h : S w1 → TailHeld P md ops Q S z n (l.setIfInBounds i true) (a.put o.dst undef) w1) : TailHeld P md ops Q S z (n + 1) l a w := by
  refine tail_ready hr ho ?_
  unfold wpOp
  simp only [ho, hw, if_true, Oper.wp, hrun, Oper.upon]
  exact .inl ⟨fun _ => hS, h hS⟩
theorem tail_end {o : Oper} {n : Nat} {l : Array Bool} {a : Act} {w w1 : World} (hr : Region.ready md ops l = [z]) (ho : ops[z]? = some o)
    (hw : Region.wanted o (yielded ops a.tmps) = true) (hrun : (execOp a.eval o).run P w = .ok .skip w1)
    (hd : Region.ready md ops (l.setIfInBounds z true) = []) (h : Q .normal (a.put o.dst undef) w1) : TailHeld P md ops Q S z (n + 1) l a w := by
  refine tail_ready hr ho ?_
  unfold wpOp
  simp only [ho, hw, if_true, Oper.wp, hrun, Oper.upon]
  refine .inl ⟨fun e => absurd rfl e, ?_⟩
  cases n with
  | zero => exact ⟨hd, h⟩
  | succ n => exact ⟨fun _ => h, by rw [hd]; simp⟩
theorem tail_drew {id : Nat} {a : Act} {w : World} (z : Nat) (S : World → Prop) (hm : P.follows .mixedOrders = true) (hS : S w.drew)
    (h : S w.drew → TailHeld P .any ops Q S z ops.size (Array.replicate ops.size false) a w.drew) : (Code.region id ops true).wp P Q a w :=
  wp_region_any hm (TailHeld.any _ _ _ _ (h hS))
theorem tail_c {i : Nat} {o : Oper} {f : FuncId} {args : Array Value} {n : Nat} {l : Array Bool} {a : Act} {w : World} (hr : Region.ready md ops l = [i]) (ho : ops[i]? = some o)
    (hw : Region.wanted o (yielded ops a.tmps) = true) (hrun : (execOp a.eval o).run P w = .ok (.enter f args) w) {R : Ending → World → Prop} (hc : Calls P f args w R)
    (h : ∀ e w', R e w' → ∃ v, e = .returned v ∧ S w' ∧ TailHeld P md ops Q S z n (l.setIfInBounds i true) (a.put o.dst v) w') : TailHeld P md ops Q S z (n + 1) l a w := by
  refine tail_ready hr ho ?_
  unfold wpOp
  simp only [ho, hw, if_true, Oper.wp, hrun]
  refine .inl (hc.mono fun e w' hR => ?_)
  obtain ⟨v, rfl, hS, hn⟩ := h e w' hR
  exact ⟨fun _ => hS, hn⟩
end
theorem exec_b1 {P : Program} {o : Oper} {a : Act} {w w1 : World} {p v : Value} (t : TypeId) (x : Operand) (ho : o.op = .call { callee := .builtin .unsafeSliceData, args := #[x], argTypes := #[t] }) (hx : a.eval x = p)
    (h : (Builtin.unsafeSliceData_ #[t] o.type #[p]).run P w = .ok v w1) : (execOp a.eval o).run P w = .ok (.value v) w1 := by
  unfold execOp
  simp only [ho, resolve, invoke, builtin, Sem.run_bind, Sem.run_pure, Result.andThen_ok]
  simp only [List.map_toArray, List.map_cons, List.map_nil, hx, h, Result.andThen_ok]
theorem exec_b2 {P : Program} {o : Oper} {a : Act} {w w1 : World} {p q v : Value} (t u : TypeId) (x y : Operand) (ho : o.op = .call { callee := .builtin .unsafeString, args := #[x, y], argTypes := #[t, u] }) (hx : a.eval x = p) (hy : a.eval y = q)
    (h : (Builtin.unsafeString_ #[t, u] o.type #[p, q]).run P w = .ok v w1) : (execOp a.eval o).run P w = .ok (.value v) w1 := by
  unfold execOp
  simp only [ho, resolve, invoke, builtin, Sem.run_bind, Sem.run_pure, Result.andThen_ok]
  simp only [List.map_toArray, List.map_cons, List.map_nil, hx, hy, h, Result.andThen_ok]
theorem Kept.freeze {S : Nat → Prop} {a w : World} (h : Kept S a w) {p : Addr} (hp : p.block < a.heap.size → S p.block) (n : Nat) : Kept S a (w.freeze p n) := by
  refine h.trans' (T := fun k => k = p.block) ?_ (fun k hk e => by subst e; exact hp hk)
  unfold World.freeze
  split
  · exact Kept.refl _ w
  · exact ⟨rfl, rfl, rfl, by simp, fun k _ hs => by
      simp only [Array.getElem?_modify]
      rw [if_neg (fun e => hs e.symm)]⟩
set_option maxRecDepth 100000 in
set_option maxHeartbeats 2000000 in
theorem string_ct {w : World} {B R : Nat} {s p b ws : Value} {l : List UInt8} (hR : w.heap[R]? = some (.cells #[s, p, b, ws] 47 (0, 0))) (hb : w.ownsRow B 5 1 b l.length (bv l)) (hn : l = [] → b = .slice none 0 0) :
    Calls Tryd.prog 29 #[.pointer (some ⟨R, 1, none⟩)] w fun e w' => e = .returned (str l) ∧ Kept (fun k => b.ownBlock = some k) w w' := by
  have hRl : R < w.heap.size := (Array.getElem?_eq_some_iff.1 hR).1
  by_cases hl : l = []
  · subst hl
    obtain rfl := hn rfl
    have c2 : ∀ w', Kept (fun _ => False) w w' → w'.cell? ⟨R, 2, none⟩ = some (.slice none 0 0) := fun w' q => by rw [q.cell (p := ⟨R, 2, none⟩) hRl not_false, cell_of_row _ _ _ _ _ _ hR]; rfl
    have us := fun w' => Lib.run_unsafeString_none (P := Tryd.prog) w' 75 3 9 none
    have hs : str ([] : List UInt8) = .string .empty := rfl
    rw [hs]
    go_enter Tryd.func29, Tryd.ntmps29
    go_wp2_with fail
    refine wp_region_held_drew (S := (Kept (fun _ => False) w)) (by kernel_rfl) ((Kept.refl _ w).drew) (fun hHeld => ?_)
    refine held_q (v := ?_) (i := 0) rfl (by kernel_rfl) (by kernel_rfl) (by kernel_rfl) (fun _ _ _ h => h) (by rfl) hHeld ?_ ?_
    rotate_left
    · (intro w' hS'; go_simp <;> (with_reducible rfl))
    simp only [Act.put, List.getElem_toArray, List.getElem_cons_zero, List.getElem_cons_succ, List.setIfInBounds_toArray, List.set_cons_zero, List.set_cons_succ]
    refine held_q (v := ?_) (i := 1) rfl (by kernel_rfl) (by kernel_rfl) (by kernel_rfl) (fun _ _ _ h => h) (by rfl) hHeld ?_ ?_
    rotate_left
    · (intro w' hS'; go_simp <;> (with_reducible rfl))
    simp only [Act.put, List.getElem_toArray, List.getElem_cons_zero, List.getElem_cons_succ, List.setIfInBounds_toArray, List.set_cons_zero, List.set_cons_succ]
    refine held_q (v := ?_) (i := 2) rfl (by kernel_rfl) (by kernel_rfl) (by kernel_rfl) (fun _ _ _ h => h) (by rfl) hHeld ?_ ?_
    rotate_left
    · (intro w' hS'; go_simp <;> (with_reducible rfl))
    simp only [Act.put, List.getElem_toArray, List.getElem_cons_zero, List.getElem_cons_succ, List.setIfInBounds_toArray, List.set_cons_zero, List.set_cons_succ]
    refine held_q (v := ?_) (i := 3) rfl (by kernel_rfl) (by kernel_rfl) (by kernel_rfl) (fun _ _ _ h => h) (by rfl) hHeld ?_ ?_
    rotate_left
    · (intro w' hS'; go_simp <;> (with_reducible rfl))
    simp only [Act.put, List.getElem_toArray, List.getElem_cons_zero, List.getElem_cons_succ, List.setIfInBounds_toArray, List.set_cons_zero, List.set_cons_succ]
    refine held_q (i := 4) rfl (by kernel_rfl) (by kernel_rfl) (by kernel_rfl) (fun _ _ _ h => h) (by rfl) hHeld (fun w' hS' => exec_b1 22 _ rfl rfl rfl) ?_
    simp only [Act.put, List.getElem_toArray, List.getElem_cons_zero, List.getElem_cons_succ, List.setIfInBounds_toArray, List.set_cons_zero, List.set_cons_succ]
    refine held_q (v := ?_) (i := 5) rfl (by kernel_rfl) (by kernel_rfl) (by kernel_rfl) (fun _ _ _ h => h) (by rfl) hHeld ?_ ?_
    rotate_left
    · (intro w' hS'; go_simp <;> (with_reducible rfl))
    simp only [Act.put, List.getElem_toArray, List.getElem_cons_zero, List.getElem_cons_succ, List.setIfInBounds_toArray, List.set_cons_zero, List.set_cons_succ]
    refine held_q (v := ?_) (i := 6) rfl (by kernel_rfl) (by kernel_rfl) (by kernel_rfl) (fun _ _ _ h => h) (by rfl) hHeld ?_ ?_
    rotate_left
    · (intro w' hS'; go_simp <;> (with_reducible rfl))
    simp only [Act.put, List.getElem_toArray, List.getElem_cons_zero, List.getElem_cons_succ, List.setIfInBounds_toArray, List.set_cons_zero, List.set_cons_succ]
    refine held_q (v := ?_) (i := 7) rfl (by kernel_rfl) (by kernel_rfl) (by kernel_rfl) (fun _ _ _ h => h) (by rfl) hHeld ?_ ?_
    rotate_left
    · (intro w' hS'; go_simp <;> (with_reducible rfl))
    simp only [Act.put, List.getElem_toArray, List.getElem_cons_zero, List.getElem_cons_succ, List.setIfInBounds_toArray, List.set_cons_zero, List.set_cons_succ]
    refine held_q (v := ?_) (i := 8) rfl (by kernel_rfl) (by kernel_rfl) (by kernel_rfl) (fun _ _ _ h => h) (by rfl) hHeld ?_ ?_
    rotate_left
    · (intro w' hS'; go_simp <;> (with_reducible rfl))
    simp only [Act.put, List.getElem_toArray, List.getElem_cons_zero, List.getElem_cons_succ, List.setIfInBounds_toArray, List.set_cons_zero, List.set_cons_succ]
    refine held_q (v := ?_) (i := 9) rfl (by kernel_rfl) (by kernel_rfl) (by kernel_rfl) (fun _ _ _ h => h) (by rfl) hHeld ?_ ?_
    rotate_left
    · (intro w' hS'; go_simp <;> (with_reducible rfl))
    simp only [Act.put, List.getElem_toArray, List.getElem_cons_zero, List.getElem_cons_succ, List.setIfInBounds_toArray, List.set_cons_zero, List.set_cons_succ]
    refine held_q (i := 10) rfl (by kernel_rfl) (by kernel_rfl) (by kernel_rfl) (fun _ _ _ h => h) (by rfl) hHeld (fun w' hS' => exec_b2 75 3 _ _ rfl rfl rfl (us w')) ?_
    simp only [Act.put, List.getElem_toArray, List.getElem_cons_zero, List.getElem_cons_succ, List.setIfInBounds_toArray, List.set_cons_zero, List.set_cons_succ]
    refine held_q (v := ?_) (i := 11) rfl (by kernel_rfl) (by kernel_rfl) (by kernel_rfl) (fun _ _ _ h => h) (by rfl) hHeld ?_ ?_
    rotate_left
    · (intro w' hS'; go_simp <;> (with_reducible rfl))
    simp only [Act.put, List.getElem_toArray, List.getElem_cons_zero, List.getElem_cons_succ, List.setIfInBounds_toArray, List.set_cons_zero, List.set_cons_succ]
    refine wpAnyH_done (by kernel_rfl) ?_ _
    go_wp2_with fail
    go_ret
    exact ⟨rfl, hHeld.mono (fun _ _ h => h.elim)⟩
  · obtain ⟨g, cap, cur, rfl, hBg, hg, hnc, hm, hsz, ht⟩ : ∃ (g cap : Nat) (cur : Array Value), b = .slice (some ⟨g, 0, none⟩) l.length cap ∧ B ≤ g ∧ w.heap[g]? = some (.cells cur 5 (0, 0)) ∧ l.length ≤ cap ∧ cap ≤ maxLen ∧ cur.size = cap * 1 ∧ cur.toList.take (l.length * 1) = bv l := by
      rcases hb.2 with ⟨_, h0⟩ | ⟨g, cap, cur, r⟩
      · exact absurd (List.eq_nil_of_length_eq_zero h0) hl
      · exact ⟨g, cap, cur, r⟩
    have hl1 : 0 < l.length := List.length_pos_iff.2 hl
    simp only [maxLen] at hm
    have hgl : g < w.heap.size := (Array.getElem?_eq_some_iff.1 hg).1
    have hgR : g ≠ R := fun e => by subst e; rw [hg] at hR; injection hR with hR; injection hR with _ hR; exact absurd hR (by decide)
    have c2 : ∀ w', Kept (fun k => k = g) w w' → w'.cell? ⟨R, 2, none⟩ = some (.slice (some ⟨g, 0, none⟩) l.length cap) := fun w' q => by rw [q.cell (p := ⟨R, 2, none⟩) hRl (fun e => hgR e.symm), cell_of_row _ _ _ _ _ _ hR]; rfl
    have hcs : ∀ w' : World, w'.heap[g]? = some (.cells cur 5 (0, 0)) → ∀ j x, l[j]? = some x → w'.cell? ((⟨g, 0, none⟩ : Addr).add j) = some (.int .u8 x.toNat) := fun w' q j x hx => by
      have hj := (List.getElem?_eq_some_iff.1 hx).1
      rw [Addr.add_mid, Nat.zero_add, cell_of_row _ _ _ _ _ _ q]
      have e : (bv l)[j]? = some (.int .u8 (x.toNat : Int)) := by simp [bv, hx]
      rw [← ht, Nat.mul_one, List.getElem?_take_of_lt hj] at e
      simpa using e
    have us : ∀ w' : World, w'.heap[g]? = some (.cells cur 5 (0, 0)) → (Builtin.unsafeString_ #[75, 3] 9 #[.pointer (some ⟨g, 0, none⟩), .int .i64 l.length]).run Tryd.prog w' = .ok (str l) (w'.freeze ⟨g, 0, none⟩ l.length) := fun w' q =>
      Lib.run_unsafeString_row w' 75 3 9 5 Tryd.underlying75 (by kernel_rfl) g cur.size (by simp [World.shape?, q]) l hl (by omega) (by omega) (hcs w' q)
    have sd : ∀ w' : World, (Builtin.unsafeSliceData_ #[22] 75 #[.slice (some ⟨g, 0, none⟩) l.length cap]).run Tryd.prog w' = .ok (.pointer (some ⟨g, 0, none⟩)) w' := fun w' => Lib.run_unsafeSliceData_row w' _ _ _ _ _ (by omega)
    clear hcs hb hn
    go_enter Tryd.func29, Tryd.ntmps29
    go_wp2_with fail
    refine wp_region_held_drew (S := (Kept (fun k => k = g) w)) (by kernel_rfl) ((Kept.refl _ w).drew) (fun hHeld => ?_)
    refine held_q (v := ?_) (i := 0) rfl (by kernel_rfl) (by kernel_rfl) (by kernel_rfl) (fun _ _ _ h => h) (by rfl) hHeld ?_ ?_
    rotate_left
    · (intro w' hS'; go_simp <;> (with_reducible rfl))
    simp only [Act.put, List.getElem_toArray, List.getElem_cons_zero, List.getElem_cons_succ, List.setIfInBounds_toArray, List.set_cons_zero, List.set_cons_succ]
    refine held_q (v := ?_) (i := 1) rfl (by kernel_rfl) (by kernel_rfl) (by kernel_rfl) (fun _ _ _ h => h) (by rfl) hHeld ?_ ?_
    rotate_left
    · (intro w' hS'; go_simp <;> (with_reducible rfl))
    simp only [Act.put, List.getElem_toArray, List.getElem_cons_zero, List.getElem_cons_succ, List.setIfInBounds_toArray, List.set_cons_zero, List.set_cons_succ]
    refine held_q (v := ?_) (i := 2) rfl (by kernel_rfl) (by kernel_rfl) (by kernel_rfl) (fun _ _ _ h => h) (by rfl) hHeld ?_ ?_
    rotate_left
    · (intro w' hS'; go_simp <;> (with_reducible rfl))
    simp only [Act.put, List.getElem_toArray, List.getElem_cons_zero, List.getElem_cons_succ, List.setIfInBounds_toArray, List.set_cons_zero, List.set_cons_succ]
    refine held_q (v := ?_) (i := 3) rfl (by kernel_rfl) (by kernel_rfl) (by kernel_rfl) (fun _ _ _ h => h) (by rfl) hHeld ?_ ?_
    rotate_left
    · (intro w' hS'; go_simp <;> (with_reducible rfl))
    simp only [Act.put, List.getElem_toArray, List.getElem_cons_zero, List.getElem_cons_succ, List.setIfInBounds_toArray, List.set_cons_zero, List.set_cons_succ]
    refine held_q (i := 4) rfl (by kernel_rfl) (by kernel_rfl) (by kernel_rfl) (fun _ _ _ h => h) (by rfl) hHeld (fun w' hS' => exec_b1 22 _ rfl rfl (sd w')) ?_
    simp only [Act.put, List.getElem_toArray, List.getElem_cons_zero, List.getElem_cons_succ, List.setIfInBounds_toArray, List.set_cons_zero, List.set_cons_succ]
    refine held_q (v := ?_) (i := 5) rfl (by kernel_rfl) (by kernel_rfl) (by kernel_rfl) (fun _ _ _ h => h) (by rfl) hHeld ?_ ?_
    rotate_left
    · (intro w' hS'; go_simp <;> (with_reducible rfl))
    simp only [Act.put, List.getElem_toArray, List.getElem_cons_zero, List.getElem_cons_succ, List.setIfInBounds_toArray, List.set_cons_zero, List.set_cons_succ]
    refine held_q (v := ?_) (i := 6) rfl (by kernel_rfl) (by kernel_rfl) (by kernel_rfl) (fun _ _ _ h => h) (by rfl) hHeld ?_ ?_
    rotate_left
    · (intro w' hS'; go_simp <;> (with_reducible rfl))
    simp only [Act.put, List.getElem_toArray, List.getElem_cons_zero, List.getElem_cons_succ, List.setIfInBounds_toArray, List.set_cons_zero, List.set_cons_succ]
    refine held_q (v := ?_) (i := 7) rfl (by kernel_rfl) (by kernel_rfl) (by kernel_rfl) (fun _ _ _ h => h) (by rfl) hHeld ?_ ?_
    rotate_left
    · (intro w' hS'; go_simp <;> (with_reducible rfl))
    simp only [Act.put, List.getElem_toArray, List.getElem_cons_zero, List.getElem_cons_succ, List.setIfInBounds_toArray, List.set_cons_zero, List.set_cons_succ]
    refine held_q (v := ?_) (i := 8) rfl (by kernel_rfl) (by kernel_rfl) (by kernel_rfl) (fun _ _ _ h => h) (by rfl) hHeld ?_ ?_
    rotate_left
    · (intro w' hS'; go_simp <;> (with_reducible rfl))
    simp only [Act.put, List.getElem_toArray, List.getElem_cons_zero, List.getElem_cons_succ, List.setIfInBounds_toArray, List.set_cons_zero, List.set_cons_succ]
    refine held_q (v := ?_) (i := 9) rfl (by kernel_rfl) (by kernel_rfl) (by kernel_rfl) (fun _ _ _ h => h) (by rfl) hHeld ?_ ?_
    rotate_left
    · (intro w' hS'; go_simp <;> (with_reducible rfl))
    simp only [Act.put, List.getElem_toArray, List.getElem_cons_zero, List.getElem_cons_succ, List.setIfInBounds_toArray, List.set_cons_zero, List.set_cons_succ]
    refine held_v (i := 10) (by kernel_rfl) rfl (by rfl) (exec_b2 75 3 _ _ rfl rfl rfl (us _ hg)) (hHeld.freeze (p := ⟨g, 0, none⟩) (fun _ => rfl) _) (fun hHeld => ?_)
    simp only [Act.put, List.getElem_toArray, List.getElem_cons_zero, List.getElem_cons_succ, List.setIfInBounds_toArray, List.set_cons_zero, List.set_cons_succ]
    refine held_q (v := ?_) (i := 11) rfl (by kernel_rfl) (by kernel_rfl) (by kernel_rfl) (fun _ _ _ h => h) (by rfl) hHeld ?_ ?_
    rotate_left
    · (intro w' hS'; go_simp <;> (with_reducible rfl))
    simp only [Act.put, List.getElem_toArray, List.getElem_cons_zero, List.getElem_cons_succ, List.setIfInBounds_toArray, List.set_cons_zero, List.set_cons_succ]
    refine wpAnyH_done (by kernel_rfl) ?_ _
    go_wp2_with fail
    go_ret
    exact ⟨rfl, hHeld.mono (fun k _ e => by subst e; rfl)⟩
end Go.Proofs.YtlheboafhgmbpaaDoor
