/- A drawn region whose last operation waits for all others; rows of texts and of trees of a call's own. -/
import Derived.Test.YtfohljljoalmoaaDoorJI
import Derived.Deep.OwnRows
namespace Go.Proofs.YtfohljljoalmoaaDoor
open Go.RowKit
set_option maxRecDepth 100000
set_option linter.unusedSimpArgs false
set_option linter.unusedVariables false

section
variable {P : Program} {ops : Array Oper} {Q : Exit → Act → World → Prop} {md : Region.Mode} {S : World → Prop} {z : Nat}
/-- Operation z waits for operation i. -/
def waitsFor (md : Region.Mode) (ops : Array Oper) (z i : Nat) : Bool :=
  match ops[z]? with
  | none => false
  | some o => o.after.any fun e => Region.binds md e && e.on == i
/-- Whatever order is drawn from here on; S holds behind each operation but z. -/
def TailHeld (P : Program) (md : Region.Mode) (ops : Array Oper) (Q : Exit → Act → World → Prop) (S : World → Prop) (z : Nat) : Nat → Array Bool → Act → World → Prop
  | 0, l, a, w => Region.ready md ops l = [] ∧ Q .normal a w
  | n + 1, l, a, w => (Region.ready md ops l = [] → Q .normal a w) ∧
      ∀ j ∈ Region.ready md ops l, wpOp P ops Q j (fun a' w' => (j ≠ z → S w') ∧ TailHeld P md ops Q S z n (l.setIfInBounds j true) a' w') a w
theorem TailHeld.any : ∀ (n : Nat) (l : Array Bool) (a : Act) (w : World), TailHeld P md ops Q S z n l a w → wpAny P md ops Q n l a w
  | 0, _, _, _, h => h
  | n + 1, _, _, _, h => ⟨h.1, fun j hj => wpOp_mono (fun a' w' h' => TailHeld.any n _ a' w' h'.2) (h.2 j hj)⟩
theorem TailHeld.quiet {i : Nat} {oi : Oper} {v : Value} (hi : ops[i]? = some oi) (hsel : ∀ (j : Nat) (o : Oper) cs b, ops[j]? = some o → o.op ≠ .select cs b)
    (hQ : ∀ c a w, Q (.panic c) (a.put oi.dst v) w → Q (.panic c) a w) (hz : waitsFor md ops z i = true) (hiz : i ≠ z) :
    ∀ (n : Nat) (l : Array Bool) (a : Act) (w : World),
      (∀ j oj, ops[j]? = some oj → j ≠ i → l.getD j true = false → (∀ e ∈ oj.after, Region.binds md e = true → e.on ≠ i) → oi.apart ops oj = true) →
      i ∈ Region.ready md ops l → YieldsIf P ops S oi v a → S w →
      TailHeld P md ops Q S z n (l.setIfInBounds i true) (a.put oi.dst v) w → TailHeld P md ops Q S z (n + 1) l a w := by
  intro n
  induction n with
  | zero =>
    intro l a w _ hr hy hS H
    constructor
    · intro e; rw [e] at hr; cases hr
    · intro j hj
      rcases Decidable.em (j = i) with rfl | hji
      · exact hy.wpOp hi hS ⟨fun _ => hS, H⟩
      · exact absurd (ready_mono hj hji) (by rw [H.1]; simp)
  | succ n ih =>
    intro l a w hfree hr hy hS H
    constructor
    · intro e; rw [e] at hr; cases hr
    · intro j hj
      rcases Decidable.em (j = i) with rfl | hji
      · exact hy.wpOp hi hS ⟨fun _ => hS, H⟩
      · obtain ⟨hun, oj, hoj, hall⟩ := mem_ready.1 hj
        have hno : ∀ e ∈ oj.after, Region.binds md e = true → e.on ≠ i := by
          intro e he hb q
          have h1 := hall e he hb
          have h0 := (mem_ready.1 hr).1
          rw [q] at h1
          by_cases hs : i < l.size
          · simp [hs] at h0 h1; rw [h0] at h1; cases h1
          · simp [Array.getElem?_eq_none (Nat.not_lt.1 hs)] at h1
        have hjz : j ≠ z := by
          rintro rfl
          unfold waitsFor at hz
          rw [hoj] at hz
          obtain ⟨k, hk, hz⟩ := Array.any_eq_true.1 hz
          simp only [Bool.and_eq_true, beq_iff_eq] at hz
          exact hno _ (Array.getElem_mem hk) hz.1 hz.2
        have step := wpOp_putIf hoj (hfree j oj hoj hji hun hno) (fun cs b => hsel i oi cs b hi) (fun cs b => hsel j oj cs b hoj) hQ hy (H.2 j (ready_mono hj hji))
        refine wpOp_mono (fun a' w' ⟨hy', hS', h'⟩ => ⟨hS', ih (l.setIfInBounds j true) a' w' ?_ (ready_mono hr (Ne.symm hji)) hy' (hS' hjz) ?_⟩) step
        · intro k ok hk hki hku hkn
          refine hfree k ok hk hki ?_ hkn
          rcases Decidable.em (j = k) with rfl | hjk
          · exact hun
          · rw [getD_set_ne true hjk] at hku; exact hku
        · rw [Array.setIfInBounds_comm _ _ hji]; exact h'
theorem tail_q {i : Nat} {oi : Oper} {v : Value} {n : Nat} {l : Array Bool} {a : Act} {w : World} (hi : ops[i]? = some oi)
    (hs : Region.noSelect ops = true) (hf : Region.free md ops l i = true) (hr : (Region.ready md ops l).contains i = true) (hz : waitsFor md ops z i = true) (hiz : i ≠ z)
    (hQ : ∀ c a w, Q (.panic c) (a.put oi.dst v) w → Q (.panic c) a w) (hw : Region.wanted oi (yielded ops a.tmps) = true) (hS : S w)
    (hy : ∀ w, S w → (execOp a.eval oi).run P w = .ok (.value v) w)
    (h : TailHeld P md ops Q S z n (l.setIfInBounds i true) (a.put oi.dst v) w) : TailHeld P md ops Q S z (n + 1) l a w :=
  TailHeld.quiet hi (Region.noSelect_spec hs) hQ hz hiz n l a w (Region.free_spec hi hf) (by simpa using hr) (.inl ⟨hw, hy⟩) hS h
theorem tail_no {i : Nat} {oi : Oper} {n : Nat} {l : Array Bool} {a : Act} {w : World} (hi : ops[i]? = some oi)
    (hs : Region.noSelect ops = true) (hf : Region.free md ops l i = true) (hr : (Region.ready md ops l).contains i = true) (hz : waitsFor md ops z i = true) (hiz : i ≠ z)
    (hQ : ∀ c a w, Q (.panic c) (a.put oi.dst undef) w → Q (.panic c) a w) (hw : Region.wanted oi (yielded ops a.tmps) = false) (hS : S w)
    (h : TailHeld P md ops Q S z n (l.setIfInBounds i true) (a.put oi.dst undef) w) : TailHeld P md ops Q S z (n + 1) l a w :=
  TailHeld.quiet hi (Region.noSelect_spec hs) hQ hz hiz n l a w (Region.free_spec hi hf) (by simpa using hr) (.inr ⟨hw, rfl⟩) hS h
theorem tail_ready {i : Nat} {o : Oper} {n : Nat} {l : Array Bool} {a : Act} {w : World} (hr : Region.ready md ops l = [i]) (ho : ops[i]? = some o)
    (h : wpOp P ops Q i (fun a' w' => (i ≠ z → S w') ∧ TailHeld P md ops Q S z n (l.setIfInBounds i true) a' w') a w) : TailHeld P md ops Q S z (n + 1) l a w :=
  ⟨fun e => (by rw [hr] at e; cases e), fun j hj => by rw [hr, List.mem_singleton] at hj; subst hj; exact h⟩
theorem tail_v {i : Nat} {o : Oper} {v : Value} {n : Nat} {l : Array Bool} {a : Act} {w w1 : World} (hr : Region.ready md ops l = [i]) (ho : ops[i]? = some o)
    (hw : Region.wanted o (yielded ops a.tmps) = true) (hrun : (execOp a.eval o).run P w = .ok (.value v) w1) (hS : S w1)
    (h : S w1 → TailHeld P md ops Q S z n (l.setIfInBounds i true) (a.put o.dst v) w1) : TailHeld P md ops Q S z (n + 1) l a w := by
  refine tail_ready hr ho ?_
  unfold wpOp
  simp only [ho, hw, if_true, Oper.wp, hrun, Oper.upon]
  exact .inl ⟨fun _ => hS, h hS⟩
theorem tail_s {i : Nat} {o : Oper} {n : Nat} {l : Array Bool} {a : Act} {w w1 : World} (hr : Region.ready md ops l = [i]) (ho : ops[i]? = some o)
    (hw : Region.wanted o (yielded ops a.tmps) = true) (hrun : (execOp a.eval o).run P w = .ok .skip w1) (hS : S w1)
    (h : S w1 → TailHeld P md ops Q S z n (l.setIfInBounds i true) (a.put o.dst undef) w1) : TailHeld P md ops Q S z (n + 1) l a w := by
  refine tail_ready hr ho ?_
  unfold wpOp
  simp only [ho, hw, if_true, Oper.wp, hrun, Oper.upon]
  exact .inl ⟨fun _ => hS, h hS⟩
theorem tail_end {o : Oper} {n : Nat} {l : Array Bool} {a : Act} {w w1 : World} (hr : Region.ready md ops l = [z]) (ho : ops[z]? = some o)
    (hw : Region.wanted o (yielded ops a.tmps) = true) (hrun : (execOp a.eval o).run P w = .ok .skip w1)
    (hd : Region.ready md ops (l.setIfInBounds z true) = []) (h : Q .normal (a.put o.dst undef) w1) : TailHeld P md ops Q S z (n + 1) l a w := by
  refine tail_ready hr ho ?_
  unfold wpOp
  simp only [ho, hw, if_true, Oper.wp, hrun, Oper.upon]
  refine .inl ⟨fun e => absurd rfl e, ?_⟩
  cases n with
  | zero => exact ⟨hd, h⟩
  | succ n => exact ⟨fun _ => h, by rw [hd]; simp⟩
theorem tail_drew {id : Nat} {a : Act} {w : World} (z : Nat) (S : World → Prop) (hm : P.follows .mixedOrders = true) (hS : S w.drew)
    (h : S w.drew → TailHeld P .any ops Q S z ops.size (Array.replicate ops.size false) a w.drew) : (Code.region id ops true).wp P Q a w :=
  wp_region_any hm (TailHeld.any _ _ _ _ (h hS))
theorem tail_c {i : Nat} {o : Oper} {f : FuncId} {args : Array Value} {n : Nat} {l : Array Bool} {a : Act} {w : World} (hr : Region.ready md ops l = [i]) (ho : ops[i]? = some o)
    (hw : Region.wanted o (yielded ops a.tmps) = true) (hrun : (execOp a.eval o).run P w = .ok (.enter f args) w) {R : Ending → World → Prop} (hc : Calls P f args w R)
    (h : ∀ e w', R e w' → ∃ v, e = .returned v ∧ S w' ∧ TailHeld P md ops Q S z n (l.setIfInBounds i true) (a.put o.dst v) w') : TailHeld P md ops Q S z (n + 1) l a w := by
  refine tail_ready hr ho ?_
  unfold wpOp
  simp only [ho, hw, if_true, Oper.wp, hrun]
  refine .inl (hc.mono fun e w' hR => ?_)
  obtain ⟨v, rfl, hS, hn⟩ := h e w' hR
  exact ⟨fun _ => hS, hn⟩
end
theorem grown_row {w w' : World} {row : Option Nat} (hg : w.grownBy w' row) : Kept (fun k => row = some k) w w' :=
  ⟨hg.os, hg.tape, hg.output, hg.size, fun k hk hs => hg.block k hk (fun e => hs e.symm)⟩
theorem row_stay {w w' : World} {base : Nat} {t : TypeId} {z : Nat} {v : Value} {n : Nat} {xs : List Value} {S : Nat → Prop} (h : w.ownsRow base t z v n xs) (hk : Kept S w w') (hS : ∀ k, v.ownBlock = some k → ¬ S k) : w'.ownsRow base t z v n xs := by
  refine ⟨h.1, ?_⟩
  rcases h.2 with h0 | ⟨g, cap, cur, rfl, hb, hg, r⟩
  · exact .inl h0
  · exact .inr ⟨g, cap, cur, rfl, hb, by rw [hk.block g (Array.getElem?_eq_some_iff.1 hg).1 (hS g rfl)]; exact hg, r⟩
theorem own_type {w : World} {base : Nat} {t : TypeId} {z : Nat} {v : Value} {n : Nat} {xs : List Value} (h : w.ownsRow base t z v n xs) {k : Nat} (hk : v.ownBlock = some k) : base ≤ k ∧ ∃ c, w.heap[k]? = some (.cells c t (0, 0)) := by
  rcases h.2 with ⟨rfl, _⟩ | ⟨g, cap, cur, rfl, hb, hg, r⟩
  · cases hk
  · have hk : some g = some k := hk
    injection hk with hk; subst hk
    exact ⟨hb, cur, hg⟩
theorem wpl_append {P : Program} {ops : Array Oper} {rest : List Oper} {o : Oper} {a : Act} {w w1 : World} {Q : Exit → Act → World → Prop} {v p q : Value} (t : TypeId) (x y : Operand) (hgd : o.guard = none) (ho : o.op = .call { callee := .builtin .append, args := #[x, y], argTypes := #[t, t] }) (hx : a.eval x = p) (hy : a.eval y = q)
    (hf : (Builtin.append_ #[t, t] o.type #[p, q]).run P w = .ok v w1) (h : wpList P ops Q rest (a.put o.dst v) w1) : wpList P ops Q (o :: rest) a w :=
  wpl_val hgd (exec_append t x y ho hx hy hf) h
theorem alloc_row {w : World} {base : Nat} {t : TypeId} {z : Nat} {v : Value} {n : Nat} {xs : List Value} (h : w.ownsRow base t z v n xs) (o : Obj) : (w.alloc o).ownsRow base t z v n xs := row_kept h ((Kept.refl (fun _ => False) w).alloc o)
theorem RowAt.own {w : World} {base : Nat} {t : TypeId} {v : Value} {n : Nat} {xs : List Value} (h : w.ownsRow base t 1 v n xs) (hl : xs.length = n) (hm : n ≤ maxLen) : RowAt w 1 v (xs.map fun x => [x]) := by
  subst hl
  rcases h.2 with ⟨rfl, h0⟩ | ⟨g, cap, cur, rfl, hb, hg, h1, h2, h3⟩
  · rw [List.eq_nil_of_length_eq_zero h0]; exact RowAt.nil _ _ _
  · refine ⟨some ⟨g, 0, none⟩, cap, by rw [List.length_map], by rw [List.length_map]; exact h1, by rw [List.length_map]; exact hm, fun _ => ⟨g, 0, rfl, (Array.getElem?_eq_some_iff.1 hg).1, fun j ys hj i u hu => ?_⟩⟩
    rw [List.getElem?_map] at hj
    cases hx : xs[j]? with
    | none => rw [hx] at hj; cases hj
    | some y =>
      rw [hx] at hj
      simp only [Option.map_some, Option.some.injEq] at hj
      subst hj
      cases i with
      | succ i => simp at hu
      | zero =>
        simp only [List.getElem?_cons_zero, Option.some.injEq] at hu
        subst hu
        rw [cell_of_row _ _ _ _ _ _ hg, Nat.zero_add, Nat.mul_one, Nat.add_zero]
        have hj := (List.getElem?_eq_some_iff.1 hx).1
        rw [← h3.2, Nat.mul_one, List.getElem?_take_of_lt hj] at hx
        simpa using hx
/-- One more in a row of the call's own. -/
theorem push_s {w : World} {base n : Nat} {v : Value} {xs : List Value} (h : w.ownsRow base 9 1 v n xs) {u : Value} (h1 : u.oneCell' = true) {g : Nat} {fr : Nat × Nat} {c : Nat} (hx : w.heap[g]? = some (.cells #[u] 9 fr)) (hn : n + 1 ≤ 1000000) (hb : base ≤ w.heap.size) (ty : TypeId) :
    ∃ a' c' w', (Builtin.append_ #[22, 22] ty #[v, .slice (some ⟨g, 0, none⟩) 1 c]).run Tryd.prog w = .ok (.slice a' (n + 1) c') w' ∧ w'.ownsRow base 9 1 (.slice a' (n + 1) c') (n + 1) (xs ++ [u]) ∧ w.grownBy w' v.ownBlock := by
  obtain ⟨i, hi⟩ : ∃ i, Tryd.prog.info? 9 = some i := ⟨_, rfl⟩
  obtain ⟨z, hz⟩ : ∃ z, i.zero = some z := by injection hi with hi; subst hi; exact ⟨_, rfl⟩
  have hs : i.size = 1 := by injection hi with hi; subst hi; rfl
  have hzs : z.cells.size = 1 := by injection hi with hi; subst hi; injection hz with hz; subst hz; rfl
  have hby : i.bytes ≤ 16 := by injection hi with hi; subst hi; decide
  obtain ⟨v', w', a1, a2, a3, _⟩ := run_append_own (P := Tryd.prog) w base 22 ty 9 i z 1 i.bytes Tryd.underlying22 hi hz hs rfl hzs (by omega) v n xs h ⟨g, 0, none⟩ 1 c [u] rfl
    (fun j y hu => by
      match j, hu with
      | 0, hu =>
        simp at hu; subst hu
        rw [Addr.add_mid, cell_of_row _ _ _ _ _ _ hx]; rfl) (fun y hu => by simp at hu; subst hu; exact h1) (by simp only [maxLen]; omega)
    (by have : (n + 1) * i.bytes ≤ 1000000 * 16 := Nat.mul_le_mul hn hby; omega) hb
  obtain ⟨a', c', rfl⟩ := row_form a2
  exact ⟨a', c', w', a1, a2, a3⟩
/-- One more in a row of the call's own. -/
theorem push_t {w : World} {base n : Nat} {v : Value} {xs : List Value} (h : w.ownsRow base 27 1 v n xs) {u : Value} (h1 : u.oneCell' = true) {g : Nat} {fr : Nat × Nat} {c : Nat} (hx : w.heap[g]? = some (.cells #[u] 27 fr)) (hn : n + 1 ≤ 1000000) (hb : base ≤ w.heap.size) (ty : TypeId) :
    ∃ a' c' w', (Builtin.append_ #[28, 28] ty #[v, .slice (some ⟨g, 0, none⟩) 1 c]).run Tryd.prog w = .ok (.slice a' (n + 1) c') w' ∧ w'.ownsRow base 27 1 (.slice a' (n + 1) c') (n + 1) (xs ++ [u]) ∧ w.grownBy w' v.ownBlock := by
  obtain ⟨i, hi⟩ : ∃ i, Tryd.prog.info? 27 = some i := ⟨_, rfl⟩
  obtain ⟨z, hz⟩ : ∃ z, i.zero = some z := by injection hi with hi; subst hi; exact ⟨_, rfl⟩
  have hs : i.size = 1 := by injection hi with hi; subst hi; rfl
  have hzs : z.cells.size = 1 := by injection hi with hi; subst hi; injection hz with hz; subst hz; rfl
  have hby : i.bytes ≤ 24 := by injection hi with hi; subst hi; decide
  obtain ⟨v', w', a1, a2, a3, _⟩ := run_append_own (P := Tryd.prog) w base 28 ty 27 i z 1 i.bytes Tryd.underlying28 hi hz hs rfl hzs (by omega) v n xs h ⟨g, 0, none⟩ 1 c [u] rfl
    (fun j y hu => by
      match j, hu with
      | 0, hu =>
        simp at hu; subst hu
        rw [Addr.add_mid, cell_of_row _ _ _ _ _ _ hx]; rfl) (fun y hu => by simp at hu; subst hu; exact h1) (by simp only [maxLen]; omega)
    (by have : (n + 1) * i.bytes ≤ 1000000 * 24 := Nat.mul_le_mul hn hby; omega) hb
  obtain ⟨a', c', rfl⟩ := row_form a2
  exact ⟨a', c', w', a1, a2, a3⟩
end Go.Proofs.YtfohljljoalmoaaDoor
