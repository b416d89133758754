/- A drawn region whose last operation waits for all others: a condition that holds up to it, and is not asked behind it. -/
import Derived.Test.YtbaehaleigpijaaP8
namespace Go.Proofs.Ytbaehaleigpijaa
open Go.RowKit
set_option linter.unusedSimpArgs false
set_option linter.unusedVariables false

section
variable {P : Program} {ops : Array Oper} {Q : Exit → Act → World → Prop} {md : Region.Mode} {S : World → Prop} {z : Nat}
/-- Operation z waits for operation i. -/
def waitsFor (md : Region.Mode) (ops : Array Oper) (z i : Nat) : Bool :=
  match ops[z]? with
  | none => false
  | some o => o.after.any fun e => Region.binds md e && e.on == i
/-- Whatever order is drawn from here on; S holds behind each operation but z. -/
def TailHeld (P : Program) (md : Region.Mode) (ops : Array Oper) (Q : Exit → Act → World → Prop) (S : World → Prop) (z : Nat) : Nat → Array Bool → Act → World → Prop
  | 0, l, a, w => Region.ready md ops l = [] ∧ Q .normal a w
  | n + 1, l, a, w => (Region.ready md ops l = [] → Q .normal a w) ∧
      ∀ j ∈ Region.ready md ops l, wpOp P ops Q j (fun a' w' => (j ≠ z → S w') ∧ TailHeld P md ops Q S z n (l.setIfInBounds j true) a' w') a w
theorem TailHeld.any : ∀ (n : Nat) (l : Array Bool) (a : Act) (w : World), TailHeld P md ops Q S z n l a w → wpAny P md ops Q n l a w
  | 0, _, _, _, h => h
  | n + 1, _, _, _, h => ⟨h.1, fun j hj => wpOp_mono (fun a' w' h' => TailHeld.any n _ a' w' h'.2) (h.2 j hj)⟩
theorem TailHeld.quiet {i : Nat} {oi : Oper} {v : Value} (hi : ops[i]? = some oi) (hsel : ∀ (j : Nat) (o : Oper) cs b, ops[j]? = some o → o.op ≠ .select cs b)
    (hQ : ∀ c a w, Q (.panic c) (a.put oi.dst v) w → Q (.panic c) a w) (hz : waitsFor md ops z i = true) (hiz : i ≠ z) :
    ∀ (n : Nat) (l : Array Bool) (a : Act) (w : World),
      (∀ j oj, ops[j]? = some oj → j ≠ i → l.getD j true = false → (∀ e ∈ oj.after, Region.binds md e = true → e.on ≠ i) → oi.apart ops oj = true) →
      i ∈ Region.ready md ops l → YieldsIf P ops S oi v a → S w →
      TailHeld P md ops Q S z n (l.setIfInBounds i true) (a.put oi.dst v) w → TailHeld P md ops Q S z (n + 1) l a w := by
  intro n
  induction n with
  | zero =>
    intro l a w _ hr hy hS H
    constructor
    · intro e; rw [e] at hr; cases hr
    · intro j hj
      rcases Decidable.em (j = i) with rfl | hji
      · exact hy.wpOp hi hS ⟨fun _ => hS, H⟩
      · exact absurd (ready_mono hj hji) (by rw [H.1]; simp)
  | succ n ih =>
    intro l a w hfree hr hy hS H
    constructor
    · intro e; rw [e] at hr; cases hr
    · intro j hj
      rcases Decidable.em (j = i) with rfl | hji
      · exact hy.wpOp hi hS ⟨fun _ => hS, H⟩
      · obtain ⟨hun, oj, hoj, hall⟩ := mem_ready.1 hj
        have hno : ∀ e ∈ oj.after, Region.binds md e = true → e.on ≠ i := by
          intro e he hb q
          have h1 := hall e he hb
          have h0 := (mem_ready.1 hr).1
          rw [q] at h1
          by_cases hs : i < l.size
          · simp [hs] at h0 h1; rw [h0] at h1; cases h1
          · simp [Array.getElem?_eq_none (Nat.not_lt.1 hs)] at h1
        have hjz : j ≠ z := by
          rintro rfl
          unfold waitsFor at hz
          rw [hoj] at hz
          obtain ⟨k, hk, hz⟩ := Array.any_eq_true.1 hz
          simp only [Bool.and_eq_true, beq_iff_eq] at hz
          exact hno _ (Array.getElem_mem hk) hz.1 hz.2
        have step := wpOp_putIf hoj (hfree j oj hoj hji hun hno) (fun cs b => hsel i oi cs b hi) (fun cs b => hsel j oj cs b hoj) hQ hy (H.2 j (ready_mono hj hji))
        refine wpOp_mono (fun a' w' ⟨hy', hS', h'⟩ => ⟨hS', ih (l.setIfInBounds j true) a' w' ?_ (ready_mono hr (Ne.symm hji)) hy' (hS' hjz) ?_⟩) step
        · intro k ok hk hki hku hkn
          refine hfree k ok hk hki ?_ hkn
          rcases Decidable.em (j = k) with rfl | hjk
          · exact hun
          · rw [getD_set_ne true hjk] at hku; exact hku
        · rw [Array.setIfInBounds_comm _ _ hji]; exact h'
theorem tail_q {i : Nat} {oi : Oper} {v : Value} {n : Nat} {l : Array Bool} {a : Act} {w : World} (hi : ops[i]? = some oi)
    (hs : Region.noSelect ops = true) (hf : Region.free md ops l i = true) (hr : (Region.ready md ops l).contains i = true) (hz : waitsFor md ops z i = true) (hiz : i ≠ z)
    (hQ : ∀ c a w, Q (.panic c) (a.put oi.dst v) w → Q (.panic c) a w) (hw : Region.wanted oi (yielded ops a.tmps) = true) (hS : S w)
    (hy : ∀ w, S w → (execOp a.eval oi).run P w = .ok (.value v) w)
    (h : TailHeld P md ops Q S z n (l.setIfInBounds i true) (a.put oi.dst v) w) : TailHeld P md ops Q S z (n + 1) l a w :=
  TailHeld.quiet hi (Region.noSelect_spec hs) hQ hz hiz n l a w (Region.free_spec hi hf) (by simpa using hr) (.inl ⟨hw, hy⟩) hS h
theorem tail_no {i : Nat} {oi : Oper} {n : Nat} {l : Array Bool} {a : Act} {w : World} (hi : ops[i]? = some oi)
    (hs : Region.noSelect ops = true) (hf : Region.free md ops l i = true) (hr : (Region.ready md ops l).contains i = true) (hz : waitsFor md ops z i = true) (hiz : i ≠ z)
    (hQ : ∀ c a w, Q (.panic c) (a.put oi.dst undef) w → Q (.panic c) a w) (hw : Region.wanted oi (yielded ops a.tmps) = false) (hS : S w)
    (h : TailHeld P md ops Q S z n (l.setIfInBounds i true) (a.put oi.dst undef) w) : TailHeld P md ops Q S z (n + 1) l a w :=
  TailHeld.quiet hi (Region.noSelect_spec hs) hQ hz hiz n l a w (Region.free_spec hi hf) (by simpa using hr) (.inr ⟨hw, rfl⟩) hS h
theorem tail_ready {i : Nat} {o : Oper} {n : Nat} {l : Array Bool} {a : Act} {w : World} (hr : Region.ready md ops l = [i]) (ho : ops[i]? = some o)
    (h : wpOp P ops Q i (fun a' w' => (i ≠ z → S w') ∧ TailHeld P md ops Q S z n (l.setIfInBounds i true) a' w') a w) : TailHeld P md ops Q S z (n + 1) l a w :=
  ⟨fun e => (by rw [hr] at e; cases e), fun j hj => by rw [hr, List.mem_singleton] at hj; subst hj; exact h⟩
theorem tail_v {i : Nat} {o : Oper} {v : Value} {n : Nat} {l : Array Bool} {a : Act} {w w1 : World} (hr : Region.ready md ops l = [i]) (ho : ops[i]? = some o)
    (hw : Region.wanted o (yielded ops a.tmps) = true) (hrun : (execOp a.eval o).run P w = .ok (.value v) w1) (hS : S w1)
    (h : S w1 → TailHeld P md ops Q S z n (l.setIfInBounds i true) (a.put o.dst v) w1) : TailHeld P md ops Q S z (n + 1) l a w := by
  refine tail_ready hr ho ?_
  unfold wpOp
  simp only [ho, hw, if_true, Oper.wp, hrun, Oper.upon]
  exact .inl ⟨fun _ => hS, h hS⟩
theorem tail_s {i : Nat} {o : Oper} {n : Nat} {l : Array Bool} {a : Act} {w w1 : World} (hr : Region.ready md ops l = [i]) (ho : ops[i]? = some o)
    (hw : Region.wanted o (yielded ops a.tmps) = true) (hrun : (execOp a.eval o).run P w = .ok .skip w1) (hS : S w1)
    (h : S w1 → TailHeld P md ops Q S z n (l.setIfInBounds i true) (a.put o.dst undef) w1) : TailHeld P md ops Q S z (n + 1) l a w := by
  refine tail_ready hr ho ?_
  unfold wpOp
  simp only [ho, hw, if_true, Oper.wp, hrun, Oper.upon]
  exact .inl ⟨fun _ => hS, h hS⟩
theorem tail_end {o : Oper} {n : Nat} {l : Array Bool} {a : Act} {w w1 : World} (hr : Region.ready md ops l = [z]) (ho : ops[z]? = some o)
    (hw : Region.wanted o (yielded ops a.tmps) = true) (hrun : (execOp a.eval o).run P w = .ok .skip w1)
    (hd : Region.ready md ops (l.setIfInBounds z true) = []) (h : Q .normal (a.put o.dst undef) w1) : TailHeld P md ops Q S z (n + 1) l a w := by
  refine tail_ready hr ho ?_
  unfold wpOp
  simp only [ho, hw, if_true, Oper.wp, hrun, Oper.upon]
  refine .inl ⟨fun e => absurd rfl e, ?_⟩
  cases n with
  | zero => exact ⟨hd, h⟩
  | succ n => exact ⟨fun _ => h, by rw [hd]; simp⟩
theorem tail_drew {id : Nat} {a : Act} {w : World} (z : Nat) (S : World → Prop) (hm : P.follows .mixedOrders = true) (hS : S w.drew)
    (h : S w.drew → TailHeld P .any ops Q S z ops.size (Array.replicate ops.size false) a w.drew) : (Code.region id ops true).wp P Q a w :=
  wp_region_any hm (TailHeld.any _ _ _ _ (h hS))
end
end Go.Proofs.Ytbaehaleigpijaa
