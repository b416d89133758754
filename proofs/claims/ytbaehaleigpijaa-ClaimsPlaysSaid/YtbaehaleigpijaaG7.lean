/- Keys are apart: the plain law; three allocs in any order. -/
import Derived.Test.YtbaehaleigpijaaG5
import Derived.Test.YtbaehaleigpijaaQ2
namespace Go.Proofs.Ytbaehaleigpijaa
open Go.RowKit
set_option linter.unusedSimpArgs false
set_option linter.unusedVariables false

theorem dig_inj {a b : Int} (h : dig a = dig b) : a = b := by
  have h2 : (dig a)[0]? = (dig b)[0]? := by rw [h]
  have h3 : some (Value.int .u8 a) = some (Value.int .u8 b) := h2
  injection h3 with h3
  injection h3
theorem alive_apart {U : Value → Option Int} {D E : Array Value} (h : D ≠ E) (n : Int) (v : Option Int) (now : Int) (m : Nat) : alive (upd U (plc D n) v) E now m = alive U E now m := by
  unfold alive
  rw [upd_other _ _ _ (fun e => h (plc_inj e).1.symm)]
theorem liveFrom_apart {U : Value → Option Int} {D E : Array Value} (h : D ≠ E) (n : Int) (v : Option Int) (now : Int) : ∀ f m, liveFrom (upd U (plc D n) v) E now f m = liveFrom U E now f m
  | 0, _ => rfl
  | f + 1, m => by unfold liveFrom; rw [alive_apart h, liveFrom_apart h n v now f (m + 1)]
theorem live_apart {U : Value → Option Int} {D E : Array Value} (h : D ≠ E) (n : Int) (v : Option Int) (now : Int) : live (upd U (plc D n) v) E now = live U E now := liveFrom_apart h n v now 16 0
theorem own_apart {α : Type} {O : Value → Option α} {D E : Array Value} (h : D ≠ E) (v : Option α) : upd O (.agg D) v (.agg E) = O (.agg E) := upd_other _ _ _ (fun e => h (by injection e with e; exact e.symm))
/-- Of one key nothing has turned. -/
def Alike (s s' : St) (E : Array Value) (t : Int) : Prop := live s'.U E t = live s.U E t ∧ s'.O (.agg E) = s.O (.agg E)
theorem try_apart (s : St) {D E : Array Value} (h : D ≠ E) (now t : Int) : Alike s (tryF s D now).2.2 E t := by
  unfold tryF
  cases live s.U D now with
  | some n => exact ⟨rfl, rfl⟩
  | none =>
    cases s.O (.agg D) with
    | some o => exact ⟨rfl, rfl⟩
    | none => exact ⟨rfl, own_apart h _⟩
theorem drop_apart (s : St) {D E : Array Value} (h : D ≠ E) (t : Int) : Alike s (dropF s D).2 E t := by
  unfold dropF
  cases s.O (.agg D) with
  | none => exact ⟨rfl, rfl⟩
  | some o => exact ⟨rfl, own_apart h _⟩
theorem hear_apart (s : St) {D E : Array Value} (h : D ≠ E) (n i c : Int) (g : Bool) (now t : Int) : Alike s (hearF s D n i c g now).2.2 E t := by
  unfold hearF
  split
  · exact ⟨rfl, rfl⟩
  · split
    · exact ⟨rfl, rfl⟩
    · split
      · exact ⟨live_apart h _ _ _, rfl⟩
      · split
        · exact ⟨live_apart h _ _ _, rfl⟩
        · split
          · exact ⟨live_apart h _ _ _, own_apart h _⟩
          · exact ⟨live_apart h _ _ _, rfl⟩
theorem Alike.n {s s' : St} {i : Nat} {t : Int} (h : Alike s s' (dig i) t) : nvI s' t i = nvI s t i := by unfold nvI; rw [h.1]
theorem Alike.l {s s' : St} {i : Nat} {t : Int} (h : Alike s s' (dig i) t) : lvI s' t i = lvI s t i := by unfold lvI; rw [h.1]
theorem Alike.m {s s' : St} {i : Nat} {t : Int} (h : Alike s s' (dig i) t) : mvI s' i = mvI s i := by unfold mvI; rw [h.2]
theorem nvI_int (s : St) (t : Int) (i : Nat) : ∃ x : Int, nvI s t i = .int .i64 x := ⟨_, rfl⟩
theorem lvI_int (s : St) (t : Int) (i : Nat) : ∃ x : Int, lvI s t i = .int .i64 x := ⟨_, rfl⟩
theorem mvI_int (s : St) (i : Nat) : ∃ x : Int, mvI s i = .int .i64 x := ⟨_, rfl⟩
theorem Row3.full {w : World} {b : Nat} {f : Nat → Value} (h : Row3 w b 3 f) : w.heap[b]? = some (.cells #[f 0, f 1, f 2] 62 (0, 0)) := by
  obtain ⟨c, h1, h2, _, h4⟩ := h
  rw [h1]
  congr 2
  apply Array.ext (by simp [h2])
  intro i hi _
  have h4i := h4 i (by omega)
  rw [Array.getElem?_eq_getElem (by omega)] at h4i
  injection h4i with h4i
  rw [h4i]
  rcases (by omega : i = 0 ∨ i = 1 ∨ i = 2) with rfl | rfl | rfl <;> rfl
/-- Three ints in a block. -/
def ZR3 : Array Value := #[.int .i64 0, .int .i64 0, .int .i64 0]
theorem zeroR3 (w : World) : (zeroValue 62).run Try.prog w = .ok (.agg ZR3) w := by kernel_rfl
theorem Row3.zero {w : World} {b : Nat} (h : w.heap[b]? = some (.cells ZR3 62 (0, 0))) : Row3 w b 0 (fun _ => .int .i64 0) :=
  ⟨_, h, rfl, fun i hi => ⟨0, by rcases (by omega : i = 0 ∨ i = 1 ∨ i = 2) with rfl | rfl | rfl <;> rfl⟩, fun i hi => absurd hi (by omega)⟩
theorem load_r3 {c : Array Value} (hc : c.size = 3) {w : World} {b : Nat} {fr : Nat × Nat} (h : w.heap[b]? = some (.cells c 62 fr)) :
    (Instr.loadAt 62 (.pointer (some ⟨b, 0, none⟩))).run Try.prog w = .ok (.agg c) w :=
  load_row Try.underlying62 rfl h (by rw [hc]; kernel_rfl)

section
variable {P : Program} {ops : Array Oper} {Q : Exit → Act → World → Prop} {md : Region.Mode} {S : World → Prop}
theorem held_sym2 {i j : Nat} {oi oj : Oper} {v : Value} {fuel : Nat} {listed : Array Bool} {a : Act} {w w1 : World} (hr : Region.ready md ops listed = [i, j]) (hi : ops[i]? = some oi) (hj : ops[j]? = some oj)
    (hwi : Region.wanted oi (yielded ops a.tmps) = true) (hwj : Region.wanted oj (yielded ops a.tmps) = true)
    (hruni : (execOp a.eval oi).run P w = .ok (.value v) w1) (hrunj : (execOp a.eval oj).run P w = .ok (.value v) w1) (hS : S w1)
    (h1 : S w1 → wpAnyH P md ops Q S fuel (listed.setIfInBounds i true) (a.put oi.dst v) w1)
    (h2 : S w1 → wpAnyH P md ops Q S fuel (listed.setIfInBounds j true) (a.put oj.dst v) w1) : wpAnyH P md ops Q S (fuel + 1) listed a w := by
  refine wpAnyH_ready hr (by simp) (AllReadyH.cons hi (fun K hK => ?_) (AllReadyH.cons hj (fun K hK => ?_) AllReadyH.nil))
  · rw [if_pos hwi]; unfold Oper.wp; rw [hruni]; exact hK.out _ _ hS h1
  · rw [if_pos hwj]; unfold Oper.wp; rw [hrunj]; exact hK.out _ _ hS h2
theorem held_sym3 {i j k : Nat} {oi oj ok : Oper} {v : Value} {fuel : Nat} {listed : Array Bool} {a : Act} {w w1 : World} (hr : Region.ready md ops listed = [i, j, k]) (hi : ops[i]? = some oi) (hj : ops[j]? = some oj) (hk : ops[k]? = some ok)
    (hwi : Region.wanted oi (yielded ops a.tmps) = true) (hwj : Region.wanted oj (yielded ops a.tmps) = true) (hwk : Region.wanted ok (yielded ops a.tmps) = true)
    (hruni : (execOp a.eval oi).run P w = .ok (.value v) w1) (hrunj : (execOp a.eval oj).run P w = .ok (.value v) w1) (hrunk : (execOp a.eval ok).run P w = .ok (.value v) w1) (hS : S w1)
    (h1 : S w1 → wpAnyH P md ops Q S fuel (listed.setIfInBounds i true) (a.put oi.dst v) w1)
    (h2 : S w1 → wpAnyH P md ops Q S fuel (listed.setIfInBounds j true) (a.put oj.dst v) w1)
    (h3 : S w1 → wpAnyH P md ops Q S fuel (listed.setIfInBounds k true) (a.put ok.dst v) w1) : wpAnyH P md ops Q S (fuel + 1) listed a w := by
  refine wpAnyH_ready hr (by simp) (AllReadyH.cons hi (fun K hK => ?_) (AllReadyH.cons hj (fun K hK => ?_) (AllReadyH.cons hk (fun K hK => ?_) AllReadyH.nil)))
  · rw [if_pos hwi]; unfold Oper.wp; rw [hruni]; exact hK.out _ _ hS h1
  · rw [if_pos hwj]; unfold Oper.wp; rw [hrunj]; exact hK.out _ _ hS h2
  · rw [if_pos hwk]; unfold Oper.wp; rw [hrunk]; exact hK.out _ _ hS h3
end
end Go.Proofs.Ytbaehaleigpijaa
