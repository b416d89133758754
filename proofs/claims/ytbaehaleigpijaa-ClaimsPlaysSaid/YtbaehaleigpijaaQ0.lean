/- Laws at a region's operations, for values of many cells. -/
import Derived.Test.YtbaehaleigpijaaK0
import Derived.WalkLawsBesides
import Derived.Deep.QuietTactic
import Derived.BigQuiet
import Derived.RegionTactic
import Derived.Outline
import Derived.Lib.Hide
import Derived.IntWalk
import Derived.Deep.RegionHeld3
namespace Go.Proofs.Ytbaehaleigpijaa
open Go.RowKit
set_option linter.unusedSimpArgs false
set_option linter.unusedVariables false

theorem quiet_of_run {P : Program} {o : Oper} {a : Act} {w : World} {v : Value} {K : Act → Prop} (h : ∀ n, (execOp a.eval o).run P (w.drewN n) = .ok (.value v) (w.drewN n)) (hk : K (a.put o.dst v)) :
    o.quiet P a (fun w' => ∃ n, w' = w.drewN n) K :=
  ⟨v, fun w' ⟨n, hw⟩ => by subst hw; unfold Oper.quietAt; rw [h n]; exact ⟨rfl, rfl⟩, hk⟩
theorem quiet_load {P : Program} {o : Oper} {a : Act} {w : World} {v : Value} {K : Act → Prop} (ty : TypeId) (x : Operand) (ho : o.op = .load ty x) (p : Value) (hx : a.eval x = p)
    (h : ∀ n, (Instr.loadAt ty p).run P (w.drewN n) = .ok v (w.drewN n)) (hk : K (a.put o.dst v)) : o.quiet P a (fun w' => ∃ n, w' = w.drewN n) K :=
  quiet_of_run (fun n => by unfold execOp; simp only [ho, hx, Sem.run_bind, h n, Result.andThen_ok]; rfl) hk
theorem quiet_build {P : Program} {o : Oper} {a : Act} {w : World} {v : Value} {K : Act → Prop} (ty : TypeId) (x : Array (Nat × Operand)) (ho : o.op = .build ty x) (p : Array (Nat × Value)) (hx : (x.map fun (i, x) => (i, a.eval x)) = p)
    (h : ∀ w, (Instr.build ty p).run P w = .ok v w) (hk : K (a.put o.dst v)) : o.quiet P a (fun w' => ∃ n, w' = w.drewN n) K :=
  quiet_of_run (fun n => by unfold execOp; simp only [ho, hx, Sem.run_bind, h _, Result.andThen_ok]; rfl) hk
theorem quiet_lookup {P : Program} {o : Oper} {a : Act} {w : World} {v : Value} {K : Act → Prop} (ty : TypeId) (x y : Operand) (ok : Bool) (ho : o.op = .lookup ty x y ok) (m k : Value) (hx : a.eval x = m) (hy : a.eval y = k)
    (h : ∀ n, (Instr.lookup ty m k ok).run P (w.drewN n) = .ok v (w.drewN n)) (hk : K (a.put o.dst v)) : o.quiet P a (fun w' => ∃ n, w' = w.drewN n) K :=
  quiet_of_run (fun n => by unfold execOp; simp only [ho, hx, hy, Sem.run_bind, h n, Result.andThen_ok]; rfl) hk
end Go.Proofs.Ytbaehaleigpijaa
