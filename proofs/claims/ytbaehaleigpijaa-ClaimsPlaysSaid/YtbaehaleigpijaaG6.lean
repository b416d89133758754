/- A book while others turn. -/
import Derived.Test.YtbaehaleigpijaaG3
namespace Go.Proofs.Ytbaehaleigpijaa
open Go.RowKit
set_option linter.unusedSimpArgs false
set_option linter.unusedVariables false

theorem BkS.apart {T : Nat → Prop} {w w' : World} {p : Pl} {s : St} (h : BkS w p s) (hk : Kept T w w') (hT : ∀ k, p.S k → ¬ T k) : BkS w' p s :=
  Bk.of_blocks h (hk.block _ (h.lt _ (.inl rfl)) (hT _ (.inl rfl))) (hk.block _ (h.lt _ (.inr (.inl rfl))) (hT _ (.inr (.inl rfl)))) (hk.block _ (h.lt _ (.inr (.inr (.inl rfl)))) (hT _ (.inr (.inr (.inl rfl))))) (hk.block _ (h.lt _ (.inr (.inr (.inr rfl)))) (hT _ (.inr (.inr (.inr rfl)))))
theorem Kept.upto {S : Nat → Prop} {a b : World} (h : Kept (fun _ => False) a b) : Kept S a b := h.mono (fun _ _ q => q.elim)
end Go.Proofs.Ytbaehaleigpijaa
