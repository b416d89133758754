/- Same. -/
import Derived.Test.YthachckofghppaaDoorT8
namespace Go.Proofs.YthachckofghppaaDoor
open Go.RowKit
set_option maxRecDepth 100000
set_option linter.unusedSimpArgs false
set_option linter.unusedVariables false

theorem conv_str {w : World} {v : Value} {l : List UInt8} (h : ByAt w v l) : (convert 22 9 v).run Tryd.prog w = .ok (.string ⟨l.toArray⟩) w := by
  obtain ⟨a, c, rfl, h2, h3⟩ := h
  cases a with
  | none =>
    have hl0 : l = [] := by
      apply Classical.byContradiction; intro hh
      obtain ⟨b, o, e, _⟩ := h3 hh; cases e
    subst hl0
    exact run_convert_bytes_nil w _ _ Tryd.underlying22 Tryd.underlying5 _ _ _ Tryd.underlying9
  | some ad =>
    refine run_convert_bytes_back w _ _ _ ad c l Tryd.underlying22 Tryd.underlying5 Tryd.underlying9 (fun j hj => ?_)
    obtain ⟨b, o, e, _, hr⟩ := h3 (fun e => by subst e; simp at hj)
    injection e with e; subst e
    rw [Addr.add_mid]
    exact hr j _ (by simp [bv, List.getElem?_eq_getElem hj])
set_option maxHeartbeats 1000000 in
theorem bytesEqual_ct {w : World} {v x : Value} {l m : List UInt8} (h : ByAt w v l) (hx : ByAt w x m) :
    Calls Tryd.prog 32 #[v, x] w fun e w' => e = .returned (.bool (l == m)) ∧ Kept (fun _ => False) w w' := by
  have c1 := conv_str h
  have c2 := conv_str hx
  obtain ⟨a, c, hv⟩ := h.slc
  subst hv
  obtain ⟨b, d, hy⟩ := hx.slc
  subst hy
  go_enter Tryd.func32, Tryd.ntmps32
  go_wp2_with fail
  go_ret
  exact ⟨rfl, Kept.refl _ _⟩

def eqF (f g : FileE) : Bool := (f.path.toList == g.path.toList) && (f.bytes == g.bytes)
def sameTo (a b : List FileE) : Nat → Bool
  | 0 => true
  | k + 1 => sameTo a b k && (match a[k]?, b[k]? with | some f, some g => eqF f g | _, _ => false)
def sameB (a b : List FileE) : Bool := (a.length == b.length) && sameTo a b a.length
theorem sameTo_no {a b : List FileE} {i : Nat} (h : sameTo a b (i + 1) = false) : ∀ k, i < k → sameTo a b k = false
  | 0, h0 => by omega
  | k + 1, h0 => by
    by_cases e : i = k
    · subst e; exact h
    · unfold sameTo; rw [sameTo_no h k (by omega)]; rfl

end Go.Proofs.YthachckofghppaaDoor
