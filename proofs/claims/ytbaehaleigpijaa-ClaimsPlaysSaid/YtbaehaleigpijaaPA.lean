/- The document's book as one relation; its Try as a function of the state. -/
import Derived.Test.YtbaehaleigpijaaP9
namespace Go.Proofs.Ytbaehaleigpijaa
open Go.RowKit
set_option linter.unusedSimpArgs false
set_option linter.unusedVariables false
variable {b0 : Nat}

/-- Memory of the document's books. -/
def RefBlk (b0 : Nat) (w : World) (k : Nat) : Prop := b0 ≤ k ∧ ∃ c t, w.heap[k]? = some (.cells c t (0, 0)) ∧ (t = 50 ∨ t = 52 ∨ t = 74)
/-- The document's book at R tells the state s, in rows of at most N. -/
def RefS (b0 : Nat) (w : World) (R : Nat) (s : St) (N : Nat) : Prop := ∃ owns oths vo vt, RbS b0 w R s owns oths vo vt ∧ Refs s owns oths ∧ owns.length ≤ N ∧ oths.length ≤ N
theorem RefS.mono {w : World} {R : Nat} {s : St} {N M : Nat} (h : RefS b0 w R s N) (hm : N ≤ M) : RefS b0 w R s M := by
  obtain ⟨owns, oths, vo, vt, h1, h2, h3, h4⟩ := h
  exact ⟨owns, oths, vo, vt, h1, h2, Nat.le_trans h3 hm, Nat.le_trans h4 hm⟩
theorem RbS.refR {w : World} {R : Nat} {s : St} {owns : List OwnE} {oths : List OthE} {vo vt : Value} (h : RbS b0 w R s owns oths vo vt) : RefBlk b0 w R := ⟨h.far, _, _, h.blk, .inl rfl⟩
theorem row_ref {w : World} {t : TypeId} {z : Nat} {v : Value} {n : Nat} {xs : List Value} (h : w.ownsRow b0 t z v n xs) (ht : t = 52 ∨ t = 74) : ∀ k, v.ownBlock = some k → RefBlk b0 w k := by
  intro k hk
  rcases h.2 with ⟨rfl, _⟩ | ⟨g, cap, cur, rfl, hbg, hg, _⟩
  · cases hk
  · have hk : some g = some k := hk
    injection hk with hk; subst hk
    exact ⟨hbg, _, _, hg, .inr ht⟩
theorem RefS.kept {w w' : World} {R : Nat} {s : St} {N : Nat} (h : RefS b0 w R s N) {S : Nat → Prop} (hk : Kept S w w') (hS : ∀ k, RefBlk b0 w k → ¬ S k) : RefS b0 w' R s N := by
  obtain ⟨owns, oths, vo, vt, h1, h2, h3, h4⟩ := h
  exact ⟨owns, oths, vo, vt, ⟨by rw [hk.block R h1.lt (hS R h1.refR)]; exact h1.blk, row_kept h1.own hk (fun k e => hS k (row_ref h1.own (.inl rfl) k e)), row_kept h1.oth hk (fun k e => hS k (row_ref h1.oth (.inr rfl) k e)), h1.digO, h1.digT, h1.far⟩, h2, h3, h4⟩

theorem rtry_ct {w : World} {R : Nat} {s : St} {N : Nat} (h : RefS b0 w R s N) (hN : N ≤ 100000) {T : Int} (hi : Inv s T) (hT : T ≤ 4611686018427387904) {D : Array Value} (hD : IsDig D) {now : Int} (h0 : 0 ≤ now) (hc : s.count < 1000000) :
    Calls Try.prog 11 #[.pointer (some ⟨R, 0, none⟩), .agg D, .int .i64 now] w fun e w' => ∃ v, e = .returned (.tuple #[v, .bool (tryF s D now).2.1]) ∧ Sent w w' v (tryF s D now).1 ∧ Kept (RefBlk b0 w) w w' ∧ RefS b0 w' R (tryF s D now).2.2 (N + 1) := by
  have hh := h
  obtain ⟨owns, oths, vo, vt, h1, h2, h3, h4⟩ := h
  unfold tryF
  cases hl : live s.U D now with
  | some n =>
    refine (rtry_live h1 h2 hD h0 hl).mono fun e w' ⟨he, hk⟩ => ?_
    exact ⟨_, he, rfl, hk.upto, (hh.kept hk (fun _ _ => not_false)).mono (by omega)⟩
  | none =>
    cases ho : s.O (.agg D) with
    | some o =>
      obtain ⟨k, b⟩ := o
      obtain ⟨b1, b2⟩ := hi.begins _ _ _ ho
      refine (rtry_has h1 h2 hD h0 hl ho ⟨b1, by omega⟩ ⟨hi.wait0, hi.wait1⟩).mono fun e w' ⟨he, hk⟩ => ?_
      exact ⟨_, he, rfl, hk.upto, (hh.kept hk (fun _ _ => not_false)).mono (by omega)⟩
    | none =>
      refine (rtry_new h1 h2 hD h0 hl ho hi.count0 hc (by omega)).mono fun e w' ⟨v, vo', he, hs, hk, hR⟩ => ?_
      refine ⟨v, he, hs, hk.mono (fun k hk' q => q.elim (fun q => by rw [q]; exact h1.refR) (row_ref h1.own (.inl rfl) k)), ?_⟩
      exact ⟨_, _, _, _, hR, h2.try_ (fun j e he q => by have := h2.o1 j e he; rw [q, ho] at this; cases this) _ _ _, by simp; omega, by omega⟩
end Go.Proofs.Ytbaehaleigpijaa
