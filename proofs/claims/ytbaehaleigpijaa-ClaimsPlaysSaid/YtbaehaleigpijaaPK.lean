/- The document's Hear as a function of the state; the two books side by side. -/
import Derived.Test.YtbaehaleigpijaaPE
import Derived.Test.YtbaehaleigpijaaPG
import Derived.Test.YtbaehaleigpijaaPH
import Derived.Test.YtbaehaleigpijaaPI
import Derived.Test.YtbaehaleigpijaaPJ
import Derived.Test.YtbaehaleigpijaaG3
import Derived.Test.YtbaehaleigpijaaQ2
namespace Go.Proofs.Ytbaehaleigpijaa
open Go.RowKit
set_option linter.unusedSimpArgs false
set_option linter.unusedVariables false
variable {b0 : Nat}

theorem rhear_ct {w : World} {R : Nat} {s : St} {N : Nat} (h : RefS b0 w R s N) (hN : N ≤ 99999) {T : Int} (hi : Inv s T) (hT : T ≤ 4611686018427387904) {D : Array Value} (hD : IsDig D) (n i c : Int) (g : Bool) {now : Int} (hn0 : 0 ≤ now) (hn1 : now ≤ 4611686018427387904) :
    Calls Try.prog 17 #[.pointer (some ⟨R, 0, none⟩), .agg (clm D n i c g), .int .i64 now] w fun e w' => ∃ v, e = .returned (.tuple #[v, .int .i64 (hearF s D n i c g now).2.1]) ∧ Sent w w' v (hearF s D n i c g now).1 ∧ RKept b0 w w' ∧ RefS b0 w' R (hearF s D n i c g now).2.2 (N + 1) := by
  have hh := h
  obtain ⟨owns, oths, vo, vt, h1, h2, h3, h4⟩ := h
  have same : ∀ {w'}, Kept (fun _ => False) w w' → RKept b0 w w' ∧ RefS b0 w' R s (N + 1) := fun q => ⟨q.upto, (hh.kept q (fun _ _ => not_false)).mono (by omega)⟩
  by_cases hf : Fine s.id n i c
  · cases ho : oldB s.L D n i c g with
    | true =>
      have e : hearF s D n i c g now = (none, 220, s) := by unfold hearF; rw [if_neg (by simpa using hf), if_pos ho]
      obtain ⟨l, hl⟩ : ∃ l, s.L (plc D n) = some l := by
        cases hl : s.L (plc D n) with
        | none => unfold oldB at ho; rw [hl] at ho; cases ho
        | some l => exact ⟨l, rfl⟩
      refine (rhear_old h1 h2 hD hf (Lib.hid hl) (Lib.hid ho)).mono fun e' w' ⟨he, hk⟩ => ?_
      rw [e]
      exact ⟨_, he, rfl, same hk⟩
    | false =>
      cases hl : s.L (plc D n) with
      | none =>
        cases g with
        | true => exact rhear_fgone h1 h2 hD hf (Lib.hid hl) h3 h4 hN (Lib.hid rfl) (Lib.hid ho)
        | false => exact rhear_fstay h1 h2 hD hf (Lib.hid hl) h3 h4 hN (Lib.hid rfl) (Lib.hid ho) hi hT hn0 hn1
      | some l =>
        cases g with
        | true => exact rhear_agone h1 h2 hD hf (Lib.hid hl) h3 h4 hN (Lib.hid rfl) (Lib.hid ho)
        | false => exact rhear_astay h1 h2 hD hf (Lib.hid hl) h3 h4 hN (Lib.hid rfl) (Lib.hid ho) hi hT hn0 hn1
  · have e : hearF s D n i c g now = (none, 2, s) := by unfold hearF; rw [if_pos hf]
    refine (rhear_bad h1 hD hf).mono fun e' w' ⟨he, hk⟩ => ?_
    rw [e]
    exact ⟨_, he, rfl, same hk⟩

def Z39 : Array Value := #[.int .i64 0, .int .i64 0, .int .u8 0] ++ Z36
theorem zeroOp (w : World) : (zeroValue 35).run Try.prog w = .ok (.agg Z39) w := by kernel_rfl
theorem load_op {o : OpR} (ho : o.Ok) {w : World} {b q : Nat} (h : w.rangeAt b q o.cells.toList) : (Instr.loadAt 35 (.pointer (some ⟨b, q, none⟩))).run Try.prog w = .ok (.agg o.cells) w := by
  have := run_loadAt_mid (P := Try.prog) w b q 35 o.cells.toList _ h Try.underlying35 rfl (by rw [Array.length_toList, OpR.size ho]; kernel_rfl)
  simpa using this
theorem load_op_row {o : OpR} (ho : o.Ok) {w : World} {b : Nat} {t : TypeId} {fr : Nat × Nat} (h : w.heap[b]? = some (.cells o.cells t fr)) :
    (Instr.loadAt 35 (.pointer (some ⟨b, 0, none⟩))).run Try.prog w = .ok (.agg o.cells) w :=
  load_row Try.underlying35 rfl h (by rw [OpR.size ho]; kernel_rfl)
theorem live_two (o : Option Nat) : ∃ x y, liveV o = .tuple #[.int .i64 x, .bool y] := ⟨_, _, rfl⟩
theorem BkS.notref {w : World} {p : Pl} {s : St} (h : BkS w p s) : ∀ k, p.S k → ¬ RefBlk b0 w k := by
  rintro k hk ⟨_, c, t, h1, h2⟩
  rcases hk with rfl | rfl | rfl | rfl
  · have := h.blk
    rw [h1] at this
    injection this with this; injection this with _ this
    subst this
    rcases h2 with h2 | h2 | h2 <;> exact absurd h2 (by decide)
  · obtain ⟨es, ck, h3, _⟩ := h.o; rw [h1] at h3; cases h3
  · obtain ⟨es, ck, h3, _⟩ := h.l; rw [h1] at h3; cases h3
  · obtain ⟨es, ck, h3, _⟩ := h.u; rw [h1] at h3; cases h3
theorem BkS.ref {w w' : World} {p : Pl} {s : St} (h : BkS w p s) (hk : RKept b0 w w') : BkS w' p s :=
  Bk.of_blocks h (hk.block _ (BkS.lt h _ (.inl rfl)) (BkS.notref h _ (.inl rfl))) (hk.block _ (BkS.lt h _ (.inr (.inl rfl))) (BkS.notref h _ (.inr (.inl rfl)))) (hk.block _ (BkS.lt h _ (.inr (.inr (.inl rfl)))) (BkS.notref h _ (.inr (.inr (.inl rfl))))) (hk.block _ (BkS.lt h _ (.inr (.inr (.inr rfl)))) (BkS.notref h _ (.inr (.inr (.inr rfl)))))
theorem RefS.prog {w w' : World} {R : Nat} {s s' : St} {N : Nat} {p : Pl} (h : RefS b0 w R s N) (hb : BkS w p s') (hk : Kept p.S w w') : RefS b0 w' R s N :=
  h.kept hk (fun k hr hp => BkS.notref hb k hp hr)
theorem SlC.ref {w w' : World} {v : Value} {o : Option (Array Value)} (h : SlC w v o) (hk : RKept b0 w w') : SlC w' v o := by
  cases o with
  | none => exact h
  | some c =>
    obtain ⟨r, h1, h2⟩ := h
    exact ⟨r, h1, by rw [hk.block r (Array.getElem?_eq_some_iff.1 h2).1 (not_ref h2 (by decide) (by decide) (by decide))]; exact h2⟩

/-- The two books side by side, in one state, in memory that was made since w0. -/
structure Duo (w0 w : World) (p : Pl) (R : Nat) (s : St) (N : Nat) : Prop where
  a : BkS w p s
  b : RefS w0.heap.size w R s N
  kept : Kept (fun _ => False) w0 w
theorem Duo.quiet {w0 w w' : World} {p : Pl} {R : Nat} {s : St} {N : Nat} (h : Duo w0 w p R s N) (hk : Kept (fun _ => False) w w') : Duo w0 w' p R s N :=
  ⟨Bk.kept h.a hk, h.b.kept hk (fun _ _ => not_false), h.kept.trans hk⟩
theorem kept_ref {w0 w w' : World} (h : Kept (fun _ => False) w0 w) (hk : RKept w0.heap.size w w') : Kept (fun _ => False) w0 w' :=
  h.trans' hk (fun k h1 h2 => absurd h2.1 (Nat.not_le.2 h1))
theorem kept_prog {w0 w w' : World} {p : Pl} (hp : ∀ k, p.S k → w0.heap.size ≤ k) (h : Kept (fun _ => False) w0 w) (hk : Kept p.S w w') : Kept (fun _ => False) w0 w' :=
  h.trans' hk (fun k h1 h2 => absurd (hp k h2) (Nat.not_le.2 h1))
/-- A memory that is neither book's stays. -/
theorem duo_block {w0 w w' w'' : World} {p : Pl} (hk : Kept p.S w w') (hr : RKept w0.heap.size w' w'') {k : Nat} {c : Array Value} {t : TypeId} {fr : Nat × Nat} (h : w.heap[k]? = some (.cells c t fr)) (hS : ¬ p.S k)
    (h1 : t ≠ 50) (h2 : t ≠ 52) (h3 : t ≠ 74) : w''.heap[k]? = some (.cells c t fr) := by
  have hl := (Array.getElem?_eq_some_iff.1 h).1
  have e1 := (hk.block k hl hS).trans h
  exact (hr.block k (Nat.lt_of_lt_of_le hl hk.size) (not_ref e1 h1 h2 h3)).trans e1
end Go.Proofs.Ytbaehaleigpijaa
