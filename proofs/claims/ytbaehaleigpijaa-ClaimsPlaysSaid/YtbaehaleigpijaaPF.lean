/- The document's Hear: laws for what is heard. -/
import Derived.Test.YtbaehaleigpijaaPD
namespace Go.Proofs.Ytbaehaleigpijaa
open Go.RowKit
set_option linter.unusedSimpArgs false
set_option linter.unusedVariables false
variable {b0 : Nat}

/-- Blocks that are no book's stay. -/
abbrev RKept (b0 : Nat) (w w' : World) : Prop := Kept (RefBlk b0 w) w w'
theorem RefBlk.back {w v : World} (h : RKept b0 w v) {k : Nat} (hk : k < w.heap.size) (hr : RefBlk b0 v k) : RefBlk b0 w k := by
  apply Classical.byContradiction
  intro hn
  have := h.block k hk hn
  obtain ⟨hb, c, t, h1, h2⟩ := hr
  exact hn ⟨hb, c, t, by rw [← this]; exact h1, h2⟩
theorem RKept.to {w v u : World} (h : RKept b0 w v) {T : Nat → Prop} (hk : Kept T v u) (hT : ∀ k, T k → RefBlk b0 v k) : RKept b0 w u :=
  ⟨hk.os.trans h.os, hk.tape.trans h.tape, hk.output.trans h.output, Nat.le_trans h.size hk.size, fun k hkw hn => (hk.block k (Nat.lt_of_lt_of_le hkw h.size) (fun q => hn (RefBlk.back h hkw (hT k q)))).trans (h.block k hkw hn)⟩
theorem RKept.quiet {w v u : World} (h : RKept b0 w v) (hk : Kept (fun _ => False) v u) : RKept b0 w u := h.to hk (fun _ q => q.elim)
theorem not_ref {w : World} {X : Nat} {c : Array Value} {t : TypeId} {fr : Nat × Nat} (h : w.heap[X]? = some (.cells c t fr)) (h1 : t ≠ 50) (h2 : t ≠ 52) (h3 : t ≠ 74) : ¬ RefBlk b0 w X := by
  rintro ⟨_, c', t', q, e⟩
  rw [h] at q
  injection q with q; injection q with _ q
  subst q
  rcases e with e | e | e
  · exact h1 e
  · exact h2 e
  · exact h3 e
theorem store_int {w : World} {b o : Nat} {v0 : Value} {x : Int} (hc : w.cell? ⟨b, o, none⟩ = some v0) (hf : w.frozen? ⟨b, o, none⟩ = false) :
    (Instr.storeAt 3 (.pointer (some ⟨b, o, none⟩)) (.int .i64 x)).run Try.prog w = .ok () (w.setCell ⟨b, o, none⟩ (.int .i64 x)) := by
  go_simp
theorem hearF_gone {s : St} {D : Array Value} {n i c now : Int} (hf : Fine s.id n i c) (ho : oldB s.L D n i c true = false) :
    hearF s D n i c true now = (none, 0, { s with L := upd s.L (plc D n) (some (i, c)), U := upd s.U (plc D n) none }) := by
  unfold hearF; rw [if_neg (by simpa using hf), if_neg (by simp [ho]), if_pos rfl]
theorem hearF_none {s : St} {D : Array Value} {n i c now : Int} (hf : Fine s.id n i c) (ho : oldB s.L D n i c false = false) (h : s.O (.agg D) = none) :
    hearF s D n i c false now = (none, 0, { s with L := upd s.L (plc D n) (some (i, c)), U := upd s.U (plc D n) (some (now + s.ttl)) }) := by
  unfold hearF; rw [if_neg (by simpa using hf), if_neg (by simp [ho]), if_neg (by simp)]; simp only [h]
theorem hearF_stay {s : St} {D : Array Value} {n i c now : Int} (hf : Fine s.id n i c) (ho : oldB s.L D n i c false = false) {o : Int × Int} (h : s.O (.agg D) = some o) (hn : ¬ (n < s.id ∧ now < o.2 + s.wait)) :
    hearF s D n i c false now = (none, 0, { s with L := upd s.L (plc D n) (some (i, c)), U := upd s.U (plc D n) (some (now + s.ttl)) }) := by
  unfold hearF; rw [if_neg (by simpa using hf), if_neg (by simp [ho]), if_neg (by simp)]; simp only [h]; rw [if_neg hn]
theorem hearF_drop {s : St} {D : Array Value} {n i c now : Int} (hf : Fine s.id n i c) (ho : oldB s.L D n i c false = false) {o : Int × Int} (h : s.O (.agg D) = some o) (hn : n < s.id ∧ now < o.2 + s.wait) :
    hearF s D n i c false now = (some (clm D s.id s.inc o.1 true), 0, { s with L := upd s.L (plc D n) (some (i, c)), U := upd s.U (plc D n) (some (now + s.ttl)), O := upd s.O (.agg D) none }) := by
  unfold hearF; rw [if_neg (by simpa using hf), if_neg (by simp [ho]), if_neg (by simp)]; simp only [h]; rw [if_pos hn]

end Go.Proofs.Ytbaehaleigpijaa
