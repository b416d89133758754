/- What is sent is a claim; a claim heard again; ops. -/
import Derived.Test.YtbaehaleigpijaaG1
namespace Go.Proofs.Ytbaehaleigpijaa
open Go.RowKit
set_option linter.unusedSimpArgs false
set_option linter.unusedVariables false

/-- The book's numbers fit. -/
structure Fit (s : St) (M : Int) : Prop where
  id0 : 0 ≤ s.id
  id1 : s.id < 16
  inc0 : 0 ≤ s.inc
  inc1 : s.inc ≤ 1099511627776
  count0 : 0 ≤ s.count
  count1 : s.count ≤ M
  owns : ∀ x k b, s.O x = some (k, b) → 0 ≤ k ∧ k ≤ M
theorem clmOk_of {n i c : Int} (h1 : 0 ≤ n ∧ n < 16) (h2 : 0 ≤ i ∧ i ≤ 1099511627776) (h3 : 0 ≤ c ∧ c ≤ 4611686018427387904) : ClmOk n i c :=
  ⟨WalkArith.wf_i64 (by omega), by simp only [Lit.wf, Bool.and_eq_true, decide_eq_true_eq]; exact ⟨h2.1, Int.le_trans h2.2 (by decide)⟩, by simp only [Lit.wf, Bool.and_eq_true, decide_eq_true_eq]; exact ⟨h3.1, Int.le_trans h3.2 (by decide)⟩⟩
theorem Fit.mono {s : St} {M M' : Int} (h : Fit s M) (hm : M ≤ M') : Fit s M' := ⟨h.id0, h.id1, h.inc0, h.inc1, h.count0, Int.le_trans h.count1 hm, fun x k b q => ⟨(h.owns x k b q).1, Int.le_trans (h.owns x k b q).2 hm⟩⟩
theorem Fit.new {id inc wait ttl : Int} (h : NewOk id inc wait ttl) (hi : 0 ≤ inc) : Fit (new0 id inc wait ttl) 0 := ⟨h.1.1, h.1.2, hi, h.2.1, Int.le_refl _, Int.le_refl _, fun x k b q => by cases q⟩
theorem fit_del {s : St} {M : Int} (h : Fit s M) (y : Value) : ∀ x k b, upd s.O y none x = some (k, b) → 0 ≤ k ∧ k ≤ M := fun x k b q => by
  by_cases e : x = y
  · subst e; rw [upd_same] at q; cases q
  · rw [upd_other _ _ _ e] at q; exact h.owns x k b q
theorem Fit.try_ {s : St} {M : Int} (h : Fit s M) (hM : M < 4611686018427387904) {D : Array Value} (hD : IsDig D) (now : Int) : Fit (tryF s D now).2.2 (M + 1) ∧ IsSent (tryF s D now).1 := by
  unfold tryF
  cases live s.U D now with
  | some n => exact ⟨h.mono (by omega), trivial⟩
  | none =>
    cases ho : s.O (.agg D) with
    | some o => exact ⟨h.mono (by omega), trivial⟩
    | none =>
      have h1 := h.count0
      have h2 := h.count1
      refine ⟨⟨h.id0, h.id1, h.inc0, h.inc1, by show 0 ≤ s.count + 1; omega, by show s.count + 1 ≤ M + 1; omega, fun x k b q => ?_⟩, D, s.id, s.inc, s.count + 1, false, hD, clmOk_of ⟨h.id0, h.id1⟩ ⟨h.inc0, h.inc1⟩ ⟨by omega, by omega⟩, rfl⟩
      have q : upd s.O (.agg D) (some (s.count + 1, now)) x = some (k, b) := q
      by_cases e : x = .agg D
      · subst e; rw [upd_same] at q; injection q with q; injection q with q1 q2; subst q1; exact ⟨by omega, by omega⟩
      · rw [upd_other _ _ _ e] at q; have := h.owns x k b q; exact ⟨this.1, by omega⟩
theorem Fit.drop {s : St} {M : Int} (h : Fit s M) (hM : M < 4611686018427387904) {D : Array Value} (hD : IsDig D) : Fit (dropF s D).2 M ∧ IsSent (dropF s D).1 := by
  unfold dropF
  cases ho : s.O (.agg D) with
  | none => exact ⟨h, trivial⟩
  | some o =>
    obtain ⟨k, b⟩ := o
    have h1 := h.owns _ _ _ ho
    exact ⟨⟨h.id0, h.id1, h.inc0, h.inc1, h.count0, h.count1, fit_del h _⟩, D, s.id, s.inc, k, true, hD, clmOk_of ⟨h.id0, h.id1⟩ ⟨h.inc0, h.inc1⟩ ⟨h1.1, by omega⟩, rfl⟩
theorem Fit.hear {s : St} {M : Int} (h : Fit s M) (hM : M < 4611686018427387904) {D : Array Value} (hD : IsDig D) (n i c : Int) (g : Bool) (now : Int) : Fit (hearF s D n i c g now).2.2 M ∧ IsSent (hearF s D n i c g now).1 := by
  unfold hearF
  split
  · exact ⟨h, trivial⟩
  · split
    · exact ⟨h, trivial⟩
    · split
      · exact ⟨⟨h.id0, h.id1, h.inc0, h.inc1, h.count0, h.count1, h.owns⟩, trivial⟩
      · split
        · exact ⟨⟨h.id0, h.id1, h.inc0, h.inc1, h.count0, h.count1, h.owns⟩, trivial⟩
        · rename_i o ho
          split
          · obtain ⟨k, b⟩ := o
            have h1 := h.owns _ _ _ ho
            exact ⟨⟨h.id0, h.id1, h.inc0, h.inc1, h.count0, h.count1, fit_del h _⟩, D, s.id, s.inc, k, true, hD, clmOk_of ⟨h.id0, h.id1⟩ ⟨h.inc0, h.inc1⟩ ⟨h1.1, by omega⟩, rfl⟩
          · exact ⟨⟨h.id0, h.id1, h.inc0, h.inc1, h.count0, h.count1, h.owns⟩, trivial⟩

theorem upd_upd {α : Type} (f : Value → Option α) (x : Value) (v v' : Option α) : upd (upd f x v) x v' = upd f x v' := by
  funext y
  by_cases h : y = x
  · subst h; rw [upd_same, upd_same]
  · rw [upd_other _ _ _ h, upd_other _ _ _ h, upd_other _ _ _ h]
theorem upd_self {α : Type} (f : Value → Option α) (x : Value) (v : Option α) (h : f x = v) : upd f x v = f := by
  funext y
  by_cases e : y = x
  · subst e; rw [upd_same, h]
  · rw [upd_other _ _ _ e]
theorem abv_irr (s : Int × Int) : abv s s = false := by simp [abv]
/-- Heard again at once: nothing is sent, nothing changes; refused, but for a release. -/
theorem hear_again (s : St) (D : Array Value) (n i c : Int) (g : Bool) (now : Int) :
    (hearF (hearF s D n i c g now).2.2 D n i c g now).1 = none ∧ (hearF (hearF s D n i c g now).2.2 D n i c g now).2.2 = (hearF s D n i c g now).2.2 ∧
    ((hearF s D n i c g now).2.1 = 0 → g = false → (hearF (hearF s D n i c g now).2.2 D n i c g now).2.1 = 220) ∧
    ((hearF s D n i c g now).2.1 ≠ 0 → (hearF (hearF s D n i c g now).2.2 D n i c g now).2.1 = (hearF s D n i c g now).2.1) := by
  by_cases hf : Fine s.id n i c
  · by_cases ho : oldB s.L D n i c g = true
    · have e : hearF s D n i c g now = (none, 220, s) := by unfold hearF; rw [if_neg (by simpa using hf), if_pos ho]
      rw [e]
      simp only [e]
      exact ⟨trivial, trivial, by omega, fun _ => trivial⟩
    · have ol : ∀ (L : Value → Option (Int × Int)), oldB (upd L (plc D n) (some (i, c))) D n i c g = !g := fun L => by simp [oldB, upd_same, abv_irr]
      cases g with
      | true =>
        have e : hearF s D n i c true now = (none, 0, { s with L := upd s.L (plc D n) (some (i, c)), U := upd s.U (plc D n) none }) := by unfold hearF; rw [if_neg (by simpa using hf), if_neg ho, if_pos rfl]
        rw [e]
        have e2 : hearF { s with L := upd s.L (plc D n) (some (i, c)), U := upd s.U (plc D n) none } D n i c true now = (none, 0, { s with L := upd s.L (plc D n) (some (i, c)), U := upd s.U (plc D n) none }) := by
          unfold hearF
          rw [if_neg (by simpa using hf), if_neg (by rw [ol]; simp), if_pos rfl]
          simp only [upd_upd]
        simp only [e2]
        exact ⟨trivial, trivial, by simp, by simp⟩
      | false =>
        have e2 : ∀ s' : St, s'.id = s.id → s'.L = upd s.L (plc D n) (some (i, c)) → hearF s' D n i c false now = (none, 220, s') := fun s' h1 h2 => by
          unfold hearF
          rw [h1, if_neg (by simpa using hf), h2, if_pos (by rw [ol]; rfl)]
        have e1 : (hearF s D n i c false now).2.1 = 0 ∧ (hearF s D n i c false now).2.2.id = s.id ∧ (hearF s D n i c false now).2.2.L = upd s.L (plc D n) (some (i, c)) := by
          unfold hearF
          rw [if_neg (by simpa using hf), if_neg ho, if_neg (by simp)]
          split
          · exact ⟨rfl, rfl, rfl⟩
          · split
            · exact ⟨rfl, rfl, rfl⟩
            · exact ⟨rfl, rfl, rfl⟩
        obtain ⟨h1, h2, h3⟩ := e1
        rw [e2 _ h2 h3]
        exact ⟨rfl, rfl, fun _ _ => rfl, fun h => absurd h1 h⟩
  · have e : hearF s D n i c g now = (none, 2, s) := by unfold hearF; rw [if_pos hf]
    rw [e]
    simp only [e]
    exact ⟨trivial, trivial, by omega, fun _ => trivial⟩

/-- An op. -/
structure OpR where
  kind : Int
  by_ : Int
  key : Int
  D : Array Value
  n : Int
  i : Int
  c : Int
  g : Bool
def OpR.cells (o : OpR) : Array Value := opv o.kind o.by_ o.key (clm o.D o.n o.i o.c o.g)
structure OpR.Ok (o : OpR) : Prop where
  dig : IsDig o.D
  key0 : 0 ≤ o.key
  key1 : o.key < 256
  kind : (Lit.int .i64 o.kind).wf = true
  by_ : (Lit.int .i64 o.by_).wf = true
/-- A slice value that reads as ops. -/
def OpsAt (w : World) (v : Value) (len : Nat) (ops : Nat → OpR) : Prop :=
  ∃ (a : Option Addr) (cap : Nat), v = .slice a len cap ∧ len ≤ maxLen ∧ ∀ i, i < len → (ops i).Ok ∧ ∃ b o, a = some ⟨b, o, none⟩ ∧ b < w.heap.size ∧ w.rangeAt b (o + i * 39) (ops i).cells.toList
theorem OpR.size {o : OpR} (h : o.Ok) : o.cells.size = 39 := by simp [OpR.cells, h.dig.size]
theorem OpR.oneCell {o : OpR} (h : o.Ok) : o.cells.all (·.oneCell') = true := by
  unfold OpR.cells
  rw [Array.all_append, clm_oneCell h.dig]; simp [Value.oneCell']
end Go.Proofs.Ytbaehaleigpijaa
