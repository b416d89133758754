/- The stable sort's parts: the row as an array, its order, what a step does to it; swapRange. -/
import Derived.Test.YtfohljljoalmoaaDoorUE
import Derived.Sort.LotA
namespace Go.Proofs.YtfohljljoalmoaaDoor
open Go.RowKit Go.Sort
set_option maxRecDepth 100000
set_option linter.unusedSimpArgs false
set_option linter.unusedVariables false

abbrev E : Type := { p : ByteArray × Value // p.2.oneCell' = true }
instance : Inhabited E := ⟨⟨(⟨#[]⟩, .slice none 0 0), rfl⟩⟩
def eps (d : Array E) : List (ByteArray × Value) := d.toList.map (·.1)
theorem eps_len (d : Array E) : (eps d).length = d.size := by simp [eps]
def ltE (a b : E) : Bool := ltB a.1.1 b.1.1
theorem ltB_ntrans {a b c : ByteArray} (h : ltB a b = false) (k : ltB b c = false) : ltB a c = false := by
  rw [Bool.eq_false_iff]
  intro hac
  cases hba : ltB b a with
  | true => rw [ltB_trans hba hac] at k; cases k
  | false => have := ltB_tri h hba; subst this; rw [hac] at k; cases k
theorem swoE : SWO ltE := ⟨fun x => ltB_irrefl _, fun _ _ _ h k => ltB_trans h k, fun _ _ _ h k => ltB_ntrans h k⟩
theorem cmpI_neg (p q : ByteArray) : decide (cmpI p q < 0) = ltB p q := by
  unfold cmpI
  cases ltB p q <;> cases eqB p q <;> rfl
/-- The row holds d; but for it all that was there in w0 is as it was. -/
def SF (w0 : World) (base g cap : Nat) (d : Array E) (w : World) : Prop :=
  w.ownsRow base 46 2 (.slice (some ⟨g, 0, none⟩) d.size cap) d.size (prs (eps d)) ∧ Kept (fun k => k = g) w0 w
theorem SF.later {w0 w w' : World} {base g cap : Nat} {d : Array E} (h : SF w0 base g cap d w) (hk : Kept (fun _ => False) w w') : SF w0 base g cap d w' :=
  ⟨row_kept h.1 hk, h.2.trans' hk (fun _ _ q => q.elim)⟩
def aggE (x : E) : Value := .agg #[.string x.1.1, x.1.2]
theorem eps_get {d : Array E} {i : Nat} (hi : i < d.size) : (eps d)[i]? = some d[i]!.1 := by
  unfold eps
  rw [List.getElem?_map, getElem!_pos d i hi]
  simp [hi]
theorem eps_set (d : Array E) (i : Nat) (x : E) : eps (d.setIfInBounds i x) = (eps d).set i x.1 := by
  unfold eps
  rw [Array.toList_setIfInBounds, List.map_set]
theorem SF.load {w0 w : World} {base g cap : Nat} {d : Array E} (h : SF w0 base g cap d w) {i : Nat} (hi : i < d.size) (w' : World) (hk : Kept (fun _ => False) w w') :
    (Instr.loadAt 46 (.pointer (some ⟨g, i * 2, none⟩))).run Tryd.prog w' = .ok (aggE d[i]!) w' := by
  have ho := (h.later hk).1
  obtain ⟨p1, p2⟩ := prs_get (eps d) i _ (eps_get hi)
  have c1 := ho.cells (g := g) rfl _ _ p1
  have c2 := ho.cells (g := g) rfl _ _ p2
  rw [Addr.add_mid, Nat.zero_add] at c1 c2
  exact load_file (fun j v hv => by
    match j, hv with
    | 0, hv => simp at hv; subst hv; exact c1
    | 1, hv => simp at hv; subst hv; exact c2)
theorem SF.swap {w0 w : World} {base g cap : Nat} {d : Array E} (h : SF w0 base g cap d w) {i j : Nat} (hi : i < d.size) (hj : j < d.size) (hg : w0.heap.size ≤ w.heap.size) :
    ∃ w1 w2, (Instr.storeAt 46 (.pointer (some ⟨g, i * 2, none⟩)) (aggE d[j]!)).run Tryd.prog w = .ok () w1 ∧ (Instr.storeAt 46 (.pointer (some ⟨g, j * 2, none⟩)) (aggE d[i]!)).run Tryd.prog w1 = .ok () w2 ∧
      Kept (fun k => k = g) w w1 ∧ Kept (fun k => k = g) w w2 ∧ SF w0 base g cap (swp d i j) w2 := by
  obtain ⟨ho, hk⟩ := h
  have hl := eps_len d
  rw [← hl] at ho
  obtain ⟨w1, s1, o1, k1⟩ := store_file2 ho (i := i) (by rw [hl]; exact hi) d[j]!.1.1 d[j]!.2
  have hl2 : ((eps d).set i (d[j]!.1.1, d[j]!.1.2)).length = (eps d).length := List.length_set
  rw [← hl2] at o1
  obtain ⟨w2, s2, o2, k2⟩ := store_file2 o1 (i := j) (by rw [hl2, hl]; exact hj) d[i]!.1.1 d[i]!.2
  refine ⟨w1, w2, s1, s2, k1, k1.trans k2, ?_, (hk.trans k1).trans k2⟩
  have e : eps (swp d i j) = ((eps d).set i (d[j]!.1.1, d[j]!.1.2)).set j (d[i]!.1.1, d[i]!.1.2) := by unfold swp; rw [eps_set, eps_set]
  rw [e, size_swp]
  rw [hl2, hl] at o2
  exact o2
/-- cmp at two files. -/
theorem join1_ct {w : World} (x y : E) : Calls Tryd.prog 52 #[aggE x, aggE y] w fun e w' => e = .returned (.int .i64 (cmpI x.1.1 y.1.1)) ∧ Kept (fun _ => False) w w' := by
  obtain ⟨⟨p, u⟩, hu⟩ := x
  obtain ⟨⟨q, v⟩, hv⟩ := y
  unfold aggE
  dsimp only
  have k1 : Kept (fun _ => False) w ((w.alloc (.cells #[.string p, u] 46)).alloc (.cells #[.string q, v] 46)) := ((Kept.refl _ w).alloc _).alloc _
  have cc := cmp_ct p q ((w.alloc (.cells #[.string p, u] 46)).alloc (.cells #[.string q, v] 46))
  have b1 := heap_last w (.cells #[.string p, u] 46)
  have b2 := heap_last (w.alloc (.cells #[.string p, u] 46)) (.cells #[.string q, v] 46)
  go_enter Tryd.func52, Tryd.ntmps52
  go_wp2_with fail
  refine cc.mono ?_
  rintro e W ⟨rfl, hW⟩
  subst hW
  go_wp2_with fail
  go_ret
  exact ⟨rfl, k1⟩

theorem load_E {w0 w : World} {base g cap : Nat} {d : Array E} (h : SF w0 base g cap d w) {i : Nat} (hi : i < d.size) : (Instr.loadAt 46 (.pointer (some ⟨g, i * 2, none⟩))).run Tryd.prog w = .ok (aggE d[i]!) w := h.load hi w (Kept.refl _ _)
end Go.Proofs.YtfohljljoalmoaaDoor
