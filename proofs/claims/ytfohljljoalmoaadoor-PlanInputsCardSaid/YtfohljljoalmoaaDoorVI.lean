/- Concat of two trees. -/
import Derived.Test.YtfohljljoalmoaaDoorUE
namespace Go.Proofs.YtfohljljoalmoaaDoor
open Go.RowKit
set_option maxRecDepth 100000
set_option linter.unusedSimpArgs false
set_option linter.unusedVariables false

theorem app_tree {w : World} {base n : Nat} {v x : Value} {ps : List (ByteArray × Value)} {l : List FileE} (h : w.ownsRow base 46 2 v n (prs ps)) (hx : TreeAt w x l) (hn : n + l.length ≤ 1000000) (hb : base ≤ w.heap.size) (ty : TypeId) :
    ∃ v' w' qs, (Builtin.append_ #[27, 27] ty #[v, x]).run Tryd.prog w = .ok v' w' ∧ w'.ownsRow base 46 2 v' (n + l.length) (prs (ps ++ qs)) ∧ PairsAt w qs l ∧ w.grownBy w' v.ownBlock := by
  obtain ⟨a, c, hv⟩ := hx.slc
  subst hv
  obtain ⟨qs, hp, hr⟩ := hx.pairs
  cases a with
  | none =>
    have hl0 : l = [] := by
      apply Classical.byContradiction; intro hh
      obtain ⟨b, o, e, _⟩ := hr hh; cases e
    subst hl0
    obtain rfl : qs = [] := List.eq_nil_of_length_eq_zero hp.1
    obtain ⟨i, hi⟩ : ∃ i, Tryd.prog.info? 46 = some i := ⟨_, rfl⟩
    refine ⟨v, w, [], ?_, by simpa using h, hp, ⟨rfl, rfl, rfl, Nat.le_refl _, fun _ _ _ => rfl⟩⟩
    rcases h.2 with ⟨rfl, rfl⟩ | ⟨g, cap', cur, rfl, _, _, hnc, _⟩
    · simp [Builtin.append_, run_underlying Tryd.underlying27, sizeOf, typeInfo, hi, Builtin.lenOf, Builtin.firstCells]
    · simp [Builtin.append_, run_underlying Tryd.underlying27, sizeOf, typeInfo, hi, Builtin.lenOf, Builtin.firstCells, hnc, storeCells]
  | some ad =>
    obtain ⟨v', w', ap, ho', hg'⟩ := app_files h (ad := ad) (m := l.length) (c := c) (news := prs qs) (by rw [prs_len, hp.1]) (fun j u hu => by
      have hne : l ≠ [] := fun e => by
        have : qs = [] := List.eq_nil_of_length_eq_zero (by rw [hp.1, e]; rfl)
        subst this; simp [prs] at hu
      obtain ⟨b, o, e, hb, hrr⟩ := hr hne
      injection e with e; subst e
      rw [Addr.add_mid]
      exact hrr j u hu) hp.one hn hb 27 ty Tryd.underlying27
    exact ⟨v', w', qs, ap, by rw [prs_app2]; exact ho', hp, hg'⟩

theorem grow_nil {w : World} {k : Nat} (h0 : 0 < k) (hb : k ≤ 100000) (ty : TypeId) :
    ∃ G, k ≤ G ∧ G ≤ maxLen ∧ (Builtin.append_ #[27, 3] ty #[.slice none 0 0, .int .i64 k]).run Tryd.prog w = .ok (.slice (some ⟨w.heap.size, 0, none⟩) k G) (w.drew.alloc (.cells (Builtin.zeroCells Zf k ++ Builtin.zeroCells Zf (G - k)) 46)) := by
  obtain ⟨inf, hi⟩ : ∃ i, Tryd.prog.info? 46 = some i := ⟨_, rfl⟩
  have hz : inf.zero = some (.agg Zf) := by injection hi with hi; subst hi; rfl
  have hs : inf.size = 2 := by injection hi with hi; subst hi; rfl
  have hby : inf.bytes ≤ 100 := by injection hi with hi; subst hi; decide
  have h2 : k * inf.bytes ≤ 140737488355328 := Nat.le_trans (Nat.mul_le_mul hb hby) (by omega)
  have h1 : (0 + k) * inf.bytes ≤ 140737488355328 := by rw [Nat.zero_add]; exact h2
  have hold' : (Builtin.firstCells inf.size 0 (.slice none 0 0)).run Tryd.prog w.drew = .ok ([] : List Value).toArray w.drew := by
    simp [Builtin.firstCells]
  refine ⟨grownCap w (0 + k) 0 46, ?_, ?_, ?_⟩
  · have := grownCap_ge w (0 + k) 0 46; omega
  · exact grownCap_le_maxLen _ _ _ _ (by simp only [maxLen]; omega)
  · have := Lib.run_append_grow_zeros w 27 3 ty 46 inf (.agg Zf) .i64 .i64 Tryd.underlying27 Tryd.underlying3 hi hz none 0 0 [] hold' k h0 (by omega) (by omega) (by omega) (by omega) (growslice_fits (by omega) h1)
    rw [this]
    simp only [Nat.zero_add, Value.cells]
    congr 3
    simp
/-- Room for k files. -/
theorem growT_ct (k : Nat) (hk : k ≤ 1000) (w : World) :
    Calls Tryd.prog 72 #[.slice none 0 0, .int .i64 k] w fun e w' => ∃ v', e = .returned v' ∧ w'.ownsRow w.heap.size 46 2 v' 0 (prs []) ∧ Kept (fun _ => False) w w' := by
  have wk : IntKind.i64.wrap (k : Int) = (k : Int) := IntWalk.i64_in _ (by omega)
  by_cases h0 : k = 0
  · subst h0
    go_enter Tryd.func72, Tryd.ntmps72
    go_wp2_with fail
    go_ret
    exact ⟨_, rfl, World.ownsRow_nil _ _ _ _, Kept.refl _ _⟩
  · have d1 : decide ((k : Int) < 0) = false := decide_eq_false (by omega)
    have d2 : decide ((0 : Int) < (k : Int)) = true := decide_eq_true (by omega)
    have k0 : (0 : Int) < (k : Int) := by omega
    obtain ⟨G, g1, g2, ap⟩ := grow_nil (w := w) (k := k) (by omega) (by omega) 27
    have hs0 : ∀ w', (Instr.sliceAt 27 (.slice none 0 0) none (some (.int .i64 (0 : Int))) none).run Tryd.prog w' = .ok (.slice none 0 0) w' := fun w' => by kernel_rfl
    have hs1 : ∀ w', (Instr.sliceAt 27 (.slice (some ⟨w.heap.size, 0, none⟩) k G) none (some (.int .i64 ((0 : Nat) : Int))) none).run Tryd.prog w' = .ok (.slice (some ⟨w.heap.size, 0, none⟩) 0 G) w' := slHi rfl (by omega) (by omega)
    have hc := heap_last w.drew (.cells (Builtin.zeroCells Zf k ++ Builtin.zeroCells Zf (G - k)) 46)
    have k1 : Kept (fun _ => False) w (w.drew.alloc (.cells (Builtin.zeroCells Zf k ++ Builtin.zeroCells Zf (G - k)) 46)) := (Kept.refl _ w).drew.alloc _
    have HO : Hid ((w.drew.alloc (.cells (Builtin.zeroCells Zf k ++ Builtin.zeroCells Zf (G - k)) 46)).ownsRow w.heap.size 46 2 (.slice (some ⟨w.heap.size, 0, none⟩) 0 G) 0 (prs [])) := by
      unfold Hid
      refine ⟨rfl, .inr ⟨w.heap.size, G, _, rfl, Nat.le_refl _, hc, by omega, g2, ?_, ?_⟩⟩
      · rw [Array.size_append, size_zeroCells, size_zeroCells, show Zf.size = 2 from rfl]; omega
      · simp [prs]
    clear hc
    generalize w.drew.alloc (.cells (Builtin.zeroCells Zf k ++ Builtin.zeroCells Zf (G - k)) 46) = W1 at ap k1 HO
    go_enter Tryd.func72, Tryd.ntmps72
    go_wp2_with (first
      | (refine wpl_val rfl (exec_append2 27 3 _ _ rfl rfl rfl ap) ?_))
    go_ret
    exact ⟨_, rfl, HO.out, k1⟩
end Go.Proofs.YtfohljljoalmoaaDoor
