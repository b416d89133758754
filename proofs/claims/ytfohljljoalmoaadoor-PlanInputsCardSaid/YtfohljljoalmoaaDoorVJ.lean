/- Concat of two trees; the sort of a row of files. -/
import Derived.Test.YtfohljljoalmoaaDoorVI
import Derived.Test.YtfohljljoalmoaaDoorVH
namespace Go.Proofs.YtfohljljoalmoaaDoor
open Go.RowKit Go.Sort
set_option maxRecDepth 100000
set_option linter.unusedSimpArgs false
set_option linter.unusedVariables false

theorem PairsAt.app {w : World} {ps qs : List (ByteArray × Value)} {l m : List FileE} (h : PairsAt w ps l) (k : PairsAt w qs m) : PairsAt w (ps ++ qs) (l ++ m) := by
  refine ⟨by simp [h.1, k.1], fun j f hf => ?_⟩
  by_cases e : j < l.length
  · rw [List.getElem?_append_left e] at hf
    obtain ⟨h1, x, h2, h3⟩ := h.2 j f hf
    exact ⟨h1, x, by rw [List.getElem?_append_left (by rw [h.1]; exact e)]; exact h2, h3⟩
  · rw [List.getElem?_append_right (by omega)] at hf
    obtain ⟨h1, x, h2, h3⟩ := k.2 _ f hf
    exact ⟨h1, x, by rw [List.getElem?_append_right (by rw [h.1]; omega), h.1]; exact h2, h3⟩

/-- The same, the tree told in an older world. -/
theorem app_tree2 {w0 w : World} {base n : Nat} {v x : Value} {ps : List (ByteArray × Value)} {l : List FileE} (h : w.ownsRow base 46 2 v n (prs ps)) (hx : TreeAt w0 x l) (hk : Kept (fun _ => False) w0 w) (hn : n + l.length ≤ 1000000) (hb : base ≤ w.heap.size) (ty : TypeId) :
    ∃ v' w' qs, (Builtin.append_ #[27, 27] ty #[v, x]).run Tryd.prog w = .ok v' w' ∧ w'.ownsRow base 46 2 v' (n + l.length) (prs (ps ++ qs)) ∧ PairsAt w0 qs l ∧ w.grownBy w' v.ownBlock := by
  obtain ⟨a, c, hv⟩ := hx.slc
  subst hv
  obtain ⟨qs, hp, hr⟩ := hx.pairs
  cases a with
  | none =>
    have hl0 : l = [] := by
      apply Classical.byContradiction; intro hh
      obtain ⟨b, o, e, _⟩ := hr hh; cases e
    subst hl0
    obtain ⟨v', w', qs', h1, h2, h3, h4⟩ := app_tree h (hx.kept hk) hn hb ty
    obtain rfl : qs' = [] := List.eq_nil_of_length_eq_zero h3.1
    obtain rfl : qs = [] := List.eq_nil_of_length_eq_zero hp.1
    exact ⟨v', w', [], h1, h2, hp, h4⟩
  | some ad =>
    obtain ⟨v', w', ap, ho', hg'⟩ := app_files h (ad := ad) (m := l.length) (c := c) (news := prs qs) (by rw [prs_len, hp.1]) (fun j u hu => by
      have hne : l ≠ [] := fun e => by
        have : qs = [] := List.eq_nil_of_length_eq_zero (by rw [hp.1, e]; rfl)
        subst this; simp [prs] at hu
      obtain ⟨b, o, e, hbl, hrr⟩ := hr hne
      injection e with e; subst e
      rw [Addr.add_mid]
      exact rangeAt_stay hk hbl not_false hrr j u hu) hp.one hn hb 27 ty Tryd.underlying27
    exact ⟨v', w', qs, ap, by rw [prs_app2]; exact ho', hp, hg'⟩

set_option maxRecDepth 100000 in
set_option maxHeartbeats 2000000 in
theorem concat_ct {w : World} {va vb : Value} {la lb : List FileE} (ha : TreeAt w va la) (hb : TreeAt w vb lb) (hla : la.length ≤ 100) (hlb : lb.length ≤ 100) {gb : Nat} {t : TypeId} {fr : Nat × Nat} (hg : w.heap[gb]? = some (.cells #[va, vb] t fr)) :
    Calls Tryd.prog 50 #[.slice (some ⟨gb, 0, none⟩) 2 2] w fun e w' => ∃ v' ps, e = .returned v' ∧ w'.ownsRow w.heap.size 46 2 v' ps.length (prs ps) ∧ PairsAt w ps (la ++ lb) ∧ Kept (fun _ => False) w w' := by
  obtain ⟨aa, ca, hva⟩ := ha.slc
  subst hva
  obtain ⟨ab, cb, hvb⟩ := hb.slc
  subst hvb
  have hgl := (Array.getElem?_eq_some_iff.1 hg).1
  have c0 : ∀ w', Kept (fun _ => False) w w' → w'.cell? ⟨gb, 0, none⟩ = some (.slice aa la.length ca) := fun w' q => by rw [q.cell (p := ⟨gb, 0, none⟩) hgl not_false, cell_of_row _ _ _ _ _ _ hg]; rfl
  have c1 : ∀ w', Kept (fun _ => False) w w' → w'.cell? ⟨gb, 1, none⟩ = some (.slice ab lb.length cb) := fun w' q => by rw [q.cell (p := ⟨gb, 1, none⟩) hgl not_false, cell_of_row _ _ _ _ _ _ hg]; rfl
  obtain ⟨n, hn⟩ : ∃ n, n = la.length + lb.length := ⟨_, rfl⟩
  have wla : IntKind.i64.wrap (la.length : Int) = (la.length : Int) := IntWalk.i64_in _ (by omega)
  have wn : IntKind.i64.wrap ((la.length : Int) + (lb.length : Int)) = (n : Int) := by rw [IntWalk.i64_in _ (by omega)]; omega
  have d1 : decide ((la.length : Int) < 0) = false := decide_eq_false (by omega)
  have d2 : decide ((n : Int) < 0) = false := decide_eq_false (by omega)
  have c00 := c0 w (Kept.refl _ w)
  have c11 := c1 w (Kept.refl _ w)
  have HN := Lib.hid hn
  have gc := growT_ct n (by omega) w
  clear hn
  go_enter Tryd.func50, Tryd.ntmps50
  go_wp2_with fail
  refine wp_loop_rounds 3 ?_
  rw [rounds_succ]
  go_wp2_with fail
  rw [rounds_succ]
  go_wp2_with fail
  rw [rounds_succ]
  go_wp2_with fail
  refine gc.mono ?_
  rintro e W ⟨v1, rfl, ho, k1⟩
  obtain ⟨v2, W2, qa, ap1, ho1, hpa, gr1⟩ := app_tree2 ho ha k1 (by omega) k1.size 27
  rw [Nat.zero_add] at ho1
  have k2 : Kept (fun _ => False) w W2 := grown_kept k1 gr1 (fun k e => (World.ownsRow.lt ho k e).1)
  obtain ⟨v3, W3, qb, ap2, ho2, hpb, gr2⟩ := app_tree2 ho1 hb k2 (by omega) k2.size 27
  have k3 : Kept (fun _ => False) w W3 := grown_kept k2 gr2 (fun k e => (World.ownsRow.lt ho1 k e).1)
  obtain ⟨a1, cc1, hv1⟩ := row_form ho
  subst hv1
  obtain ⟨a2, cc2, hv2⟩ := row_form ho1
  subst hv2
  obtain ⟨a3, cc3, hv3⟩ := row_form ho2
  subst hv3
  have c01 := c0 W k1
  have c12 := c1 W2 k2
  have HO : Hid (∃ ps, W3.ownsRow w.heap.size 46 2 (.slice a3 (la.length + lb.length) cc3) ps.length (prs ps) ∧ PairsAt w ps (la ++ lb)) := by
    refine ⟨[] ++ qa ++ qb, ?_, ?_⟩
    · have := row_len ho2
      rw [← this]; exact ho2
    · rw [List.nil_append]; exact hpa.app hpb
  clear ho ho1 ho2 gr1 gr2
  go_wp2_with fail
  refine wp_loop_rounds 3 ?_
  rw [rounds_succ]
  go_wp2_with (first
    | (refine wpl_val rfl (exec_append2 27 27 _ _ rfl rfl rfl ap1) ?_))
  rw [rounds_succ]
  go_wp2_with (first
    | (refine wpl_val rfl (exec_append2 27 27 _ _ rfl rfl rfl ap2) ?_))
  rw [rounds_succ]
  go_wp2_with fail
  go_ret
  obtain ⟨ps, h1, h2⟩ := HO.out
  exact ⟨_, ps, rfl, h1, h2, k3⟩
end Go.Proofs.YtfohljljoalmoaaDoor
