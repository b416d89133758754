/- Same. -/
import Derived.Test.YtfohljljoalmoaaDoorT8
namespace Go.Proofs.YtfohljljoalmoaaDoor
open Go.RowKit
set_option maxRecDepth 100000
set_option linter.unusedSimpArgs false
set_option linter.unusedVariables false

theorem conv_str {w : World} {v : Value} {l : List UInt8} (h : ByAt w v l) : (convert 44 9 v).run Tryd.prog w = .ok (.string ⟨l.toArray⟩) w := by
  obtain ⟨a, c, rfl, h2, h3⟩ := h
  cases a with
  | none =>
    have hl0 : l = [] := by
      apply Classical.byContradiction; intro hh
      obtain ⟨b, o, e, _⟩ := h3 hh; cases e
    subst hl0
    exact run_convert_bytes_nil w _ _ Tryd.underlying44 Tryd.underlying5 _ _ _ Tryd.underlying9
  | some ad =>
    refine run_convert_bytes_back w _ _ _ ad c l Tryd.underlying44 Tryd.underlying5 Tryd.underlying9 (fun j hj => ?_)
    obtain ⟨b, o, e, _, hr⟩ := h3 (fun e => by subst e; simp at hj)
    injection e with e; subst e
    rw [Addr.add_mid]
    exact hr j _ (by simp [bv, List.getElem?_eq_getElem hj])
set_option maxHeartbeats 1000000 in
theorem bytesEqual_ct {w : World} {v x : Value} {l m : List UInt8} (h : ByAt w v l) (hx : ByAt w x m) :
    Calls Tryd.prog 37 #[v, x] w fun e w' => e = .returned (.bool (l == m)) ∧ Kept (fun _ => False) w w' := by
  have c1 := conv_str h
  have c2 := conv_str hx
  obtain ⟨a, c, hv⟩ := h.slc
  subst hv
  obtain ⟨b, d, hy⟩ := hx.slc
  subst hy
  go_enter Tryd.func37, Tryd.ntmps37
  go_wp2_with fail
  go_ret
  exact ⟨rfl, Kept.refl _ _⟩

def eqF (f g : FileE) : Bool := (f.path.toList == g.path.toList) && (f.bytes == g.bytes)
set_option maxRecDepth 100000 in
set_option maxHeartbeats 1000000 in
theorem same1_ct {w : World} {f g : FileE} {x y : Value} (hx : ByAt w x f.bytes) (hy : ByAt w y g.bytes) :
    Calls Tryd.prog 36 #[.agg #[.string f.path, x], .agg #[.string g.path, y]] w fun e w' => e = .returned (.bool (eqF f g)) ∧ Kept (fun _ => False) w w' := by
  have k1 : Kept (fun _ => False) w ((w.alloc (.cells #[.string f.path, x] 46)).alloc (.cells #[.string g.path, y] 46)) := ((Kept.refl _ w).alloc _).alloc _
  have be := bytesEqual_ct (hx.kept k1) (hy.kept k1)
  obtain ⟨a, c, rfl⟩ := hx.slc
  obtain ⟨b, d, rfl⟩ := hy.slc
  unfold eqF
  cases hp : (f.path.toList == g.path.toList) with
  | false =>
    go_enter Tryd.func36, Tryd.ntmps36
    go_wp2_with fail
    go_ret
    exact ⟨rfl, k1⟩
  | true =>
    generalize (f.bytes == g.bytes) = r at be ⊢
    go_enter Tryd.func36, Tryd.ntmps36
    go_wp2_with fail
    refine be.mono ?_
    rintro e W ⟨rfl, k2⟩
    go_wp2_with fail
    go_ret
    exact ⟨by simp, k1.trans k2⟩

def sameTo (a b : List FileE) : Nat → Bool
  | 0 => true
  | k + 1 => sameTo a b k && (match a[k]?, b[k]? with | some f, some g => eqF f g | _, _ => false)
def sameB (a b : List FileE) : Bool := (a.length == b.length) && sameTo a b a.length
theorem sameTo_no {a b : List FileE} {i : Nat} (h : sameTo a b (i + 1) = false) : ∀ k, i < k → sameTo a b k = false
  | 0, h0 => by omega
  | k + 1, h0 => by
    by_cases e : i = k
    · subst e; exact h
    · unfold sameTo; rw [sameTo_no h k (by omega)]; rfl

set_option maxRecDepth 100000 in
set_option maxHeartbeats 4000000 in
theorem equalFunc_ct {w : World} {va vb : Value} {la lb : List FileE} (ha : TreeAt w va la) (hb : TreeAt w vb lb) (hl : la.length ≤ 100000) (hl2 : lb.length ≤ 100000) :
    Calls Tryd.prog 35 #[va, vb, .func (.func 36) #[] #[]] w fun e w' => e = .returned (.bool (sameB la lb)) ∧ Kept (fun _ => False) w w' := by
  obtain ⟨a, c, hv⟩ := ha.slc
  subst hv
  obtain ⟨b, d, hy⟩ := hb.slc
  subst hy
  by_cases hn : la.length = lb.length
  · have hs : sameB la lb = sameTo la lb la.length := by unfold sameB; rw [hn]; simp
    have HS := Lib.hid hs
    have HN := Lib.hid hn
    have en : ((la.length : Int) != (lb.length : Int)) = false := by rw [hn]; simp
    clear hs hn
    go_enter Tryd.func35, Tryd.ntmps35
    go_wp2_with fail
    go_loopw [17] (fun i wr => ∃ k : Nat, k ≤ la.length ∧ i = .int .i64 k ∧ sameTo la lb k = true ∧ Kept (fun _ => False) w wr) (fun i _ => la.length - (intOf i).toNat)
    case atStart => exact ⟨0, by omega, rfl, rfl, Kept.refl _ _⟩
    case round =>
      obtain ⟨k, hk, rfl, hsk, hkr⟩ := hrel
      have SK := Lib.hid hsk
      clear hsk
      by_cases hlt : k < la.length
      · have hltb : k < lb.length := by have := HN.out; omega
        have hfa : la[k]? = some la[k] := List.getElem?_eq_getElem hlt
        have hfb : lb[k]? = some lb[k] := List.getElem?_eq_getElem hltb
        have hnext : sameTo la lb (k + 1) = eqF la[k] lb[k] := by
          conv => lhs; unfold sameTo
          rw [SK.out, hfa, hfb]; simp
        have NX := Lib.hid hnext
        clear hnext
        generalize la[k] = f at hfa NX
        generalize lb[k] = g at hfb NX
        obtain ⟨_, b1, o1, x, rfl, hbl, hrx, hB⟩ := (ha.kept hkr).file hfa
        obtain ⟨_, b2, o2, y, rfl, hbl2, hry, hB2⟩ := (hb.kept hkr).file hfb
        obtain ⟨a3, c3, rfl⟩ := hB.slc
        obtain ⟨a4, c4, rfl⟩ := hB2.slc
        have lda := load_file hrx
        have sta := store_file (w := wr) (p := f.path) (a := a3) (n := f.bytes.length) (c := c3)
        go_upto_region 6 with (first
          | (with_reducible refine wpl_load 46 _ rfl rfl ?_ lda ?_
             · rfl
             simp only [Act.put, List.getElem_toArray, List.getElem_cons_zero, List.getElem_cons_succ, List.setIfInBounds_toArray, List.set_cons_zero, List.set_cons_succ])
          | (with_reducible refine wpl_alloc 46 rfl rfl (zeroFile _) ?_
             simp only [World.size_alloc, Act.put, List.getElem_toArray, List.getElem_cons_zero, List.getElem_cons_succ, List.setIfInBounds_toArray, List.set_cons_zero, List.set_cons_succ])
          | (with_reducible refine wpl_store 46 _ _ rfl rfl ?_ ?_ sta ?_
             · rfl
             · rfl
             simp only [Act.put, List.getElem_toArray, List.getElem_cons_zero, List.getElem_cons_succ, List.setIfInBounds_toArray, List.set_cons_zero, List.set_cons_succ]))
        have ha6 := heap_last wr (.cells #[.string f.path, .slice a3 f.bytes.length c3] 46)
        have k6 : Kept (fun _ => False) wr (wr.alloc (.cells #[.string f.path, .slice a3 f.bytes.length c3] 46)) := (Kept.refl _ wr).alloc _
        generalize wr.alloc (.cells #[.string f.path, .slice a3 f.bytes.length c3] 46) = W6 at ha6 k6 ⊢
        have hz6 := (Array.getElem?_eq_some_iff.1 ha6).1
        generalize wr.heap.size = X1 at ha6 hz6 ⊢
        have ldb := load_file (rangeAt_stay k6 hbl2 not_false hry)
        have stb := store_file (w := W6) (p := g.path) (a := a4) (n := g.bytes.length) (c := c4)
        clear lda sta hrx hry
        go_upto_region 7 with (first
          | (with_reducible refine wpl_load 46 _ rfl rfl ?_ ldb ?_
             · rfl
             simp only [Act.put, List.getElem_toArray, List.getElem_cons_zero, List.getElem_cons_succ, List.setIfInBounds_toArray, List.set_cons_zero, List.set_cons_succ])
          | (with_reducible refine wpl_alloc 46 rfl rfl (zeroFile _) ?_
             simp only [World.size_alloc, Act.put, List.getElem_toArray, List.getElem_cons_zero, List.getElem_cons_succ, List.setIfInBounds_toArray, List.set_cons_zero, List.set_cons_succ])
          | (with_reducible refine wpl_store 46 _ _ rfl rfl ?_ ?_ stb ?_
             · rfl
             · rfl
             simp only [Act.put, List.getElem_toArray, List.getElem_cons_zero, List.getElem_cons_succ, List.setIfInBounds_toArray, List.set_cons_zero, List.set_cons_succ]))
        have hb7 := heap_last W6 (.cells #[.string g.path, .slice a4 g.bytes.length c4] 46)
        have k7 : Kept (fun _ => False) W6 (W6.alloc (.cells #[.string g.path, .slice a4 g.bytes.length c4] 46)) := (Kept.refl _ W6).alloc _
        have ha7 := (k7.block _ hz6 not_false).trans ha6
        generalize W6.alloc (.cells #[.string g.path, .slice a4 g.bytes.length c4] 46) = W7 at hb7 k7 ha7 ⊢
        generalize W6.heap.size = X2 at hb7 ⊢
        have l1 := load_row (P := Tryd.prog) (ty := 46) Tryd.underlying46 rfl ha7 (by kernel_rfl)
        have l2 := load_row (P := Tryd.prog) (ty := 46) Tryd.underlying46 rfl hb7 (by kernel_rfl)
        have s1 := same1_ct (hB.kept (k6.trans k7)) (hB2.kept (k6.trans k7)) (f := f) (g := g)
        have kw7 := (hkr.trans k6).trans k7
        clear ldb stb ha6 ha7 hb7
        go_wp2_with (first
          | (with_reducible refine wpl_load 46 _ rfl rfl ?_ l1 ?_
             · rfl
             simp only [Act.put, List.getElem_toArray, List.getElem_cons_zero, List.getElem_cons_succ, List.setIfInBounds_toArray, List.set_cons_zero, List.set_cons_succ])
          | (with_reducible refine wpl_load 46 _ rfl rfl ?_ l2 ?_
             · rfl
             simp only [Act.put, List.getElem_toArray, List.getElem_cons_zero, List.getElem_cons_succ, List.setIfInBounds_toArray, List.set_cons_zero, List.set_cons_succ]))
        refine s1.mono ?_
        rintro e W8 ⟨rfl, k8⟩
        clear l1 l2 s1
        generalize heq : eqF f g = r at NX ⊢
        cases r with
        | true =>
          go_wp2_with fail
          go_roundw
          case rel => exact ⟨k + 1, by omega, by go_num, NX.out, kw7.trans k8⟩
          case measure => simp [intOf]; omega
        | false =>
          go_wp2_with fail
          go_ret
          exact ⟨by rw [HS.out, sameTo_no NX.out _ hlt] <;> rfl, kw7.trans k8⟩
      · obtain rfl : k = la.length := by omega
        go_wp2_with fail
        go_ret
        exact ⟨by rw [HS.out, SK.out] <;> rfl, hkr⟩
  · have hs : sameB la lb = false := by unfold sameB; rw [beq_eq_false_iff_ne.2 hn]; rfl
    have HS := Lib.hid hs
    have en : ((la.length : Int) != (lb.length : Int)) = true := by simp; omega
    clear hs hn
    go_enter Tryd.func35, Tryd.ntmps35
    go_wp2_with fail
    go_ret
    exact ⟨by rw [HS.out] <;> rfl, Kept.refl _ _⟩

set_option maxRecDepth 100000 in
set_option maxHeartbeats 2000000 in
theorem same_ct {w : World} {va vb : Value} {la lb : List FileE} (ha : TreeAt w va la) (hb : TreeAt w vb lb) (hl : la.length ≤ 100000) (hl2 : lb.length ≤ 100000) :
    Calls Tryd.prog 18 #[va, vb] w fun e w' => e = .returned (.bool (sameB la lb)) ∧ Kept (fun _ => False) w w' := by
  have ec := equalFunc_ct ha hb hl hl2
  obtain ⟨a, c, hv⟩ := ha.slc
  subst hv
  obtain ⟨b, d, hy⟩ := hb.slc
  subst hy
  go_enter Tryd.func18, Tryd.ntmps18
  go_wp2_with fail
  refine ec.mono ?_
  rintro e W ⟨rfl, k1⟩
  go_wp2_with fail
  go_ret
  exact ⟨rfl, k1⟩
end Go.Proofs.YtfohljljoalmoaaDoor
