/- Clone, own, made. -/
import Derived.Test.YthachckofghppaaDoorT6
import Derived.Lib.SliceRun
namespace Go.Proofs.YthachckofghppaaDoor
open Go.RowKit
set_option maxRecDepth 100000
set_option linter.unusedSimpArgs false
set_option linter.unusedVariables false

set_option maxHeartbeats 1000000 in
theorem cloneT_ct {w : World} {v : Value} {l : List FileE} (h : TreeAt w v l) (hl : l.length ≤ 1000) :
    Calls Tryd.prog 35 #[v] w fun e w' => ∃ v' ps, e = .returned v' ∧ w'.ownsRow w.heap.size 33 2 v' l.length (prs ps) ∧ PairsAt w' ps l ∧ Kept (fun _ => False) w w' := by
  obtain ⟨a, c, hv⟩ := h.slc
  subst hv
  obtain ⟨ps, hp, hr⟩ := h.pairs
  have q27 : ∀ (w : World) (a : Option Addr) (n c n' c' : Nat), (binOp .eql 28 (.slice a n c) (.slice none n' c')).run Tryd.prog w = .ok (.bool a.isNone) w := fun w a n c n' c' => Lib.run_eql_slice_nil w _ _ a n c n' c' Tryd.underlying28
  cases a with
  | none =>
    have hl0 : l = [] := by
      apply Classical.byContradiction; intro hh
      obtain ⟨b, o, e, _⟩ := hr hh; cases e
    subst hl0
    go_enter Tryd.func35, Tryd.ntmps35
    go_wp2_with fail
    go_ret
    exact ⟨_, [], rfl, World.ownsRow_nil _ _ _ _, ⟨rfl, fun j f hf => by simp at hf⟩, Kept.refl _ _⟩
  | some ad =>
    have bs := bslice_f0 w
    have k1 : Kept (fun _ => False) w (w.alloc (.cells #[] 33)) := (Kept.refl _ w).alloc _
    have ho : (w.alloc (.cells #[] 33)).ownsRow w.heap.size 33 2 (.slice (some ⟨w.heap.size, 0, none⟩) 0 0) 0 [] := World.ownsRow_made w #[] 0 (Nat.le_refl _) (Nat.zero_le _) rfl
    generalize w.alloc (.cells #[] 33) = W at bs k1 ho
    obtain ⟨v', w', ap, ho', hg'⟩ := app_files ho (ad := ad) (m := l.length) (c := c) (news := prs ps) (by rw [prs_len, hp.1]) (fun j u hu => by
      have hne : l ≠ [] := fun e => by
        have : ps = [] := List.eq_nil_of_length_eq_zero (by rw [hp.1, e]; rfl)
        subst this; simp [prs] at hu
      obtain ⟨b, o, e, hb, hrr⟩ := hr hne
      injection e with e; subst e
      rw [Addr.add_mid]
      exact rangeAt_stay k1 hb not_false hrr j u hu) hp.one (by omega) k1.size 28 28 Tryd.underlying28
    have k2 : Kept (fun _ => False) w w' := grown_kept k1 hg' (fun k e => by have e : some w.heap.size = some k := e; injection e with e; omega)
    obtain ⟨a', c', hv'⟩ := row_form ho'
    subst hv'
    rw [Nat.zero_add, List.nil_append] at ho'
    go_enter Tryd.func35, Tryd.ntmps35
    go_wp2_with (first
      | (with_reducible refine wpl_bslice 28 _ _ rfl rfl ?_ bs ?_
         · (go_simp <;> rfl)
         simp only [Act.put, List.getElem_toArray, List.getElem_cons_zero, List.getElem_cons_succ, List.setIfInBounds_toArray, List.set_cons_zero, List.set_cons_succ])
      | (refine wpl_val rfl (exec_append 28 _ _ rfl rfl rfl ap) ?_))
    go_ret
    exact ⟨_, ps, rfl, by simpa using ho', hp.kept k2, k2⟩

set_option maxHeartbeats 1000000 in
theorem cloneB_ct {w : World} {v : Value} {l : List UInt8} (h : ByAt w v l) (hl : l.length ≤ 100000) :
    Calls Tryd.prog 36 #[v] w fun e w' => ∃ v', e = .returned v' ∧ ByAt w' v' l ∧ Kept (fun _ => False) w w' := by
  obtain ⟨a, c, hv⟩ := h.slc
  subst hv
  have q25 : ∀ (w : World) (a : Option Addr) (n c n' c' : Nat), (binOp .eql 22 (.slice a n c) (.slice none n' c')).run Tryd.prog w = .ok (.bool a.isNone) w := fun w a n c n' c' => Lib.run_eql_slice_nil w _ _ a n c n' c' Tryd.underlying22
  cases a with
  | none =>
    have hl0 : l = [] := by
      apply Classical.byContradiction; intro hh
      obtain ⟨_, _, e, _, h3⟩ := h
      injection e with e _ _
      subst e
      obtain ⟨b, o, e, _⟩ := h3 hh; cases e
    subst hl0
    go_enter Tryd.func36, Tryd.ntmps36
    go_wp2_with fail
    go_ret
    exact ⟨_, rfl, ByAt.nil _ _, Kept.refl _ _⟩
  | some ad =>
    have bs := bslice_b0 w
    have k1 : Kept (fun _ => False) w (w.alloc (.cells #[] 5)) := (Kept.refl _ w).alloc _
    have ho : (w.alloc (.cells #[] 5)).ownsRow w.heap.size 5 1 (.slice (some ⟨w.heap.size, 0, none⟩) 0 0) 0 [] := World.ownsRow_made w #[] 0 (Nat.le_refl _) (Nat.zero_le _) rfl
    generalize w.alloc (.cells #[] 5) = W at bs k1 ho
    obtain ⟨v', w', ap, ho', hg'⟩ := app_by ho (h.kept k1) (by omega) k1.size 22
    have k2 : Kept (fun _ => False) w w' := grown_kept k1 hg' (fun k e => by have e : some w.heap.size = some k := e; injection e with e; omega)
    obtain ⟨a', c', hv'⟩ := row_form ho'
    subst hv'
    rw [List.nil_append] at ho'
    have hB : ByAt w' (.slice a' (0 + l.length) c') l := ByAt.own ho'
    go_enter Tryd.func36, Tryd.ntmps36
    go_wp2_with (first
      | (with_reducible refine wpl_bslice 22 _ _ rfl rfl ?_ bs ?_
         · (go_simp <;> rfl)
         simp only [Act.put, List.getElem_toArray, List.getElem_cons_zero, List.getElem_cons_succ, List.setIfInBounds_toArray, List.set_cons_zero, List.set_cons_succ])
      | (refine wpl_val rfl (exec_append 22 _ _ rfl rfl rfl ap) ?_))
    go_ret
    exact ⟨_, rfl, by simpa using hB, k2⟩

/-- A cell that held no byte is turned: the bytes stay. -/
theorem ByAt.set {w : World} {p : Addr} {old v x : Value} {l : List UInt8} (h : ByAt w x l) (hp : w.cell? p = some old) (ho : ∀ i, old ≠ .int .u8 i) : ByAt (w.setCell p v) x l := by
  obtain ⟨a, c, h1, h2, h3⟩ := h
  refine ⟨a, c, h1, h2, fun hl => ?_⟩
  obtain ⟨b, o, e, hb, hr⟩ := h3 hl
  refine ⟨b, o, e, by simpa [World.setCell] using hb, fun j u hu => ?_⟩
  have h4 := hr j u hu
  rw [World.cell?_setCell_other w]
  · exact h4
  · rintro rfl
    rw [hp] at h4
    injection h4 with h4
    have hm := List.mem_of_getElem? hu
    unfold bv at hm
    obtain ⟨q, _, hq⟩ := List.mem_map.1 hm
    exact ho _ (by rw [h4, ← hq])
theorem row_set {w : World} {base g cap n z : Nat} {t : TypeId} {xs : List Value} (h : w.ownsRow base t z (.slice (some ⟨g, 0, none⟩) n cap) n xs) {j : Nat} (hj : j < n * z) (v : Value) :
    (w.setCell ⟨g, j, none⟩ v).ownsRow base t z (.slice (some ⟨g, 0, none⟩) n cap) n (xs.set j v) ∧ (w.cell? ⟨g, j, none⟩).isSome = true ∧ w.frozen? ⟨g, j, none⟩ = false ∧ base ≤ g := by
  rcases h.2 with ⟨h', _⟩ | ⟨g', cap', cur, h', hb, hg, hn, hm, hs, ht⟩
  · cases h'
  · injection h' with e1 _ e3
    injection e1 with e1; injection e1 with e1 _ _
    subst e1; subst e3
    have hjs : j < cur.size := by rw [hs]; exact Nat.lt_of_lt_of_le hj (Nat.mul_le_mul_right _ hn)
    refine ⟨⟨by rw [List.length_set]; exact h.1, .inr ⟨g, cap, _, rfl, hb, heap_setCell_same hg v, hn, hm, by simpa using hs, ?_⟩⟩, ?_, by simp [World.frozen?, hg], hb⟩
    · rw [Array.toList_setIfInBounds, List.take_set, ht]
    · rw [cell_of_row _ _ _ _ _ _ hg, Array.getElem?_eq_getElem hjs]; rfl
theorem PairsAt.set2 {w : World} {p : Addr} {old v x : Value} {ps : List (ByteArray × Value)} {l : List FileE} (h : PairsAt w ps l) (hp : w.cell? p = some old) (ho : ∀ i, old ≠ .int .u8 i) {k : Nat} {f : FileE} (hf : l[k]? = some f) (hx : ByAt w x f.bytes) : PairsAt (w.setCell p v) (ps.set k (f.path, x)) l := by
  refine ⟨by rw [List.length_set]; exact h.1, fun j g hg => ?_⟩
  obtain ⟨h1, y, h2, h3⟩ := h.2 j g hg
  by_cases e : j = k
  · subst e
    rw [hg] at hf; injection hf with hf; subst hf
    exact ⟨h1, x, List.getElem?_set_self (List.getElem?_eq_some_iff.1 h2).1, hx.set hp ho⟩
  · exact ⟨h1, y, by rw [List.getElem?_set_ne (fun q => e q.symm)]; exact h2, h3.set hp ho⟩

set_option maxRecDepth 100000 in
set_option maxHeartbeats 2000000 in
theorem own_ct {w : World} {v : Value} {l : List FileE} (h : TreeAt w v l) (hl : l.length ≤ 1000) (hf : ∀ f ∈ l, f.bytes.length ≤ 100000) :
    Calls Tryd.prog 20 #[v] w fun e w' => ∃ v', e = .returned v' ∧ TreeAt w' v' l ∧ Kept (fun _ => False) w w' := by
  obtain ⟨a, c, hv⟩ := h.slc
  subst hv
  go_enter Tryd.func20, Tryd.ntmps20
  go_wp2_with fail
  refine (cloneT_ct h hl).mono ?_
  rintro e W ⟨v1, ps, rfl, ho, hp, k1⟩
  obtain ⟨a1, c1, hv1⟩ := row_form ho
  subst hv1
  go_wp2_with fail
  go_loopw [9] (fun i wr => ∃ (k : Nat) (ps : List (ByteArray × Value)), k ≤ l.length ∧ i = .int .i64 k ∧ wr.ownsRow w.heap.size 33 2 (.slice a1 l.length c1) l.length (prs ps) ∧ PairsAt wr ps l ∧ Kept (fun _ => False) w wr) (fun i _ => l.length - (intOf i).toNat)
  case atStart => exact ⟨0, ps, by omega, rfl, ho, hp, k1⟩
  case round =>
    obtain ⟨k, ps, hk, rfl, ho, hp, hkr⟩ := hrel
    by_cases hlt : k < l.length
    · have hfk : l[k]? = some l[k] := List.getElem?_eq_getElem hlt
      have hff := hf l[k] (List.getElem_mem hlt)
      generalize l[k] = f at hfk hff
      obtain ⟨hps, x, hx, hB⟩ := hp.2 k f hfk
      obtain ⟨p1, p2⟩ := prs_get ps k _ hx
      obtain ⟨g, c2, hg⟩ : ∃ g c2, (Value.slice a1 l.length c1) = .slice (some ⟨g, 0, none⟩) l.length c2 := by
        rcases ho.2 with ⟨e, h0⟩ | ⟨g, cap, _, e, _⟩
        · omega
        · exact ⟨g, cap, e⟩
      injection hg with e1 _ e2
      subst e1
      subst e2
      have hgl := (World.ownsRow.lt ho g rfl).2
      have hc := ho.cells (g := g) rfl _ _ p2
      rw [Addr.add_mid] at hc
      have hml : l.length ≤ 2 ^ 63 - 1 := by omega
      obtain ⟨ab, cb, hxb⟩ := hB.slc
      subst hxb
      have hc' : wr.cell? ⟨g, k * 2 + 1, none⟩ = some (.slice ab f.bytes.length cb) := by rw [Nat.zero_add] at hc; exact hc
      clear hc
      go_wp2_with fail
      refine (cloneB_ct hB hff).mono ?_
      rintro e W2 ⟨v2, rfl, h2, k2⟩
      obtain ⟨a2, c2, hv2⟩ := h2.slc
      subst hv2
      have ho2 := row_kept ho k2
      obtain ⟨ho3, hs3, hf3, hbg⟩ := row_set ho2 (j := k * 2 + 1) (by omega) (.slice a2 f.bytes.length c2)
      rw [prs_set2 ps k _ _ hx] at ho3
      have hc2 : W2.cell? ⟨g, k * 2 + 1, none⟩ = some (.slice ab f.bytes.length cb) := by
        rw [k2.cell (p := ⟨g, k * 2 + 1, none⟩) hgl not_false]; exact hc'
      have hp3 := (hp.kept k2).set2 (v := .slice a2 f.bytes.length c2) hc2 (fun i e => by cases e) hfk h2
      have k3 : Kept (fun _ => False) w (W2.setCell ⟨g, k * 2 + 1, none⟩ (.slice a2 f.bytes.length c2)) := (hkr.trans k2).setCell (p := ⟨g, k * 2 + 1, none⟩) (fun q => by have q : g < w.heap.size := q; omega) _
      clear ho2 hs3 ho hp hc'
      go_wp2_with fail
      go_roundw
      case rel => exact ⟨k + 1, _, by omega, by go_num, ho3, hp3, k3⟩
      case measure => simp [intOf]; omega
    · obtain rfl : k = l.length := by omega
      go_wp2_with fail
      go_ret
      exact ⟨_, rfl, TreeAt.of_row ho hp, hkr⟩

set_option maxHeartbeats 1000000 in
theorem made_ct {w : World} {v : Value} {l : List FileE} (h : TreeAt w v l) (hm : mayB l = true) (hl : l.length ≤ 1000) (hf : ∀ f ∈ l, f.bytes.length ≤ 100000) :
    Calls Tryd.prog 53 #[v] w fun e w' => ∃ v', e = .returned (.tuple #[v', .int .i64 0]) ∧ TreeAt w' v' l ∧ Kept (fun _ => False) w w' := by
  have mc := may_ct h
  rw [hm] at mc
  obtain ⟨a, c, hv⟩ := h.slc
  subst hv
  go_enter Tryd.func53, Tryd.ntmps53
  go_wp2_with fail
  refine mc.mono ?_
  rintro e W ⟨rfl, k1⟩
  go_wp2_with fail
  refine (own_ct (h.kept k1) hl hf).mono ?_
  rintro e W2 ⟨v2, rfl, h2, k2⟩
  obtain ⟨a2, c2, hv2⟩ := h2.slc
  subst hv2
  go_wp2_with fail
  go_ret2
  exact ⟨_, rfl, h2, k1.trans k2⟩
end Go.Proofs.YthachckofghppaaDoor
