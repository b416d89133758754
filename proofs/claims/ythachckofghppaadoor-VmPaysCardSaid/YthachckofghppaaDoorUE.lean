/- With. -/
import Derived.Test.YthachckofghppaaDoorUD
namespace Go.Proofs.YthachckofghppaaDoor
open Go.RowKit
set_option maxRecDepth 100000
set_option linter.unusedSimpArgs false
set_option linter.unusedVariables false

theorem bslice_f26 (p : ByteArray) (a : Option Addr) (n c : Nat) (w : World) : (Instr.buildSlice 27 1 #[(0, .agg #[.string p, .slice a n c])]).run Tryd.prog w = .ok (.slice (some ⟨w.heap.size, 0, none⟩) 1 1) (w.alloc (.cells #[.string p, .slice a n c] 33)) := by kernel_rfl
/-- A file written over one of a row of files. -/
theorem store_file2 {w : World} {base g cap : Nat} {ps : List (ByteArray × Value)} (ho : w.ownsRow base 33 2 (.slice (some ⟨g, 0, none⟩) ps.length cap) ps.length (prs ps)) {i : Nat} (hi : i < ps.length) (s : ByteArray) {x : Value} (hx : x.oneCell' = true) :
    ∃ w', (Instr.storeAt 33 (.pointer (some ⟨g, i * 2, none⟩)) (.agg #[.string s, x])).run Tryd.prog w = .ok () w' ∧ w'.ownsRow base 33 2 (.slice (some ⟨g, 0, none⟩) ps.length cap) ps.length (prs (ps.set i (s, x))) ∧ Kept (fun k => k = g) w w' := by
  have hp : ps[i]? = some ps[i] := List.getElem?_eq_getElem hi
  generalize ps[i] = p at hp
  obtain ⟨r1, s1, f1, _⟩ := row_set ho (j := i * 2) (by omega) (.string s)
  obtain ⟨r2, s2, f2, _⟩ := row_set r1 (j := i * 2 + 1) (by omega) x
  rw [prs_set1 ps i s p hp, prs_set2 (ps.set i (s, p.2)) i x (s, p.2) (List.getElem?_set_self hi), List.set_set] at r2
  obtain ⟨_, s3, f3, _⟩ := row_set ho (j := i * 2 + 1) (by omega) x
  refine ⟨w.setCells g (i * 2) [.string s, x], ?_, r2, (Kept.refl (fun k => k = g) w).setCells (b := g) (fun _ => rfl) _ _⟩
  exact run_storeAt_mid w g (i * 2) 33 #[.string s, x] (fun j hj => by
    have hj' : j < 2 := hj
    match j, hj' with
    | 0, _ => exact ⟨s1, f1⟩
    | 1, _ => exact ⟨s3, f3⟩) (by kernel_rfl) (by simp [hx]; rfl)

theorem PairsAt.set3 {w : World} {ps : List (ByteArray × Value)} {l : List FileE} (h : PairsAt w ps l) {i : Nat} (hi : i < l.length) {s : ByteArray} (hs : s.size ≤ maxLen) {x : Value} {b : List UInt8} (hx : ByAt w x b) : PairsAt w (ps.set i (s, x)) (l.set i ⟨s, b⟩) := by
  refine ⟨by rw [List.length_set, List.length_set]; exact h.1, fun j g hg => ?_⟩
  by_cases e : j = i
  · subst e
    rw [List.getElem?_set_self hi] at hg
    injection hg with hg; subst hg
    exact ⟨hs, x, List.getElem?_set_self (by rw [h.1]; exact hi), hx⟩
  · rw [List.getElem?_set_ne (fun q => e q.symm)] at hg
    obtain ⟨h1, y, h2, h3⟩ := h.2 j g hg
    exact ⟨h1, y, by rw [List.getElem?_set_ne (fun q => e q.symm)]; exact h2, h3⟩
set_option maxHeartbeats 1000000 in
theorem cloneT2_ct {w : World} {v : Value} {l : List FileE} (h : TreeAt w v l) (hl : l.length ≤ 1000) :
    Calls Tryd.prog 35 #[v] w fun e w' => ∃ v' ps, e = .returned v' ∧ w'.ownsRow w.heap.size 33 2 v' l.length (prs ps) ∧ PairsAt w ps l ∧ Kept (fun _ => False) w w' := by
  obtain ⟨a, c, hv⟩ := h.slc
  subst hv
  obtain ⟨ps, hp, hr⟩ := h.pairs
  have q27 : ∀ (w : World) (a : Option Addr) (n c n' c' : Nat), (binOp .eql 28 (.slice a n c) (.slice none n' c')).run Tryd.prog w = .ok (.bool a.isNone) w := fun w a n c n' c' => Lib.run_eql_slice_nil w _ _ a n c n' c' Tryd.underlying28
  cases a with
  | none =>
    have hl0 : l = [] := by
      apply Classical.byContradiction; intro hh
      obtain ⟨b, o, e, _⟩ := hr hh; cases e
    subst hl0
    go_enter Tryd.func35, Tryd.ntmps35
    go_wp2_with fail
    go_ret
    exact ⟨_, [], rfl, World.ownsRow_nil _ _ _ _, ⟨rfl, fun j f hf => by simp at hf⟩, Kept.refl _ _⟩
  | some ad =>
    have bs := bslice_f0 w
    have k1 : Kept (fun _ => False) w (w.alloc (.cells #[] 33)) := (Kept.refl _ w).alloc _
    have ho : (w.alloc (.cells #[] 33)).ownsRow w.heap.size 33 2 (.slice (some ⟨w.heap.size, 0, none⟩) 0 0) 0 [] := World.ownsRow_made w #[] 0 (Nat.le_refl _) (Nat.zero_le _) rfl
    generalize w.alloc (.cells #[] 33) = W at bs k1 ho
    obtain ⟨v', w', ap, ho', hg'⟩ := app_files ho (ad := ad) (m := l.length) (c := c) (news := prs ps) (by rw [prs_len, hp.1]) (fun j u hu => by
      have hne : l ≠ [] := fun e => by
        have : ps = [] := List.eq_nil_of_length_eq_zero (by rw [hp.1, e]; rfl)
        subst this; simp [prs] at hu
      obtain ⟨b, o, e, hb, hrr⟩ := hr hne
      injection e with e; subst e
      rw [Addr.add_mid]
      exact rangeAt_stay k1 hb not_false hrr j u hu) hp.one (by omega) k1.size 28 28 Tryd.underlying28
    have k2 : Kept (fun _ => False) w w' := grown_kept k1 hg' (fun k e => by have e : some w.heap.size = some k := e; injection e with e; omega)
    obtain ⟨a', c', hv'⟩ := row_form ho'
    subst hv'
    rw [Nat.zero_add, List.nil_append] at ho'
    go_enter Tryd.func35, Tryd.ntmps35
    go_wp2_with (first
      | (with_reducible refine wpl_bslice 28 _ _ rfl rfl ?_ bs ?_
         · (go_simp <;> rfl)
         simp only [Act.put, List.getElem_toArray, List.getElem_cons_zero, List.getElem_cons_succ, List.setIfInBounds_toArray, List.set_cons_zero, List.set_cons_succ])
      | (refine wpl_val rfl (exec_append 28 _ _ rfl rfl rfl ap) ?_))
    go_ret
    exact ⟨_, ps, rfl, by simpa using ho', hp, k2⟩

/-- What With gives. -/
def WithIs (l : List FileE) (s : ByteArray) (b : List UInt8) (w : World) (e : Ending) : Prop :=
  ((mayB l && pathB s) = false ∧ e = .returned (.tuple #[.slice none 0 0, .int .i64 2])) ∨
  ((mayB l && pathB s) = true ∧ mayB (withL l s b) = false ∧ e = .returned (.tuple #[.slice none 0 0, .int .i64 8])) ∨
  ((mayB l && pathB s) = true ∧ mayB (withL l s b) = true ∧ ∃ v', e = .returned (.tuple #[v', .int .i64 0]) ∧ TreeAt w v' (withL l s b))

set_option maxRecDepth 100000 in
set_option maxHeartbeats 4000000 in
theorem with_ct {w : World} {v x : Value} {l : List FileE} (h : TreeAt w v l) (s : ByteArray) (hs : s.size ≤ maxLen) {b : List UInt8} (hb : ByAt w x b) :
    Calls Tryd.prog 37 #[v, .string s, x] w fun e w' => WithIs l s b w' e ∧ Kept (fun _ => False) w w' := by
  have mc := may_ct h
  have ip := fun w' => isPath_ct s w' hs
  cases hm : mayB l with
  | false =>
    rw [hm] at mc
    obtain ⟨a, c, hv⟩ := h.slc
    subst hv
    obtain ⟨a2, c2, hx⟩ := hb.slc
    subst hx
    go_enter Tryd.func37, Tryd.ntmps37
    go_wp2_with fail
    refine (mc).mono ?_
    rintro e W ⟨rfl, k1⟩
    go_wp2_with fail
    go_ret2
    exact ⟨.inl ⟨by rw [hm]; rfl, rfl⟩, k1⟩
  | true =>
    rw [hm] at mc
    cases hp : pathB s with
    | false =>
      rw [hp] at ip
      obtain ⟨a, c, hv⟩ := h.slc
      subst hv
      obtain ⟨a2, c2, hx⟩ := hb.slc
      subst hx
      have HP := Lib.hid hp
      clear hp hm
      go_enter Tryd.func37, Tryd.ntmps37
      go_wp2_with fail
      refine (mc).mono ?_
      rintro e W ⟨rfl, k1⟩
      go_wp2_with fail
      refine (ip _).mono ?_
      rintro e W2 ⟨rfl, k2⟩
      go_wp2_with fail
      go_ret2
      exact ⟨.inl ⟨by rw [HP.out, Bool.and_false], rfl⟩, k1.trans k2⟩
    | true =>
      rw [hp] at ip
      have fc := fun w' (k : Kept (fun _ => False) w w') => find_ct (h.kept k) hm s
      have hi := mayIs hm
      have hl16 := hi.len
      have hw : withL l s b = if thereB l s = true then l.set (posL l s) ⟨s, b⟩ else l.take (posL l s) ++ ⟨s, b⟩ :: l.drop (posL l s) := rfl
      have hple := pos_le l s
      have HMP : Hid ((mayB l && pathB s) = true) := by unfold Hid; rw [hm, hp]; rfl
      have hpt := fun h => pos_there (l := l) (s := s) h
      obtain ⟨a, c, hv⟩ := h.slc
      subst hv
      obtain ⟨a2, c2, hx⟩ := hb.slc
      subst hx
      have hbone := hb.one
      clear hp hm
      have HPT := Lib.hid hpt
      have HW := Lib.hid hw
      clear hw hpt
      generalize posL l s = j at fc hple HPT HW
      generalize thereB l s = th at fc HPT HW
      go_enter Tryd.func37, Tryd.ntmps37
      go_wp2_with fail
      refine (mc).mono ?_
      rintro e W ⟨rfl, k1⟩
      go_wp2_with fail
      refine (ip _).mono ?_
      rintro e W2 ⟨rfl, k2⟩
      go_wp2_with fail
      have k12 := k1.trans k2
      refine (fc _ k12).mono ?_
      rintro e W3 ⟨rfl, k3⟩
      have k13 := k12.trans k3
      clear k1 k2 k3 k12 mc ip fc
      have st := store_file (w := W3) (p := s) (a := a2) (n := b.length) (c := c2)
      go_wp2_with (first
        | (with_reducible refine wpl_alloc 33 rfl rfl (zeroFile _) ?_
           simp only [World.size_alloc, Act.put, List.getElem_toArray, List.getElem_cons_zero, List.getElem_cons_succ, List.setIfInBounds_toArray, List.set_cons_zero, List.set_cons_succ])
        | (with_reducible refine wpl_store 33 _ _ rfl rfl ?_ ?_ st ?_
           · rfl
           · rfl
           simp only [Act.put, List.getElem_toArray, List.getElem_cons_zero, List.getElem_cons_succ, List.setIfInBounds_toArray, List.set_cons_zero, List.set_cons_succ]))
      have hgb := heap_last W3 (.cells #[.string s, .slice a2 b.length c2] 33)
      have k4 : Kept (fun _ => False) w (W3.alloc (.cells #[.string s, .slice a2 b.length c2] 33)) := k13.alloc _
      have hgbl := (Array.getElem?_eq_some_iff.1 hgb).1
      generalize W3.alloc (.cells #[.string s, .slice a2 b.length c2] 33) = W4 at hgb k4 hgbl ⊢
      generalize W3.heap.size = gb at hgb hgbl ⊢
      clear st k13
      refine (cloneT2_ct (h.kept k4) (by omega)).mono ?_
      rintro e W5 ⟨v5, ps, rfl, ho, hps, k5⟩
      have hgb5 := (k5.block gb hgbl not_false).trans hgb
      have hb5 := hb.kept (k4.trans k5)
      have hpl := hps.1
      rw [← hpl] at ho hple
      have hb4 := hb.kept k4
      have k05 := k4.trans k5
      cases th with
      | true =>
        obtain ⟨f, hf, hfs⟩ := HPT.out rfl
        have hj : j < ps.length := by rw [hpl]; exact (List.getElem?_eq_some_iff.1 hf).1
        obtain ⟨g, cap, hv5⟩ : ∃ g cap, v5 = .slice (some ⟨g, 0, none⟩) ps.length cap := by
          rcases ho.2 with ⟨e, h0⟩ | ⟨g, cap, _, e, _⟩
          · omega
          · exact ⟨g, cap, e⟩
        subst hv5
        have hgg := (World.ownsRow.lt ho g rfl).1
        obtain ⟨W6, st6, ho6, k6⟩ := store_file2 ho hj s hbone
        have k46 : Kept (fun _ => False) W4 W6 := k5.trans' k6 (fun k hk e => by subst e; omega)
        have ld := load_row (P := Tryd.prog) (ty := 33) Tryd.underlying33 rfl hgb5 (by kernel_rfl)
        have hps6 := (hps.kept k46).set3 (by rw [← hpl]; exact hj) hs (hb4.kept k46)
        have ma := made_any (TreeAt.of_row ho6 hps6)
        have hwl : withL l s b = l.set j ⟨s, b⟩ := by rw [HW.out]; rfl
        rw [← hwl] at ma
        have HWL := Lib.hid hwl
        have k06 := k4.trans k46
        have hn63 : ps.length ≤ 2 ^ 63 - 1 := by omega
        have HPL := Lib.hid hpl
        clear ho ho6 hps hps6 hb5 hb4 hf hwl HPT HW hpl
        go_wp2_with (first
          | (with_reducible refine wpl_load 33 _ rfl rfl ?_ ld ?_
             · rfl
             simp only [Act.put, List.getElem_toArray, List.getElem_cons_zero, List.getElem_cons_succ, List.setIfInBounds_toArray, List.set_cons_zero, List.set_cons_succ])
          | (with_reducible refine wpl_store 33 _ _ rfl rfl ?_ ?_ st6 ?_
             · rfl
             · rfl
             simp only [Act.put, List.getElem_toArray, List.getElem_cons_zero, List.getElem_cons_succ, List.setIfInBounds_toArray, List.set_cons_zero, List.set_cons_succ]))
        refine ma.mono ?_
        rintro e W7 ⟨hr, k7⟩
        rcases hr with ⟨hm2, v', rfl, h7⟩ | ⟨hm2, rfl⟩
        · obtain ⟨a7, c7, hv7⟩ := h7.slc
          subst hv7
          go_wp2_with fail
          go_ret2
          exact ⟨.inr (.inr ⟨HMP.out, hm2, _, rfl, h7⟩), k06.trans k7⟩
        · go_wp2_with fail
          go_ret2
          exact ⟨.inr (.inl ⟨HMP.out, hm2, rfl⟩), k06.trans k7⟩
      | false =>
        have ld := load_row (P := Tryd.prog) (ty := 33) Tryd.underlying33 rfl hgb5 (by kernel_rfl)
        have bs := bslice_f26 s a2 b.length c2 W5
        have hgb6 := heap_last W5 (.cells #[.string s, .slice a2 b.length c2] 33)
        have k6 : Kept (fun _ => False) W5 (W5.alloc (.cells #[.string s, .slice a2 b.length c2] 33)) := (Kept.refl _ W5).alloc _
        have ho6 := row_kept ho k6
        have hne : v5.ownBlock ≠ some W5.heap.size := fun e => by
          have := (World.ownsRow.lt ho _ e).2
          omega
        generalize W5.alloc (.cells #[.string s, .slice a2 b.length c2] 33) = W6 at bs hgb6 k6 ho6
        have ic := insert_ct ho6 (by omega) hple (k5.trans k6) hgb6 hbone hne hps.one
        have hwl : withL l s b = l.take j ++ ⟨s, b⟩ :: l.drop j := by rw [HW.out]; rfl
        have HWL := Lib.hid hwl
        obtain ⟨a5, c5, hv5⟩ := row_form ho
        subst hv5
        have HPL := Lib.hid hpl
        clear ho ho6 hb5 hwl HPT HW hne hgb6 hpl
        generalize W5.heap.size = gb2 at bs ic
        go_wp2_with (first
          | (with_reducible refine wpl_load 33 _ rfl rfl ?_ ld ?_
             · rfl
             simp only [Act.put, List.getElem_toArray, List.getElem_cons_zero, List.getElem_cons_succ, List.setIfInBounds_toArray, List.set_cons_zero, List.set_cons_succ])
          | (with_reducible refine wpl_bslice 27 _ _ rfl rfl ?_ bs ?_
             · (go_simp <;> rfl)
             simp only [Act.put, List.getElem_toArray, List.getElem_cons_zero, List.getElem_cons_succ, List.setIfInBounds_toArray, List.set_cons_zero, List.set_cons_succ]))
        refine ic.mono ?_
        rintro e W7 ⟨v7, rfl, ho7, k47⟩
        have hps7 := (hps.kept k47).ins j (by rw [← HPL.out]; exact hple) hs (hb4.kept k47)
        have ma := made_any (TreeAt.of_row ho7 hps7)
        rw [← HWL.out] at ma
        obtain ⟨a7, c7, hv7⟩ := row_form ho7
        subst hv7
        clear ho7 hps7 hps ic
        go_wp2_with fail
        refine ma.mono ?_
        rintro e W8 ⟨hr, k8⟩
        rcases hr with ⟨hm2, v', rfl, h8⟩ | ⟨hm2, rfl⟩
        · obtain ⟨a8, c8, hv8⟩ := h8.slc
          subst hv8
          go_wp2_with fail
          go_ret2
          exact ⟨.inr (.inr ⟨HMP.out, hm2, _, rfl, h8⟩), (k4.trans k47).trans k8⟩
        · go_wp2_with fail
          go_ret2
          exact ⟨.inr (.inl ⟨HMP.out, hm2, rfl⟩), (k4.trans k47).trans k8⟩
end Go.Proofs.YthachckofghppaaDoor
