/- Clone, own, made, Under: in memory of their own. -/
import Derived.Test.YthachckofghppaaDoorWA
namespace Go.Proofs.YthachckofghppaaDoor
open Go.RowKit
set_option maxRecDepth 100000
set_option linter.unusedSimpArgs false
set_option linter.unusedVariables false

set_option maxHeartbeats 1000000 in
theorem cloneB_ctS {w : World} {v : Value} {l : List UInt8} (h : ByAt w v l) (hl : l.length ≤ 100000) :
    Calls Tryd.prog 36 #[v] w fun e w' => ∃ v', e = .returned v' ∧ ByAt w' v' l ∧ OwnBy w.heap.size w' v' l.length ∧ Kept (fun _ => False) w w' := by
  obtain ⟨a, c, hv⟩ := h.slc
  subst hv
  have q25 : ∀ (w : World) (a : Option Addr) (n c n' c' : Nat), (binOp .eql 22 (.slice a n c) (.slice none n' c')).run Tryd.prog w = .ok (.bool a.isNone) w := fun w a n c n' c' => Lib.run_eql_slice_nil w _ _ a n c n' c' Tryd.underlying22
  cases a with
  | none =>
    have hl0 : l = [] := by
      apply Classical.byContradiction; intro hh
      obtain ⟨_, _, e, _, h3⟩ := h
      injection e with e _ _
      subst e
      obtain ⟨b, o, e, _⟩ := h3 hh; cases e
    subst hl0
    go_enter Tryd.func36, Tryd.ntmps36
    go_wp2_with fail
    go_ret
    exact ⟨_, rfl, ByAt.nil _ _, ⟨[], World.ownsRow_nil _ _ _ _⟩, Kept.refl _ _⟩
  | some ad =>
    have bs := bslice_b0 w
    have k1 : Kept (fun _ => False) w (w.alloc (.cells #[] 5)) := (Kept.refl _ w).alloc _
    have ho : (w.alloc (.cells #[] 5)).ownsRow w.heap.size 5 1 (.slice (some ⟨w.heap.size, 0, none⟩) 0 0) 0 [] := World.ownsRow_made w #[] 0 (Nat.le_refl _) (Nat.zero_le _) rfl
    generalize w.alloc (.cells #[] 5) = W at bs k1 ho
    obtain ⟨v', w', ap, ho', hg'⟩ := app_by ho (h.kept k1) (by omega) k1.size 22
    have k2 : Kept (fun _ => False) w w' := grown_kept k1 hg' (fun k e => by have e : some w.heap.size = some k := e; injection e with e; omega)
    obtain ⟨a', c', hv'⟩ := row_form ho'
    subst hv'
    rw [List.nil_append] at ho'
    have hB : ByAt w' (.slice a' (0 + l.length) c') l := ByAt.own ho'
    have hO : OwnBy w.heap.size w' (.slice a' (0 + l.length) c') (0 + l.length) := ⟨l, ho'⟩
    rw [Nat.zero_add] at hB hO ap
    go_enter Tryd.func36, Tryd.ntmps36
    go_wp2_with (first
      | (with_reducible refine wpl_bslice 22 _ _ rfl rfl ?_ bs ?_
         · (go_simp <;> rfl)
         simp only [Act.put, List.getElem_toArray, List.getElem_cons_zero, List.getElem_cons_succ, List.setIfInBounds_toArray, List.set_cons_zero, List.set_cons_succ])
      | (refine wpl_val rfl (exec_append 22 _ _ rfl rfl rfl ap) ?_))
    go_ret
    exact ⟨_, rfl, hB, hO, k2⟩

set_option maxRecDepth 100000 in
set_option maxHeartbeats 2000000 in
theorem own_ctS {w : World} {v : Value} {l : List FileE} (h : TreeAt w v l) (hl : l.length ≤ 1000) (hf : ∀ f ∈ l, f.bytes.length ≤ 100000) :
    Calls Tryd.prog 20 #[v] w fun e w' => ∃ v', e = .returned v' ∧ TreeAt w' v' l ∧ OwnT w.heap.size w' v' l.length ∧ Kept (fun _ => False) w w' := by
  obtain ⟨a, c, hv⟩ := h.slc
  subst hv
  go_enter Tryd.func20, Tryd.ntmps20
  go_wp2_with fail
  refine (cloneT_ct h hl).mono ?_
  rintro e W ⟨v1, ps, rfl, ho, hp, k1⟩
  obtain ⟨a1, c1, hv1⟩ := row_form ho
  subst hv1
  go_wp2_with fail
  go_loopw [9] (fun i wr => ∃ (k : Nat) (ps : List (ByteArray × Value)), k ≤ l.length ∧ i = .int .i64 k ∧ wr.ownsRow w.heap.size 33 2 (.slice a1 l.length c1) l.length (prs ps) ∧ PairsAt wr ps l ∧ (∀ p ∈ ps.take k, ∃ m, OwnBy w.heap.size wr p.2 m) ∧ Kept (fun _ => False) w wr) (fun i _ => l.length - (intOf i).toNat)
  case atStart => exact ⟨0, ps, by omega, rfl, ho, hp, fun p hp => by simp at hp, k1⟩
  case round =>
    obtain ⟨k, ps, hk, rfl, ho, hp, how, hkr⟩ := hrel
    have HOW := Lib.hid how
    clear how
    by_cases hlt : k < l.length
    · have hfk : l[k]? = some l[k] := List.getElem?_eq_getElem hlt
      have hff := hf l[k] (List.getElem_mem hlt)
      generalize l[k] = f at hfk hff
      obtain ⟨hps, x, hx, hB⟩ := hp.2 k f hfk
      obtain ⟨p1, p2⟩ := prs_get ps k _ hx
      obtain ⟨g, c2, hg⟩ : ∃ g c2, (Value.slice a1 l.length c1) = .slice (some ⟨g, 0, none⟩) l.length c2 := by
        rcases ho.2 with ⟨e, h0⟩ | ⟨g, cap, _, e, _⟩
        · omega
        · exact ⟨g, cap, e⟩
      injection hg with e1 _ e2
      subst e1
      subst e2
      have hgl := (World.ownsRow.lt ho g rfl).2
      have hc := ho.cells (g := g) rfl _ _ p2
      rw [Addr.add_mid] at hc
      have hml : l.length ≤ 2 ^ 63 - 1 := by omega
      obtain ⟨ab, cb, hxb⟩ := hB.slc
      subst hxb
      have hc' : wr.cell? ⟨g, k * 2 + 1, none⟩ = some (.slice ab f.bytes.length cb) := by rw [Nat.zero_add] at hc; exact hc
      clear hc
      go_wp2_with fail
      refine (cloneB_ctS hB hff).mono ?_
      rintro e W2 ⟨v2, rfl, h2, hO2, k2⟩
      obtain ⟨a2, c2, hv2⟩ := h2.slc
      subst hv2
      have ho2 := row_kept ho k2
      obtain ⟨ho3, hs3, hf3, hbg⟩ := row_set ho2 (j := k * 2 + 1) (by omega) (.slice a2 f.bytes.length c2)
      rw [prs_set2 ps k _ _ hx] at ho3
      have hc2 : W2.cell? ⟨g, k * 2 + 1, none⟩ = some (.slice ab f.bytes.length cb) := by
        rw [k2.cell (p := ⟨g, k * 2 + 1, none⟩) hgl not_false]; exact hc'
      have hp3 := (hp.kept k2).set2 (v := .slice a2 f.bytes.length c2) hc2 (fun i e => by cases e) hfk h2
      have k3 : Kept (fun _ => False) w (W2.setCell ⟨g, k * 2 + 1, none⟩ (.slice a2 f.bytes.length c2)) := (hkr.trans k2).setCell (p := ⟨g, k * 2 + 1, none⟩) (fun q => by have q : g < w.heap.size := q; omega) _
      have hgt : ∃ C fr, W2.heap[g]? = some (.cells C 33 fr) := by
        rcases ho2.2 with ⟨e, _⟩ | ⟨g', cap, cur, e, _, hh, _⟩
        · cases e
        · injection e with e1 _ _
          injection e1 with e1
          injection e1 with e1 _ _
          subst e1
          exact ⟨cur, _, hh⟩
      obtain ⟨CC, frr, hgt⟩ := hgt
      have hN : Hid (∀ p ∈ (ps.set k (f.path, .slice a2 f.bytes.length c2)).take (k + 1), ∃ m, OwnBy w.heap.size (W2.setCell ⟨g, k * 2 + 1, none⟩ (.slice a2 f.bytes.length c2)) p.2 m) := by
        intro p hpm
        rw [List.take_set, List.take_succ_eq_append_getElem (by have := hp.1; omega)] at hpm
        have hkk : (ps.take k).length = k := by rw [List.length_take]; have := hp.1; omega
        rw [List.set_append_right _ _ (by omega), hkk, Nat.sub_self, List.set_cons_zero] at hpm
        rcases List.mem_append.1 hpm with h | h
        · obtain ⟨m, q⟩ := HOW.out p h
          exact ⟨m, (q.kept k2).other hgt (by decide) _⟩
        · simp at h
          subst h
          exact ⟨f.bytes.length, (hO2.low hkr.size).other hgt (by decide) _⟩
      clear ho2 hs3 ho hp hc' hgt hO2
      go_wp2_with fail
      go_roundw
      case rel => exact ⟨k + 1, _, by omega, by go_num, ho3, hp3, hN.out, k3⟩
      case measure => simp [intOf]; omega
    · obtain rfl : k = l.length := by omega
      go_wp2_with fail
      go_ret
      exact ⟨_, rfl, TreeAt.of_row ho hp, ⟨ps, hp.1, ho, fun p h => HOW.out p (by rw [List.take_of_length_le (by rw [hp.1]; exact Nat.le_refl _)]; exact h)⟩, hkr⟩

set_option maxHeartbeats 1000000 in
theorem made_ctS {w : World} {v : Value} {l : List FileE} (h : TreeAt w v l) (hm : mayB l = true) (hl : l.length ≤ 1000) (hf : ∀ f ∈ l, f.bytes.length ≤ 100000) :
    Calls Tryd.prog 53 #[v] w fun e w' => ∃ v', e = .returned (.tuple #[v', .int .i64 0]) ∧ TreeAt w' v' l ∧ OwnT w.heap.size w' v' l.length ∧ Kept (fun _ => False) w w' := by
  have mc := may_ct h
  rw [hm] at mc
  obtain ⟨a, c, hv⟩ := h.slc
  subst hv
  go_enter Tryd.func53, Tryd.ntmps53
  go_wp2_with fail
  refine mc.mono ?_
  rintro e W ⟨rfl, k1⟩
  go_wp2_with fail
  refine (own_ctS (h.kept k1) hl hf).mono ?_
  rintro e W2 ⟨v2, rfl, h2, hO2, k2⟩
  obtain ⟨a2, c2, hv2⟩ := h2.slc
  subst hv2
  go_wp2_with fail
  go_ret2
  exact ⟨_, rfl, h2, hO2.low k1.size, k1.trans k2⟩
set_option maxHeartbeats 1000000 in
theorem made_anyS {w : World} {v : Value} {l : List FileE} (h : TreeAt w v l) :
    Calls Tryd.prog 53 #[v] w fun e w' => ((mayB l = true ∧ ∃ v', e = .returned (.tuple #[v', .int .i64 0]) ∧ TreeAt w' v' l ∧ OwnT w.heap.size w' v' l.length) ∨ (mayB l = false ∧ e = .returned (.tuple #[.slice none 0 0, .int .i64 8]))) ∧ Kept (fun _ => False) w w' := by
  cases hm : mayB l with
  | true =>
    have hi := mayIs hm
    refine (made_ctS h hm (by have := hi.len; omega) (fun f hf => by have := (hi.file f hf).2.2; omega)).mono fun e w' ⟨v', h1, h2, h4, h3⟩ => ⟨.inl ⟨rfl, v', h1, h2, h4⟩, h3⟩
  | false =>
    have mc := may_ct h
    rw [hm] at mc
    obtain ⟨a, c, hv⟩ := h.slc
    subst hv
    go_enter Tryd.func53, Tryd.ntmps53
    go_wp2_with fail
    refine mc.mono ?_
    rintro e W ⟨rfl, k1⟩
    go_wp2_with fail
    go_ret2
    exact ⟨.inr ⟨by trivial, rfl⟩, k1⟩

set_option maxRecDepth 100000 in
set_option maxHeartbeats 4000000 in
theorem under_ctS {w : World} {v : Value} {l : List FileE} (h : TreeAt w v l) (hm : mayB l = true) {d : ByteArray} (hd : pathB d = true) :
    Calls Tryd.prog 49 #[v, .string d] w fun e w' => ((mayB (l.map (upF d)) = true ∧ ∃ v', e = .returned (.tuple #[v', .int .i64 0]) ∧ TreeAt w' v' (l.map (upF d)) ∧ OwnT w.heap.size w' v' l.length) ∨ (mayB (l.map (upF d)) = false ∧ e = .returned (.tuple #[.slice none 0 0, .int .i64 8]))) ∧ Kept (fun _ => False) w w' := by
  have mc := may_ct h
  rw [hm] at mc
  have hi := mayIs hm
  have hds := pathB_size hd
  have ip := fun w' => isPath_ct d w' (by have := hds.2; simp only [maxLen]; omega)
  rw [hd] at ip
  obtain ⟨a, c, hv⟩ := h.slc
  subst hv
  have hl16 := hi.len
  go_enter Tryd.func49, Tryd.ntmps49
  go_wp2_with fail
  refine mc.mono ?_
  rintro e W ⟨rfl, k1⟩
  go_wp2_with fail
  refine (ip _).mono ?_
  rintro e W1 ⟨rfl, k2⟩
  clear mc ip
  go_wp2_with fail
  refine (cloneT_ct (h.kept (k1.trans k2)) (by omega)).mono ?_
  rintro e W2 ⟨v1, ps, rfl, ho, hp, k3⟩
  have k0 := (k1.trans k2).trans k3
  have hbase := (k1.trans k2).size
  generalize W1.heap.size = base at ho hbase
  obtain ⟨a1, c1, hv1⟩ := row_form ho
  subst hv1
  go_wp2_with fail
  go_loopw [20] (fun i wr => ∃ (k : Nat) (ps : List (ByteArray × Value)), k ≤ l.length ∧ i = .int .i64 k ∧ wr.ownsRow base 33 2 (.slice a1 l.length c1) l.length (prs ps) ∧ PairsAt wr ps (upTo d l k) ∧ Kept (fun _ => False) w wr) (fun i _ => l.length - (intOf i).toNat)
  case atStart => exact ⟨0, ps, by omega, rfl, ho, by simpa [upTo] using hp, k0⟩
  case round =>
    obtain ⟨k, ps, hk, rfl, ho, hp, hkr⟩ := hrel
    by_cases hlt : k < l.length
    · have hfk : l[k]? = some l[k] := List.getElem?_eq_getElem hlt
      have hff := (hi.file l[k] (List.getElem_mem hlt)).2.1
      generalize l[k] = f at hfk hff
      obtain ⟨hps, x, hx, hB⟩ := hp.2 k f (upTo_at hfk)
      obtain ⟨p1, p2⟩ := prs_get ps k _ hx
      obtain ⟨g, c2, hg⟩ : ∃ g c2, (Value.slice a1 l.length c1) = .slice (some ⟨g, 0, none⟩) l.length c2 := by
        rcases ho.2 with ⟨e, h0⟩ | ⟨g, cap, _, e, _⟩
        · omega
        · exact ⟨g, cap, e⟩
      injection hg with e1 _ e2
      subst e1
      subst e2
      have hgl := (World.ownsRow.lt ho g rfl).2
      have hc := ho.cells (g := g) rfl _ _ p1
      rw [Addr.add_mid] at hc
      have hc' : wr.cell? ⟨g, k * 2, none⟩ = some (.string f.path) := by rw [Nat.zero_add] at hc; exact hc
      obtain ⟨ho3, hs3, hf3, hbg⟩ := row_set ho (j := k * 2) (by omega) (.string (slashed d f.path))
      rw [prs_set1 ps k _ _ hx] at ho3
      have hss := slashed_size d f.path
      have hp3 := hp.set1 (v := .string (slashed d f.path)) hc' (fun i e => by cases e) (upTo_at hfk) (s := slashed d f.path) (by simp only [maxLen]; omega) hx
      have hup := upTo_set (d := d) hfk
      unfold upF at hup
      rw [hup] at hp3
      have k3 : Kept (fun _ => False) w (wr.setCell ⟨g, k * 2, none⟩ (.string (slashed d f.path))) := hkr.setCell (p := ⟨g, k * 2, none⟩) (fun q => by have q : g < w.heap.size := q; omega) _
      have hml : l.length ≤ 2 ^ 63 - 1 := by omega
      unfold slashed at ho3 hp3 k3 hss
      clear hs3 ho hp hc p1 p2 hup
      go_wp2_with fail
      go_roundw
      case rel => exact ⟨k + 1, _, by omega, by go_num, ho3, hp3, k3⟩
      case measure => simp [intOf]; omega
    · obtain rfl : k = l.length := by omega
      rw [upTo_all] at hp
      have ht := TreeAt.of_row ho hp
      have ma := made_anyS ht
      clear ho hp
      go_wp2_with fail
      refine ma.mono ?_
      rintro e W5 ⟨hr, k5⟩
      rcases hr with ⟨hm2, v', rfl, h5, hO5⟩ | ⟨hm2, rfl⟩
      · obtain ⟨a5, c5, hv5⟩ := h5.slc
        subst hv5
        have h5' : TreeAt W5 (.slice a5 l.length c5) (l.map (upF d)) := by rw [List.length_map] at h5; exact h5
        go_wp2_with fail
        go_ret2
        exact ⟨.inl ⟨hm2, _, rfl, h5', by rw [List.length_map] at hO5; exact hO5.low hkr.size⟩, hkr.trans k5⟩
      · go_wp2_with fail
        go_ret2
        exact ⟨.inr ⟨hm2, rfl⟩, hkr.trans k5⟩
end Go.Proofs.YthachckofghppaaDoor
