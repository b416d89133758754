/- The texts WA, WB, WC, WD, WE, WF, WG, WH, WI, WK, WL in one. -/
import Derived.Test.YtfohljljoalmoaaDoorUE
import Derived.Test.YtfohljljoalmoaaDoorVM
import Derived.Test.YtfohljljoalmoaaDoorUF
import Derived.Test.YtfohljljoalmoaaDoorTN
import Derived.Test.YtfohljljoalmoaaDoorTM
import Derived.Test.YtfohljljoalmoaaDoorVP
namespace Go.Proofs.YtfohljljoalmoaaDoor
/- Trees in memory of a call's own, that may be written over. -/
open Go.RowKit
set_option maxRecDepth 100000
set_option linter.unusedSimpArgs false
set_option linter.unusedVariables false

/-- A slice of n bytes in memory made at base or later. -/
def OwnBy (base : Nat) (w : World) (x : Value) (n : Nat) : Prop := ∃ l : List UInt8, w.ownsRow base 5 1 x n (bv l)
theorem OwnBy.kept {base : Nat} {w w' : World} {x : Value} {n : Nat} (h : OwnBy base w x n) (hk : Kept (fun _ => False) w w') : OwnBy base w' x n := by
  obtain ⟨l, h⟩ := h
  exact ⟨l, row_kept h hk⟩
theorem OwnBy.slc {base : Nat} {w : World} {x : Value} {n : Nat} (h : OwnBy base w x n) : ∃ a c, x = .slice a n c := by obtain ⟨l, h⟩ := h; exact row_form h
theorem OwnBy.low {base b2 : Nat} {w : World} {x : Value} {n : Nat} (h : OwnBy base w x n) (hb : b2 ≤ base) : OwnBy b2 w x n := by
  obtain ⟨l, h1, h2⟩ := h
  refine ⟨l, h1, ?_⟩
  rcases h2 with h2 | ⟨g, cap, cur, q1, q2, q3⟩
  · exact .inl h2
  · exact .inr ⟨g, cap, cur, q1, Nat.le_trans hb q2, q3⟩
/-- A cell of another kind of block is written. -/
theorem OwnBy.other {base : Nat} {w : World} {x : Value} {n : Nat} (h : OwnBy base w x n) {g j : Nat} {C : Array Value} {t : TypeId} {fr : Nat × Nat} (hg : w.heap[g]? = some (.cells C t fr)) (ht : t ≠ 5) (v : Value) : OwnBy base (w.setCell ⟨g, j, none⟩ v) x n := by
  obtain ⟨l, h1, h2⟩ := h
  refine ⟨l, h1, ?_⟩
  rcases h2 with h2 | ⟨g', cap, cur, q1, q2, q3, q4⟩
  · exact .inl h2
  · refine .inr ⟨g', cap, cur, q1, q2, ?_, q4⟩
    rw [Below.heap_setCell _ _ _ _ (fun e => by
      have e : g' = g := e
      subst e
      rw [hg] at q3
      injection q3 with q3
      injection q3 with _ q3 _
      exact ht q3)]
    exact q3
theorem bv_set (l : List UInt8) (j : Nat) (u : UInt8) : bv (l.set j u) = (bv l).set j (.int .u8 u.toNat) := by unfold bv; rw [List.map_set]
/-- A byte is written. -/
theorem OwnBy.poke {base : Nat} {w : World} {x : Value} {n : Nat} (h : OwnBy base w x n) {g j : Nat} {C : Array Value} (hg : w.heap[g]? = some (.cells C 5 (0, 0))) (u : UInt8) : OwnBy base (w.setCell ⟨g, j, none⟩ (.int .u8 u.toNat)) x n := by
  obtain ⟨l, h1, h2⟩ := h
  rcases h2 with h2 | ⟨g', cap, cur, q1, q2, q3, q4, q5, q6, q7⟩
  · exact ⟨l, h1, .inl h2⟩
  · by_cases e : g' = g
    · subst e
      refine ⟨l.set j u, by rw [bv_set, List.length_set]; exact h1, .inr ⟨g', cap, _, q1, q2, heap_setCell_same q3 _, q4, q5, by rw [Array.size_setIfInBounds]; exact q6, ?_⟩⟩
      rw [Array.toList_setIfInBounds, List.take_set, q7, bv_set]
    · exact ⟨l, h1, .inr ⟨g', cap, cur, q1, q2, by rw [Below.heap_setCell _ _ _ _ e]; exact q3, q4, q5, q6, q7⟩⟩
def OwnT (base : Nat) (w : World) (v : Value) (n : Nat) : Prop := ∃ ps : List (ByteArray × Value), ps.length = n ∧ w.ownsRow base 46 2 v n (prs ps) ∧ ∀ p ∈ ps, ∃ m, OwnBy base w p.2 m
theorem OwnT.kept {base : Nat} {w w' : World} {v : Value} {n : Nat} (h : OwnT base w v n) (hk : Kept (fun _ => False) w w') : OwnT base w' v n := by
  obtain ⟨ps, h1, h2, h3⟩ := h
  exact ⟨ps, h1, row_kept h2 hk, fun p hp => by obtain ⟨m, q⟩ := h3 p hp; exact ⟨m, q.kept hk⟩⟩
theorem OwnT.low {base b2 : Nat} {w : World} {v : Value} {n : Nat} (h : OwnT base w v n) (hb : b2 ≤ base) : OwnT b2 w v n := by
  obtain ⟨ps, h1, ⟨h0, h2⟩, h3⟩ := h
  refine ⟨ps, h1, ⟨h0, ?_⟩, fun p hp => by obtain ⟨m, q⟩ := h3 p hp; exact ⟨m, q.low hb⟩⟩
  rcases h2 with h2 | ⟨g, cap, cur, q1, q2, q3⟩
  · exact .inl h2
  · exact .inr ⟨g, cap, cur, q1, Nat.le_trans hb q2, q3⟩
theorem OwnT.nil (base : Nat) (w : World) : OwnT base w (.slice none 0 0) 0 := ⟨[], rfl, World.ownsRow_nil _ _ _ _, fun p hp => by simp at hp⟩
theorem OwnT.poke {base : Nat} {w : World} {v : Value} {n : Nat} (h : OwnT base w v n) {g j : Nat} {C : Array Value} (hg : w.heap[g]? = some (.cells C 5 (0, 0))) (u : UInt8) : OwnT base (w.setCell ⟨g, j, none⟩ (.int .u8 u.toNat)) v n := by
  obtain ⟨ps, h1, ⟨h0, h2⟩, h3⟩ := h
  refine ⟨ps, h1, ⟨h0, ?_⟩, fun p hp => by obtain ⟨m, q⟩ := h3 p hp; exact ⟨m, q.poke hg u⟩⟩
  rcases h2 with h2 | ⟨g', cap, cur, q1, q2, q3, q4⟩
  · exact .inl h2
  · refine .inr ⟨g', cap, cur, q1, q2, ?_, q4⟩
    rw [Below.heap_setCell _ _ _ _ (fun e => by
      have e : g' = g := e
      subst e
      rw [hg] at q3
      injection q3 with q3
      injection q3 with _ q3 _
      exact absurd q3 (by decide))]
    exact q3

/- Clone, own, made, Under: in memory of their own. -/

set_option maxHeartbeats 1000000 in
theorem cloneB_ctS {w : World} {v : Value} {l : List UInt8} (h : ByAt w v l) (hl : l.length ≤ 100000) :
    Calls Tryd.prog 62 #[v] w fun e w' => ∃ v', e = .returned v' ∧ ByAt w' v' l ∧ OwnBy w.heap.size w' v' l.length ∧ Kept (fun _ => False) w w' := by
  obtain ⟨a, c, hv⟩ := h.slc
  subst hv
  have q25 : ∀ (w : World) (a : Option Addr) (n c n' c' : Nat), (binOp .eql 44 (.slice a n c) (.slice none n' c')).run Tryd.prog w = .ok (.bool a.isNone) w := fun w a n c n' c' => Lib.run_eql_slice_nil w _ _ a n c n' c' Tryd.underlying44
  cases a with
  | none =>
    have hl0 : l = [] := by
      apply Classical.byContradiction; intro hh
      obtain ⟨_, _, e, _, h3⟩ := h
      injection e with e _ _
      subst e
      obtain ⟨b, o, e, _⟩ := h3 hh; cases e
    subst hl0
    go_enter Tryd.func62, Tryd.ntmps62
    go_wp2_with fail
    go_ret
    exact ⟨_, rfl, ByAt.nil _ _, ⟨[], World.ownsRow_nil _ _ _ _⟩, Kept.refl _ _⟩
  | some ad =>
    have bs := bslice_b0 w
    have k1 : Kept (fun _ => False) w (w.alloc (.cells #[] 5)) := (Kept.refl _ w).alloc _
    have ho : (w.alloc (.cells #[] 5)).ownsRow w.heap.size 5 1 (.slice (some ⟨w.heap.size, 0, none⟩) 0 0) 0 [] := World.ownsRow_made w #[] 0 (Nat.le_refl _) (Nat.zero_le _) rfl
    generalize w.alloc (.cells #[] 5) = W at bs k1 ho
    obtain ⟨v', w', ap, ho', hg'⟩ := app_by ho (h.kept k1) (by omega) k1.size 44
    have k2 : Kept (fun _ => False) w w' := grown_kept k1 hg' (fun k e => by have e : some w.heap.size = some k := e; injection e with e; omega)
    obtain ⟨a', c', hv'⟩ := row_form ho'
    subst hv'
    rw [List.nil_append] at ho'
    have hB : ByAt w' (.slice a' (0 + l.length) c') l := ByAt.own ho'
    have hO : OwnBy w.heap.size w' (.slice a' (0 + l.length) c') (0 + l.length) := ⟨l, ho'⟩
    rw [Nat.zero_add] at hB hO ap
    go_enter Tryd.func62, Tryd.ntmps62
    go_wp2_with (first
      | (with_reducible refine wpl_bslice 44 _ _ rfl rfl ?_ bs ?_
         · (go_simp <;> rfl)
         simp only [Act.put, List.getElem_toArray, List.getElem_cons_zero, List.getElem_cons_succ, List.setIfInBounds_toArray, List.set_cons_zero, List.set_cons_succ])
      | (refine wpl_val rfl (exec_append 44 _ _ rfl rfl rfl ap) ?_))
    go_ret
    exact ⟨_, rfl, hB, hO, k2⟩

set_option maxRecDepth 100000 in
set_option maxHeartbeats 2000000 in
theorem own_ctS {w : World} {v : Value} {l : List FileE} (h : TreeAt w v l) (hl : l.length ≤ 1000) (hf : ∀ f ∈ l, f.bytes.length ≤ 100000) :
    Calls Tryd.prog 40 #[v] w fun e w' => ∃ v', e = .returned v' ∧ TreeAt w' v' l ∧ OwnT w.heap.size w' v' l.length ∧ Kept (fun _ => False) w w' := by
  obtain ⟨a, c, hv⟩ := h.slc
  subst hv
  go_enter Tryd.func40, Tryd.ntmps40
  go_wp2_with fail
  refine (cloneT_ct h hl).mono ?_
  rintro e W ⟨v1, ps, rfl, ho, hp, k1⟩
  obtain ⟨a1, c1, hv1⟩ := row_form ho
  subst hv1
  go_wp2_with fail
  go_loopw [9] (fun i wr => ∃ (k : Nat) (ps : List (ByteArray × Value)), k ≤ l.length ∧ i = .int .i64 k ∧ wr.ownsRow w.heap.size 46 2 (.slice a1 l.length c1) l.length (prs ps) ∧ PairsAt wr ps l ∧ (∀ p ∈ ps.take k, ∃ m, OwnBy w.heap.size wr p.2 m) ∧ Kept (fun _ => False) w wr) (fun i _ => l.length - (intOf i).toNat)
  case atStart => exact ⟨0, ps, by omega, rfl, ho, hp, fun p hp => by simp at hp, k1⟩
  case round =>
    obtain ⟨k, ps, hk, rfl, ho, hp, how, hkr⟩ := hrel
    have HOW := Lib.hid how
    clear how
    by_cases hlt : k < l.length
    · have hfk : l[k]? = some l[k] := List.getElem?_eq_getElem hlt
      have hff := hf l[k] (List.getElem_mem hlt)
      generalize l[k] = f at hfk hff
      obtain ⟨hps, x, hx, hB⟩ := hp.2 k f hfk
      obtain ⟨p1, p2⟩ := prs_get ps k _ hx
      obtain ⟨g, c2, hg⟩ : ∃ g c2, (Value.slice a1 l.length c1) = .slice (some ⟨g, 0, none⟩) l.length c2 := by
        rcases ho.2 with ⟨e, h0⟩ | ⟨g, cap, _, e, _⟩
        · omega
        · exact ⟨g, cap, e⟩
      injection hg with e1 _ e2
      subst e1
      subst e2
      have hgl := (World.ownsRow.lt ho g rfl).2
      have hc := ho.cells (g := g) rfl _ _ p2
      rw [Addr.add_mid] at hc
      have hml : l.length ≤ 2 ^ 63 - 1 := by omega
      obtain ⟨ab, cb, hxb⟩ := hB.slc
      subst hxb
      have hc' : wr.cell? ⟨g, k * 2 + 1, none⟩ = some (.slice ab f.bytes.length cb) := by rw [Nat.zero_add] at hc; exact hc
      clear hc
      go_wp2_with fail
      refine (cloneB_ctS hB hff).mono ?_
      rintro e W2 ⟨v2, rfl, h2, hO2, k2⟩
      obtain ⟨a2, c2, hv2⟩ := h2.slc
      subst hv2
      have ho2 := row_kept ho k2
      obtain ⟨ho3, hs3, hf3, hbg⟩ := row_set ho2 (j := k * 2 + 1) (by omega) (.slice a2 f.bytes.length c2)
      rw [prs_set2 ps k _ _ hx] at ho3
      have hc2 : W2.cell? ⟨g, k * 2 + 1, none⟩ = some (.slice ab f.bytes.length cb) := by
        rw [k2.cell (p := ⟨g, k * 2 + 1, none⟩) hgl not_false]; exact hc'
      have hp3 := (hp.kept k2).set2 (v := .slice a2 f.bytes.length c2) hc2 (fun i e => by cases e) hfk h2
      have k3 : Kept (fun _ => False) w (W2.setCell ⟨g, k * 2 + 1, none⟩ (.slice a2 f.bytes.length c2)) := (hkr.trans k2).setCell (p := ⟨g, k * 2 + 1, none⟩) (fun q => by have q : g < w.heap.size := q; omega) _
      have hgt : ∃ C fr, W2.heap[g]? = some (.cells C 46 fr) := by
        rcases ho2.2 with ⟨e, _⟩ | ⟨g', cap, cur, e, _, hh, _⟩
        · cases e
        · injection e with e1 _ _
          injection e1 with e1
          injection e1 with e1 _ _
          subst e1
          exact ⟨cur, _, hh⟩
      obtain ⟨CC, frr, hgt⟩ := hgt
      have hN : Hid (∀ p ∈ (ps.set k (f.path, .slice a2 f.bytes.length c2)).take (k + 1), ∃ m, OwnBy w.heap.size (W2.setCell ⟨g, k * 2 + 1, none⟩ (.slice a2 f.bytes.length c2)) p.2 m) := by
        intro p hpm
        rw [List.take_set, List.take_succ_eq_append_getElem (by have := hp.1; omega)] at hpm
        have hkk : (ps.take k).length = k := by rw [List.length_take]; have := hp.1; omega
        rw [List.set_append_right _ _ (by omega), hkk, Nat.sub_self, List.set_cons_zero] at hpm
        rcases List.mem_append.1 hpm with h | h
        · obtain ⟨m, q⟩ := HOW.out p h
          exact ⟨m, (q.kept k2).other hgt (by decide) _⟩
        · simp at h
          subst h
          exact ⟨f.bytes.length, (hO2.low hkr.size).other hgt (by decide) _⟩
      clear ho2 hs3 ho hp hc' hgt hO2
      go_wp2_with fail
      go_roundw
      case rel => exact ⟨k + 1, _, by omega, by go_num, ho3, hp3, hN.out, k3⟩
      case measure => simp [intOf]; omega
    · obtain rfl : k = l.length := by omega
      go_wp2_with fail
      go_ret
      exact ⟨_, rfl, TreeAt.of_row ho hp, ⟨ps, hp.1, ho, fun p h => HOW.out p (by rw [List.take_of_length_le (by rw [hp.1]; exact Nat.le_refl _)]; exact h)⟩, hkr⟩

set_option maxHeartbeats 1000000 in
theorem made_ctS {w : World} {v : Value} {l : List FileE} (h : TreeAt w v l) (hm : mayB l = true) (hl : l.length ≤ 1000) (hf : ∀ f ∈ l, f.bytes.length ≤ 100000) :
    Calls Tryd.prog 44 #[v] w fun e w' => ∃ v', e = .returned (.tuple #[v', .int .i64 0]) ∧ TreeAt w' v' l ∧ OwnT w.heap.size w' v' l.length ∧ Kept (fun _ => False) w w' := by
  have mc := may_ct h
  rw [hm] at mc
  obtain ⟨a, c, hv⟩ := h.slc
  subst hv
  go_enter Tryd.func44, Tryd.ntmps44
  go_wp2_with fail
  refine mc.mono ?_
  rintro e W ⟨rfl, k1⟩
  go_wp2_with fail
  refine (own_ctS (h.kept k1) hl hf).mono ?_
  rintro e W2 ⟨v2, rfl, h2, hO2, k2⟩
  obtain ⟨a2, c2, hv2⟩ := h2.slc
  subst hv2
  go_wp2_with fail
  go_ret2
  exact ⟨_, rfl, h2, hO2.low k1.size, k1.trans k2⟩
set_option maxHeartbeats 1000000 in
theorem made_anyS {w : World} {v : Value} {l : List FileE} (h : TreeAt w v l) :
    Calls Tryd.prog 44 #[v] w fun e w' => ((mayB l = true ∧ ∃ v', e = .returned (.tuple #[v', .int .i64 0]) ∧ TreeAt w' v' l ∧ OwnT w.heap.size w' v' l.length) ∨ (mayB l = false ∧ e = .returned (.tuple #[.slice none 0 0, .int .i64 8]))) ∧ Kept (fun _ => False) w w' := by
  cases hm : mayB l with
  | true =>
    have hi := mayIs hm
    refine (made_ctS h hm (by have := hi.len; omega) (fun f hf => by have := (hi.file f hf).2.2; omega)).mono fun e w' ⟨v', h1, h2, h4, h3⟩ => ⟨.inl ⟨rfl, v', h1, h2, h4⟩, h3⟩
  | false =>
    have mc := may_ct h
    rw [hm] at mc
    obtain ⟨a, c, hv⟩ := h.slc
    subst hv
    go_enter Tryd.func44, Tryd.ntmps44
    go_wp2_with fail
    refine mc.mono ?_
    rintro e W ⟨rfl, k1⟩
    go_wp2_with fail
    go_ret2
    exact ⟨.inr ⟨by trivial, rfl⟩, k1⟩

set_option maxRecDepth 100000 in
set_option maxHeartbeats 4000000 in
theorem under_ctS {w : World} {v : Value} {l : List FileE} (h : TreeAt w v l) (hm : mayB l = true) {d : ByteArray} (hd : pathB d = true) :
    Calls Tryd.prog 27 #[v, .string d] w fun e w' => ((mayB (l.map (upF d)) = true ∧ ∃ v', e = .returned (.tuple #[v', .int .i64 0]) ∧ TreeAt w' v' (l.map (upF d)) ∧ OwnT w.heap.size w' v' l.length) ∨ (mayB (l.map (upF d)) = false ∧ e = .returned (.tuple #[.slice none 0 0, .int .i64 8]))) ∧ Kept (fun _ => False) w w' := by
  have mc := may_ct h
  rw [hm] at mc
  have hi := mayIs hm
  have hds := pathB_size hd
  have ip := fun w' => isPath_ct d w' (by have := hds.2; simp only [maxLen]; omega)
  rw [hd] at ip
  obtain ⟨a, c, hv⟩ := h.slc
  subst hv
  have hl16 := hi.len
  go_enter Tryd.func27, Tryd.ntmps27
  go_wp2_with fail
  refine mc.mono ?_
  rintro e W ⟨rfl, k1⟩
  go_wp2_with fail
  refine (ip _).mono ?_
  rintro e W1 ⟨rfl, k2⟩
  clear mc ip
  go_wp2_with fail
  refine (cloneT_ct (h.kept (k1.trans k2)) (by omega)).mono ?_
  rintro e W2 ⟨v1, ps, rfl, ho, hp, k3⟩
  have k0 := (k1.trans k2).trans k3
  have hbase := (k1.trans k2).size
  generalize W1.heap.size = base at ho hbase
  obtain ⟨a1, c1, hv1⟩ := row_form ho
  subst hv1
  go_wp2_with fail
  go_loopw [20] (fun i wr => ∃ (k : Nat) (ps : List (ByteArray × Value)), k ≤ l.length ∧ i = .int .i64 k ∧ wr.ownsRow base 46 2 (.slice a1 l.length c1) l.length (prs ps) ∧ PairsAt wr ps (upTo d l k) ∧ Kept (fun _ => False) w wr) (fun i _ => l.length - (intOf i).toNat)
  case atStart => exact ⟨0, ps, by omega, rfl, ho, by simpa [upTo] using hp, k0⟩
  case round =>
    obtain ⟨k, ps, hk, rfl, ho, hp, hkr⟩ := hrel
    by_cases hlt : k < l.length
    · have hfk : l[k]? = some l[k] := List.getElem?_eq_getElem hlt
      have hff := (hi.file l[k] (List.getElem_mem hlt)).2.1
      generalize l[k] = f at hfk hff
      obtain ⟨hps, x, hx, hB⟩ := hp.2 k f (upTo_at hfk)
      obtain ⟨p1, p2⟩ := prs_get ps k _ hx
      obtain ⟨g, c2, hg⟩ : ∃ g c2, (Value.slice a1 l.length c1) = .slice (some ⟨g, 0, none⟩) l.length c2 := by
        rcases ho.2 with ⟨e, h0⟩ | ⟨g, cap, _, e, _⟩
        · omega
        · exact ⟨g, cap, e⟩
      injection hg with e1 _ e2
      subst e1
      subst e2
      have hgl := (World.ownsRow.lt ho g rfl).2
      have hc := ho.cells (g := g) rfl _ _ p1
      rw [Addr.add_mid] at hc
      have hc' : wr.cell? ⟨g, k * 2, none⟩ = some (.string f.path) := by rw [Nat.zero_add] at hc; exact hc
      obtain ⟨ho3, hs3, hf3, hbg⟩ := row_set ho (j := k * 2) (by omega) (.string (slashed d f.path))
      rw [prs_set1 ps k _ _ hx] at ho3
      have hss := slashed_size d f.path
      have hp3 := hp.set1 (v := .string (slashed d f.path)) hc' (fun i e => by cases e) (upTo_at hfk) (s := slashed d f.path) (by simp only [maxLen]; omega) hx
      have hup := upTo_set (d := d) hfk
      unfold upF at hup
      rw [hup] at hp3
      have k3 : Kept (fun _ => False) w (wr.setCell ⟨g, k * 2, none⟩ (.string (slashed d f.path))) := hkr.setCell (p := ⟨g, k * 2, none⟩) (fun q => by have q : g < w.heap.size := q; omega) _
      have hml : l.length ≤ 2 ^ 63 - 1 := by omega
      unfold slashed at ho3 hp3 k3 hss
      clear hs3 ho hp hc p1 p2 hup
      go_wp2_with fail
      go_roundw
      case rel => exact ⟨k + 1, _, by omega, by go_num, ho3, hp3, k3⟩
      case measure => simp [intOf]; omega
    · obtain rfl : k = l.length := by omega
      rw [upTo_all] at hp
      have ht := TreeAt.of_row ho hp
      have ma := made_anyS ht
      clear ho hp
      go_wp2_with fail
      refine ma.mono ?_
      rintro e W5 ⟨hr, k5⟩
      rcases hr with ⟨hm2, v', rfl, h5, hO5⟩ | ⟨hm2, rfl⟩
      · obtain ⟨a5, c5, hv5⟩ := h5.slc
        subst hv5
        have h5' : TreeAt W5 (.slice a5 l.length c5) (l.map (upF d)) := by rw [List.length_map] at h5; exact h5
        go_wp2_with fail
        go_ret2
        exact ⟨.inl ⟨hm2, _, rfl, h5', by rw [List.length_map] at hO5; exact hO5.low hkr.size⟩, hkr.trans k5⟩
      · go_wp2_with fail
        go_ret2
        exact ⟨.inr ⟨hm2, rfl⟩, hkr.trans k5⟩

/- Below, Get, With: in memory of their own. -/

set_option maxRecDepth 100000 in
set_option maxHeartbeats 4000000 in
theorem below_ctS {w : World} {v : Value} {l : List FileE} (h : TreeAt w v l) (hm : mayB l = true) {d : ByteArray} (hd : pathB d = true) :
    Calls Tryd.prog 19 #[v, .string d] w fun e w' => ∃ v', e = .returned v' ∧ TreeAt w' v' (belowL d l) ∧ OwnT w.heap.size w' v' (belowL d l).length ∧ Kept (fun _ => False) w w' := by
  have mc := may_ct h
  rw [hm] at mc
  have hi := mayIs hm
  have hds := pathB_size hd
  have ip := fun w' => isPath_ct d w' (by have := hds.2; simp only [maxLen]; omega)
  rw [hd] at ip
  obtain ⟨a, c, hv⟩ := h.slc
  subst hv
  have hl16 := hi.len
  go_enter Tryd.func19, Tryd.ntmps19
  go_wp2_with fail
  refine mc.mono ?_
  rintro e W ⟨rfl, k1⟩
  go_wp2_with fail
  refine (ip _).mono ?_
  rintro e W1 ⟨rfl, k2⟩
  have k12 := k1.trans k2
  clear mc ip k1 k2
  go_wp2_with fail
  go_loopw [4, 19] (fun r i wr => ∃ (k : Nat) (ps : List (ByteArray × Value)), k ≤ l.length ∧ i = .int .i64 k ∧ wr.ownsRow w.heap.size 46 2 r ps.length (prs ps) ∧ PairsAt w ps (belowL d (l.take k)) ∧ Kept (fun _ => False) w wr) (fun _ i _ => l.length - (intOf i).toNat)
  case atStart => exact ⟨0, [], by omega, rfl, World.ownsRow_nil _ _ _ _, ⟨rfl, fun j f hf => by simp [belowL] at hf⟩, k12⟩
  case round =>
    obtain ⟨k, ps, hk, rfl, ho, hp, hkr⟩ := hrel
    obtain ⟨ao, co, hvo⟩ := row_form ho
    subst hvo
    by_cases hlt : k < l.length
    · have hfk : l[k]? = some l[k] := List.getElem?_eq_getElem hlt
      have hff := hi.file l[k] (List.getElem_mem hlt)
      generalize l[k] = f at hfk hff
      obtain ⟨hps, b, o, x, rfl, hbl, hrx, hB⟩ := h.file hfk
      obtain ⟨ab, cb, rfl⟩ := hB.slc
      have ld := load_file (rangeAt_stay hkr hbl not_false hrx)
      have st := store_file (w := wr) (p := f.path) (a := ab) (n := f.bytes.length) (c := cb)
      go_upto_region 6 with (first
        | (with_reducible refine wpl_load 46 _ rfl rfl ?_ ld ?_
           · rfl
           simp only [Act.put, List.getElem_toArray, List.getElem_cons_zero, List.getElem_cons_succ, List.setIfInBounds_toArray, List.set_cons_zero, List.set_cons_succ])
        | (with_reducible refine wpl_alloc 46 rfl rfl (zeroFile _) ?_
           simp only [World.size_alloc, Act.put, List.getElem_toArray, List.getElem_cons_zero, List.getElem_cons_succ, List.setIfInBounds_toArray, List.set_cons_zero, List.set_cons_succ])
        | (with_reducible refine wpl_store 46 _ _ rfl rfl ?_ ?_ st ?_
           · rfl
           · rfl
           simp only [Act.put, List.getElem_toArray, List.getElem_cons_zero, List.getElem_cons_succ, List.setIfInBounds_toArray, List.set_cons_zero, List.set_cons_succ]))
      have hb7 := heap_last wr (.cells #[.string f.path, .slice ab f.bytes.length cb] 46)
      have k7 : Kept (fun _ => False) wr (wr.alloc (.cells #[.string f.path, .slice ab f.bytes.length cb] 46)) := (Kept.refl _ wr).alloc _
      generalize wr.alloc (.cells #[.string f.path, .slice ab f.bytes.length cb] 46) = W7 at hb7 k7 ⊢
      generalize wr.heap.size = B at hb7 ⊢
      have cF0 : W7.cell? ⟨B, 0, none⟩ = some (.string f.path) := by rw [cell_of_row _ _ _ _ _ _ hb7]; rfl
      have cF1 : W7.cell? ⟨B, 1, none⟩ = some (.slice ab f.bytes.length cb) := by rw [cell_of_row _ _ _ _ _ _ hb7]; rfl
      have hdS : (dirS d).size = d.size + 1 := by unfold dirS; rw [ByteArray.size_append]; rfl
      have cc := cut_ct f.path (dirS d) W7 (by omega) (by omega)
      have ho7 := row_kept ho k7
      have kw7 := hkr.trans k7
      have hps16 : ps.length ≤ 16 := by
        have hpl := hp.1
        have hbl2 := belowL_len d (l.take k)
        have hll : (l.take k).length ≤ 16 := by rw [List.length_take]; omega
        omega
      clear ld st hrx ho
      unfold cutV at cc
      cases hb : hasB f.path (dirS d) with
      | true =>
        have hbe := belowL_yes hfk hb
        rw [hb] at cc
        clear hb
        have hrs : (restS d f.path).size ≤ f.path.size := extract_le _ _ _
        have hsn := hp.snoc (f := ⟨restS d f.path, f.bytes⟩) (x := .slice ab f.bytes.length cb) (by simp only [maxLen]; omega) hB
        rw [← hbe] at hsn
        have hrd : f.path.extract (dirS d).size f.path.size = restS d f.path := rfl
        rw [hrd] at cc
        generalize restS d f.path = rest at cc hsn hrs
        have hdd : dirS d = d ++ ⟨#[47]⟩ := rfl
        rw [hdd] at cc
        clear hrd hdd hdS hbe
        go_wp2_with fail
        refine cc.mono ?_
        rintro e W8 ⟨rfl, hW8⟩
        subst hW8
        have bs := bslice_f1 rest ab f.bytes.length cb W8
        have bf := build_f rest ab f.bytes.length cb W8
        have k8 : Kept (fun _ => False) W8 (W8.alloc (.cells #[.string rest, .slice ab f.bytes.length cb] 46)) := (Kept.refl _ W8).alloc _
        have hr8 := heap_last W8 (.cells #[.string rest, .slice ab f.bytes.length cb] 46)
        generalize W8.alloc (.cells #[.string rest, .slice ab f.bytes.length cb] 46) = W9 at bs k8 hr8
        obtain ⟨v', w', ap, ho', hg'⟩ := app_files (row_kept ho7 k8) (ad := ⟨W8.heap.size, 0, none⟩) (m := 1) (c := 1) (news := prs [(rest, .slice ab f.bytes.length cb)]) rfl (fun j u hu => by
          rw [Addr.add_mid, Nat.zero_add, cell_of_row _ _ _ _ _ _ hr8]
          simpa [prs] using hu) (fun u hu => by simp [prs] at hu; rcases hu with rfl | rfl <;> rfl) (by omega) (Nat.le_trans kw7.size k8.size) 27 27 Tryd.underlying27
        have k9 : Kept (fun _ => False) w w' := grown_kept (kw7.trans k8) hg' (fun k e => (World.ownsRow.lt ho7 k e).1)
        rw [← prs_app] at ho'
        obtain ⟨a', c', hv'⟩ := row_form ho'
        subst hv'
        have HSN := Lib.hid hsn
        clear ho7 hp hg' hr8 k8 hsn hB
        go_wp2_with (first
          | (with_reducible refine wpl_build 46 _ rfl rfl ?_ bf ?_
             · (go_simp <;> rfl)
             simp only [Act.put, List.getElem_toArray, List.getElem_cons_zero, List.getElem_cons_succ, List.setIfInBounds_toArray, List.set_cons_zero, List.set_cons_succ])
          | (with_reducible refine wpl_bslice 27 _ _ rfl rfl ?_ bs ?_
             · (go_simp <;> rfl)
             simp only [Act.put, List.getElem_toArray, List.getElem_cons_zero, List.getElem_cons_succ, List.setIfInBounds_toArray, List.set_cons_zero, List.set_cons_succ])
          | (refine wpl_val rfl (exec_append 27 _ _ rfl rfl rfl ap) ?_))
        go_roundw
        case rel => exact ⟨k + 1, _, by omega, by go_num, by rw [List.length_append]; exact ho', HSN.out, k9⟩
        case measure => simp [intOf]; omega
      | false =>
        have hbe := belowL_no hfk hb
        rw [hb] at cc
        clear hb
        rw [← hbe] at hp
        have HP := Lib.hid hp
        clear hp hB
        have hdd : dirS d = d ++ ⟨#[47]⟩ := rfl
        rw [hdd] at cc
        clear hdd hdS hbe
        go_wp2_with fail
        refine cc.mono ?_
        rintro e W8 ⟨rfl, hW8⟩
        subst hW8
        go_wp2_with fail
        go_roundw
        case rel => exact ⟨k + 1, ps, by omega, by go_num, ho7, HP.out, kw7⟩
        case measure => simp [intOf]; omega
    · obtain rfl : k = l.length := by omega
      rw [List.take_length] at hp
      have ht := TreeAt.of_row ho (hp.kept hkr)
      have oc := own_ctS ht (by have := belowL_len d l; omega) (fun g hg => by obtain ⟨f, hf, e⟩ := belowL_mem hg; rw [e]; have := (hi.file f hf).2.2; omega)
      clear ho hp
      go_wp2_with fail
      refine oc.mono ?_
      rintro e W5 ⟨v5, rfl, h5, hO5, k5⟩
      obtain ⟨a5, c5, hv5⟩ := h5.slc
      subst hv5
      go_wp2_with fail
      go_ret
      exact ⟨_, rfl, h5, hO5.low hkr.size, hkr.trans k5⟩
def GetIsS (base : Nat) (l : List FileE) (s : ByteArray) (w : World) (e : Ending) : Prop :=
  (∃ v f, (mayB l && thereB l s) = true ∧ l[posL l s]? = some f ∧ e = .returned (.tuple #[v, .bool true]) ∧ ByAt w v f.bytes ∧ OwnBy base w v f.bytes.length) ∨ ((mayB l && thereB l s) = false ∧ e = .returned (.tuple #[.slice none 0 0, .bool false]))
def WithIsS (base : Nat) (l : List FileE) (s : ByteArray) (b : List UInt8) (w : World) (e : Ending) : Prop :=
  ((mayB l && pathB s) = false ∧ e = .returned (.tuple #[.slice none 0 0, .int .i64 2])) ∨
  ((mayB l && pathB s) = true ∧ mayB (withL l s b) = false ∧ e = .returned (.tuple #[.slice none 0 0, .int .i64 8])) ∨
  ((mayB l && pathB s) = true ∧ mayB (withL l s b) = true ∧ ∃ v', e = .returned (.tuple #[v', .int .i64 0]) ∧ TreeAt w v' (withL l s b) ∧ OwnT base w v' (withL l s b).length)

set_option maxRecDepth 100000 in
set_option maxHeartbeats 4000000 in
theorem with_ctS {w : World} {v x : Value} {l : List FileE} (h : TreeAt w v l) (s : ByteArray) (hs : s.size ≤ maxLen) {b : List UInt8} (hb : ByAt w x b) :
    Calls Tryd.prog 20 #[v, .string s, x] w fun e w' => WithIsS w.heap.size l s b w' e ∧ Kept (fun _ => False) w w' := by
  have mc := may_ct h
  have ip := fun w' => isPath_ct s w' hs
  cases hm : mayB l with
  | false =>
    rw [hm] at mc
    obtain ⟨a, c, hv⟩ := h.slc
    subst hv
    obtain ⟨a2, c2, hx⟩ := hb.slc
    subst hx
    go_enter Tryd.func20, Tryd.ntmps20
    go_wp2_with fail
    refine (mc).mono ?_
    rintro e W ⟨rfl, k1⟩
    go_wp2_with fail
    go_ret2
    exact ⟨.inl ⟨by rw [hm]; rfl, rfl⟩, k1⟩
  | true =>
    rw [hm] at mc
    cases hp : pathB s with
    | false =>
      rw [hp] at ip
      obtain ⟨a, c, hv⟩ := h.slc
      subst hv
      obtain ⟨a2, c2, hx⟩ := hb.slc
      subst hx
      have HP := Lib.hid hp
      clear hp hm
      go_enter Tryd.func20, Tryd.ntmps20
      go_wp2_with fail
      refine (mc).mono ?_
      rintro e W ⟨rfl, k1⟩
      go_wp2_with fail
      refine (ip _).mono ?_
      rintro e W2 ⟨rfl, k2⟩
      go_wp2_with fail
      go_ret2
      exact ⟨.inl ⟨by rw [HP.out, Bool.and_false], rfl⟩, k1.trans k2⟩
    | true =>
      rw [hp] at ip
      have fc := fun w' (k : Kept (fun _ => False) w w') => find_ct (h.kept k) hm s
      have hi := mayIs hm
      have hl16 := hi.len
      have hw : withL l s b = if thereB l s = true then l.set (posL l s) ⟨s, b⟩ else l.take (posL l s) ++ ⟨s, b⟩ :: l.drop (posL l s) := rfl
      have hple := pos_le l s
      have HMP : Hid ((mayB l && pathB s) = true) := by unfold Hid; rw [hm, hp]; rfl
      have hpt := fun h => pos_there (l := l) (s := s) h
      obtain ⟨a, c, hv⟩ := h.slc
      subst hv
      obtain ⟨a2, c2, hx⟩ := hb.slc
      subst hx
      have hbone := hb.one
      clear hp hm
      have HPT := Lib.hid hpt
      have HW := Lib.hid hw
      clear hw hpt
      generalize posL l s = j at fc hple HPT HW
      generalize thereB l s = th at fc HPT HW
      go_enter Tryd.func20, Tryd.ntmps20
      go_wp2_with fail
      refine (mc).mono ?_
      rintro e W ⟨rfl, k1⟩
      go_wp2_with fail
      refine (ip _).mono ?_
      rintro e W2 ⟨rfl, k2⟩
      go_wp2_with fail
      have k12 := k1.trans k2
      refine (fc _ k12).mono ?_
      rintro e W3 ⟨rfl, k3⟩
      have k13 := k12.trans k3
      clear k1 k2 k3 k12 mc ip fc
      have st := store_file (w := W3) (p := s) (a := a2) (n := b.length) (c := c2)
      go_wp2_with (first
        | (with_reducible refine wpl_alloc 46 rfl rfl (zeroFile _) ?_
           simp only [World.size_alloc, Act.put, List.getElem_toArray, List.getElem_cons_zero, List.getElem_cons_succ, List.setIfInBounds_toArray, List.set_cons_zero, List.set_cons_succ])
        | (with_reducible refine wpl_store 46 _ _ rfl rfl ?_ ?_ st ?_
           · rfl
           · rfl
           simp only [Act.put, List.getElem_toArray, List.getElem_cons_zero, List.getElem_cons_succ, List.setIfInBounds_toArray, List.set_cons_zero, List.set_cons_succ]))
      have hgb := heap_last W3 (.cells #[.string s, .slice a2 b.length c2] 46)
      have k4 : Kept (fun _ => False) w (W3.alloc (.cells #[.string s, .slice a2 b.length c2] 46)) := k13.alloc _
      have hgbl := (Array.getElem?_eq_some_iff.1 hgb).1
      generalize W3.alloc (.cells #[.string s, .slice a2 b.length c2] 46) = W4 at hgb k4 hgbl ⊢
      generalize W3.heap.size = gb at hgb hgbl ⊢
      clear st k13
      refine (cloneT2_ct (h.kept k4) (by omega)).mono ?_
      rintro e W5 ⟨v5, ps, rfl, ho, hps, k5⟩
      have hgb5 := (k5.block gb hgbl not_false).trans hgb
      have hb5 := hb.kept (k4.trans k5)
      have hpl := hps.1
      rw [← hpl] at ho hple
      have hb4 := hb.kept k4
      have k05 := k4.trans k5
      cases th with
      | true =>
        obtain ⟨f, hf, hfs⟩ := HPT.out rfl
        have hj : j < ps.length := by rw [hpl]; exact (List.getElem?_eq_some_iff.1 hf).1
        obtain ⟨g, cap, hv5⟩ : ∃ g cap, v5 = .slice (some ⟨g, 0, none⟩) ps.length cap := by
          rcases ho.2 with ⟨e, h0⟩ | ⟨g, cap, _, e, _⟩
          · omega
          · exact ⟨g, cap, e⟩
        subst hv5
        have hgg := (World.ownsRow.lt ho g rfl).1
        obtain ⟨W6, st6, ho6, k6⟩ := store_file2 ho hj s hbone
        have k46 : Kept (fun _ => False) W4 W6 := k5.trans' k6 (fun k hk e => by subst e; omega)
        have ld := load_row (P := Tryd.prog) (ty := 46) Tryd.underlying46 rfl hgb5 (by kernel_rfl)
        have hps6 := (hps.kept k46).set3 (by rw [← hpl]; exact hj) hs (hb4.kept k46)
        have ma := made_anyS (TreeAt.of_row ho6 hps6)
        have hwl : withL l s b = l.set j ⟨s, b⟩ := by rw [HW.out]; rfl
        rw [← hwl] at ma
        have HWL := Lib.hid hwl
        have k06 := k4.trans k46
        have hn63 : ps.length ≤ 2 ^ 63 - 1 := by omega
        have HPL := Lib.hid hpl
        clear ho ho6 hps hps6 hb5 hb4 hf hwl HPT HW hpl
        go_wp2_with (first
          | (with_reducible refine wpl_load 46 _ rfl rfl ?_ ld ?_
             · rfl
             simp only [Act.put, List.getElem_toArray, List.getElem_cons_zero, List.getElem_cons_succ, List.setIfInBounds_toArray, List.set_cons_zero, List.set_cons_succ])
          | (with_reducible refine wpl_store 46 _ _ rfl rfl ?_ ?_ st6 ?_
             · rfl
             · rfl
             simp only [Act.put, List.getElem_toArray, List.getElem_cons_zero, List.getElem_cons_succ, List.setIfInBounds_toArray, List.set_cons_zero, List.set_cons_succ]))
        refine ma.mono ?_
        rintro e W7 ⟨hr, k7⟩
        rcases hr with ⟨hm2, v', rfl, h7, hO7⟩ | ⟨hm2, rfl⟩
        · obtain ⟨a7, c7, hv7⟩ := h7.slc
          subst hv7
          go_wp2_with fail
          go_ret2
          exact ⟨.inr (.inr ⟨HMP.out, hm2, _, rfl, h7, hO7.low k06.size⟩), k06.trans k7⟩
        · go_wp2_with fail
          go_ret2
          exact ⟨.inr (.inl ⟨HMP.out, hm2, rfl⟩), k06.trans k7⟩
      | false =>
        have ld := load_row (P := Tryd.prog) (ty := 46) Tryd.underlying46 rfl hgb5 (by kernel_rfl)
        have bs := bslice_f26 s a2 b.length c2 W5
        have hgb6 := heap_last W5 (.cells #[.string s, .slice a2 b.length c2] 46)
        have k6 : Kept (fun _ => False) W5 (W5.alloc (.cells #[.string s, .slice a2 b.length c2] 46)) := (Kept.refl _ W5).alloc _
        have ho6 := row_kept ho k6
        have hne : v5.ownBlock ≠ some W5.heap.size := fun e => by
          have := (World.ownsRow.lt ho _ e).2
          omega
        generalize W5.alloc (.cells #[.string s, .slice a2 b.length c2] 46) = W6 at bs hgb6 k6 ho6
        have ic := insert_ct ho6 (by omega) hple (k5.trans k6) hgb6 hbone hne hps.one
        have hwl : withL l s b = l.take j ++ ⟨s, b⟩ :: l.drop j := by rw [HW.out]; rfl
        have HWL := Lib.hid hwl
        obtain ⟨a5, c5, hv5⟩ := row_form ho
        subst hv5
        have HPL := Lib.hid hpl
        clear ho ho6 hb5 hwl HPT HW hne hgb6 hpl
        generalize W5.heap.size = gb2 at bs ic
        go_wp2_with (first
          | (with_reducible refine wpl_load 46 _ rfl rfl ?_ ld ?_
             · rfl
             simp only [Act.put, List.getElem_toArray, List.getElem_cons_zero, List.getElem_cons_succ, List.setIfInBounds_toArray, List.set_cons_zero, List.set_cons_succ])
          | (with_reducible refine wpl_bslice 26 _ _ rfl rfl ?_ bs ?_
             · (go_simp <;> rfl)
             simp only [Act.put, List.getElem_toArray, List.getElem_cons_zero, List.getElem_cons_succ, List.setIfInBounds_toArray, List.set_cons_zero, List.set_cons_succ]))
        refine ic.mono ?_
        rintro e W7 ⟨v7, rfl, ho7, k47⟩
        have hps7 := (hps.kept k47).ins j (by rw [← HPL.out]; exact hple) hs (hb4.kept k47)
        have ma := made_anyS (TreeAt.of_row ho7 hps7)
        rw [← HWL.out] at ma
        obtain ⟨a7, c7, hv7⟩ := row_form ho7
        subst hv7
        clear ho7 hps7 hps ic
        go_wp2_with fail
        refine ma.mono ?_
        rintro e W8 ⟨hr, k8⟩
        rcases hr with ⟨hm2, v', rfl, h8, hO8⟩ | ⟨hm2, rfl⟩
        · obtain ⟨a8, c8, hv8⟩ := h8.slc
          subst hv8
          go_wp2_with fail
          go_ret2
          exact ⟨.inr (.inr ⟨HMP.out, hm2, _, rfl, h8, hO8.low (k4.trans k47).size⟩), (k4.trans k47).trans k8⟩
        · go_wp2_with fail
          go_ret2
          exact ⟨.inr (.inl ⟨HMP.out, hm2, rfl⟩), (k4.trans k47).trans k8⟩

/- Join: in memory of its own. -/

def JoinIsS (base : Nat) (l m : List FileE) (w : World) (e : Ending) : Prop :=
  ((mayB l && mayB m) = false ∧ e = .returned (.tuple #[.slice none 0 0, .int .i64 2])) ∨
  ((mayB l && mayB m) = true ∧ ∃ o : List FileE, o.Perm (l ++ m) ∧ o.Pairwise leF ∧
    ((dupTo o o.length = true ∧ e = .returned (.tuple #[.slice none 0 0, .int .i64 7])) ∨
     (dupTo o o.length = false ∧ mayB o = false ∧ e = .returned (.tuple #[.slice none 0 0, .int .i64 8])) ∨
     (dupTo o o.length = false ∧ mayB o = true ∧ ∃ v', e = .returned (.tuple #[v', .int .i64 0]) ∧ TreeAt w v' o ∧ OwnT base w v' o.length)))

set_option maxRecDepth 100000 in
set_option maxHeartbeats 4000000 in
theorem join_ctS {w : World} {va vb : Value} {la lb : List FileE} (ha : TreeAt w va la) (hb : TreeAt w vb lb) :
    Calls Tryd.prog 28 #[va, vb] w fun e w' => JoinIsS w.heap.size la lb w' e ∧ Kept (fun _ => False) w w' := by
  have mc := may_ct ha
  have md := fun w' (k : Kept (fun _ => False) w w') => may_ct (hb.kept k)
  cases hm : mayB la with
  | false =>
    rw [hm] at mc
    obtain ⟨a, c, hv⟩ := ha.slc
    subst hv
    obtain ⟨a2, c2, hx⟩ := hb.slc
    subst hx
    go_enter Tryd.func28, Tryd.ntmps28
    go_wp2_with fail
    refine (mc).mono ?_
    rintro e W ⟨rfl, k1⟩
    go_wp2_with fail
    go_ret2
    exact ⟨.inl ⟨by rw [hm]; rfl, rfl⟩, k1⟩
  | true =>
    rw [hm] at mc
    cases hm2 : mayB lb with
    | false =>
      rw [hm2] at md
      obtain ⟨a, c, hv⟩ := ha.slc
      subst hv
      obtain ⟨a2, c2, hx⟩ := hb.slc
      subst hx
      have HM := Lib.hid hm2
      clear hm hm2
      go_enter Tryd.func28, Tryd.ntmps28
      go_wp2_with fail
      refine (mc).mono ?_
      rintro e W ⟨rfl, k1⟩
      go_wp2_with fail
      refine (md _ k1).mono ?_
      rintro e W2 ⟨rfl, k2⟩
      go_wp2_with fail
      go_ret2
      exact ⟨.inl ⟨by rw [HM.out, Bool.and_false], rfl⟩, k1.trans k2⟩
    | true =>
      rw [hm2] at md
      have hla := (mayIs hm).len
      have hlb := (mayIs hm2).len
      have HMM : Hid ((mayB la && mayB lb) = true) := by unfold Hid; rw [hm, hm2]; rfl
      obtain ⟨a, c, hv⟩ := ha.slc
      subst hv
      obtain ⟨a2, c2, hx⟩ := hb.slc
      subst hx
      clear hm hm2
      go_enter Tryd.func28, Tryd.ntmps28
      go_wp2_with fail
      refine (mc).mono ?_
      rintro e W ⟨rfl, k1⟩
      go_wp2_with fail
      refine (md _ k1).mono ?_
      rintro e W2 ⟨rfl, k2⟩
      have k12 := k1.trans k2
      clear mc md k1 k2
      have bs := bslice_t2 a a2 la.length c lb.length c2 W2
      have hgb := heap_last W2 (.cells #[.slice a la.length c, .slice a2 lb.length c2] 27)
      have k3 : Kept (fun _ => False) w (W2.alloc (.cells #[.slice a la.length c, .slice a2 lb.length c2] 27)) := k12.alloc _
      generalize W2.alloc (.cells #[.slice a la.length c, .slice a2 lb.length c2] 27) = W3 at bs hgb k3
      have cc := concat_ct (ha.kept k3) (hb.kept k3) (by omega) (by omega) hgb
      generalize W2.heap.size = gb at bs cc hgb
      go_wp2_with (first
        | (with_reducible refine wpl_bslice 28 _ _ rfl rfl ?_ bs ?_
           · (go_simp <;> rfl)
           simp only [Act.put, List.getElem_toArray, List.getElem_cons_zero, List.getElem_cons_succ, List.setIfInBounds_toArray, List.set_cons_zero, List.set_cons_succ]))
      refine cc.mono ?_
      rintro e W4 ⟨v4, ps, rfl, ho, hps, k34⟩
      have k4 := k3.trans k34
      have hpl : ps.length ≤ 32 := by have := hps.1; rw [List.length_append] at this; omega
      have sc := sort_ct ho hps.one (by omega)
      obtain ⟨a4, c4, hv4⟩ := row_form ho
      subst hv4
      unfold FJ at sc
      clear cc bs hgb
      go_wp2_with fail
      refine sc.mono ?_
      rintro e W5 ⟨rfl, ⟨qs, ho5, hperm, hsrt⟩, k45⟩
      have k35 : Kept (fun _ => False) W3 W5 := k34.trans' k45 (fun k hk q => by omega)
      have k5 := k3.trans k35
      obtain ⟨o, hop, hpo⟩ := PairsAt.perm hperm hps
      have hso := sorted_paths hpo hsrt
      have hql : qs.length = ps.length := hperm.length_eq
      have hol : o.length = ps.length := by have := hpo.1; omega
      have ht5 : TreeAt W5 (.slice a4 ps.length c4) o := TreeAt.of_row ho5 (hpo.kept k35)
      rw [← hol] at ht5
      have HP := Lib.hid (And.intro hop hso)
      have hol32 : o.length ≤ 32 := by omega
      rw [← hol]
      clear sc ho ho5 hperm hsrt hpo hps hop hso hql k45
      have HOL := Lib.hid hol
      clear hol
      go_wp2_with fail
      go_loopw [24] (fun i wr => ∃ k : Nat, k ≤ o.length ∧ i = .int .i64 k ∧ dupTo o k = false ∧ Kept (fun _ => False) W5 wr) (fun i _ => o.length - (intOf i).toNat)
      case atStart => exact ⟨0, by omega, rfl, rfl, Kept.refl _ _⟩
      case round =>
        obtain ⟨k, hk, rfl, hdk, hkr⟩ := hrel
        have DK := Lib.hid hdk
        clear hdk
        by_cases hlt : k < o.length
        · have hf : o[k]? = some o[k] := List.getElem?_eq_getElem hlt
          generalize o[k] = f at hf
          obtain ⟨hps, b, q, x, rfl, hbl, hrx, hB⟩ := (ht5.kept hkr).file hf
          have q0 : ∀ w', Kept (fun _ => False) wr w' → w'.cell? ⟨b, q + k * 2, none⟩ = some (.string f.path) := fun w' z => (z.cell (p := ⟨b, q + k * 2, none⟩) hbl not_false).trans (hrx 0 _ rfl)
          cases k with
          | zero =>
            clear hrx hB hf
            go_wp2_with fail
            refine wp_region_held_drew (S := (Kept (fun _ => False) wr)) (by kernel_rfl) ((Kept.refl _ wr).drew) (fun hHeld => ?_)
            refine held_q (v := ?_) (i := 0) rfl (by kernel_rfl) (by kernel_rfl) (by kernel_rfl) (fun _ _ _ h => h) (by rfl) hHeld ?_ ?_
            rotate_left
            · (intro w' hS'; go_simp <;> (with_reducible rfl))
            simp only [Act.put, List.getElem_toArray, List.getElem_cons_zero, List.getElem_cons_succ, List.setIfInBounds_toArray, List.set_cons_zero, List.set_cons_succ]
            refine held_q (v := ?_) (i := 1) rfl (by kernel_rfl) (by kernel_rfl) (by kernel_rfl) (fun _ _ _ h => h) (by rfl) hHeld ?_ ?_
            rotate_left
            · (intro w' hS'; go_simp <;> (with_reducible rfl))
            simp only [Act.put, List.getElem_toArray, List.getElem_cons_zero, List.getElem_cons_succ, List.setIfInBounds_toArray, List.set_cons_zero, List.set_cons_succ]
            refine held_q (v := ?_) (i := 2) rfl (by kernel_rfl) (by kernel_rfl) (by kernel_rfl) (fun _ _ _ h => h) (by rfl) hHeld ?_ ?_
            rotate_left
            · (intro w' hS'; go_simp <;> (with_reducible rfl))
            simp only [Act.put, List.getElem_toArray, List.getElem_cons_zero, List.getElem_cons_succ, List.setIfInBounds_toArray, List.set_cons_zero, List.set_cons_succ]
            refine held_no (i := 3) rfl (by kernel_rfl) (by kernel_rfl) (by kernel_rfl) (fun _ _ _ h => h) (by rfl) hHeld ?_
            simp only [Act.put, List.getElem_toArray, List.getElem_cons_zero, List.getElem_cons_succ, List.setIfInBounds_toArray, List.set_cons_zero, List.set_cons_succ]
            refine held_no (i := 4) rfl (by kernel_rfl) (by kernel_rfl) (by kernel_rfl) (fun _ _ _ h => h) (by rfl) hHeld ?_
            simp only [Act.put, List.getElem_toArray, List.getElem_cons_zero, List.getElem_cons_succ, List.setIfInBounds_toArray, List.set_cons_zero, List.set_cons_succ]
            refine held_no (i := 5) rfl (by kernel_rfl) (by kernel_rfl) (by kernel_rfl) (fun _ _ _ h => h) (by rfl) hHeld ?_
            simp only [Act.put, List.getElem_toArray, List.getElem_cons_zero, List.getElem_cons_succ, List.setIfInBounds_toArray, List.set_cons_zero, List.set_cons_succ]
            refine held_no (i := 6) rfl (by kernel_rfl) (by kernel_rfl) (by kernel_rfl) (fun _ _ _ h => h) (by rfl) hHeld ?_
            simp only [Act.put, List.getElem_toArray, List.getElem_cons_zero, List.getElem_cons_succ, List.setIfInBounds_toArray, List.set_cons_zero, List.set_cons_succ]
            refine held_no (i := 7) rfl (by kernel_rfl) (by kernel_rfl) (by kernel_rfl) (fun _ _ _ h => h) (by rfl) hHeld ?_
            simp only [Act.put, List.getElem_toArray, List.getElem_cons_zero, List.getElem_cons_succ, List.setIfInBounds_toArray, List.set_cons_zero, List.set_cons_succ]
            refine held_no (i := 8) rfl (by kernel_rfl) (by kernel_rfl) (by kernel_rfl) (fun _ _ _ h => h) (by rfl) hHeld ?_
            simp only [Act.put, List.getElem_toArray, List.getElem_cons_zero, List.getElem_cons_succ, List.setIfInBounds_toArray, List.set_cons_zero, List.set_cons_succ]
            refine held_no (i := 9) rfl (by kernel_rfl) (by kernel_rfl) (by kernel_rfl) (fun _ _ _ h => h) (by rfl) hHeld ?_
            simp only [Act.put, List.getElem_toArray, List.getElem_cons_zero, List.getElem_cons_succ, List.setIfInBounds_toArray, List.set_cons_zero, List.set_cons_succ]
            refine held_no (i := 10) rfl (by kernel_rfl) (by kernel_rfl) (by kernel_rfl) (fun _ _ _ h => h) (by rfl) hHeld ?_
            simp only [Act.put, List.getElem_toArray, List.getElem_cons_zero, List.getElem_cons_succ, List.setIfInBounds_toArray, List.set_cons_zero, List.set_cons_succ]
            refine held_no (i := 11) rfl (by kernel_rfl) (by kernel_rfl) (by kernel_rfl) (fun _ _ _ h => h) (by rfl) hHeld ?_
            simp only [Act.put, List.getElem_toArray, List.getElem_cons_zero, List.getElem_cons_succ, List.setIfInBounds_toArray, List.set_cons_zero, List.set_cons_succ]
            refine held_no (i := 12) rfl (by kernel_rfl) (by kernel_rfl) (by kernel_rfl) (fun _ _ _ h => h) (by rfl) hHeld ?_
            simp only [Act.put, List.getElem_toArray, List.getElem_cons_zero, List.getElem_cons_succ, List.setIfInBounds_toArray, List.set_cons_zero, List.set_cons_succ]
            refine held_no (i := 13) rfl (by kernel_rfl) (by kernel_rfl) (by kernel_rfl) (fun _ _ _ h => h) (by rfl) hHeld ?_
            simp only [Act.put, List.getElem_toArray, List.getElem_cons_zero, List.getElem_cons_succ, List.setIfInBounds_toArray, List.set_cons_zero, List.set_cons_succ]
            refine held_no (i := 14) rfl (by kernel_rfl) (by kernel_rfl) (by kernel_rfl) (fun _ _ _ h => h) (by rfl) hHeld ?_
            simp only [Act.put, List.getElem_toArray, List.getElem_cons_zero, List.getElem_cons_succ, List.setIfInBounds_toArray, List.set_cons_zero, List.set_cons_succ]
            refine held_q (v := ?_) (i := 15) rfl (by kernel_rfl) (by kernel_rfl) (by kernel_rfl) (fun _ _ _ h => h) (by rfl) hHeld ?_ ?_
            rotate_left
            · (intro w' hS'; go_simp <;> (with_reducible rfl))
            simp only [Act.put, List.getElem_toArray, List.getElem_cons_zero, List.getElem_cons_succ, List.setIfInBounds_toArray, List.set_cons_zero, List.set_cons_succ]
            refine wpAnyH_done (by kernel_rfl) ?_ _
            go_wp2_with fail
            go_roundw
            case rel => exact ⟨0 + 1, by omega, by go_num, rfl, hkr.trans hHeld⟩
            case measure => simp [intOf]; omega
          | succ j =>
            have hg : o[j]? = some o[j] := List.getElem?_eq_getElem (by omega)
            generalize o[j] = g at hg
            obtain ⟨_, b', q', x', e', _, hrx', _⟩ := (ht5.kept hkr).file hg
            injection e' with e'
            injection e' with e1 e2 _
            subst e1
            subst e2
            have q1 : ∀ w', Kept (fun _ => False) wr w' → w'.cell? ⟨b, q + j * 2, none⟩ = some (.string g.path) := fun w' z => (z.cell (p := ⟨b, q + j * 2, none⟩) hbl not_false).trans (hrx' 0 _ rfl)
            have hda : dupAt o (j + 1) = (g.path.toList == f.path.toList) := by simp only [dupAt, hg, hf]; rfl
            have wj : IntKind.i64.wrap (j : Int) = (j : Int) := IntWalk.i64_in _ (by omega)
            have jl : (j : Int) < (o.length : Int) := by omega
            have jl1 : (j : Int) + 1 < (o.length : Int) := by omega
            have j0 : (0 : Int) < (j : Int) + 1 := by omega
            have j00 : (0 : Int) ≤ (j : Int) + 1 := by omega
            have jn : j + 1 < o.length := hlt
            have jn2 : j < o.length := by omega
            have HD := Lib.hid hda
            clear hrx hB hf hg hrx' hda
            generalize hpe : (g.path.toList == f.path.toList) = pe at HD
            have HN : Hid (dupTo o (j + 1 + 1) = pe) := by
              unfold Hid
              conv => lhs; unfold dupTo
              rw [DK.out, HD.out]; simp
            cases pe with
            | false =>
              go_wp2_with fail
              refine wp_region_held_drew (S := (Kept (fun _ => False) wr)) (by kernel_rfl) ((Kept.refl _ wr).drew) (fun hHeld => ?_)
              refine held_q (v := ?_) (i := 0) rfl (by kernel_rfl) (by kernel_rfl) (by kernel_rfl) (fun _ _ _ h => h) (by rfl) hHeld ?_ ?_
              rotate_left
              · (intro w' hS'; go_simp <;> (with_reducible rfl))
              simp only [Act.put, List.getElem_toArray, List.getElem_cons_zero, List.getElem_cons_succ, List.setIfInBounds_toArray, List.set_cons_zero, List.set_cons_succ]
              refine held_q (v := ?_) (i := 1) rfl (by kernel_rfl) (by kernel_rfl) (by kernel_rfl) (fun _ _ _ h => h) (by rfl) hHeld ?_ ?_
              rotate_left
              · (intro w' hS'; go_simp <;> (with_reducible rfl))
              simp only [Act.put, List.getElem_toArray, List.getElem_cons_zero, List.getElem_cons_succ, List.setIfInBounds_toArray, List.set_cons_zero, List.set_cons_succ]
              refine held_q (v := ?_) (i := 2) rfl (by kernel_rfl) (by kernel_rfl) (by kernel_rfl) (fun _ _ _ h => h) (by rfl) hHeld ?_ ?_
              rotate_left
              · (intro w' hS'; go_simp <;> (with_reducible rfl))
              simp only [Act.put, List.getElem_toArray, List.getElem_cons_zero, List.getElem_cons_succ, List.setIfInBounds_toArray, List.set_cons_zero, List.set_cons_succ]
              refine held_q (v := ?_) (i := 3) rfl (by kernel_rfl) (by kernel_rfl) (by kernel_rfl) (fun _ _ _ h => h) (by rfl) hHeld ?_ ?_
              rotate_left
              · (intro w' hS'; go_simp <;> (with_reducible rfl))
              simp only [Act.put, List.getElem_toArray, List.getElem_cons_zero, List.getElem_cons_succ, List.setIfInBounds_toArray, List.set_cons_zero, List.set_cons_succ]
              refine held_q (v := ?_) (i := 4) rfl (by kernel_rfl) (by kernel_rfl) (by kernel_rfl) (fun _ _ _ h => h) (by rfl) hHeld ?_ ?_
              rotate_left
              · (intro w' hS'; go_simp <;> (with_reducible rfl))
              simp only [Act.put, List.getElem_toArray, List.getElem_cons_zero, List.getElem_cons_succ, List.setIfInBounds_toArray, List.set_cons_zero, List.set_cons_succ]
              refine held_q (v := ?_) (i := 5) rfl (by kernel_rfl) (by kernel_rfl) (by kernel_rfl) (fun _ _ _ h => h) (by rfl) hHeld ?_ ?_
              rotate_left
              · (intro w' hS'; go_simp <;> (with_reducible rfl))
              simp only [Act.put, List.getElem_toArray, List.getElem_cons_zero, List.getElem_cons_succ, List.setIfInBounds_toArray, List.set_cons_zero, List.set_cons_succ]
              refine held_q (v := ?_) (i := 6) rfl (by kernel_rfl) (by kernel_rfl) (by kernel_rfl) (fun _ _ _ h => h) (by rfl) hHeld ?_ ?_
              rotate_left
              · (intro w' hS'; go_simp <;> (with_reducible rfl))
              simp only [Act.put, List.getElem_toArray, List.getElem_cons_zero, List.getElem_cons_succ, List.setIfInBounds_toArray, List.set_cons_zero, List.set_cons_succ]
              refine held_q (v := ?_) (i := 7) rfl (by kernel_rfl) (by kernel_rfl) (by kernel_rfl) (fun _ _ _ h => h) (by rfl) hHeld ?_ ?_
              rotate_left
              · (intro w' hS'; go_simp <;> (with_reducible rfl))
              simp only [Act.put, List.getElem_toArray, List.getElem_cons_zero, List.getElem_cons_succ, List.setIfInBounds_toArray, List.set_cons_zero, List.set_cons_succ]
              refine held_q (v := ?_) (i := 8) rfl (by kernel_rfl) (by kernel_rfl) (by kernel_rfl) (fun _ _ _ h => h) (by rfl) hHeld ?_ ?_
              rotate_left
              · (intro w' hS'; go_simp <;> (with_reducible rfl))
              simp only [Act.put, List.getElem_toArray, List.getElem_cons_zero, List.getElem_cons_succ, List.setIfInBounds_toArray, List.set_cons_zero, List.set_cons_succ]
              refine held_q (v := ?_) (i := 9) rfl (by kernel_rfl) (by kernel_rfl) (by kernel_rfl) (fun _ _ _ h => h) (by rfl) hHeld ?_ ?_
              rotate_left
              · (intro w' hS'; go_simp <;> (with_reducible rfl))
              simp only [Act.put, List.getElem_toArray, List.getElem_cons_zero, List.getElem_cons_succ, List.setIfInBounds_toArray, List.set_cons_zero, List.set_cons_succ]
              refine held_q (v := ?_) (i := 10) rfl (by kernel_rfl) (by kernel_rfl) (by kernel_rfl) (fun _ _ _ h => h) (by rfl) hHeld ?_ ?_
              rotate_left
              · (intro w' hS'; go_simp <;> (with_reducible rfl))
              simp only [Act.put, List.getElem_toArray, List.getElem_cons_zero, List.getElem_cons_succ, List.setIfInBounds_toArray, List.set_cons_zero, List.set_cons_succ]
              refine held_q (v := ?_) (i := 11) rfl (by kernel_rfl) (by kernel_rfl) (by kernel_rfl) (fun _ _ _ h => h) (by rfl) hHeld ?_ ?_
              rotate_left
              · (intro w' hS'; go_simp <;> (with_reducible rfl))
              simp only [Act.put, List.getElem_toArray, List.getElem_cons_zero, List.getElem_cons_succ, List.setIfInBounds_toArray, List.set_cons_zero, List.set_cons_succ]
              refine held_q (v := ?_) (i := 12) rfl (by kernel_rfl) (by kernel_rfl) (by kernel_rfl) (fun _ _ _ h => h) (by rfl) hHeld ?_ ?_
              rotate_left
              · (intro w' hS'; go_simp <;> (with_reducible rfl))
              simp only [Act.put, List.getElem_toArray, List.getElem_cons_zero, List.getElem_cons_succ, List.setIfInBounds_toArray, List.set_cons_zero, List.set_cons_succ]
              refine held_q (v := ?_) (i := 13) rfl (by kernel_rfl) (by kernel_rfl) (by kernel_rfl) (fun _ _ _ h => h) (by rfl) hHeld ?_ ?_
              rotate_left
              · (intro w' hS'; go_simp <;> (with_reducible rfl))
              simp only [Act.put, List.getElem_toArray, List.getElem_cons_zero, List.getElem_cons_succ, List.setIfInBounds_toArray, List.set_cons_zero, List.set_cons_succ]
              refine held_q (v := ?_) (i := 14) rfl (by kernel_rfl) (by kernel_rfl) (by kernel_rfl) (fun _ _ _ h => h) (by rfl) hHeld ?_ ?_
              rotate_left
              · (intro w' hS'; go_simp <;> (with_reducible rfl))
              simp only [Act.put, List.getElem_toArray, List.getElem_cons_zero, List.getElem_cons_succ, List.setIfInBounds_toArray, List.set_cons_zero, List.set_cons_succ]
              refine held_q (v := ?_) (i := 15) rfl (by kernel_rfl) (by kernel_rfl) (by kernel_rfl) (fun _ _ _ h => h) (by rfl) hHeld ?_ ?_
              rotate_left
              · (intro w' hS'; go_simp <;> (with_reducible rfl))
              simp only [Act.put, List.getElem_toArray, List.getElem_cons_zero, List.getElem_cons_succ, List.setIfInBounds_toArray, List.set_cons_zero, List.set_cons_succ]
              refine wpAnyH_done (by kernel_rfl) ?_ _
              go_wp2_with fail
              go_roundw
              case rel => exact ⟨j + 1 + 1, by omega, by go_num, HN.out, hkr.trans hHeld⟩
              case measure => simp [intOf]; omega
            | true =>
              have HY := Lib.hid (dupTo_yes HD.out o.length hlt)
              go_wp2_with fail
              refine wp_region_held_drew (S := (Kept (fun _ => False) wr)) (by kernel_rfl) ((Kept.refl _ wr).drew) (fun hHeld => ?_)
              refine held_q (v := ?_) (i := 0) rfl (by kernel_rfl) (by kernel_rfl) (by kernel_rfl) (fun _ _ _ h => h) (by rfl) hHeld ?_ ?_
              rotate_left
              · (intro w' hS'; go_simp <;> (with_reducible rfl))
              simp only [Act.put, List.getElem_toArray, List.getElem_cons_zero, List.getElem_cons_succ, List.setIfInBounds_toArray, List.set_cons_zero, List.set_cons_succ]
              refine held_q (v := ?_) (i := 1) rfl (by kernel_rfl) (by kernel_rfl) (by kernel_rfl) (fun _ _ _ h => h) (by rfl) hHeld ?_ ?_
              rotate_left
              · (intro w' hS'; go_simp <;> (with_reducible rfl))
              simp only [Act.put, List.getElem_toArray, List.getElem_cons_zero, List.getElem_cons_succ, List.setIfInBounds_toArray, List.set_cons_zero, List.set_cons_succ]
              refine held_q (v := ?_) (i := 2) rfl (by kernel_rfl) (by kernel_rfl) (by kernel_rfl) (fun _ _ _ h => h) (by rfl) hHeld ?_ ?_
              rotate_left
              · (intro w' hS'; go_simp <;> (with_reducible rfl))
              simp only [Act.put, List.getElem_toArray, List.getElem_cons_zero, List.getElem_cons_succ, List.setIfInBounds_toArray, List.set_cons_zero, List.set_cons_succ]
              refine held_q (v := ?_) (i := 3) rfl (by kernel_rfl) (by kernel_rfl) (by kernel_rfl) (fun _ _ _ h => h) (by rfl) hHeld ?_ ?_
              rotate_left
              · (intro w' hS'; go_simp <;> (with_reducible rfl))
              simp only [Act.put, List.getElem_toArray, List.getElem_cons_zero, List.getElem_cons_succ, List.setIfInBounds_toArray, List.set_cons_zero, List.set_cons_succ]
              refine held_q (v := ?_) (i := 4) rfl (by kernel_rfl) (by kernel_rfl) (by kernel_rfl) (fun _ _ _ h => h) (by rfl) hHeld ?_ ?_
              rotate_left
              · (intro w' hS'; go_simp <;> (with_reducible rfl))
              simp only [Act.put, List.getElem_toArray, List.getElem_cons_zero, List.getElem_cons_succ, List.setIfInBounds_toArray, List.set_cons_zero, List.set_cons_succ]
              refine held_q (v := ?_) (i := 5) rfl (by kernel_rfl) (by kernel_rfl) (by kernel_rfl) (fun _ _ _ h => h) (by rfl) hHeld ?_ ?_
              rotate_left
              · (intro w' hS'; go_simp <;> (with_reducible rfl))
              simp only [Act.put, List.getElem_toArray, List.getElem_cons_zero, List.getElem_cons_succ, List.setIfInBounds_toArray, List.set_cons_zero, List.set_cons_succ]
              refine held_q (v := ?_) (i := 6) rfl (by kernel_rfl) (by kernel_rfl) (by kernel_rfl) (fun _ _ _ h => h) (by rfl) hHeld ?_ ?_
              rotate_left
              · (intro w' hS'; go_simp <;> (with_reducible rfl))
              simp only [Act.put, List.getElem_toArray, List.getElem_cons_zero, List.getElem_cons_succ, List.setIfInBounds_toArray, List.set_cons_zero, List.set_cons_succ]
              refine held_q (v := ?_) (i := 7) rfl (by kernel_rfl) (by kernel_rfl) (by kernel_rfl) (fun _ _ _ h => h) (by rfl) hHeld ?_ ?_
              rotate_left
              · (intro w' hS'; go_simp <;> (with_reducible rfl))
              simp only [Act.put, List.getElem_toArray, List.getElem_cons_zero, List.getElem_cons_succ, List.setIfInBounds_toArray, List.set_cons_zero, List.set_cons_succ]
              refine held_q (v := ?_) (i := 8) rfl (by kernel_rfl) (by kernel_rfl) (by kernel_rfl) (fun _ _ _ h => h) (by rfl) hHeld ?_ ?_
              rotate_left
              · (intro w' hS'; go_simp <;> (with_reducible rfl))
              simp only [Act.put, List.getElem_toArray, List.getElem_cons_zero, List.getElem_cons_succ, List.setIfInBounds_toArray, List.set_cons_zero, List.set_cons_succ]
              refine held_q (v := ?_) (i := 9) rfl (by kernel_rfl) (by kernel_rfl) (by kernel_rfl) (fun _ _ _ h => h) (by rfl) hHeld ?_ ?_
              rotate_left
              · (intro w' hS'; go_simp <;> (with_reducible rfl))
              simp only [Act.put, List.getElem_toArray, List.getElem_cons_zero, List.getElem_cons_succ, List.setIfInBounds_toArray, List.set_cons_zero, List.set_cons_succ]
              refine held_q (v := ?_) (i := 10) rfl (by kernel_rfl) (by kernel_rfl) (by kernel_rfl) (fun _ _ _ h => h) (by rfl) hHeld ?_ ?_
              rotate_left
              · (intro w' hS'; go_simp <;> (with_reducible rfl))
              simp only [Act.put, List.getElem_toArray, List.getElem_cons_zero, List.getElem_cons_succ, List.setIfInBounds_toArray, List.set_cons_zero, List.set_cons_succ]
              refine held_q (v := ?_) (i := 11) rfl (by kernel_rfl) (by kernel_rfl) (by kernel_rfl) (fun _ _ _ h => h) (by rfl) hHeld ?_ ?_
              rotate_left
              · (intro w' hS'; go_simp <;> (with_reducible rfl))
              simp only [Act.put, List.getElem_toArray, List.getElem_cons_zero, List.getElem_cons_succ, List.setIfInBounds_toArray, List.set_cons_zero, List.set_cons_succ]
              refine held_q (v := ?_) (i := 12) rfl (by kernel_rfl) (by kernel_rfl) (by kernel_rfl) (fun _ _ _ h => h) (by rfl) hHeld ?_ ?_
              rotate_left
              · (intro w' hS'; go_simp <;> (with_reducible rfl))
              simp only [Act.put, List.getElem_toArray, List.getElem_cons_zero, List.getElem_cons_succ, List.setIfInBounds_toArray, List.set_cons_zero, List.set_cons_succ]
              refine held_q (v := ?_) (i := 13) rfl (by kernel_rfl) (by kernel_rfl) (by kernel_rfl) (fun _ _ _ h => h) (by rfl) hHeld ?_ ?_
              rotate_left
              · (intro w' hS'; go_simp <;> (with_reducible rfl))
              simp only [Act.put, List.getElem_toArray, List.getElem_cons_zero, List.getElem_cons_succ, List.setIfInBounds_toArray, List.set_cons_zero, List.set_cons_succ]
              refine held_q (v := ?_) (i := 14) rfl (by kernel_rfl) (by kernel_rfl) (by kernel_rfl) (fun _ _ _ h => h) (by rfl) hHeld ?_ ?_
              rotate_left
              · (intro w' hS'; go_simp <;> (with_reducible rfl))
              simp only [Act.put, List.getElem_toArray, List.getElem_cons_zero, List.getElem_cons_succ, List.setIfInBounds_toArray, List.set_cons_zero, List.set_cons_succ]
              refine held_q (v := ?_) (i := 15) rfl (by kernel_rfl) (by kernel_rfl) (by kernel_rfl) (fun _ _ _ h => h) (by rfl) hHeld ?_ ?_
              rotate_left
              · (intro w' hS'; go_simp <;> (with_reducible rfl))
              simp only [Act.put, List.getElem_toArray, List.getElem_cons_zero, List.getElem_cons_succ, List.setIfInBounds_toArray, List.set_cons_zero, List.set_cons_succ]
              refine wpAnyH_done (by kernel_rfl) ?_ _
              go_wp2_with fail
              go_ret2
              exact ⟨.inr ⟨HMM.out, o, HP.out.1, HP.out.2, .inl ⟨HY.out, rfl⟩⟩, (k5.trans hkr).trans hHeld⟩
        · obtain rfl : k = o.length := by omega
          have ma := made_anyS (ht5.kept hkr)
          go_wp2_with fail
          refine ma.mono ?_
          rintro e W7 ⟨hr, k7⟩
          rcases hr with ⟨hm2, v', rfl, h7, hO7⟩ | ⟨hm2, rfl⟩
          · obtain ⟨a7, c7, hv7⟩ := h7.slc
            subst hv7
            go_wp2_with fail
            go_ret2
            exact ⟨.inr ⟨HMM.out, o, HP.out.1, HP.out.2, .inr (.inr ⟨DK.out, hm2, _, rfl, h7, hO7.low (k5.trans hkr).size⟩)⟩, (k5.trans hkr).trans k7⟩
          · go_wp2_with fail
            go_ret2
            exact ⟨.inr ⟨HMM.out, o, HP.out.1, HP.out.2, .inr (.inl ⟨DK.out, hm2, rfl⟩)⟩, (k5.trans hkr).trans k7⟩

def JoinOutS (base : Nat) (l m : List FileE) (w : World) (e : Ending) : Prop :=
  (joinC l m ≠ 0 ∧ e = .returned (.tuple #[.slice none 0 0, .int .i64 (joinC l m)])) ∨ (joinC l m = 0 ∧ ∃ v', e = .returned (.tuple #[v', .int .i64 0]) ∧ TreeAt w v' (joinO l m) ∧ OwnT base w v' (joinO l m).length)
theorem join_outS {base : Nat} {l m : List FileE} {w : World} {e : Ending} (h : JoinIsS base l m w e) : JoinOutS base l m w e := by
  rcases h with ⟨h1, he⟩ | ⟨h1, o, hp, hs, h2⟩
  · rcases join_out (.inl ⟨h1, he⟩ : JoinIs l m w e) with q | ⟨q, v', e1, _⟩
    · exact .inl q
    · rw [he] at e1; injection e1 with e1; injection e1 with e1; simp at e1
  · rcases h2 with ⟨h3, he⟩ | ⟨h3, h4, he⟩ | ⟨h3, h4, v', he, ht, hO⟩
    · rcases join_out (.inr ⟨h1, o, hp, hs, .inl ⟨h3, he⟩⟩ : JoinIs l m w e) with q | ⟨q, v', e1, _⟩
      · exact .inl q
      · rw [he] at e1; injection e1 with e1; injection e1 with e1; simp at e1
    · rcases join_out (.inr ⟨h1, o, hp, hs, .inr (.inl ⟨h3, h4, he⟩)⟩ : JoinIs l m w e) with q | ⟨q, v', e1, _⟩
      · exact .inl q
      · rw [he] at e1; injection e1 with e1; injection e1 with e1; simp at e1
    · obtain ⟨hd, he2⟩ := sorted_eq (strict_of hs h3) (joinO_sorted l m) ((joinO_perm l m).trans hp.symm)
      rcases join_out (.inr ⟨h1, o, hp, hs, .inr (.inr ⟨h3, h4, v', he, ht⟩)⟩ : JoinIs l m w e) with ⟨q, e1⟩ | ⟨q, v2, e1, t1⟩
      · have h1' := h1
        rw [Bool.and_eq_true] at h1'
        exact absurd (joined_c ⟨h1'.1, h1'.2, h4, hp⟩).1 q
      · refine .inr ⟨q, v', he, ?_, ?_⟩
        · rw [he2]; exact ht
        · rw [he2]; exact hO
theorem joined_ctS {w : World} {va vb : Value} {la lb : List FileE} (ha : TreeAt w va la) (hb : TreeAt w vb lb) :
    Calls Tryd.prog 28 #[va, vb] w fun e w' => JoinOutS w.heap.size la lb w' e ∧ Kept (fun _ => False) w w' :=
  (join_ctS ha hb).mono fun _ _ ⟨h1, h2⟩ => ⟨join_outS h1, h2⟩

/- What spoil does. -/

/-- Only bytes were written: what was a slice of own bytes is one still; blocks of other kinds are as they were. -/
structure Spared (w w' : World) : Prop where
  by' : ∀ b x m, OwnBy b w x m → OwnBy b w' x m
  tree : ∀ b v n, OwnT b w v n → OwnT b w' v n
  other : ∀ (g : Nat) (C : Array Value) (t : TypeId) (fr : Nat × Nat), w.heap[g]? = some (.cells C t fr) → t ≠ 5 → w'.heap[g]? = some (.cells C t fr)
theorem Spared.refl (w : World) : Spared w w := ⟨fun _ _ _ h => h, fun _ _ _ h => h, fun _ _ _ _ h _ => h⟩
theorem Spared.trans {a b c : World} (h : Spared a b) (k : Spared b c) : Spared a c := ⟨fun _ _ _ q => k.by' _ _ _ (h.by' _ _ _ q), fun _ _ _ q => k.tree _ _ _ (h.tree _ _ _ q), fun _ _ _ _ q r => k.other _ _ _ _ (h.other _ _ _ _ q r) r⟩
theorem Spared.poke {w : World} {g j : Nat} {C : Array Value} (hg : w.heap[g]? = some (.cells C 5 (0, 0))) (u : UInt8) : Spared w (w.setCell ⟨g, j, none⟩ (.int .u8 u.toNat)) :=
  ⟨fun _ _ _ h => h.poke hg u, fun _ _ _ h => h.poke hg u, fun g' C' t fr h ht => by
    rw [Below.heap_setCell _ _ _ _ (fun e => by
      have e : g' = g := e
      subst e
      rw [hg] at h
      injection h with h
      injection h with _ h _
      exact ht h.symm)]
    exact h⟩
theorem Spared.of_kept {w w' : World} (h : Kept (fun _ => False) w w') : Spared w w' :=
  ⟨fun _ _ _ q => q.kept h, fun _ _ _ q => q.kept h, fun g _ _ _ q _ => (h.block g (Array.getElem?_eq_some_iff.1 q).1 not_false).trans q⟩
/-- One byte of a slice of own bytes. -/
theorem OwnBy.at' {base : Nat} {w : World} {x : Value} {m : Nat} (h : OwnBy base w x m) {j : Nat} (hj : j < m) : ∃ g cap C, ∃ u : UInt8, x = .slice (some ⟨g, 0, none⟩) m cap ∧ base ≤ g ∧ w.heap[g]? = some (.cells C 5 (0, 0)) ∧ w.cell? ⟨g, j, none⟩ = some (.int .u8 u.toNat) ∧ w.frozen? ⟨g, j, none⟩ = false := by
  obtain ⟨l, h1, h2⟩ := h
  rcases h2 with ⟨_, h2⟩ | ⟨g, cap, cur, rfl, hb, hg, hn, hm, hs, ht⟩
  · omega
  · have hl : l.length = m := by rw [bv_len] at h1; omega
    refine ⟨g, cap, cur, l[j]'(by omega), rfl, hb, hg, ?_, by simp [World.frozen?, hg]⟩
    rw [cell_of_row _ _ _ _ _ _ hg]
    have : (bv l)[j]? = some (.int .u8 (l[j]'(by omega)).toNat) := by unfold bv; rw [List.getElem?_map, List.getElem?_eq_getElem (by omega)]; rfl
    rw [← ht, List.getElem?_take_of_lt (by omega)] at this
    simpa using this
theorem u8_next (u : UInt8) : ∃ v : UInt8, IntKind.u8.wrap ((u.toNat : Int) + 1) = (v.toNat : Int) := by
  refine ⟨u + 1, ?_⟩
  have h := u.toNat_lt
  rw [UInt8.toNat_add]
  show ((u.toNat : Int) + 1) % 256 = _
  have : (1 : UInt8).toNat = 1 := rfl
  rw [this]
  omega
def FindIs (l : List FileE) (s : ByteArray) (z : Int) : Prop := (∃ (i : Nat) (f : FileE), z = i ∧ l[i]? = some f ∧ f.path = s) ∨ (z = -1 ∧ ∀ f ∈ l, f.path ≠ s)
set_option maxRecDepth 100000 in
set_option maxHeartbeats 1000000 in
theorem rFind_ct {w : World} {v : Value} {l : List FileE} (h : TreeAt w v l) (s : ByteArray) :
    Calls Tryd.prog 58 #[v, .string s] w fun e w' => ∃ z, e = .returned (.int .i64 z) ∧ FindIs l s z ∧ Kept (fun _ => False) w w' := by
  obtain ⟨a, c, hv⟩ := h.slc
  subst hv
  have hml : l.length ≤ maxLen := by obtain ⟨_, _, _, h2, _⟩ := h; exact h2
  simp only [maxLen] at hml
  go_enter Tryd.func58, Tryd.ntmps58
  go_wp2_with fail
  go_loopw [5] (fun i wr => ∃ k : Nat, k ≤ l.length ∧ i = .int .i64 k ∧ Hid (∀ f ∈ l.take k, f.path ≠ s) ∧ Kept (fun _ => False) w wr) (fun i _ => l.length - (intOf i).toNat)
  case atStart => exact ⟨0, by omega, rfl, (fun f hf => by simp at hf : ∀ f ∈ l.take 0, f.path ≠ s), Kept.refl _ _⟩
  case round =>
    obtain ⟨k, hk, rfl, HN, hkr⟩ := hrel
    by_cases hlt : k < l.length
    · have hfa : l[k]? = some l[k] := List.getElem?_eq_getElem hlt
      have htk : l.take (k + 1) = l.take k ++ [l[k]] := List.take_succ_eq_append_getElem hlt
      generalize l[k] = f at hfa htk
      obtain ⟨_, b1, o1, x, rfl, hbl, hrx, hB⟩ := (h.kept hkr).file hfa
      have q0 : wr.cell? ⟨b1, o1 + k * 2, none⟩ = some (.string f.path) := hrx 0 _ rfl
      have HF := Lib.hid (And.intro hfa htk)
      clear hrx hB hfa htk
      generalize hpe : (f.path.toList == s.toList) = pe
      cases pe with
      | true =>
        have hfs : f.path = s := ba_ext (by simpa using hpe)
        have HFS := Lib.hid hfs
        clear hfs
        go_wp2_with fail
        go_ret
        exact ⟨k, rfl, .inl ⟨k, f, rfl, HF.out.1, HFS.out⟩, hkr⟩
      | false =>
        have HN2 : Hid (∀ g ∈ l.take (k + 1), g.path ≠ s) := by
          intro g hg
          rw [HF.out.2] at hg
          rcases List.mem_append.1 hg with q | q
          · exact HN.out g q
          · simp at q; subst q; intro e; rw [e] at hpe; simp at hpe
        go_wp2_with fail
        go_roundw
        case rel => exact ⟨k + 1, by omega, by go_num, HN2, hkr⟩
        case measure => simp [intOf]; omega
    · obtain rfl : k = l.length := by omega
      have HN2 : Hid (∀ g ∈ l, g.path ≠ s) := by have := HN.out; rw [List.take_length] at this; exact this
      go_wp2_with fail
      go_ret
      exact ⟨-1, rfl, .inr ⟨rfl, HN2.out⟩, hkr⟩

/-- What put makes. -/
def putGo (f : FileE) : List FileE → Bool → List FileE
  | [], d => if d then [] else [f]
  | g :: r, d => (if !d && !(ltB g.path f.path) then [f] else []) ++ ((if eqB g.path f.path then [] else [g]) ++ putGo f r (d || !(ltB g.path f.path)))
def putL (l : List FileE) (f : FileE) : List FileE := putGo f l false
theorem app_one {w w0 : World} {v : Value} {ps : List (ByteArray × Value)} (ho : w.ownsRow w0.heap.size 46 2 v ps.length (prs ps)) {gb : Nat} {p : ByteArray} {x : Value} {fr : Nat × Nat} (hg : w.heap[gb]? = some (.cells #[.string p, x] 46 fr)) (h1 : x.oneCell' = true) (hn : ps.length ≤ 100000) (hk : Kept (fun _ => False) w0 w) (ty : TypeId) :
    ∃ a' c' w', (Builtin.append_ #[27, 27] ty #[v, .slice (some ⟨gb, 0, none⟩) 1 1]).run Tryd.prog w = .ok (.slice a' (ps.length + 1) c') w' ∧ w'.ownsRow w0.heap.size 46 2 (.slice a' (ps.length + 1) c') (ps.length + 1) (prs (ps ++ [(p, x)])) ∧ Kept (fun _ => False) w0 w' := by
  obtain ⟨v', w', ap, ho', hg'⟩ := app_files ho (ad := ⟨gb, 0, none⟩) (m := 1) (c := 1) (news := [.string p, x]) rfl (fun j u hu => by
    rw [Addr.add_mid, Nat.zero_add, cell_of_row _ _ _ _ _ _ hg]; simpa using hu) (fun u hu => by simp at hu; rcases hu with rfl | rfl; rfl; exact h1) (by omega) hk.size 27 ty Tryd.underlying27
  obtain ⟨a', c', hv⟩ := row_form ho'
  subst hv
  exact ⟨a', c', w', ap, by rw [prs_app2]; exact ho', grown_kept hk hg' (fun k e => (World.ownsRow.lt ho k e).1)⟩

set_option maxRecDepth 100000 in
set_option maxHeartbeats 4000000 in
theorem rPut_ct {w : World} {v x : Value} {l : List FileE} (h : TreeAt w v l) {p : ByteArray} (hp : p.size ≤ maxLen) {b : List UInt8} (hx : ByAt w x b) (hl : l.length ≤ 1000) :
    Calls Tryd.prog 59 #[v, .agg #[.string p, x]] w fun e w' => ∃ v', e = .returned v' ∧ TreeAt w' v' (putL l ⟨p, b⟩) ∧ Kept (fun _ => False) w w' := by
  obtain ⟨a, c, hv⟩ := h.slc
  subst hv
  obtain ⟨ax, cx, hvx⟩ := hx.slc
  subst hvx
  have hbx := heap_last w (.cells #[.string p, .slice ax b.length cx] 46)
  have k0 : Kept (fun _ => False) w (w.alloc (.cells #[.string p, .slice ax b.length cx] 46)) := (Kept.refl _ w).alloc _
  go_enter Tryd.func59, Tryd.ntmps59
  go_wp2_with fail
  generalize w.alloc (.cells #[.string p, .slice ax b.length cx] 46) = W0 at hbx k0 ⊢
  have hbxl := (Array.getElem?_eq_some_iff.1 hbx).1
  generalize w.heap.size = bx at hbx hbxl ⊢
  go_loopw [5, 6, 7] (fun so sd si wr => ∃ (k : Nat) (ps : List (ByteArray × Value)) (o : List FileE) (d : Bool), k ≤ l.length ∧ si = .int .i64 k ∧ sd = .bool d ∧ (∃ aa cc, so = .slice aa ps.length cc) ∧ Hid (wr.ownsRow W0.heap.size 46 2 so ps.length (prs ps) ∧ PairsAt w ps o ∧ o ++ putGo ⟨p, b⟩ (l.drop k) d = putL l ⟨p, b⟩) ∧ ps.length ≤ 2 * k ∧ Kept (fun _ => False) W0 wr) (fun _ _ si _ => l.length - (intOf si).toNat)
  case atStart => exact ⟨0, [], [], false, by omega, rfl, rfl, ⟨none, 0, rfl⟩, ⟨World.ownsRow_nil _ _ _ _, ⟨rfl, fun j f hf => by simp at hf⟩, rfl⟩, by simp, Kept.refl _ _⟩
  case round =>
    obtain ⟨k, ps, o, d, hk, rfl, rfl, ⟨aa, cc, rfl⟩, HR, hpn, hkr⟩ := hrel
    have HBX : Hid (W0.cell? ⟨bx, 0, none⟩ = some (.string p)) := by unfold Hid; rw [cell_of_row _ _ _ _ _ _ hbx]; rfl
    have HBX0 := Lib.hid hbx
    clear hbx
    by_cases hlt : k < l.length
    · have hga := List.getElem?_eq_getElem hlt
      have hdr : l.drop k = l[k] :: l.drop (k + 1) := List.drop_eq_getElem_cons hlt
      generalize l[k] = g at hga hdr
      obtain ⟨hgs, b1, o1, y, rfl, hbl, hrx, hBg⟩ := h.file hga
      obtain ⟨ag, cg, rfl⟩ := hBg.slc
      have HRX := Lib.hid hrx
      have HG := Lib.hid (And.intro hgs hBg)
      have HDR := Lib.hid hdr
      clear hrx hgs hBg hga hdr
      have q1 : ∀ w', Kept (fun _ => False) wr w' → w'.cell? ⟨b1, o1 + k * 2, none⟩ = some (.string g.path) := fun w' q => (((k0.trans hkr).trans q).cell (p := ⟨b1, o1 + k * 2, none⟩) hbl not_false).trans (HRX.out 0 _ rfl)
      have q2 : ∀ w', Kept (fun _ => False) wr w' → w'.cell? ⟨bx, 0, none⟩ = some (.string p) := fun w' q => ((hkr.trans q).cell (p := ⟨bx, 0, none⟩) hbxl not_false).trans HBX.out
      cases d with
      | true =>
        go_wp2_with fail
        refine wp_region_held_drew (S := (Kept (fun _ => False) wr)) (by kernel_rfl) ((Kept.refl _ wr).drew) (fun hHeld => ?_)
        refine held_q (v := ?_) (i := 0) rfl (by kernel_rfl) (by kernel_rfl) (by kernel_rfl) (fun _ _ _ h => h) (by rfl) hHeld ?_ ?_
        rotate_left
        · (intro w' hS'; go_simp <;> (with_reducible rfl))
        simp only [Act.put, List.getElem_toArray, List.getElem_cons_zero, List.getElem_cons_succ, List.setIfInBounds_toArray, List.set_cons_zero, List.set_cons_succ]
        refine held_q (v := ?_) (i := 1) rfl (by kernel_rfl) (by kernel_rfl) (by kernel_rfl) (fun _ _ _ h => h) (by rfl) hHeld ?_ ?_
        rotate_left
        · (intro w' hS'; go_simp <;> (with_reducible rfl))
        simp only [Act.put, List.getElem_toArray, List.getElem_cons_zero, List.getElem_cons_succ, List.setIfInBounds_toArray, List.set_cons_zero, List.set_cons_succ]
        refine held_q (v := ?_) (i := 2) rfl (by kernel_rfl) (by kernel_rfl) (by kernel_rfl) (fun _ _ _ h => h) (by rfl) hHeld ?_ ?_
        rotate_left
        · (intro w' hS'; go_simp <;> (with_reducible rfl))
        simp only [Act.put, List.getElem_toArray, List.getElem_cons_zero, List.getElem_cons_succ, List.setIfInBounds_toArray, List.set_cons_zero, List.set_cons_succ]
        refine held_no (i := 3) rfl (by kernel_rfl) (by kernel_rfl) (by kernel_rfl) (fun _ _ _ h => h) (by rfl) hHeld ?_
        simp only [Act.put, List.getElem_toArray, List.getElem_cons_zero, List.getElem_cons_succ, List.setIfInBounds_toArray, List.set_cons_zero, List.set_cons_succ]
        refine held_no (i := 4) rfl (by kernel_rfl) (by kernel_rfl) (by kernel_rfl) (fun _ _ _ h => h) (by rfl) hHeld ?_
        simp only [Act.put, List.getElem_toArray, List.getElem_cons_zero, List.getElem_cons_succ, List.setIfInBounds_toArray, List.set_cons_zero, List.set_cons_succ]
        refine held_no (i := 5) rfl (by kernel_rfl) (by kernel_rfl) (by kernel_rfl) (fun _ _ _ h => h) (by rfl) hHeld ?_
        simp only [Act.put, List.getElem_toArray, List.getElem_cons_zero, List.getElem_cons_succ, List.setIfInBounds_toArray, List.set_cons_zero, List.set_cons_succ]
        refine held_no (i := 6) rfl (by kernel_rfl) (by kernel_rfl) (by kernel_rfl) (fun _ _ _ h => h) (by rfl) hHeld ?_
        simp only [Act.put, List.getElem_toArray, List.getElem_cons_zero, List.getElem_cons_succ, List.setIfInBounds_toArray, List.set_cons_zero, List.set_cons_succ]
        refine held_no (i := 7) rfl (by kernel_rfl) (by kernel_rfl) (by kernel_rfl) (fun _ _ _ h => h) (by rfl) hHeld ?_
        simp only [Act.put, List.getElem_toArray, List.getElem_cons_zero, List.getElem_cons_succ, List.setIfInBounds_toArray, List.set_cons_zero, List.set_cons_succ]
        refine held_no (i := 8) rfl (by kernel_rfl) (by kernel_rfl) (by kernel_rfl) (fun _ _ _ h => h) (by rfl) hHeld ?_
        simp only [Act.put, List.getElem_toArray, List.getElem_cons_zero, List.getElem_cons_succ, List.setIfInBounds_toArray, List.set_cons_zero, List.set_cons_succ]
        refine held_no (i := 9) rfl (by kernel_rfl) (by kernel_rfl) (by kernel_rfl) (fun _ _ _ h => h) (by rfl) hHeld ?_
        simp only [Act.put, List.getElem_toArray, List.getElem_cons_zero, List.getElem_cons_succ, List.setIfInBounds_toArray, List.set_cons_zero, List.set_cons_succ]
        refine held_no (i := 10) rfl (by kernel_rfl) (by kernel_rfl) (by kernel_rfl) (fun _ _ _ h => h) (by rfl) hHeld ?_
        simp only [Act.put, List.getElem_toArray, List.getElem_cons_zero, List.getElem_cons_succ, List.setIfInBounds_toArray, List.set_cons_zero, List.set_cons_succ]
        refine held_q (v := ?_) (i := 11) rfl (by kernel_rfl) (by kernel_rfl) (by kernel_rfl) (fun _ _ _ h => h) (by rfl) hHeld ?_ ?_
        rotate_left
        · (intro w' hS'; go_simp <;> (with_reducible rfl))
        simp only [Act.put, List.getElem_toArray, List.getElem_cons_zero, List.getElem_cons_succ, List.setIfInBounds_toArray, List.set_cons_zero, List.set_cons_succ]
        refine wpAnyH_done (by kernel_rfl) ?_ _
        have HA : Hid (wr.drew.ownsRow W0.heap.size 46 2 (.slice aa ps.length cc) ps.length (prs ps) ∧ PairsAt w ps o ∧ o ++ ((if eqB g.path p then [] else [g]) ++ putGo ⟨p, b⟩ (l.drop (k + 1)) true) = putL l ⟨p, b⟩) := ⟨row_kept HR.out.1 hHeld, HR.out.2.1, by
          have := HR.out.2.2
          rw [HDR.out] at this
          simpa [putGo] using this⟩
        have KWA := hkr.trans hHeld
        obtain ⟨psA, hpsA⟩ : ∃ psA, psA = ps := ⟨_, rfl⟩
        obtain ⟨oA, hoA⟩ : ∃ oA, oA = o := ⟨_, rfl⟩
        obtain ⟨aA, haA⟩ : ∃ aA, aA = aa := ⟨_, rfl⟩
        obtain ⟨cA, hcA⟩ : ∃ cA, cA = cc := ⟨_, rfl⟩
        rw [← hpsA, ← hoA, ← haA, ← hcA] at HA
        rw [← hpsA] at hpn ⊢
        rw [← haA, ← hcA]
        clear hpsA hoA haA hcA q1 q2 HR hHeld
        generalize wr.drew = WA at HA KWA ⊢
        have HAo := HA.out.1
        have qg : ∀ w', Kept (fun _ => False) WA w' → w'.cell? ⟨b1, o1 + k * 2, none⟩ = some (.string g.path) := fun w' q => (((k0.trans KWA).trans q).cell (p := ⟨b1, o1 + k * 2, none⟩) hbl not_false).trans (HRX.out 0 _ rfl)
        have qf : ∀ w', Kept (fun _ => False) WA w' → w'.cell? ⟨bx, 0, none⟩ = some (.string p) := fun w' q => ((KWA.trans q).cell (p := ⟨bx, 0, none⟩) hbxl not_false).trans HBX.out
        cases hpe : (g.path.toList == p.toList) with
        | true =>
          have npe : (g.path.toList != p.toList) = false := by rw [bne, hpe]; rfl
          have HE2 : Hid (WA.ownsRow W0.heap.size 46 2 (.slice aA psA.length cA) psA.length (prs psA) ∧ PairsAt w psA oA ∧ oA ++ putGo ⟨p, b⟩ (l.drop (k + 1)) true = putL l ⟨p, b⟩) := ⟨HA.out.1, HA.out.2.1, by have := HA.out.2.2; unfold eqB at this; rw [hpe] at this; simpa using this⟩
          clear HA HAo
          go_wp2_with fail
          refine wp_region_held_drew (S := (Kept (fun _ => False) WA)) (by kernel_rfl) ((Kept.refl _ WA).drew) (fun hHeld => ?_)
          refine held_q (v := ?_) (i := 0) rfl (by kernel_rfl) (by kernel_rfl) (by kernel_rfl) (fun _ _ _ h => h) (by rfl) hHeld ?_ ?_
          rotate_left
          · (intro w' hS'; go_simp <;> (with_reducible rfl))
          simp only [Act.put, List.getElem_toArray, List.getElem_cons_zero, List.getElem_cons_succ, List.setIfInBounds_toArray, List.set_cons_zero, List.set_cons_succ]
          refine held_q (v := ?_) (i := 1) rfl (by kernel_rfl) (by kernel_rfl) (by kernel_rfl) (fun _ _ _ h => h) (by rfl) hHeld ?_ ?_
          rotate_left
          · (intro w' hS'; go_simp <;> (with_reducible rfl))
          simp only [Act.put, List.getElem_toArray, List.getElem_cons_zero, List.getElem_cons_succ, List.setIfInBounds_toArray, List.set_cons_zero, List.set_cons_succ]
          refine held_q (v := ?_) (i := 2) rfl (by kernel_rfl) (by kernel_rfl) (by kernel_rfl) (fun _ _ _ h => h) (by rfl) hHeld ?_ ?_
          rotate_left
          · (intro w' hS'; go_simp <;> (with_reducible rfl))
          simp only [Act.put, List.getElem_toArray, List.getElem_cons_zero, List.getElem_cons_succ, List.setIfInBounds_toArray, List.set_cons_zero, List.set_cons_succ]
          refine held_q (v := ?_) (i := 3) rfl (by kernel_rfl) (by kernel_rfl) (by kernel_rfl) (fun _ _ _ h => h) (by rfl) hHeld ?_ ?_
          rotate_left
          · (intro w' hS'; go_simp <;> (with_reducible rfl))
          simp only [Act.put, List.getElem_toArray, List.getElem_cons_zero, List.getElem_cons_succ, List.setIfInBounds_toArray, List.set_cons_zero, List.set_cons_succ]
          refine held_q (v := ?_) (i := 4) rfl (by kernel_rfl) (by kernel_rfl) (by kernel_rfl) (fun _ _ _ h => h) (by rfl) hHeld ?_ ?_
          rotate_left
          · (intro w' hS'; go_simp <;> (with_reducible rfl))
          simp only [Act.put, List.getElem_toArray, List.getElem_cons_zero, List.getElem_cons_succ, List.setIfInBounds_toArray, List.set_cons_zero, List.set_cons_succ]
          refine held_q (v := ?_) (i := 5) rfl (by kernel_rfl) (by kernel_rfl) (by kernel_rfl) (fun _ _ _ h => h) (by rfl) hHeld ?_ ?_
          rotate_left
          · (intro w' hS'; go_simp <;> (with_reducible rfl))
          simp only [Act.put, List.getElem_toArray, List.getElem_cons_zero, List.getElem_cons_succ, List.setIfInBounds_toArray, List.set_cons_zero, List.set_cons_succ]
          refine held_q (v := ?_) (i := 6) rfl (by kernel_rfl) (by kernel_rfl) (by kernel_rfl) (fun _ _ _ h => h) (by rfl) hHeld ?_ ?_
          rotate_left
          · (intro w' hS'; go_simp <;> (with_reducible rfl))
          simp only [Act.put, List.getElem_toArray, List.getElem_cons_zero, List.getElem_cons_succ, List.setIfInBounds_toArray, List.set_cons_zero, List.set_cons_succ]
          refine held_q (v := ?_) (i := 7) rfl (by kernel_rfl) (by kernel_rfl) (by kernel_rfl) (fun _ _ _ h => h) (by rfl) hHeld ?_ ?_
          rotate_left
          · (intro w' hS'; go_simp <;> (with_reducible rfl))
          simp only [Act.put, List.getElem_toArray, List.getElem_cons_zero, List.getElem_cons_succ, List.setIfInBounds_toArray, List.set_cons_zero, List.set_cons_succ]
          refine wpAnyH_done (by kernel_rfl) ?_ _
          go_wp2_with fail
          go_roundw
          case rel => exact ⟨k + 1, psA, oA, true, by omega, by go_num, rfl, ⟨aA, cA, rfl⟩, ⟨row_kept HE2.out.1 hHeld, HE2.out.2⟩, by omega, KWA.trans hHeld⟩
          case measure => simp [intOf]; omega
        | false =>
          have npe : (g.path.toList != p.toList) = true := by rw [bne, hpe]; rfl
          have heq2 : oA ++ [g] ++ putGo ⟨p, b⟩ (l.drop (k + 1)) true = putL l ⟨p, b⟩ := by have := HA.out.2.2; unfold eqB at this; rw [hpe] at this; simpa using this
          have HE2 := Lib.hid heq2
          clear heq2
          have ldg := load_file (rangeAt_stay (k0.trans KWA).drew hbl not_false HRX.out)
          have kd : Kept (fun _ => False) W0 WA.drew := KWA.drew
          have hod := row_kept HA.out.1 (Kept.refl (fun _ => False) WA).drew
          have hpa := HA.out.2.1
          clear HA HAo
          go_wp2_with fail
          refine wp_region_held_drew (S := (Kept (fun _ => False) WA)) (by kernel_rfl) ((Kept.refl _ WA).drew) (fun hHeld => ?_)
          refine held_q (v := ?_) (i := 0) rfl (by kernel_rfl) (by kernel_rfl) (by kernel_rfl) (fun _ _ _ h => h) (by rfl) hHeld ?_ ?_
          rotate_left
          · (intro w' hS'; go_simp <;> (with_reducible rfl))
          simp only [Act.put, List.getElem_toArray, List.getElem_cons_zero, List.getElem_cons_succ, List.setIfInBounds_toArray, List.set_cons_zero, List.set_cons_succ]
          refine held_q (v := ?_) (i := 1) rfl (by kernel_rfl) (by kernel_rfl) (by kernel_rfl) (fun _ _ _ h => h) (by rfl) hHeld ?_ ?_
          rotate_left
          · (intro w' hS'; go_simp <;> (with_reducible rfl))
          simp only [Act.put, List.getElem_toArray, List.getElem_cons_zero, List.getElem_cons_succ, List.setIfInBounds_toArray, List.set_cons_zero, List.set_cons_succ]
          refine held_q (v := ?_) (i := 2) rfl (by kernel_rfl) (by kernel_rfl) (by kernel_rfl) (fun _ _ _ h => h) (by rfl) hHeld ?_ ?_
          rotate_left
          · (intro w' hS'; go_simp <;> (with_reducible rfl))
          simp only [Act.put, List.getElem_toArray, List.getElem_cons_zero, List.getElem_cons_succ, List.setIfInBounds_toArray, List.set_cons_zero, List.set_cons_succ]
          refine held_q (v := ?_) (i := 3) rfl (by kernel_rfl) (by kernel_rfl) (by kernel_rfl) (fun _ _ _ h => h) (by rfl) hHeld ?_ ?_
          rotate_left
          · (intro w' hS'; go_simp <;> (with_reducible rfl))
          simp only [Act.put, List.getElem_toArray, List.getElem_cons_zero, List.getElem_cons_succ, List.setIfInBounds_toArray, List.set_cons_zero, List.set_cons_succ]
          refine held_q (v := ?_) (i := 4) rfl (by kernel_rfl) (by kernel_rfl) (by kernel_rfl) (fun _ _ _ h => h) (by rfl) hHeld ?_ ?_
          rotate_left
          · (intro w' hS'; go_simp <;> (with_reducible rfl))
          simp only [Act.put, List.getElem_toArray, List.getElem_cons_zero, List.getElem_cons_succ, List.setIfInBounds_toArray, List.set_cons_zero, List.set_cons_succ]
          refine held_q (v := ?_) (i := 5) rfl (by kernel_rfl) (by kernel_rfl) (by kernel_rfl) (fun _ _ _ h => h) (by rfl) hHeld ?_ ?_
          rotate_left
          · (intro w' hS'; go_simp <;> (with_reducible rfl))
          simp only [Act.put, List.getElem_toArray, List.getElem_cons_zero, List.getElem_cons_succ, List.setIfInBounds_toArray, List.set_cons_zero, List.set_cons_succ]
          refine held_q (v := ?_) (i := 6) rfl (by kernel_rfl) (by kernel_rfl) (by kernel_rfl) (fun _ _ _ h => h) (by rfl) hHeld ?_ ?_
          rotate_left
          · (intro w' hS'; go_simp <;> (with_reducible rfl))
          simp only [Act.put, List.getElem_toArray, List.getElem_cons_zero, List.getElem_cons_succ, List.setIfInBounds_toArray, List.set_cons_zero, List.set_cons_succ]
          refine held_q (v := ?_) (i := 7) rfl (by kernel_rfl) (by kernel_rfl) (by kernel_rfl) (fun _ _ _ h => h) (by rfl) hHeld ?_ ?_
          rotate_left
          · (intro w' hS'; go_simp <;> (with_reducible rfl))
          simp only [Act.put, List.getElem_toArray, List.getElem_cons_zero, List.getElem_cons_succ, List.setIfInBounds_toArray, List.set_cons_zero, List.set_cons_succ]
          refine wpAnyH_done (by kernel_rfl) ?_ _
          generalize WA.drew = W5 at ldg kd hod hHeld ⊢
          have bs5 := bslice_f1 g.path ag g.bytes.length cg W5
          have hg6 := heap_last W5 (.cells #[.string g.path, .slice ag g.bytes.length cg] 46)
          have k6 : Kept (fun _ => False) W5 (W5.alloc (.cells #[.string g.path, .slice ag g.bytes.length cg] 46)) := (Kept.refl _ W5).alloc _
          generalize W5.alloc (.cells #[.string g.path, .slice ag g.bytes.length cg] 46) = W6 at bs5 hg6 k6
          obtain ⟨a7, c7, W7, ap7, ho7, k7⟩ := app_one (row_kept hod k6) hg6 rfl (by omega) (kd.trans k6) 27
          have hpa7 : PairsAt w (psA ++ [(g.path, .slice ag g.bytes.length cg)]) (oA ++ [g]) := hpa.snoc HG.out.1 HG.out.2
          have HF : Hid (W7.ownsRow W0.heap.size 46 2 (.slice a7 (psA.length + 1) c7) (psA.length + 1) (prs (psA ++ [(g.path, .slice ag g.bytes.length cg)])) ∧ PairsAt w (psA ++ [(g.path, .slice ag g.bytes.length cg)]) (oA ++ [g]) ∧ oA ++ [g] ++ putGo ⟨p, b⟩ (l.drop (k + 1)) true = putL l ⟨p, b⟩) := ⟨ho7, hpa7, HE2.out⟩
          clear ho7 hpa7 HE2 hpa hod hg6
          generalize W5.heap.size = B5 at bs5 ap7
          go_wp2_with (first
            | (with_reducible refine wpl_load 46 _ rfl rfl ?_ ldg ?_
               · rfl
               simp only [Act.put, List.getElem_toArray, List.getElem_cons_zero, List.getElem_cons_succ, List.setIfInBounds_toArray, List.set_cons_zero, List.set_cons_succ])
            | (with_reducible refine wpl_bslice 27 _ _ rfl rfl ?_ bs5 ?_
               · (go_simp <;> rfl)
               simp only [Act.put, List.getElem_toArray, List.getElem_cons_zero, List.getElem_cons_succ, List.setIfInBounds_toArray, List.set_cons_zero, List.set_cons_succ])
            | (refine wpl_val rfl (exec_append2 27 27 _ _ rfl rfl rfl ap7) ?_))
          go_roundw
          case rel => exact ⟨k + 1, psA ++ [(g.path, .slice ag g.bytes.length cg)], oA ++ [g], true, by omega, by go_num, rfl, ⟨a7, c7, by rw [List.length_append]; rfl⟩, by rw [List.length_append]; exact HF.out, by rw [List.length_append]; simp; omega, k7⟩
          case measure => simp [intOf]; omega
      | false =>
        generalize hbt : Op.bytesLess g.path.toList p.toList = bt
        have hlt2 : ltB g.path p = bt := hbt
        have HLT := Lib.hid hlt2
        clear hlt2
        cases bt with
        | true =>
          go_wp2_with fail
          refine wp_region_held_drew (S := (Kept (fun _ => False) wr)) (by kernel_rfl) ((Kept.refl _ wr).drew) (fun hHeld => ?_)
          refine held_q (v := ?_) (i := 0) rfl (by kernel_rfl) (by kernel_rfl) (by kernel_rfl) (fun _ _ _ h => h) (by rfl) hHeld ?_ ?_
          rotate_left
          · (intro w' hS'; go_simp <;> (with_reducible rfl))
          simp only [Act.put, List.getElem_toArray, List.getElem_cons_zero, List.getElem_cons_succ, List.setIfInBounds_toArray, List.set_cons_zero, List.set_cons_succ]
          refine held_q (v := ?_) (i := 1) rfl (by kernel_rfl) (by kernel_rfl) (by kernel_rfl) (fun _ _ _ h => h) (by rfl) hHeld ?_ ?_
          rotate_left
          · (intro w' hS'; go_simp <;> (with_reducible rfl))
          simp only [Act.put, List.getElem_toArray, List.getElem_cons_zero, List.getElem_cons_succ, List.setIfInBounds_toArray, List.set_cons_zero, List.set_cons_succ]
          refine held_q (v := ?_) (i := 2) rfl (by kernel_rfl) (by kernel_rfl) (by kernel_rfl) (fun _ _ _ h => h) (by rfl) hHeld ?_ ?_
          rotate_left
          · (intro w' hS'; go_simp <;> (with_reducible rfl))
          simp only [Act.put, List.getElem_toArray, List.getElem_cons_zero, List.getElem_cons_succ, List.setIfInBounds_toArray, List.set_cons_zero, List.set_cons_succ]
          refine held_q (v := ?_) (i := 3) rfl (by kernel_rfl) (by kernel_rfl) (by kernel_rfl) (fun _ _ _ h => h) (by rfl) hHeld ?_ ?_
          rotate_left
          · (intro w' hS'; go_simp <;> (with_reducible rfl))
          simp only [Act.put, List.getElem_toArray, List.getElem_cons_zero, List.getElem_cons_succ, List.setIfInBounds_toArray, List.set_cons_zero, List.set_cons_succ]
          refine held_q (v := ?_) (i := 4) rfl (by kernel_rfl) (by kernel_rfl) (by kernel_rfl) (fun _ _ _ h => h) (by rfl) hHeld ?_ ?_
          rotate_left
          · (intro w' hS'; go_simp <;> (with_reducible rfl))
          simp only [Act.put, List.getElem_toArray, List.getElem_cons_zero, List.getElem_cons_succ, List.setIfInBounds_toArray, List.set_cons_zero, List.set_cons_succ]
          refine held_q (v := ?_) (i := 5) rfl (by kernel_rfl) (by kernel_rfl) (by kernel_rfl) (fun _ _ _ h => h) (by rfl) hHeld ?_ ?_
          rotate_left
          · (intro w' hS'; go_simp <;> (with_reducible rfl))
          simp only [Act.put, List.getElem_toArray, List.getElem_cons_zero, List.getElem_cons_succ, List.setIfInBounds_toArray, List.set_cons_zero, List.set_cons_succ]
          refine held_q (v := ?_) (i := 6) rfl (by kernel_rfl) (by kernel_rfl) (by kernel_rfl) (fun _ _ _ h => h) (by rfl) hHeld ?_ ?_
          rotate_left
          · (intro w' hS'; go_simp <;> (with_reducible rfl))
          simp only [Act.put, List.getElem_toArray, List.getElem_cons_zero, List.getElem_cons_succ, List.setIfInBounds_toArray, List.set_cons_zero, List.set_cons_succ]
          refine held_q (v := ?_) (i := 7) rfl (by kernel_rfl) (by kernel_rfl) (by kernel_rfl) (fun _ _ _ h => h) (by rfl) hHeld ?_ ?_
          rotate_left
          · (intro w' hS'; go_simp <;> (with_reducible rfl))
          simp only [Act.put, List.getElem_toArray, List.getElem_cons_zero, List.getElem_cons_succ, List.setIfInBounds_toArray, List.set_cons_zero, List.set_cons_succ]
          refine held_q (v := ?_) (i := 8) rfl (by kernel_rfl) (by kernel_rfl) (by kernel_rfl) (fun _ _ _ h => h) (by rfl) hHeld ?_ ?_
          rotate_left
          · (intro w' hS'; go_simp <;> (with_reducible rfl))
          simp only [Act.put, List.getElem_toArray, List.getElem_cons_zero, List.getElem_cons_succ, List.setIfInBounds_toArray, List.set_cons_zero, List.set_cons_succ]
          refine held_q (v := ?_) (i := 9) rfl (by kernel_rfl) (by kernel_rfl) (by kernel_rfl) (fun _ _ _ h => h) (by rfl) hHeld ?_ ?_
          rotate_left
          · (intro w' hS'; go_simp <;> (with_reducible rfl))
          simp only [Act.put, List.getElem_toArray, List.getElem_cons_zero, List.getElem_cons_succ, List.setIfInBounds_toArray, List.set_cons_zero, List.set_cons_succ]
          refine held_q (v := ?_) (i := 10) rfl (by kernel_rfl) (by kernel_rfl) (by kernel_rfl) (fun _ _ _ h => h) (by rfl) hHeld ?_ ?_
          rotate_left
          · (intro w' hS'; go_simp <;> (with_reducible rfl))
          simp only [Act.put, List.getElem_toArray, List.getElem_cons_zero, List.getElem_cons_succ, List.setIfInBounds_toArray, List.set_cons_zero, List.set_cons_succ]
          refine held_q (v := ?_) (i := 11) rfl (by kernel_rfl) (by kernel_rfl) (by kernel_rfl) (fun _ _ _ h => h) (by rfl) hHeld ?_ ?_
          rotate_left
          · (intro w' hS'; go_simp <;> (with_reducible rfl))
          simp only [Act.put, List.getElem_toArray, List.getElem_cons_zero, List.getElem_cons_succ, List.setIfInBounds_toArray, List.set_cons_zero, List.set_cons_succ]
          refine wpAnyH_done (by kernel_rfl) ?_ _
          have HA : Hid (wr.drew.ownsRow W0.heap.size 46 2 (.slice aa ps.length cc) ps.length (prs ps) ∧ PairsAt w ps o ∧ o ++ ((if eqB g.path p then [] else [g]) ++ putGo ⟨p, b⟩ (l.drop (k + 1)) false) = putL l ⟨p, b⟩) := ⟨row_kept HR.out.1 hHeld, HR.out.2.1, by
            have := HR.out.2.2
            rw [HDR.out] at this
            simpa [putGo, HLT.out] using this⟩
          have KWA := hkr.trans hHeld
          obtain ⟨psA, hpsA⟩ : ∃ psA, psA = ps := ⟨_, rfl⟩
          obtain ⟨oA, hoA⟩ : ∃ oA, oA = o := ⟨_, rfl⟩
          obtain ⟨aA, haA⟩ : ∃ aA, aA = aa := ⟨_, rfl⟩
          obtain ⟨cA, hcA⟩ : ∃ cA, cA = cc := ⟨_, rfl⟩
          rw [← hpsA, ← hoA, ← haA, ← hcA] at HA
          rw [← hpsA] at hpn ⊢
          rw [← haA, ← hcA]
          clear hpsA hoA haA hcA q1 q2 HR hHeld hbt
          generalize wr.drew = WA at HA KWA ⊢
          have HAo := HA.out.1
          have qg : ∀ w', Kept (fun _ => False) WA w' → w'.cell? ⟨b1, o1 + k * 2, none⟩ = some (.string g.path) := fun w' q => (((k0.trans KWA).trans q).cell (p := ⟨b1, o1 + k * 2, none⟩) hbl not_false).trans (HRX.out 0 _ rfl)
          have qf : ∀ w', Kept (fun _ => False) WA w' → w'.cell? ⟨bx, 0, none⟩ = some (.string p) := fun w' q => ((KWA.trans q).cell (p := ⟨bx, 0, none⟩) hbxl not_false).trans HBX.out
          cases hpe : (g.path.toList == p.toList) with
          | true =>
            have npe : (g.path.toList != p.toList) = false := by rw [bne, hpe]; rfl
            have HE2 : Hid (WA.ownsRow W0.heap.size 46 2 (.slice aA psA.length cA) psA.length (prs psA) ∧ PairsAt w psA oA ∧ oA ++ putGo ⟨p, b⟩ (l.drop (k + 1)) false = putL l ⟨p, b⟩) := ⟨HA.out.1, HA.out.2.1, by have := HA.out.2.2; unfold eqB at this; rw [hpe] at this; simpa using this⟩
            clear HA HAo
            go_wp2_with fail
            refine wp_region_held_drew (S := (Kept (fun _ => False) WA)) (by kernel_rfl) ((Kept.refl _ WA).drew) (fun hHeld => ?_)
            refine held_q (v := ?_) (i := 0) rfl (by kernel_rfl) (by kernel_rfl) (by kernel_rfl) (fun _ _ _ h => h) (by rfl) hHeld ?_ ?_
            rotate_left
            · (intro w' hS'; go_simp <;> (with_reducible rfl))
            simp only [Act.put, List.getElem_toArray, List.getElem_cons_zero, List.getElem_cons_succ, List.setIfInBounds_toArray, List.set_cons_zero, List.set_cons_succ]
            refine held_q (v := ?_) (i := 1) rfl (by kernel_rfl) (by kernel_rfl) (by kernel_rfl) (fun _ _ _ h => h) (by rfl) hHeld ?_ ?_
            rotate_left
            · (intro w' hS'; go_simp <;> (with_reducible rfl))
            simp only [Act.put, List.getElem_toArray, List.getElem_cons_zero, List.getElem_cons_succ, List.setIfInBounds_toArray, List.set_cons_zero, List.set_cons_succ]
            refine held_q (v := ?_) (i := 2) rfl (by kernel_rfl) (by kernel_rfl) (by kernel_rfl) (fun _ _ _ h => h) (by rfl) hHeld ?_ ?_
            rotate_left
            · (intro w' hS'; go_simp <;> (with_reducible rfl))
            simp only [Act.put, List.getElem_toArray, List.getElem_cons_zero, List.getElem_cons_succ, List.setIfInBounds_toArray, List.set_cons_zero, List.set_cons_succ]
            refine held_q (v := ?_) (i := 3) rfl (by kernel_rfl) (by kernel_rfl) (by kernel_rfl) (fun _ _ _ h => h) (by rfl) hHeld ?_ ?_
            rotate_left
            · (intro w' hS'; go_simp <;> (with_reducible rfl))
            simp only [Act.put, List.getElem_toArray, List.getElem_cons_zero, List.getElem_cons_succ, List.setIfInBounds_toArray, List.set_cons_zero, List.set_cons_succ]
            refine held_q (v := ?_) (i := 4) rfl (by kernel_rfl) (by kernel_rfl) (by kernel_rfl) (fun _ _ _ h => h) (by rfl) hHeld ?_ ?_
            rotate_left
            · (intro w' hS'; go_simp <;> (with_reducible rfl))
            simp only [Act.put, List.getElem_toArray, List.getElem_cons_zero, List.getElem_cons_succ, List.setIfInBounds_toArray, List.set_cons_zero, List.set_cons_succ]
            refine held_q (v := ?_) (i := 5) rfl (by kernel_rfl) (by kernel_rfl) (by kernel_rfl) (fun _ _ _ h => h) (by rfl) hHeld ?_ ?_
            rotate_left
            · (intro w' hS'; go_simp <;> (with_reducible rfl))
            simp only [Act.put, List.getElem_toArray, List.getElem_cons_zero, List.getElem_cons_succ, List.setIfInBounds_toArray, List.set_cons_zero, List.set_cons_succ]
            refine held_q (v := ?_) (i := 6) rfl (by kernel_rfl) (by kernel_rfl) (by kernel_rfl) (fun _ _ _ h => h) (by rfl) hHeld ?_ ?_
            rotate_left
            · (intro w' hS'; go_simp <;> (with_reducible rfl))
            simp only [Act.put, List.getElem_toArray, List.getElem_cons_zero, List.getElem_cons_succ, List.setIfInBounds_toArray, List.set_cons_zero, List.set_cons_succ]
            refine held_q (v := ?_) (i := 7) rfl (by kernel_rfl) (by kernel_rfl) (by kernel_rfl) (fun _ _ _ h => h) (by rfl) hHeld ?_ ?_
            rotate_left
            · (intro w' hS'; go_simp <;> (with_reducible rfl))
            simp only [Act.put, List.getElem_toArray, List.getElem_cons_zero, List.getElem_cons_succ, List.setIfInBounds_toArray, List.set_cons_zero, List.set_cons_succ]
            refine wpAnyH_done (by kernel_rfl) ?_ _
            go_wp2_with fail
            go_roundw
            case rel => exact ⟨k + 1, psA, oA, false, by omega, by go_num, rfl, ⟨aA, cA, rfl⟩, ⟨row_kept HE2.out.1 hHeld, HE2.out.2⟩, by omega, KWA.trans hHeld⟩
            case measure => simp [intOf]; omega
          | false =>
            have npe : (g.path.toList != p.toList) = true := by rw [bne, hpe]; rfl
            have heq2 : oA ++ [g] ++ putGo ⟨p, b⟩ (l.drop (k + 1)) false = putL l ⟨p, b⟩ := by have := HA.out.2.2; unfold eqB at this; rw [hpe] at this; simpa using this
            have HE2 := Lib.hid heq2
            clear heq2
            have ldg := load_file (rangeAt_stay (k0.trans KWA).drew hbl not_false HRX.out)
            have kd : Kept (fun _ => False) W0 WA.drew := KWA.drew
            have hod := row_kept HA.out.1 (Kept.refl (fun _ => False) WA).drew
            have hpa := HA.out.2.1
            clear HA HAo
            go_wp2_with fail
            refine wp_region_held_drew (S := (Kept (fun _ => False) WA)) (by kernel_rfl) ((Kept.refl _ WA).drew) (fun hHeld => ?_)
            refine held_q (v := ?_) (i := 0) rfl (by kernel_rfl) (by kernel_rfl) (by kernel_rfl) (fun _ _ _ h => h) (by rfl) hHeld ?_ ?_
            rotate_left
            · (intro w' hS'; go_simp <;> (with_reducible rfl))
            simp only [Act.put, List.getElem_toArray, List.getElem_cons_zero, List.getElem_cons_succ, List.setIfInBounds_toArray, List.set_cons_zero, List.set_cons_succ]
            refine held_q (v := ?_) (i := 1) rfl (by kernel_rfl) (by kernel_rfl) (by kernel_rfl) (fun _ _ _ h => h) (by rfl) hHeld ?_ ?_
            rotate_left
            · (intro w' hS'; go_simp <;> (with_reducible rfl))
            simp only [Act.put, List.getElem_toArray, List.getElem_cons_zero, List.getElem_cons_succ, List.setIfInBounds_toArray, List.set_cons_zero, List.set_cons_succ]
            refine held_q (v := ?_) (i := 2) rfl (by kernel_rfl) (by kernel_rfl) (by kernel_rfl) (fun _ _ _ h => h) (by rfl) hHeld ?_ ?_
            rotate_left
            · (intro w' hS'; go_simp <;> (with_reducible rfl))
            simp only [Act.put, List.getElem_toArray, List.getElem_cons_zero, List.getElem_cons_succ, List.setIfInBounds_toArray, List.set_cons_zero, List.set_cons_succ]
            refine held_q (v := ?_) (i := 3) rfl (by kernel_rfl) (by kernel_rfl) (by kernel_rfl) (fun _ _ _ h => h) (by rfl) hHeld ?_ ?_
            rotate_left
            · (intro w' hS'; go_simp <;> (with_reducible rfl))
            simp only [Act.put, List.getElem_toArray, List.getElem_cons_zero, List.getElem_cons_succ, List.setIfInBounds_toArray, List.set_cons_zero, List.set_cons_succ]
            refine held_q (v := ?_) (i := 4) rfl (by kernel_rfl) (by kernel_rfl) (by kernel_rfl) (fun _ _ _ h => h) (by rfl) hHeld ?_ ?_
            rotate_left
            · (intro w' hS'; go_simp <;> (with_reducible rfl))
            simp only [Act.put, List.getElem_toArray, List.getElem_cons_zero, List.getElem_cons_succ, List.setIfInBounds_toArray, List.set_cons_zero, List.set_cons_succ]
            refine held_q (v := ?_) (i := 5) rfl (by kernel_rfl) (by kernel_rfl) (by kernel_rfl) (fun _ _ _ h => h) (by rfl) hHeld ?_ ?_
            rotate_left
            · (intro w' hS'; go_simp <;> (with_reducible rfl))
            simp only [Act.put, List.getElem_toArray, List.getElem_cons_zero, List.getElem_cons_succ, List.setIfInBounds_toArray, List.set_cons_zero, List.set_cons_succ]
            refine held_q (v := ?_) (i := 6) rfl (by kernel_rfl) (by kernel_rfl) (by kernel_rfl) (fun _ _ _ h => h) (by rfl) hHeld ?_ ?_
            rotate_left
            · (intro w' hS'; go_simp <;> (with_reducible rfl))
            simp only [Act.put, List.getElem_toArray, List.getElem_cons_zero, List.getElem_cons_succ, List.setIfInBounds_toArray, List.set_cons_zero, List.set_cons_succ]
            refine held_q (v := ?_) (i := 7) rfl (by kernel_rfl) (by kernel_rfl) (by kernel_rfl) (fun _ _ _ h => h) (by rfl) hHeld ?_ ?_
            rotate_left
            · (intro w' hS'; go_simp <;> (with_reducible rfl))
            simp only [Act.put, List.getElem_toArray, List.getElem_cons_zero, List.getElem_cons_succ, List.setIfInBounds_toArray, List.set_cons_zero, List.set_cons_succ]
            refine wpAnyH_done (by kernel_rfl) ?_ _
            generalize WA.drew = W5 at ldg kd hod hHeld ⊢
            have bs5 := bslice_f1 g.path ag g.bytes.length cg W5
            have hg6 := heap_last W5 (.cells #[.string g.path, .slice ag g.bytes.length cg] 46)
            have k6 : Kept (fun _ => False) W5 (W5.alloc (.cells #[.string g.path, .slice ag g.bytes.length cg] 46)) := (Kept.refl _ W5).alloc _
            generalize W5.alloc (.cells #[.string g.path, .slice ag g.bytes.length cg] 46) = W6 at bs5 hg6 k6
            obtain ⟨a7, c7, W7, ap7, ho7, k7⟩ := app_one (row_kept hod k6) hg6 rfl (by omega) (kd.trans k6) 27
            have hpa7 : PairsAt w (psA ++ [(g.path, .slice ag g.bytes.length cg)]) (oA ++ [g]) := hpa.snoc HG.out.1 HG.out.2
            have HF : Hid (W7.ownsRow W0.heap.size 46 2 (.slice a7 (psA.length + 1) c7) (psA.length + 1) (prs (psA ++ [(g.path, .slice ag g.bytes.length cg)])) ∧ PairsAt w (psA ++ [(g.path, .slice ag g.bytes.length cg)]) (oA ++ [g]) ∧ oA ++ [g] ++ putGo ⟨p, b⟩ (l.drop (k + 1)) false = putL l ⟨p, b⟩) := ⟨ho7, hpa7, HE2.out⟩
            clear ho7 hpa7 HE2 hpa hod hg6
            generalize W5.heap.size = B5 at bs5 ap7
            go_wp2_with (first
              | (with_reducible refine wpl_load 46 _ rfl rfl ?_ ldg ?_
                 · rfl
                 simp only [Act.put, List.getElem_toArray, List.getElem_cons_zero, List.getElem_cons_succ, List.setIfInBounds_toArray, List.set_cons_zero, List.set_cons_succ])
              | (with_reducible refine wpl_bslice 27 _ _ rfl rfl ?_ bs5 ?_
                 · (go_simp <;> rfl)
                 simp only [Act.put, List.getElem_toArray, List.getElem_cons_zero, List.getElem_cons_succ, List.setIfInBounds_toArray, List.set_cons_zero, List.set_cons_succ])
              | (refine wpl_val rfl (exec_append2 27 27 _ _ rfl rfl rfl ap7) ?_))
            go_roundw
            case rel => exact ⟨k + 1, psA ++ [(g.path, .slice ag g.bytes.length cg)], oA ++ [g], false, by omega, by go_num, rfl, ⟨a7, c7, by rw [List.length_append]; rfl⟩, by rw [List.length_append]; exact HF.out, by rw [List.length_append]; simp; omega, k7⟩
            case measure => simp [intOf]; omega
        | false =>
          go_wp2_with fail
          refine wp_region_held_drew (S := (Kept (fun _ => False) wr)) (by kernel_rfl) ((Kept.refl _ wr).drew) (fun hHeld => ?_)
          refine held_q (v := ?_) (i := 0) rfl (by kernel_rfl) (by kernel_rfl) (by kernel_rfl) (fun _ _ _ h => h) (by rfl) hHeld ?_ ?_
          rotate_left
          · (intro w' hS'; go_simp <;> (with_reducible rfl))
          simp only [Act.put, List.getElem_toArray, List.getElem_cons_zero, List.getElem_cons_succ, List.setIfInBounds_toArray, List.set_cons_zero, List.set_cons_succ]
          refine held_q (v := ?_) (i := 1) rfl (by kernel_rfl) (by kernel_rfl) (by kernel_rfl) (fun _ _ _ h => h) (by rfl) hHeld ?_ ?_
          rotate_left
          · (intro w' hS'; go_simp <;> (with_reducible rfl))
          simp only [Act.put, List.getElem_toArray, List.getElem_cons_zero, List.getElem_cons_succ, List.setIfInBounds_toArray, List.set_cons_zero, List.set_cons_succ]
          refine held_q (v := ?_) (i := 2) rfl (by kernel_rfl) (by kernel_rfl) (by kernel_rfl) (fun _ _ _ h => h) (by rfl) hHeld ?_ ?_
          rotate_left
          · (intro w' hS'; go_simp <;> (with_reducible rfl))
          simp only [Act.put, List.getElem_toArray, List.getElem_cons_zero, List.getElem_cons_succ, List.setIfInBounds_toArray, List.set_cons_zero, List.set_cons_succ]
          refine held_q (v := ?_) (i := 3) rfl (by kernel_rfl) (by kernel_rfl) (by kernel_rfl) (fun _ _ _ h => h) (by rfl) hHeld ?_ ?_
          rotate_left
          · (intro w' hS'; go_simp <;> (with_reducible rfl))
          simp only [Act.put, List.getElem_toArray, List.getElem_cons_zero, List.getElem_cons_succ, List.setIfInBounds_toArray, List.set_cons_zero, List.set_cons_succ]
          refine held_q (v := ?_) (i := 4) rfl (by kernel_rfl) (by kernel_rfl) (by kernel_rfl) (fun _ _ _ h => h) (by rfl) hHeld ?_ ?_
          rotate_left
          · (intro w' hS'; go_simp <;> (with_reducible rfl))
          simp only [Act.put, List.getElem_toArray, List.getElem_cons_zero, List.getElem_cons_succ, List.setIfInBounds_toArray, List.set_cons_zero, List.set_cons_succ]
          refine held_q (v := ?_) (i := 5) rfl (by kernel_rfl) (by kernel_rfl) (by kernel_rfl) (fun _ _ _ h => h) (by rfl) hHeld ?_ ?_
          rotate_left
          · (intro w' hS'; go_simp <;> (with_reducible rfl))
          simp only [Act.put, List.getElem_toArray, List.getElem_cons_zero, List.getElem_cons_succ, List.setIfInBounds_toArray, List.set_cons_zero, List.set_cons_succ]
          refine held_q (v := ?_) (i := 6) rfl (by kernel_rfl) (by kernel_rfl) (by kernel_rfl) (fun _ _ _ h => h) (by rfl) hHeld ?_ ?_
          rotate_left
          · (intro w' hS'; go_simp <;> (with_reducible rfl))
          simp only [Act.put, List.getElem_toArray, List.getElem_cons_zero, List.getElem_cons_succ, List.setIfInBounds_toArray, List.set_cons_zero, List.set_cons_succ]
          refine held_q (v := ?_) (i := 7) rfl (by kernel_rfl) (by kernel_rfl) (by kernel_rfl) (fun _ _ _ h => h) (by rfl) hHeld ?_ ?_
          rotate_left
          · (intro w' hS'; go_simp <;> (with_reducible rfl))
          simp only [Act.put, List.getElem_toArray, List.getElem_cons_zero, List.getElem_cons_succ, List.setIfInBounds_toArray, List.set_cons_zero, List.set_cons_succ]
          refine held_q (v := ?_) (i := 8) rfl (by kernel_rfl) (by kernel_rfl) (by kernel_rfl) (fun _ _ _ h => h) (by rfl) hHeld ?_ ?_
          rotate_left
          · (intro w' hS'; go_simp <;> (with_reducible rfl))
          simp only [Act.put, List.getElem_toArray, List.getElem_cons_zero, List.getElem_cons_succ, List.setIfInBounds_toArray, List.set_cons_zero, List.set_cons_succ]
          refine held_q (v := ?_) (i := 9) rfl (by kernel_rfl) (by kernel_rfl) (by kernel_rfl) (fun _ _ _ h => h) (by rfl) hHeld ?_ ?_
          rotate_left
          · (intro w' hS'; go_simp <;> (with_reducible rfl))
          simp only [Act.put, List.getElem_toArray, List.getElem_cons_zero, List.getElem_cons_succ, List.setIfInBounds_toArray, List.set_cons_zero, List.set_cons_succ]
          refine held_q (v := ?_) (i := 10) rfl (by kernel_rfl) (by kernel_rfl) (by kernel_rfl) (fun _ _ _ h => h) (by rfl) hHeld ?_ ?_
          rotate_left
          · (intro w' hS'; go_simp <;> (with_reducible rfl))
          simp only [Act.put, List.getElem_toArray, List.getElem_cons_zero, List.getElem_cons_succ, List.setIfInBounds_toArray, List.set_cons_zero, List.set_cons_succ]
          refine held_q (v := ?_) (i := 11) rfl (by kernel_rfl) (by kernel_rfl) (by kernel_rfl) (fun _ _ _ h => h) (by rfl) hHeld ?_ ?_
          rotate_left
          · (intro w' hS'; go_simp <;> (with_reducible rfl))
          simp only [Act.put, List.getElem_toArray, List.getElem_cons_zero, List.getElem_cons_succ, List.setIfInBounds_toArray, List.set_cons_zero, List.set_cons_succ]
          refine wpAnyH_done (by kernel_rfl) ?_ _
          have hod := row_kept HR.out.1 hHeld
          have hpa := HR.out.2.1
          have heq : o ++ [⟨p, b⟩] ++ ((if eqB g.path p then [] else [g]) ++ putGo ⟨p, b⟩ (l.drop (k + 1)) true) = putL l ⟨p, b⟩ := by
            have := HR.out.2.2
            rw [HDR.out] at this
            simpa [putGo, HLT.out] using this
          have HEQ := Lib.hid heq
          clear heq HR q1 q2 hbt
          have k1 := hkr.trans hHeld
          have kr1 := hHeld
          generalize wr.drew = W1 at hod hHeld k1 kr1 ⊢
          have ldf := load_row (P := Tryd.prog) (ty := 46) Tryd.underlying46 rfl ((k1.block bx hbxl not_false).trans HBX0.out) (by kernel_rfl)
          have bs1 := bslice_f1 p ax b.length cx W1
          have hg2 := heap_last W1 (.cells #[.string p, .slice ax b.length cx] 46)
          have k12 : Kept (fun _ => False) W1 (W1.alloc (.cells #[.string p, .slice ax b.length cx] 46)) := (Kept.refl _ W1).alloc _
          generalize W1.alloc (.cells #[.string p, .slice ax b.length cx] 46) = W2 at bs1 hg2 k12
          obtain ⟨aA, cA, WA, ap3, ho3, k3⟩ := app_one (row_kept hod k12) hg2 rfl (by omega) (k1.trans k12) 27
          have KWA := k3
          obtain ⟨psA, hpsA⟩ : ∃ psA, psA = ps ++ [(p, .slice ax b.length cx)] := ⟨_, rfl⟩
          have hpA : psA.length = ps.length + 1 := by rw [hpsA, List.length_append]; rfl
          obtain ⟨oA, hoA⟩ : ∃ oA, oA = o ++ [⟨p, b⟩] := ⟨_, rfl⟩
          have HA : Hid (WA.ownsRow W0.heap.size 46 2 (.slice aA psA.length cA) psA.length (prs psA) ∧ PairsAt w psA oA ∧ oA ++ ((if eqB g.path p then [] else [g]) ++ putGo ⟨p, b⟩ (l.drop (k + 1)) true) = putL l ⟨p, b⟩) := ⟨by rw [hpA, hpsA]; exact ho3, by rw [hpsA, hoA]; exact hpa.snoc (f := ⟨p, b⟩) hp hx, by rw [hoA]; exact HEQ.out⟩
          rw [← hpA] at ap3
          have hpn : psA.length ≤ 2 * k + 1 := by omega
          have HPA := Lib.hid hpA
          clear hpA hpsA hoA hpa hod ho3 HEQ hg2 hHeld kr1
          generalize W1.heap.size = B1 at bs1 ap3
          go_wp2_with (first
            | (with_reducible refine wpl_load 46 _ rfl rfl ?_ ldf ?_
               · rfl
               simp only [Act.put, List.getElem_toArray, List.getElem_cons_zero, List.getElem_cons_succ, List.setIfInBounds_toArray, List.set_cons_zero, List.set_cons_succ])
            | (with_reducible refine wpl_bslice 27 _ _ rfl rfl ?_ bs1 ?_
               · (go_simp <;> rfl)
               simp only [Act.put, List.getElem_toArray, List.getElem_cons_zero, List.getElem_cons_succ, List.setIfInBounds_toArray, List.set_cons_zero, List.set_cons_succ])
            | (refine wpl_val rfl (exec_append2 27 27 _ _ rfl rfl rfl ap3) ?_))
          have HAo := HA.out.1
          have qg : ∀ w', Kept (fun _ => False) WA w' → w'.cell? ⟨b1, o1 + k * 2, none⟩ = some (.string g.path) := fun w' q => (((k0.trans KWA).trans q).cell (p := ⟨b1, o1 + k * 2, none⟩) hbl not_false).trans (HRX.out 0 _ rfl)
          have qf : ∀ w', Kept (fun _ => False) WA w' → w'.cell? ⟨bx, 0, none⟩ = some (.string p) := fun w' q => ((KWA.trans q).cell (p := ⟨bx, 0, none⟩) hbxl not_false).trans HBX.out
          cases hpe : (g.path.toList == p.toList) with
          | true =>
            have npe : (g.path.toList != p.toList) = false := by rw [bne, hpe]; rfl
            have HE2 : Hid (WA.ownsRow W0.heap.size 46 2 (.slice aA psA.length cA) psA.length (prs psA) ∧ PairsAt w psA oA ∧ oA ++ putGo ⟨p, b⟩ (l.drop (k + 1)) true = putL l ⟨p, b⟩) := ⟨HA.out.1, HA.out.2.1, by have := HA.out.2.2; unfold eqB at this; rw [hpe] at this; simpa using this⟩
            clear HA HAo
            go_wp2_with fail
            refine wp_region_held_drew (S := (Kept (fun _ => False) WA)) (by kernel_rfl) ((Kept.refl _ WA).drew) (fun hHeld => ?_)
            refine held_q (v := ?_) (i := 0) rfl (by kernel_rfl) (by kernel_rfl) (by kernel_rfl) (fun _ _ _ h => h) (by rfl) hHeld ?_ ?_
            rotate_left
            · (intro w' hS'; go_simp <;> (with_reducible rfl))
            simp only [Act.put, List.getElem_toArray, List.getElem_cons_zero, List.getElem_cons_succ, List.setIfInBounds_toArray, List.set_cons_zero, List.set_cons_succ]
            refine held_q (v := ?_) (i := 1) rfl (by kernel_rfl) (by kernel_rfl) (by kernel_rfl) (fun _ _ _ h => h) (by rfl) hHeld ?_ ?_
            rotate_left
            · (intro w' hS'; go_simp <;> (with_reducible rfl))
            simp only [Act.put, List.getElem_toArray, List.getElem_cons_zero, List.getElem_cons_succ, List.setIfInBounds_toArray, List.set_cons_zero, List.set_cons_succ]
            refine held_q (v := ?_) (i := 2) rfl (by kernel_rfl) (by kernel_rfl) (by kernel_rfl) (fun _ _ _ h => h) (by rfl) hHeld ?_ ?_
            rotate_left
            · (intro w' hS'; go_simp <;> (with_reducible rfl))
            simp only [Act.put, List.getElem_toArray, List.getElem_cons_zero, List.getElem_cons_succ, List.setIfInBounds_toArray, List.set_cons_zero, List.set_cons_succ]
            refine held_q (v := ?_) (i := 3) rfl (by kernel_rfl) (by kernel_rfl) (by kernel_rfl) (fun _ _ _ h => h) (by rfl) hHeld ?_ ?_
            rotate_left
            · (intro w' hS'; go_simp <;> (with_reducible rfl))
            simp only [Act.put, List.getElem_toArray, List.getElem_cons_zero, List.getElem_cons_succ, List.setIfInBounds_toArray, List.set_cons_zero, List.set_cons_succ]
            refine held_q (v := ?_) (i := 4) rfl (by kernel_rfl) (by kernel_rfl) (by kernel_rfl) (fun _ _ _ h => h) (by rfl) hHeld ?_ ?_
            rotate_left
            · (intro w' hS'; go_simp <;> (with_reducible rfl))
            simp only [Act.put, List.getElem_toArray, List.getElem_cons_zero, List.getElem_cons_succ, List.setIfInBounds_toArray, List.set_cons_zero, List.set_cons_succ]
            refine held_q (v := ?_) (i := 5) rfl (by kernel_rfl) (by kernel_rfl) (by kernel_rfl) (fun _ _ _ h => h) (by rfl) hHeld ?_ ?_
            rotate_left
            · (intro w' hS'; go_simp <;> (with_reducible rfl))
            simp only [Act.put, List.getElem_toArray, List.getElem_cons_zero, List.getElem_cons_succ, List.setIfInBounds_toArray, List.set_cons_zero, List.set_cons_succ]
            refine held_q (v := ?_) (i := 6) rfl (by kernel_rfl) (by kernel_rfl) (by kernel_rfl) (fun _ _ _ h => h) (by rfl) hHeld ?_ ?_
            rotate_left
            · (intro w' hS'; go_simp <;> (with_reducible rfl))
            simp only [Act.put, List.getElem_toArray, List.getElem_cons_zero, List.getElem_cons_succ, List.setIfInBounds_toArray, List.set_cons_zero, List.set_cons_succ]
            refine held_q (v := ?_) (i := 7) rfl (by kernel_rfl) (by kernel_rfl) (by kernel_rfl) (fun _ _ _ h => h) (by rfl) hHeld ?_ ?_
            rotate_left
            · (intro w' hS'; go_simp <;> (with_reducible rfl))
            simp only [Act.put, List.getElem_toArray, List.getElem_cons_zero, List.getElem_cons_succ, List.setIfInBounds_toArray, List.set_cons_zero, List.set_cons_succ]
            refine wpAnyH_done (by kernel_rfl) ?_ _
            go_wp2_with fail
            go_roundw
            case rel => exact ⟨k + 1, psA, oA, true, by omega, by go_num, rfl, ⟨aA, cA, rfl⟩, ⟨row_kept HE2.out.1 hHeld, HE2.out.2⟩, by omega, KWA.trans hHeld⟩
            case measure => simp [intOf]; omega
          | false =>
            have npe : (g.path.toList != p.toList) = true := by rw [bne, hpe]; rfl
            have heq2 : oA ++ [g] ++ putGo ⟨p, b⟩ (l.drop (k + 1)) true = putL l ⟨p, b⟩ := by have := HA.out.2.2; unfold eqB at this; rw [hpe] at this; simpa using this
            have HE2 := Lib.hid heq2
            clear heq2
            have ldg := load_file (rangeAt_stay (k0.trans KWA).drew hbl not_false HRX.out)
            have kd : Kept (fun _ => False) W0 WA.drew := KWA.drew
            have hod := row_kept HA.out.1 (Kept.refl (fun _ => False) WA).drew
            have hpa := HA.out.2.1
            clear HA HAo
            go_wp2_with fail
            refine wp_region_held_drew (S := (Kept (fun _ => False) WA)) (by kernel_rfl) ((Kept.refl _ WA).drew) (fun hHeld => ?_)
            refine held_q (v := ?_) (i := 0) rfl (by kernel_rfl) (by kernel_rfl) (by kernel_rfl) (fun _ _ _ h => h) (by rfl) hHeld ?_ ?_
            rotate_left
            · (intro w' hS'; go_simp <;> (with_reducible rfl))
            simp only [Act.put, List.getElem_toArray, List.getElem_cons_zero, List.getElem_cons_succ, List.setIfInBounds_toArray, List.set_cons_zero, List.set_cons_succ]
            refine held_q (v := ?_) (i := 1) rfl (by kernel_rfl) (by kernel_rfl) (by kernel_rfl) (fun _ _ _ h => h) (by rfl) hHeld ?_ ?_
            rotate_left
            · (intro w' hS'; go_simp <;> (with_reducible rfl))
            simp only [Act.put, List.getElem_toArray, List.getElem_cons_zero, List.getElem_cons_succ, List.setIfInBounds_toArray, List.set_cons_zero, List.set_cons_succ]
            refine held_q (v := ?_) (i := 2) rfl (by kernel_rfl) (by kernel_rfl) (by kernel_rfl) (fun _ _ _ h => h) (by rfl) hHeld ?_ ?_
            rotate_left
            · (intro w' hS'; go_simp <;> (with_reducible rfl))
            simp only [Act.put, List.getElem_toArray, List.getElem_cons_zero, List.getElem_cons_succ, List.setIfInBounds_toArray, List.set_cons_zero, List.set_cons_succ]
            refine held_q (v := ?_) (i := 3) rfl (by kernel_rfl) (by kernel_rfl) (by kernel_rfl) (fun _ _ _ h => h) (by rfl) hHeld ?_ ?_
            rotate_left
            · (intro w' hS'; go_simp <;> (with_reducible rfl))
            simp only [Act.put, List.getElem_toArray, List.getElem_cons_zero, List.getElem_cons_succ, List.setIfInBounds_toArray, List.set_cons_zero, List.set_cons_succ]
            refine held_q (v := ?_) (i := 4) rfl (by kernel_rfl) (by kernel_rfl) (by kernel_rfl) (fun _ _ _ h => h) (by rfl) hHeld ?_ ?_
            rotate_left
            · (intro w' hS'; go_simp <;> (with_reducible rfl))
            simp only [Act.put, List.getElem_toArray, List.getElem_cons_zero, List.getElem_cons_succ, List.setIfInBounds_toArray, List.set_cons_zero, List.set_cons_succ]
            refine held_q (v := ?_) (i := 5) rfl (by kernel_rfl) (by kernel_rfl) (by kernel_rfl) (fun _ _ _ h => h) (by rfl) hHeld ?_ ?_
            rotate_left
            · (intro w' hS'; go_simp <;> (with_reducible rfl))
            simp only [Act.put, List.getElem_toArray, List.getElem_cons_zero, List.getElem_cons_succ, List.setIfInBounds_toArray, List.set_cons_zero, List.set_cons_succ]
            refine held_q (v := ?_) (i := 6) rfl (by kernel_rfl) (by kernel_rfl) (by kernel_rfl) (fun _ _ _ h => h) (by rfl) hHeld ?_ ?_
            rotate_left
            · (intro w' hS'; go_simp <;> (with_reducible rfl))
            simp only [Act.put, List.getElem_toArray, List.getElem_cons_zero, List.getElem_cons_succ, List.setIfInBounds_toArray, List.set_cons_zero, List.set_cons_succ]
            refine held_q (v := ?_) (i := 7) rfl (by kernel_rfl) (by kernel_rfl) (by kernel_rfl) (fun _ _ _ h => h) (by rfl) hHeld ?_ ?_
            rotate_left
            · (intro w' hS'; go_simp <;> (with_reducible rfl))
            simp only [Act.put, List.getElem_toArray, List.getElem_cons_zero, List.getElem_cons_succ, List.setIfInBounds_toArray, List.set_cons_zero, List.set_cons_succ]
            refine wpAnyH_done (by kernel_rfl) ?_ _
            generalize WA.drew = W5 at ldg kd hod hHeld ⊢
            have bs5 := bslice_f1 g.path ag g.bytes.length cg W5
            have hg6 := heap_last W5 (.cells #[.string g.path, .slice ag g.bytes.length cg] 46)
            have k6 : Kept (fun _ => False) W5 (W5.alloc (.cells #[.string g.path, .slice ag g.bytes.length cg] 46)) := (Kept.refl _ W5).alloc _
            generalize W5.alloc (.cells #[.string g.path, .slice ag g.bytes.length cg] 46) = W6 at bs5 hg6 k6
            obtain ⟨a7, c7, W7, ap7, ho7, k7⟩ := app_one (row_kept hod k6) hg6 rfl (by omega) (kd.trans k6) 27
            have hpa7 : PairsAt w (psA ++ [(g.path, .slice ag g.bytes.length cg)]) (oA ++ [g]) := hpa.snoc HG.out.1 HG.out.2
            have HF : Hid (W7.ownsRow W0.heap.size 46 2 (.slice a7 (psA.length + 1) c7) (psA.length + 1) (prs (psA ++ [(g.path, .slice ag g.bytes.length cg)])) ∧ PairsAt w (psA ++ [(g.path, .slice ag g.bytes.length cg)]) (oA ++ [g]) ∧ oA ++ [g] ++ putGo ⟨p, b⟩ (l.drop (k + 1)) true = putL l ⟨p, b⟩) := ⟨ho7, hpa7, HE2.out⟩
            clear ho7 hpa7 HE2 hpa hod hg6
            generalize W5.heap.size = B5 at bs5 ap7
            go_wp2_with (first
              | (with_reducible refine wpl_load 46 _ rfl rfl ?_ ldg ?_
                 · rfl
                 simp only [Act.put, List.getElem_toArray, List.getElem_cons_zero, List.getElem_cons_succ, List.setIfInBounds_toArray, List.set_cons_zero, List.set_cons_succ])
              | (with_reducible refine wpl_bslice 27 _ _ rfl rfl ?_ bs5 ?_
                 · (go_simp <;> rfl)
                 simp only [Act.put, List.getElem_toArray, List.getElem_cons_zero, List.getElem_cons_succ, List.setIfInBounds_toArray, List.set_cons_zero, List.set_cons_succ])
              | (refine wpl_val rfl (exec_append2 27 27 _ _ rfl rfl rfl ap7) ?_))
            go_roundw
            case rel => exact ⟨k + 1, psA ++ [(g.path, .slice ag g.bytes.length cg)], oA ++ [g], true, by omega, by go_num, rfl, ⟨a7, c7, by rw [List.length_append]; rfl⟩, by rw [List.length_append]; exact HF.out, by rw [List.length_append]; simp; omega, k7⟩
            case measure => simp [intOf]; omega
    · obtain rfl : k = l.length := by omega
      have hHR := HR.out
      rw [List.drop_length] at hHR
      obtain ⟨hoE, hpE, heE⟩ := hHR
      cases d with
      | true =>
        have heE : o = putL l ⟨p, b⟩ := by rw [← heE]; simp [putGo]
        have HT := Lib.hid (TreeAt.of_row hoE (hpE.kept (k0.trans hkr)))
        have HE3 := Lib.hid heE
        clear hoE hpE heE HR
        go_wp2_with fail
        go_ret
        exact ⟨_, rfl, by rw [← HE3.out]; exact HT.out, k0.trans hkr⟩
      | false =>
        have heE : o ++ [⟨p, b⟩] = putL l ⟨p, b⟩ := by rw [← heE]; simp [putGo]
        have ldf := load_row (P := Tryd.prog) (ty := 46) Tryd.underlying46 rfl ((hkr.block bx hbxl not_false).trans HBX0.out) (by kernel_rfl)
        have bs1 := bslice_f1 p ax b.length cx wr
        have hg2 := heap_last wr (.cells #[.string p, .slice ax b.length cx] 46)
        have k12 : Kept (fun _ => False) wr (wr.alloc (.cells #[.string p, .slice ax b.length cx] 46)) := (Kept.refl _ wr).alloc _
        generalize wr.alloc (.cells #[.string p, .slice ax b.length cx] 46) = W2 at bs1 hg2 k12
        obtain ⟨aA, cA, WA, ap3, ho3, k3⟩ := app_one (row_kept hoE k12) hg2 rfl (by omega) (hkr.trans k12) 27
        have HT := Lib.hid (TreeAt.of_row ho3 ((hpE.snoc (f := ⟨p, b⟩) hp hx).kept (k0.trans k3)))
        have HE3 := Lib.hid heE
        clear hoE hpE heE HR ho3 hg2
        generalize wr.heap.size = B1 at bs1 ap3
        go_wp2_with (first
          | (with_reducible refine wpl_load 46 _ rfl rfl ?_ ldf ?_
             · rfl
             simp only [Act.put, List.getElem_toArray, List.getElem_cons_zero, List.getElem_cons_succ, List.setIfInBounds_toArray, List.set_cons_zero, List.set_cons_succ])
          | (with_reducible refine wpl_bslice 27 _ _ rfl rfl ?_ bs1 ?_
             · (go_simp <;> rfl)
             simp only [Act.put, List.getElem_toArray, List.getElem_cons_zero, List.getElem_cons_succ, List.setIfInBounds_toArray, List.set_cons_zero, List.set_cons_succ])
          | (refine wpl_val rfl (exec_append2 27 27 _ _ rfl rfl rfl ap3) ?_))
        go_ret
        exact ⟨_, rfl, by rw [← HE3.out]; exact HT.out, k0.trans k3⟩

/- put, plain; the document's made, With, Under, Below. -/

theorem putGo_true (f : FileE) : ∀ l : List FileE, putGo f l true = l.filter fun g => !eqB g.path f.path
  | [] => rfl
  | g :: r => by
    rw [putGo]
    simp only [Bool.not_true, Bool.false_and, Bool.false_eq_true, if_false, List.nil_append, Bool.true_or]
    rw [putGo_true f r, List.filter_cons]
    cases eqB g.path f.path <;> rfl
theorem put_form {l : List FileE} (f : FileE) : putL l f = l.takeWhile (fun g => ltB g.path f.path) ++ f :: (l.dropWhile fun g => ltB g.path f.path).filter fun g => !eqB g.path f.path := by
  unfold putL
  induction l with
  | nil => rfl
  | cons g r ih =>
    rw [putGo, List.takeWhile_cons, List.dropWhile_cons]
    cases hl : ltB g.path f.path with
    | true =>
      have he : eqB g.path f.path = false := by
        rw [Bool.eq_false_iff]; intro h
        have := eqB_iff.1 h
        rw [this, ltB_irrefl] at hl; cases hl
      simp only [Bool.not_true, Bool.and_false, Bool.false_eq_true, if_false, List.nil_append, he, Bool.or_false, if_true]
      rw [ih]; rfl
    | false =>
      simp only [Bool.not_false, Bool.and_true, Bool.false_or, if_true, Bool.false_eq_true, if_false]
      rw [putGo_true, List.filter_cons]
      cases eqB g.path f.path <;> rfl
theorem strict_sub {l m : List FileE} (h : l.Pairwise ltF) (hs : m.Sublist l) : m.Pairwise ltF := List.Pairwise.sublist hs h
theorem drop_ge {s : ByteArray} : ∀ {l : List FileE}, l.Pairwise ltF → ∀ g ∈ l.dropWhile (fun g => ltB g.path s), ltB g.path s = false
  | [], _, g, hg => by simp at hg
  | f :: r, h, g, hg => by
    rw [List.dropWhile_cons] at hg
    cases hl : ltB f.path s with
    | true => rw [hl] at hg; exact drop_ge (List.pairwise_cons.1 h).2 g hg
    | false =>
      rw [hl] at hg
      simp at hg
      rcases hg with rfl | hg
      · exact hl
      · have := (List.pairwise_cons.1 h).1 g hg
        cases hh : ltB g.path s with
        | false => rfl
        | true => have := ltB_trans this hh; rw [hl] at this; cases this
theorem take_lt {s : ByteArray} {l : List FileE} : ∀ g ∈ l.takeWhile (fun g => ltB g.path s), ltB g.path s = true := fun g hg => by
  induction l with
  | nil => simp at hg
  | cons f r ih =>
    rw [List.takeWhile_cons] at hg
    split at hg
    · rename_i h
      rcases List.mem_cons.1 hg with rfl | q
      · exact h
      · exact ih q
    · simp at hg
theorem put_new {l : List FileE} {f : FileE} (h : l.Pairwise ltF) (hn : ∀ g ∈ l, g.path ≠ f.path) : (putL l f).Pairwise ltF ∧ (putL l f).Perm (f :: l) := by
  have hf : (l.dropWhile fun g => ltB g.path f.path).filter (fun g => !eqB g.path f.path) = l.dropWhile fun g => ltB g.path f.path := by
    rw [List.filter_eq_self]
    intro g hg
    have := hn g ((List.dropWhile_sublist _).subset hg)
    simp only [Bool.not_eq_true']
    rw [Bool.eq_false_iff]
    intro e; exact this (eqB_iff.1 e)
  rw [put_form, hf]
  constructor
  · rw [List.pairwise_append]
    refine ⟨strict_sub h (List.takeWhile_sublist _), List.pairwise_cons.2 ⟨fun g hg => ?_, strict_sub h (List.dropWhile_sublist _)⟩, fun a ha g hg => ?_⟩
    · have h1 := drop_ge h g hg
      cases h2 : ltB f.path g.path with
      | true => exact h2
      | false => exact absurd (ltB_tri h1 h2) (hn g ((List.dropWhile_sublist _).subset hg))
    · have h1 := take_lt a ha
      rcases List.mem_cons.1 hg with rfl | hg
      · exact h1
      · have h3 := drop_ge h g hg
        cases h2 : ltB f.path g.path with
        | true => exact ltB_trans h1 h2
        | false => exact absurd (ltB_tri h3 h2) (hn g ((List.dropWhile_sublist _).subset hg))
  · refine List.perm_middle.trans ?_
    rw [List.takeWhile_append_dropWhile]
theorem drop_pos (s : ByteArray) : ∀ l : List FileE, l.dropWhile (fun g => ltB g.path s) = l.drop (posL l s)
  | [] => rfl
  | f :: r => by
    have ih := drop_pos s r
    unfold posL at *
    rw [List.dropWhile_cons, List.takeWhile_cons]
    cases ltB f.path s with
    | true => simpa using ih
    | false => rfl
theorem take_pos (s : ByteArray) : ∀ l : List FileE, l.takeWhile (fun g => ltB g.path s) = l.take (posL l s)
  | [] => rfl
  | f :: r => by
    have ih := take_pos s r
    unfold posL at *
    rw [List.takeWhile_cons]
    cases ltB f.path s with
    | true => simpa using ih
    | false => rfl
theorem put_with {l : List FileE} (h : l.Pairwise ltF) (s : ByteArray) (b : List UInt8) : putL l ⟨s, b⟩ = withL l s b := by
  rw [put_form]
  show l.takeWhile (fun g => ltB g.path s) ++ ⟨s, b⟩ :: (l.dropWhile fun g => ltB g.path s).filter (fun g => !eqB g.path s) = _
  rw [drop_pos, take_pos]
  have hple := pos_le l s
  unfold withL
  cases ht : thereB l s with
  | true =>
    obtain ⟨f, hf, hfs⟩ := pos_there ht
    obtain ⟨hlt, hfe⟩ := List.getElem?_eq_some_iff.1 hf
    rw [if_pos rfl, List.set_eq_take_append_cons_drop, if_pos hlt, List.drop_eq_getElem_cons hlt, hfe, List.filter_cons]
    have e1 : eqB f.path s = true := eqB_iff.2 hfs
    rw [e1]
    simp only [Bool.not_true, Bool.false_eq_true, if_false]
    congr 2
    rw [List.filter_eq_self]
    intro g hg
    have h2 : (l.drop (posL l s)).Pairwise ltF := strict_sub h (List.drop_sublist _ _)
    rw [List.drop_eq_getElem_cons hlt, hfe] at h2
    have h3 := (List.pairwise_cons.1 h2).1 g hg
    simp only [Bool.not_eq_true']
    rw [Bool.eq_false_iff]
    intro e
    have := eqB_iff.1 e
    unfold ltF at h3
    rw [this, hfs, ltB_irrefl] at h3; cases h3
  | false =>
    rw [if_neg (by simp)]
    congr 2
    rw [List.filter_eq_self]
    intro g hg
    simp only [Bool.not_eq_true']
    rw [Bool.eq_false_iff]
    intro e
    have e := eqB_iff.1 e
    cases hd : l.drop (posL l s) with
    | nil => rw [hd] at hg; simp at hg
    | cons f r =>
      have hlt : posL l s < l.length := by
        have := congrArg List.length hd
        rw [List.length_drop, List.length_cons] at this; omega
      rw [List.drop_eq_getElem_cons hlt] at hd
      injection hd with hd1 hd2
      have hne : eqB f.path s = false := by
        unfold thereB at ht
        rw [List.getElem?_eq_getElem hlt, hd1] at ht; exact ht
      rw [List.drop_eq_getElem_cons hlt, hd1] at hg
      rcases List.mem_cons.1 hg with q | q
      · rw [q] at e; rw [eqB_iff.2 e] at hne; cases hne
      · have h2 : (l.drop (posL l s)).Pairwise ltF := strict_sub h (List.drop_sublist _ _)
        rw [List.drop_eq_getElem_cons hlt, hd1] at h2
        have h3 := (List.pairwise_cons.1 h2).1 g q
        have h4 := drop_ge (s := s) h f (by rw [drop_pos, List.drop_eq_getElem_cons hlt, hd1]; simp)
        unfold ltF at h3
        rw [e, h4] at h3; cases h3

/- The document's made, With, Under. -/

set_option maxHeartbeats 1000000 in
theorem rMade_ct {w : World} {v : Value} {l : List FileE} (h : TreeAt w v l) :
    Calls Tryd.prog 57 #[v] w fun e w' => ((mayB l = true ∧ e = .returned (.tuple #[v, .int .i64 0])) ∨ (mayB l = false ∧ e = .returned (.tuple #[.slice none 0 0, .int .i64 8]))) ∧ Kept (fun _ => False) w w' := by
  have mc := rMay_ct h
  obtain ⟨a, c, hv⟩ := h.slc
  subst hv
  generalize mayB l = m at mc
  cases m with
  | true =>
    go_enter Tryd.func57, Tryd.ntmps57
    go_wp2_with fail
    refine (mc).mono ?_
    rintro e W ⟨rfl, k1⟩
    go_wp2_with fail
    go_ret2
    exact ⟨.inl ⟨by trivial, rfl⟩, k1⟩
  | false =>
    go_enter Tryd.func57, Tryd.ntmps57
    go_wp2_with fail
    refine (mc).mono ?_
    rintro e W ⟨rfl, k1⟩
    go_wp2_with fail
    go_ret2
    exact ⟨.inr ⟨by trivial, rfl⟩, k1⟩
def withC (l : List FileE) (s : ByteArray) (b : List UInt8) : Nat := if (mayB l && pathB s) = false then 2 else if mayB (withL l s b) = false then 8 else 0
/-- A tree, or the error c. -/
def TreeOut (c : Nat) (l : List FileE) (w : World) (e : Ending) : Prop :=
  (c ≠ 0 ∧ e = .returned (.tuple #[.slice none 0 0, .int .i64 c])) ∨ (c = 0 ∧ ∃ v', e = .returned (.tuple #[v', .int .i64 0]) ∧ TreeAt w v' l)
def TreeOutS (base c : Nat) (l : List FileE) (w : World) (e : Ending) : Prop :=
  (c ≠ 0 ∧ e = .returned (.tuple #[.slice none 0 0, .int .i64 c])) ∨ (c = 0 ∧ ∃ v', e = .returned (.tuple #[v', .int .i64 0]) ∧ TreeAt w v' l ∧ OwnT base w v' l.length)
theorem app_one2 {w w0 : World} {v : Value} {ps : List (ByteArray × Value)} (ho : w.ownsRow w0.heap.size 46 2 v ps.length (prs ps)) {gb : Nat} {p : ByteArray} {x : Value} {fr : Nat × Nat} (hg : w.heap[gb]? = some (.cells #[.string p, x] 46 fr)) (h1 : x.oneCell' = true) (hn : ps.length ≤ 100000) (hk : Kept (fun _ => False) w0 w) (ty : TypeId) :
    ∃ a' c' w', (Builtin.append_ #[27, 27] ty #[v, .slice (some ⟨gb, 0, none⟩) 1 1]).run Tryd.prog w = .ok (.slice a' (ps.length + 1) c') w' ∧ w'.ownsRow w0.heap.size 46 2 (.slice a' (ps.length + 1) c') (ps.length + 1) (prs (ps ++ [(p, x)])) ∧ Kept (fun _ => False) w0 w' ∧ Kept (fun k => w0.heap.size ≤ k) w w' := by
  obtain ⟨v', w', ap, ho', hg'⟩ := app_files ho (ad := ⟨gb, 0, none⟩) (m := 1) (c := 1) (news := [.string p, x]) rfl (fun j u hu => by
    rw [Addr.add_mid, Nat.zero_add, cell_of_row _ _ _ _ _ _ hg]; simpa using hu) (fun u hu => by simp at hu; rcases hu with rfl | rfl; rfl; exact h1) (by omega) hk.size 27 ty Tryd.underlying27
  obtain ⟨a', c', hv⟩ := row_form ho'
  subst hv
  have k1 := grown_kept hk hg' (fun k e => (World.ownsRow.lt ho k e).1)
  exact ⟨a', c', w', ap, by rw [prs_app2]; exact ho', k1, ⟨hg'.os, hg'.tape, hg'.output, hg'.size, fun b hb hs => by rw [k1.block b (Nat.lt_of_not_le hs) not_false, hk.block b (Nat.lt_of_not_le hs) not_false]⟩⟩
set_option maxRecDepth 100000 in
set_option maxHeartbeats 4000000 in
theorem rUnder_ct {w : World} {v : Value} {l : List FileE} (h : TreeAt w v l) (d : ByteArray) (hd : d.size ≤ maxLen) :
    Calls Tryd.prog 30 #[v, .string d] w fun e w' => TreeOut (underC l d) (l.map (upF d)) w' e ∧ Kept (fun _ => False) w w' := by
  have mc := rMay_ct h
  have ip := fun w' => rIsPath_ct d w' hd
  obtain ⟨a, c, hv⟩ := h.slc
  subst hv
  cases hm : mayB l with
  | false =>
    have hc : underC l d = 2 := by unfold underC; rw [hm]; simp
    rw [hm] at mc
    rw [hc]
    clear hc hm
    go_enter Tryd.func30, Tryd.ntmps30
    go_wp2_with fail
    refine (mc).mono ?_
    rintro e W ⟨rfl, k1⟩
    go_wp2_with fail
    go_ret2
    exact ⟨.inl ⟨by omega, rfl⟩, k1⟩
  | true =>
    rw [hm] at mc
    cases hp : pathB d with
    | false =>
      have hc : underC l d = 2 := by unfold underC; rw [hp]; simp
      rw [hp] at ip
      rw [hc]
      clear hc hm hp
      go_enter Tryd.func30, Tryd.ntmps30
      go_wp2_with fail
      refine (mc).mono ?_
      rintro e W ⟨rfl, k1⟩
      go_wp2_with fail
      refine (ip _).mono ?_
      rintro e W2 ⟨rfl, hW2⟩
      subst hW2
      go_wp2_with fail
      go_ret2
      exact ⟨.inl ⟨by omega, rfl⟩, k1⟩
    | true =>
      have hi := mayIs hm
      have hl16 := hi.len
      have hds := pathB_size hp
      have hc : underC l d = if mayB (l.map (upF d)) = false then 8 else 0 := by unfold underC; rw [hm, hp]; simp
      rw [hp] at ip
      obtain ⟨cz, hcz⟩ : ∃ cz, cz = (if mayB (l.map (upF d)) = false then 8 else 0) := ⟨_, rfl⟩
      rw [hc, ← hcz]
      have HCZ := Lib.hid hcz
      clear hc hm hp hcz
      go_enter Tryd.func30, Tryd.ntmps30
      go_wp2_with fail
      refine (mc).mono ?_
      rintro e W ⟨rfl, k1⟩
      go_wp2_with fail
      refine (ip _).mono ?_
      rintro e W2 ⟨rfl, hW2⟩
      subst hW2
      clear mc ip
      go_wp2_with fail
      go_loopw [6, 7] (fun so si wr => ∃ (k : Nat) (ps : List (ByteArray × Value)), k ≤ l.length ∧ si = .int .i64 k ∧ (∃ aa cc, so = .slice aa ps.length cc) ∧ Hid (wr.ownsRow w.heap.size 46 2 so ps.length (prs ps) ∧ PairsAt w ps ((l.take k).map (upF d))) ∧ Kept (fun _ => False) w wr) (fun _ si _ => l.length - (intOf si).toNat)
      case atStart => exact ⟨0, [], by omega, rfl, ⟨none, 0, rfl⟩, ⟨World.ownsRow_nil _ _ _ _, ⟨rfl, fun j f hf => by simp at hf⟩⟩, k1⟩
      case round =>
        obtain ⟨k, ps, hk, rfl, ⟨aa, cc, rfl⟩, HR, hkr⟩ := hrel
        have hpl : ps.length = k := by have := HR.out.2.1; rw [List.length_map, List.length_take] at this; omega
        by_cases hlt : k < l.length
        · have hga := List.getElem?_eq_getElem hlt
          have htk : l.take (k + 1) = l.take k ++ [l[k]] := List.take_succ_eq_append_getElem hlt
          have hff := (hi.file l[k] (List.getElem_mem hlt)).2.1
          generalize l[k] = f at hga htk hff
          obtain ⟨hgs, b1, o1, y, rfl, hbl, hrx, hBg⟩ := h.file hga
          obtain ⟨ag, cg, rfl⟩ := hBg.slc
          have q0 : ∀ w', Kept (fun k => w.heap.size ≤ k) wr w' → w'.cell? ⟨b1, o1 + k * 2, none⟩ = some (.string f.path) := fun w' q => (q.cell (p := ⟨b1, o1 + k * 2, none⟩) (Nat.lt_of_lt_of_le hbl hkr.size) (Nat.not_le.2 hbl)).trans ((hkr.cell (p := ⟨b1, o1 + k * 2, none⟩) hbl not_false).trans (hrx 0 _ rfl))
          have q1 : ∀ w', Kept (fun k => w.heap.size ≤ k) wr w' → w'.cell? ⟨b1, o1 + k * 2 + 1, none⟩ = some (.slice ag f.bytes.length cg) := fun w' q => (q.cell (p := ⟨b1, o1 + k * 2 + 1, none⟩) (Nat.lt_of_lt_of_le hbl hkr.size) (Nat.not_le.2 hbl)).trans ((hkr.cell (p := ⟨b1, o1 + k * 2 + 1, none⟩) hbl not_false).trans (hrx 1 _ rfl))
          have hss := slashed_size d f.path
          have z1 : ¬ 9223372036854775807 < d.size + 1 := by omega
          have z2 : ¬ 9223372036854775807 < d.size + 1 + f.path.size := by omega
          have bf := build_f (d ++ ⟨#[47]⟩ ++ f.path) ag f.bytes.length cg
          have bs1 := bslice_f1 (d ++ ⟨#[47]⟩ ++ f.path) ag f.bytes.length cg wr.drew
          have hg2 := heap_last wr.drew (.cells #[.string (d ++ ⟨#[47]⟩ ++ f.path), .slice ag f.bytes.length cg] 46)
          have k12 : Kept (fun _ => False) wr (wr.drew.alloc (.cells #[.string (d ++ ⟨#[47]⟩ ++ f.path), .slice ag f.bytes.length cg] 46)) := (Kept.refl _ wr).drew.alloc _
          have ks1 : Kept (fun k => w.heap.size ≤ k) wr (wr.drew.alloc (.cells #[.string (d ++ ⟨#[47]⟩ ++ f.path), .slice ag f.bytes.length cg] 46)) := (Kept.refl _ wr).drew.alloc _
          generalize wr.drew.alloc (.cells #[.string (d ++ ⟨#[47]⟩ ++ f.path), .slice ag f.bytes.length cg] 46) = W2' at bs1 hg2 k12 ks1
          obtain ⟨aA, cA, WA, ap3, ho3, k3, ks23⟩ := app_one2 (row_kept HR.out.1 k12) hg2 rfl (by omega) (hkr.trans k12) 27
          have ks3 := ks1.trans ks23
          have HN : Hid (WA.ownsRow w.heap.size 46 2 (.slice aA (ps.length + 1) cA) (ps.length + 1) (prs (ps ++ [(slashed d f.path, .slice ag f.bytes.length cg)])) ∧ PairsAt w (ps ++ [(slashed d f.path, .slice ag f.bytes.length cg)]) ((l.take (k + 1)).map (upF d))) := by
            refine ⟨ho3, ?_⟩
            rw [htk, List.map_append]
            exact HR.out.2.snoc (f := upF d f) (by show (slashed d f.path).size ≤ _; simp only [maxLen]; omega) hBg
          clear hrx hBg hga htk HR ho3 hg2 hss
          have HPL := Lib.hid hpl
          clear hpl
          have hdz : wr.drew.heap.size = wr.heap.size := rfl
          rw [hdz] at bs1 ap3
          clear hdz
          generalize wr.heap.size = B1 at bs1 ap3
          go_wp2_with fail
          refine wp_region_held_drew (S := (Kept (fun k => w.heap.size ≤ k) wr)) (by kernel_rfl) ((Kept.refl _ wr).drew) (fun hHeld => ?_)
          refine held_q (v := ?_) (i := 0) rfl (by kernel_rfl) (by kernel_rfl) (by kernel_rfl) (fun _ _ _ h => h) (by rfl) hHeld ?_ ?_
          rotate_left
          · (intro w' hS'; go_simp <;> (with_reducible rfl))
          simp only [Act.put, List.getElem_toArray, List.getElem_cons_zero, List.getElem_cons_succ, List.setIfInBounds_toArray, List.set_cons_zero, List.set_cons_succ]
          refine held_q (v := ?_) (i := 1) rfl (by kernel_rfl) (by kernel_rfl) (by kernel_rfl) (fun _ _ _ h => h) (by rfl) hHeld ?_ ?_
          rotate_left
          · (intro w' hS'; go_simp <;> (with_reducible rfl))
          simp only [Act.put, List.getElem_toArray, List.getElem_cons_zero, List.getElem_cons_succ, List.setIfInBounds_toArray, List.set_cons_zero, List.set_cons_succ]
          refine held_q (v := ?_) (i := 2) rfl (by kernel_rfl) (by kernel_rfl) (by kernel_rfl) (fun _ _ _ h => h) (by rfl) hHeld ?_ ?_
          rotate_left
          · (intro w' hS'; go_simp <;> (with_reducible rfl))
          simp only [Act.put, List.getElem_toArray, List.getElem_cons_zero, List.getElem_cons_succ, List.setIfInBounds_toArray, List.set_cons_zero, List.set_cons_succ]
          refine held_q (v := ?_) (i := 3) rfl (by kernel_rfl) (by kernel_rfl) (by kernel_rfl) (fun _ _ _ h => h) (by rfl) hHeld ?_ ?_
          rotate_left
          · (intro w' hS'; go_simp <;> (with_reducible rfl))
          simp only [Act.put, List.getElem_toArray, List.getElem_cons_zero, List.getElem_cons_succ, List.setIfInBounds_toArray, List.set_cons_zero, List.set_cons_succ]
          refine held_q (v := ?_) (i := 4) rfl (by kernel_rfl) (by kernel_rfl) (by kernel_rfl) (fun _ _ _ h => h) (by rfl) hHeld ?_ ?_
          rotate_left
          · (intro w' hS'; go_simp <;> (with_reducible rfl))
          simp only [Act.put, List.getElem_toArray, List.getElem_cons_zero, List.getElem_cons_succ, List.setIfInBounds_toArray, List.set_cons_zero, List.set_cons_succ]
          refine held_q (v := ?_) (i := 5) rfl (by kernel_rfl) (by kernel_rfl) (by kernel_rfl) (fun _ _ _ h => h) (by rfl) hHeld ?_ ?_
          rotate_left
          · (intro w' hS'; go_simp <;> (with_reducible rfl))
          simp only [Act.put, List.getElem_toArray, List.getElem_cons_zero, List.getElem_cons_succ, List.setIfInBounds_toArray, List.set_cons_zero, List.set_cons_succ]
          refine held_q (v := ?_) (i := 6) rfl (by kernel_rfl) (by kernel_rfl) (by kernel_rfl) (fun _ _ _ h => h) (by rfl) hHeld ?_ ?_
          rotate_left
          · (intro w' hS'; go_simp <;> (with_reducible rfl))
          simp only [Act.put, List.getElem_toArray, List.getElem_cons_zero, List.getElem_cons_succ, List.setIfInBounds_toArray, List.set_cons_zero, List.set_cons_succ]
          refine held_q (v := ?_) (i := 7) rfl (by kernel_rfl) (by kernel_rfl) (by kernel_rfl) (fun _ _ _ h => h) (by rfl) hHeld ?_ ?_
          rotate_left
          · (intro w' hS'; go_simp <;> (with_reducible rfl))
          simp only [Act.put, List.getElem_toArray, List.getElem_cons_zero, List.getElem_cons_succ, List.setIfInBounds_toArray, List.set_cons_zero, List.set_cons_succ]
          refine held_q (v := ?_) (i := 8) rfl (by kernel_rfl) (by kernel_rfl) (by kernel_rfl) (fun _ _ _ h => h) (by rfl) hHeld ?_ ?_
          rotate_left
          · (intro w' hS'; go_simp <;> (with_reducible rfl))
          simp only [Act.put, List.getElem_toArray, List.getElem_cons_zero, List.getElem_cons_succ, List.setIfInBounds_toArray, List.set_cons_zero, List.set_cons_succ]
          refine held_q (v := ?_) (i := 9) rfl (by kernel_rfl) (by kernel_rfl) (by kernel_rfl) (fun _ _ _ h => h) (by rfl) hHeld ?_ ?_
          rotate_left
          · (intro w' hS'; go_simp <;> (with_reducible rfl))
          simp only [Act.put, List.getElem_toArray, List.getElem_cons_zero, List.getElem_cons_succ, List.setIfInBounds_toArray, List.set_cons_zero, List.set_cons_succ]
          refine held_q (v := ?_) (i := 10) rfl (by kernel_rfl) (by kernel_rfl) (by kernel_rfl) (fun _ _ _ h => h) (by rfl) hHeld ?_ ?_
          rotate_left
          · (intro w' hS'; go_simp <;> (with_reducible rfl))
          simp only [Act.put, List.getElem_toArray, List.getElem_cons_zero, List.getElem_cons_succ, List.setIfInBounds_toArray, List.set_cons_zero, List.set_cons_succ]
          refine held_q (v := ?_) (i := 11) rfl (by kernel_rfl) (by kernel_rfl) (by kernel_rfl) (fun _ _ _ h => h) (by rfl) hHeld ?_ ?_
          rotate_left
          · (intro w' hS'; go_simp <;> (with_reducible rfl))
          simp only [Act.put, List.getElem_toArray, List.getElem_cons_zero, List.getElem_cons_succ, List.setIfInBounds_toArray, List.set_cons_zero, List.set_cons_succ]
          refine held_q (v := ?_) (i := 12) rfl (by kernel_rfl) (by kernel_rfl) (by kernel_rfl) (fun _ _ _ h => h) (by rfl) hHeld ?_ ?_
          rotate_left
          · (intro w' hS'; go_simp <;> (with_reducible rfl))
          simp only [Act.put, List.getElem_toArray, List.getElem_cons_zero, List.getElem_cons_succ, List.setIfInBounds_toArray, List.set_cons_zero, List.set_cons_succ]
          refine held_q (v := ?_) (i := 13) rfl (by kernel_rfl) (by kernel_rfl) (by kernel_rfl) (fun _ _ _ h => h) (by rfl) hHeld ?_ ?_
          rotate_left
          · (intro w' hS'; go_simp <;> (with_reducible rfl))
          simp only [Act.put, List.getElem_toArray, List.getElem_cons_zero, List.getElem_cons_succ, List.setIfInBounds_toArray, List.set_cons_zero, List.set_cons_succ]
          refine held_q (i := 14) rfl (by kernel_rfl) (by kernel_rfl) (by kernel_rfl) (fun _ _ _ h => h) (by rfl) hHeld (fun w' hS' => exec_build 46 _ rfl (by go_simp <;> rfl) (bf w')) ?_
          simp only [Act.put, List.getElem_toArray, List.getElem_cons_zero, List.getElem_cons_succ, List.setIfInBounds_toArray, List.set_cons_zero, List.set_cons_succ]
          refine held_v (i := 15) (by kernel_rfl) rfl (by rfl) (exec_buildSlice 27 1 _ rfl (by go_simp <;> rfl) bs1) (ks1) (fun hHeld => ?_)
          simp only [Act.put, List.getElem_toArray, List.getElem_cons_zero, List.getElem_cons_succ, List.setIfInBounds_toArray, List.set_cons_zero, List.set_cons_succ]
          refine held_v (i := 16) (by kernel_rfl) rfl (by rfl) (exec_append2 27 27 _ _ rfl rfl rfl ap3) (ks3) (fun hHeld => ?_)
          simp only [Act.put, List.getElem_toArray, List.getElem_cons_zero, List.getElem_cons_succ, List.setIfInBounds_toArray, List.set_cons_zero, List.set_cons_succ]
          refine held_q (v := ?_) (i := 17) rfl (by kernel_rfl) (by kernel_rfl) (by kernel_rfl) (fun _ _ _ h => h) (by rfl) hHeld ?_ ?_
          rotate_left
          · (intro w' hS'; go_simp <;> (with_reducible rfl))
          simp only [Act.put, List.getElem_toArray, List.getElem_cons_zero, List.getElem_cons_succ, List.setIfInBounds_toArray, List.set_cons_zero, List.set_cons_succ]
          refine wpAnyH_done (by kernel_rfl) ?_ _
          go_wp2_with fail
          go_roundw
          case rel => exact ⟨k + 1, ps ++ [(slashed d f.path, .slice ag f.bytes.length cg)], by omega, by go_num, ⟨aA, cA, by rw [List.length_append]; rfl⟩, by rw [List.length_append]; exact HN.out, k3⟩
          case measure => simp [intOf]; omega
        · obtain rfl : k = l.length := by omega
          have hHR := HR.out
          rw [List.take_length] at hHR
          have ht := TreeAt.of_row hHR.1 (hHR.2.kept hkr)
          have md := rMade_ct ht
          have HPL := Lib.hid hpl
          clear hpl
          have HT := Lib.hid ht
          clear hHR HR ht
          go_wp2_with fail
          refine md.mono ?_
          rintro e W4 ⟨hr, k4⟩
          rcases hr with ⟨hm, rfl⟩ | ⟨hm, rfl⟩
          · go_wp2_with fail
            go_ret2
            exact ⟨.inr ⟨by rw [HCZ.out, hm]; rfl, _, rfl, HT.out.kept k4⟩, hkr.trans k4⟩
          · go_wp2_with fail
            go_ret2
            exact ⟨.inl ⟨by rw [HCZ.out, hm]; simp, by rw [HCZ.out, hm]; rfl⟩, hkr.trans k4⟩

/- The document's Join. -/

theorem joinC_dup {l m : List FileE} (h1 : mayB l = true) (h2 : mayB m = true) {f g : FileE} (hf : f ∈ l) (hg : g ∈ m) (he : f.path = g.path) : joinC l m = 7 := by
  unfold joinC
  rw [if_neg (by rw [h1, h2]; simp)]
  have hd : dupTo (joinO l m) (joinO l m).length = true := by
    cases hd : dupTo (joinO l m) (joinO l m).length with
    | true => rfl
    | false =>
      have hs := strict_of (joinO_sorted l m) hd
      have hn := nodup_of hs
      have hn2 := ((joinO_perm l m).map FileE.path).nodup_iff.1 hn
      rw [List.map_append] at hn2
      have := (List.nodup_append.1 hn2).2.2 f.path (List.mem_map_of_mem hf) g.path (List.mem_map_of_mem hg)
      exact absurd he this
  rw [if_pos hd]
theorem joinC_new {l m o : List FileE} (h1 : mayB l = true) (h2 : mayB m = true) (ho : o.Pairwise ltF) (hp : o.Perm (l ++ m)) : joinO l m = o ∧ joinC l m = if mayB o = false then 8 else 0 := by
  obtain ⟨hd, he⟩ := sorted_eq ho (joinO_sorted l m) ((joinO_perm l m).trans hp.symm)
  refine ⟨he, ?_⟩
  unfold joinC
  rw [if_neg (by rw [h1, h2]; simp), if_neg (by rw [hd]; simp), he]
set_option maxRecDepth 100000 in
set_option maxHeartbeats 4000000 in
theorem rJoin_ct {w : World} {va vb : Value} {la lb : List FileE} (ha : TreeAt w va la) (hb : TreeAt w vb lb) :
    Calls Tryd.prog 31 #[va, vb] w fun e w' => TreeOut (joinC la lb) (joinO la lb) w' e ∧ Kept (fun _ => False) w w' := by
  have mc := rMay_ct ha
  have md := fun w' (k : Kept (fun _ => False) w w') => rMay_ct (hb.kept k)
  obtain ⟨a, c, hv⟩ := ha.slc
  subst hv
  obtain ⟨a2, c2, hv2⟩ := hb.slc
  subst hv2
  cases hm : mayB la with
  | false =>
    have hc : joinC la lb = 2 := by unfold joinC; rw [hm]; simp
    rw [hm] at mc
    rw [hc]
    clear hc hm
    go_enter Tryd.func31, Tryd.ntmps31
    go_wp2_with fail
    refine (mc).mono ?_
    rintro e W ⟨rfl, k1⟩
    go_wp2_with fail
    go_ret2
    exact ⟨.inl ⟨by omega, rfl⟩, k1⟩
  | true =>
    rw [hm] at mc
    cases hm2 : mayB lb with
    | false =>
      have hc : joinC la lb = 2 := by unfold joinC; rw [hm2]; simp
      rw [hm2] at md
      rw [hc]
      clear hc hm hm2
      go_enter Tryd.func31, Tryd.ntmps31
      go_wp2_with fail
      refine (mc).mono ?_
      rintro e W ⟨rfl, k1⟩
      go_wp2_with fail
      refine (md _ k1).mono ?_
      rintro e W2 ⟨rfl, k2⟩
      go_wp2_with fail
      go_ret2
      exact ⟨.inl ⟨by omega, rfl⟩, k1.trans k2⟩
    | true =>
      rw [hm2] at md
      have hla := (mayIs hm).len
      have hlb := (mayIs hm2).len
      have HM := Lib.hid (And.intro hm hm2)
      obtain ⟨cz, hcz⟩ : ∃ cz, cz = joinC la lb := ⟨_, rfl⟩
      obtain ⟨oz, hoz⟩ : ∃ oz, oz = joinO la lb := ⟨_, rfl⟩
      rw [← hcz, ← hoz]
      have HCZ := Lib.hid (And.intro hcz hoz)
      clear hm hm2 hcz hoz
      go_enter Tryd.func31, Tryd.ntmps31
      go_wp2_with fail
      refine (mc).mono ?_
      rintro e W ⟨rfl, k1⟩
      go_wp2_with fail
      refine (md _ k1).mono ?_
      rintro e W2 ⟨rfl, k2⟩
      have k12 := k1.trans k2
      clear mc md k1 k2
      have bs := bslice_f0 W2
      have k3 : Kept (fun _ => False) w (W2.alloc (.cells #[] 46)) := k12.alloc _
      have ho : (W2.alloc (.cells #[] 46)).ownsRow W2.heap.size 46 2 (.slice (some ⟨W2.heap.size, 0, none⟩) 0 0) 0 (prs []) := World.ownsRow_made W2 #[] 0 (Nat.le_refl _) (Nat.zero_le _) rfl
      have hz3 : W2.heap.size ≤ (W2.alloc (.cells #[] 46)).heap.size := by simp
      generalize W2.alloc (.cells #[] 46) = W3 at bs k3 ho hz3
      obtain ⟨v4, W4, qs, ap, ho4, hpa, gr⟩ := app_tree2 ho ha k3 (by omega) hz3 27
      have k4 : Kept (fun _ => False) w W4 := grown_kept k3 gr (fun k e => by have := (World.ownsRow.lt ho k e).1; exact Nat.le_trans k12.size this)
      rw [Nat.zero_add, List.nil_append] at ho4
      have ht4 : TreeAt W4 v4 la := TreeAt.of_row ho4 (hpa.kept k4)
      obtain ⟨a4, c4, hv4⟩ := ht4.slc
      subst hv4
      clear ho ho4 hpa gr k3
      generalize W2.heap.size = B2 at bs ap
      go_wp2_with (first
        | (with_reducible refine wpl_bslice 27 _ _ rfl rfl ?_ bs ?_
           · (go_simp <;> rfl)
           simp only [Act.put, List.getElem_toArray, List.getElem_cons_zero, List.getElem_cons_succ, List.setIfInBounds_toArray, List.set_cons_zero, List.set_cons_succ])
        | (refine wpl_val rfl (exec_append2 27 27 _ _ rfl rfl rfl ap) ?_))
      clear bs ap
      go_loopw [7] (fun si wr => ∃ k : Nat, k ≤ lb.length ∧ si = .int .i64 k ∧ Hid (∀ g ∈ lb.take k, ∀ f ∈ la, f.path ≠ g.path) ∧ Kept (fun _ => False) W4 wr) (fun si _ => lb.length - (intOf si).toNat)
      case atStart => exact ⟨0, by omega, rfl, (fun g hg => by simp at hg : ∀ g ∈ lb.take 0, ∀ f ∈ la, f.path ≠ g.path), Kept.refl _ _⟩
      case round =>
        obtain ⟨k, hk, rfl, HN, hkr⟩ := hrel
        by_cases hlt : k < lb.length
        · have hga := List.getElem?_eq_getElem hlt
          have htk : lb.take (k + 1) = lb.take k ++ [lb[k]] := List.take_succ_eq_append_getElem hlt
          generalize lb[k] = g at hga htk
          obtain ⟨hgs, b1, o1, y, rfl, hbl, hrx, hBg⟩ := hb.file hga
          have q0 : wr.cell? ⟨b1, o1 + k * 2, none⟩ = some (.string g.path) := ((k4.trans hkr).cell (p := ⟨b1, o1 + k * 2, none⟩) hbl not_false).trans (hrx 0 _ rfl)
          have HG := Lib.hid (And.intro hga htk)
          clear hrx hBg hga htk
          go_wp2_with fail
          refine (rFind_ct (ha.kept (k4.trans hkr)) g.path).mono ?_
          rintro e W5 ⟨z, rfl, hz, k5⟩
          rcases hz with ⟨i, f, rfl, hf, hfg⟩ | ⟨rfl, hz⟩
          · have hc7 := joinC_dup HM.out.1 HM.out.2 (List.mem_of_getElem? hf) (List.mem_of_getElem? HG.out.1) hfg
            have HC7 := Lib.hid (HCZ.out.1.trans hc7)
            have d1 : decide ((0 : Int) ≤ (i : Int)) = true := decide_eq_true (by omega)
            clear hf hfg hc7
            go_wp2_with fail
            go_ret2
            exact ⟨.inl ⟨by rw [HC7.out]; omega, by rw [HC7.out]; rfl⟩, (k4.trans hkr).trans k5⟩
          · have HN2 : Hid (∀ x ∈ lb.take (k + 1), ∀ f ∈ la, f.path ≠ x.path) := by
              intro x hx f hf
              rw [HG.out.2] at hx
              rcases List.mem_append.1 hx with q | q
              · exact HN.out x q f hf
              · simp at q; subst q; exact hz f hf
            clear hz
            go_wp2_with fail
            go_roundw
            case rel => exact ⟨k + 1, by omega, by go_num, HN2, hkr.trans k5⟩
            case measure => simp [intOf]; omega
        · obtain rfl : k = lb.length := by omega
          have HNN : Hid (∀ g ∈ lb, ∀ f ∈ la, f.path ≠ g.path) := by have := HN.out; rw [List.take_length] at this; exact this
          clear HN
          have k5 := k4.trans hkr
          have ht5 := ht4.kept hkr
          generalize wr = W5 at k5 ht5 ⊢
          clear ht4 hkr
          go_wp2_with fail
          go_loopw [6, 8] (fun so si wr => ∃ (k : Nat) (o : List FileE), k ≤ lb.length ∧ si = .int .i64 k ∧ (∃ aa cc, so = .slice aa o.length cc) ∧ o.length ≤ 16 + k ∧ Hid (TreeAt wr so o ∧ o.Pairwise ltF ∧ o.Perm (la ++ lb.take k)) ∧ Kept (fun _ => False) W5 wr) (fun _ si _ => lb.length - (intOf si).toNat)
          case atStart => exact ⟨0, la, by omega, rfl, ⟨_, _, rfl⟩, by omega, ⟨ht5, (mayB_iff.1 HM.out.1).2.2.1, by simp⟩, Kept.refl _ _⟩
          case round =>
            obtain ⟨k, o, hk, rfl, ⟨aa, cc, rfl⟩, hol, HO, hkr⟩ := hrel
            by_cases hlt : k < lb.length
            · have hga := List.getElem?_eq_getElem hlt
              have htk : lb.take (k + 1) = lb.take k ++ [lb[k]] := List.take_succ_eq_append_getElem hlt
              have hnew : ∀ x ∈ o, x.path ≠ lb[k].path := by
                intro x hx
                rcases List.mem_append.1 (HO.out.2.2.mem_iff.1 hx) with q | q
                · exact HNN.out _ (List.getElem_mem hlt) x q
                · obtain ⟨i, hi, rfl⟩ := List.getElem_of_mem q
                  have hi' : i < k := by rw [List.length_take] at hi; omega
                  rw [List.getElem_take]
                  have := (List.pairwise_iff_getElem.1 (mayB_iff.1 HM.out.2).2.2.1) i k (by omega) hlt hi'
                  intro e
                  unfold ltF at this
                  rw [e, ltB_irrefl] at this; cases this
              generalize lb[k] = g at hga htk hnew
              obtain ⟨hgs, b1, o1, y, rfl, hbl, hrx, hBg⟩ := hb.file hga
              obtain ⟨ag, cg, rfl⟩ := hBg.slc
              have ldg := load_file (rangeAt_stay (k5.trans hkr) hbl not_false hrx)
              have pc := rPut_ct HO.out.1 hgs (hBg.kept (k5.trans hkr)) (by omega)
              obtain ⟨p1, p2⟩ := put_new (f := g) HO.out.2.1 hnew
              have hge : (⟨g.path, g.bytes⟩ : FileE) = g := rfl
              rw [hge] at pc
              have HP : Hid ((putL o g).Pairwise ltF ∧ (putL o g).Perm (la ++ lb.take (k + 1)) ∧ (putL o g).length = o.length + 1) := ⟨p1, by
                rw [htk, ← List.append_assoc]
                exact p2.trans ((HO.out.2.2.cons g).trans (List.perm_append_singleton g _).symm), by rw [p2.length_eq]; rfl⟩
              clear hrx hBg hga htk hnew p1 p2 hge
              generalize putL o g = o2 at pc HP
              go_wp2_with (first
                | (with_reducible refine wpl_load 46 _ rfl rfl ?_ ldg ?_
                   · rfl
                   simp only [Act.put, List.getElem_toArray, List.getElem_cons_zero, List.getElem_cons_succ, List.setIfInBounds_toArray, List.set_cons_zero, List.set_cons_succ]))
              refine pc.mono ?_
              rintro e W6 ⟨v6, rfl, h6, k6⟩
              obtain ⟨a6, c6, hv6⟩ := h6.slc
              subst hv6
              have h6 := Lib.hid h6
              clear pc ldg
              go_wp2_with fail
              go_roundw
              case rel => exact ⟨k + 1, o2, by omega, by go_num, ⟨_, _, rfl⟩, by have := HP.out.2.2; omega, ⟨h6.out, HP.out.1, HP.out.2.1⟩, hkr.trans k6⟩
              case measure => simp [intOf]; omega
            · obtain rfl : k = lb.length := by omega
              have hOO := HO.out
              rw [List.take_length] at hOO
              obtain ⟨j1, j2⟩ := joinC_new HM.out.1 HM.out.2 hOO.2.1 hOO.2.2
              have md := rMade_ct hOO.1
              have HJ := Lib.hid (And.intro j1 j2)
              have HT := Lib.hid hOO.1
              clear hOO HO j1 j2
              go_wp2_with fail
              refine md.mono ?_
              rintro e W7 ⟨hr, k7⟩
              rcases hr with ⟨hm, rfl⟩ | ⟨hm, rfl⟩
              · go_wp2_with fail
                go_ret2
                exact ⟨.inr ⟨by rw [HCZ.out.1, HJ.out.2, hm]; rfl, _, rfl, by rw [HCZ.out.2, HJ.out.1]; exact HT.out.kept k7⟩, (k5.trans hkr).trans k7⟩
              · go_wp2_with fail
                go_ret2
                exact ⟨.inl ⟨by rw [HCZ.out.1, HJ.out.2, hm]; simp, by rw [HCZ.out.1, HJ.out.2, hm]; rfl⟩, (k5.trans hkr).trans k7⟩

/- The document's Copy, of trees of whatever size. -/

theorem app_byL {w : World} {base n : Nat} {v x : Value} {xs : List Value} {l : List UInt8} (h : w.ownsRow base 5 1 v n xs) (hx : ByAt w x l) (hn : n + l.length ≤ 140737488351232) (hb : base ≤ w.heap.size) (ty : TypeId) :
    ∃ v' w', (Builtin.append_ #[44, 44] ty #[v, x]).run Tryd.prog w = .ok v' w' ∧ w'.ownsRow base 5 1 v' (n + l.length) (xs ++ bv l) ∧ w.grownBy w' v.ownBlock := by
  obtain ⟨i, hi⟩ : ∃ i, Tryd.prog.info? 5 = some i := ⟨_, rfl⟩
  obtain ⟨z, hz⟩ : ∃ z, i.zero = some z := by injection hi with hi; subst hi; exact ⟨_, rfl⟩
  have hs : i.size = 1 := by injection hi with hi; subst hi; rfl
  have hzs : z.cells.size = 1 := by injection hi with hi; subst hi; injection hz with hz; subst hz; rfl
  have hby : i.bytes ≤ 1 := by injection hi with hi; subst hi; decide
  obtain ⟨a, cap, rfl, hl, ha⟩ := hx
  cases a with
  | none =>
    have hl0 : l = [] := by
      apply Classical.byContradiction; intro hh
      obtain ⟨b, o, e, _⟩ := ha hh; cases e
    subst hl0
    refine ⟨v, w, ?_, by simpa [bv] using h, ⟨rfl, rfl, rfl, Nat.le_refl _, fun _ _ _ => rfl⟩⟩
    rcases h.2 with ⟨rfl, rfl⟩ | ⟨g, cap', cur, rfl, _, _, hnc, _⟩
    · simp [Builtin.append_, run_underlying Tryd.underlying44, sizeOf, typeInfo, hi, Builtin.lenOf, Builtin.firstCells]
    · simp [Builtin.append_, run_underlying Tryd.underlying44, sizeOf, typeInfo, hi, Builtin.lenOf, Builtin.firstCells, hnc, storeCells]
  | some ad =>
    obtain ⟨v', w', a1, a2, a3, _⟩ := run_append_own (P := Tryd.prog) w base 44 ty 5 i z 1 i.bytes Tryd.underlying44 hi hz hs rfl hzs (by omega) v n xs h ad l.length cap (bv l) (by simp [bv])
      (fun j u hu => by
        have hne : l ≠ [] := fun e => by subst e; simp [bv] at hu
        obtain ⟨b, o, e, _, hr⟩ := ha hne
        injection e with e; subst e
        rw [Addr.add_mid]; exact hr j u hu) (bv_one l) (by simp only [maxLen]; omega)
      (by have : (n + l.length) * i.bytes ≤ 140737488351232 * 1 := Nat.mul_le_mul hn hby; omega) hb
    exact ⟨v', w', a1, a2, a3⟩
theorem app_filesL {w : World} {base n : Nat} {v : Value} {xs : List Value} (h : w.ownsRow base 46 2 v n xs) {ad : Addr} {m c : Nat} {news : List Value} (hl : news.length = m * 2) (hnews : ∀ j u, news[j]? = some u → w.cell? (ad.add j) = some u) (h1 : ∀ u ∈ news, u.oneCell' = true) (hn : (n + m) * 40 ≤ 140737488351232) (hb : base ≤ w.heap.size) (t ty : TypeId) (ht : Tryd.prog.underlying t = some (.slice 46)) :
    ∃ v' w', (Builtin.append_ #[t, t] ty #[v, .slice (some ad) m c]).run Tryd.prog w = .ok v' w' ∧ w'.ownsRow base 46 2 v' (n + m) (xs ++ news) ∧ w.grownBy w' v.ownBlock := by
  obtain ⟨i, hi⟩ : ∃ i, Tryd.prog.info? 46 = some i := ⟨_, rfl⟩
  obtain ⟨z, hz⟩ : ∃ z, i.zero = some z := by injection hi with hi; subst hi; exact ⟨_, rfl⟩
  have hs : i.size = 2 := by injection hi with hi; subst hi; rfl
  have hzs : z.cells.size = 2 := by injection hi with hi; subst hi; injection hz with hz; subst hz; rfl
  have hby : i.bytes ≤ 40 := by injection hi with hi; subst hi; decide
  obtain ⟨v', w', a1, a2, a3, _⟩ := run_append_own (P := Tryd.prog) w base t ty 46 i z 2 i.bytes ht hi hz hs rfl hzs (by omega) v n xs h ad m c news hl hnews h1 (by simp only [maxLen]; omega)
    (by have : (n + m) * i.bytes ≤ (n + m) * 40 := Nat.mul_le_mul_left _ hby; omega) hb
  exact ⟨v', w', a1, a2, a3⟩

theorem app_oneL {w w0 : World} {v : Value} {ps : List (ByteArray × Value)} (ho : w.ownsRow w0.heap.size 46 2 v ps.length (prs ps)) {gb : Nat} {p : ByteArray} {x : Value} {fr : Nat × Nat} (hg : w.heap[gb]? = some (.cells #[.string p, x] 46 fr)) (h1 : x.oneCell' = true) (hn : (ps.length + 1) * 40 ≤ 140737488351232) (hk : Kept (fun _ => False) w0 w) (ty : TypeId) :
    ∃ a' c' w', (Builtin.append_ #[27, 27] ty #[v, .slice (some ⟨gb, 0, none⟩) 1 1]).run Tryd.prog w = .ok (.slice a' (ps.length + 1) c') w' ∧ w'.ownsRow w0.heap.size 46 2 (.slice a' (ps.length + 1) c') (ps.length + 1) (prs (ps ++ [(p, x)])) ∧ Kept (fun _ => False) w0 w' ∧ w.grownBy w' v.ownBlock := by
  obtain ⟨v', w', ap, ho', hg'⟩ := app_filesL ho (ad := ⟨gb, 0, none⟩) (m := 1) (c := 1) (news := [.string p, x]) rfl (fun j u hu => by
    rw [Addr.add_mid, Nat.zero_add, cell_of_row _ _ _ _ _ _ hg]; simpa using hu) (fun u hu => by simp at hu; rcases hu with rfl | rfl; rfl; exact h1) hn hk.size 27 ty Tryd.underlying27
  obtain ⟨a', c', hv⟩ := row_form ho'
  subst hv
  exact ⟨a', c', w', ap, by rw [prs_app2]; exact ho', grown_kept hk hg' (fun k e => (World.ownsRow.lt ho k e).1), hg'⟩
/-- A copy of bytes. -/
theorem copy_byL {w : World} {v : Value} {l : List UInt8} (h : ByAt w v l) (hn : l.length ≤ 140737488351232) (ty : TypeId) :
    ∃ a' c' w', (Builtin.append_ #[44, 44] ty #[.slice (some ⟨w.heap.size, 0, none⟩) 0 0, v]).run Tryd.prog (w.alloc (.cells #[] 5)) = .ok (.slice a' l.length c') w' ∧ w'.ownsRow w.heap.size 5 1 (.slice a' l.length c') l.length (bv l) ∧ Kept (fun _ => False) w w' ∧ Kept (fun k => w.heap.size ≤ k) (w.alloc (.cells #[] 5)) w' := by
  have k1 : Kept (fun _ => False) w (w.alloc (.cells #[] 5)) := (Kept.refl _ w).alloc _
  have ho : (w.alloc (.cells #[] 5)).ownsRow w.heap.size 5 1 (.slice (some ⟨w.heap.size, 0, none⟩) 0 0) ([] : List UInt8).length (bv []) := World.ownsRow_made w #[] 0 (Nat.le_refl _) (Nat.zero_le _) rfl
  obtain ⟨v', w', ap, ho', hg⟩ := app_byL ho (h.kept k1) (by simpa using hn) k1.size ty
  obtain ⟨a', c', hv⟩ := row_form ho'
  subst hv
  have k2 := grown_kept k1 hg (fun k e => by have e : some w.heap.size = some k := e; injection e with e; omega)
  have k3 : Kept (fun k => w.heap.size ≤ k) (w.alloc (.cells #[] 5)) w' := ⟨hg.os, hg.tape, hg.output, hg.size, fun b hb hs => hg.block b hb (fun e => hs (by have e : some b = some w.heap.size := e; injection e with e; omega))⟩
  rw [show bv [] ++ bv l = bv l from rfl] at ho'
  simp only [List.length_nil, Nat.zero_add] at ap ho'
  exact ⟨a', c', w', ap, ho', k2, k3⟩
theorem row_low {w : World} {b b2 : Nat} {t : TypeId} {z : Nat} {x : Value} {n : Nat} {xs : List Value} (h : w.ownsRow b t z x n xs) (hb : b2 ≤ b) : w.ownsRow b2 t z x n xs := by
  refine ⟨h.1, ?_⟩
  rcases h.2 with h2 | ⟨g, cap, cur, q1, q2, q3⟩
  · exact .inl h2
  · exact .inr ⟨g, cap, cur, q1, Nat.le_trans hb q2, q3⟩
def OwnP (base : Nat) (w : World) (ps : List (ByteArray × Value)) (l : List FileE) : Prop := ps.length = l.length ∧ ∀ (j : Nat) f, l[j]? = some f → f.path.size ≤ maxLen ∧ ∃ x, ps[j]? = some (f.path, x) ∧ w.ownsRow base 5 1 x f.bytes.length (bv f.bytes)
theorem OwnP.kept {base : Nat} {w w' : World} {ps : List (ByteArray × Value)} {l : List FileE} (h : OwnP base w ps l) (hk : Kept (fun _ => False) w w') : OwnP base w' ps l :=
  ⟨h.1, fun j f hf => by obtain ⟨h1, x, h2, h3⟩ := h.2 j f hf; exact ⟨h1, x, h2, row_kept h3 hk⟩⟩
theorem OwnP.pairs {base : Nat} {w : World} {ps : List (ByteArray × Value)} {l : List FileE} (h : OwnP base w ps l) : PairsAt w ps l :=
  ⟨h.1, fun j f hf => by obtain ⟨h1, x, h2, h3⟩ := h.2 j f hf; exact ⟨h1, x, h2, ByAt.own h3⟩⟩
theorem OwnP.snoc {base : Nat} {w : World} {ps : List (ByteArray × Value)} {l : List FileE} (h : OwnP base w ps l) {f : FileE} {x : Value} (hs : f.path.size ≤ maxLen) (hx : w.ownsRow base 5 1 x f.bytes.length (bv f.bytes)) : OwnP base w (ps ++ [(f.path, x)]) (l ++ [f]) := by
  refine ⟨by simp [h.1], fun j g hg => ?_⟩
  by_cases e : j < l.length
  · rw [List.getElem?_append_left e] at hg
    obtain ⟨h1, y, h2, h3⟩ := h.2 j g hg
    exact ⟨h1, y, by rw [List.getElem?_append_left (by rw [h.1]; exact e)]; exact h2, h3⟩
  · have hj := (List.getElem?_eq_some_iff.1 hg).1
    simp at hj
    obtain rfl : j = l.length := by omega
    rw [List.getElem?_append_right (Nat.le_refl _)] at hg
    simp at hg
    subst hg
    exact ⟨hs, x, by rw [List.getElem?_append_right (by rw [h.1]; exact Nat.le_refl _), h.1]; simp, hx⟩
/-- Rows of bytes stay where a row of files grows. -/
theorem OwnP.grown {base b2 : Nat} {w w' : World} {ps : List (ByteArray × Value)} {l : List FileE} (h : OwnP base w ps l) {v : Value} {n : Nat} {xs : List Value} (hv : w.ownsRow b2 46 2 v n xs) (hg : w.grownBy w' v.ownBlock) : OwnP base w' ps l := by
  refine ⟨h.1, fun j f hf => ?_⟩
  obtain ⟨h1, x, h2, h3, h4⟩ := h.2 j f hf
  refine ⟨h1, x, h2, h3, ?_⟩
  rcases h4 with h4 | ⟨g, cap, cur, q1, q2, q3, q4⟩
  · exact .inl h4
  · refine .inr ⟨g, cap, cur, q1, q2, ?_, q4⟩
    rw [hg.block g (Array.getElem?_eq_some_iff.1 q3).1 ?_]
    · exact q3
    · intro e
      rcases hv.2 with ⟨hv, _⟩ | ⟨g', cap', cur', hv, _, hh, _⟩
      · subst hv; cases e
      · subst hv
        have e : some g = some g' := e
        injection e with e
        subst e
        rw [hh] at q3
        injection q3 with q3
        injection q3 with _ q3 _
        exact absurd q3 (by decide)
set_option maxRecDepth 100000 in
set_option maxHeartbeats 4000000 in
theorem rCopy_ct {w : World} {v : Value} {l : List FileE} (h : TreeAt w v l) (hsz : l.length * 40 ≤ 140737488351232) (hbz : ∀ f ∈ l, f.bytes.length ≤ 140737488351232) :
    Calls Tryd.prog 11 #[v] w fun e w' => ∃ v', e = .returned v' ∧ TreeAt w' v' l ∧ Kept (fun _ => False) w w' := by
  obtain ⟨a, c, hv⟩ := h.slc
  subst hv
  go_enter Tryd.func11, Tryd.ntmps11
  go_wp2_with fail
  go_loopw [3, 4] (fun so si wr => ∃ (k : Nat) (ps : List (ByteArray × Value)), k ≤ l.length ∧ si = .int .i64 k ∧ (∃ aa cc, so = .slice aa ps.length cc) ∧ Hid (wr.ownsRow w.heap.size 46 2 so ps.length (prs ps) ∧ OwnP w.heap.size wr ps (l.take k)) ∧ Kept (fun _ => False) w wr) (fun _ si _ => l.length - (intOf si).toNat)
  case atStart => exact ⟨0, [], by omega, rfl, ⟨none, 0, rfl⟩, ⟨World.ownsRow_nil _ _ _ _, ⟨rfl, fun j f hf => by simp at hf⟩⟩, Kept.refl _ _⟩
  case round =>
    obtain ⟨k, ps, hk, rfl, ⟨aa, cc, rfl⟩, HR, hkr⟩ := hrel
    by_cases hlt : k < l.length
    · have hga := List.getElem?_eq_getElem hlt
      have htk : l.take (k + 1) = l.take k ++ [l[k]] := List.take_succ_eq_append_getElem hlt
      have hfb := hbz l[k] (List.getElem_mem hlt)
      have hpl : ps.length = k := by have := HR.out.2.1; rw [List.length_take] at this; omega
      have hp40 : (ps.length + 1) * 40 ≤ 140737488351232 := by rw [hpl]; omega
      generalize l[k] = f at hga htk hfb
      obtain ⟨hgs, b1, o1, y, rfl, hbl, hrx, hBg⟩ := h.file hga
      obtain ⟨ag, cg, rfl⟩ := hBg.slc
      have q0 : ∀ w', Kept (fun k => w.heap.size ≤ k) wr w' → w'.cell? ⟨b1, o1 + k * 2, none⟩ = some (.string f.path) := fun w' q => (q.cell (p := ⟨b1, o1 + k * 2, none⟩) (Nat.lt_of_lt_of_le hbl hkr.size) (Nat.not_le.2 hbl)).trans ((hkr.cell (p := ⟨b1, o1 + k * 2, none⟩) hbl not_false).trans (hrx 0 _ rfl))
      have q1 : ∀ w', Kept (fun k => w.heap.size ≤ k) wr w' → w'.cell? ⟨b1, o1 + k * 2 + 1, none⟩ = some (.slice ag f.bytes.length cg) := fun w' q => (q.cell (p := ⟨b1, o1 + k * 2 + 1, none⟩) (Nat.lt_of_lt_of_le hbl hkr.size) (Nat.not_le.2 hbl)).trans ((hkr.cell (p := ⟨b1, o1 + k * 2 + 1, none⟩) hbl not_false).trans (hrx 1 _ rfl))
      have kd := hkr.drew
      have krd : Kept (fun _ => False) wr wr.drew := (Kept.refl _ wr).drew
      have hrd := row_kept HR.out.1 krd
      have hpd := HR.out.2.kept krd
      have bs0 := bslice_b0 wr.drew
      have ks1 : Kept (fun k => w.heap.size ≤ k) wr (wr.drew.alloc (.cells #[] 5)) := (Kept.refl _ wr).drew.alloc _
      obtain ⟨ab, cb, W2, ap2, hob, k2, _⟩ := copy_byL (hBg.kept kd) hfb 44
      have hrd2 := row_kept hrd k2
      have hpd2 := hpd.kept k2
      have ks2 : Kept (fun k => w.heap.size ≤ k) wr W2 := (krd.trans k2).mono (fun _ _ q => q.elim)
      have k20 := kd.trans k2
      have hob := row_low hob kd.size
      have bf := build_f f.path ab f.bytes.length cb
      have bs3 := bslice_f1 f.path ab f.bytes.length cb W2
      have hg3 := heap_last W2 (.cells #[.string f.path, .slice ab f.bytes.length cb] 46)
      have k23 : Kept (fun _ => False) W2 (W2.alloc (.cells #[.string f.path, .slice ab f.bytes.length cb] 46)) := (Kept.refl _ W2).alloc _
      have ks3 : Kept (fun k => w.heap.size ≤ k) wr (W2.alloc (.cells #[.string f.path, .slice ab f.bytes.length cb] 46)) := ks2.alloc _
      generalize W2.alloc (.cells #[.string f.path, .slice ab f.bytes.length cb] 46) = W3 at bs3 hg3 k23 ks3
      have hrd3 := row_kept hrd2 k23
      obtain ⟨a4, c4, W4, ap4, ho4, k4, gr4⟩ := app_oneL hrd3 hg3 rfl hp40 (k20.trans k23) 27
      have hp4 := ((hpd2.kept k23).snoc (f := f) hgs (row_kept hob k23)).grown hrd3 gr4
      have ks4 : Kept (fun k => w.heap.size ≤ k) wr W4 := ks3.trans ⟨gr4.os, gr4.tape, gr4.output, gr4.size, fun b hb hs => gr4.block b hb (fun e => hs (World.ownsRow.lt hrd3 b e.symm).1)⟩
      have HN : Hid (W4.ownsRow w.heap.size 46 2 (.slice a4 (ps.length + 1) c4) (ps.length + 1) (prs (ps ++ [(f.path, .slice ab f.bytes.length cb)])) ∧ OwnP w.heap.size W4 (ps ++ [(f.path, .slice ab f.bytes.length cb)]) (l.take (k + 1))) := ⟨ho4, by rw [htk]; exact hp4⟩
      have hdz : wr.drew.heap.size = wr.heap.size := rfl
      rw [hdz] at bs0 ap2
      clear hrx hBg hga htk HR ho4 hp4 gr4 hrd3 hrd2 hpd2 hrd hpd hob hg3 hdz hpl hp40
      generalize wr.heap.size = B1 at bs0 ap2
      generalize W2.heap.size = B2 at bs3 ap4
      go_wp2_with fail
      refine wp_region_held_drew (S := (Kept (fun k => w.heap.size ≤ k) wr)) (by kernel_rfl) ((Kept.refl _ wr).drew) (fun hHeld => ?_)
      refine held_q (v := ?_) (i := 0) rfl (by kernel_rfl) (by kernel_rfl) (by kernel_rfl) (fun _ _ _ h => h) (by rfl) hHeld ?_ ?_
      rotate_left
      · (intro w' hS'; go_simp <;> (with_reducible rfl))
      simp only [Act.put, List.getElem_toArray, List.getElem_cons_zero, List.getElem_cons_succ, List.setIfInBounds_toArray, List.set_cons_zero, List.set_cons_succ]
      refine held_q (v := ?_) (i := 1) rfl (by kernel_rfl) (by kernel_rfl) (by kernel_rfl) (fun _ _ _ h => h) (by rfl) hHeld ?_ ?_
      rotate_left
      · (intro w' hS'; go_simp <;> (with_reducible rfl))
      simp only [Act.put, List.getElem_toArray, List.getElem_cons_zero, List.getElem_cons_succ, List.setIfInBounds_toArray, List.set_cons_zero, List.set_cons_succ]
      refine held_q (v := ?_) (i := 2) rfl (by kernel_rfl) (by kernel_rfl) (by kernel_rfl) (fun _ _ _ h => h) (by rfl) hHeld ?_ ?_
      rotate_left
      · (intro w' hS'; go_simp <;> (with_reducible rfl))
      simp only [Act.put, List.getElem_toArray, List.getElem_cons_zero, List.getElem_cons_succ, List.setIfInBounds_toArray, List.set_cons_zero, List.set_cons_succ]
      refine held_q (v := ?_) (i := 3) rfl (by kernel_rfl) (by kernel_rfl) (by kernel_rfl) (fun _ _ _ h => h) (by rfl) hHeld ?_ ?_
      rotate_left
      · (intro w' hS'; go_simp <;> (with_reducible rfl))
      simp only [Act.put, List.getElem_toArray, List.getElem_cons_zero, List.getElem_cons_succ, List.setIfInBounds_toArray, List.set_cons_zero, List.set_cons_succ]
      refine held_q (v := ?_) (i := 4) rfl (by kernel_rfl) (by kernel_rfl) (by kernel_rfl) (fun _ _ _ h => h) (by rfl) hHeld ?_ ?_
      rotate_left
      · (intro w' hS'; go_simp <;> (with_reducible rfl))
      simp only [Act.put, List.getElem_toArray, List.getElem_cons_zero, List.getElem_cons_succ, List.setIfInBounds_toArray, List.set_cons_zero, List.set_cons_succ]
      refine held_q (v := ?_) (i := 5) rfl (by kernel_rfl) (by kernel_rfl) (by kernel_rfl) (fun _ _ _ h => h) (by rfl) hHeld ?_ ?_
      rotate_left
      · (intro w' hS'; go_simp <;> (with_reducible rfl))
      simp only [Act.put, List.getElem_toArray, List.getElem_cons_zero, List.getElem_cons_succ, List.setIfInBounds_toArray, List.set_cons_zero, List.set_cons_succ]
      refine held_q (v := ?_) (i := 7) rfl (by kernel_rfl) (by kernel_rfl) (by kernel_rfl) (fun _ _ _ h => h) (by rfl) hHeld ?_ ?_
      rotate_left
      · (intro w' hS'; go_simp <;> (with_reducible rfl))
      simp only [Act.put, List.getElem_toArray, List.getElem_cons_zero, List.getElem_cons_succ, List.setIfInBounds_toArray, List.set_cons_zero, List.set_cons_succ]
      refine held_q (v := ?_) (i := 8) rfl (by kernel_rfl) (by kernel_rfl) (by kernel_rfl) (fun _ _ _ h => h) (by rfl) hHeld ?_ ?_
      rotate_left
      · (intro w' hS'; go_simp <;> (with_reducible rfl))
      simp only [Act.put, List.getElem_toArray, List.getElem_cons_zero, List.getElem_cons_succ, List.setIfInBounds_toArray, List.set_cons_zero, List.set_cons_succ]
      refine held_q (v := ?_) (i := 9) rfl (by kernel_rfl) (by kernel_rfl) (by kernel_rfl) (fun _ _ _ h => h) (by rfl) hHeld ?_ ?_
      rotate_left
      · (intro w' hS'; go_simp <;> (with_reducible rfl))
      simp only [Act.put, List.getElem_toArray, List.getElem_cons_zero, List.getElem_cons_succ, List.setIfInBounds_toArray, List.set_cons_zero, List.set_cons_succ]
      refine held_q (v := ?_) (i := 10) rfl (by kernel_rfl) (by kernel_rfl) (by kernel_rfl) (fun _ _ _ h => h) (by rfl) hHeld ?_ ?_
      rotate_left
      · (intro w' hS'; go_simp <;> (with_reducible rfl))
      simp only [Act.put, List.getElem_toArray, List.getElem_cons_zero, List.getElem_cons_succ, List.setIfInBounds_toArray, List.set_cons_zero, List.set_cons_succ]
      refine held_q (v := ?_) (i := 11) rfl (by kernel_rfl) (by kernel_rfl) (by kernel_rfl) (fun _ _ _ h => h) (by rfl) hHeld ?_ ?_
      rotate_left
      · (intro w' hS'; go_simp <;> (with_reducible rfl))
      simp only [Act.put, List.getElem_toArray, List.getElem_cons_zero, List.getElem_cons_succ, List.setIfInBounds_toArray, List.set_cons_zero, List.set_cons_succ]
      refine held_v (i := 6) (by kernel_rfl) rfl (by rfl) (exec_buildSlice 44 0 _ rfl (by go_simp <;> rfl) bs0) (ks1) (fun hHeld => ?_)
      simp only [Act.put, List.getElem_toArray, List.getElem_cons_zero, List.getElem_cons_succ, List.setIfInBounds_toArray, List.set_cons_zero, List.set_cons_succ]
      refine held_v (i := 12) (by kernel_rfl) rfl (by rfl) (exec_append2 44 44 _ _ rfl rfl rfl ap2) (ks2) (fun hHeld => ?_)
      simp only [Act.put, List.getElem_toArray, List.getElem_cons_zero, List.getElem_cons_succ, List.setIfInBounds_toArray, List.set_cons_zero, List.set_cons_succ]
      refine held_q (i := 13) rfl (by kernel_rfl) (by kernel_rfl) (by kernel_rfl) (fun _ _ _ h => h) (by rfl) hHeld (fun w' hS' => exec_build 46 _ rfl (by go_simp <;> rfl) (bf w')) ?_
      simp only [Act.put, List.getElem_toArray, List.getElem_cons_zero, List.getElem_cons_succ, List.setIfInBounds_toArray, List.set_cons_zero, List.set_cons_succ]
      refine held_v (i := 14) (by kernel_rfl) rfl (by rfl) (exec_buildSlice 27 1 _ rfl (by go_simp <;> rfl) bs3) (ks3) (fun hHeld => ?_)
      simp only [Act.put, List.getElem_toArray, List.getElem_cons_zero, List.getElem_cons_succ, List.setIfInBounds_toArray, List.set_cons_zero, List.set_cons_succ]
      refine held_v (i := 15) (by kernel_rfl) rfl (by rfl) (exec_append2 27 27 _ _ rfl rfl rfl ap4) (ks4) (fun hHeld => ?_)
      simp only [Act.put, List.getElem_toArray, List.getElem_cons_zero, List.getElem_cons_succ, List.setIfInBounds_toArray, List.set_cons_zero, List.set_cons_succ]
      refine held_q (v := ?_) (i := 16) rfl (by kernel_rfl) (by kernel_rfl) (by kernel_rfl) (fun _ _ _ h => h) (by rfl) hHeld ?_ ?_
      rotate_left
      · (intro w' hS'; go_simp <;> (with_reducible rfl))
      simp only [Act.put, List.getElem_toArray, List.getElem_cons_zero, List.getElem_cons_succ, List.setIfInBounds_toArray, List.set_cons_zero, List.set_cons_succ]
      refine wpAnyH_done (by kernel_rfl) ?_ _
      go_wp2_with fail
      go_roundw
      case rel => exact ⟨k + 1, ps ++ [(f.path, .slice ab f.bytes.length cb)], by omega, by go_num, ⟨a4, c4, by rw [List.length_append]; rfl⟩, by rw [List.length_append]; exact HN.out, k4⟩
      case measure => simp [intOf]; omega
    · obtain rfl : k = l.length := by omega
      have hHR := HR.out
      rw [List.take_length] at hHR
      have HT := Lib.hid (TreeAt.of_row hHR.1 hHR.2.pairs)
      clear hHR HR
      go_wp2_with fail
      go_ret
      exact ⟨_, rfl, HT.out, hkr⟩

end Go.Proofs.YtfohljljoalmoaaDoor
