/- Rows in memory: texts, instructions, trees; slices.Contains over texts; parser.head. -/
import Derived.Test.YtfohljljoalmoaaDoorJC
namespace Go.Proofs.YtfohljljoalmoaaDoor
open Go.RowKit
set_option maxRecDepth 100000
set_option linter.unusedSimpArgs false
set_option linter.unusedVariables false

def allTo (p : Nat → Bool) : Nat → Bool
  | 0 => true
  | k + 1 => allTo p k && p k
theorem allTo_iff {p : Nat → Bool} : ∀ {n : Nat}, allTo p n = true ↔ ∀ i, i < n → p i = true
  | 0 => by simp [allTo]
  | n + 1 => by
    unfold allTo
    rw [Bool.and_eq_true, allTo_iff]
    constructor
    · rintro ⟨h1, h2⟩ i hi
      rcases Nat.lt_or_ge i n with q | q
      · exact h1 i q
      · rw [show i = n by omega]; exact h2
    · exact fun h => ⟨fun i hi => h i (by omega), h n (by omega)⟩
theorem allTo_no {p : Nat → Bool} {i n : Nat} (h : p i = false) (hi : i < n) : allTo p n = false := by
  rw [Bool.eq_false_iff]
  intro q
  rw [allTo_iff.1 q i hi] at h; cases h
/-- A row whose j-th element is these cells, z of them. -/
def RowAt (w : World) (z : Nat) (v : Value) (cs : List (List Value)) : Prop :=
  ∃ (a : Option Addr) (cap : Nat), v = .slice a cs.length cap ∧ cs.length ≤ cap ∧ cs.length ≤ maxLen ∧ (cs ≠ [] → ∃ b o, a = some ⟨b, o, none⟩ ∧ b < w.heap.size ∧ ∀ (j : Nat) xs, cs[j]? = some xs → w.rangeAt b (o + j * z) xs)
theorem RowAt.kept {w w' : World} {z : Nat} {v : Value} {cs : List (List Value)} (h : RowAt w z v cs) (hk : Kept (fun _ => False) w w') : RowAt w' z v cs := by
  obtain ⟨a, cap, h1, h2, h3, h4⟩ := h
  refine ⟨a, cap, h1, h2, h3, fun hl => ?_⟩
  obtain ⟨b, o, e, hb, hr⟩ := h4 hl
  exact ⟨b, o, e, Nat.lt_of_lt_of_le hb hk.size, fun j xs hj => rangeAt_stay hk hb not_false (hr j xs hj)⟩
theorem RowAt.slc {w : World} {z : Nat} {v : Value} {cs : List (List Value)} (h : RowAt w z v cs) : ∃ a c, v = .slice a cs.length c ∧ cs.length ≤ c ∧ cs.length ≤ maxLen := by obtain ⟨a, c, h, h2, h3, _⟩ := h; exact ⟨a, c, h, h2, h3⟩
theorem RowAt.elem {w : World} {z : Nat} {a : Option Addr} {n c : Nat} {cs : List (List Value)} (h : RowAt w z (.slice a n c) cs) {j : Nat} {xs : List Value} (hj : cs[j]? = some xs) :
    ∃ b o, a = some ⟨b, o, none⟩ ∧ b < w.heap.size ∧ w.rangeAt b (o + j * z) xs := by
  obtain ⟨a', c', e, _, _, h3⟩ := h
  injection e with e1 _ _
  subst e1
  obtain ⟨b, o, e, hb, hr⟩ := h3 (fun e => by subst e; simp at hj)
  exact ⟨b, o, e, hb, hr j xs hj⟩
theorem RowAt.take {w : World} {z : Nat} {a : Option Addr} {n c : Nat} {cs : List (List Value)} (h : RowAt w z (.slice a n c) cs) {i : Nat} (hi : i ≤ cs.length) : RowAt w z (.slice a i c) (cs.take i) := by
  obtain ⟨a', c', e, h1, h2, h3⟩ := h
  injection e with e1 e2 e3
  subst e1; subst e3
  have hl : (cs.take i).length = i := by rw [List.length_take]; omega
  refine ⟨a, c, by rw [hl], by omega, by omega, fun hne => ?_⟩
  obtain ⟨b, o, e, hb, hr⟩ := h3 (fun e => by subst e; simp at hne)
  refine ⟨b, o, e, hb, fun j xs hj => hr j xs ?_⟩
  have : j < i := by have := (List.getElem?_eq_some_iff.1 hj).1; omega
  rw [← hj, List.getElem?_take, if_pos this]
theorem RowAt.nil (w : World) (z n : Nat) : RowAt w z (.slice none 0 n) [] := ⟨none, n, rfl, Nat.zero_le _, Nat.zero_le _, fun h => absurd rfl h⟩
/-- Texts. -/
def DepsAt (w : World) (v : Value) (ds : List ByteArray) : Prop := RowAt w 1 v (ds.map fun d => [.string d]) ∧ ∀ d ∈ ds, d.size ≤ maxLen
theorem DepsAt.kept {w w' : World} {v : Value} {ds : List ByteArray} (h : DepsAt w v ds) (hk : Kept (fun _ => False) w w') : DepsAt w' v ds := ⟨h.1.kept hk, h.2⟩
theorem DepsAt.slc {w : World} {v : Value} {ds : List ByteArray} (h : DepsAt w v ds) : ∃ a c, v = .slice a ds.length c ∧ ds.length ≤ c ∧ ds.length ≤ maxLen := by
  obtain ⟨a, c, h1, h2, h3⟩ := h.1.slc
  rw [List.length_map] at h1 h2 h3
  exact ⟨a, c, h1, h2, h3⟩
theorem DepsAt.elem {w : World} {a : Option Addr} {n c : Nat} {ds : List ByteArray} (h : DepsAt w (.slice a n c) ds) {j : Nat} {d : ByteArray} (hj : ds[j]? = some d) :
    d.size ≤ maxLen ∧ ∃ b o, a = some ⟨b, o, none⟩ ∧ b < w.heap.size ∧ w.cell? ⟨b, o + j, none⟩ = some (.string d) := by
  obtain ⟨b, o, e, hb, hr⟩ := h.1.elem (j := j) (xs := [.string d]) (by rw [List.getElem?_map, hj]; rfl)
  refine ⟨h.2 d (List.mem_of_getElem? hj), b, o, e, hb, ?_⟩
  have := hr 0 _ rfl
  rw [Nat.mul_one] at this
  exact this
theorem DepsAt.take {w : World} {a : Option Addr} {n c : Nat} {ds : List ByteArray} (h : DepsAt w (.slice a n c) ds) {i : Nat} (hi : i ≤ ds.length) : DepsAt w (.slice a i c) (ds.take i) := by
  refine ⟨?_, fun d hd => h.2 d (List.mem_of_mem_take hd)⟩
  have := h.1.take (i := i) (by rw [List.length_map]; exact hi)
  rw [← List.map_take] at this
  exact this

def inB (ds : List ByteArray) (d : ByteArray) : Bool := ds.any fun x => eqB d x
set_option maxRecDepth 100000 in
set_option maxHeartbeats 2000000 in
theorem indexS_ct {w : World} {v : Value} {ds : List ByteArray} (h : DepsAt w v ds) (d : ByteArray) :
    Calls Tryd.prog 80 #[v, .string d] w fun e w' => (∃ r : Int, e = .returned (.int .i64 r) ∧ decide ((0 : Int) ≤ r) = inB ds d) ∧ Kept (fun _ => False) w w' := by
  obtain ⟨a, c, rfl, hc, hm⟩ := h.slc
  simp only [maxLen] at hm
  go_enter Tryd.func80, Tryd.ntmps80
  go_wp2_with fail
  go_loopg [8] ds.length (fun gk i wr => ∃ k : Nat, gk = ds.length - k ∧ k ≤ ds.length ∧ i = .int .i64 k ∧ Hid (inB (ds.take k) d = false) ∧ wr = w)
  case atStart => exact ⟨0, by omega, by omega, rfl, rfl, rfl⟩
  case round =>
    obtain ⟨k, rfl, hk, rfl, HI, rfl⟩ := hrel
    by_cases hlt : k < ds.length
    · have hf : ds[k]? = some ds[k] := List.getElem?_eq_getElem hlt
      have htk : ds.take (k + 1) = ds.take k ++ [ds[k]] := List.take_succ_eq_append_getElem hlt
      generalize ds[k] = x at hf htk
      obtain ⟨_, b, o, rfl, hb, hcell⟩ := h.elem hf
      have HN : Hid (inB (ds.take (k + 1)) d = (d.toList == x.toList)) := by
        unfold Hid inB
        rw [htk, List.any_append]
        have := HI.out
        unfold inB at this
        rw [this]; simp [eqB]
      have HY : Hid ((d.toList == x.toList) = true → inB ds d = true) := by
        unfold Hid
        intro hq
        unfold inB
        rw [List.any_eq_true]
        exact ⟨x, List.mem_of_getElem? hf, hq⟩
      clear htk hf
      generalize hq : (d.toList == x.toList) = q at HN HY
      cases q with
      | true =>
        go_wp2_with fail
        go_ret
        exact ⟨⟨_, rfl, by rw [HY.out trivial]; simp⟩, Kept.refl _ _⟩
      | false =>
        go_wp2_with fail
        go_roundg (ds.length - (k + 1))
        case rel => exact ⟨k + 1, rfl, by omega, by go_num, HN.out, rfl⟩
        case measure => omega
    · obtain rfl : k = ds.length := by omega
      have hin := HI.out
      rw [List.take_length] at hin
      have HX := Lib.hid hin
      clear hin
      go_wp2_with fail
      go_ret
      exact ⟨⟨_, rfl, by rw [HX.out]; rfl⟩, Kept.refl _ _⟩
theorem contains_ct {w : World} {v : Value} {ds : List ByteArray} (h : DepsAt w v ds) (d : ByteArray) :
    Calls Tryd.prog 68 #[v, .string d] w fun e w' => e = .returned (.bool (inB ds d)) ∧ Kept (fun _ => False) w w' := by
  have ic := indexS_ct h d
  obtain ⟨a, c, rfl, hc, hm⟩ := h.slc
  go_enter Tryd.func68, Tryd.ntmps68
  go_wp2_with fail
  refine ic.mono ?_
  rintro e W ⟨⟨r, rfl, hr⟩, k1⟩
  have HR := Lib.hid hr
  clear hr ic
  go_wp2_with fail
  go_ret
  exact ⟨by rw [← HR.out]; rfl, k1⟩
def depOk (ds : List ByteArray) (i : Nat) : Bool := match ds[i]? with
  | none => true
  | some d => nameB d && !inB (ds.take i) d
def headB (name : ByteArray) (ds : List ByteArray) : Bool := allTo (depOk ds) ds.length && nameB name && decide (ds.length ≤ 5)
theorem headIs {name : ByteArray} {ds : List ByteArray} : headB name ds = true ↔ nameB name = true ∧ ds.length ≤ 5 ∧ (∀ d ∈ ds, nameB d = true) ∧ ds.Nodup := by
  unfold headB
  rw [Bool.and_eq_true, Bool.and_eq_true, decide_eq_true_eq, allTo_iff]
  constructor
  · rintro ⟨⟨h1, h2⟩, h3⟩
    have key : ∀ i (hi : i < ds.length), nameB ds[i] = true ∧ inB (ds.take i) ds[i] = false := fun i hi => by
      have := h1 i hi
      unfold depOk at this
      rw [List.getElem?_eq_getElem hi] at this
      simpa using this
    refine ⟨h2, h3, fun d hd => ?_, ?_⟩
    · obtain ⟨i, hi, rfl⟩ := List.getElem_of_mem hd
      exact (key i hi).1
    · unfold List.Nodup
      rw [List.pairwise_iff_getElem]
      intro i j hi hj hij e
      have := (key j hj).2
      unfold inB at this
      rw [List.any_eq_false] at this
      refine this ds[i] ?_ (eqB_iff.2 e.symm)
      rw [List.mem_take_iff_getElem]
      exact ⟨i, by omega, rfl⟩
  · rintro ⟨h2, h3, h4, h5⟩
    refine ⟨⟨fun i hi => ?_, h2⟩, h3⟩
    unfold depOk
    rw [List.getElem?_eq_getElem hi]
    simp only [Bool.and_eq_true, Bool.not_eq_true']
    refine ⟨h4 _ (List.getElem_mem hi), ?_⟩
    unfold inB
    rw [List.any_eq_false]
    intro x hx e
    obtain ⟨j, hj, rfl⟩ := List.mem_take_iff_getElem.1 hx
    have e := eqB_iff.1 e
    unfold List.Nodup at h5
    rw [List.pairwise_iff_getElem] at h5
    exact h5 j i (by omega) hi (by omega) e.symm
theorem quiet_sliceH {w : World} {a : Option Addr} {n c i : Nat} (hi : i ≤ c) : (Instr.sliceAt 22 (.slice a n c) none (some (.int .i64 i)) none).run Tryd.prog w = .ok (.slice a i c) w := by
  have z1 : ∀ w, (sizeOf (Tryd.prog.elem 22)).run Tryd.prog w = .ok 1 w := fun w => by kernel_rfl
  rw [run_sliceAt_slice _ _ _ _ _ _ rfl, run_slice_h _ _ _ _ _ rfl _ _ (by omega) (by omega), z1]
  cases a with
  | none => simp [Result.andThen, sliced]
  | some a => simp [Result.andThen, sliced, Addr.add]
set_option maxRecDepth 100000 in
set_option maxHeartbeats 2000000 in
theorem head_ct {w : World} {name : ByteArray} (hn : name.size ≤ maxLen) {v : Value} {ds : List ByteArray} (h : DepsAt w v ds) :
    Calls Tryd.prog 46 #[.string name, v] w fun e w' => e = .returned (.bool (headB name ds)) ∧ Kept (fun _ => False) w w' := by
  obtain ⟨a, c, rfl, hc, hm⟩ := h.slc
  simp only [maxLen] at hm
  go_enter Tryd.func46, Tryd.ntmps46
  go_wp2_with fail
  go_loopg [9] ds.length (fun gk i wr => ∃ k : Nat, gk = ds.length - k ∧ k ≤ ds.length ∧ i = .int .i64 k ∧ Hid (allTo (depOk ds) k = true) ∧ Kept (fun _ => False) w wr)
  case atStart => exact ⟨0, by omega, by omega, rfl, rfl, Kept.refl _ _⟩
  case round =>
    obtain ⟨k, rfl, hk, rfl, HA, hkr⟩ := hrel
    by_cases hlt : k < ds.length
    · have hf : ds[k]? = some ds[k] := List.getElem?_eq_getElem hlt
      generalize ds[k] = d at hf
      have hr := h.kept hkr
      obtain ⟨hds, b, o, rfl, hb, hcell⟩ := hr.elem hf
      have ht := hr.take hk
      have hdo : depOk ds k = (nameB d && !inB (ds.take k) d) := by unfold depOk; rw [hf]
      have HDO := Lib.hid hdo
      have hic : k ≤ c := by omega
      have HNO : Hid (depOk ds k = false → headB name ds = false) := fun e => by unfold headB; rw [allTo_no e hlt]; rfl
      have HYES : Hid (depOk ds k = true → allTo (depOk ds) (k + 1) = true) := fun e => by
        show (allTo (depOk ds) k && depOk ds k) = true
        rw [HA.out, e]; rfl
      clear hdo hf
      have nc := isName_ct d wr hds
      generalize hnb : nameB d = nb at HDO nc
      go_wp2_with fail
      refine nc.mono ?_
      rintro e W ⟨rfl, k1⟩
      cases nb with
      | false =>
        have HF := Lib.hid (HNO.out HDO.out)
        clear HNO HYES nc
        go_wp2_with fail
        go_ret
        exact ⟨by rw [HF.out]; rfl, hkr.trans k1⟩
      | true =>
        have cc := contains_ct (ht.kept k1) d
        have sl := quiet_sliceH (w := W) (a := some ⟨b, o, none⟩) (n := ds.length) hic
        generalize inB (ds.take k) d = ib at HDO cc
        go_wp2_with fail
        refine cc.mono ?_
        rintro e W2 ⟨rfl, k2⟩
        have K2 := (hkr.trans k1).trans k2
        cases ib with
        | true =>
          have HF := Lib.hid (HNO.out HDO.out)
          clear HNO HYES nc cc
          go_wp2_with fail
          go_ret
          exact ⟨by rw [HF.out]; rfl, K2⟩
        | false =>
          have HT := Lib.hid (HYES.out HDO.out)
          clear HNO HYES nc cc
          go_wp2_with fail
          go_roundg (ds.length - (k + 1))
          case rel => exact ⟨k + 1, rfl, by omega, by go_num, HT.out, K2⟩
          case measure => omega
    · obtain rfl : k = ds.length := by omega
      have nc := isName_ct name wr hn
      have HH : Hid (headB name ds = (nameB name && decide (ds.length ≤ 5))) := by unfold Hid headB; rw [HA.out]; rfl
      generalize nameB name = nb at HH nc
      go_wp2_with fail
      refine nc.mono ?_
      rintro e W ⟨rfl, k1⟩
      cases nb with
      | false =>
        go_wp2_with fail
        go_ret
        exact ⟨by rw [HH.out]; rfl, hkr.trans k1⟩
      | true =>
        go_wp2_with fail
        go_ret
        refine ⟨?_, hkr.trans k1⟩
        have hd : decide ((ds.length : Int) ≤ 5) = decide (ds.length ≤ 5) := by rw [decide_eq_decide]; omega
        rw [HH.out, ← hd]; rfl
end Go.Proofs.YtfohljljoalmoaaDoor
