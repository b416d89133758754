/- merkle: leaves, up, Root. -/
import Derived.Test.YtehpaddddiigbaaDoorSR
namespace Go.Proofs.YtehpaddddiigbaaDoor
open Go.RowKit
set_option maxRecDepth 100000
set_option linter.unusedSimpArgs false
set_option linter.unusedVariables false


def dcs (l : List (List UInt8)) : List Value := (l.map bv).flatten
theorem dcs_app (l m : List (List UInt8)) : dcs (l ++ m) = dcs l ++ dcs m := by simp [dcs]
theorem dcs_one (d : List UInt8) : dcs [d] = bv d := by simp [dcs]
theorem dcs_len : ∀ {l : List (List UInt8)}, (∀ d ∈ l, d.length = 32) → (dcs l).length = 32 * l.length
  | [], _ => rfl
  | d :: l, h => by
    show (bv d ++ dcs l).length = _
    rw [List.length_append, bv_len, h d List.mem_cons_self, dcs_len fun e he => h e (List.mem_cons_of_mem _ he), List.length_cons]
    omega
theorem dcs_at : ∀ {l : List (List UInt8)}, (∀ d ∈ l, d.length = 32) → ∀ {i j : Nat}, i < l.length → j < 32 → (dcs l)[32 * i + j]? = (bv (l.getD i []))[j]?
  | [], _, _, _, hi, _ => absurd hi (by simp)
  | d :: l, h, 0, j, _, hj => by
    show (bv d ++ dcs l)[32 * 0 + j]? = _
    rw [Nat.mul_zero, Nat.zero_add, List.getElem?_append_left (by rw [bv_len, h d List.mem_cons_self]; exact hj)]
    rfl
  | d :: l, h, i + 1, j, hi, hj => by
    show (bv d ++ dcs l)[32 * (i + 1) + j]? = _
    rw [List.getElem?_append_right (by rw [bv_len, h d List.mem_cons_self]; omega), bv_len, h d List.mem_cons_self, show 32 * (i + 1) + j - 32 = 32 * i + j by omega]
    exact dcs_at (fun e he => h e (List.mem_cons_of_mem _ he)) (by simpa using hi) hj
theorem bslice_dig' (a0 a1 a2 a3 a4 a5 a6 a7 a8 a9 a10 a11 a12 a13 a14 a15 a16 a17 a18 a19 a20 a21 a22 a23 a24 a25 a26 a27 a28 a29 a30 a31 : UInt8) (w : World) : (Instr.buildSlice 59 1 #[(0, .agg #[.int .u8 (a0.toNat : Int), .int .u8 (a1.toNat : Int), .int .u8 (a2.toNat : Int), .int .u8 (a3.toNat : Int), .int .u8 (a4.toNat : Int), .int .u8 (a5.toNat : Int), .int .u8 (a6.toNat : Int), .int .u8 (a7.toNat : Int), .int .u8 (a8.toNat : Int), .int .u8 (a9.toNat : Int), .int .u8 (a10.toNat : Int), .int .u8 (a11.toNat : Int), .int .u8 (a12.toNat : Int), .int .u8 (a13.toNat : Int), .int .u8 (a14.toNat : Int), .int .u8 (a15.toNat : Int), .int .u8 (a16.toNat : Int), .int .u8 (a17.toNat : Int), .int .u8 (a18.toNat : Int), .int .u8 (a19.toNat : Int), .int .u8 (a20.toNat : Int), .int .u8 (a21.toNat : Int), .int .u8 (a22.toNat : Int), .int .u8 (a23.toNat : Int), .int .u8 (a24.toNat : Int), .int .u8 (a25.toNat : Int), .int .u8 (a26.toNat : Int), .int .u8 (a27.toNat : Int), .int .u8 (a28.toNat : Int), .int .u8 (a29.toNat : Int), .int .u8 (a30.toNat : Int), .int .u8 (a31.toNat : Int)])]).run Tryd.prog w = .ok (.slice (some ⟨w.heap.size, 0, none⟩) 1 1) (w.alloc (.cells #[.int .u8 (a0.toNat : Int), .int .u8 (a1.toNat : Int), .int .u8 (a2.toNat : Int), .int .u8 (a3.toNat : Int), .int .u8 (a4.toNat : Int), .int .u8 (a5.toNat : Int), .int .u8 (a6.toNat : Int), .int .u8 (a7.toNat : Int), .int .u8 (a8.toNat : Int), .int .u8 (a9.toNat : Int), .int .u8 (a10.toNat : Int), .int .u8 (a11.toNat : Int), .int .u8 (a12.toNat : Int), .int .u8 (a13.toNat : Int), .int .u8 (a14.toNat : Int), .int .u8 (a15.toNat : Int), .int .u8 (a16.toNat : Int), .int .u8 (a17.toNat : Int), .int .u8 (a18.toNat : Int), .int .u8 (a19.toNat : Int), .int .u8 (a20.toNat : Int), .int .u8 (a21.toNat : Int), .int .u8 (a22.toNat : Int), .int .u8 (a23.toNat : Int), .int .u8 (a24.toNat : Int), .int .u8 (a25.toNat : Int), .int .u8 (a26.toNat : Int), .int .u8 (a27.toNat : Int), .int .u8 (a28.toNat : Int), .int .u8 (a29.toNat : Int), .int .u8 (a30.toNat : Int), .int .u8 (a31.toNat : Int)] 27)) := by kernel_rfl
theorem bslice_dig (d : List UInt8) (hd : d.length = 32) (w : World) : (Instr.buildSlice 59 1 #[(0, (Value.agg (List.toArray (kv .u8 (nv d)))))]).run Tryd.prog w = .ok (.slice (some ⟨w.heap.size, 0, none⟩) 1 1) (w.alloc (.cells (kv .u8 (nv d)).toArray 27)) := by
  match d, hd with
  | [a0, a1, a2, a3, a4, a5, a6, a7, a8, a9, a10, a11, a12, a13, a14, a15, a16, a17, a18, a19, a20, a21, a22, a23, a24, a25, a26, a27, a28, a29, a30, a31], _ => exact bslice_dig' a0 a1 a2 a3 a4 a5 a6 a7 a8 a9 a10 a11 a12 a13 a14 a15 a16 a17 a18 a19 a20 a21 a22 a23 a24 a25 a26 a27 a28 a29 a30 a31 w
theorem bv_all (d : List UInt8) : ∀ u ∈ bv d, u.oneCell' = true := bv_one d
/-- One digest more in a row of the call's own. -/
theorem push_dig {w w0 : World} {base n : Nat} {v : Value} {l : List (List UInt8)} (h : w.ownsRow base 27 32 v n (dcs l)) (d : List UInt8) (hd : d.length = 32) (hn : n ≤ 100000) (hk : Kept (fun _ => False) w0 w) (hb : w0.heap.size ≤ base) (hb2 : base ≤ w.heap.size) (ty : TypeId) :
    ∃ a' c' w', (Builtin.append_ #[59, 59] ty #[v, .slice (some ⟨w.heap.size, 0, none⟩) 1 1]).run Tryd.prog (w.alloc (.cells (kv .u8 (nv d)).toArray 27)) = .ok (.slice a' (n + 1) c') w' ∧
      w'.ownsRow base 27 32 (.slice a' (n + 1) c') (n + 1) (dcs (l ++ [d])) ∧ Kept (fun _ => False) w0 w' ∧ base ≤ w'.heap.size := by
  have k1 : Kept (fun _ => False) w (w.alloc (.cells (kv .u8 (nv d)).toArray 27)) := (Kept.refl _ w).alloc _
  have ho := row_keep h k1
  have hg := heap_last w (.cells (kv .u8 (nv d)).toArray 27)
  obtain ⟨i, hi⟩ : ∃ i, Tryd.prog.info? 27 = some i := ⟨_, rfl⟩
  obtain ⟨z, hz⟩ : ∃ z, i.zero = some z := by injection hi with hi; subst hi; exact ⟨_, rfl⟩
  have hs : i.size = 32 := by injection hi with hi; subst hi; rfl
  have hzs : z.cells.size = 32 := by injection hi with hi; subst hi; injection hz with hz; subst hz; rfl
  have hby : i.bytes ≤ 32 := by injection hi with hi; subst hi; decide
  obtain ⟨v', w', a1, a2, a3, _⟩ := run_append_own (P := Tryd.prog) _ base 59 ty 27 i z 32 i.bytes Tryd.underlying59 hi hz hs rfl hzs (by omega) v n (dcs l) ho ⟨w.heap.size, 0, none⟩ 1 1 (bv d) (by simp [bv_len, hd])
    (fun j u hu => by
      rw [Addr.add_mid, Nat.zero_add, cell_of_row _ _ _ _ _ _ hg, nv_bv]
      simpa using hu) (bv_one d) (by simp only [maxLen]; omega)
    (by have : (n + 1) * i.bytes ≤ 100001 * 32 := Nat.mul_le_mul (by omega) hby; omega) (Nat.le_trans hb2 k1.size)
  rw [← dcs_one, ← dcs_app] at a2
  obtain ⟨a', c', rfl⟩ := row_form a2
  exact ⟨a', c', w', a1, a2, grown_kept (hk.trans k1) a3 (fun k e => Nat.le_trans hb (World.ownsRow.lt ho k e).1), Nat.le_trans (Nat.le_trans hb2 k1.size) a3.size⟩
/-- A digest out of a row. -/
theorem dig_load {w : World} {base : Nat} {v : Value} {n : Nat} {l : List (List UInt8)} (h : w.ownsRow base 27 32 v n (dcs l)) (hl : ∀ d ∈ l, d.length = 32) (hn : 0 < n) : ∃ g c, v = .slice (some ⟨g, 0, none⟩) n c ∧ l.length = n ∧ base ≤ g ∧ g < w.heap.size ∧
    ∀ w', Kept (fun _ => False) w w' → ∀ i < n, (Instr.loadAt 27 (.pointer (some ⟨g, i * 32, none⟩))).run Tryd.prog w' = .ok ((Value.agg (List.toArray (kv .u8 (nv (l.getD i [])))))) w' := by
  have h1 := h.1
  rw [dcs_len hl] at h1
  rcases h.2 with ⟨rfl, h0⟩ | ⟨g, cap, cur, rfl, hb, hg, hnc, hc, hs, ht⟩
  · omega
  · have hgl := (Array.getElem?_eq_some_iff.1 hg).1
    refine ⟨g, cap, rfl, by omega, hb, hgl, fun w' hk i hi => ?_⟩
    have hil : i < l.length := by omega
    have hmem : l.getD i [] ∈ l := by
      rw [List.getD_eq_getElem?_getD, List.getElem?_eq_getElem hil]
      exact List.getElem_mem hil
    have hdl := hl _ hmem
    have := run_loadAt_mid (P := Tryd.prog) w' g (i * 32) 27 (bv (l.getD i [])) _ (fun j u hu => by
      have hj : j < 32 := by have := (List.getElem?_eq_some_iff.1 hu).1; rw [bv_len, hdl] at this; exact this
      rw [hk.cell (p := ⟨g, i * 32 + j, none⟩) hgl not_false]
      have h3 := h.cells (g := g) rfl (32 * i + j) u (by rw [dcs_at hl hil hj]; exact hu)
      rw [Addr.add_mid, Nat.zero_add] at h3
      rw [Nat.mul_comm i 32]
      exact h3) Tryd.underlying27 rfl (by rw [bv_len, hdl]; kernel_rfl)
    rw [this, nv_bv]
def leavesL (b : List UInt8) : List (List UInt8) := (List.range (cnt b.length)).map fun i => leafL i (chunkL b i)
theorem leavesL_len (b : List UInt8) : (leavesL b).length = cnt b.length := by simp [leavesL]
theorem leafL_len (i : Nat) (c : List UInt8) : (leafL i c).length = 32 := outL_len _
theorem pairL_len (a b : List UInt8) : (pairL a b).length = 32 := outL_len _
theorem leavesL_32 (b : List UInt8) : ∀ d ∈ leavesL b, d.length = 32 := fun d hd => by
  obtain ⟨i, _, rfl⟩ := List.mem_map.1 hd
  exact leafL_len _ _
def upL : List (List UInt8) → List (List UInt8)
  | a :: b :: r => pairL a b :: upL r
  | [a] => [a]
  | [] => []
theorem upL_len : ∀ l : List (List UInt8), (upL l).length = (l.length + 1) / 2
  | [] => by simp [upL]
  | [_] => by simp [upL]
  | a :: b :: r => by
    show (pairL a b :: upL r).length = _
    rw [List.length_cons, upL_len r, List.length_cons, List.length_cons]
    omega
theorem upL_32 : ∀ {l : List (List UInt8)}, (∀ d ∈ l, d.length = 32) → ∀ d ∈ upL l, d.length = 32
  | [], _ => fun _ h => absurd h (by simp [upL])
  | [a], h => fun d hd => h d hd
  | a :: b :: r, h => fun d hd => by
    rcases List.mem_cons.1 (show d ∈ pairL a b :: upL r from hd) with rfl | hd
    · exact pairL_len a b
    · exact upL_32 (fun e he => h e (List.mem_cons_of_mem _ (List.mem_cons_of_mem _ he))) d hd
theorem upL_at : ∀ {l : List (List UInt8)} {i : Nat}, i < l.length / 2 → (upL l)[i]? = some (pairL (l.getD (2 * i) []) (l.getD (2 * i + 1) []))
  | [], i, h => absurd h (by simp)
  | [_], i, h => absurd h (by simp)
  | a :: b :: r, 0, _ => rfl
  | a :: b :: r, i + 1, h => by
    show (upL r)[i]? = _
    rw [upL_at (l := r) (by simp at h; omega)]
    rfl
theorem upL_last : ∀ {l : List (List UInt8)}, l.length % 2 = 1 → (upL l)[l.length / 2]? = some (l.getD (l.length - 1) [])
  | [], h => absurd h (by simp)
  | [_], _ => by simp [upL]
  | a :: b :: r, h => by
    have hr : r.length % 2 = 1 := by simp at h; omega
    have e1 : (a :: b :: r).length / 2 = r.length / 2 + 1 := by simp; omega
    rw [e1]
    show (upL r)[r.length / 2]? = _
    rw [upL_last hr]
    have e2 : (a :: b :: r).length - 1 = (r.length - 1) + 1 + 1 := by simp; omega
    rw [e2]
    rfl
set_option maxHeartbeats 4000000 in
theorem leaves_ct {w : World} {v : Value} {b : List UInt8} (h : ByC w v b) (hl : b.length ≤ 100000) (hT : Tabs w) :
    Calls Tryd.prog 35 #[v] w fun e w' => ∃ v', e = .returned v' ∧ w'.ownsRow w.heap.size 27 32 v' (cnt b.length) (dcs (leavesL b)) ∧ Kept (fun _ => False) w w' := by
  obtain ⟨va, vc, rfl, _⟩ := h.2
  have cc := count_ct b.length (by omega) w
  have hm2 : cnt b.length ≤ 10000 := by unfold cnt; omega
  obtain ⟨m, hm⟩ : ∃ m, cnt b.length = m := ⟨_, rfl⟩
  have HM := Lib.hid hm
  have hlm : leavesL b = (List.range m).map fun i => leafL i (chunkL b i) := by unfold leavesL; rw [hm]
  have HL := Lib.hid hlm
  rw [hm] at cc hm2
  clear hm hlm
  go_enter Tryd.func35, Tryd.ntmps35
  go_wp2_with fail
  refine cc.mono ?_
  rintro e W ⟨rfl, hW⟩
  subst hW
  go_wp2_with fail
  go_loopw [3, 10] (fun s x wr => ∃ k : Nat, k ≤ m ∧ x = .int .i64 k ∧ wr.ownsRow W.heap.size 27 32 s k (dcs ((List.range k).map fun i => leafL i (chunkL b i))) ∧ Kept (fun _ => False) W wr) (fun _ x _ => m - (intOf x).toNat)
  case atStart => exact ⟨0, by omega, rfl, World.ownsRow_nil _ _ _ _, Kept.refl _ _⟩
  case round =>
    obtain ⟨k, hk, rfl, ho, hkr⟩ := hrel
    obtain ⟨a, c, rfl⟩ := row_form ho
    by_cases hlt : k < m
    · have hlti : (k : Int) < (m : Int) := by omega
      have chc := chunk_ct (h.kept hkr) hl (i := k) (by rw [HM.out]; exact hlt)
      have hr : ((List.range (k + 1)).map fun i => leafL i (chunkL b i)) = ((List.range k).map fun i => leafL i (chunkL b i)) ++ [leafL k (chunkL b k)] := by rw [List.range_succ, List.map_append]; rfl
      have HR := Lib.hid hr
      have hch := chunkL_len b k
      have HCH := Lib.hid hch
      clear hr hch
      go_wp2_with fail
      refine chc.mono ?_
      rintro e W1 ⟨x, rfl, hx, k1⟩
      obtain ⟨xa, xc, hxv⟩ := hx.slc
      have lc := leaf_ct hx (by rw [HCH.out]; omega) (i := k) (by omega) (hT.kept (hkr.trans k1))
      subst hxv
      go_wp2_with fail
      refine lc.mono ?_
      rintro e W2 ⟨rfl, k2⟩
      have ho2 := row_keep ho (k1.trans k2)
      have bs := bslice_dig (leafL k (chunkL b k)) (leafL_len _ _) W2
      obtain ⟨a3, c3, W3, ap, ho3, k3, hs3⟩ := push_dig ho2 (leafL k (chunkL b k)) (leafL_len _ _) (by omega) ((hkr.trans k1).trans k2) (Nat.le_refl _) ((hkr.trans k1).trans k2).size 59
      rw [← HR.out] at ho3
      have HO := Lib.hid ho3
      clear ho ho2 ho3 hkr k1 k2 lc chc
      go_wp2_with (first
        | (with_reducible refine wpl_bslice 59 _ _ rfl rfl ?_ bs ?_
           · (go_simp <;> rfl)
           simp only [Act.put, List.getElem_toArray, List.getElem_cons_zero, List.getElem_cons_succ, List.setIfInBounds_toArray, List.set_cons_zero, List.set_cons_succ])
        | (refine wpl_val rfl (exec_append 59 _ _ rfl rfl rfl ap) ?_))
      go_roundw
      case rel => exact ⟨k + 1, by omega, by go_num, HO.out, k3⟩
      case measure => simp [intOf]; omega
    · obtain rfl : k = m := by omega
      have hlti : ¬ (k : Int) < (k : Int) := by omega
      rw [← HL.out] at ho
      have HF := Lib.hid ho
      clear ho
      go_wp2_with fail
      go_ret
      exact ⟨_, rfl, by rw [HM.out]; exact HF.out, hkr⟩
set_option maxHeartbeats 4000000 in
theorem up_ct {w : World} {base : Nat} {v : Value} {n : Nat} {l : List (List UInt8)} (h : w.ownsRow base 27 32 v n (dcs l)) (hl : ∀ d ∈ l, d.length = 32) (hn : 0 < n) (hn2 : n ≤ 10000) (hT : Tabs w) :
    Calls Tryd.prog 36 #[v] w fun e w' => ∃ v', e = .returned v' ∧ w'.ownsRow w.heap.size 27 32 v' ((n + 1) / 2) (dcs (upL l)) ∧ Kept (fun _ => False) w w' := by
  obtain ⟨g, c, rfl, hln, hbg, hgl, hld⟩ := dig_load h hl hn
  have HLN := Lib.hid hln
  obtain ⟨q, hq⟩ : ∃ q, q = n / 2 := ⟨_, rfl⟩
  have hqi : (n : Int) / 2 = (q : Int) := by omega
  have hq5 : q ≤ 5000 := by omega
  have HQ := Lib.hid hq
  have HLD := Lib.hid hld
  clear hln hq hld h
  go_enter Tryd.func36, Tryd.ntmps36
  go_wp2_with fail
  go_loopw [3, 8] (fun s x wr => ∃ k : Nat, k ≤ q ∧ x = .int .i64 k ∧ wr.ownsRow w.heap.size 27 32 s k (dcs ((upL l).take k)) ∧ Kept (fun _ => False) w wr) (fun _ x _ => q - (intOf x).toNat)
  case atStart => exact ⟨0, by omega, rfl, World.ownsRow_nil _ _ _ _, Kept.refl _ _⟩
  case round =>
    obtain ⟨k, hk, rfl, ho, hkr⟩ := hrel
    obtain ⟨a, c2, rfl⟩ := row_form ho
    by_cases hlt : k < q
    · have hlti : (k : Int) < (q : Int) := by omega
      have hkq := HQ.out
      obtain ⟨p0, hp0⟩ : ∃ p, p = 2 * k := ⟨_, rfl⟩
      obtain ⟨p1, hp1⟩ : ∃ p, p = p0 + 1 := ⟨_, rfl⟩
      have w0 : IntKind.i64.wrap (2 * (k : Int)) = (p0 : Int) := by rw [IntWalk.i64_in _ (by omega)]; omega
      have w1 : IntKind.i64.wrap ((p0 : Int) + 1) = (p1 : Int) := by rw [IntWalk.i64_in _ (by omega)]; omega
      have l0 : (p0 : Int) < (n : Int) := by omega
      have l1 : (p1 : Int) < (n : Int) := by omega
      have ld0 := fun w' (hk : Kept (fun _ => False) w w') => HLD.out w' hk p0 (by omega)
      have ld1 := fun w' (hk : Kept (fun _ => False) w w') => HLD.out w' hk p1 (by omega)
      have hat := upL_at (l := l) (i := k) (by rw [HLN.out, ← hkq]; exact hlt)
      rw [← hp0, ← hp1] at hat
      have hlen := upL_len l
      have ht : (upL l).take (k + 1) = (upL l).take k ++ [pairL (l.getD p0 []) (l.getD p1 [])] := by
        have hkl : k < (upL l).length := by rw [hlen, HLN.out]; omega
        rw [List.take_succ_eq_append_getElem hkl]
        rw [List.getElem?_eq_getElem hkl] at hat
        injection hat with hat
        rw [hat]
      have m0 : (l.getD p0 []).length = 32 := by
        have hp : p0 < l.length := by rw [HLN.out]; omega
        rw [List.getD_eq_getElem?_getD, List.getElem?_eq_getElem hp]; exact hl _ (List.getElem_mem hp)
      have m1 : (l.getD p1 []).length = 32 := by
        have hp : p1 < l.length := by rw [HLN.out]; omega
        rw [List.getD_eq_getElem?_getD, List.getElem?_eq_getElem hp]; exact hl _ (List.getElem_mem hp)
      generalize l.getD p0 [] = d0 at ld0 ht m0
      generalize l.getD p1 [] = d1 at ld1 ht m1
      have HT := Lib.hid ht
      have ho1 := row_keep ho ((Kept.refl (fun _ => False) wr).drew)
      clear hp0 hp1 hkq hat hlen ht ho
      go_wp2_with fail
      refine wp_region_held_drew (S := (Kept (fun _ => False) w)) (by kernel_rfl) (hkr.drew) (fun hHeld => ?_)
      refine held_q (v := ?_) (i := 0) rfl (by kernel_rfl) (by kernel_rfl) (by kernel_rfl) (fun _ _ _ h => h) (by rfl) hHeld ?_ ?_
      rotate_left
      · (intro w' hS'; go_simp <;> (with_reducible rfl))
      simp only [Act.put, List.getElem_toArray, List.getElem_cons_zero, List.getElem_cons_succ, List.setIfInBounds_toArray, List.set_cons_zero, List.set_cons_succ]
      refine held_q (v := ?_) (i := 1) rfl (by kernel_rfl) (by kernel_rfl) (by kernel_rfl) (fun _ _ _ h => h) (by rfl) hHeld ?_ ?_
      rotate_left
      · (intro w' hS'; go_simp <;> (with_reducible rfl))
      simp only [Act.put, List.getElem_toArray, List.getElem_cons_zero, List.getElem_cons_succ, List.setIfInBounds_toArray, List.set_cons_zero, List.set_cons_succ]
      refine held_q (v := ?_) (i := 2) rfl (by kernel_rfl) (by kernel_rfl) (by kernel_rfl) (fun _ _ _ h => h) (by rfl) hHeld ?_ ?_
      rotate_left
      · (intro w' hS'; go_simp <;> (with_reducible rfl))
      simp only [Act.put, List.getElem_toArray, List.getElem_cons_zero, List.getElem_cons_succ, List.setIfInBounds_toArray, List.set_cons_zero, List.set_cons_succ]
      refine held_q (v := ?_) (i := 3) rfl (by kernel_rfl) (by kernel_rfl) (by kernel_rfl) (fun _ _ _ h => h) (by rfl) hHeld ?_ ?_
      rotate_left
      · (intro w' hS'; go_simp <;> (with_reducible rfl))
      simp only [Act.put, List.getElem_toArray, List.getElem_cons_zero, List.getElem_cons_succ, List.setIfInBounds_toArray, List.set_cons_zero, List.set_cons_succ]
      refine held_q (v := ?_) (i := 4) rfl (by kernel_rfl) (by kernel_rfl) (by kernel_rfl) (fun _ _ _ h => h) (by rfl) hHeld ?_ ?_
      rotate_left
      · (intro w' hS'; go_simp <;> (with_reducible rfl))
      simp only [Act.put, List.getElem_toArray, List.getElem_cons_zero, List.getElem_cons_succ, List.setIfInBounds_toArray, List.set_cons_zero, List.set_cons_succ]
      refine held_q (i := 5) rfl (by kernel_rfl) (by kernel_rfl) (by kernel_rfl) (fun _ _ _ h => h) (by rfl) hHeld (fun w' hS' => exec_load 27 _ rfl rfl (ld0 w' hS')) ?_
      simp only [Act.put, List.getElem_toArray, List.getElem_cons_zero, List.getElem_cons_succ, List.setIfInBounds_toArray, List.set_cons_zero, List.set_cons_succ]
      refine held_q (v := ?_) (i := 6) rfl (by kernel_rfl) (by kernel_rfl) (by kernel_rfl) (fun _ _ _ h => h) (by rfl) hHeld ?_ ?_
      rotate_left
      · (intro w' hS'; go_simp <;> (with_reducible rfl))
      simp only [Act.put, List.getElem_toArray, List.getElem_cons_zero, List.getElem_cons_succ, List.setIfInBounds_toArray, List.set_cons_zero, List.set_cons_succ]
      refine held_q (v := ?_) (i := 7) rfl (by kernel_rfl) (by kernel_rfl) (by kernel_rfl) (fun _ _ _ h => h) (by rfl) hHeld ?_ ?_
      rotate_left
      · (intro w' hS'; go_simp <;> (with_reducible rfl))
      simp only [Act.put, List.getElem_toArray, List.getElem_cons_zero, List.getElem_cons_succ, List.setIfInBounds_toArray, List.set_cons_zero, List.set_cons_succ]
      refine held_q (v := ?_) (i := 8) rfl (by kernel_rfl) (by kernel_rfl) (by kernel_rfl) (fun _ _ _ h => h) (by rfl) hHeld ?_ ?_
      rotate_left
      · (intro w' hS'; go_simp <;> (with_reducible rfl))
      simp only [Act.put, List.getElem_toArray, List.getElem_cons_zero, List.getElem_cons_succ, List.setIfInBounds_toArray, List.set_cons_zero, List.set_cons_succ]
      refine held_q (v := ?_) (i := 9) rfl (by kernel_rfl) (by kernel_rfl) (by kernel_rfl) (fun _ _ _ h => h) (by rfl) hHeld ?_ ?_
      rotate_left
      · (intro w' hS'; go_simp <;> (with_reducible rfl))
      simp only [Act.put, List.getElem_toArray, List.getElem_cons_zero, List.getElem_cons_succ, List.setIfInBounds_toArray, List.set_cons_zero, List.set_cons_succ]
      refine held_q (v := ?_) (i := 10) rfl (by kernel_rfl) (by kernel_rfl) (by kernel_rfl) (fun _ _ _ h => h) (by rfl) hHeld ?_ ?_
      rotate_left
      · (intro w' hS'; go_simp <;> (with_reducible rfl))
      simp only [Act.put, List.getElem_toArray, List.getElem_cons_zero, List.getElem_cons_succ, List.setIfInBounds_toArray, List.set_cons_zero, List.set_cons_succ]
      refine held_q (i := 11) rfl (by kernel_rfl) (by kernel_rfl) (by kernel_rfl) (fun _ _ _ h => h) (by rfl) hHeld (fun w' hS' => exec_load 27 _ rfl rfl (ld1 w' hS')) ?_
      simp only [Act.put, List.getElem_toArray, List.getElem_cons_zero, List.getElem_cons_succ, List.setIfInBounds_toArray, List.set_cons_zero, List.set_cons_succ]
      refine held_c (i := 12) (f := 50) (args := #[(Value.agg (List.toArray (kv .u8 (nv d0)))), (Value.agg (List.toArray (kv .u8 (nv d1))))]) (by kernel_rfl) rfl (by rfl) ?_ (pair_ct d0 d1 m0 m1 (hT.kept hHeld)) ?_
      · (go_simp <;> rfl)
      rintro e W2 ⟨rfl, k2⟩
      have hHeld := hHeld.trans k2
      refine ⟨_, rfl, hHeld, ?_⟩
      simp only [Act.put, List.getElem_toArray, List.getElem_cons_zero, List.getElem_cons_succ, List.setIfInBounds_toArray, List.set_cons_zero, List.set_cons_succ]
      have ho2 := row_keep ho1 k2
      have bs := bslice_dig (pairL d0 d1) (pairL_len _ _) W2
      obtain ⟨a3, c3, W3, ap, ho3, k3, hs3⟩ := push_dig ho2 (pairL d0 d1) (pairL_len _ _) (by omega) hHeld (Nat.le_refl _) hHeld.size 59
      rw [← HT.out] at ho3
      have HO := Lib.hid ho3
      refine held_v (i := 13) (v := .slice (some ⟨W2.heap.size, 0, none⟩) 1 1) (w1 := W2.alloc (.cells (kv .u8 (nv (pairL d0 d1))).toArray 27)) (by kernel_rfl) rfl (by rfl) (exec_buildSlice (p := #[(0, (Value.agg (List.toArray (kv .u8 (nv (pairL d0 d1))))))]) 59 1 _ rfl (by go_simp <;> rfl) bs) (hHeld.alloc _) (fun hHeld => ?_)
      simp only [Act.put, List.getElem_toArray, List.getElem_cons_zero, List.getElem_cons_succ, List.setIfInBounds_toArray, List.set_cons_zero, List.set_cons_succ]
      refine held_v (i := 14) (v := .slice a3 (k + 1) c3) (w1 := W3) (by kernel_rfl) rfl (by rfl) (exec_append 59 _ _ rfl rfl rfl ap) k3 (fun hHeld => ?_)
      simp only [Act.put, List.getElem_toArray, List.getElem_cons_zero, List.getElem_cons_succ, List.setIfInBounds_toArray, List.set_cons_zero, List.set_cons_succ]
      refine held_q (v := ?_) (i := 15) rfl (by kernel_rfl) (by kernel_rfl) (by kernel_rfl) (fun _ _ _ h => h) (by rfl) hHeld ?_ ?_
      rotate_left
      · (intro w' hS'; go_simp <;> (with_reducible rfl))
      simp only [Act.put, List.getElem_toArray, List.getElem_cons_zero, List.getElem_cons_succ, List.setIfInBounds_toArray, List.set_cons_zero, List.set_cons_succ]
      refine wpAnyH_done (by kernel_rfl) ?_ _
      clear ho1 ho2 ho3 ld0 ld1
      go_wp2_with fail
      go_roundw
      case rel => exact ⟨k + 1, by omega, by go_num, HO.out, k3⟩
      case measure => simp [intOf]; omega
    · obtain rfl : k = q := by omega
      have hlti : ¬ (k : Int) < (k : Int) := by omega
      have hkq := HQ.out
      have hlen := upL_len l
      rw [HLN.out] at hlen
      by_cases hodd : n % 2 = 1
      · have hoi : ((n : Int) % 2 == 1) = true := by simp; omega
        obtain ⟨p, hp⟩ : ∃ p, p = n - 1 := ⟨_, rfl⟩
        have wp : (n : Int) - 1 = (p : Int) := by omega
        have lp : (p : Int) < (n : Int) := by omega
        have ld0 := HLD.out _ hkr p (by omega)
        have hat := upL_last (l := l) (by rw [HLN.out]; exact hodd)
        rw [HLN.out, ← hkq, ← hp] at hat
        have ht : upL l = (upL l).take k ++ [l.getD p []] := by
          have hkl : k < (upL l).length := by rw [hlen]; omega
          have h1 := List.take_succ_eq_append_getElem hkl
          rw [List.getElem?_eq_getElem hkl] at hat
          injection hat with hat
          rw [hat, List.take_of_length_le (by omega)] at h1
          exact h1
        have m0 : (l.getD p []).length = 32 := by
          have hp : p < l.length := by rw [HLN.out]; omega
          rw [List.getD_eq_getElem?_getD, List.getElem?_eq_getElem hp]; exact hl _ (List.getElem_mem hp)
        have hn12 : k + 1 = (n + 1) / 2 := by omega
        generalize l.getD p [] = d0 at ld0 ht m0
        have bs := bslice_dig d0 m0 wr
        obtain ⟨a3, c3, W3, ap, ho3, k3, hs3⟩ := push_dig ho d0 m0 (by omega) hkr (Nat.le_refl _) hkr.size 59
        rw [← ht] at ho3
        have HO := Lib.hid ho3
        have HN := Lib.hid hn12
        clear hp hat ht m0 hn12 ho3 ho hkq hlen hkr
        go_wp2_with (first
          | (with_reducible refine wpl_load 27 _ rfl rfl ?_ ld0 ?_
             · rfl
             simp only [Act.put, List.getElem_toArray, List.getElem_cons_zero, List.getElem_cons_succ, List.setIfInBounds_toArray, List.set_cons_zero, List.set_cons_succ])
          | (with_reducible refine wpl_bslice 59 _ _ rfl rfl ?_ bs ?_
             · (go_simp <;> rfl)
             simp only [Act.put, List.getElem_toArray, List.getElem_cons_zero, List.getElem_cons_succ, List.setIfInBounds_toArray, List.set_cons_zero, List.set_cons_succ])
          | (refine wpl_val rfl (exec_append 59 _ _ rfl rfl rfl ap) ?_))
        go_ret
        exact ⟨_, rfl, by rw [← HN.out]; exact HO.out, k3⟩
      · have hoi : ((n : Int) % 2 == 1) = false := by simp; omega
        have hn12 : k = (n + 1) / 2 := by omega
        rw [List.take_of_length_le (by omega)] at ho
        have HO := Lib.hid ho
        have HN := Lib.hid hn12
        clear hn12 ho hkq hlen
        go_wp2_with fail
        go_ret
        exact ⟨_, rfl, by rw [← HN.out]; exact HO.out, hkr⟩
/-- Rows on top of each other, till one digest is left. -/
def topOf (l : List (List UInt8)) : List UInt8 := if _h : l.length ≤ 1 then l.headD [] else topOf (upL l)
  termination_by l.length
  decreasing_by rw [upL_len]; omega
theorem topOf_one {l : List (List UInt8)} (h : l.length ≤ 1) : topOf l = l.headD [] := by rw [topOf, dif_pos h]
theorem topOf_up {l : List (List UInt8)} (h : 1 < l.length) : topOf l = topOf (upL l) := by rw [topOf, dif_neg (by omega)]
def rootL (b : List UInt8) : List UInt8 := topL b.length (topOf (leavesL b))
theorem rootL_len (b : List UInt8) : (rootL b).length = 32 := outL_len _
set_option maxHeartbeats 4000000 in
theorem mRoot_ct {w : World} {v : Value} {b : List UInt8} (h : ByC w v b) (hl : b.length ≤ 100000) (hT : Tabs w) :
    Calls Tryd.prog 20 #[v] w fun e w' => e = .returned ((Value.agg (List.toArray (kv .u8 (nv (rootL b)))))) ∧ Kept (fun _ => False) w w' := by
  have zz := zeroDig
  obtain ⟨va, vc, rfl, _⟩ := h.2
  go_enter Tryd.func20, Tryd.ntmps20
  go_upto_region 1 with (first
    | (with_reducible refine wpl_alloc 27 rfl rfl (zz _) ?_
       simp only [World.size_alloc, Act.put, List.getElem_toArray, List.getElem_cons_zero, List.getElem_cons_succ, List.setIfInBounds_toArray, List.set_cons_zero, List.set_cons_succ]))
  obtain ⟨X, hX⟩ : ∃ X, w.heap.size = X := ⟨_, rfl⟩
  have k0 := (Kept.refl (fun _ => False) w).alloc (.cells (kv .u8 z32).toArray 27)
  have m0 : Arr (w.alloc (.cells (kv .u8 z32).toArray 27)) X 27 .u8 z32 := Arr.new hX.symm
  rw [hX]
  generalize w.alloc (.cells (kv .u8 z32).toArray 27) = W0 at k0 m0 ⊢
  have HX := Lib.hid hX
  clear hX zz
  have hmm : cnt b.length ≤ 10000 ∧ 0 < cnt b.length := by unfold cnt; omega
  go_wp2_with fail
  refine (leaves_ct (h.kept k0) hl (hT.kept k0)).mono ?_
  rintro e W1 ⟨v1, rfl, ho1, k1⟩
  obtain ⟨a1, c1, rfl⟩ := row_form ho1
  have m1 := m0.stay k1 not_false
  have k01 := k0.trans k1
  obtain ⟨nb, hnb⟩ : ∃ nb, b.length = nb := ⟨_, rfl⟩
  have HR : Hid (rootL b = topL nb (topOf (leavesL b))) := by unfold Hid rootL; rw [hnb]
  obtain ⟨m, hm⟩ : ∃ m, cnt b.length = m := ⟨_, rfl⟩
  rw [hm] at ho1 hmm ⊢
  have hnb1 : nb ≤ 100000 := by omega
  have h32 := leavesL_32 b
  have hle := leavesL_len b
  rw [hm] at hle
  generalize leavesL b = L0 at *
  have H32 := Lib.hid h32
  have HLE := Lib.hid hle
  rw [hnb]
  clear hm hnb hl h32 hle
  go_wp2_with fail
  go_loopw [3] (fun s wr => ∃ (l : List (List UInt8)) (n base : Nat), 0 < n ∧ n ≤ 10000 ∧ Hid ((∀ d ∈ l, d.length = 32) ∧ topOf l = topOf L0 ∧ l.length = n) ∧ wr.ownsRow base 27 32 s n (dcs l) ∧ Arr wr X 27 .u8 z32 ∧ Kept (fun _ => False) w wr) (fun s _ => match s with | .slice _ n _ => n | _ => 0)
  case atStart => exact ⟨L0, m, _, hmm.2, hmm.1, ⟨H32.out, rfl, HLE.out⟩, ho1, m1, k01⟩
  case round =>
    clear ho1 m1 k01 hmm
    obtain ⟨l, n, base, hn0, hn1, HL, ho, m1, kr⟩ := hrel
    obtain ⟨a, c, rfl⟩ := row_form ho
    by_cases hlt : 1 < n
    · have hlti : (1 : Int) < (n : Int) := by omega
      have uc := up_ct ho HL.out.1 hn0 hn1 (hT.kept kr)
      have HL2 : Hid ((∀ d ∈ upL l, d.length = 32) ∧ topOf (upL l) = topOf L0 ∧ (upL l).length = (n + 1) / 2) :=
        ⟨upL_32 HL.out.1, by rw [← topOf_up (by rw [HL.out.2.2]; exact hlt)]; exact HL.out.2.1, by rw [upL_len, HL.out.2.2]⟩
      have HMS : Hid ((n + 1) / 2 < n ∧ 0 < (n + 1) / 2 ∧ (n + 1) / 2 ≤ 10000) := by unfold Hid; omega
      clear ho HL
      go_wp2_with fail
      refine uc.mono ?_
      rintro e W2 ⟨v2, rfl, ho2, k2⟩
      obtain ⟨a2, c2, rfl⟩ := row_form ho2
      have m2 := m1.stay k2 not_false
      have k3 := kr.trans k2
      clear m1 kr k2 uc
      go_wp2_with fail
      go_roundw
      case rel => exact ⟨upL l, (n + 1) / 2, _, HMS.out.2.1, HMS.out.2.2, HL2, ho2, m2, k3⟩
      case measure => exact HMS.out.1
    · obtain rfl : n = 1 := by omega
      obtain ⟨h32, htop, hlen⟩ := HL.out
      obtain ⟨g, c2, e2, _, hbg, hgl, hld⟩ := dig_load ho h32 (by decide)
      injection e2 with e21 _ e23
      subst e21 e23
      have ld := hld wr (Kept.refl _ _) 0 (by decide)
      rw [Nat.zero_mul] at ld
      rw [topOf_one (by omega)] at htop
      have hd32 : (l.getD 0 []).length = 32 := by
        rw [List.getD_eq_getElem?_getD, List.getElem?_eq_getElem (by omega)]; exact h32 _ (List.getElem_mem (by omega))
      have hh : l.headD [] = l.getD 0 [] := by cases l <;> rfl
      rw [hh] at htop
      have rc := mroot_ct nb (l.getD 0 []) (by omega) hd32 (hT.kept kr)
      rw [htop] at rc ld
      rw [← HR.out] at rc
      generalize topOf L0 = tt at *
      clear h32 htop hlen hld hd32 hh ho HL
      go_wp2_with (first
        | (with_reducible refine wpl_load 27 _ rfl rfl ?_ ld ?_
           · rfl
           simp only [Act.put, List.getElem_toArray, List.getElem_cons_zero, List.getElem_cons_succ, List.setIfInBounds_toArray, List.set_cons_zero, List.set_cons_succ]))
      refine rc.mono ?_
      rintro e W3 ⟨rfl, kq⟩
      have hdl : (nv (rootL b)).length = 32 := by rw [nv_len, rootL_len]
      have m2 := m1.stay kq not_false
      have s1 := stDig m2 (m := nv (rootL b)) rfl hdl
      have p1 := m2.put (nv (rootL b))
      have kp : Kept (fun _ => False) w (W3.setRow X (kv .u8 (nv (rootL b))).toArray) := (kr.trans kq).setRow (fun h => absurd h (by have := HX.out; omega)) _
      clear m1 m2 kr kq
      go_wp2_with (first
        | (with_reducible refine wpl_store 27 _ _ rfl rfl ?_ ?_ s1 ?_
           · rfl
           · rfl
           simp only [Act.put, List.getElem_toArray, List.getElem_cons_zero, List.getElem_cons_succ, List.setIfInBounds_toArray, List.set_cons_zero, List.set_cons_succ]))
      refine bodyPost_ret (results_cell_row rfl _ _ _ _ _ _ _ rfl p1 Tryd.underlying27 rfl (by rw [List.size_toArray, kv_len, hdl]; kernel_rfl)) rfl ?_
      exact ⟨rfl, kp⟩
