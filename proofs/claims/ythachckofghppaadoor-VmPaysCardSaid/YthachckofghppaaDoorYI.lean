/- bytes.CutSuffix at ten; append onto a fresh slice; vm.sorted. (The numbers in laysJoin are the seat's: wip/tools/layx.sh V laysJoin 'shelf_lay SlLaysJ.n14 Slb 14' - Derived.Ground.SlbNamesProg Derived.Shelf.Bytes.SlJoin prints them.) -/
import Derived.Test.YthachckofghppaaDoorYH
import Derived.Shelf.Bytes.SlJoin
import Derived.ArgAppend
namespace Go.Proofs.YthachckofghppaaDoor
open Go.RowKit
set_option maxRecDepth 100000
set_option linter.unusedSimpArgs false
set_option linter.unusedVariables false

def laysJoin_ren : Go.Shelf.Ren := ⟨fun | 14 => 44 | 15 => 62 | n => n, fun | 26 => 75 | 22 => 22 | 3 => 3 | 4 => 4 | 0 => 0 | 9 => 9 | 20 => 20 | 5 => 5 | n => n, fun | n => n⟩
theorem laysJoin : Go.Proofs.SlLaysJ.n14 Tryd.prog laysJoin_ren := {
  mixed := by kernel_rfl
  f14 := Tryd.func44.trans (congrArg some (by kernel_rfl))
  f15 := Tryd.func62.trans (congrArg some (by kernel_rfl))
  t0 := Tryd.underlying0
  a0 := Tryd.isAgg0
  z0 := Tryd.sizeOf0
  v0 := Tryd.zeroValue0
  t3 := Tryd.underlying3
  a3 := Tryd.isAgg3
  z3 := Tryd.sizeOf3
  v3 := Tryd.zeroValue3
  t4 := Tryd.underlying4
  a4 := Tryd.isAgg4
  z4 := Tryd.sizeOf4
  v4 := Tryd.zeroValue4
  t9 := Tryd.underlying9
  a9 := Tryd.isAgg9
  z9 := Tryd.sizeOf9
  v9 := Tryd.zeroValue9
  t20 := Tryd.underlying20
  a20 := Tryd.isAgg20
  z20 := Tryd.sizeOf20
  v20 := Tryd.zeroValue20
  t22 := Tryd.underlying22
  a22 := Tryd.isAgg22
  z22 := Tryd.sizeOf22
  v22 := Tryd.zeroValue22
  t26 := Tryd.underlying75
  a26 := Tryd.isAgg75
  z26 := Tryd.sizeOf75
  v26 := Tryd.zeroValue75
  t5 := Tryd.underlying5
  z5 := Tryd.sizeOf5
  i5 := by kernel_rfl }
def endsTen (l : List UInt8) : Bool := l.drop (l.length - 1) == [10]
theorem ByC.slc {w : World} {v : Value} {l : List UInt8} (h : ByC w v l) : ∃ a c, v = .slice a l.length c ∧ l.length ≤ c := by
  obtain ⟨_, a, c, h1, h2⟩ := h
  exact ⟨a, c, h1, h2⟩
set_option maxHeartbeats 1000000 in
theorem hasSuf_ct {w : World} {v : Value} {l : List UInt8} (h : ByC w v l) (hl : l.length ≤ 1000000) {b d : Nat} (hb : ByAt w (.slice (some ⟨b, 0, none⟩) 1 d) [10]) :
    Calls Tryd.prog 57 #[v, .slice (some ⟨b, 0, none⟩) 1 d] w fun e w' => e = .returned (.bool (endsTen l)) ∧ Kept (fun _ => False) w w' := by
  obtain ⟨a, c, hv, hc⟩ := h.slc
  subst hv
  by_cases h0 : l.length = 0
  · have : l = [] := List.eq_nil_of_length_eq_zero h0
    subst this
    go_enter Tryd.func57, Tryd.ntmps57
    go_wp2_with fail
    go_ret
    exact ⟨rfl, Kept.refl _ _⟩
  · obtain ⟨a', c', sl, hd⟩ := h.drop (i := l.length - 1) (by omega)
    have e1 : l.length - (l.length - 1) = 1 := by omega
    rw [e1] at sl hd
    have ec := bytesEqual_ct hd.1 hb
    have he : endsTen l = (l.drop (l.length - 1) == [10]) := rfl
    rw [← he] at ec
    have d1 : decide ((1 : Int) ≤ (l.length : Int)) = true := decide_eq_true (by omega)
    have w1 : IntKind.i64.wrap ((l.length : Int) - 1) = ((l.length - 1 : Nat) : Int) := by rw [IntWalk.i64_in _ (by omega)]; omega
    have hl1 : (1 : Int) ≤ (l.length : Int) := by omega
    clear hd h hb he e1
    generalize endsTen l = E at ec
    generalize ((l.length - 1 : Nat) : Int) = z at sl w1
    go_enter Tryd.func57, Tryd.ntmps57
    go_wp2_with (first
      | (refine wpl_val_g (by rfl) (exec_slice_l 22 _ _ rfl rfl rfl (sl _)) ?_))
    refine ec.mono ?_
    rintro e W2 ⟨rfl, k2⟩
    go_wp2_with fail
    go_ret
    exact ⟨rfl, k2⟩
theorem slice_h (a : Option Addr) (n c : Nat) {i : Nat} (hi : i ≤ c) (w : World) : (Instr.sliceAt 22 (.slice a n c) none (some (.int .i64 (i : Int))) none).run Tryd.prog w = .ok (.slice a i c) w := by
  rw [run_sliceAt_slice _ _ _ _ _ _ rfl, run_slice_h _ _ _ _ _ rfl _ _ (by omega) (by omega), sizeOf1]
  cases a <;> simp [Result.andThen, sliced, Addr.add]
theorem ByC.takeE {w : World} {a : Option Addr} {n c : Nat} {l : List UInt8} (h : ByC w (.slice a n c) l) {i : Nat} (hi : i ≤ l.length) : ByC w (.slice a i c) (l.take i) := by
  obtain ⟨hn, hc⟩ := h.cap
  obtain ⟨a', c', h1, h2⟩ := h.take hi
  have e := (h1 w).symm.trans (slice_h a n c (by omega) w)
  injection e with e
  injection e with e1 e2 e3
  subst e1 e3
  exact h2
def bodyL (l : List UInt8) : List UInt8 := if endsTen l = true then l.take (l.length - 1) else l
set_option maxHeartbeats 1000000 in
theorem cutSuf_ct {w : World} {v : Value} {l : List UInt8} (h : ByC w v l) (hl : l.length ≤ 1000000) {b d : Nat} (hb : ByAt w (.slice (some ⟨b, 0, none⟩) 1 d) [10]) :
    Calls Tryd.prog 40 #[v, .slice (some ⟨b, 0, none⟩) 1 d] w fun e w' => ∃ v', e = .returned (.tuple #[v', .bool (endsTen l)]) ∧ ByC w' v' (bodyL l) ∧ Kept (fun _ => False) w w' := by
  have hs := hasSuf_ct h hl hb
  obtain ⟨a, c, hv, hc⟩ := h.slc
  subst hv
  cases he : endsTen l with
  | false =>
    rw [he] at hs
    have hB : Hid (bodyL l = l) := by unfold Hid bodyL; rw [he]; rfl
    have hH := Lib.hid h
    clear h he
    go_enter Tryd.func40, Tryd.ntmps40
    go_wp2_with fail
    refine hs.mono ?_
    rintro e W2 ⟨rfl, k2⟩
    go_wp2_with fail
    go_ret2
    exact ⟨_, rfl, by rw [hB.out]; exact hH.out.kept k2, k2⟩
  | true =>
    rw [he] at hs
    have hB : Hid (bodyL l = l.take (l.length - 1)) := by unfold Hid bodyL; rw [he]; rfl
    have hne : l.length ≠ 0 := fun e => by
      have : l = [] := List.eq_nil_of_length_eq_zero e
      subst this; simp [endsTen] at he
    have hT := Lib.hid (h.takeE (i := l.length - 1) (by omega))
    have sl := fun w' => slice_h a l.length c (i := l.length - 1) (by omega) w'
    have w1 : IntKind.i64.wrap ((l.length : Int) - 1) = ((l.length - 1 : Nat) : Int) := by rw [IntWalk.i64_in _ (by omega)]; omega
    clear h he
    generalize l.length - 1 = m at sl w1 hT hB
    go_enter Tryd.func40, Tryd.ntmps40
    go_wp2_with fail
    refine hs.mono ?_
    rintro e W2 ⟨rfl, k2⟩
    go_wp2_with (first
      | (refine wpl_val rfl (exec_slice_h 22 _ _ rfl rfl rfl (sl _)) ?_))
    go_ret2
    exact ⟨_, rfl, by rw [hB.out]; exact hT.out.kept k2, k2⟩
/-- Bytes in memory at B or above. -/
def ByB (B : Nat) (w : World) (v : Value) (l : List UInt8) : Prop := ByC w v l ∧ ∀ a n c, v = .slice (some a) n c → B ≤ a.block
theorem ByB.x {B X : Nat} {w : World} {v : Value} {l : List UInt8} (h : ByB B w v l) (hX : X < B) : ByX X w v l := fun w' k => by
  obtain ⟨⟨⟨a, cap, hv, hm, hr⟩, hc⟩, hb⟩ := h
  refine ⟨⟨a, cap, hv, hm, fun hne => ?_⟩, hc⟩
  obtain ⟨g, o, rfl, hg, hra⟩ := hr hne
  have hB := hb _ _ _ hv
  exact ⟨g, o, rfl, Nat.lt_of_lt_of_le hg k.size, fun j u hj => (k.cell (p := ⟨g, o + j, none⟩) hg (by show ¬ g = X; have hB : B ≤ g := hB; omega)).trans (hra j u hj)⟩
theorem ByB.kept {B : Nat} {w w' : World} {v : Value} {l : List UInt8} (h : ByB B w v l) (k : Kept (fun _ => False) w w') : ByB B w' v l := ⟨h.1.kept k, h.2⟩
theorem ByB.low {B C : Nat} {w : World} {v : Value} {l : List UInt8} (h : ByB B w v l) (k : C ≤ B) : ByB C w v l := ⟨h.1, fun a n c e => Nat.le_trans k (h.2 a n c e)⟩
theorem ByB.nil (B : Nat) (w : World) (n : Nat) : ByB B w (.slice none 0 n) [] := ⟨⟨ByAt.nil w n, none, n, rfl, Nat.zero_le _⟩, fun a n c e => by cases e⟩
theorem ByB.own {B n : Nat} {w : World} {v : Value} {l : List UInt8} (h : w.ownsRow B 5 1 v n (bv l)) : ByB B w v l := ⟨ByC.own h, fun a n c e => by
  subst e
  rcases h.2 with ⟨e, _⟩ | ⟨g, cap, cur, e, hb, _⟩
  · cases e
  · injection e with e _ _
    injection e with e
    subst e; exact hb⟩
theorem fresh_by {B : Nat} {w : World} {v : Value} {l : List UInt8} (h : Lib.FreshBytes B w v l) : ByB B w v l := by
  obtain ⟨g, cap, zs, rfl, hB, hl, hm, hz, h256, hb, hc, _⟩ := h
  refine ⟨⟨⟨_, cap, rfl, by omega, fun hne => ⟨g, 0, rfl, ?_, fun j u hu => ?_⟩⟩, _, cap, rfl, hl⟩, fun a n c e => by injection e with e _ _; injection e with e; subst e; exact hB⟩
  · have h0 : 0 < l.length := List.length_pos_iff.2 hne
    exact World.block_lt_of_cell? w ⟨g, 0, none⟩ (hc 0 (by omega))
  · have hj := (List.getElem?_eq_some_iff.1 hu).1
    rw [bv_len] at hj
    rw [Nat.zero_add, hc j (by omega)]
    have e2 : (bv l)[j]? = some (.int .u8 ((l[j]).toNat : Int)) := by simp [bv, List.getElem?_eq_getElem hj]
    rw [e2] at hu
    injection hu with hu
    subst hu
    have hjz : j < zs.length := by omega
    have e3 : l[j] = UInt8.ofNat (zs[j]).toNat := by
      have : (Lib.bytesOf (zs.take l.length))[j]? = some l[j] := by rw [hb]; exact List.getElem?_eq_getElem hj
      unfold Lib.bytesOf at this
      rw [List.getElem?_map, List.getElem?_take_of_lt hj, List.getElem?_eq_getElem hjz] at this
      simpa using this.symm
    have hr := h256 zs[j] (List.getElem_mem hjz)
    have e4 : zs.getD j 0 = zs[j] := by simp [List.getD, List.getElem?_eq_getElem hjz]
    rw [e4, e3]
    congr 2
    rw [UInt8.toNat_ofNat']
    omega
/-- The zero of a byte, for append. -/
theorem info8 : ∃ i, Tryd.prog.info? 5 = some i ∧ i.zero = some (.int .u8 0) ∧ i.size = 1 ∧ i.bytes = 1 := ⟨_, rfl, rfl, rfl, rfl⟩
/-- A ten is appended. -/
theorem app_ten {w : World} {B : Nat} {v : Value} {l : List UInt8} (h : (v = .slice none 0 0 ∧ l = []) ∨ Lib.FreshBytes B w v l) (hB : B ≤ w.heap.size) (hl : l.length ≤ 1000000) {g d : Nat} (hg : w.cell? ⟨g, 0, none⟩ = some (.int .u8 10)) (ty : TypeId) :
    ∃ v' w', (Builtin.append_ #[22, 22] ty #[v, .slice (some ⟨g, 0, none⟩) 1 d]).run Tryd.prog w = .ok v' w' ∧ ByB B w' v' (l ++ [10]) ∧ Kept (fun k => B ≤ k) w w' := by
  have hgl := World.block_lt_of_cell? w ⟨g, 0, none⟩ hg
  have hten : ByAt w (.slice (some ⟨g, 0, none⟩) 1 d) [10] := ⟨_, d, rfl, by simp only [maxLen]; decide, fun _ => ⟨g, 0, rfl, hgl, fun j u hu => by
    match j, hu with
    | 0, hu => injection hu with hu; subst hu; exact hg⟩⟩
  rcases h with ⟨rfl, rfl⟩ | h
  · obtain ⟨v', w', ap, ho, hgr⟩ := app_by (World.ownsRow_nil w B 5 1) hten (by simp) hB ty
    rw [List.nil_append] at ho
    exact ⟨v', w', ap, ByB.own ho, (grown_kept (Kept.refl _ w) hgr (fun k e => by cases e)).mono (fun _ _ q => q.elim)⟩
  · have hby := fresh_by h
    obtain ⟨i, hi, hz, hs, hb⟩ := info8
    obtain ⟨gg, cap, zs, rfl, hBg, hlc, hm, hzl, h256, _, hc, hf⟩ := h
    have hgg : gg < w.heap.size ∨ l = [] := by
      by_cases h0 : 0 < cap
      · exact .inl (World.block_lt_of_cell? w ⟨gg, 0, none⟩ (hc 0 h0))
      · exact .inr (List.eq_nil_of_length_eq_zero (by omega))
    have hr : ∀ j u, (bv l)[j]? = some u → w.cell? ((⟨gg, 0, none⟩ : Addr).add j) = some u := fun j u hu => by
      have hne : l ≠ [] := fun e => by subst e; simp [bv] at hu
      obtain ⟨b, o, e, _, hra⟩ := hby.1.1.cells hne
      injection e with e
      injection e with e1 e2 _
      subst e1; subst e2
      rw [Addr.add_mid]
      exact hra j u hu
    have hnews : ∀ j u, (bv [10])[j]? = some u → w.cell? ((⟨g, 0, none⟩ : Addr).add j) = some u := fun j u hu => by
      match j, hu with
      | 0, hu => injection hu with hu; subst hu; rw [Addr.add_mid]; exact hg
    by_cases hroom : l.length + 1 ≤ cap
    · have ap := run_append_room_cells (P := Tryd.prog) w 22 ty 5 i Tryd.underlying22 hi gg 0 l.length cap ⟨g, 0, none⟩ 1 d (bv [10]) (by rw [hs]; rfl) hnews (bv_one _) hroom
        (fun j hj => by rw [bv_len] at hj; have : j = 0 := by simp at hj; exact hj
                        subst this; rw [hs, hc _ (by simp; omega)]; rfl)
        (fun j hj => by rw [bv_len] at hj; have : j = 0 := by simp at hj; exact hj
                        subst this; rw [hs, hf _ (by simp; omega)])
      have hlt : gg < w.heap.size := World.block_lt_of_cell? w ⟨gg, 0, none⟩ (hc 0 (by omega))
      have e0 : 0 + l.length * i.size = l.length := by rw [hs]; omega
      rw [e0] at ap
      refine ⟨_, _, ap, ?_, ?_⟩
      · have hC : ∀ j u, (bv (l ++ [10]))[j]? = some u → (w.setCell ⟨gg, l.length, none⟩ (.int .u8 10)).cell? ⟨gg, j, none⟩ = some u := fun j u hu => by
          have hj := (List.getElem?_eq_some_iff.1 hu).1
          rw [bv_len, List.length_append] at hj
          have hj : j < l.length + 1 := hj
          by_cases e : j = l.length
          · subst e
            rw [World.cell?_setCell_same _ _ _ (hc _ (by omega))]
            rw [bv_app, List.getElem?_append_right (by rw [bv_len]; exact Nat.le_refl _), bv_len, Nat.sub_self] at hu
            exact hu
          · rw [World.cell?_setCell_other _ _ _ _ (fun q => e (by injection q with _ q; exact q.symm))]
            rw [bv_app, List.getElem?_append_left (by rw [bv_len]; omega)] at hu
            have := hr j u hu
            rw [Addr.add_mid, Nat.zero_add] at this
            exact this
        refine ⟨⟨⟨_, cap, by rw [List.length_append]; rfl, by rw [List.length_append]; simp only [maxLen] at hm ⊢; simp; omega, fun _ => ⟨gg, 0, rfl, by show gg < (w.setCell _ _).heap.size; simpa [World.setCell] using hlt, fun j u hu => by rw [Nat.zero_add]; exact hC j u hu⟩⟩, _, cap, by rw [List.length_append]; rfl, by rw [List.length_append]; exact hroom⟩, fun a n c e => by injection e with e _ _; injection e with e; subst e; exact hBg⟩
      · exact (Kept.refl (fun k => B ≤ k) w).setCell (p := ⟨gg, l.length, none⟩) (fun _ => hBg) _
    · obtain ⟨v', w', ap, ho, hgr⟩ := run_append_arg_grows (P := Tryd.prog) w 22 ty 5 i (.int .u8 0) 1 1 Tryd.underlying22 hi hz hs hb rfl (by omega) ⟨gg, 0, none⟩ l.length cap (bv l) (by rw [bv_len]; omega) hr ⟨g, 0, none⟩ 1 d (bv [10]) rfl hnews (by omega) (by simp only [maxLen]; omega) (by omega)
      rw [← bv_app] at ho
      exact ⟨v', w', ap, (ByB.own ho).low hB, (grown_kept (Kept.refl _ w) hgr (fun k e => by cases e)).mono (fun _ _ q => q.elim)⟩
theorem bs10 (w : World) : (Instr.buildSlice 22 1 #[(0, .int .u8 10)]).run Tryd.prog w = .ok (.slice (some ⟨w.heap.size, 0, none⟩) 1 1) (w.alloc (.cells #[.int .u8 10] 5)) := by kernel_rfl
theorem conv10 (w : World) : (convert 22 22 (.slice (some ⟨w.heap.size, 0, none⟩) 1 1)).run Tryd.prog (w.alloc (.cells #[.int .u8 10] 5)) = .ok (.slice (some ⟨w.heap.size, 0, none⟩) 1 1) (w.alloc (.cells #[.int .u8 10] 5 (1, 2))) := Lib.run_convert_bytes_const (P := Tryd.prog) w 22 5 #[.int .u8 10] 1 1 Tryd.underlying22 Tryd.underlying5
/-- Lines in their order. -/
def sortL (b : List UInt8) : List UInt8 := if b = [] then [] else Lib.join (sortR (cutB (bodyL b))) [10] ++ (if endsTen b = true then [10] else [])
theorem holds_of {w : World} {v : Value} {l : List UInt8} (h : ByC w v l) : Lib.HoldsBytes w v l := by
  obtain ⟨⟨a, cap, hv, hm, hr⟩, _⟩ := h
  refine ⟨a, cap, hv, fun e => ?_, fun ad e i x hx => ?_⟩
  · apply Classical.byContradiction; intro hh
    obtain ⟨b, o, e2, _⟩ := hr hh
    rw [e] at e2; cases e2
  · obtain ⟨b, o, e2, _, hra⟩ := hr (fun q => by subst q; simp at hx)
    rw [e] at e2
    injection e2 with e2
    subst e2
    rw [Addr.add_mid]
    exact hra i _ (by simp [bv, hx])
theorem cutB_lens : ∀ l, Lib.lens (cutB l) + (cutB l).length = l.length + 1
  | [] => rfl
  | c :: r => by
    have ih := cutB_lens r
    unfold cutB
    split
    · rw [Lib.lens_cons]; simp; omega
    · cases hc : cutB r with
      | nil => exact absurd hc (cutB_ne r)
      | cons p ps =>
        rw [hc, Lib.lens_cons] at ih
        simp only
        rw [Lib.lens_cons]
        simp at ih ⊢
        omega
theorem lens_perm {a b : List (List UInt8)} (h : a.Perm b) : Lib.lens a = Lib.lens b := by
  unfold Lib.lens
  exact (h.map _).sum_nat
end Go.Proofs.YthachckofghppaaDoor
