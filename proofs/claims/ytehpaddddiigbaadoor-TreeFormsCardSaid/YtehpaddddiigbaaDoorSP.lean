/- sha's sum. -/
import Derived.Test.YtehpaddddiigbaaDoorSO
namespace Go.Proofs.YtehpaddddiigbaaDoor
open Go.RowKit
set_option maxRecDepth 100000
set_option linter.unusedSimpArgs false
set_option linter.unusedVariables false

/-- The program's two tables lie as its text lays them. -/
def Tabs (w : World) : Prop := Tab w 1 kW ∧ Tab w 0 hW
theorem Tabs.kept {w w' : World} (h : Tabs w) (hk : Kept (fun _ => False) w w') : Tabs w' := ⟨h.1.stay hk not_false, h.2.stay hk not_false⟩
theorem Tab.load8 {w : World} {g : Nat} (h : Tab w g hW) : (Instr.loadAt 64 (.pointer (some ⟨g, 0, none⟩))).run Tryd.prog w = .ok ((Value.agg (List.toArray (kv .u32 hW)))) w := by
  obtain ⟨T, fr, h⟩ := h
  exact load_row Tryd.underlying64 rfl h (by rw [List.size_toArray, kv_len, hW_len]; kernel_rfl)
theorem slice64 (a : Option Addr) {n c : Nat} (hn : 64 ≤ n) (hc : n ≤ c) (w : World) : (Instr.sliceAt 32 (.slice a n c) (some (.int .i64 64)) none none).run Tryd.prog w = .ok (.slice (if c = 64 then a else a.map (·.add 64)) (n - 64) (c - 64)) w := by
  have e : (Value.int .i64 64) = .int .i64 ((64 : Nat) : Int) := rfl
  rw [e, run_sliceAt_slice _ _ _ _ _ _ rfl, run_slice_l _ _ _ _ _ rfl _ _ (by omega) (by omega), sizeOf1]
  simp [Result.andThen, sliced]
theorem ByC.cap {w : World} {a : Option Addr} {n c : Nat} {l : List UInt8} (h : ByC w (.slice a n c) l) : n = l.length ∧ n ≤ c := by
  obtain ⟨_, a', c', e, hc⟩ := h
  injection e with e1 e2 e3
  subst e2 e3
  exact ⟨rfl, hc⟩
theorem padL_tail (b : List UInt8) {m : Nat} (h : 64 * m ≤ b.length) : (padL b).drop (64 * m) = pad0 (b.drop (64 * m)) (zN (b.drop (64 * m)).length) ++ be8 (b.length * 8) := by
  have hz : zN (b.drop (64 * m)).length = zN b.length := by rw [List.length_drop]; unfold zN; omega
  rw [hz]
  unfold padL pad0
  rw [List.append_assoc, List.append_assoc, List.drop_append_of_le_length h, ← List.append_assoc, ← List.append_assoc]
theorem padL_front (b : List UInt8) {m : Nat} (h : 64 * m ≤ b.length) : (padL b).take (64 * m) = b.take (64 * m) := by
  unfold padL pad0
  rw [List.append_assoc, List.append_assoc, List.take_append_of_le_length h]
theorem shaL_split (b : List UInt8) {m M : Nat} (h : 64 * m ≤ b.length) (hM : ((padL b).drop (64 * m)).length = 64 * M) : shaL b = outL (foldN (foldN H0 b m) ((padL b).drop (64 * m)) M) := by
  unfold shaL
  have hl : (padL b).length = 64 * (m + M) := by
    rw [List.length_drop] at hM
    have := padL_len b
    omega
  rw [hl, Nat.mul_div_cancel_left _ (by decide), foldN_add, foldN_front H0 m (padL_front b h)]
set_option maxHeartbeats 8000000 in
theorem sum_ct {w : World} {v : Value} {b : List UInt8} (h : ByC w v b) (hl : b.length ≤ 500000) (hT : Tabs w) :
    Calls Tryd.prog 64 #[v] w fun e w' => e = .returned ((Value.agg (List.toArray (kv .u8 (nv (shaL b)))))) ∧ Kept (fun _ => False) w w' := by
  have zz := zeroDig
  have z8' := zeroW8
  obtain ⟨va, vc, rfl, hvc⟩ := h.2
  go_enter Tryd.func64, Tryd.ntmps64
  go_upto_region 1 with (first
    | (with_reducible refine wpl_alloc 27 rfl rfl (zz _) ?_
       simp only [World.size_alloc, Act.put, List.getElem_toArray, List.getElem_cons_zero, List.getElem_cons_succ, List.setIfInBounds_toArray, List.set_cons_zero, List.set_cons_succ]))
  obtain ⟨X, hX⟩ : ∃ X, w.heap.size = X := ⟨_, rfl⟩
  have k0 := (Kept.refl (fun _ => False) w).alloc (.cells (kv .u8 z32).toArray 27)
  have m0 : Arr (w.alloc (.cells (kv .u8 z32).toArray 27)) X 27 .u8 z32 := Arr.new hX.symm
  have hsz : (w.alloc (.cells (kv .u8 z32).toArray 27)).heap.size = X + 1 := by rw [World.size_alloc, hX]
  rw [hX]
  generalize w.alloc (.cells (kv .u8 z32).toArray 27) = W0 at k0 m0 hsz ⊢
  have lf := (hT.kept k0).2.load8
  have s13 : (Instr.storeAt 64 (.pointer (some ⟨W0.heap.size, 0, none⟩)) ((Value.agg (List.toArray (kv .u32 hW))))).run Tryd.prog (W0.alloc (.cells (kv .u32 z8).toArray 64)) = .ok () (W0.alloc (.cells (kv .u32 hW).toArray 64)) :=
    store_new (by rw [List.size_toArray, kv_len, hW_len]; kernel_rfl) (by rw [List.size_toArray, List.size_toArray, kv_len, kv_len, hW_len]; rfl) (kv_one _ _) rfl
  have kd := (Kept.refl (fun _ => False) W0).alloc (.cells (kv .u32 hW).toArray 64)
  have n0 := m0.stay kd not_false
  have n1 : Arr (W0.alloc (.cells (kv .u32 hW).toArray 64)) (X + 1) 64 .u32 (wv H0.row) := by rw [H0_row]; exact Arr.new hsz.symm
  have k1 := k0.trans kd
  go_upto_region 3 with (first
    | (with_reducible refine wpl_load 64 _ rfl rfl ?_ lf ?_
       · rfl
       simp only [Act.put, List.getElem_toArray, List.getElem_cons_zero, List.getElem_cons_succ, List.setIfInBounds_toArray, List.set_cons_zero, List.set_cons_succ])
    | (with_reducible refine wpl_alloc 64 rfl rfl (z8' _) ?_
       simp only [World.size_alloc, Act.put, List.getElem_toArray, List.getElem_cons_zero, List.getElem_cons_succ, List.setIfInBounds_toArray, List.set_cons_zero, List.set_cons_succ])
    | (with_reducible refine wpl_store 64 _ _ rfl rfl ?_ ?_ s13 ?_
       · rfl
       · rfl
       simp only [Act.put, List.getElem_toArray, List.getElem_cons_zero, List.getElem_cons_succ, List.setIfInBounds_toArray, List.set_cons_zero, List.set_cons_succ]))
  rw [hsz]
  clear lf s13 kd m0 k0 hsz zz z8'
  generalize W0.alloc (.cells (kv .u32 hW).toArray 64) = W1 at n0 n1 k1 ⊢
  have HB := Lib.hid h
  clear h
  obtain ⟨nb, hnb⟩ : ∃ nb, b.length = nb := ⟨_, rfl⟩
  rw [hnb] at hvc hl ⊢
  have HNB := Lib.hid hnb
  have h1 : ByC w (.slice va nb vc) b := by rw [← hnb]; exact HB.out
  clear hnb
  go_loopw [0] (fun x wr => ∃ (k n c : Nat) (a : Option Addr), Hid (n + 64 * k = nb) ∧ x = .slice a n c ∧ n ≤ c ∧ n ≤ nb ∧ ByC w (.slice a n c) (b.drop (64 * k)) ∧ Arr wr X 27 .u8 z32 ∧ Arr wr (X + 1) 64 .u32 (wv (foldN H0 b k).row) ∧ Kept (fun _ => False) w wr) (fun x _ => match x with | .slice _ n _ => n | _ => 0)
  case atStart => exact ⟨0, nb, vc, va, by unfold Hid; omega, rfl, hvc, Nat.le_refl _, h1, n0, n1, k1⟩
  case round =>
    clear n0 n1 k1 h1 hvc
    obtain ⟨k, n, c, a, HK, rfl, hnc, hnn, hb, n0, n1, kr⟩ := hrel
    have hk := HK.out
    have hbn := HNB.out
    have hdl : (b.drop (64 * k)).length = n := by rw [List.length_drop]; omega
    by_cases hlt : 64 ≤ n
    · have hlti : (64 : Int) ≤ (n : Int) := by omega
      obtain ⟨g, off, rfl, hg, hrg⟩ := (hb.1.kept kr).cells (fun e => by rw [e] at hdl; simp at hdl; omega)
      have bc := block_ct (foldN H0 b k) (b.drop (64 * k)) (n := n) (cap := c) hrg hg (by omega) (by omega) (by omega) (hT.kept kr).1
      have hstep : blockF (foldN H0 b k) (b.drop (64 * k)) = foldN H0 b (k + 1) := rfl
      rw [hstep] at bc
      have d1 := ldW8 n1 (by rw [wv_len, s8_len])
      obtain ⟨a', c', hsl, hb2⟩ := hb.drop (i := 64) (by omega)
      rw [hdl] at hsl hb2
      rw [List.drop_drop, show 64 * k + 64 = 64 * (k + 1) by omega] at hb2
      have hcc := hb2.cap.2
      have hsl2 : ∀ w', (Instr.sliceAt 32 (.slice (some ⟨g, off, none⟩) n c) (some (.int .i64 64)) none none).run Tryd.prog w' = .ok (.slice a' (n - 64) c') w' := hsl
      have HK2 : Hid (n - 64 + 64 * (k + 1) = nb) := by unfold Hid; omega
      have HMS : Hid (n - 64 < n) := by unfold Hid; omega
      clear hk hbn hdl hstep hrg hsl
      go_wp2_with (first
        | (with_reducible refine wpl_load 64 _ rfl rfl ?_ d1 ?_
           · rfl
           simp only [Act.put, List.getElem_toArray, List.getElem_cons_zero, List.getElem_cons_succ, List.setIfInBounds_toArray, List.set_cons_zero, List.set_cons_succ]))
      refine bc.mono ?_
      rintro e W3 ⟨rfl, kq⟩
      have e0 := n0.stay kq not_false
      have e1 := n1.stay kq not_false
      have k3 := kr.trans kq
      have s0 := stW8 e1 (m := wv (foldN H0 b (k + 1)).row) (by rw [wv_len, s8_len]) (by rw [wv_len, s8_len])
      have p0 := e1.put (wv (foldN H0 b (k + 1)).row)
      have ks := (Kept.refl (fun j => j = X + 1) W3).setRow (b := X + 1) (fun _ => rfl) (kv .u32 (wv (foldN H0 b (k + 1)).row)).toArray
      have p1 := e0.stay ks (by omega)
      have k4 : Kept (fun _ => False) w (W3.setRow (X + 1) (kv .u32 (wv (foldN H0 b (k + 1)).row)).toArray) := k3.setRow (fun h => absurd h (by omega)) _
      clear n0 n1 kr kq e0 e1 k3 ks bc d1
      go_wp2_with (first
        | (with_reducible refine wpl_store 64 _ _ rfl rfl ?_ ?_ s0 ?_
           · rfl
           · rfl
           simp only [Act.put, List.getElem_toArray, List.getElem_cons_zero, List.getElem_cons_succ, List.setIfInBounds_toArray, List.set_cons_zero, List.set_cons_succ])
        | (refine wpl_val rfl (exec_slice_l 32 _ _ rfl rfl rfl (hsl2 _)) ?_))
      go_roundw
      case rel => exact ⟨k + 1, n - 64, c', a', HK2, rfl, hcc, by omega, hb2, p1, p0, k4⟩
      case measure => exact HMS.out
    · have hlti : ¬ (64 : Int) ≤ (n : Int) := by omega
      have h64 : 64 * k ≤ b.length := by omega
      have hpt := padL_tail b h64
      rw [hdl, hbn] at hpt
      have hb2 := hb.1.kept kr
      generalize htl : b.drop (64 * k) = tl at *
      obtain ⟨B, hB⟩ : ∃ B, wr.heap.size = B := ⟨_, rfl⟩
      have hXB := n1.lt
      rw [hB] at hXB
      obtain ⟨W4, hmk, ho0, hg0⟩ := make_by wr 128 (by decide)
      have kk0 : Kept (fun _ => False) wr W4 := grown_kept (Kept.refl _ wr) hg0 (fun k e => by cases e)
      rw [show ((128 : Nat) : Int) = 128 from rfl] at hmk
      obtain ⟨v1, W5, ap1, ho1, hg1⟩ := app_by (xs := bv []) ho0 (hb2.kept kk0) (by omega) kk0.size 32
      rw [← bv_app, List.nil_append, Nat.zero_add, hdl] at ho1
      have kk1 := grown_kept kk0 hg1 (fun k e => (World.ownsRow.lt ho0 k e).1)
      obtain ⟨a1, c1, rfl⟩ := row_form ho1
      obtain ⟨a2, c2, W6, W7, bs2, ap2, ho2, kk2, hs2⟩ := push1 ho1 128 (m := 128) rfl (by omega) kk1 (Nat.le_refl _) kk1.size 32
      rw [show tl ++ [128] = pad0 tl 0 by simp [pad0]] at ho2
      rw [hB] at ho2 hmk ap1
      have hwB : w.heap.size ≤ B := by have := kr.size; omega
      have zl := zN_lt n
      obtain ⟨m, hmm⟩ : ∃ m, m = nb * 8 := ⟨_, rfl⟩
      rw [← hmm] at hpt
      have wm : IntKind.u64.wrap ((nb : Int) * 8) = (m : Int) := by rw [IntWalk.u64_in _ (by omega)]; omega
      have hml' : (nb : Int) * 8 = (m : Int) := by omega
      have hn63 : n ≤ 63 := by omega
      have hHM := HNB.out
      have HQ := Lib.hid (And.intro hdl (And.intro htl (And.intro h64 (And.intro hpt (And.intro hmm hbn)))))
      have HBB := Lib.hid hB
      clear hB hk hbn hdl h64 hpt hmm htl hHM ho0 hg0 hg1 ho1 kk0 kk1 hs2 hb hb2
      go_wp2_with (first
        | (refine wpl_val rfl (exec_make 32 _ _ rfl rfl rfl hmk) ?_)
        | (with_reducible refine wpl_bslice 32 _ _ rfl rfl ?_ bs2 ?_
           · (go_simp <;> rfl)
           simp only [Act.put, List.getElem_toArray, List.getElem_cons_zero, List.getElem_cons_succ, List.setIfInBounds_toArray, List.set_cons_zero, List.set_cons_succ])
        | (refine wpl_val rfl (exec_append 32 _ _ rfl rfl rfl ap1) ?_)
        | (refine wpl_val rfl (exec_append 32 _ _ rfl rfl rfl ap2) ?_))
      clear hmk ap1 bs2 ap2
      rw [show W7.ownsRow B 5 1 (.slice a2 (n + 1) c2) (n + 1) (bv (pad0 tl 0)) ↔ W7.ownsRow wr.heap.size 5 1 (.slice a2 (n + 1) c2) (n + 1) (bv (pad0 tl 0)) by rw [HBB.out]] at ho2
      obtain ⟨wo, hwo⟩ : ∃ wo : World, wo = wr := ⟨_, rfl⟩
      rw [← hwo] at ho2 kk2 n0 n1 kr HBB
      clear hwo
      go_loopw [5] (fun s wr => ∃ j l : Nat, j ≤ zN n ∧ Hid (l = n + 1 + j) ∧ l ≤ 200 ∧ wr.ownsRow wo.heap.size 5 1 s l (bv (pad0 tl j)) ∧ Kept (fun _ => False) wo wr) (fun s wr => 200 - (match s with | .slice _ n _ => n | _ => 0))
      case atStart => exact ⟨0, n + 1, by omega, rfl, by omega, ho2, kk2⟩
      case round =>
        clear ho2 kk2
        obtain ⟨j, l, hj, HL, hl2, ho, hk⟩ := hrel
        obtain ⟨a3, c3, rfl⟩ := row_form ho
        have hll := HL.out
        have hz := zN_at hj
        rw [← hll] at hz
        by_cases hlt2 : j < zN n
        · have hm : ¬ l % 64 = 56 := by omega
          have hmi : ((l : Int) % 64 != 56) = true := by simp; omega
          obtain ⟨a1, c1, W1, W2, bs, ap, ho2, k2, hs2⟩ := push1 ho 0 (m := 0) rfl (by omega) hk (Nat.le_refl _) hk.size 32
          rw [pad0_succ] at ho2
          have HN2 : Hid (l + 1 = n + 1 + (j + 1)) := by unfold Hid; omega
          have HZ : Hid (200 - (l + 1) < 200 - l) := by unfold Hid; omega
          have HL2 : Hid (l + 1 ≤ 200) := by unfold Hid; omega
          clear hz hm hll ho hk
          go_wp2_with (first
            | (with_reducible refine wpl_bslice 32 _ _ rfl rfl ?_ bs ?_
               · (go_simp <;> rfl)
               simp only [Act.put, List.getElem_toArray, List.getElem_cons_zero, List.getElem_cons_succ, List.setIfInBounds_toArray, List.set_cons_zero, List.set_cons_succ])
            | (refine wpl_val rfl (exec_append 32 _ _ rfl rfl rfl ap) ?_))
          go_roundw
          case rel => exact ⟨j + 1, l + 1, by omega, HN2, HL2.out, ho2, k2⟩
          case measure => exact HZ.out
        · obtain rfl : j = zN n := by omega
          have hm : l % 64 = 56 := by omega
          have hmi : ((l : Int) % 64 != 56) = false := by simp; omega
          have wn : IntKind.u64.wrap (nb : Int) = (nb : Int) := IntWalk.u64_in _ (by omega)
          have HLB := Lib.hid hl
          clear hz hm hll hml'
          go_wp2_with fail
          clear hl
          go_loopw [5, 6] (fun s x wr => ∃ k : Nat, k ≤ 8 ∧ x = .int .i64 (56 - 8 * (k : Int)) ∧ (∃ n' : Nat, n' = l + k ∧ wr.ownsRow wo.heap.size 5 1 s n' (bv (pad0 tl (zN n) ++ (be8 m).take k))) ∧ Kept (fun _ => False) wo wr) (fun _ x _ => (intOf x + 8).toNat)
          case atStart => exact ⟨0, by omega, rfl, ⟨l, rfl, by simpa using ho⟩, hk⟩
          case round =>
            clear hk ho
            obtain ⟨k8, hk8, rfl, ⟨n', rfl, ho⟩, hk⟩ := hrel
            obtain ⟨a4, c4, rfl⟩ := row_form ho
            have hi9 : k8 = 0 ∨ k8 = 1 ∨ k8 = 2 ∨ k8 = 3 ∨ k8 = 4 ∨ k8 = 5 ∨ k8 = 6 ∨ k8 = 7 ∨ k8 = 8 := by omega
            rcases hi9 with rfl | rfl | rfl | rfl | rfl | rfl | rfl | rfl | rfl
            · have hkt : (be8 m).take (0 + 1) = (be8 m).take 0 ++ [UInt8.ofNat (m / 72057594037927936)] := rfl
              rw [show (56 - 8 * ((0 : Nat) : Int)) = 56 from rfl]
              obtain ⟨a1, c1, W1, W2, bs, ap, ho2, k2, hs2⟩ := push1 ho (UInt8.ofNat (m / 72057594037927936)) (m := (m : Int) / 72057594037927936 % 256) (by rw [u8of]; omega) (by omega) hk (Nat.le_refl _) hk.size 32
              rw [List.append_assoc, ← hkt] at ho2
              have HO := Lib.hid ho2
              clear ho2 hkt ho hk
              go_wp2_with (first
                | (with_reducible refine wpl_bslice 32 _ _ rfl rfl ?_ bs ?_
                   · (go_simp <;> rfl)
                   simp only [Act.put, List.getElem_toArray, List.getElem_cons_zero, List.getElem_cons_succ, List.setIfInBounds_toArray, List.set_cons_zero, List.set_cons_succ])
                | (refine wpl_val rfl (exec_append 32 _ _ rfl rfl rfl ap) ?_))
              go_roundw
              case rel => exact ⟨0 + 1, by omega, by go_num, ⟨l + 0 + 1, rfl, HO.out⟩, k2⟩
              case measure => simp [intOf]
            · have hkt : (be8 m).take (1 + 1) = (be8 m).take 1 ++ [UInt8.ofNat (m / 281474976710656)] := rfl
              rw [show (56 - 8 * ((1 : Nat) : Int)) = 48 from rfl]
              obtain ⟨a1, c1, W1, W2, bs, ap, ho2, k2, hs2⟩ := push1 ho (UInt8.ofNat (m / 281474976710656)) (m := (m : Int) / 281474976710656 % 256) (by rw [u8of]; omega) (by omega) hk (Nat.le_refl _) hk.size 32
              rw [List.append_assoc, ← hkt] at ho2
              have HO := Lib.hid ho2
              clear ho2 hkt ho hk
              go_wp2_with (first
                | (with_reducible refine wpl_bslice 32 _ _ rfl rfl ?_ bs ?_
                   · (go_simp <;> rfl)
                   simp only [Act.put, List.getElem_toArray, List.getElem_cons_zero, List.getElem_cons_succ, List.setIfInBounds_toArray, List.set_cons_zero, List.set_cons_succ])
                | (refine wpl_val rfl (exec_append 32 _ _ rfl rfl rfl ap) ?_))
              go_roundw
              case rel => exact ⟨1 + 1, by omega, by go_num, ⟨l + 1 + 1, rfl, HO.out⟩, k2⟩
              case measure => simp [intOf]
            · have hkt : (be8 m).take (2 + 1) = (be8 m).take 2 ++ [UInt8.ofNat (m / 1099511627776)] := rfl
              rw [show (56 - 8 * ((2 : Nat) : Int)) = 40 from rfl]
              obtain ⟨a1, c1, W1, W2, bs, ap, ho2, k2, hs2⟩ := push1 ho (UInt8.ofNat (m / 1099511627776)) (m := (m : Int) / 1099511627776 % 256) (by rw [u8of]; omega) (by omega) hk (Nat.le_refl _) hk.size 32
              rw [List.append_assoc, ← hkt] at ho2
              have HO := Lib.hid ho2
              clear ho2 hkt ho hk
              go_wp2_with (first
                | (with_reducible refine wpl_bslice 32 _ _ rfl rfl ?_ bs ?_
                   · (go_simp <;> rfl)
                   simp only [Act.put, List.getElem_toArray, List.getElem_cons_zero, List.getElem_cons_succ, List.setIfInBounds_toArray, List.set_cons_zero, List.set_cons_succ])
                | (refine wpl_val rfl (exec_append 32 _ _ rfl rfl rfl ap) ?_))
              go_roundw
              case rel => exact ⟨2 + 1, by omega, by go_num, ⟨l + 2 + 1, rfl, HO.out⟩, k2⟩
              case measure => simp [intOf]
            · have hkt : (be8 m).take (3 + 1) = (be8 m).take 3 ++ [UInt8.ofNat (m / 4294967296)] := rfl
              rw [show (56 - 8 * ((3 : Nat) : Int)) = 32 from rfl]
              obtain ⟨a1, c1, W1, W2, bs, ap, ho2, k2, hs2⟩ := push1 ho (UInt8.ofNat (m / 4294967296)) (m := (m : Int) / 4294967296 % 256) (by rw [u8of]; omega) (by omega) hk (Nat.le_refl _) hk.size 32
              rw [List.append_assoc, ← hkt] at ho2
              have HO := Lib.hid ho2
              clear ho2 hkt ho hk
              go_wp2_with (first
                | (with_reducible refine wpl_bslice 32 _ _ rfl rfl ?_ bs ?_
                   · (go_simp <;> rfl)
                   simp only [Act.put, List.getElem_toArray, List.getElem_cons_zero, List.getElem_cons_succ, List.setIfInBounds_toArray, List.set_cons_zero, List.set_cons_succ])
                | (refine wpl_val rfl (exec_append 32 _ _ rfl rfl rfl ap) ?_))
              go_roundw
              case rel => exact ⟨3 + 1, by omega, by go_num, ⟨l + 3 + 1, rfl, HO.out⟩, k2⟩
              case measure => simp [intOf]
            · have hkt : (be8 m).take (4 + 1) = (be8 m).take 4 ++ [UInt8.ofNat (m / 16777216)] := rfl
              rw [show (56 - 8 * ((4 : Nat) : Int)) = 24 from rfl]
              obtain ⟨a1, c1, W1, W2, bs, ap, ho2, k2, hs2⟩ := push1 ho (UInt8.ofNat (m / 16777216)) (m := (m : Int) / 16777216 % 256) (by rw [u8of]; omega) (by omega) hk (Nat.le_refl _) hk.size 32
              rw [List.append_assoc, ← hkt] at ho2
              have HO := Lib.hid ho2
              clear ho2 hkt ho hk
              go_wp2_with (first
                | (with_reducible refine wpl_bslice 32 _ _ rfl rfl ?_ bs ?_
                   · (go_simp <;> rfl)
                   simp only [Act.put, List.getElem_toArray, List.getElem_cons_zero, List.getElem_cons_succ, List.setIfInBounds_toArray, List.set_cons_zero, List.set_cons_succ])
                | (refine wpl_val rfl (exec_append 32 _ _ rfl rfl rfl ap) ?_))
              go_roundw
              case rel => exact ⟨4 + 1, by omega, by go_num, ⟨l + 4 + 1, rfl, HO.out⟩, k2⟩
              case measure => simp [intOf]
            · have hkt : (be8 m).take (5 + 1) = (be8 m).take 5 ++ [UInt8.ofNat (m / 65536)] := rfl
              rw [show (56 - 8 * ((5 : Nat) : Int)) = 16 from rfl]
              obtain ⟨a1, c1, W1, W2, bs, ap, ho2, k2, hs2⟩ := push1 ho (UInt8.ofNat (m / 65536)) (m := (m : Int) / 65536 % 256) (by rw [u8of]; omega) (by omega) hk (Nat.le_refl _) hk.size 32
              rw [List.append_assoc, ← hkt] at ho2
              have HO := Lib.hid ho2
              clear ho2 hkt ho hk
              go_wp2_with (first
                | (with_reducible refine wpl_bslice 32 _ _ rfl rfl ?_ bs ?_
                   · (go_simp <;> rfl)
                   simp only [Act.put, List.getElem_toArray, List.getElem_cons_zero, List.getElem_cons_succ, List.setIfInBounds_toArray, List.set_cons_zero, List.set_cons_succ])
                | (refine wpl_val rfl (exec_append 32 _ _ rfl rfl rfl ap) ?_))
              go_roundw
              case rel => exact ⟨5 + 1, by omega, by go_num, ⟨l + 5 + 1, rfl, HO.out⟩, k2⟩
              case measure => simp [intOf]
            · have hkt : (be8 m).take (6 + 1) = (be8 m).take 6 ++ [UInt8.ofNat (m / 256)] := rfl
              rw [show (56 - 8 * ((6 : Nat) : Int)) = 8 from rfl]
              obtain ⟨a1, c1, W1, W2, bs, ap, ho2, k2, hs2⟩ := push1 ho (UInt8.ofNat (m / 256)) (m := (m : Int) / 256 % 256) (by rw [u8of]; omega) (by omega) hk (Nat.le_refl _) hk.size 32
              rw [List.append_assoc, ← hkt] at ho2
              have HO := Lib.hid ho2
              clear ho2 hkt ho hk
              go_wp2_with (first
                | (with_reducible refine wpl_bslice 32 _ _ rfl rfl ?_ bs ?_
                   · (go_simp <;> rfl)
                   simp only [Act.put, List.getElem_toArray, List.getElem_cons_zero, List.getElem_cons_succ, List.setIfInBounds_toArray, List.set_cons_zero, List.set_cons_succ])
                | (refine wpl_val rfl (exec_append 32 _ _ rfl rfl rfl ap) ?_))
              go_roundw
              case rel => exact ⟨6 + 1, by omega, by go_num, ⟨l + 6 + 1, rfl, HO.out⟩, k2⟩
              case measure => simp [intOf]
            · have hkt : (be8 m).take (7 + 1) = (be8 m).take 7 ++ [UInt8.ofNat (m / 1)] := rfl
              rw [show (56 - 8 * ((7 : Nat) : Int)) = 0 from rfl]
              obtain ⟨a1, c1, W1, W2, bs, ap, ho2, k2, hs2⟩ := push1 ho (UInt8.ofNat (m / 1)) (m := (m : Int) / 1 % 256) (by rw [u8of]; omega) (by omega) hk (Nat.le_refl _) hk.size 32
              rw [List.append_assoc, ← hkt] at ho2
              have HO := Lib.hid ho2
              clear ho2 hkt ho hk
              go_wp2_with (first
                | (with_reducible refine wpl_bslice 32 _ _ rfl rfl ?_ bs ?_
                   · (go_simp <;> rfl)
                   simp only [Act.put, List.getElem_toArray, List.getElem_cons_zero, List.getElem_cons_succ, List.setIfInBounds_toArray, List.set_cons_zero, List.set_cons_succ])
                | (refine wpl_val rfl (exec_append 32 _ _ rfl rfl rfl ap) ?_))
              go_roundw
              case rel => exact ⟨7 + 1, by omega, by go_num, ⟨l + 7 + 1, rfl, HO.out⟩, k2⟩
              case measure => simp [intOf]
            · rw [show (56 - 8 * ((8 : Nat) : Int)) = -8 from rfl]
              have hf : (be8 m).take 8 = be8 m := List.take_of_length_le (Nat.le_of_eq (be8_len m))
              obtain ⟨hdl, htl, h64, hpt, hmm, hbn⟩ := HQ.out
              rw [hf, ← hpt] at ho
              obtain ⟨g, c5, e5, hbg, hgw, hlc, hpl, hrg⟩ := row_range ho (by omega)
              injection e5 with e51 _ e53
              subst e51 e53
              have hmod : (l + 8) % 64 = 0 := by have := HL.out; unfold zN at this; omega
              obtain ⟨M, hM⟩ : ∃ M, l + 8 = 64 * M := ⟨(l + 8) / 64, by omega⟩
              have hsp := shaL_split b (m := k) (M := M) h64 (by rw [hpl, hM])
              have hXg : X + 1 < g := by have := HBB.out; omega
              have m0 := n0.stay hk not_false
              have m1 := n1.stay hk not_false
              have kw := kr.trans hk
              have hM3 : M ≤ 4 := by omega
              rw [hM] at hpl hlc
              generalize hS : foldN H0 b k = S at *
              generalize hp : (padL b).drop (64 * k) = p at *
              have HSP := Lib.hid hsp
              have HPL := Lib.hid hpl
              have h85 : Hid (l + 8 = 64 * M) := hM
              rw [hM]
              clear hf hdl htl h64 hpt hmm hbn ho hbg hmod hM hsp hpl hS hp hk HQ HL n0 n1 kr wm wn
              go_wp2_with fail
              go_loopw [5] (fun x wr => ∃ (j nn cc : Nat) (aa : Option Addr), Hid (nn + 64 * j = 64 * M) ∧ x = .slice aa nn cc ∧ nn ≤ cc ∧ nn ≤ 64 * M ∧ Hid (nn ≠ 0 → aa = some ⟨g, 64 * j, none⟩) ∧ Arr wr X 27 .u8 z32 ∧ Arr wr (X + 1) 64 .u32 (wv (foldN S p j).row) ∧ wr.rangeAt g 0 (bv p) ∧ g < wr.heap.size ∧ Kept (fun _ => False) w wr) (fun x _ => match x with | .slice _ n _ => n | _ => 0)
              case atStart => exact ⟨0, 64 * M, _, _, rfl, rfl, hlc, Nat.le_refl _, (fun _ => rfl), m0, m1, hrg, hgw, kw⟩
              case round =>
                clear m0 m1 kw hrg hgw hlc
                obtain ⟨j, nn, cc, aa, HJ, rfl, hnc2, hnM, HA, m0, m1, hrg, hgw, kr⟩ := hrel
                have hjj := HJ.out
                by_cases hpos : 0 < nn
                · have hposi : (0 : Int) < (nn : Int) := by omega
                  have hn64 : 64 ≤ nn := by omega
                  obtain rfl := HA.out (by omega)
                  have hdr := range_drop (k := 64 * j) hrg
                  rw [Nat.zero_add] at hdr
                  have bc := block_ct (foldN S p j) (p.drop (64 * j)) (n := nn) (cap := cc) hdr hgw (by rw [List.length_drop, HPL.out]; omega) hn64 (by omega) (hT.kept kr).1
                  rw [show blockF (foldN S p j) (p.drop (64 * j)) = foldN S p (j + 1) from rfl] at bc
                  have d1 := ldW8 m1 (by rw [wv_len, s8_len])
                  have hsl := slice64 (some ⟨g, 64 * j, none⟩) hn64 hnc2
                  have hA2 : Hid (nn - 64 ≠ 0 → (if cc = 64 then (some ⟨g, 64 * j, none⟩ : Option Addr) else Option.map (fun x : Addr => x.add 64) (some ⟨g, 64 * j, none⟩)) = some ⟨g, 64 * (j + 1), none⟩) := fun h => by
                    rw [if_neg (by omega)]
                    simp [Addr.add]

                  generalize (if cc = 64 then (some ⟨g, 64 * j, none⟩ : Option Addr) else Option.map (fun x : Addr => x.add 64) (some ⟨g, 64 * j, none⟩)) = aa2 at hsl hA2
                  have HJ2 : Hid (nn - 64 + 64 * (j + 1) = 64 * M) := by unfold Hid; omega
                  have HMS : Hid (nn - 64 < nn) := by unfold Hid; omega
                  have hcc : nn - 64 ≤ cc - 64 := by omega
                  have hcM : nn - 64 ≤ 64 * M := by omega
                  have HCC := Lib.hid (And.intro hcc hcM)
                  clear hdr hjj hcc hcM
                  go_wp2_with (first
                    | (with_reducible refine wpl_load 64 _ rfl rfl ?_ d1 ?_
                       · rfl
                       simp only [Act.put, List.getElem_toArray, List.getElem_cons_zero, List.getElem_cons_succ, List.setIfInBounds_toArray, List.set_cons_zero, List.set_cons_succ]))
                  refine bc.mono ?_
                  rintro e W8 ⟨rfl, kq⟩
                  have e0 := m0.stay kq not_false
                  have e1 := m1.stay kq not_false
                  have k3 := kr.trans kq
                  have hr3 := rangeAt_stay kq hgw not_false hrg
                  have hg3 := Nat.lt_of_lt_of_le hgw kq.size
                  have s0 := stW8 e1 (m := wv (foldN S p (j + 1)).row) (by rw [wv_len, s8_len]) (by rw [wv_len, s8_len])
                  have p0 := e1.put (wv (foldN S p (j + 1)).row)
                  have ks := (Kept.refl (fun j => j = X + 1) W8).setRow (b := X + 1) (fun _ => rfl) (kv .u32 (wv (foldN S p (j + 1)).row)).toArray
                  have p1 := e0.stay ks (by omega)
                  have hr4 := rangeAt_stay ks hg3 (by omega) hr3
                  have hg4 := Nat.lt_of_lt_of_le hg3 ks.size
                  have k4 : Kept (fun _ => False) w (W8.setRow (X + 1) (kv .u32 (wv (foldN S p (j + 1)).row)).toArray) := k3.setRow (fun h => absurd h (by omega)) _
                  clear m0 m1 kr kq e0 e1 k3 ks bc d1 hr3 hg3 hrg hgw
                  go_wp2_with (first
                    | (with_reducible refine wpl_store 64 _ _ rfl rfl ?_ ?_ s0 ?_
                       · rfl
                       · rfl
                       simp only [Act.put, List.getElem_toArray, List.getElem_cons_zero, List.getElem_cons_succ, List.setIfInBounds_toArray, List.set_cons_zero, List.set_cons_succ])
                    | (refine wpl_val rfl (exec_slice_l 32 _ _ rfl rfl rfl (hsl _)) ?_))
                  go_roundw
                  case rel => exact ⟨j + 1, nn - 64, cc - 64, aa2, HJ2, rfl, HCC.out.1, HCC.out.2, hA2, p1, p0, hr4, hg4, k4⟩
                  case measure => exact HMS.out
                · obtain rfl : nn = 0 := by omega
                  obtain rfl : j = M := by omega
                  clear hjj HJ HA hrg hgw
                  generalize hS2 : foldN S p j = S2 at *
                  obtain ⟨L, hLd⟩ : ∃ L, L = nv (outL S2) := ⟨_, rfl⟩
                  have hLl : L.length = 32 := by rw [hLd, nv_len, outL_len]
                  have HL := Lib.hid hLd
                  rw [z32_part S2, ← hLd] at m0
                  clear hLd hS2
                  go_wp2_with fail
                  go_loopw [52] (fun x wr => ∃ i : Nat, i ≤ 32 ∧ x = .int .i64 i ∧ Arr wr X 27 .u8 (part L 32 i) ∧ Arr wr (X + 1) 64 .u32 (wv S2.row) ∧ Kept (fun _ => False) w wr) (fun x _ => 32 - (intOf x).toNat)
                  case atStart => exact ⟨0, by omega, rfl, m0, m1, kr⟩
                  case round =>
                    clear m0 m1 kr
                    obtain ⟨i, hi, rfl, m3, m0, kr⟩ := hrel
                    by_cases hlt : i < 32
                    · have hlti : (i : Int) < 32 := by omega
                      obtain ⟨q, hq⟩ : ∃ q, q = i / 4 := ⟨_, rfl⟩
                      have hqi : (i : Int) / 4 = (q : Int) := by omega
                      have hq8 : (q : Int) < 8 := by omega
                      have cx := m0.wcell (j := q) (by rw [s8_len]; omega)
                      have hat := outL_at S2 hlt
                      rw [← HL.out, ← hq] at hat
                      generalize S2.row.getD q 0 = x at cx hat
                      have fz := m3.frozen i
                      have co := m3.cell (j := i) (by rw [part_len hLl (by omega)]; exact hlt)
                      generalize (part L 32 i).getD i 0 = old at co
                      have st := m3.set i (L.getD i 0)
                      have hps := part_set hLl hlt
                      have ks := (Kept.refl (fun j => j = X) wr).setCell (p := ⟨X, i, none⟩) (fun _ => rfl) (.int .u8 ((L.getD i 0 : Nat) : Int))
                      have s0 := m0.stay ks (by omega)
                      have k5 : Kept (fun _ => False) w (wr.setCell ⟨X, i, none⟩ (.int .u8 ((L.getD i 0 : Nat) : Int))) := kr.setCell (p := ⟨X, i, none⟩) (fun h => by have h : X < w.heap.size := h; omega) _
                      have h4 : i % 4 = 0 ∨ i % 4 = 1 ∨ i % 4 = 2 ∨ i % 4 = 3 := by omega
                      clear m0 m3 kr ks hq
                      rcases h4 with h4 | h4 | h4 | h4
                      · have hr : (i : Int) % 4 = 0 := by omega
                        have hv : L.getD i 0 = (x.toNat / 16777216) % 256 := by rw [hat, show i % 4 = 0 by omega] <;> simp
                        have hvi : ((L.getD i 0 : Nat) : Int) = ((x.toNat : Int) / 16777216) % 256 := by rw [hv]; omega
                        rw [hvi] at st s0 k5
                        have HP := Lib.hid hps
                        clear hv hvi hat hps h4
                        go_wp2_with fail
                        go_roundw
                        case rel => exact ⟨i + 1, by omega, by go_num, by rw [← HP.out]; exact st, s0, k5⟩
                        case measure => simp [intOf]; omega
                      · have hr : (i : Int) % 4 = 1 := by omega
                        have hv : L.getD i 0 = (x.toNat / 65536) % 256 := by rw [hat, show i % 4 = 1 by omega] <;> simp
                        have hvi : ((L.getD i 0 : Nat) : Int) = ((x.toNat : Int) / 65536) % 256 := by rw [hv]; omega
                        rw [hvi] at st s0 k5
                        have HP := Lib.hid hps
                        clear hv hvi hat hps h4
                        go_wp2_with fail
                        go_roundw
                        case rel => exact ⟨i + 1, by omega, by go_num, by rw [← HP.out]; exact st, s0, k5⟩
                        case measure => simp [intOf]; omega
                      · have hr : (i : Int) % 4 = 2 := by omega
                        have hv : L.getD i 0 = (x.toNat / 256) % 256 := by rw [hat, show i % 4 = 2 by omega] <;> simp
                        have hvi : ((L.getD i 0 : Nat) : Int) = ((x.toNat : Int) / 256) % 256 := by rw [hv]; omega
                        rw [hvi] at st s0 k5
                        have HP := Lib.hid hps
                        clear hv hvi hat hps h4
                        go_wp2_with fail
                        go_roundw
                        case rel => exact ⟨i + 1, by omega, by go_num, by rw [← HP.out]; exact st, s0, k5⟩
                        case measure => simp [intOf]; omega
                      · have hr : (i : Int) % 4 = 3 := by omega
                        have hv : L.getD i 0 = x.toNat % 256 := by rw [hat, show i % 4 = 3 by omega] <;> simp
                        have hvi : ((L.getD i 0 : Nat) : Int) = (x.toNat : Int) % 256 := by rw [hv]; omega
                        rw [hvi] at st s0 k5
                        have HP := Lib.hid hps
                        clear hv hvi hat hps h4
                        go_wp2_with fail
                        go_roundw
                        case rel => exact ⟨i + 1, by omega, by go_num, by rw [← HP.out]; exact st, s0, k5⟩
                        case measure => simp [intOf]; omega
                    · obtain rfl : i = 32 := by omega
                      rw [part_full hLl (by decide)] at m3
                      have l1 := ldDig m3 hLl
                      have s1 := stDig m3 (m := L) hLl hLl
                      have p1 := m3.put L
                      have kp : Kept (fun _ => False) w (wr.setRow X (kv .u8 L).toArray) := kr.setRow (fun h => absurd h (by omega)) _
                      rw [show ((32 : Nat) : Int) = 32 from rfl]
                      go_wp2_with (first
                        | (with_reducible refine wpl_load 27 _ rfl rfl ?_ l1 ?_
                           · rfl
                           simp only [Act.put, List.getElem_toArray, List.getElem_cons_zero, List.getElem_cons_succ, List.setIfInBounds_toArray, List.set_cons_zero, List.set_cons_succ])
                        | (with_reducible refine wpl_store 27 _ _ rfl rfl ?_ ?_ s1 ?_
                           · rfl
                           · rfl
                           simp only [Act.put, List.getElem_toArray, List.getElem_cons_zero, List.getElem_cons_succ, List.setIfInBounds_toArray, List.set_cons_zero, List.set_cons_succ]))
                      refine bodyPost_ret (results_cell_row rfl _ _ _ _ _ _ _ rfl p1 Tryd.underlying27 rfl (by rw [List.size_toArray, kv_len, hLl]; kernel_rfl)) rfl ?_
                      exact ⟨by rw [HL.out, HSP.out], kp⟩
