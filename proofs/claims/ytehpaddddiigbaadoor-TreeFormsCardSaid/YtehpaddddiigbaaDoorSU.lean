/- The document's merkle: counts, chunks, what is digested. -/
import Derived.Test.YtehpaddddiigbaaDoorSS
namespace Go.Proofs.YtehpaddddiigbaaDoor
open Go.RowKit
set_option maxRecDepth 100000
set_option linter.unusedSimpArgs false
set_option linter.unusedVariables false

set_option maxHeartbeats 1000000 in
theorem rcount_ct (n : Nat) (hn : n ≤ 1000000) (w : World) :
    Calls Tryd.prog 55 #[.int .i64 (n : Int)] w fun e w' => e = .returned (.int .i64 ((cnt n : Nat) : Int)) ∧ w' = w := by
  obtain ⟨q, hq⟩ : ∃ q, q = n / 64 := ⟨_, rfl⟩
  obtain ⟨r, hr⟩ : ∃ r, r = n % 64 := ⟨_, rfl⟩
  have hqi : (n : Int) / 64 = (q : Int) := by omega
  have hri : (n : Int) % 64 = (r : Int) := by omega
  have h0 : ¬ (n : Int) < 0 := by omega
  have hc : n ≠ 0 → cnt n = q + min 1 r := by unfold cnt; omega
  have hc0 : n = 0 → cnt n = 1 := by unfold cnt; omega
  have hq1 : q ≤ 1000000 := by omega
  have HC := Lib.hid (And.intro hc hc0)
  by_cases hz : n = 0
  · have h2 := HC.out.2 hz
    rw [h2]
    subst hz
    clear hc hc0 hq hr HC h2
    go_enter Tryd.func55, Tryd.ntmps55
    go_wp2_with fail
    go_ret
    exact ⟨rfl, rfl⟩
  · have h2 := HC.out.1 hz
    have hzi : ((n : Int) == 0) = false := by simp; exact hz
    by_cases hr0 : r = 0
    · have hre : ((r : Int) == 0) = true := by simp; exact hr0
      have h3 : cnt n = q := by rw [h2, hr0]; simp
      have H3 := Lib.hid h3
      clear hc hc0 hq hr HC h2 h3 hr0 hz
      go_enter Tryd.func55, Tryd.ntmps55
      go_wp2_with fail
      go_ret
      exact ⟨ret_i (by rw [H3.out]), rfl⟩
    · have hre : ((r : Int) == 0) = false := by simp; exact hr0
      have h3 : cnt n = q + 1 := by rw [h2]; omega
      have H3 := Lib.hid h3
      clear hc hc0 hq hr HC h2 h3 hr0 hz
      go_enter Tryd.func55, Tryd.ntmps55
      go_wp2_with fail
      go_ret
      exact ⟨ret_i (by rw [H3.out]; omega), rfl⟩
set_option maxHeartbeats 1000000 in
theorem rsize_ct (n i : Nat) (hn : n ≤ 1000000) (hi : 64 * i ≤ n) (w : World) :
    Calls Tryd.prog 69 #[.int .i64 (n : Int), .int .i64 (i : Int)] w fun e w' => e = .returned (.int .i64 ((min 64 (n - 64 * i) : Nat) : Int)) ∧ w' = w := by
  obtain ⟨s, hs⟩ : ∃ s, s = n - 64 * i := ⟨_, rfl⟩
  have hsi : (n : Int) - 64 * (i : Int) = (s : Int) := by omega
  have hs1 : s ≤ 1000000 := by omega
  have HS : Hid (n - 64 * i = s) := hs.symm
  by_cases hgt : 64 < s
  · have hgi : (64 : Int) < (s : Int) := by omega
    clear hs
    go_enter Tryd.func69, Tryd.ntmps69
    go_wp2_with fail
    go_ret
    exact ⟨ret_i (by rw [HS.out]; omega), rfl⟩
  · have hgi : ¬ (64 : Int) < (s : Int) := by omega
    clear hs
    go_enter Tryd.func69, Tryd.ntmps69
    go_wp2_with fail
    go_ret
    exact ⟨ret_i (by rw [HS.out]; omega), rfl⟩
theorem chunk_take2 (b : List UInt8) (i : Nat) : (b.drop (64 * i)).take (min 64 (b.length - 64 * i)) = chunkL b i := by
  unfold chunkL
  have hl : (b.drop (64 * i)).length = b.length - 64 * i := List.length_drop ..
  by_cases h : b.length - 64 * i ≤ 64
  · rw [List.take_of_length_le (by omega), List.take_of_length_le (by omega)]
  · rw [show min 64 (b.length - 64 * i) = 64 by omega]
set_option maxHeartbeats 1000000 in
theorem rchunk_ct {w : World} {v : Value} {b : List UInt8} (h : ByC w v b) (hl : b.length ≤ 100000) {i : Nat} (hi : 64 * i ≤ b.length) :
    Calls Tryd.prog 57 #[v, .int .i64 (i : Int)] w fun e w' => ∃ x, e = .returned x ∧ ByAt w' x (chunkL b i) ∧ Kept (fun _ => False) w w' := by
  obtain ⟨a, c, rfl, _⟩ := h.2
  have hch := chunk_take2 b i
  have hln := chunkL_len b i
  obtain ⟨n, hn⟩ : ∃ n, b.length = n := ⟨_, rfl⟩
  rw [hn] at h hi hl hch hln ⊢
  have k1 : Kept (fun _ => False) w (w.alloc (.cells #[] 5)) := (Kept.refl _ w).alloc _
  have ho : (w.alloc (.cells #[] 5)).ownsRow w.heap.size 5 1 (.slice (some ⟨w.heap.size, 0, none⟩) 0 0) 0 (bv []) := World.ownsRow_made w #[] 0 (Nat.le_refl _) (Nat.zero_le _) rfl
  have bs0 : (Instr.buildSlice 32 0 #[]).run Tryd.prog w = .ok (.slice (some ⟨w.heap.size, 0, none⟩) 0 0) (w.alloc (.cells #[] 5)) := by kernel_rfl
  have sc := rsize_ct n i (by omega) hi (w.alloc (.cells #[] 5))
  obtain ⟨m, hm⟩ : ∃ m, min 64 (n - 64 * i) = m := ⟨_, rfl⟩
  rw [hm] at sc hch hln
  have hm64 : m ≤ 64 := by omega
  obtain ⟨s, hs⟩ : ∃ s, s = 64 * i := ⟨_, rfl⟩
  rw [← hs] at hch
  have hsi : 64 * (i : Int) = (s : Int) := by omega
  obtain ⟨e2, he2⟩ : ∃ e, e = s + m := ⟨_, rfl⟩
  have hei : (s : Int) + (m : Int) = (e2 : Int) := by omega
  obtain ⟨a', c', hsl, hb2⟩ := (h.kept k1).mid (i := s) (j := e2) (by omega) (by omega)
  rw [show e2 - s = m by omega] at hsl hb2
  rw [hch] at hb2
  obtain ⟨v1, W1, ap1, ho1, hg1⟩ := app_by ho hb2.1 (by omega) k1.size 32
  rw [← bv_app, List.nil_append, Nat.zero_add, hln] at ho1
  have k2 := grown_kept k1 hg1 (fun k e => (World.ownsRow.lt ho k e).1)
  obtain ⟨a1, c1, rfl⟩ := row_form ho1
  clear ho hg1 hn hm hs he2 hch hln
  go_enter Tryd.func57, Tryd.ntmps57
  go_wp2_with (first
    | (with_reducible refine wpl_bslice 32 _ _ rfl rfl ?_ bs0 ?_
       · (go_simp <;> rfl)
       simp only [Act.put, List.getElem_toArray, List.getElem_cons_zero, List.getElem_cons_succ, List.setIfInBounds_toArray, List.set_cons_zero, List.set_cons_succ]))
  refine sc.mono ?_
  rintro e W ⟨rfl, rfl⟩
  go_wp2_with (first
    | (refine wpl_val rfl (exec_slice_lh 32 _ _ _ rfl rfl rfl rfl (hsl _)) ?_)
    | (refine wpl_val rfl (exec_append 32 _ _ rfl rfl rfl ap1) ?_))
  go_ret
  exact ⟨_, rfl, ByAt.own ho1, k2⟩
set_option maxHeartbeats 4000000 in
theorem reight_ct (n : Nat) (hn : n ≤ 1000000) (w : World) :
    Calls Tryd.prog 60 #[.int .i64 (n : Int)] w fun e w' => ∃ x, e = .returned x ∧ ByAt w' x (be8 n) ∧ Kept (fun _ => False) w w' := by
  have wn : IntKind.u64.wrap (n : Int) = (n : Int) := IntWalk.u64_in _ (by omega)
  clear hn
  go_enter Tryd.func60, Tryd.ntmps60
  go_wp2_with fail
  go_loopw [3, 4] (fun s x wr => ∃ k : Nat, k ≤ 8 ∧ x = .int .i64 (7 - (k : Int)) ∧ wr.ownsRow w.heap.size 5 1 s k (bv ((be8 n).take k)) ∧ Kept (fun _ => False) w wr) (fun _ x _ => (intOf x + 1).toNat)
  case atStart => exact ⟨0, by omega, rfl, World.ownsRow_nil _ _ _ _, Kept.refl _ _⟩
  case round =>
    obtain ⟨k, hk8, rfl, ho, hk⟩ := hrel
    obtain ⟨a, c, rfl⟩ := row_form ho
    have hi9 : k = 0 ∨ k = 1 ∨ k = 2 ∨ k = 3 ∨ k = 4 ∨ k = 5 ∨ k = 6 ∨ k = 7 ∨ k = 8 := by omega
    rcases hi9 with rfl | rfl | rfl | rfl | rfl | rfl | rfl | rfl | rfl
    · have hkt : (be8 n).take (0 + 1) = (be8 n).take 0 ++ [UInt8.ofNat (n / 72057594037927936)] := rfl
      rw [show (7 - ((0 : Nat) : Int)) = 7 from rfl]
      obtain ⟨a1, c1, W1, W2, bs, ap, ho2, k2, hs2⟩ := push1 ho (UInt8.ofNat (n / 72057594037927936)) (m := (n : Int) / 72057594037927936 % 256) (by rw [u8of]; omega) (by omega) hk (Nat.le_refl _) hk.size 32
      rw [← hkt] at ho2
      have HO := Lib.hid ho2
      clear ho2 hkt ho hk
      go_wp2_with (first
        | (with_reducible refine wpl_bslice 32 _ _ rfl rfl ?_ bs ?_
           · (go_simp <;> rfl)
           simp only [Act.put, List.getElem_toArray, List.getElem_cons_zero, List.getElem_cons_succ, List.setIfInBounds_toArray, List.set_cons_zero, List.set_cons_succ])
        | (refine wpl_val rfl (exec_append 32 _ _ rfl rfl rfl ap) ?_))
      go_roundw
      case rel => exact ⟨0 + 1, by omega, by go_num, HO.out, k2⟩
      case measure => simp [intOf]
    · have hkt : (be8 n).take (1 + 1) = (be8 n).take 1 ++ [UInt8.ofNat (n / 281474976710656)] := rfl
      rw [show (7 - ((1 : Nat) : Int)) = 6 from rfl]
      obtain ⟨a1, c1, W1, W2, bs, ap, ho2, k2, hs2⟩ := push1 ho (UInt8.ofNat (n / 281474976710656)) (m := (n : Int) / 281474976710656 % 256) (by rw [u8of]; omega) (by omega) hk (Nat.le_refl _) hk.size 32
      rw [← hkt] at ho2
      have HO := Lib.hid ho2
      clear ho2 hkt ho hk
      go_wp2_with (first
        | (with_reducible refine wpl_bslice 32 _ _ rfl rfl ?_ bs ?_
           · (go_simp <;> rfl)
           simp only [Act.put, List.getElem_toArray, List.getElem_cons_zero, List.getElem_cons_succ, List.setIfInBounds_toArray, List.set_cons_zero, List.set_cons_succ])
        | (refine wpl_val rfl (exec_append 32 _ _ rfl rfl rfl ap) ?_))
      go_roundw
      case rel => exact ⟨1 + 1, by omega, by go_num, HO.out, k2⟩
      case measure => simp [intOf]
    · have hkt : (be8 n).take (2 + 1) = (be8 n).take 2 ++ [UInt8.ofNat (n / 1099511627776)] := rfl
      rw [show (7 - ((2 : Nat) : Int)) = 5 from rfl]
      obtain ⟨a1, c1, W1, W2, bs, ap, ho2, k2, hs2⟩ := push1 ho (UInt8.ofNat (n / 1099511627776)) (m := (n : Int) / 1099511627776 % 256) (by rw [u8of]; omega) (by omega) hk (Nat.le_refl _) hk.size 32
      rw [← hkt] at ho2
      have HO := Lib.hid ho2
      clear ho2 hkt ho hk
      go_wp2_with (first
        | (with_reducible refine wpl_bslice 32 _ _ rfl rfl ?_ bs ?_
           · (go_simp <;> rfl)
           simp only [Act.put, List.getElem_toArray, List.getElem_cons_zero, List.getElem_cons_succ, List.setIfInBounds_toArray, List.set_cons_zero, List.set_cons_succ])
        | (refine wpl_val rfl (exec_append 32 _ _ rfl rfl rfl ap) ?_))
      go_roundw
      case rel => exact ⟨2 + 1, by omega, by go_num, HO.out, k2⟩
      case measure => simp [intOf]
    · have hkt : (be8 n).take (3 + 1) = (be8 n).take 3 ++ [UInt8.ofNat (n / 4294967296)] := rfl
      rw [show (7 - ((3 : Nat) : Int)) = 4 from rfl]
      obtain ⟨a1, c1, W1, W2, bs, ap, ho2, k2, hs2⟩ := push1 ho (UInt8.ofNat (n / 4294967296)) (m := (n : Int) / 4294967296 % 256) (by rw [u8of]; omega) (by omega) hk (Nat.le_refl _) hk.size 32
      rw [← hkt] at ho2
      have HO := Lib.hid ho2
      clear ho2 hkt ho hk
      go_wp2_with (first
        | (with_reducible refine wpl_bslice 32 _ _ rfl rfl ?_ bs ?_
           · (go_simp <;> rfl)
           simp only [Act.put, List.getElem_toArray, List.getElem_cons_zero, List.getElem_cons_succ, List.setIfInBounds_toArray, List.set_cons_zero, List.set_cons_succ])
        | (refine wpl_val rfl (exec_append 32 _ _ rfl rfl rfl ap) ?_))
      go_roundw
      case rel => exact ⟨3 + 1, by omega, by go_num, HO.out, k2⟩
      case measure => simp [intOf]
    · have hkt : (be8 n).take (4 + 1) = (be8 n).take 4 ++ [UInt8.ofNat (n / 16777216)] := rfl
      rw [show (7 - ((4 : Nat) : Int)) = 3 from rfl]
      obtain ⟨a1, c1, W1, W2, bs, ap, ho2, k2, hs2⟩ := push1 ho (UInt8.ofNat (n / 16777216)) (m := (n : Int) / 16777216 % 256) (by rw [u8of]; omega) (by omega) hk (Nat.le_refl _) hk.size 32
      rw [← hkt] at ho2
      have HO := Lib.hid ho2
      clear ho2 hkt ho hk
      go_wp2_with (first
        | (with_reducible refine wpl_bslice 32 _ _ rfl rfl ?_ bs ?_
           · (go_simp <;> rfl)
           simp only [Act.put, List.getElem_toArray, List.getElem_cons_zero, List.getElem_cons_succ, List.setIfInBounds_toArray, List.set_cons_zero, List.set_cons_succ])
        | (refine wpl_val rfl (exec_append 32 _ _ rfl rfl rfl ap) ?_))
      go_roundw
      case rel => exact ⟨4 + 1, by omega, by go_num, HO.out, k2⟩
      case measure => simp [intOf]
    · have hkt : (be8 n).take (5 + 1) = (be8 n).take 5 ++ [UInt8.ofNat (n / 65536)] := rfl
      rw [show (7 - ((5 : Nat) : Int)) = 2 from rfl]
      obtain ⟨a1, c1, W1, W2, bs, ap, ho2, k2, hs2⟩ := push1 ho (UInt8.ofNat (n / 65536)) (m := (n : Int) / 65536 % 256) (by rw [u8of]; omega) (by omega) hk (Nat.le_refl _) hk.size 32
      rw [← hkt] at ho2
      have HO := Lib.hid ho2
      clear ho2 hkt ho hk
      go_wp2_with (first
        | (with_reducible refine wpl_bslice 32 _ _ rfl rfl ?_ bs ?_
           · (go_simp <;> rfl)
           simp only [Act.put, List.getElem_toArray, List.getElem_cons_zero, List.getElem_cons_succ, List.setIfInBounds_toArray, List.set_cons_zero, List.set_cons_succ])
        | (refine wpl_val rfl (exec_append 32 _ _ rfl rfl rfl ap) ?_))
      go_roundw
      case rel => exact ⟨5 + 1, by omega, by go_num, HO.out, k2⟩
      case measure => simp [intOf]
    · have hkt : (be8 n).take (6 + 1) = (be8 n).take 6 ++ [UInt8.ofNat (n / 256)] := rfl
      rw [show (7 - ((6 : Nat) : Int)) = 1 from rfl]
      obtain ⟨a1, c1, W1, W2, bs, ap, ho2, k2, hs2⟩ := push1 ho (UInt8.ofNat (n / 256)) (m := (n : Int) / 256 % 256) (by rw [u8of]; omega) (by omega) hk (Nat.le_refl _) hk.size 32
      rw [← hkt] at ho2
      have HO := Lib.hid ho2
      clear ho2 hkt ho hk
      go_wp2_with (first
        | (with_reducible refine wpl_bslice 32 _ _ rfl rfl ?_ bs ?_
           · (go_simp <;> rfl)
           simp only [Act.put, List.getElem_toArray, List.getElem_cons_zero, List.getElem_cons_succ, List.setIfInBounds_toArray, List.set_cons_zero, List.set_cons_succ])
        | (refine wpl_val rfl (exec_append 32 _ _ rfl rfl rfl ap) ?_))
      go_roundw
      case rel => exact ⟨6 + 1, by omega, by go_num, HO.out, k2⟩
      case measure => simp [intOf]
    · have hkt : (be8 n).take (7 + 1) = (be8 n).take 7 ++ [UInt8.ofNat (n / 1)] := rfl
      rw [show (7 - ((7 : Nat) : Int)) = 0 from rfl]
      obtain ⟨a1, c1, W1, W2, bs, ap, ho2, k2, hs2⟩ := push1 ho (UInt8.ofNat (n / 1)) (m := (n : Int) % 256) (by rw [u8of]; omega) (by omega) hk (Nat.le_refl _) hk.size 32
      rw [← hkt] at ho2
      have HO := Lib.hid ho2
      clear ho2 hkt ho hk
      go_wp2_with (first
        | (with_reducible refine wpl_bslice 32 _ _ rfl rfl ?_ bs ?_
           · (go_simp <;> rfl)
           simp only [Act.put, List.getElem_toArray, List.getElem_cons_zero, List.getElem_cons_succ, List.setIfInBounds_toArray, List.set_cons_zero, List.set_cons_succ])
        | (refine wpl_val rfl (exec_append 32 _ _ rfl rfl rfl ap) ?_))
      go_roundw
      case rel => exact ⟨7 + 1, by omega, by go_num, HO.out, k2⟩
      case measure => simp [intOf]
    · rw [show (7 - ((8 : Nat) : Int)) = -1 from rfl]
      rw [List.take_of_length_le (Nat.le_of_eq (be8_len n))] at ho
      clear wn
      go_wp2_with fail
      go_ret
      exact ⟨_, rfl, ByAt.own ho, hk⟩
set_option maxHeartbeats 1000000 in
theorem rleaf_ct {w : World} {v : Value} {ch : List UInt8} (h : ByAt w v ch) (hl : ch.length ≤ 64) {i : Nat} (hi : i ≤ 1000000) :
    Calls Tryd.prog 56 #[.int .i64 (i : Int), v] w fun e w' => ∃ x, e = .returned x ∧ ByAt w' x (0 :: (be8 i ++ ch)) ∧ Kept (fun _ => False) w w' := by
  obtain ⟨va, vc, hv⟩ := h.slc
  have bs : (Instr.buildSlice 32 1 #[(0, .int .u8 0)]).run Tryd.prog w = _ := bslice_o1 0 w
  have ho := own_one w 0
  have k1 := (Kept.refl (fun _ => False) w).alloc (.cells #[.int .u8 0] 5)
  rw [show ((0 : UInt8).toNat : Int) = 0 from rfl] at ho
  go_enter Tryd.func56, Tryd.ntmps56
  go_wp2_with (first
    | (with_reducible refine wpl_bslice 32 _ _ rfl rfl ?_ bs ?_
       · (go_simp <;> rfl)
       simp only [Act.put, List.getElem_toArray, List.getElem_cons_zero, List.getElem_cons_succ, List.setIfInBounds_toArray, List.set_cons_zero, List.set_cons_succ]))
  refine (reight_ct i hi _).mono ?_
  rintro e W1 ⟨x, rfl, hx, k2⟩
  obtain ⟨xa, xc, hxv⟩ := hx.slc
  rw [be8_len] at hxv
  have ho2 := row_keep ho k2
  obtain ⟨v2, W2, ap2, ho3, hg2⟩ := app_by ho2 hx (by rw [be8_len]; decide) (k1.trans k2).size 32
  have k3 := grown_kept (k1.trans k2) hg2 (fun k e => (World.ownsRow.lt ho2 k e).1)
  rw [← bv_app, be8_len] at ho3
  obtain ⟨a2, c2, rfl⟩ := row_form ho3
  obtain ⟨v3, W3, ap3, ho4, hg3⟩ := app_by ho3 (h.kept k3) (by omega) k3.size 32
  have k4 := grown_kept k3 hg3 (fun k e => (World.ownsRow.lt ho3 k e).1)
  rw [← bv_app] at ho4
  obtain ⟨a3, c3, rfl⟩ := row_form ho4
  subst hv hxv
  clear ho ho2 ho3 hg2 hg3 k1 k2 k3
  go_wp2_with (first
    | (refine wpl_val rfl (exec_append 32 _ _ rfl rfl rfl ap2) ?_)
    | (refine wpl_val rfl (exec_append 32 _ _ rfl rfl rfl ap3) ?_))
  go_ret
  exact ⟨_, rfl, by simpa using ByAt.own ho4, k4⟩
set_option maxHeartbeats 2000000 in
theorem rnode_ct (a b : List UInt8) (ha : a.length = 32) (hb : b.length = 32) (w : World) :
    Calls Tryd.prog 58 #[(Value.agg (List.toArray (kv .u8 (nv a)))), (Value.agg (List.toArray (kv .u8 (nv b))))] w fun e w' => ∃ x, e = .returned x ∧ ByAt w' x (1 :: (a ++ b)) ∧ Kept (fun _ => False) w w' := by
  go_enter Tryd.func58, Tryd.ntmps58
  go_wp2_with fail
  obtain ⟨X, hX⟩ : ∃ X, w.heap.size = X := ⟨_, rfl⟩
  have kk := fun (v : World) (o : Obj) => (Kept.refl (fun _ => False) v).alloc o
  have k0 := (kk w (.cells (kv .u8 (nv a)).toArray 27)).trans (kk _ (.cells (kv .u8 (nv b)).toArray 27))
  have n0 : Arr ((w.alloc (.cells (kv .u8 (nv a)).toArray 27)).alloc (.cells (kv .u8 (nv b)).toArray 27)) X 27 .u8 (nv a) := (Arr.new hX.symm).stay (kk _ _) not_false
  have n1 : Arr ((w.alloc (.cells (kv .u8 (nv a)).toArray 27)).alloc (.cells (kv .u8 (nv b)).toArray 27)) (X + 1) 27 .u8 (nv b) := Arr.new (by rw [World.size_alloc, hX])
  rw [hX]
  generalize (w.alloc (.cells (kv .u8 (nv a)).toArray 27)).alloc (.cells (kv .u8 (nv b)).toArray 27) = W0 at k0 n0 n1 ⊢
  clear hX kk
  have kd : Kept (fun _ => False) W0 W0.drew := (Kept.refl _ W0).drew
  have k1 := k0.trans kd
  have hA := ((n0.stay kd not_false).byC ha (by simp [maxLen])).1
  have hB := ((n1.stay kd not_false).byC hb (by simp [maxLen])).1
  have bs : (Instr.buildSlice 32 1 #[(0, .int .u8 1)]).run Tryd.prog W0.drew = _ := bslice_o1 1 W0.drew
  have ho := own_one W0.drew 1
  have k2 := (Kept.refl (fun _ => False) W0.drew).alloc (.cells #[.int .u8 1] 5)
  rw [show ((1 : UInt8).toNat : Int) = 1 from rfl] at ho
  obtain ⟨v2, W2, ap2, ho3, hg2⟩ := app_by ho (hA.kept k2) (by omega) k2.size 32
  have k3 := grown_kept k2 hg2 (fun k e => (World.ownsRow.lt ho k e).1)
  rw [← bv_app, ha] at ho3
  obtain ⟨a2, c2, rfl⟩ := row_form ho3
  obtain ⟨v3, W3, ap3, ho4, hg3⟩ := app_by ho3 (hB.kept k3) (by omega) k3.size 32
  have k4 := grown_kept k3 hg3 (fun k e => (World.ownsRow.lt ho3 k e).1)
  rw [← bv_app, hb] at ho4
  obtain ⟨a3, c3, rfl⟩ := row_form ho4
  clear ho ho3 hg2 hg3 hA hB kd
  refine wp_region_held_drew (S := (Kept (fun _ => False) w)) (by kernel_rfl) (k0.drew) (fun hHeld => ?_)
  refine held_q (v := ?_) (i := 1) rfl (by kernel_rfl) (by kernel_rfl) (by kernel_rfl) (fun _ _ _ h => h) (by rfl) hHeld ?_ ?_
  rotate_left
  · (intro w' hS'; go_simp <;> (with_reducible rfl))
  simp only [Act.put, List.getElem_toArray, List.getElem_cons_zero, List.getElem_cons_succ, List.setIfInBounds_toArray, List.set_cons_zero, List.set_cons_succ]
  refine held_q (v := ?_) (i := 3) rfl (by kernel_rfl) (by kernel_rfl) (by kernel_rfl) (fun _ _ _ h => h) (by rfl) hHeld ?_ ?_
  rotate_left
  · (intro w' hS'; go_simp <;> (with_reducible rfl))
  simp only [Act.put, List.getElem_toArray, List.getElem_cons_zero, List.getElem_cons_succ, List.setIfInBounds_toArray, List.set_cons_zero, List.set_cons_succ]
  refine held_v (i := 0) (v := .slice (some ⟨W0.drew.heap.size, 0, none⟩) 1 1) (w1 := W0.drew.alloc (.cells #[.int .u8 1] 5)) (by kernel_rfl) rfl (by rfl) (exec_buildSlice (p := #[(0, .int .u8 1)]) 32 1 _ rfl (by go_simp <;> rfl) bs) (k1.trans k2) (fun hHeld => ?_)
  simp only [Act.put, List.getElem_toArray, List.getElem_cons_zero, List.getElem_cons_succ, List.setIfInBounds_toArray, List.set_cons_zero, List.set_cons_succ]
  refine held_v (i := 2) (v := .slice a2 (1 + 32) c2) (w1 := W2) (by kernel_rfl) rfl (by rfl) (exec_append 32 _ _ rfl rfl rfl ap2) (k1.trans k3) (fun hHeld => ?_)
  simp only [Act.put, List.getElem_toArray, List.getElem_cons_zero, List.getElem_cons_succ, List.setIfInBounds_toArray, List.set_cons_zero, List.set_cons_succ]
  refine held_v (i := 4) (v := .slice a3 (1 + 32 + 32) c3) (w1 := W3) (by kernel_rfl) rfl (by rfl) (exec_append 32 _ _ rfl rfl rfl ap3) (k1.trans k4) (fun hHeld => ?_)
  simp only [Act.put, List.getElem_toArray, List.getElem_cons_zero, List.getElem_cons_succ, List.setIfInBounds_toArray, List.set_cons_zero, List.set_cons_succ]
  refine held_q (v := ?_) (i := 5) rfl (by kernel_rfl) (by kernel_rfl) (by kernel_rfl) (fun _ _ _ h => h) (by rfl) hHeld ?_ ?_
  rotate_left
  · (intro w' hS'; go_simp <;> (with_reducible rfl))
  simp only [Act.put, List.getElem_toArray, List.getElem_cons_zero, List.getElem_cons_succ, List.setIfInBounds_toArray, List.set_cons_zero, List.set_cons_succ]
  refine wpAnyH_done (by kernel_rfl) ?_ _
  go_wp2_with fail
  go_ret
  exact ⟨_, rfl, by simpa using ByAt.own ho4, k1.trans k4⟩
theorem held_vc {P : Program} {ops : Array Oper} {Q : Exit → Act → World → Prop} {md : Region.Mode} {S : World → Prop} {i j : Nat} {oi oj : Oper} {vi : Value} {f : FuncId} {args : Array Value} {fuel : Nat} {listed : Array Bool} {a : Act} {w wi : World} (hr : Region.ready md ops listed = [i, j]) (hi : ops[i]? = some oi) (hj : ops[j]? = some oj)
    (hwi : Region.wanted oi (yielded ops a.tmps) = true) (hwj : Region.wanted oj (yielded ops a.tmps) = true)
    (hruni : (execOp a.eval oi).run P w = .ok (.value vi) wi) (hrunj : (execOp a.eval oj).run P w = .ok (.enter f args) w) {R : Ending → World → Prop} (hc : Calls P f args w R) (hSi : S wi)
    (h1 : S wi → wpAnyH P md ops Q S fuel (listed.setIfInBounds i true) (a.put oi.dst vi) wi)
    (h2 : ∀ e w', R e w' → ∃ v, e = .returned v ∧ S w' ∧ wpAnyH P md ops Q S fuel (listed.setIfInBounds j true) (a.put oj.dst v) w') : wpAnyH P md ops Q S (fuel + 1) listed a w := by
  refine wpAnyH_ready hr (by simp) (AllReadyH.cons hi (fun K hK => ?_) (AllReadyH.cons hj (fun K hK => ?_) AllReadyH.nil))
  · rw [if_pos hwi]; unfold Oper.wp; rw [hruni]; exact hK.out _ _ hSi h1
  · rw [if_pos hwj]
    unfold Oper.wp
    rw [hrunj]
    refine hc.mono fun e w' hR => ?_
    obtain ⟨v, rfl, hS, hn⟩ := h2 e w' hR
    exact hK.out _ _ hS (fun _ => hn)
set_option maxHeartbeats 2000000 in
theorem rrootb_ct (n : Nat) (t : List UInt8) (hn : n ≤ 1000000) (ht : t.length = 32) (w : World) :
    Calls Tryd.prog 41 #[.int .i64 (n : Int), (Value.agg (List.toArray (kv .u8 (nv t))))] w fun e w' => ∃ x, e = .returned x ∧ ByAt w' x (2 :: (be8 n ++ t)) ∧ Kept (fun _ => False) w w' := by
  go_enter Tryd.func41, Tryd.ntmps41
  go_wp2_with fail
  obtain ⟨X, hX⟩ : ∃ X, w.heap.size = X := ⟨_, rfl⟩
  have k0 := (Kept.refl (fun _ => False) w).alloc (.cells (kv .u8 (nv t)).toArray 27)
  have n0 : Arr (w.alloc (.cells (kv .u8 (nv t)).toArray 27)) X 27 .u8 (nv t) := Arr.new hX.symm
  rw [hX]
  generalize w.alloc (.cells (kv .u8 (nv t)).toArray 27) = W0 at k0 n0 ⊢
  clear hX
  refine wp_region_held_drew (S := (Kept (fun _ => False) w)) (by kernel_rfl) (k0.drew) (fun hHeld => ?_)
  refine held_q (v := ?_) (i := 1) rfl (by kernel_rfl) (by kernel_rfl) (by kernel_rfl) (fun _ _ _ h => h) (by rfl) hHeld ?_ ?_
  rotate_left
  · (intro w' hS'; go_simp <;> (with_reducible rfl))
  simp only [Act.put, List.getElem_toArray, List.getElem_cons_zero, List.getElem_cons_succ, List.setIfInBounds_toArray, List.set_cons_zero, List.set_cons_succ]
  refine held_q (v := ?_) (i := 4) rfl (by kernel_rfl) (by kernel_rfl) (by kernel_rfl) (fun _ _ _ h => h) (by rfl) hHeld ?_ ?_
  rotate_left
  · (intro w' hS'; go_simp <;> (with_reducible rfl))
  simp only [Act.put, List.getElem_toArray, List.getElem_cons_zero, List.getElem_cons_succ, List.setIfInBounds_toArray, List.set_cons_zero, List.set_cons_succ]
  have kd : Kept (fun _ => False) W0 W0.drew := (Kept.refl _ W0).drew
  have hA0 := (n0.byC ht (by simp [maxLen])).1
  have fin : ∀ (W3 : World) (xa va : Option Addr) (xc vc : Nat), W3.ownsRow W0.heap.size 5 1 (.slice va 1 vc) 1 (bv [2]) → ByAt W3 (.slice xa 8 xc) (be8 n) → Kept (fun _ => False) W0 W3 → ∃ a2 c2 W4 a3 c3 W5,
      (Builtin.append_ #[32, 32] 32 #[.slice va 1 vc, .slice xa 8 xc]).run Tryd.prog W3 = .ok (.slice a2 9 c2) W4 ∧ Kept (fun _ => False) W0 W4 ∧
      (Builtin.append_ #[32, 32] 32 #[.slice a2 9 c2, .slice (some ⟨X, 0, none⟩) 32 32]).run Tryd.prog W4 = .ok (.slice a3 41 c3) W5 ∧ Kept (fun _ => False) W0 W5 ∧ ByAt W5 (.slice a3 41 c3) (2 :: (be8 n ++ t)) := by
    intro W3 xa va xc vc ho hx kw
    obtain ⟨v2, W4, ap2, ho3, hg2⟩ := app_by ho hx (by rw [be8_len]; decide) kw.size 32
    have k3 := grown_kept kw hg2 (fun k e => (World.ownsRow.lt ho k e).1)
    rw [← bv_app, be8_len] at ho3
    obtain ⟨a2, c2, rfl⟩ := row_form ho3
    obtain ⟨v3, W5, ap3, ho4, hg3⟩ := app_by ho3 (hA0.kept k3) (by omega) k3.size 32
    have k4 := grown_kept k3 hg3 (fun k e => (World.ownsRow.lt ho3 k e).1)
    rw [← bv_app, ht] at ho4
    obtain ⟨a3, c3, rfl⟩ := row_form ho4
    exact ⟨a2, c2, W4, a3, c3, W5, ap2, k3, ap3, k4, by simpa using ByAt.own ho4⟩
  have HF := Lib.hid fin
  clear fin
  refine held_vc (i := 0) (j := 2) (f := 60) (args := #[.int .i64 (n : Int)]) (vi := .slice (some ⟨W0.drew.heap.size, 0, none⟩) 1 1) (wi := W0.drew.alloc (.cells #[.int .u8 2] 5)) (by kernel_rfl) rfl rfl (by rfl) (by rfl) (exec_buildSlice (p := #[(0, .int .u8 2)]) 32 1 _ rfl (by go_simp <;> rfl) (bslice_o1 2 W0.drew)) ?_ (reight_ct n hn _) (hHeld.alloc _) (fun hHeld => ?_) ?_
  · (go_simp <;> rfl)
  · simp only [Act.put, List.getElem_toArray, List.getElem_cons_zero, List.getElem_cons_succ, List.setIfInBounds_toArray, List.set_cons_zero, List.set_cons_succ]
    refine held_c (i := 2) (f := 60) (args := #[.int .i64 (n : Int)]) (by kernel_rfl) rfl (by rfl) ?_ (reight_ct n hn _) ?_
    · (go_simp <;> rfl)
    rintro e W3 ⟨x, rfl, hx, kx⟩
    have ho := row_keep (own_one W0.drew 2) kx
    have kw := (kd.alloc (.cells #[.int .u8 2] 5)).trans kx
    have hHeld := hHeld.trans kx
    refine ⟨_, rfl, hHeld, ?_⟩
    simp only [Act.put, List.getElem_toArray, List.getElem_cons_zero, List.getElem_cons_succ, List.setIfInBounds_toArray, List.set_cons_zero, List.set_cons_succ]
    obtain ⟨xa, xc, hxv⟩ := hx.slc
    rw [be8_len] at hxv
    subst hxv
    obtain ⟨a2, c2, W4, a3, c3, W5, ap2, k4, ap3, k5, hB⟩ := HF.out W3 xa _ xc _ ho hx kw
    refine held_v (i := 3) (v := .slice a2 9 c2) (w1 := W4) (by kernel_rfl) rfl (by rfl) (exec_append 32 _ _ rfl rfl rfl ap2) (k0.trans k4) (fun hHeld => ?_)
    simp only [Act.put, List.getElem_toArray, List.getElem_cons_zero, List.getElem_cons_succ, List.setIfInBounds_toArray, List.set_cons_zero, List.set_cons_succ]
    refine held_v (i := 5) (v := .slice a3 41 c3) (w1 := W5) (by kernel_rfl) rfl (by rfl) (exec_append 32 _ _ rfl rfl rfl ap3) (k0.trans k5) (fun hHeld => ?_)
    simp only [Act.put, List.getElem_toArray, List.getElem_cons_zero, List.getElem_cons_succ, List.setIfInBounds_toArray, List.set_cons_zero, List.set_cons_succ]
    refine held_q (v := ?_) (i := 6) rfl (by kernel_rfl) (by kernel_rfl) (by kernel_rfl) (fun _ _ _ h => h) (by rfl) hHeld ?_ ?_
    rotate_left
    · (intro w' hS'; go_simp <;> (with_reducible rfl))
    simp only [Act.put, List.getElem_toArray, List.getElem_cons_zero, List.getElem_cons_succ, List.setIfInBounds_toArray, List.set_cons_zero, List.set_cons_succ]
    refine wpAnyH_done (by kernel_rfl) ?_ _
    go_wp2_with fail
    go_ret
    exact ⟨_, rfl, hB, k0.trans k5⟩
  · rintro e W2 ⟨x, rfl, hx0, kx⟩
    have hHeld := hHeld.trans kx
    refine ⟨_, rfl, hHeld, ?_⟩
    simp only [Act.put, List.getElem_toArray, List.getElem_cons_zero, List.getElem_cons_succ, List.setIfInBounds_toArray, List.set_cons_zero, List.set_cons_succ]
    refine held_v (i := 0) (v := .slice (some ⟨W2.heap.size, 0, none⟩) 1 1) (w1 := W2.alloc (.cells #[.int .u8 2] 5)) (by kernel_rfl) rfl (by rfl) (exec_buildSlice (p := #[(0, .int .u8 2)]) 32 1 _ rfl (by go_simp <;> rfl) (bslice_o1 2 W2)) (hHeld.alloc _) (fun hHeld => ?_)
    simp only [Act.put, List.getElem_toArray, List.getElem_cons_zero, List.getElem_cons_succ, List.setIfInBounds_toArray, List.set_cons_zero, List.set_cons_succ]
    obtain ⟨W3, hW3⟩ : ∃ W3, W2.alloc (.cells #[.int .u8 2] 5) = W3 := ⟨_, rfl⟩
    have kz := (Kept.refl (fun _ => False) W2).alloc (.cells #[.int .u8 2] 5)
    have hx := hx0.kept kz
    have hsz : W0.heap.size ≤ W2.heap.size := (kd.trans kx).size
    have ho : (W2.alloc (.cells #[.int .u8 2] 5)).ownsRow W0.heap.size 5 1 (.slice (some ⟨W2.heap.size, 0, none⟩) 1 1) 1 (bv [2]) :=
      ⟨by simp [bv], .inr ⟨W2.heap.size, 1, #[.int .u8 2], rfl, hsz, heap_last _ _, Nat.le_refl _, by simp [maxLen], rfl, by simp [bv]⟩⟩
    have kw := (kd.trans kx).trans kz
    rw [hW3] at hx ho kw ⊢
    obtain ⟨xa, xc, hxv⟩ := hx.slc
    rw [be8_len] at hxv
    subst hxv
    obtain ⟨a2, c2, W4, a3, c3, W5, ap2, k4, ap3, k5, hB⟩ := HF.out W3 xa _ xc _ ho hx kw
    refine held_v (i := 3) (v := .slice a2 9 c2) (w1 := W4) (by kernel_rfl) rfl (by rfl) (exec_append 32 _ _ rfl rfl rfl ap2) (k0.trans k4) (fun hHeld => ?_)
    simp only [Act.put, List.getElem_toArray, List.getElem_cons_zero, List.getElem_cons_succ, List.setIfInBounds_toArray, List.set_cons_zero, List.set_cons_succ]
    refine held_v (i := 5) (v := .slice a3 41 c3) (w1 := W5) (by kernel_rfl) rfl (by rfl) (exec_append 32 _ _ rfl rfl rfl ap3) (k0.trans k5) (fun hHeld => ?_)
    simp only [Act.put, List.getElem_toArray, List.getElem_cons_zero, List.getElem_cons_succ, List.setIfInBounds_toArray, List.set_cons_zero, List.set_cons_succ]
    refine held_q (v := ?_) (i := 6) rfl (by kernel_rfl) (by kernel_rfl) (by kernel_rfl) (fun _ _ _ h => h) (by rfl) hHeld ?_ ?_
    rotate_left
    · (intro w' hS'; go_simp <;> (with_reducible rfl))
    simp only [Act.put, List.getElem_toArray, List.getElem_cons_zero, List.getElem_cons_succ, List.setIfInBounds_toArray, List.set_cons_zero, List.set_cons_succ]
    refine wpAnyH_done (by kernel_rfl) ?_ _
    go_wp2_with fail
    go_ret
    exact ⟨_, rfl, hB, k0.trans k5⟩
