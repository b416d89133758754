/- merkle: parts, chunks, leaves, pairs, roots. -/
import Derived.Test.YtehpaddddiigbaaDoorSP
namespace Go.Proofs.YtehpaddddiigbaaDoor
open Go.RowKit
set_option maxRecDepth 100000
set_option linter.unusedSimpArgs false
set_option linter.unusedVariables false

theorem ByC.own {w : World} {base n : Nat} {v : Value} {l : List UInt8} (h : w.ownsRow base 5 1 v n (bv l)) : ByC w v l := by
  refine ⟨ByAt.own h, ?_⟩
  have h1 := h.1
  rw [bv_len, Nat.mul_one] at h1
  rcases h.2 with ⟨rfl, rfl⟩ | ⟨g, cap, cur, rfl, _, _, hnc, _⟩
  · exact ⟨none, 0, by rw [h1], by omega⟩
  · exact ⟨_, cap, by rw [h1], by omega⟩
theorem Arr.byC {w : World} {X : Nat} {t : TypeId} {l : List UInt8} {n : Nat} (h : Arr w X t .u8 (nv l)) (hn : l.length = n) (hm : n ≤ maxLen) : ByC w (.slice (some ⟨X, 0, none⟩) n n) l := by
  subst hn
  refine ⟨⟨_, _, rfl, hm, fun _ => ⟨X, 0, rfl, h.lt, fun j u hu => ?_⟩⟩, _, _, rfl, Nat.le_refl _⟩
  have h' : w.heap[X]? = some (.cells (kv .u8 (nv l)).toArray t (0, 0)) := h
  rw [cell_of_row _ _ _ _ _ _ h', nv_bv, ← hu, Nat.zero_add]
  simp
theorem own_one (w : World) (t : UInt8) : (w.alloc (.cells #[.int .u8 (t.toNat : Int)] 5)).ownsRow w.heap.size 5 1 (.slice (some ⟨w.heap.size, 0, none⟩) 1 1) 1 (bv [t]) :=
  ⟨by simp [bv], .inr ⟨w.heap.size, 1, #[.int .u8 (t.toNat : Int)], rfl, Nat.le_refl _, heap_last _ _, Nat.le_refl _, by simp [maxLen], rfl, by simp [bv]⟩⟩
set_option maxHeartbeats 2000000 in
theorem parts_ct {w : World} {v : Value} {rows : List (List UInt8)} (h : RowsAt w v rows) (t : UInt8) (hb : total rows ≤ 100000) (hn : rows.length ≤ 10) (hT : Tabs w) :
    Calls Tryd.prog 51 #[.int .u8 (t.toNat : Int), v] w fun e w' => e = .returned ((Value.agg (List.toArray (kv .u8 (nv (shaL (t :: rows.flatten))))))) ∧ Kept (fun _ => False) w w' := by
  have zz := zeroDig
  obtain ⟨g, vs, cap, rfl, hvs, hg, hr⟩ := h
  have hgl := (Array.getElem?_eq_some_iff.1 hg).1
  go_enter Tryd.func51, Tryd.ntmps51
  go_upto_region 1 with (first
    | (with_reducible refine wpl_alloc 27 rfl rfl (zz _) ?_
       simp only [World.size_alloc, Act.put, List.getElem_toArray, List.getElem_cons_zero, List.getElem_cons_succ, List.setIfInBounds_toArray, List.set_cons_zero, List.set_cons_succ]))
  obtain ⟨X, hX⟩ : ∃ X, w.heap.size = X := ⟨_, rfl⟩
  have k0 := (Kept.refl (fun _ => False) w).alloc (.cells (kv .u8 z32).toArray 27)
  have m0 : Arr (w.alloc (.cells (kv .u8 z32).toArray 27)) X 27 .u8 z32 := Arr.new hX.symm
  rw [hX]
  generalize w.alloc (.cells (kv .u8 z32).toArray 27) = W0 at k0 m0 ⊢
  have bs := bslice_o1 (t.toNat : Int) W0
  have ho := own_one W0 t
  have k1 := (Kept.refl (fun _ => False) W0).alloc (.cells #[.int .u8 (t.toNat : Int)] 5)
  have hX0 := m0.lt
  go_wp2_with (first
    | (with_reducible refine wpl_bslice 32 _ _ rfl rfl ?_ bs ?_
       · (go_simp <;> rfl)
       simp only [Act.put, List.getElem_toArray, List.getElem_cons_zero, List.getElem_cons_succ, List.setIfInBounds_toArray, List.set_cons_zero, List.set_cons_succ]))
  clear bs zz
  go_loopw [5, 12] (fun s i wz => ∃ (k : Nat), k ≤ rows.length ∧ i = .int .i64 k ∧ wz.ownsRow W0.heap.size 5 1 s (1 + total (rows.take k)) (bv (t :: (rows.take k).flatten)) ∧ Kept (fun _ => False) W0 wz) (fun _ i _ => rows.length - (intOf i).toNat)
  case atStart => exact ⟨0, by omega, rfl, by simpa [total, bv] using ho, k1⟩
  case round =>
    clear ho k1
    obtain ⟨k, hk, rfl, hs, hkz⟩ := hrel
    have kwz := k0.trans hkz
    by_cases hlt : k < rows.length
    · obtain ⟨x, hx, hxl⟩ := hr k rows[k] (List.getElem?_eq_getElem hlt)
      have hc : wr.cell? ⟨g, k, none⟩ = some x := by rw [kwz.cell (p := ⟨g, k, none⟩) hgl not_false, cell_of_row _ _ _ _ _ _ hg]; simpa using hx
      have ht := total_take rows k hlt
      have hf := flat_take rows k hlt
      have hle := total_le rows (k + 1)
      obtain ⟨v', w', ap, ho', hg'⟩ := app_by hs (hxl.kept kwz) (by omega) hkz.size 32
      have kz' := grown_kept hkz hg' (fun k e => (World.ownsRow.lt hs k e).1)
      obtain ⟨a, c, rfl, _⟩ := hxl
      obtain ⟨aa, cc, rfl⟩ := row_form hs
      rw [← bv_app, List.cons_append, ← hf, Nat.add_assoc, ← ht] at ho'
      have hki : (k : Int) < (rows.length : Int) := by omega
      clear hf hle ht hs hg'
      generalize rows[k] = l at *
      go_wp2_with (first
        | (refine wpl_val rfl (exec_append 32 _ _ rfl rfl rfl ap) ?_))
      go_roundw
      case rel => exact ⟨k + 1, by omega, by go_num, ho', kz'⟩
      case measure => simp [intOf]; omega
    · obtain rfl : k = rows.length := by omega
      have hki : ¬ (rows.length : Int) < (rows.length : Int) := by omega
      obtain ⟨aa, cc, rfl⟩ := row_form hs
      rw [List.take_length] at hs
      have hbc := ByC.own hs
      have hll := hbc.cap.1
      have sc := sum_ct hbc (by rw [← hll]; omega) (hT.kept kwz)
      rw [List.take_length]
      have m1 := m0.stay hkz not_false
      clear hbc hll hs hkz
      go_wp2_with fail
      refine sc.mono ?_
      rintro e W3 ⟨rfl, kq⟩
      have m2 := m1.stay kq not_false
      have s1 := stDig m2 (m := nv (shaL (t :: rows.flatten))) rfl (shaL_len _)
      have p1 := m2.put (nv (shaL (t :: rows.flatten)))
      have kp : Kept (fun _ => False) w (W3.setRow X (kv .u8 (nv (shaL (t :: rows.flatten)))).toArray) := (kwz.trans kq).setRow (fun h => absurd h (by omega)) _
      go_wp2_with (first
        | (with_reducible refine wpl_store 27 _ _ rfl rfl ?_ ?_ s1 ?_
           · rfl
           · rfl
           simp only [Act.put, List.getElem_toArray, List.getElem_cons_zero, List.getElem_cons_succ, List.setIfInBounds_toArray, List.set_cons_zero, List.set_cons_succ]))
      refine bodyPost_ret (results_cell_row rfl _ _ _ _ _ _ _ rfl p1 Tryd.underlying27 rfl (by rw [List.size_toArray, kv_len, shaL_len]; kernel_rfl)) rfl ?_
      exact ⟨rfl, kp⟩

theorem be8_at (m : Nat) {i : Nat} (h : i < 8) : (nv (be8 m)).getD i 0 = m / 2 ^ (8 * (7 - i)) % 256 := by
  unfold nv be8
  rw [List.getD_eq_getElem?_getD, List.getElem?_map, List.getElem?_map, List.getElem?_range h]
  simp [UInt8.toNat_ofNat']
def z8b : List Nat := List.replicate 8 0
theorem zero8b (w : World) : (zeroValue 93).run Tryd.prog w = .ok (.agg (kv .u8 z8b).toArray) w := by kernel_rfl
theorem z8b_part (m : Nat) : z8b = part (nv (be8 m)) 8 0 := rfl
set_option maxHeartbeats 4000000 in
theorem eight_ct (n : Nat) (hn : n ≤ 1000000) (w : World) :
    Calls Tryd.prog 52 #[.int .i64 (n : Int)] w fun e w' => ∃ a c, e = .returned (.slice a 8 c) ∧ ByC w' (.slice a 8 c) (be8 n) ∧ Kept (fun _ => False) w w' := by
  have zz := zero8b
  have wn : IntKind.u64.wrap (n : Int) = (n : Int) := IntWalk.u64_in _ (by omega)
  clear hn
  go_enter Tryd.func52, Tryd.ntmps52
  go_wp2_with (first
    | (with_reducible refine wpl_alloc 93 rfl rfl (zz _) ?_
       simp only [World.size_alloc, Act.put, List.getElem_toArray, List.getElem_cons_zero, List.getElem_cons_succ, List.setIfInBounds_toArray, List.set_cons_zero, List.set_cons_succ]))
  obtain ⟨X, hX⟩ : ∃ X, w.heap.size = X := ⟨_, rfl⟩
  have k0 := (Kept.refl (fun _ => False) w).alloc (.cells (kv .u8 z8b).toArray 93)
  have m0 : Arr (w.alloc (.cells (kv .u8 z8b).toArray 93)) X 93 .u8 z8b := Arr.new hX.symm
  rw [hX]
  generalize w.alloc (.cells (kv .u8 z8b).toArray 93) = W0 at k0 m0 ⊢
  obtain ⟨L, hLd⟩ : ∃ L, L = nv (be8 n) := ⟨_, rfl⟩
  have hLl : L.length = 8 := by rw [hLd, nv_len, be8_len]
  have HL := Lib.hid hLd
  rw [z8b_part n, ← hLd] at m0
  clear hLd zz
  go_loopw [5] (fun x wr => ∃ i : Nat, i ≤ 8 ∧ x = .int .i64 i ∧ Arr wr X 93 .u8 (part L 8 i) ∧ Kept (fun _ => False) w wr) (fun x _ => 8 - (intOf x).toNat)
  case atStart => exact ⟨0, by omega, rfl, m0, k0⟩
  case round =>
    clear m0 k0
    obtain ⟨i, hi, rfl, m3, kr⟩ := hrel
    have hi9 : i = 0 ∨ i = 1 ∨ i = 2 ∨ i = 3 ∨ i = 4 ∨ i = 5 ∨ i = 6 ∨ i = 7 ∨ i = 8 := by omega
    rcases hi9 with rfl | rfl | rfl | rfl | rfl | rfl | rfl | rfl | rfl
    · have hv : L.getD 0 0 = (n / 72057594037927936) % 256 := by rw [HL.out, be8_at n (by decide)] <;> simp
      have hvi : ((L.getD 0 0 : Nat) : Int) = ((n : Int) / 72057594037927936) % 256 := by rw [hv]; omega
      have fz := m3.frozen 0
      have co := m3.cell (j := 0) (by rw [part_len hLl (by omega)]; decide)
      generalize (part L 8 0).getD 0 0 = old at co
      have st := m3.set 0 (L.getD 0 0)
      have hps := part_set hLl (show 0 < 8 by decide)
      have k5 : Kept (fun _ => False) w (wr.setCell ⟨X, 0, none⟩ (.int .u8 ((L.getD 0 0 : Nat) : Int))) := kr.setCell (p := ⟨X, 0, none⟩) (fun h => by have h : X < w.heap.size := h; omega) _
      rw [hvi] at st k5
      have HP := Lib.hid hps
      clear hv hvi hps m3 kr
      rw [show ((0 : Nat) : Int) = 0 from rfl]
      go_wp2_with fail
      go_roundw
      case rel => exact ⟨0 + 1, by omega, by go_num, by rw [← HP.out]; exact st, k5⟩
      case measure => simp [intOf]
    · have hv : L.getD 1 0 = (n / 281474976710656) % 256 := by rw [HL.out, be8_at n (by decide)] <;> simp
      have hvi : ((L.getD 1 0 : Nat) : Int) = ((n : Int) / 281474976710656) % 256 := by rw [hv]; omega
      have fz := m3.frozen 1
      have co := m3.cell (j := 1) (by rw [part_len hLl (by omega)]; decide)
      generalize (part L 8 1).getD 1 0 = old at co
      have st := m3.set 1 (L.getD 1 0)
      have hps := part_set hLl (show 1 < 8 by decide)
      have k5 : Kept (fun _ => False) w (wr.setCell ⟨X, 1, none⟩ (.int .u8 ((L.getD 1 0 : Nat) : Int))) := kr.setCell (p := ⟨X, 1, none⟩) (fun h => by have h : X < w.heap.size := h; omega) _
      rw [hvi] at st k5
      have HP := Lib.hid hps
      clear hv hvi hps m3 kr
      rw [show ((1 : Nat) : Int) = 1 from rfl]
      go_wp2_with fail
      go_roundw
      case rel => exact ⟨1 + 1, by omega, by go_num, by rw [← HP.out]; exact st, k5⟩
      case measure => simp [intOf]
    · have hv : L.getD 2 0 = (n / 1099511627776) % 256 := by rw [HL.out, be8_at n (by decide)] <;> simp
      have hvi : ((L.getD 2 0 : Nat) : Int) = ((n : Int) / 1099511627776) % 256 := by rw [hv]; omega
      have fz := m3.frozen 2
      have co := m3.cell (j := 2) (by rw [part_len hLl (by omega)]; decide)
      generalize (part L 8 2).getD 2 0 = old at co
      have st := m3.set 2 (L.getD 2 0)
      have hps := part_set hLl (show 2 < 8 by decide)
      have k5 : Kept (fun _ => False) w (wr.setCell ⟨X, 2, none⟩ (.int .u8 ((L.getD 2 0 : Nat) : Int))) := kr.setCell (p := ⟨X, 2, none⟩) (fun h => by have h : X < w.heap.size := h; omega) _
      rw [hvi] at st k5
      have HP := Lib.hid hps
      clear hv hvi hps m3 kr
      rw [show ((2 : Nat) : Int) = 2 from rfl]
      go_wp2_with fail
      go_roundw
      case rel => exact ⟨2 + 1, by omega, by go_num, by rw [← HP.out]; exact st, k5⟩
      case measure => simp [intOf]
    · have hv : L.getD 3 0 = (n / 4294967296) % 256 := by rw [HL.out, be8_at n (by decide)] <;> simp
      have hvi : ((L.getD 3 0 : Nat) : Int) = ((n : Int) / 4294967296) % 256 := by rw [hv]; omega
      have fz := m3.frozen 3
      have co := m3.cell (j := 3) (by rw [part_len hLl (by omega)]; decide)
      generalize (part L 8 3).getD 3 0 = old at co
      have st := m3.set 3 (L.getD 3 0)
      have hps := part_set hLl (show 3 < 8 by decide)
      have k5 : Kept (fun _ => False) w (wr.setCell ⟨X, 3, none⟩ (.int .u8 ((L.getD 3 0 : Nat) : Int))) := kr.setCell (p := ⟨X, 3, none⟩) (fun h => by have h : X < w.heap.size := h; omega) _
      rw [hvi] at st k5
      have HP := Lib.hid hps
      clear hv hvi hps m3 kr
      rw [show ((3 : Nat) : Int) = 3 from rfl]
      go_wp2_with fail
      go_roundw
      case rel => exact ⟨3 + 1, by omega, by go_num, by rw [← HP.out]; exact st, k5⟩
      case measure => simp [intOf]
    · have hv : L.getD 4 0 = (n / 16777216) % 256 := by rw [HL.out, be8_at n (by decide)] <;> simp
      have hvi : ((L.getD 4 0 : Nat) : Int) = ((n : Int) / 16777216) % 256 := by rw [hv]; omega
      have fz := m3.frozen 4
      have co := m3.cell (j := 4) (by rw [part_len hLl (by omega)]; decide)
      generalize (part L 8 4).getD 4 0 = old at co
      have st := m3.set 4 (L.getD 4 0)
      have hps := part_set hLl (show 4 < 8 by decide)
      have k5 : Kept (fun _ => False) w (wr.setCell ⟨X, 4, none⟩ (.int .u8 ((L.getD 4 0 : Nat) : Int))) := kr.setCell (p := ⟨X, 4, none⟩) (fun h => by have h : X < w.heap.size := h; omega) _
      rw [hvi] at st k5
      have HP := Lib.hid hps
      clear hv hvi hps m3 kr
      rw [show ((4 : Nat) : Int) = 4 from rfl]
      go_wp2_with fail
      go_roundw
      case rel => exact ⟨4 + 1, by omega, by go_num, by rw [← HP.out]; exact st, k5⟩
      case measure => simp [intOf]
    · have hv : L.getD 5 0 = (n / 65536) % 256 := by rw [HL.out, be8_at n (by decide)] <;> simp
      have hvi : ((L.getD 5 0 : Nat) : Int) = ((n : Int) / 65536) % 256 := by rw [hv]; omega
      have fz := m3.frozen 5
      have co := m3.cell (j := 5) (by rw [part_len hLl (by omega)]; decide)
      generalize (part L 8 5).getD 5 0 = old at co
      have st := m3.set 5 (L.getD 5 0)
      have hps := part_set hLl (show 5 < 8 by decide)
      have k5 : Kept (fun _ => False) w (wr.setCell ⟨X, 5, none⟩ (.int .u8 ((L.getD 5 0 : Nat) : Int))) := kr.setCell (p := ⟨X, 5, none⟩) (fun h => by have h : X < w.heap.size := h; omega) _
      rw [hvi] at st k5
      have HP := Lib.hid hps
      clear hv hvi hps m3 kr
      rw [show ((5 : Nat) : Int) = 5 from rfl]
      go_wp2_with fail
      go_roundw
      case rel => exact ⟨5 + 1, by omega, by go_num, by rw [← HP.out]; exact st, k5⟩
      case measure => simp [intOf]
    · have hv : L.getD 6 0 = (n / 256) % 256 := by rw [HL.out, be8_at n (by decide)] <;> simp
      have hvi : ((L.getD 6 0 : Nat) : Int) = ((n : Int) / 256) % 256 := by rw [hv]; omega
      have fz := m3.frozen 6
      have co := m3.cell (j := 6) (by rw [part_len hLl (by omega)]; decide)
      generalize (part L 8 6).getD 6 0 = old at co
      have st := m3.set 6 (L.getD 6 0)
      have hps := part_set hLl (show 6 < 8 by decide)
      have k5 : Kept (fun _ => False) w (wr.setCell ⟨X, 6, none⟩ (.int .u8 ((L.getD 6 0 : Nat) : Int))) := kr.setCell (p := ⟨X, 6, none⟩) (fun h => by have h : X < w.heap.size := h; omega) _
      rw [hvi] at st k5
      have HP := Lib.hid hps
      clear hv hvi hps m3 kr
      rw [show ((6 : Nat) : Int) = 6 from rfl]
      go_wp2_with fail
      go_roundw
      case rel => exact ⟨6 + 1, by omega, by go_num, by rw [← HP.out]; exact st, k5⟩
      case measure => simp [intOf]
    · have hv : L.getD 7 0 = n % 256 := by rw [HL.out, be8_at n (by decide)] <;> simp
      have hvi : ((L.getD 7 0 : Nat) : Int) = (n : Int) % 256 := by rw [hv]; omega
      have fz := m3.frozen 7
      have co := m3.cell (j := 7) (by rw [part_len hLl (by omega)]; decide)
      generalize (part L 8 7).getD 7 0 = old at co
      have st := m3.set 7 (L.getD 7 0)
      have hps := part_set hLl (show 7 < 8 by decide)
      have k5 : Kept (fun _ => False) w (wr.setCell ⟨X, 7, none⟩ (.int .u8 ((L.getD 7 0 : Nat) : Int))) := kr.setCell (p := ⟨X, 7, none⟩) (fun h => by have h : X < w.heap.size := h; omega) _
      rw [hvi] at st k5
      have HP := Lib.hid hps
      clear hv hvi hps m3 kr
      rw [show ((7 : Nat) : Int) = 7 from rfl]
      go_wp2_with fail
      go_roundw
      case rel => exact ⟨7 + 1, by omega, by go_num, by rw [← HP.out]; exact st, k5⟩
      case measure => simp [intOf]
    · rw [part_full hLl (by decide), HL.out] at m3
      have hb := m3.byC (be8_len n) (by simp [maxLen])
      rw [show ((8 : Nat) : Int) = 8 from rfl]
      clear wn
      go_wp2_with fail
      go_ret
      exact ⟨_, _, rfl, hb, kr⟩

def cnt (n : Nat) : Nat := max 1 ((n + 63) / 64)
def chunkL (b : List UInt8) (i : Nat) : List UInt8 := (b.drop (64 * i)).take 64
theorem chunkL_len (b : List UInt8) (i : Nat) : (chunkL b i).length = min 64 (b.length - 64 * i) := by simp [chunkL]
theorem ret_i {k : IntKind} {a b : Int} (h : a = b) : Ending.returned (.int k a) = .returned (.int k b) := by rw [h]
set_option maxHeartbeats 1000000 in
theorem count_ct (n : Nat) (hn : n ≤ 1000000) (w : World) :
    Calls Tryd.prog 47 #[.int .i64 (n : Int)] w fun e w' => e = .returned (.int .i64 ((cnt n : Nat) : Int)) ∧ w' = w := by
  obtain ⟨q, hq⟩ : ∃ q, q = n / 64 := ⟨_, rfl⟩
  obtain ⟨r, hr⟩ : ∃ r, r = n % 64 := ⟨_, rfl⟩
  have hqi : (n : Int) / 64 = (q : Int) := by omega
  have hri : (n : Int) % 64 = (r : Int) := by omega
  have h0 : ¬ (n : Int) < 0 := by omega
  have hc : cnt n = max 1 (q + min 1 r) := by unfold cnt; omega
  have hq1 : q ≤ 1000000 := by omega
  have hr1 : r ≤ 63 := by omega
  have HC := Lib.hid hc
  clear hc hq hr
  have hcase : (r = 0 ∨ 1 ≤ r) ∧ (q = 0 ∨ 1 ≤ q) := by omega
  rcases hcase with ⟨rfl | hr0, rfl | hq0⟩
  all_goals
    go_enter Tryd.func47, Tryd.ntmps47
    go_wp2_with fail
    all_goals
      go_ret
      exact ⟨ret_i (by rw [HC.out]; omega), rfl⟩

theorem slice_lh (a : Option Addr) (n c : Nat) {i j : Nat} (hij : i ≤ j) (hjc : j ≤ c) (w : World) : (Instr.sliceAt 32 (.slice a n c) (some (.int .i64 (i : Int))) (some (.int .i64 (j : Int))) none).run Tryd.prog w = .ok (.slice (if c = i then a else a.map (·.add i)) (j - i) (c - i)) w := by
  rw [run_sliceAt_slice _ _ _ _ _ _ rfl, run_slice_lh _ _ _ _ _ rfl _ _ _ _ (by omega) (by omega) (by omega), sizeOf1]
  simp [Result.andThen, sliced]
