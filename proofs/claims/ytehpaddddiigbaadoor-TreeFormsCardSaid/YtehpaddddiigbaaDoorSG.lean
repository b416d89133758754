/- The document's root: the plain law of its search. -/
import Derived.Test.YtehpaddddiigbaaDoorSF
namespace Go.Proofs.YtehpaddddiigbaaDoor
open Go.RowKit
set_option maxRecDepth 100000
set_option linter.unusedSimpArgs false
set_option linter.unusedVariables false

/-- x is the greatest number whose power is at most M, up to 2^m. -/
def Near (M e x m : Nat) : Prop := x ^ e ≤ M ∧ M < (x + 2 ^ m) ^ e
theorem near_yes {M e x m : Nat} (h : Near M e x (m + 1)) (hy : (x + 2 ^ m) ^ e ≤ M) : Near M e (x + 2 ^ m) m :=
  ⟨hy, by have := h.2; rwa [Nat.pow_succ, Nat.mul_comm, Nat.two_mul, ← Nat.add_assoc] at this⟩
theorem near_no {M e x m : Nat} (h : Near M e x (m + 1)) (hy : M < (x + 2 ^ m) ^ e) : Near M e x m := ⟨h.1, hy⟩
theorem near_one {M e x K : Nat} (he : e ≠ 0) (h : Near M e x 0) (h1 : K ^ e ≤ M) (h2 : M < (K + 1) ^ e) : x = K := by
  have a1 : x < K + 1 := (Nat.pow_lt_pow_iff_left he).1 (Nat.lt_of_le_of_lt h.1 h2)
  have a2 : K < x + 1 := (Nat.pow_lt_pow_iff_left he).1 (Nat.lt_of_le_of_lt h1 (by have := h.2; simpa using this))
  omega

theorem stNew (m : List Nat) (hm : m.length = 10) (w : World) : (Instr.storeAt 95 (.pointer (some ⟨w.heap.size, 0, none⟩)) ((Value.agg (List.toArray (kv .u64 m))))).run Tryd.prog (w.alloc (.cells (kv .u64 z10).toArray 95)) = .ok () (w.alloc (.cells (kv .u64 m).toArray 95)) :=
  store_new (by rw [List.size_toArray, kv_len, hm]; kernel_rfl) (by rw [List.size_toArray, List.size_toArray, kv_len, kv_len, hm]; rfl) (kv_one .u64 m) rfl
def bitN (m : Nat) : Nat := if m = 0 then 0 else 2 ^ (m - 1)
theorem bitN_half (m : Nat) : bitN (m + 1) / 2 = bitN m := by
  unfold bitN
  cases m with
  | zero => rfl
  | succ m => simp [Nat.pow_succ]
set_option maxHeartbeats 4000000 in
theorem root_ct (p e K : Nat) (he : 2 ≤ e) (he3 : e ≤ 3) (hp : p ≤ 311) (h1 : K ^ e ≤ p * BB ^ (2 * e)) (h2 : p * BB ^ (2 * e) < (K + 1) ^ e) (w : World) :
    Calls Tryd.prog 54 #[.int .i64 p, .int .i64 e] w fun x w' => x = .returned (.int .u32 ((K % 4294967296 : Nat) : Int)) ∧ Kept (fun _ => False) w w' := by
  have z10' := zeroU10
  have hto : ((2 : Int) * (e : Int)).toNat = 2 * e := by omega
  have hN : Arr (w.alloc (.cells (kv .u64 z10).toArray 95)) w.heap.size 95 .u64 z10 := Arr.new rfl
  have cN := hN.cell (j := 2 * e) (by unfold z10; rw [List.length_replicate]; omega)
  have fN := hN.frozen (2 * e)
  have hVm : V (z10.set (2 * e) p) = p * BB ^ (2 * e) := by
    have h3 := V_set z10 (2 * e) p (by unfold z10; rw [List.length_replicate]; omega)
    have h4 : z10.getD (2 * e) 0 = 0 := by
      have : e = 2 ∨ e = 3 := by omega
      rcases this with rfl | rfl <;> rfl
    rw [h4, z10_V] at h3
    omega
  go_enter Tryd.func54, Tryd.ntmps54
  go_wp2_with (first
    | (with_reducible refine wpl_alloc 95 rfl rfl (z10' _) ?_
       simp only [World.size_alloc, Act.put, List.getElem_toArray, List.getElem_cons_zero, List.getElem_cons_succ, List.setIfInBounds_toArray, List.set_cons_zero, List.set_cons_succ]))
  rw [← kv_set]
  have h0 : Arr (w.alloc (.cells (kv .u64 (z10.set (2 * e) p)).toArray 95)) w.heap.size 95 .u64 (z10.set (2 * e) p) := Arr.new rfl
  have k1 : Kept (fun _ => False) w (w.alloc (.cells (kv .u64 (z10.set (2 * e) p)).toArray 95)) := (Kept.refl _ w).alloc _
  generalize w.alloc (.cells (kv .u64 (z10.set (2 * e) p)).toArray 95) = W1 at h0 k1 ⊢
  have hml : (z10.set (2 * e) p).length = 10 := by rw [List.length_set]; rfl
  have hmd : ∀ d ∈ z10.set (2 * e) p, d < BB := set_lt z10_lt (by unfold BB; omega)
  generalize z10.set (2 * e) p = most at *
  generalize hX : w.heap.size = X at h0 ⊢
  clear hN cN fN hto
  go_loopw [6, 7] (fun x y wr => ∃ c m : Nat, m ≤ 38 ∧ x = .int .u64 c ∧ y = .int .u64 (bitN m : Nat) ∧ Hid (Near (p * BB ^ (2 * e)) e c m) ∧ c + 2 ^ m ≤ 274877906944 ∧ Arr wr X 95 .u64 most ∧ Kept (fun _ => False) w wr) (fun _ y _ => (intOf y).toNat)
  case atStart =>
    refine ⟨0, 38, by omega, rfl, rfl, ?_, by decide, h0, k1⟩
    refine ⟨by rw [Nat.zero_pow (by omega)]; omega, ?_⟩
    have h5 : p * BB ^ (2 * e) < 65536 * BB ^ (2 * e) := Nat.mul_lt_mul_of_pos_right (by omega) (Nat.pow_pos (by decide))
    have : e = 2 ∨ e = 3 := by omega
    rcases this with rfl | rfl <;> simp [BB] at h5 ⊢ <;> omega
  case round =>
    obtain ⟨c, m, hm, rfl, rfl, HN, hcm, hr, hkr⟩ := hrel
    cases m with
    | zero =>
      obtain rfl : c = K := near_one (by omega) HN.out h1 h2
      have hb0 : ((bitN 0 : Nat) : Int) = 0 := rfl
      have e1 : ((c % 4294967296 : Nat) : Int) = (c : Int) % 4294967296 := by omega
      have HE := Lib.hid e1
      clear e1
      rw [hb0]
      go_wp2_with fail
      go_ret
      exact ⟨by rw [HE.out] <;> rfl, hkr⟩
    | succ m =>
      have hg0 : bitN (m + 1) = 2 ^ m := by unfold bitN; rfl
      have hgh := bitN_half m
      have hpw : 2 ^ (m + 1) = 2 ^ m + 2 ^ m := by rw [Nat.pow_succ]; omega
      have hgp : 0 < 2 ^ m := Nat.pow_pos (by decide)
      have ny := fun h => near_yes (m := m) HN.out h
      have nn := fun h => near_no (m := m) HN.out h
      rw [hpw] at hcm
      rw [hg0] at hgh ⊢
      generalize hgm : 2 ^ m = g at *
      have HGM := Lib.hid hgm
      clear hgm
      obtain ⟨y, hy⟩ : ∃ y : Nat, y = c + g := ⟨_, rfl⟩
      have hyi : (c : Int) + (g : Int) = (y : Int) := by omega
      have dc := digits_ct y (by omega) wr
      rw [← hyi] at dc
      have HYI := Lib.hid hyi
      clear hyi
      have hg0i : (0 : Int) < (g : Int) := by omega
      have hNY := Lib.hid (And.intro ny nn)
      have hHH := Lib.hid (And.intro hgh hg0)
      clear ny nn hgh hg0 HN hpw
      go_wp2_with fail
      refine dc.mono ?_
      rintro x W2 ⟨rfl, k2⟩
      have hdl : (digL 4 y ++ [0, 0, 0, 0, 0, 0]).length = 10 := by rw [List.length_append, digL_len]; rfl
      generalize hdd : digL 4 y ++ [0, 0, 0, 0, 0, 0] = d at *
      have st8 := stNew d hdl W2
      have ld8 := ldU10 (Arr.new (w := W2) (t := 95) (k := .u64) (l := d) rfl) hdl
      have st9 := stNew d hdl (W2.alloc (.cells (kv .u64 d).toArray 95))
      rw [World.size_alloc] at st9
      go_wp2_with (first
        | (with_reducible refine wpl_load 95 _ rfl rfl ?_ ld8 ?_
           · rfl
           simp only [Act.put, List.getElem_toArray, List.getElem_cons_zero, List.getElem_cons_succ, List.setIfInBounds_toArray, List.set_cons_zero, List.set_cons_succ])
        | (with_reducible refine wpl_alloc 95 rfl rfl (z10' _) ?_
           simp only [World.size_alloc, Act.put, List.getElem_toArray, List.getElem_cons_zero, List.getElem_cons_succ, List.setIfInBounds_toArray, List.set_cons_zero, List.set_cons_succ])
        | (with_reducible refine wpl_store 95 _ _ rfl rfl ?_ ?_ st8 ?_
           · rfl
           · rfl
           simp only [Act.put, List.getElem_toArray, List.getElem_cons_zero, List.getElem_cons_succ, List.setIfInBounds_toArray, List.set_cons_zero, List.set_cons_succ])
        | (with_reducible refine wpl_store 95 _ _ rfl rfl ?_ ?_ st9 ?_
           · rfl
           · rfl
           simp only [Act.put, List.getElem_toArray, List.getElem_cons_zero, List.getElem_cons_succ, List.setIfInBounds_toArray, List.set_cons_zero, List.set_cons_succ]))
      have hdV : V d = y := by rw [← hdd, V_app, V_digL 4 y (by unfold BB; omega)]; simp [V]
      have hdL : ∀ j ∈ d, j < BB := fun j hj => by
        rw [← hdd] at hj
        rcases List.mem_append.1 hj with h | h
        · exact digL_lt _ _ j h
        · simp at h; subst h; decide
      have hB0 : Arr (W2.alloc (.cells (kv .u64 d).toArray 95)) W2.heap.size 95 .u64 d := Arr.new rfl
      have kA := (Kept.refl (fun _ => False) W2).alloc (.cells (kv .u64 d).toArray 95)
      have kB := (Kept.refl (fun _ => False) (W2.alloc (.cells (kv .u64 d).toArray 95))).alloc (.cells (kv .u64 d).toArray 95)
      have hB := hB0.stay kB not_false
      have hC : Arr ((W2.alloc (.cells (kv .u64 d).toArray 95)).alloc (.cells (kv .u64 d).toArray 95)) (W2.heap.size + 1) 95 .u64 d := Arr.new (World.size_alloc _ _).symm
      have hM := ((hr.stay k2 not_false).stay kA not_false).stay kB not_false
      have k5 := ((hkr.trans k2).trans kA).trans kB
      have hXB : X < W2.heap.size := (hr.stay k2 not_false).lt
      have hwB : w.heap.size ≤ W2.heap.size := (hkr.trans k2).size
      generalize (W2.alloc (.cells (kv .u64 d).toArray 95)).alloc (.cells (kv .u64 d).toArray 95) = W3 at hB hC hM k5 ⊢
      generalize W2.heap.size = B at hB hC hXB hwB ⊢
      clear kA kB hB0 st8 st9 ld8 hr hkr k2 dc hdd
      go_loopw [10] (fun x wz => ∃ (q : Nat) (l : List Nat), 1 ≤ q ∧ q ≤ e ∧ x = .int .i64 q ∧ l.length = 10 ∧ Hid ((∀ j ∈ l, j < BB) ∧ V l = y ^ q) ∧ Arr wz X 95 .u64 most ∧ Arr wz B 95 .u64 d ∧ Arr wz (B + 1) 95 .u64 l ∧ Kept (fun _ => False) w wz) (fun x _ => e - (intOf x).toNat)
      case atStart => exact ⟨1, d, by omega, by omega, rfl, hdl, ⟨hdL, by rw [hdV, Nat.pow_one]⟩, hM, hB, hC, k5⟩
      case round =>
        clear hM hB hC k5
        obtain ⟨q, l, hq1, hq, rfl, hll, HQ, hM, hB, hC, k5⟩ := hrel
        by_cases hlt : q < e
        · have hlti : (q : Int) < (e : Int) := by omega
          have l9 := ldU10 hC hll
          have l8 := ldU10 hB hdl
          have hbd : V l * V d < BB ^ 10 := by
            rw [HQ.out.2, hdV, ← Nat.pow_succ]
            have a1 : y ^ (q + 1) ≤ 274877906944 ^ (q + 1) := Nat.pow_le_pow_left (by omega) _
            have a2 : 274877906944 ^ (q + 1) ≤ 274877906944 ^ 3 := Nat.pow_le_pow_right (by decide) (by omega)
            have a3 : 274877906944 ^ 3 < BB ^ 10 := by decide +kernel
            exact Nat.lt_of_le_of_lt (Nat.le_trans a1 a2) a3
          have tc := times_ct l d hll hdl HQ.out.1 hdL hbd wr
          have HW := Lib.hid hbd
          clear hbd
          go_wp2_with (first
            | (with_reducible refine wpl_load 95 _ rfl rfl ?_ l9 ?_
               · rfl
               simp only [Act.put, List.getElem_toArray, List.getElem_cons_zero, List.getElem_cons_succ, List.setIfInBounds_toArray, List.set_cons_zero, List.set_cons_succ])
            | (with_reducible refine wpl_load 95 _ rfl rfl ?_ l8 ?_
               · rfl
               simp only [Act.put, List.getElem_toArray, List.getElem_cons_zero, List.getElem_cons_succ, List.setIfInBounds_toArray, List.set_cons_zero, List.set_cons_succ]))
          refine tc.mono ?_
          rintro x W5 ⟨r, rfl, hrl, hrd, hrV, k6⟩
          have hC5 := hC.stay k6 not_false
          have s9 := stU10 hC5 hll hrl
          have hM5 := (hM.stay k6 not_false).stay (S := fun j => j = B + 1) ((Kept.refl (fun j => j = B + 1) W5).setRow (b := B + 1) (fun _ => rfl) (kv .u64 r).toArray) (by omega)
          have hB5 := (hB.stay k6 not_false).stay (S := fun j => j = B + 1) ((Kept.refl (fun j => j = B + 1) W5).setRow (b := B + 1) (fun _ => rfl) (kv .u64 r).toArray) (by omega)
          have hC6 := hC5.put r
          have k7 := (k5.trans k6).setRow (b := B + 1) (fun h => absurd h (by omega)) (kv .u64 r).toArray
          have HR := Lib.hid (And.intro hrd (show V r = y ^ (q + 1) by rw [hrV, HQ.out.2, hdV, Nat.pow_succ]))
          clear hrd hrV hC5 hM hB hC k5 k6 l9 l8 tc
          go_wp2_with (first
            | (with_reducible refine wpl_store 95 _ _ rfl rfl ?_ ?_ s9 ?_
               · rfl
               · rfl
               simp only [Act.put, List.getElem_toArray, List.getElem_cons_zero, List.getElem_cons_succ, List.setIfInBounds_toArray, List.set_cons_zero, List.set_cons_succ]))
          go_roundw
          case rel => exact ⟨q + 1, r, by omega, by omega, by go_num, hrl, HR.out, hM5, hB5, hC6, k7⟩
          case measure => simp [intOf]; omega
        · obtain rfl : q = e := by omega
          have hqi : ¬ (q : Int) < (q : Int) := by omega
          have l9 := ldU10 hC hll
          have l5 := ldU10 hM hml
          have ac := above_ct l most hll hml HQ.out.1 hmd wr
          rw [HQ.out.2, hVm, hy] at ac
          have hgi : ((g / 2 : Nat) : Int) = (g : Int) / 2 := by omega
          have HG := Lib.hid hgi
          by_cases hup : (c + g) ^ q ≤ p * BB ^ (2 * q)
          · rw [decide_eq_false (by omega)] at ac
            have HN2 := Lib.hid (hNY.out.1 hup)
            clear hgi hup hC hB
            go_wp2_with (first
              | (with_reducible refine wpl_load 95 _ rfl rfl ?_ l9 ?_
                 · rfl
                 simp only [Act.put, List.getElem_toArray, List.getElem_cons_zero, List.getElem_cons_succ, List.setIfInBounds_toArray, List.set_cons_zero, List.set_cons_succ])
              | (with_reducible refine wpl_load 95 _ rfl rfl ?_ l5 ?_
                 · rfl
                 simp only [Act.put, List.getElem_toArray, List.getElem_cons_zero, List.getElem_cons_succ, List.setIfInBounds_toArray, List.set_cons_zero, List.set_cons_succ]))
            refine ac.mono ?_
            rintro x W5 ⟨rfl, k6⟩
            have hM5 := hM.stay k6 not_false
            have k7 := k5.trans k6
            clear hM k5 k6 l9 l5 ac
            go_wp2_with fail
            go_roundw
            case rel => exact ⟨c + g, m, by omega, by go_num, by rw [← hHH.out.1, HG.out], HN2, by rw [HGM.out]; omega, hM5, k7⟩
            case measure => simp [intOf]; omega
          · rw [decide_eq_true (by omega)] at ac
            have HN2 := Lib.hid (hNY.out.2 (by omega))
            clear hgi hup hC hB
            go_wp2_with (first
              | (with_reducible refine wpl_load 95 _ rfl rfl ?_ l9 ?_
                 · rfl
                 simp only [Act.put, List.getElem_toArray, List.getElem_cons_zero, List.getElem_cons_succ, List.setIfInBounds_toArray, List.set_cons_zero, List.set_cons_succ])
              | (with_reducible refine wpl_load 95 _ rfl rfl ?_ l5 ?_
                 · rfl
                 simp only [Act.put, List.getElem_toArray, List.getElem_cons_zero, List.getElem_cons_succ, List.setIfInBounds_toArray, List.set_cons_zero, List.set_cons_succ]))
            refine ac.mono ?_
            rintro x W5 ⟨rfl, k6⟩
            have hM5 := hM.stay k6 not_false
            have k7 := k5.trans k6
            clear hM k5 k6 l9 l5 ac
            go_wp2_with fail
            go_roundw
            case rel => exact ⟨c, m, by omega, rfl, by rw [← hHH.out.1, HG.out], HN2, by rw [HGM.out]; omega, hM5, k7⟩
            case measure => simp [intOf]; omega
