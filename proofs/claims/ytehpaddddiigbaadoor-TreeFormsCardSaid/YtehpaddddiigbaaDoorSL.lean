/- The document's block. -/
import Derived.Test.YtehpaddddiigbaaDoorSK
namespace Go.Proofs.YtehpaddddiigbaaDoor
open Go.RowKit
set_option maxRecDepth 100000
set_option linter.unusedSimpArgs false
set_option linter.unusedVariables false

def wacc (L : List UInt8) (t : Nat) : Nat → UInt32
  | 0 => 0
  | i + 1 => UInt32.ofNat ((wacc L t i).toNat * 256 + (L.getD (4 * t + i) 0).toNat)
theorem wacc_4 (L : List UInt8) (t : Nat) : wacc L t 4 = wordAt L t := by
  have h0 := (L.getD (4 * t) 0).toNat_lt
  have h1 := (L.getD (4 * t + 1) 0).toNat_lt
  have h2 := (L.getD (4 * t + 2) 0).toNat_lt
  have h3 := (L.getD (4 * t + 3) 0).toNat_lt
  have e1 : (wacc L t 1).toNat = (L.getD (4 * t) 0).toNat := by
    show (UInt32.ofNat ((0 : UInt32).toNat * 256 + (L.getD (4 * t + 0) 0).toNat)).toNat = _
    rw [UInt32.toNat_ofNat']
    simp only [Nat.add_zero]
    rw [show (0 : UInt32).toNat = 0 from rfl]
    omega
  have e2 : (wacc L t 2).toNat = (L.getD (4 * t) 0).toNat * 256 + (L.getD (4 * t + 1) 0).toNat := by
    show (UInt32.ofNat ((wacc L t 1).toNat * 256 + (L.getD (4 * t + 1) 0).toNat)).toNat = _
    rw [UInt32.toNat_ofNat', e1]
    omega
  have e3 : (wacc L t 3).toNat = ((L.getD (4 * t) 0).toNat * 256 + (L.getD (4 * t + 1) 0).toNat) * 256 + (L.getD (4 * t + 2) 0).toNat := by
    show (UInt32.ofNat ((wacc L t 2).toNat * 256 + (L.getD (4 * t + 2) 0).toNat)).toNat = _
    rw [UInt32.toNat_ofNat', e2]
    omega
  show UInt32.ofNat ((wacc L t 3).toNat * 256 + (L.getD (4 * t + 3) 0).toNat) = _
  rw [e3]
  rfl
theorem acc_step (a : UInt32) (c : UInt8) : ∃ m : Nat, IntKind.u32.wrap ((a.toNat : Int) * 256) = (m : Int) ∧ IntKind.u32.wrap (c.toNat : Int) = (c.toNat : Int) ∧ IntKind.u32.wrap ((m : Int) + (c.toNat : Int)) = ((UInt32.ofNat (a.toNat * 256 + c.toNat)).toNat : Int) := by
  have h := c.toNat_lt
  refine ⟨a.toNat * 256 % 4294967296, ?_, ?_, ?_⟩
  · rw [IntKind.wrap_u32']; omega
  · rw [IntKind.wrap_u32']; omega
  · rw [IntKind.wrap_u32', UInt32.toNat_ofNat']; omega
theorem wpart_zero (L : List UInt8) {n : Nat} (h : n < 64) : (wpart L n).set n 0 = wpart L n := by
  apply List.ext_getElem?
  intro i
  rw [List.getElem?_set]
  split
  · rename_i e
    subst e
    rw [if_pos (by rw [wpart_len _ _ (by omega)]; exact h)]
    unfold wpart
    rw [List.getElem?_append_right (by rw [sched_len]; omega), sched_len, Nat.sub_self]
    rw [List.getElem?_replicate, if_pos (by omega)]
  · rfl
theorem addU_comm (a b : UInt32) : addU a b = addU b a := UInt32.add_comm a b
def mixR (s r : S8) (i : Nat) : List UInt32 := (s.add r).row.take i ++ r.row.drop i
theorem mixR_len (s r : S8) (i : Nat) (h : i ≤ 8) : (mixR s r i).length = 8 := by
  unfold mixR
  rw [List.length_append, List.length_take, List.length_drop, s8_len, s8_len]
  omega
set_option maxHeartbeats 4000000 in
theorem rblock_ct (s : S8) (L : List UInt8) {w : World} {g off cap n : Nat} (hL : w.rangeAt g off (bv L)) (hg : g < w.heap.size) (hl : 64 ≤ L.length) (hn : 64 ≤ n) (hm : n ≤ 1000000) :
    Calls Tryd.prog 71 #[(Value.agg (List.toArray (kv .u32 (wv s.row)))), (Value.agg (List.toArray (kv .u32 kW))), .slice (some ⟨g, off, none⟩) n cap] w fun e w' => e = .returned ((Value.agg (List.toArray (kv .u32 (wv (blockF s L).row))))) ∧ Kept (fun _ => False) w w' := by
  have zz := zeroW64
  have z8' := zeroW8
  go_enter Tryd.func71, Tryd.ntmps71
  go_wp2_with (first
    | (with_reducible refine wpl_alloc 65 rfl rfl (zz _) ?_
       simp only [World.size_alloc, Act.put, List.getElem_toArray, List.getElem_cons_zero, List.getElem_cons_succ, List.setIfInBounds_toArray, List.set_cons_zero, List.set_cons_succ])
    | (with_reducible refine wpl_alloc 64 rfl rfl (z8' _) ?_
       simp only [World.size_alloc, Act.put, List.getElem_toArray, List.getElem_cons_zero, List.getElem_cons_succ, List.setIfInBounds_toArray, List.set_cons_zero, List.set_cons_succ]))
  obtain ⟨X, hX⟩ : ∃ X, w.heap.size = X := ⟨_, rfl⟩
  have hg' : g < X := by omega
  have kk := fun (v : World) (o : Obj) => (Kept.refl (fun _ => False) v).alloc o
  have k0 := (((kk w (.cells (kv .u32 (wv s.row)).toArray 64)).trans (kk _ (.cells (kv .u32 kW).toArray 65))).trans (kk _ (.cells (kv .u32 z8).toArray 64))).trans (kk _ (.cells (kv .u32 z64).toArray 65))
  have m0 : Arr (((((w.alloc (.cells (kv .u32 (wv s.row)).toArray 64)).alloc (.cells (kv .u32 kW).toArray 65)).alloc (.cells (kv .u32 z8).toArray 64)).alloc (.cells (kv .u32 z64).toArray 65))) X 64 .u32 (wv s.row) := (((Arr.new hX.symm).stay (kk _ _) not_false).stay (kk _ _) not_false).stay (kk _ _) not_false
  have m1 : Arr (((((w.alloc (.cells (kv .u32 (wv s.row)).toArray 64)).alloc (.cells (kv .u32 kW).toArray 65)).alloc (.cells (kv .u32 z8).toArray 64)).alloc (.cells (kv .u32 z64).toArray 65))) (X + 1) 65 .u32 kW := ((Arr.new (by rw [World.size_alloc, hX])).stay (kk _ _) not_false).stay (kk _ _) not_false
  have m2 : Arr (((((w.alloc (.cells (kv .u32 (wv s.row)).toArray 64)).alloc (.cells (kv .u32 kW).toArray 65)).alloc (.cells (kv .u32 z8).toArray 64)).alloc (.cells (kv .u32 z64).toArray 65))) (X + 1 + 1) 64 .u32 z8 := (Arr.new (by rw [World.size_alloc, World.size_alloc, hX])).stay (kk _ _) not_false
  have m3 : Arr (((((w.alloc (.cells (kv .u32 (wv s.row)).toArray 64)).alloc (.cells (kv .u32 kW).toArray 65)).alloc (.cells (kv .u32 z8).toArray 64)).alloc (.cells (kv .u32 z64).toArray 65))) (X + 1 + 1 + 1) 65 .u32 (wv (wpart L 0)) := by rw [wpart_0]; exact Arr.new (by rw [World.size_alloc, World.size_alloc, World.size_alloc, hX])
  rw [hX]
  generalize (((w.alloc (.cells (kv .u32 (wv s.row)).toArray 64)).alloc (.cells (kv .u32 kW).toArray 65)).alloc (.cells (kv .u32 z8).toArray 64)).alloc (.cells (kv .u32 z64).toArray 65) = W0 at k0 m0 m1 m2 m3 ⊢
  clear zz kk
  have kt3 : ∀ (V : World) (t : Nat) (x : Value), Kept (fun j => j = X + 1 + 1 + 1) V (V.setCell ⟨X + 1 + 1 + 1, t, none⟩ x) := fun V t x => (Kept.refl (fun j => j = X + 1 + 1 + 1) V).setCell (p := ⟨X + 1 + 1 + 1, t, none⟩) (fun _ => rfl) x
  have HK := Lib.hid kt3
  clear kt3
  go_loopw [8] (fun x wr => ∃ t : Nat, t ≤ 16 ∧ x = .int .i64 t ∧ Arr wr X 64 .u32 (wv s.row) ∧ Arr wr (X + 1) 65 .u32 kW ∧ Arr wr (X + 1 + 1) 64 .u32 z8 ∧ Arr wr (X + 1 + 1 + 1) 65 .u32 (wv (wpart L t)) ∧ Kept (fun _ => False) w wr) (fun x _ => 16 - (intOf x).toNat)
  case atStart => exact ⟨0, by omega, rfl, m0, m1, m2, m3, k0⟩
  case round =>
    clear m0 m1 m2 m3 k0
    obtain ⟨t, ht, rfl, m0, m1, m2, m3, kr⟩ := hrel
    by_cases hlt : t < 16
    · have hlti : (t : Int) < 16 := by omega
      go_wp2_with fail
      go_loopw [9] (fun x wz => ∃ i : Nat, i ≤ 4 ∧ x = .int .i64 i ∧ Arr wz X 64 .u32 (wv s.row) ∧ Arr wz (X + 1) 65 .u32 kW ∧ Arr wz (X + 1 + 1) 64 .u32 z8 ∧ Arr wz (X + 1 + 1 + 1) 65 .u32 (wv ((wpart L t).set t (wacc L t i))) ∧ Kept (fun _ => False) w wz) (fun x _ => 4 - (intOf x).toNat)
      case atStart => exact ⟨0, by omega, rfl, m0, m1, m2, by rw [show wacc L t 0 = 0 from rfl, wpart_zero L (by omega)]; exact m3, kr⟩
      case round =>
        clear m0 m1 m2 m3 kr
        obtain ⟨i, hi, rfl, m0, m1, m2, m3, kr⟩ := hrel
        by_cases hlk : i < 4
        · have hlki : (i : Int) < 4 := by omega
          have kd : Kept (fun _ => False) wr wr.drew := (Kept.refl _ wr).drew
          have d0 := m0.stay kd not_false
          have d1 := m1.stay kd not_false
          have d2 := m2.stay kd not_false
          have d3 := m3.stay kd not_false
          have k1 := kr.trans kd
          have hb := rangeAt_stay k1 hg not_false hL
          generalize hW1 : wr.drew = W1 at d0 d1 d2 d3 k1 hb
          obtain ⟨q, hq⟩ : ∃ q, q = 4 * t := ⟨_, rfl⟩
          obtain ⟨p, hp⟩ : ∃ p, p = q + i := ⟨_, rfl⟩
          have w0 : IntKind.i64.wrap (4 * (t : Int)) = (q : Int) := by rw [IntWalk.i64_in _ (by omega)]; omega
          have w1 : IntKind.i64.wrap ((q : Int) + (i : Int)) = (p : Int) := by rw [IntWalk.i64_in _ (by omega)]; omega
          have b0 := byte_at hb (j := p) (by omega)
          have l0 : (p : Int) < (n : Int) := by omega
          have t64 : (t : Int) < 64 := by omega
          have hac : wacc L t (i + 1) = UInt32.ofNat ((wacc L t i).toNat * 256 + (L.getD p 0).toNat) := by subst hq hp; rfl
          have cw := d3.wcell (j := t) (by rw [List.length_set, wpart_len _ _ (by omega)]; omega)
          rw [show ((wpart L t).set t (wacc L t i)).getD t 0 = wacc L t i by rw [List.getD_eq_getElem?_getD, List.getElem?_set_self (by rw [wpart_len _ _ (by omega)]; omega)]; rfl] at cw
          have st := d3.wset t (wacc L t (i + 1))
          rw [List.set_set] at st
          have fz := d3.frozen t
          generalize L.getD p 0 = c0 at b0 hac
          generalize hac1 : wacc L t i = ac at cw hac
          generalize hac2 : wacc L t (i + 1) = ac2 at hac st
          obtain ⟨m, e1, e2, e3⟩ := acc_step ac c0
          rw [← hac] at e3
          have s0 := d0.stay (HK.out W1 t (.int .u32 (ac2.toNat : Int))) (by omega)
          have s1 := d1.stay (HK.out W1 t (.int .u32 (ac2.toNat : Int))) (by omega)
          have s2 := d2.stay (HK.out W1 t (.int .u32 (ac2.toNat : Int))) (by omega)
          have k2 : Kept (fun _ => False) w (W1.setCell ⟨X + 1 + 1 + 1, t, none⟩ (.int .u32 (ac2.toNat : Int))) := k1.setCell (p := ⟨X + 1 + 1 + 1, t, none⟩) (fun h => by have h : X + 1 + 1 + 1 < w.heap.size := h; omega) _
          have HS := Lib.hid hac2
          clear hq hp hac hac1 hac2 d0 d1 d2 d3 hb k1 kd m0 m1 m2 m3 kr
          go_wp2_with fail
          refine still_tail 15 hW1 (by kernel_rfl) (by kernel_rfl) ?_
          simp only [List.take_succ_cons, List.take_zero, List.drop_succ_cons, List.drop_zero]
          clear hW1
          repeat still_step
          refine wpStill_nil ?_
          go_wp2_with fail
          go_roundw
          case rel => exact ⟨i + 1, by omega, by go_num, s0, s1, s2, by rw [HS.out]; exact st, k2⟩
          case measure => simp [intOf]; omega
        · obtain rfl : i = 4 := by omega
          rw [show ((4 : Nat) : Int) = 4 from rfl]
          rw [wacc_4, wpart_set L (n := t) (by omega) (by rw [if_pos hlt])] at m3
          go_wp2_with fail
          go_roundw
          case rel => exact ⟨t + 1, by omega, by go_num, m0, m1, m2, m3, kr⟩
          case measure => simp [intOf]; omega
    · obtain rfl : t = 16 := by omega
      rw [show ((16 : Nat) : Int) = 16 from rfl]
      go_wp2_with fail
      go_loopw [10] (fun x wr => ∃ t : Nat, 16 ≤ t ∧ t ≤ 64 ∧ x = .int .i64 t ∧ Arr wr X 64 .u32 (wv s.row) ∧ Arr wr (X + 1) 65 .u32 kW ∧ Arr wr (X + 1 + 1) 64 .u32 z8 ∧ Arr wr (X + 1 + 1 + 1) 65 .u32 (wv (wpart L t)) ∧ Kept (fun _ => False) w wr) (fun x _ => 64 - (intOf x).toNat)
      case atStart => exact ⟨16, by omega, by omega, rfl, m0, m1, m2, m3, kr⟩
      case round =>
        clear m0 m1 m2 m3 kr
        obtain ⟨t, ht16, ht, rfl, m0, m1, m2, m3, kr⟩ := hrel
        by_cases hlt : t < 64
        · have hlti : (t : Int) < 64 := by omega
          obtain ⟨p16, hp16⟩ : ∃ p, p = t - 16 := ⟨_, rfl⟩
          obtain ⟨p15, hp15⟩ : ∃ p, p = t - 15 := ⟨_, rfl⟩
          obtain ⟨p7, hp7⟩ : ∃ p, p = t - 7 := ⟨_, rfl⟩
          obtain ⟨p2, hp2⟩ : ∃ p, p = t - 2 := ⟨_, rfl⟩
          have w16 : IntKind.i64.wrap ((t : Int) - 16) = (p16 : Int) := by rw [IntWalk.i64_in _ (by omega)]; omega
          have w15 : IntKind.i64.wrap ((t : Int) - 15) = (p15 : Int) := by rw [IntWalk.i64_in _ (by omega)]; omega
          have w7 : IntKind.i64.wrap ((t : Int) - 7) = (p7 : Int) := by rw [IntWalk.i64_in _ (by omega)]; omega
          have w2 : IntKind.i64.wrap ((t : Int) - 2) = (p2 : Int) := by rw [IntWalk.i64_in _ (by omega)]; omega
          have i16 : (p16 : Int) < 64 := by omega
          have i15 : (p15 : Int) < 64 := by omega
          have i7 : (p7 : Int) < 64 := by omega
          have i2 : (p2 : Int) < 64 := by omega
          have g16 := wpart_at L (n := t) (j := p16) (by omega)
          have g15 := wpart_at L (n := t) (j := p15) (by omega)
          have g7 := wpart_at L (n := t) (j := p7) (by omega)
          have g2 := wpart_at L (n := t) (j := p2) (by omega)
          have l64 := wpart_len L t ht
          have hps := wpart_set L (n := t) (x := _) (by omega) (by rw [if_neg (by omega)])
          rw [← hp16, ← hp15, ← hp7, ← hp2, ← g16, ← g15, ← g7, ← g2] at hps
          have c15 := m3.wcell (j := p15) (by omega)
          have c2 := m3.wcell (j := p2) (by omega)
          generalize hx15 : (wpart L t).getD p15 0 = x15 at c15 hps
          generalize hx2 : (wpart L t).getD p2 0 = x2 at c2 hps
          generalize hx16 : (wpart L t).getD p16 0 = x16 at hps
          generalize hx7 : (wpart L t).getD p7 0 = x7 at hps
          clear g16 g15 g7 g2
          have HJ := Lib.hid (And.intro hp16 (And.intro hp15 (And.intro hp7 (And.intro hp2 (And.intro hx15 (And.intro hx2 (And.intro hx16 (And.intro hx7 (And.intro l64 hps)))))))))
          clear hp16 hp15 hp7 hp2 hx15 hx2 hx16 hx7 l64 hps
          go_wp2_with fail
          go_quiet (fail)
          have kd : Kept (fun _ => False) wr (wr.drewN nq) := (Kept.refl _ wr).drewN nq
          have d0 := m0.stay kd not_false
          have d1 := m1.stay kd not_false
          have d2 := m2.stay kd not_false
          have d3 := m3.stay kd not_false
          have k1 := kr.trans kd
          clear m0 m1 m2 m3 kr kd c15 c2
          generalize wr.drewN nq = W3 at d0 d1 d2 d3 k1 ⊢
          have kd : Kept (fun _ => False) W3 W3.drew := (Kept.refl _ W3).drew
          have e0 := d0.stay kd not_false
          have e1 := d1.stay kd not_false
          have e2 := d2.stay kd not_false
          have e3 := d3.stay kd not_false
          have k2 := k1.trans kd
          obtain ⟨hp16, hp15, hp7, hp2, hx15, hx2, hx16, hx7, l64, hps⟩ := HJ.out
          have c16 := e3.wcell (j := p16) (by omega)
          have c7 := e3.wcell (j := p7) (by omega)
          have ct := e3.wcell (j := t) (by omega)
          have fz := e3.frozen t
          rw [hx16] at c16
          rw [hx7] at c7
          generalize (wpart L t).getD t 0 = old at ct
          have st := e3.wset t (addU (addU (addU x16 (ss0 x15)) x7) (ss1 x2))
          rw [hps] at st
          have xa := u_add
          have xx := u_xor
          have x3 : (x15.toNat : Int) / 8 = ((shrU x15 3).toNat : Int) := u_shr x15 3
          have x10 : (x2.toNat : Int) / 1024 = ((shrU x2 10).toNat : Int) := u_shr x2 10
          have ess0 : xorU (xorU (rotr x15 7) (rotr x15 18)) (shrU x15 3) = ss0 x15 := rfl
          have ess1 : xorU (xorU (rotr x2 17) (rotr x2 19)) (shrU x2 10) = ss1 x2 := rfl
          have s0 := e0.stay (HK.out W3.drew t (.int .u32 ((addU (addU (addU x16 (ss0 x15)) x7) (ss1 x2)).toNat : Int))) (by omega)
          have s1 := e1.stay (HK.out W3.drew t (.int .u32 ((addU (addU (addU x16 (ss0 x15)) x7) (ss1 x2)).toNat : Int))) (by omega)
          have s2 := e2.stay (HK.out W3.drew t (.int .u32 ((addU (addU (addU x16 (ss0 x15)) x7) (ss1 x2)).toNat : Int))) (by omega)
          have k3 : Kept (fun _ => False) w (W3.drew.setCell ⟨X + 1 + 1 + 1, t, none⟩ (.int .u32 ((addU (addU (addU x16 (ss0 x15)) x7) (ss1 x2)).toNat : Int))) := k2.setCell (p := ⟨X + 1 + 1 + 1, t, none⟩) (fun h => by have h : X + 1 + 1 + 1 < w.heap.size := h; omega) _
          clear d0 d1 d2 d3 k1 kd e0 e1 e2 e3 k2 hp16 hp15 hp7 hp2 hx15 hx2 hx16 hx7 l64 hps HJ
          go_wp2_with fail
          refine wp_region_still_tail 29 (by kernel_rfl) (by kernel_rfl) ?_
          simp only [List.take_succ_cons, List.take_zero, List.drop_succ_cons, List.drop_zero]
          change wpStill _ _ W3.drew (fun a' => wpList _ _ _ _ a' W3.drew) _ _
          generalize W3.drew = W1 at *
          iterate 6 still_step
          still_call (turn7 _ W1)
          still_step
          still_call (turn18 _ W1)
          iterate 11 still_step
          still_call (turn17 _ W1)
          still_step
          still_call (turn19 _ W1)
          iterate 6 still_step
          refine wpStill_nil ?_
          go_wp2_with fail
          go_roundw
          case rel => exact ⟨t + 1, by omega, by omega, by go_num, s0, s1, s2, st, k3⟩
          case measure => simp [intOf]; omega
        · obtain rfl : t = 64 := by omega
          rw [show ((64 : Nat) : Int) = 64 from rfl]
          have l1 := ldW8 m0 (by rw [wv_len, s8_len])
          obtain ⟨Y, hY⟩ : ∃ Y, wr.heap.size = Y := ⟨_, rfl⟩
          have hXY := m3.lt
          rw [hY] at hXY
          have s13 : (Instr.storeAt 64 (.pointer (some ⟨Y, 0, none⟩)) ((Value.agg (List.toArray (kv .u32 (wv s.row)))))).run Tryd.prog (wr.alloc (.cells (kv .u32 z8).toArray 64)) = .ok () (wr.alloc (.cells (kv .u32 (wv s.row)).toArray 64)) :=
            store_new (by rw [List.size_toArray, kv_len, wv_len, s8_len]; kernel_rfl) (by rw [List.size_toArray, List.size_toArray, kv_len, kv_len, wv_len, s8_len]; rfl) (kv_one _ _) hY.symm
          rw [← hY] at s13
          go_wp2_with (first
            | (with_reducible refine wpl_load 64 _ rfl rfl ?_ l1 ?_
               · rfl
               simp only [Act.put, List.getElem_toArray, List.getElem_cons_zero, List.getElem_cons_succ, List.setIfInBounds_toArray, List.set_cons_zero, List.set_cons_succ])
            | (with_reducible refine wpl_alloc 64 rfl rfl (z8' _) ?_
               simp only [World.size_alloc, Act.put, List.getElem_toArray, List.getElem_cons_zero, List.getElem_cons_succ, List.setIfInBounds_toArray, List.set_cons_zero, List.set_cons_succ])
            | (with_reducible refine wpl_store 64 _ _ rfl rfl ?_ ?_ s13 ?_
               · rfl
               · rfl
               simp only [Act.put, List.getElem_toArray, List.getElem_cons_zero, List.getElem_cons_succ, List.setIfInBounds_toArray, List.set_cons_zero, List.set_cons_succ]))
          have kd := (Kept.refl (fun _ => False) wr).alloc (.cells (kv .u32 (wv s.row)).toArray 64)
          have n4 : Arr (wr.alloc (.cells (kv .u32 (wv s.row)).toArray 64)) Y 64 .u32 (wv s.row) := Arr.new hY.symm
          have n0 := m0.stay kd not_false
          have n1 := m1.stay kd not_false
          have n2 := m2.stay kd not_false
          have n3 := m3.stay kd not_false
          have k1 := kr.trans kd
          have hwY : w.heap.size ≤ Y := by have := kr.size; omega
          rw [hY]
          clear l1 s13 m0 m1 m2 m3 kr kd hY
          generalize wr.alloc (.cells (kv .u32 (wv s.row)).toArray 64) = W5 at n0 n1 n2 n3 n4 k1 ⊢
          go_loopw [14] (fun x wr => ∃ (t : Nat) (r : S8), t ≤ 64 ∧ x = .int .i64 t ∧ Hid (r = rounds (sched L 64) s t) ∧ Arr wr X 64 .u32 (wv s.row) ∧ Arr wr (X + 1) 65 .u32 kW ∧ Arr wr (X + 1 + 1) 64 .u32 z8 ∧ Arr wr (X + 1 + 1 + 1) 65 .u32 (wv (wpart L 64)) ∧ Arr wr Y 64 .u32 (wv r.row) ∧ Kept (fun _ => False) w wr) (fun x _ => 64 - (intOf x).toNat)
          case atStart => exact ⟨0, s, by omega, rfl, rfl, n0, n1, n2, n3, n4, k1⟩
          case round =>
            clear n0 n1 n2 n3 n4 k1
            obtain ⟨t, r, ht, rfl, HR, m0, m1, m2, m3, m4, kr⟩ := hrel
            by_cases hlt : t < 64
            · have hlti : (t : Int) < 64 := by omega
              have hst : stepF r (KU.getD t 0) ((sched L 64).getD t 0) = rounds (sched L 64) s (t + 1) := by rw [HR.out]; rfl
              have HS := Lib.hid hst
              clear hst HR
              have c0 := m4.wcell (j := 0) (by rw [s8_len]; decide)
              have c4 := m4.wcell (j := 4) (by rw [s8_len]; decide)
              rw [show r.row.getD 0 0 = r.a from rfl] at c0
              rw [show r.row.getD 4 0 = r.e from rfl] at c4
              go_wp2_with fail
              go_quiet (fail)
              have kd : Kept (fun _ => False) wr (wr.drewN nq) := (Kept.refl _ wr).drewN nq
              have n0 := m0.stay kd not_false
              have n1 := m1.stay kd not_false
              have n2 := m2.stay kd not_false
              have n3 := m3.stay kd not_false
              have n4 := m4.stay kd not_false
              have k1 := kr.trans kd
              clear m0 m1 m2 m3 m4 kr kd c0 c4
              generalize wr.drewN nq = W3 at n0 n1 n2 n3 n4 k1 ⊢
              have kd : Kept (fun _ => False) W3 W3.drew := (Kept.refl _ W3).drew
              have m0 := n0.stay kd not_false
              have m1 := n1.stay kd not_false
              have m2 := n2.stay kd not_false
              have m3 := n3.stay kd not_false
              have m4 := n4.stay kd not_false
              have k2 := k1.trans kd
              clear n0 n1 n2 n3 n4 k1 kd
              generalize hW1 : W3.drew = W1 at m0 m1 m2 m3 m4 k2
              have c5 := m4.wcell (j := 5) (by rw [s8_len]; decide)
              have c6 := m4.wcell (j := 6) (by rw [s8_len]; decide)
              have c7 := m4.wcell (j := 7) (by rw [s8_len]; decide)
              rw [show r.row.getD 5 0 = r.f from rfl] at c5
              rw [show r.row.getD 6 0 = r.g from rfl] at c6
              rw [show r.row.getD 7 0 = r.h from rfl] at c7
              have ck := m1.cell (j := t) (by rw [kW_len]; exact hlt)
              have cw := m3.wcell (j := t) (by rw [wpart_len _ _ (by omega)]; exact hlt)
              rw [← KU_at t hlt] at ck
              rw [wpart_at L hlt] at cw
              generalize hkt : KU.getD t 0 = kt at ck HS
              generalize hwt : (sched L 64).getD t 0 = wt at cw HS
              have xa := u_add
              have xx := u_xor
              have xn := u_and
              have xm : ∀ a : UInt32, IntKind.u32.wrap (4294967295 - (a.toNat : Int)) = ((notU a).toNat : Int) := fun a => by
                rw [← u_not, IntKind.wrap_u32']
                have := u_lt a
                omega
              clear hkt hwt
              go_wp2_with fail
              refine still_all hW1 (by kernel_rfl) (by kernel_rfl) ?_
              clear hW1
              iterate 3 still_step
              still_call (turn6 _ W1)
              still_step
              still_call (turn11 _ W1)
              iterate 2 still_step
              still_call (turn25 _ W1)
              repeat still_step
              refine wpStill_nil ?_
              clear ck cw c5 c6 c7
              have kd : Kept (fun _ => False) W1 W1.drew := (Kept.refl _ W1).drew
              have n0 := m0.stay kd not_false
              have n1 := m1.stay kd not_false
              have n2 := m2.stay kd not_false
              have n3 := m3.stay kd not_false
              have n4 := m4.stay kd not_false
              have k3 := k2.trans kd
              clear m0 m1 m2 m3 m4 k2 kd
              generalize hW2 : W1.drew = W2 at n0 n1 n2 n3 n4 k3
              have c1 := n4.wcell (j := 1) (by rw [s8_len]; decide)
              have c2 := n4.wcell (j := 2) (by rw [s8_len]; decide)
              rw [show r.row.getD 1 0 = r.b from rfl] at c1
              rw [show r.row.getD 2 0 = r.c from rfl] at c2
              go_wp2_with fail
              refine still_all hW2 (by kernel_rfl) (by kernel_rfl) ?_
              clear hW2
              still_step
              still_call (turn2 _ W2)
              still_step
              still_call (turn13 _ W2)
              iterate 2 still_step
              still_call (turn22 _ W2)
              repeat still_step
              refine wpStill_nil ?_
              clear xa
              have xa := u_add'
              have c0 := n4.wcell (j := 0) (by rw [s8_len]; decide)
              have c3 := n4.wcell (j := 3) (by rw [s8_len]; decide)
              have c4 := n4.wcell (j := 4) (by rw [s8_len]; decide)
              have c5 := n4.wcell (j := 5) (by rw [s8_len]; decide)
              have c6 := n4.wcell (j := 6) (by rw [s8_len]; decide)
              rw [show r.row.getD 0 0 = r.a from rfl] at c0
              rw [show r.row.getD 3 0 = r.d from rfl] at c3
              rw [show r.row.getD 4 0 = r.e from rfl] at c4
              rw [show r.row.getD 5 0 = r.f from rfl] at c5
              rw [show r.row.getD 6 0 = r.g from rfl] at c6
              have st := stW8 n4 (m := wv (stepF r kt wt).row) (by rw [wv_len, s8_len]) (by rw [wv_len, s8_len])
              have p4 := n4.put (wv (stepF r kt wt).row)
              have hkp := fun (S : Nat → Prop) (h : S Y) => (Kept.refl S W2).setRow (b := Y) (fun _ => h) (kv .u32 (wv (stepF r kt wt).row)).toArray
              have p0 := n0.stay (hkp (fun j => j = Y) rfl) (by omega)
              have p1 := n1.stay (hkp (fun j => j = Y) rfl) (by omega)
              have p2 := n2.stay (hkp (fun j => j = Y) rfl) (by omega)
              have p3 := n3.stay (hkp (fun j => j = Y) rfl) (by omega)
              have k4 : Kept (fun _ => False) w (W2.setRow Y (kv .u32 (wv (stepF r kt wt).row)).toArray) := k3.setRow (fun h => absurd h (by omega)) _
              clear n0 n1 n2 n3 n4 k3 hkp
              go_wp2_with (first
                | (with_reducible refine wpl_store 64 _ _ rfl rfl ?_ ?_ st ?_
                   · rfl
                   · rfl
                   simp only [Act.put, List.getElem_toArray, List.getElem_cons_zero, List.getElem_cons_succ, List.setIfInBounds_toArray, List.set_cons_zero, List.set_cons_succ]))
              go_roundw
              case rel => exact ⟨t + 1, _, by omega, by go_num, HS.out, p0, p1, p2, p3, p4, k4⟩
              case measure => simp [intOf]; omega
            · obtain rfl : t = 64 := by omega
              have HB : Hid (s.add r = blockF s L) := by unfold Hid blockF; rw [HR.out]
              rw [show ((64 : Nat) : Int) = 64 from rfl]
              clear HR m1 m3
              go_wp2_with fail
              go_loopw [19] (fun x wr => ∃ i : Nat, i ≤ 8 ∧ x = .int .i64 i ∧ Arr wr X 64 .u32 (wv s.row) ∧ Arr wr (X + 1 + 1) 64 .u32 z8 ∧ Arr wr Y 64 .u32 (wv (mixR s r i)) ∧ Kept (fun _ => False) w wr) (fun x _ => 8 - (intOf x).toNat)
              case atStart => exact ⟨0, by omega, rfl, m0, m2, m4, kr⟩
              case round =>
                clear m0 m2 m4 kr
                obtain ⟨i, hi, rfl, m0, m2, m4, kr⟩ := hrel
                have hi9 : i = 0 ∨ i = 1 ∨ i = 2 ∨ i = 3 ∨ i = 4 ∨ i = 5 ∨ i = 6 ∨ i = 7 ∨ i = 8 := by omega
                rcases hi9 with rfl | rfl | rfl | rfl | rfl | rfl | rfl | rfl | rfl
                · have kd : Kept (fun _ => False) wr wr.drew := (Kept.refl _ wr).drew
                  have e0 := m0.stay kd not_false
                  have e2 := m2.stay kd not_false
                  have e4 := m4.stay kd not_false
                  have k1 := kr.trans kd
                  clear m0 m2 m4 kr kd
                  generalize hW1 : wr.drew = W1 at e0 e2 e4 k1
                  have cs := e4.wcell (j := 0) (by rw [mixR_len _ _ _ (by decide)]; decide)
                  rw [show (mixR s r 0).getD 0 0 = r.a from rfl] at cs
                  have ch := e0.wcell (j := 0) (by rw [s8_len]; decide)
                  rw [show s.row.getD 0 0 = s.a from rfl] at ch
                  have fz := e4.frozen 0
                  have st := e4.wset 0 (addU s.a r.a)
                  rw [show (mixR s r 0).set 0 (addU s.a r.a) = mixR s r (0 + 1) from rfl] at st
                  have xa : IntKind.u32.wrap ((r.a.toNat : Int) + (s.a.toNat : Int)) = ((addU s.a r.a).toNat : Int) := by rw [u_add, addU_comm]
                  have ks := (Kept.refl (fun j => j = Y) W1).setCell (p := ⟨Y, 0, none⟩) (fun _ => rfl) (.int .u32 ((addU s.a r.a).toNat : Int))
                  have s0 := e0.stay ks (by omega)
                  have s2 := e2.stay ks (by omega)
                  have k3 : Kept (fun _ => False) w (W1.setCell ⟨Y, 0, none⟩ (.int .u32 ((addU s.a r.a).toNat : Int))) := k1.setCell (p := ⟨Y, 0, none⟩) (fun h => by have h : Y < w.heap.size := h; omega) _
                  clear e0 e2 e4 k1 ks
                  rw [show ((0 : Nat) : Int) = 0 from rfl]
                  go_wp2_with fail
                  refine still_tail 9 hW1 (by kernel_rfl) (by kernel_rfl) ?_
                  simp only [List.take_succ_cons, List.take_zero, List.drop_succ_cons, List.drop_zero]
                  clear hW1
                  repeat still_step
                  refine wpStill_nil ?_
                  go_wp2_with fail
                  go_roundw
                  case rel => exact ⟨0 + 1, by omega, by go_num, s0, s2, st, k3⟩
                  case measure => simp [intOf]
                · have kd : Kept (fun _ => False) wr wr.drew := (Kept.refl _ wr).drew
                  have e0 := m0.stay kd not_false
                  have e2 := m2.stay kd not_false
                  have e4 := m4.stay kd not_false
                  have k1 := kr.trans kd
                  clear m0 m2 m4 kr kd
                  generalize hW1 : wr.drew = W1 at e0 e2 e4 k1
                  have cs := e4.wcell (j := 1) (by rw [mixR_len _ _ _ (by decide)]; decide)
                  rw [show (mixR s r 1).getD 1 0 = r.b from rfl] at cs
                  have ch := e0.wcell (j := 1) (by rw [s8_len]; decide)
                  rw [show s.row.getD 1 0 = s.b from rfl] at ch
                  have fz := e4.frozen 1
                  have st := e4.wset 1 (addU s.b r.b)
                  rw [show (mixR s r 1).set 1 (addU s.b r.b) = mixR s r (1 + 1) from rfl] at st
                  have xa : IntKind.u32.wrap ((r.b.toNat : Int) + (s.b.toNat : Int)) = ((addU s.b r.b).toNat : Int) := by rw [u_add, addU_comm]
                  have ks := (Kept.refl (fun j => j = Y) W1).setCell (p := ⟨Y, 1, none⟩) (fun _ => rfl) (.int .u32 ((addU s.b r.b).toNat : Int))
                  have s0 := e0.stay ks (by omega)
                  have s2 := e2.stay ks (by omega)
                  have k3 : Kept (fun _ => False) w (W1.setCell ⟨Y, 1, none⟩ (.int .u32 ((addU s.b r.b).toNat : Int))) := k1.setCell (p := ⟨Y, 1, none⟩) (fun h => by have h : Y < w.heap.size := h; omega) _
                  clear e0 e2 e4 k1 ks
                  rw [show ((1 : Nat) : Int) = 1 from rfl]
                  go_wp2_with fail
                  refine still_tail 9 hW1 (by kernel_rfl) (by kernel_rfl) ?_
                  simp only [List.take_succ_cons, List.take_zero, List.drop_succ_cons, List.drop_zero]
                  clear hW1
                  repeat still_step
                  refine wpStill_nil ?_
                  go_wp2_with fail
                  go_roundw
                  case rel => exact ⟨1 + 1, by omega, by go_num, s0, s2, st, k3⟩
                  case measure => simp [intOf]
                · have kd : Kept (fun _ => False) wr wr.drew := (Kept.refl _ wr).drew
                  have e0 := m0.stay kd not_false
                  have e2 := m2.stay kd not_false
                  have e4 := m4.stay kd not_false
                  have k1 := kr.trans kd
                  clear m0 m2 m4 kr kd
                  generalize hW1 : wr.drew = W1 at e0 e2 e4 k1
                  have cs := e4.wcell (j := 2) (by rw [mixR_len _ _ _ (by decide)]; decide)
                  rw [show (mixR s r 2).getD 2 0 = r.c from rfl] at cs
                  have ch := e0.wcell (j := 2) (by rw [s8_len]; decide)
                  rw [show s.row.getD 2 0 = s.c from rfl] at ch
                  have fz := e4.frozen 2
                  have st := e4.wset 2 (addU s.c r.c)
                  rw [show (mixR s r 2).set 2 (addU s.c r.c) = mixR s r (2 + 1) from rfl] at st
                  have xa : IntKind.u32.wrap ((r.c.toNat : Int) + (s.c.toNat : Int)) = ((addU s.c r.c).toNat : Int) := by rw [u_add, addU_comm]
                  have ks := (Kept.refl (fun j => j = Y) W1).setCell (p := ⟨Y, 2, none⟩) (fun _ => rfl) (.int .u32 ((addU s.c r.c).toNat : Int))
                  have s0 := e0.stay ks (by omega)
                  have s2 := e2.stay ks (by omega)
                  have k3 : Kept (fun _ => False) w (W1.setCell ⟨Y, 2, none⟩ (.int .u32 ((addU s.c r.c).toNat : Int))) := k1.setCell (p := ⟨Y, 2, none⟩) (fun h => by have h : Y < w.heap.size := h; omega) _
                  clear e0 e2 e4 k1 ks
                  rw [show ((2 : Nat) : Int) = 2 from rfl]
                  go_wp2_with fail
                  refine still_tail 9 hW1 (by kernel_rfl) (by kernel_rfl) ?_
                  simp only [List.take_succ_cons, List.take_zero, List.drop_succ_cons, List.drop_zero]
                  clear hW1
                  repeat still_step
                  refine wpStill_nil ?_
                  go_wp2_with fail
                  go_roundw
                  case rel => exact ⟨2 + 1, by omega, by go_num, s0, s2, st, k3⟩
                  case measure => simp [intOf]
                · have kd : Kept (fun _ => False) wr wr.drew := (Kept.refl _ wr).drew
                  have e0 := m0.stay kd not_false
                  have e2 := m2.stay kd not_false
                  have e4 := m4.stay kd not_false
                  have k1 := kr.trans kd
                  clear m0 m2 m4 kr kd
                  generalize hW1 : wr.drew = W1 at e0 e2 e4 k1
                  have cs := e4.wcell (j := 3) (by rw [mixR_len _ _ _ (by decide)]; decide)
                  rw [show (mixR s r 3).getD 3 0 = r.d from rfl] at cs
                  have ch := e0.wcell (j := 3) (by rw [s8_len]; decide)
                  rw [show s.row.getD 3 0 = s.d from rfl] at ch
                  have fz := e4.frozen 3
                  have st := e4.wset 3 (addU s.d r.d)
                  rw [show (mixR s r 3).set 3 (addU s.d r.d) = mixR s r (3 + 1) from rfl] at st
                  have xa : IntKind.u32.wrap ((r.d.toNat : Int) + (s.d.toNat : Int)) = ((addU s.d r.d).toNat : Int) := by rw [u_add, addU_comm]
                  have ks := (Kept.refl (fun j => j = Y) W1).setCell (p := ⟨Y, 3, none⟩) (fun _ => rfl) (.int .u32 ((addU s.d r.d).toNat : Int))
                  have s0 := e0.stay ks (by omega)
                  have s2 := e2.stay ks (by omega)
                  have k3 : Kept (fun _ => False) w (W1.setCell ⟨Y, 3, none⟩ (.int .u32 ((addU s.d r.d).toNat : Int))) := k1.setCell (p := ⟨Y, 3, none⟩) (fun h => by have h : Y < w.heap.size := h; omega) _
                  clear e0 e2 e4 k1 ks
                  rw [show ((3 : Nat) : Int) = 3 from rfl]
                  go_wp2_with fail
                  refine still_tail 9 hW1 (by kernel_rfl) (by kernel_rfl) ?_
                  simp only [List.take_succ_cons, List.take_zero, List.drop_succ_cons, List.drop_zero]
                  clear hW1
                  repeat still_step
                  refine wpStill_nil ?_
                  go_wp2_with fail
                  go_roundw
                  case rel => exact ⟨3 + 1, by omega, by go_num, s0, s2, st, k3⟩
                  case measure => simp [intOf]
                · have kd : Kept (fun _ => False) wr wr.drew := (Kept.refl _ wr).drew
                  have e0 := m0.stay kd not_false
                  have e2 := m2.stay kd not_false
                  have e4 := m4.stay kd not_false
                  have k1 := kr.trans kd
                  clear m0 m2 m4 kr kd
                  generalize hW1 : wr.drew = W1 at e0 e2 e4 k1
                  have cs := e4.wcell (j := 4) (by rw [mixR_len _ _ _ (by decide)]; decide)
                  rw [show (mixR s r 4).getD 4 0 = r.e from rfl] at cs
                  have ch := e0.wcell (j := 4) (by rw [s8_len]; decide)
                  rw [show s.row.getD 4 0 = s.e from rfl] at ch
                  have fz := e4.frozen 4
                  have st := e4.wset 4 (addU s.e r.e)
                  rw [show (mixR s r 4).set 4 (addU s.e r.e) = mixR s r (4 + 1) from rfl] at st
                  have xa : IntKind.u32.wrap ((r.e.toNat : Int) + (s.e.toNat : Int)) = ((addU s.e r.e).toNat : Int) := by rw [u_add, addU_comm]
                  have ks := (Kept.refl (fun j => j = Y) W1).setCell (p := ⟨Y, 4, none⟩) (fun _ => rfl) (.int .u32 ((addU s.e r.e).toNat : Int))
                  have s0 := e0.stay ks (by omega)
                  have s2 := e2.stay ks (by omega)
                  have k3 : Kept (fun _ => False) w (W1.setCell ⟨Y, 4, none⟩ (.int .u32 ((addU s.e r.e).toNat : Int))) := k1.setCell (p := ⟨Y, 4, none⟩) (fun h => by have h : Y < w.heap.size := h; omega) _
                  clear e0 e2 e4 k1 ks
                  rw [show ((4 : Nat) : Int) = 4 from rfl]
                  go_wp2_with fail
                  refine still_tail 9 hW1 (by kernel_rfl) (by kernel_rfl) ?_
                  simp only [List.take_succ_cons, List.take_zero, List.drop_succ_cons, List.drop_zero]
                  clear hW1
                  repeat still_step
                  refine wpStill_nil ?_
                  go_wp2_with fail
                  go_roundw
                  case rel => exact ⟨4 + 1, by omega, by go_num, s0, s2, st, k3⟩
                  case measure => simp [intOf]
                · have kd : Kept (fun _ => False) wr wr.drew := (Kept.refl _ wr).drew
                  have e0 := m0.stay kd not_false
                  have e2 := m2.stay kd not_false
                  have e4 := m4.stay kd not_false
                  have k1 := kr.trans kd
                  clear m0 m2 m4 kr kd
                  generalize hW1 : wr.drew = W1 at e0 e2 e4 k1
                  have cs := e4.wcell (j := 5) (by rw [mixR_len _ _ _ (by decide)]; decide)
                  rw [show (mixR s r 5).getD 5 0 = r.f from rfl] at cs
                  have ch := e0.wcell (j := 5) (by rw [s8_len]; decide)
                  rw [show s.row.getD 5 0 = s.f from rfl] at ch
                  have fz := e4.frozen 5
                  have st := e4.wset 5 (addU s.f r.f)
                  rw [show (mixR s r 5).set 5 (addU s.f r.f) = mixR s r (5 + 1) from rfl] at st
                  have xa : IntKind.u32.wrap ((r.f.toNat : Int) + (s.f.toNat : Int)) = ((addU s.f r.f).toNat : Int) := by rw [u_add, addU_comm]
                  have ks := (Kept.refl (fun j => j = Y) W1).setCell (p := ⟨Y, 5, none⟩) (fun _ => rfl) (.int .u32 ((addU s.f r.f).toNat : Int))
                  have s0 := e0.stay ks (by omega)
                  have s2 := e2.stay ks (by omega)
                  have k3 : Kept (fun _ => False) w (W1.setCell ⟨Y, 5, none⟩ (.int .u32 ((addU s.f r.f).toNat : Int))) := k1.setCell (p := ⟨Y, 5, none⟩) (fun h => by have h : Y < w.heap.size := h; omega) _
                  clear e0 e2 e4 k1 ks
                  rw [show ((5 : Nat) : Int) = 5 from rfl]
                  go_wp2_with fail
                  refine still_tail 9 hW1 (by kernel_rfl) (by kernel_rfl) ?_
                  simp only [List.take_succ_cons, List.take_zero, List.drop_succ_cons, List.drop_zero]
                  clear hW1
                  repeat still_step
                  refine wpStill_nil ?_
                  go_wp2_with fail
                  go_roundw
                  case rel => exact ⟨5 + 1, by omega, by go_num, s0, s2, st, k3⟩
                  case measure => simp [intOf]
                · have kd : Kept (fun _ => False) wr wr.drew := (Kept.refl _ wr).drew
                  have e0 := m0.stay kd not_false
                  have e2 := m2.stay kd not_false
                  have e4 := m4.stay kd not_false
                  have k1 := kr.trans kd
                  clear m0 m2 m4 kr kd
                  generalize hW1 : wr.drew = W1 at e0 e2 e4 k1
                  have cs := e4.wcell (j := 6) (by rw [mixR_len _ _ _ (by decide)]; decide)
                  rw [show (mixR s r 6).getD 6 0 = r.g from rfl] at cs
                  have ch := e0.wcell (j := 6) (by rw [s8_len]; decide)
                  rw [show s.row.getD 6 0 = s.g from rfl] at ch
                  have fz := e4.frozen 6
                  have st := e4.wset 6 (addU s.g r.g)
                  rw [show (mixR s r 6).set 6 (addU s.g r.g) = mixR s r (6 + 1) from rfl] at st
                  have xa : IntKind.u32.wrap ((r.g.toNat : Int) + (s.g.toNat : Int)) = ((addU s.g r.g).toNat : Int) := by rw [u_add, addU_comm]
                  have ks := (Kept.refl (fun j => j = Y) W1).setCell (p := ⟨Y, 6, none⟩) (fun _ => rfl) (.int .u32 ((addU s.g r.g).toNat : Int))
                  have s0 := e0.stay ks (by omega)
                  have s2 := e2.stay ks (by omega)
                  have k3 : Kept (fun _ => False) w (W1.setCell ⟨Y, 6, none⟩ (.int .u32 ((addU s.g r.g).toNat : Int))) := k1.setCell (p := ⟨Y, 6, none⟩) (fun h => by have h : Y < w.heap.size := h; omega) _
                  clear e0 e2 e4 k1 ks
                  rw [show ((6 : Nat) : Int) = 6 from rfl]
                  go_wp2_with fail
                  refine still_tail 9 hW1 (by kernel_rfl) (by kernel_rfl) ?_
                  simp only [List.take_succ_cons, List.take_zero, List.drop_succ_cons, List.drop_zero]
                  clear hW1
                  repeat still_step
                  refine wpStill_nil ?_
                  go_wp2_with fail
                  go_roundw
                  case rel => exact ⟨6 + 1, by omega, by go_num, s0, s2, st, k3⟩
                  case measure => simp [intOf]
                · have kd : Kept (fun _ => False) wr wr.drew := (Kept.refl _ wr).drew
                  have e0 := m0.stay kd not_false
                  have e2 := m2.stay kd not_false
                  have e4 := m4.stay kd not_false
                  have k1 := kr.trans kd
                  clear m0 m2 m4 kr kd
                  generalize hW1 : wr.drew = W1 at e0 e2 e4 k1
                  have cs := e4.wcell (j := 7) (by rw [mixR_len _ _ _ (by decide)]; decide)
                  rw [show (mixR s r 7).getD 7 0 = r.h from rfl] at cs
                  have ch := e0.wcell (j := 7) (by rw [s8_len]; decide)
                  rw [show s.row.getD 7 0 = s.h from rfl] at ch
                  have fz := e4.frozen 7
                  have st := e4.wset 7 (addU s.h r.h)
                  rw [show (mixR s r 7).set 7 (addU s.h r.h) = mixR s r (7 + 1) from rfl] at st
                  have xa : IntKind.u32.wrap ((r.h.toNat : Int) + (s.h.toNat : Int)) = ((addU s.h r.h).toNat : Int) := by rw [u_add, addU_comm]
                  have ks := (Kept.refl (fun j => j = Y) W1).setCell (p := ⟨Y, 7, none⟩) (fun _ => rfl) (.int .u32 ((addU s.h r.h).toNat : Int))
                  have s0 := e0.stay ks (by omega)
                  have s2 := e2.stay ks (by omega)
                  have k3 : Kept (fun _ => False) w (W1.setCell ⟨Y, 7, none⟩ (.int .u32 ((addU s.h r.h).toNat : Int))) := k1.setCell (p := ⟨Y, 7, none⟩) (fun h => by have h : Y < w.heap.size := h; omega) _
                  clear e0 e2 e4 k1 ks
                  rw [show ((7 : Nat) : Int) = 7 from rfl]
                  go_wp2_with fail
                  refine still_tail 9 hW1 (by kernel_rfl) (by kernel_rfl) ?_
                  simp only [List.take_succ_cons, List.take_zero, List.drop_succ_cons, List.drop_zero]
                  clear hW1
                  repeat still_step
                  refine wpStill_nil ?_
                  go_wp2_with fail
                  go_roundw
                  case rel => exact ⟨7 + 1, by omega, by go_num, s0, s2, st, k3⟩
                  case measure => simp [intOf]
                · rw [show mixR s r 8 = (blockF s L).row by rw [← HB.out]; rfl] at m4
                  have l1 := ldW8 m4 (by rw [wv_len, s8_len])
                  have s1 := stW8 m2 (m := wv (blockF s L).row) rfl (by rw [wv_len, s8_len])
                  have p1 := m2.put (wv (blockF s L).row)
                  have kp : Kept (fun _ => False) w (wr.setRow (X + 1 + 1) (kv .u32 (wv (blockF s L).row)).toArray) := kr.setRow (fun h => absurd h (by omega)) _
                  rw [show ((8 : Nat) : Int) = 8 from rfl]
                  clear HB
                  go_wp2_with (first
                    | (with_reducible refine wpl_load 64 _ rfl rfl ?_ l1 ?_
                       · rfl
                       simp only [Act.put, List.getElem_toArray, List.getElem_cons_zero, List.getElem_cons_succ, List.setIfInBounds_toArray, List.set_cons_zero, List.set_cons_succ])
                    | (with_reducible refine wpl_store 64 _ _ rfl rfl ?_ ?_ s1 ?_
                       · rfl
                       · rfl
                       simp only [Act.put, List.getElem_toArray, List.getElem_cons_zero, List.getElem_cons_succ, List.setIfInBounds_toArray, List.set_cons_zero, List.set_cons_succ]))
                  refine bodyPost_ret (results_cell_row rfl _ _ _ _ _ _ _ rfl p1 Tryd.underlying64 rfl (by rw [List.size_toArray, kv_len, wv_len, s8_len]; kernel_rfl)) rfl ?_
                  exact ⟨rfl, kp⟩
