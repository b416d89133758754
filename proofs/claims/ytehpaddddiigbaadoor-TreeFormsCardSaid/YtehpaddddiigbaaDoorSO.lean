/- The digest (plain); the document's Sum. -/
import Derived.Test.YtehpaddddiigbaaDoorSN
import Derived.Test.YtehpaddddiigbaaDoorTF
namespace Go.Proofs.YtehpaddddiigbaaDoor
open Go.RowKit
set_option maxRecDepth 100000
set_option linter.unusedSimpArgs false
set_option linter.unusedVariables false

theorem getD_take {α : Type} {l m : List α} {n i : Nat} {d : α} (h : l.take n = m.take n) (hi : i < n) : l.getD i d = m.getD i d := by
  have e : (l.take n).getD i d = (m.take n).getD i d := by rw [h]
  rw [List.getD_eq_getElem?_getD, List.getD_eq_getElem?_getD, List.getElem?_take_of_lt hi, List.getElem?_take_of_lt hi] at e
  rw [List.getD_eq_getElem?_getD, List.getD_eq_getElem?_getD]
  exact e
theorem sched_take {L M : List UInt8} (h : L.take 64 = M.take 64) : ∀ n, sched L n = sched M n
  | 0 => rfl
  | n + 1 => by
    show sched L n ++ [_] = sched M n ++ [_]
    rw [sched_take h n]
    by_cases h16 : n < 16
    · rw [if_pos h16, if_pos h16]
      unfold wordAt
      rw [getD_take h (show 4 * n < 64 by omega), getD_take h (show 4 * n + 1 < 64 by omega), getD_take h (show 4 * n + 2 < 64 by omega), getD_take h (show 4 * n + 3 < 64 by omega)]
    · rw [if_neg h16, if_neg h16]
theorem blockF_take {L M : List UInt8} (s : S8) (h : L.take 64 = M.take 64) : blockF s L = blockF s M := by unfold blockF; rw [sched_take h]
def H0 : S8 := ⟨HU.getD 0 0, HU.getD 1 0, HU.getD 2 0, HU.getD 3 0, HU.getD 4 0, HU.getD 5 0, HU.getD 6 0, HU.getD 7 0⟩
theorem H0_row : wv H0.row = hW := by decide +kernel
/-- k blocks from the front. -/
def foldN (s : S8) (p : List UInt8) : Nat → S8
  | 0 => s
  | k + 1 => blockF (foldN s p k) (p.drop (64 * k))
theorem foldN_add (s : S8) (p : List UInt8) (m : Nat) : ∀ k, foldN s p (m + k) = foldN (foldN s p m) (p.drop (64 * m)) k
  | 0 => rfl
  | k + 1 => by
    show blockF (foldN s p (m + k)) (p.drop (64 * (m + k))) = blockF (foldN (foldN s p m) (p.drop (64 * m)) k) ((p.drop (64 * m)).drop (64 * k))
    rw [foldN_add s p m k, List.drop_drop, Nat.mul_add]
theorem foldN_front (s : S8) {p q : List UInt8} : ∀ k, p.take (64 * k) = q.take (64 * k) → foldN s p k = foldN s q k
  | 0, _ => rfl
  | k + 1, h => by
    show blockF (foldN s p k) (p.drop (64 * k)) = blockF (foldN s q k) (q.drop (64 * k))
    have h1 : p.take (64 * k) = q.take (64 * k) := by
      have := congrArg (List.take (64 * k)) h
      rw [List.take_take, List.take_take, Nat.min_eq_left (by omega)] at this
      exact this
    rw [foldN_front s k h1]
    refine blockF_take _ ?_
    have := congrArg (List.drop (64 * k)) h
    rw [List.drop_take, List.drop_take, show 64 * (k + 1) - 64 * k = 64 by omega] at this
    exact this
def outL (s : S8) : List UInt8 := (List.range 32).map fun i => UInt8.ofNat ((s.row.getD (i / 4) 0).toNat / 2 ^ (24 - 8 * (i % 4)))
theorem outL_len (s : S8) : (outL s).length = 32 := by simp [outL]
def shaL (b : List UInt8) : List UInt8 := outL (foldN H0 (padL b) ((padL b).length / 64))
/-- Bytes as numbers. -/
def nv (l : List UInt8) : List Nat := l.map (·.toNat)
theorem nv_len (l : List UInt8) : (nv l).length = l.length := by simp [nv]
theorem nv_bv (l : List UInt8) : kv .u8 (nv l) = bv l := by simp [kv, nv, bv]
def z32 : List Nat := List.replicate 32 0
theorem zeroDig (w : World) : (zeroValue 27).run Tryd.prog w = .ok (.agg (kv .u8 z32).toArray) w := by kernel_rfl
theorem ldDig {w : World} {X : Nat} {l : List Nat} {t : TypeId} (h : Arr w X t .u8 l) (hl : l.length = 32) : (Instr.loadAt 27 (.pointer (some ⟨X, 0, none⟩))).run Tryd.prog w = .ok ((Value.agg (List.toArray (kv .u8 l)))) w := h.load Tryd.underlying27 rfl (by rw [hl]; kernel_rfl)
theorem stDig {w : World} {X : Nat} {l m : List Nat} {t : TypeId} (h : Arr w X t .u8 l) (hl : l.length = 32) (hm : m.length = 32) : (Instr.storeAt 27 (.pointer (some ⟨X, 0, none⟩)) ((Value.agg (List.toArray (kv .u8 m))))).run Tryd.prog w = .ok () (w.setRow X (kv .u8 m).toArray) := h.store (by rw [hm]; kernel_rfl) (by omega)
theorem shaL_len (b : List UInt8) : (nv (shaL b)).length = 32 := by rw [nv_len]; exact outL_len _

theorem still_load {P : Program} {ops : Array Oper} {w : World} {Q : Act → Prop} {a : Act} {o : Oper} {rest : List Oper} {p v : Value} (ty : TypeId) (x : Operand) (hgd : o.guard = none) (ho : o.op = .load ty x) (hx : a.eval x = p)
    (hf : (Instr.loadAt ty p).run P w = .ok v w) (h : wpStill P ops w Q rest (a.put o.dst v)) : wpStill P ops w Q (o :: rest) a := by
  refine wpStill_step fun K hK => ?_
  rw [if_pos (by unfold Region.wanted; rw [hgd])]
  unfold Oper.still
  rw [exec_load ty x ho hx hf, Oper.stillUpon_value]
  exact hK _ h
/-- A row of the call's own, cut at a place. -/
theorem row_range {w : World} {base n : Nat} {v : Value} {l : List UInt8} (h : w.ownsRow base 5 1 v n (bv l)) (hn : 0 < n) : ∃ g c, v = .slice (some ⟨g, 0, none⟩) n c ∧ base ≤ g ∧ g < w.heap.size ∧ n ≤ c ∧ l.length = n ∧ w.rangeAt g 0 (bv l) := by
  have h1 := h.1
  rw [bv_len, Nat.mul_one] at h1
  rcases h.2 with ⟨rfl, h0⟩ | ⟨g, cap, cur, rfl, hb, hg, hnc, _⟩
  · omega
  · refine ⟨g, cap, rfl, hb, (Array.getElem?_eq_some_iff.1 hg).1, hnc, h1, fun j u hu => ?_⟩
    have := h.cells (g := g) rfl j u hu
    rw [Addr.add_mid] at this
    exact this
theorem range_drop {w : World} {g o k : Nat} {l : List UInt8} (h : w.rangeAt g o (bv l)) : w.rangeAt g (o + k) (bv (l.drop k)) := fun j u hu => by
  have := h (k + j) u (by unfold bv at hu ⊢; rw [List.map_drop, List.getElem?_drop] at hu; exact hu)
  rw [← Nat.add_assoc] at this
  exact this
theorem outL_at (s : S8) {i : Nat} (h : i < 32) : (nv (outL s)).getD i 0 = (s.row.getD (i / 4) 0).toNat / 2 ^ (24 - 8 * (i % 4)) % 256 := by
  unfold nv outL
  rw [List.getD_eq_getElem?_getD, List.getElem?_map, List.getElem?_map, List.getElem?_range h]
  simp [UInt8.toNat_ofNat']
theorem z32_part (s : S8) : z32 = part (nv (outL s)) 32 0 := rfl
set_option maxHeartbeats 4000000 in
theorem rSum_ct {w : World} {v : Value} {b : List UInt8} (h : ByAt w v b) (hl : b.length ≤ 500000) :
    Calls Tryd.prog 59 #[(Value.agg (List.toArray (kv .u32 hW))), (Value.agg (List.toArray (kv .u32 kW))), v] w fun e w' => e = .returned ((Value.agg (List.toArray (kv .u8 (nv (shaL b)))))) ∧ Kept (fun _ => False) w w' := by
  have zz := zeroDig
  obtain ⟨va, vc, rfl⟩ := h.slc
  go_enter Tryd.func59, Tryd.ntmps59
  go_wp2_with (first
    | (with_reducible refine wpl_alloc 27 rfl rfl (zz _) ?_
       simp only [World.size_alloc, Act.put, List.getElem_toArray, List.getElem_cons_zero, List.getElem_cons_succ, List.setIfInBounds_toArray, List.set_cons_zero, List.set_cons_succ]))
  obtain ⟨X, hX⟩ : ∃ X, w.heap.size = X := ⟨_, rfl⟩
  have kk := fun (v : World) (o : Obj) => (Kept.refl (fun _ => False) v).alloc o
  have k0 := ((kk w (.cells (kv .u32 hW).toArray 64)).trans (kk _ (.cells (kv .u32 kW).toArray 65))).trans (kk _ (.cells (kv .u8 z32).toArray 27))
  have m0 : Arr ((((w.alloc (.cells (kv .u32 hW).toArray 64)).alloc (.cells (kv .u32 kW).toArray 65)).alloc (.cells (kv .u8 z32).toArray 27))) X 64 .u32 hW := ((Arr.new hX.symm).stay (kk _ _) not_false).stay (kk _ _) not_false
  have m1 : Arr ((((w.alloc (.cells (kv .u32 hW).toArray 64)).alloc (.cells (kv .u32 kW).toArray 65)).alloc (.cells (kv .u8 z32).toArray 27))) (X + 1) 65 .u32 kW := (Arr.new (by rw [World.size_alloc, hX])).stay (kk _ _) not_false
  have m2 : Arr ((((w.alloc (.cells (kv .u32 hW).toArray 64)).alloc (.cells (kv .u32 kW).toArray 65)).alloc (.cells (kv .u8 z32).toArray 27))) (X + 1 + 1) 27 .u8 z32 := Arr.new (by rw [World.size_alloc, World.size_alloc, hX])
  rw [hX]
  generalize ((w.alloc (.cells (kv .u32 hW).toArray 64)).alloc (.cells (kv .u32 kW).toArray 65)).alloc (.cells (kv .u8 z32).toArray 27) = W0 at k0 m0 m1 m2 ⊢
  clear kk
  refine (padded_ct (h.kept k0) hl).mono ?_
  rintro e W1 ⟨v1, rfl, ho, kp⟩
  have hpm := padL_mod b
  have hpl := padL_len b
  have hzl := zN_lt b.length
  obtain ⟨g, c, rfl, hbg, hgl, hnc, _, hrg⟩ := row_range ho (by omega)
  have hgX := m2.lt
  have n0 := m0.stay kp not_false
  have n1 := m1.stay kp not_false
  have n2 := m2.stay kp not_false
  have k1 := k0.trans kp
  obtain ⟨N, hN⟩ : ∃ N, (padL b).length / 64 = N := ⟨_, rfl⟩
  obtain ⟨n, hn⟩ : ∃ n, (padL b).length = n := ⟨_, rfl⟩
  have hnN : n = 64 * N := by omega
  have hn6 : n ≤ 600000 := by omega
  have HSH : Hid (shaL b = outL (foldN H0 (padL b) N)) := by unfold Hid shaL; rw [hN]
  rw [hn] at hnc ⊢
  have HN := Lib.hid (And.intro hnN hn)
  rw [← H0_row] at n0
  clear m0 m1 m2 k0 kp ho hpm hpl hN hn hnN
  generalize padL b = p at *
  go_wp2_with fail
  go_loopw [8] (fun x wr => ∃ k i : Nat, k ≤ N ∧ Hid (i = 64 * k) ∧ x = .int .i64 i ∧ Arr wr X 64 .u32 (wv (foldN H0 p k).row) ∧ Arr wr (X + 1) 65 .u32 kW ∧ Arr wr (X + 1 + 1) 27 .u8 z32 ∧ wr.rangeAt g 0 (bv p) ∧ g < wr.heap.size ∧ Kept (fun _ => False) w wr) (fun x _ => n - (intOf x).toNat)
  case atStart => exact ⟨0, 0, by omega, rfl, rfl, n0, n1, n2, hrg, hgl, k1⟩
  case round =>
    clear n0 n1 n2 k1 hrg
    obtain ⟨k, i, hk, HI, rfl, n0, n1, n2, hrg, hgw, kr⟩ := hrel
    by_cases hlt : k < N
    · have hi := HI.out
      obtain ⟨hnN, hpn⟩ := HN.out
      have hlti : (i : Int) < (n : Int) := by omega
      obtain ⟨i2, hi2⟩ : ∃ i2, i2 = i + 64 := ⟨_, rfl⟩
      have wi : IntKind.i64.wrap ((i : Int) + 64) = (i2 : Int) := by rw [IntWalk.i64_in _ (by omega)]; omega
      have l1 : (i : Int) ≤ (i2 : Int) := by omega
      have l2 : (i2 : Int) ≤ (c : Int) := by omega
      have hci : ¬ c = i := by omega
      have hsub : i2 - i = 64 := by omega
      have kd : Kept (fun _ => False) wr wr.drew := (Kept.refl _ wr).drew
      have e0 := n0.stay kd not_false
      have e1 := n1.stay kd not_false
      have e2 := n2.stay kd not_false
      have k1 := kr.trans kd
      have hr2 := rangeAt_stay kd hgw not_false hrg
      have hg2 := Nat.lt_of_lt_of_le hgw kd.size
      generalize hW1 : wr.drew = W2 at e0 e1 e2 k1 hr2 hg2
      have d0 := ldW8 e0 (by rw [wv_len, s8_len])
      have d1 := ldW64 e1 kW_len
      have hdr := range_drop (k := i) hr2
      rw [Nat.zero_add] at hdr
      have hdl : (p.drop i).length = n - i := by rw [List.length_drop, hpn]
      have bc := rblock_ct (foldN H0 p k) (p.drop i) (n := 64) (cap := c - i) hdr hg2 (by omega) (by omega) (by omega)
      have hstep : blockF (foldN H0 p k) (p.drop i) = foldN H0 p (k + 1) := by rw [hi]; rfl
      rw [hstep] at bc
      have HI2 : Hid (i2 = 64 * (k + 1)) := by unfold Hid; omega
      have HB := Lib.hid (And.intro hi2 hi)
      clear n0 n1 n2 kr kd hrg hgw hi2 hi hnN hpn hdl hstep
      go_wp2_with fail
      refine still_tail 7 hW1 (by kernel_rfl) (by kernel_rfl) ?_
      simp only [List.take_succ_cons, List.take_zero, List.drop_succ_cons, List.drop_zero]
      clear hW1
      refine still_load 64 _ rfl rfl rfl d0 ?_
      refine still_load 65 _ rfl rfl rfl d1 ?_
      simp only [Act.put, List.getElem_toArray, List.getElem_cons_zero, List.getElem_cons_succ, List.setIfInBounds_toArray, List.set_cons_zero, List.set_cons_succ]
      repeat still_step
      refine wpStill_nil ?_
      clear d0 d1 hci hsub
      go_wp2_with fail
      refine bc.mono ?_
      rintro e W3 ⟨rfl, kq⟩
      have n0 := e0.stay kq not_false
      have n1 := e1.stay kq not_false
      have n2 := e2.stay kq not_false
      have k3 := k1.trans kq
      have hr3 := rangeAt_stay kq hg2 not_false hr2
      have hg3 := Nat.lt_of_lt_of_le hg2 kq.size
      have s0 := stW8 n0 (m := wv (foldN H0 p (k + 1)).row) (by rw [wv_len, s8_len]) (by rw [wv_len, s8_len])
      have p0 := n0.put (wv (foldN H0 p (k + 1)).row)
      have ks := (Kept.refl (fun j => j = X) W3).setRow (b := X) (fun _ => rfl) (kv .u32 (wv (foldN H0 p (k + 1)).row)).toArray
      have p1 := n1.stay ks (by omega)
      have p2 := n2.stay ks (by omega)
      have hr4 := rangeAt_stay ks hg3 (by omega) hr3
      have hg4 := Nat.lt_of_lt_of_le hg3 ks.size
      have k4 : Kept (fun _ => False) w (W3.setRow X (kv .u32 (wv (foldN H0 p (k + 1)).row)).toArray) := k3.setRow (fun h => absurd h (by omega)) _
      have HMS : Hid (n - i2 < n - i) := by
        obtain ⟨q1, q2⟩ := HB.out
        obtain ⟨q3, q4⟩ := HN.out
        unfold Hid
        omega
      clear n0 n1 n2 k1 hr2 hg2 kq e0 e1 e2 ks hr3 hg3 k3 bc
      go_wp2_with (first
        | (with_reducible refine wpl_store 64 _ _ rfl rfl ?_ ?_ s0 ?_
           · rfl
           · rfl
           simp only [Act.put, List.getElem_toArray, List.getElem_cons_zero, List.getElem_cons_succ, List.setIfInBounds_toArray, List.set_cons_zero, List.set_cons_succ]))
      go_roundw
      case rel => exact ⟨k + 1, i2, by omega, HI2, by go_num, p0, p1, p2, hr4, hg4, k4⟩
      case measure => simp [intOf]; exact HMS.out
    · obtain rfl : k = N := by omega
      have hi := HI.out
      obtain ⟨hnN, hpn⟩ := HN.out
      obtain rfl : i = n := by omega
      clear hi hnN hpn
      generalize hS : foldN H0 p k = S at n0 HSH
      rw [show wv S.row = wv S.row from rfl] at n0
      clear hrg hgw hS
      obtain ⟨Y, hY⟩ : ∃ Y, wr.heap.size = Y := ⟨_, rfl⟩
      have hXY := n2.lt
      rw [hY] at hXY
      go_wp2_with (first
        | (with_reducible refine wpl_alloc 27 rfl rfl (zz _) ?_
           simp only [World.size_alloc, Act.put, List.getElem_toArray, List.getElem_cons_zero, List.getElem_cons_succ, List.setIfInBounds_toArray, List.set_cons_zero, List.set_cons_succ]))
      have kd := (Kept.refl (fun _ => False) wr).alloc (.cells (kv .u8 z32).toArray 27)
      have m0 := n0.stay kd not_false
      have m2 := n2.stay kd not_false
      have m3 : Arr (wr.alloc (.cells (kv .u8 z32).toArray 27)) Y 27 .u8 z32 := Arr.new hY.symm
      have k2 := kr.trans kd
      have hwY : w.heap.size ≤ Y := by have := kr.size; omega
      rw [hY]
      clear n0 n1 n2 kr kd hY zz
      generalize wr.alloc (.cells (kv .u8 z32).toArray 27) = W5 at m0 m2 m3 k2 ⊢
      have HSX := Lib.hid HSH.out
      obtain ⟨L, hLd⟩ : ∃ L, L = nv (outL S) := ⟨_, rfl⟩
      have hLl : L.length = 32 := by rw [hLd, nv_len, outL_len]
      have HL := Lib.hid hLd
      rw [z32_part S, ← hLd] at m3
      clear hLd HSH
      go_loopw [10] (fun x wr => ∃ i : Nat, i ≤ 32 ∧ x = .int .i64 i ∧ Arr wr X 64 .u32 (wv S.row) ∧ Arr wr (X + 1 + 1) 27 .u8 z32 ∧ Arr wr Y 27 .u8 (part L 32 i) ∧ Kept (fun _ => False) w wr) (fun x _ => 32 - (intOf x).toNat)
      case atStart => exact ⟨0, by omega, rfl, m0, m2, m3, k2⟩
      case round =>
        clear m0 m2 m3 k2
        obtain ⟨i, hi, rfl, m0, m2, m3, kr⟩ := hrel
        by_cases hlt : i < 32
        · have hlti : (i : Int) < 32 := by omega
          obtain ⟨q, hq⟩ : ∃ q, q = i / 4 := ⟨_, rfl⟩
          have hqi : (i : Int) / 4 = (q : Int) := by omega
          have hq8 : (q : Int) < 8 := by omega
          have cx := m0.wcell (j := q) (by rw [s8_len]; omega)
          have hat := outL_at S hlt
          rw [← HL.out, ← hq] at hat
          generalize S.row.getD q 0 = x at cx hat
          have fz := m3.frozen i
          have co := m3.cell (j := i) (by rw [part_len hLl (by omega)]; exact hlt)
          generalize (part L 32 i).getD i 0 = old at co
          have st := m3.set i (L.getD i 0)
          have hps := part_set hLl hlt
          have ks := (Kept.refl (fun j => j = Y) wr).setCell (p := ⟨Y, i, none⟩) (fun _ => rfl) (.int .u8 ((L.getD i 0 : Nat) : Int))
          have s0 := m0.stay ks (by omega)
          have s2 := m2.stay ks (by omega)
          have k5 : Kept (fun _ => False) w (wr.setCell ⟨Y, i, none⟩ (.int .u8 ((L.getD i 0 : Nat) : Int))) := kr.setCell (p := ⟨Y, i, none⟩) (fun h => by have h : Y < w.heap.size := h; omega) _
          have h4 : i % 4 = 0 ∨ i % 4 = 1 ∨ i % 4 = 2 ∨ i % 4 = 3 := by omega
          clear m0 m2 m3 kr ks hq
          rcases h4 with h4 | h4 | h4 | h4
          · have hr : (i : Int) % 4 = 0 := by omega
            have hv : L.getD i 0 = (x.toNat / 16777216) % 256 := by rw [hat, show i % 4 = 0 by omega] <;> simp
            have hvi : ((L.getD i 0 : Nat) : Int) = ((x.toNat : Int) / 16777216) % 256 := by rw [hv]; omega
            rw [hvi] at st s0 s2 k5
            have HP := Lib.hid hps
            clear hv hvi hat hps h4
            go_wp2_with fail
            go_roundw
            case rel => exact ⟨i + 1, by omega, by go_num, s0, s2, by rw [← HP.out]; exact st, k5⟩
            case measure => simp [intOf]; omega
          · have hr : (i : Int) % 4 = 1 := by omega
            have hv : L.getD i 0 = (x.toNat / 65536) % 256 := by rw [hat, show i % 4 = 1 by omega] <;> simp
            have hvi : ((L.getD i 0 : Nat) : Int) = ((x.toNat : Int) / 65536) % 256 := by rw [hv]; omega
            rw [hvi] at st s0 s2 k5
            have HP := Lib.hid hps
            clear hv hvi hat hps h4
            go_wp2_with fail
            go_roundw
            case rel => exact ⟨i + 1, by omega, by go_num, s0, s2, by rw [← HP.out]; exact st, k5⟩
            case measure => simp [intOf]; omega
          · have hr : (i : Int) % 4 = 2 := by omega
            have hv : L.getD i 0 = (x.toNat / 256) % 256 := by rw [hat, show i % 4 = 2 by omega] <;> simp
            have hvi : ((L.getD i 0 : Nat) : Int) = ((x.toNat : Int) / 256) % 256 := by rw [hv]; omega
            rw [hvi] at st s0 s2 k5
            have HP := Lib.hid hps
            clear hv hvi hat hps h4
            go_wp2_with fail
            go_roundw
            case rel => exact ⟨i + 1, by omega, by go_num, s0, s2, by rw [← HP.out]; exact st, k5⟩
            case measure => simp [intOf]; omega
          · have hr : (i : Int) % 4 = 3 := by omega
            have hv : L.getD i 0 = x.toNat % 256 := by rw [hat, show i % 4 = 3 by omega] <;> simp
            have hvi : ((L.getD i 0 : Nat) : Int) = (x.toNat : Int) % 256 := by rw [hv]; omega
            rw [hvi] at st s0 s2 k5
            have HP := Lib.hid hps
            clear hv hvi hat hps h4
            go_wp2_with fail
            go_roundw
            case rel => exact ⟨i + 1, by omega, by go_num, s0, s2, by rw [← HP.out]; exact st, k5⟩
            case measure => simp [intOf]; omega
        · obtain rfl : i = 32 := by omega
          rw [part_full hLl (by decide)] at m3
          have l1 := ldDig m3 hLl
          have s1 := stDig m2 (m := L) rfl hLl
          have p1 := m2.put L
          have kp : Kept (fun _ => False) w (wr.setRow (X + 1 + 1) (kv .u8 L).toArray) := kr.setRow (fun h => absurd h (by omega)) _
          rw [show ((32 : Nat) : Int) = 32 from rfl]
          go_wp2_with (first
            | (with_reducible refine wpl_load 27 _ rfl rfl ?_ l1 ?_
               · rfl
               simp only [Act.put, List.getElem_toArray, List.getElem_cons_zero, List.getElem_cons_succ, List.setIfInBounds_toArray, List.set_cons_zero, List.set_cons_succ])
            | (with_reducible refine wpl_store 27 _ _ rfl rfl ?_ ?_ s1 ?_
               · rfl
               · rfl
               simp only [Act.put, List.getElem_toArray, List.getElem_cons_zero, List.getElem_cons_succ, List.setIfInBounds_toArray, List.set_cons_zero, List.set_cons_succ]))
          refine bodyPost_ret (results_cell_row rfl _ _ _ _ _ _ _ rfl p1 Tryd.underlying27 rfl (by rw [List.size_toArray, kv_len, hLl]; kernel_rfl)) rfl ?_
          exact ⟨by rw [HL.out, HSX.out], kp⟩
