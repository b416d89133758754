/- sha.block. -/
import Derived.Test.YtehpaddddiigbaaDoorSJ
import Derived.StillTailTactics
namespace Go.Proofs.YtehpaddddiigbaaDoor
open Go.RowKit
set_option maxRecDepth 100000
set_option linter.unusedSimpArgs false
set_option linter.unusedVariables false

theorem s8_len (s : S8) : s.row.length = 8 := rfl
theorem row_z8 (s : S8) : (wv s.row).length = 8 := rfl
theorem still_all {P : Program} {id : Nat} {Q : Exit → Act → World → Prop} {a : Act} {w W : World} {l : List Oper} (hW : w.drew = W) (hm : P.follows .mixedOrders = true) (hB : Region.lexB .any l.toArray = true)
    (h : wpStill P l.toArray W (fun a' => Q .normal a' W) l a) : (Code.region id l.toArray true).wp P Q a w := by
  subst hW; exact wp_region_still_lit hm hB h
theorem still_tail {P : Program} {id : Nat} {Q : Exit → Act → World → Prop} {a : Act} {w W : World} {l : List Oper} (n : Nat) (hW : w.drew = W) (hm : P.follows .mixedOrders = true) (hB : Region.lexTailB .any l.toArray n = true)
    (h : wpStill P l.toArray W (fun a' => wpList P l.toArray Q (l.drop n) a' W) (l.take n) a) : (Code.region id l.toArray true).wp P Q a w := by
  subst hW; exact wp_region_still_tail n hm hB h
theorem exec_indexA {P : Program} {o : Oper} {a : Act} {w : World} {p q v : Value} (ty : TypeId) (x y : Operand) (ho : o.op = .index ty x y) (hx : a.eval x = p) (hy : a.eval y = q) (h : (Instr.index ty p q).run P w = .ok v w) : (execOp a.eval o).run P w = .ok (.value v) w := by
  unfold execOp; simp only [ho, hx, hy, Sem.run_bind, h, Result.andThen_ok]; rfl
def wpart (L : List UInt8) (n : Nat) : List UInt32 := sched L n ++ List.replicate (64 - n) 0
theorem wpart_len (L : List UInt8) (n : Nat) (h : n ≤ 64) : (wpart L n).length = 64 := by unfold wpart; simp [sched_len]; omega
theorem wpart_0 (L : List UInt8) : wv (wpart L 0) = z64 := rfl
theorem wpart_at (L : List UInt8) {n j : Nat} (h : j < n) : (wpart L n).getD j 0 = (sched L n).getD j 0 := by
  unfold wpart
  rw [List.getD_eq_getElem?_getD, List.getD_eq_getElem?_getD, List.getElem?_append_left (by rw [sched_len]; exact h)]
theorem wpart_set (L : List UInt8) {n : Nat} (h : n < 64) {x : UInt32} (hx : x = if n < 16 then wordAt L n else addU (addU (addU ((sched L n).getD (n - 16) 0) (ss0 ((sched L n).getD (n - 15) 0))) ((sched L n).getD (n - 7) 0)) (ss1 ((sched L n).getD (n - 2) 0))) : (wpart L n).set n x = wpart L (n + 1) := by
  unfold wpart
  rw [List.set_append_right _ _ (by rw [sched_len]; omega), sched_len, Nat.sub_self, show 64 - n = (64 - (n + 1)) + 1 by omega, List.replicate_succ, List.set_cons_zero]
  show _ = (sched L n ++ _) ++ _
  rw [List.append_assoc, hx]
  rfl
theorem Arr.wcell {w : World} {X : Nat} {t : TypeId} {l : List UInt32} (h : Arr w X t .u32 (wv l)) {j : Nat} (hj : j < l.length) : w.cell? ⟨X, j, none⟩ = some (.int .u32 ((l.getD j 0).toNat : Int)) := by
  rw [h.cell (by rw [wv_len]; exact hj), wv_at]
theorem Arr.wset {w : World} {X : Nat} {t : TypeId} {l : List UInt32} (h : Arr w X t .u32 (wv l)) (j : Nat) (v : UInt32) : Arr (w.setCell ⟨X, j, none⟩ (.int .u32 (v.toNat : Int))) X t .u32 (wv (l.set j v)) := by
  rw [wv_set]; exact h.set j v.toNat
theorem byte_at {w : World} {g off : Nat} {L : List UInt8} (h : w.rangeAt g off (bv L)) {j : Nat} (hj : j < L.length) : w.cell? ⟨g, off + j, none⟩ = some (.int .u8 ((L.getD j 0).toNat : Int)) := by
  refine h j _ ?_
  unfold bv
  rw [List.getElem?_map, List.getElem?_eq_getElem hj, List.getD_eq_getElem?_getD, List.getElem?_eq_getElem hj]
  rfl
/-- A package's table of words. -/
def Tab (w : World) (g : Nat) (l : List Nat) : Prop := ∃ T fr, w.heap[g]? = some (.cells (kv .u32 l).toArray T fr)
theorem Tab.lt {w : World} {g : Nat} {l : List Nat} (h : Tab w g l) : g < w.heap.size := by
  obtain ⟨T, fr, h⟩ := h
  exact (Array.getElem?_eq_some_iff.1 h).1
theorem Tab.stay {S : Nat → Prop} {w w' : World} {g : Nat} {l : List Nat} (h : Tab w g l) (hk : Kept S w w') (hS : ¬ S g) : Tab w' g l := by
  have hl := h.lt
  obtain ⟨T, fr, h⟩ := h
  exact ⟨T, fr, (hk.block g hl hS).trans h⟩
theorem Tab.cell {w : World} {g : Nat} {l : List Nat} (h : Tab w g l) {j : Nat} (hj : j < l.length) : w.cell? ⟨g, j, none⟩ = some (.int .u32 (l.getD j 0 : Nat)) := by
  obtain ⟨T, fr, h⟩ := h
  rw [cell_of_row _ _ _ _ _ _ h]
  simp [kv, hj, List.getElem?_eq_getElem]
theorem KU_at : ∀ t < 64, ((KU.getD t 0).toNat : Int) = ((kW.getD t 0 : Nat) : Int) := by decide +kernel
theorem u_notw (a : UInt32) : bits .xor .u32 (if IntKind.u32.signed = true then -1 else IntKind.u32.max) (a.toNat : Int) = ((notU a).toNat : Int) := by
  have e : (if IntKind.u32.signed = true then (-1 : Int) else IntKind.u32.max) = 4294967295 := by decide +kernel
  have e1 : BitVec.ofInt 32 4294967295 = BitVec.allOnes 32 := by decide +kernel
  have h := u_lt a
  rw [e, ← u_not]
  show IntKind.u32.wrap ((BitVec.ofInt 32 4294967295 ^^^ BitVec.ofInt 32 (a.toNat : Int)).toNat : Int) = _
  rw [e1, BitVec.allOnes_xor, BitVec.toNat_not, ofInt_u32 _ h, IntKind.wrap_u32']
  omega
def mixL (s r : S8) (i : Nat) : List UInt32 := (s.add r).row.take i ++ s.row.drop i
theorem mixL_len (s r : S8) (i : Nat) (h : i ≤ 8) : (mixL s r i).length = 8 := by
  unfold mixL
  rw [List.length_append, List.length_take, List.length_drop, s8_len, s8_len]
  omega
theorem word_or (c0 c1 c2 c3 : UInt8) : ∃ m0 m1 m2 n1 n2 : Nat, IntKind.u32.wrap (c0.toNat : Int) = (c0.toNat : Int) ∧ IntKind.u32.wrap (c1.toNat : Int) = (c1.toNat : Int) ∧ IntKind.u32.wrap (c2.toNat : Int) = (c2.toNat : Int) ∧ IntKind.u32.wrap (c3.toNat : Int) = (c3.toNat : Int) ∧
    IntKind.u32.wrap ((c0.toNat : Int) * 16777216) = (m0 : Int) ∧ IntKind.u32.wrap ((c1.toNat : Int) * 65536) = (m1 : Int) ∧ IntKind.u32.wrap ((c2.toNat : Int) * 256) = (m2 : Int) ∧ bits .or .u32 (m0 : Int) (m1 : Int) = (n1 : Int) ∧ bits .or .u32 (n1 : Int) (m2 : Int) = (n2 : Int) ∧
    bits .or .u32 (n2 : Int) (c3.toNat : Int) = ((UInt32.ofNat (((c0.toNat * 256 + c1.toNat) * 256 + c2.toNat) * 256 + c3.toNat)).toNat : Int) := by
  have h0 := c0.toNat_lt
  have h1 := c1.toNat_lt
  have h2 := c2.toNat_lt
  have h3 := c3.toNat_lt
  have o1 := nat_join 24 (c0.toNat * 16777216) (c1.toNat * 65536) (by omega) (by omega)
  have o2 := nat_join 16 (c0.toNat * 16777216 + c1.toNat * 65536) (c2.toNat * 256) (by omega) (by omega)
  have o3 := nat_join 8 (c0.toNat * 16777216 + c1.toNat * 65536 + c2.toNat * 256) c3.toNat (by omega) (by omega)
  refine ⟨c0.toNat * 16777216, c1.toNat * 65536, c2.toNat * 256, c0.toNat * 16777216 + c1.toNat * 65536, c0.toNat * 16777216 + c1.toNat * 65536 + c2.toNat * 256, ?_, ?_, ?_, ?_, ?_, ?_, ?_, ?_, ?_, ?_⟩
  iterate 7 (rw [IntKind.wrap_u32']; omega)
  · rw [u32_or_nat _ _ (by omega) (by omega), o1]
  · rw [u32_or_nat _ _ (by omega) (by omega), o2]
  · rw [u32_or_nat _ _ (by omega) (by omega), o3, UInt32.toNat_ofNat']
    congr 1
    omega
set_option maxHeartbeats 4000000 in
theorem block_ct (s : S8) (L : List UInt8) {w : World} {g off cap n : Nat} (hL : w.rangeAt g off (bv L)) (hg : g < w.heap.size) (hl : 64 ≤ L.length) (hn : 64 ≤ n) (hm : n ≤ 1000000) (hT : Tab w 1 kW) :
    Calls Tryd.prog 72 #[(Value.agg (List.toArray (kv .u32 (wv s.row)))), .slice (some ⟨g, off, none⟩) n cap] w fun e w' => e = .returned ((Value.agg (List.toArray (kv .u32 (wv (blockF s L).row))))) ∧ Kept (fun _ => False) w w' := by
  have zz := zeroW64
  have z8' := zeroW8
  go_enter Tryd.func72, Tryd.ntmps72
  go_wp2_with (first
    | (with_reducible refine wpl_alloc 65 rfl rfl (zz _) ?_
       simp only [World.size_alloc, Act.put, List.getElem_toArray, List.getElem_cons_zero, List.getElem_cons_succ, List.setIfInBounds_toArray, List.set_cons_zero, List.set_cons_succ])
    | (with_reducible refine wpl_alloc 64 rfl rfl (z8' _) ?_
       simp only [World.size_alloc, Act.put, List.getElem_toArray, List.getElem_cons_zero, List.getElem_cons_succ, List.setIfInBounds_toArray, List.set_cons_zero, List.set_cons_succ]))
  obtain ⟨X, hX⟩ : ∃ X, w.heap.size = X := ⟨_, rfl⟩
  have hg' : g < X := by omega
  have kk := fun (v : World) (o : Obj) => (Kept.refl (fun _ => False) v).alloc o
  have k0 := ((kk w (.cells (kv .u32 (wv s.row)).toArray 64)).trans (kk _ (.cells (kv .u32 z8).toArray 64))).trans (kk _ (.cells (kv .u32 z64).toArray 65))
  have a0 : Arr ((((w.alloc (.cells (kv .u32 (wv s.row)).toArray 64)).alloc (.cells (kv .u32 z8).toArray 64)).alloc (.cells (kv .u32 z64).toArray 65))) X 64 .u32 (wv s.row) := ((Arr.new hX.symm).stay (kk _ _) not_false).stay (kk _ _) not_false
  have a1 : Arr ((((w.alloc (.cells (kv .u32 (wv s.row)).toArray 64)).alloc (.cells (kv .u32 z8).toArray 64)).alloc (.cells (kv .u32 z64).toArray 65))) (X + 1) 64 .u32 z8 := (Arr.new (by rw [World.size_alloc, hX])).stay (kk _ _) not_false
  have a2 : Arr ((((w.alloc (.cells (kv .u32 (wv s.row)).toArray 64)).alloc (.cells (kv .u32 z8).toArray 64)).alloc (.cells (kv .u32 z64).toArray 65))) (X + 1 + 1) 65 .u32 (wv (wpart L 0)) := by rw [wpart_0]; exact Arr.new (by rw [World.size_alloc, World.size_alloc, hX])
  rw [hX]
  generalize ((w.alloc (.cells (kv .u32 (wv s.row)).toArray 64)).alloc (.cells (kv .u32 z8).toArray 64)).alloc (.cells (kv .u32 z64).toArray 65) = W0 at k0 a0 a1 a2 ⊢
  clear zz z8' kk
  go_loopw [23] (fun x wr => ∃ t : Nat, t ≤ 16 ∧ x = .int .i64 t ∧ Arr wr X 64 .u32 (wv s.row) ∧ Arr wr (X + 1) 64 .u32 z8 ∧ Arr wr (X + 1 + 1) 65 .u32 (wv (wpart L t)) ∧ Kept (fun _ => False) w wr) (fun x _ => 16 - (intOf x).toNat)
  case atStart => exact ⟨0, by omega, rfl, a0, a1, a2, k0⟩
  case round =>
    clear a0 a1 a2 k0
    obtain ⟨t, ht, rfl, a0, a1, a2, kr⟩ := hrel
    by_cases hlt : t < 16
    · have hlti : (t : Int) < 16 := by omega
      have kd : Kept (fun _ => False) wr wr.drew := (Kept.refl _ wr).drew
      have hb := rangeAt_stay (kr.trans kd) hg not_false hL
      have d0 := a0.stay kd not_false
      have d1 := a1.stay kd not_false
      have d2 := a2.stay kd not_false
      have k1 := kr.trans kd
      obtain ⟨q, hq⟩ : ∃ q, q = 4 * t := ⟨_, rfl⟩
      obtain ⟨q1, hq1⟩ : ∃ q1, q1 = q + 1 := ⟨_, rfl⟩
      obtain ⟨q2, hq2⟩ : ∃ q2, q2 = q + 2 := ⟨_, rfl⟩
      obtain ⟨q3, hq3⟩ : ∃ q3, q3 = q + 3 := ⟨_, rfl⟩
      have w0 : IntKind.i64.wrap (4 * (t : Int)) = (q : Int) := by rw [IntWalk.i64_in _ (by omega)]; omega
      have w1 : IntKind.i64.wrap ((q : Int) + 1) = (q1 : Int) := by rw [IntWalk.i64_in _ (by omega)]; omega
      have w2 : IntKind.i64.wrap ((q : Int) + 2) = (q2 : Int) := by rw [IntWalk.i64_in _ (by omega)]; omega
      have w3 : IntKind.i64.wrap ((q : Int) + 3) = (q3 : Int) := by rw [IntWalk.i64_in _ (by omega)]; omega
      have b0 := byte_at hb (j := q) (by omega)
      have b1 := byte_at hb (j := q1) (by omega)
      have b2 := byte_at hb (j := q2) (by omega)
      have b3 := byte_at hb (j := q3) (by omega)
      have l0 : (q : Int) < (n : Int) := by omega
      have l1 : (q1 : Int) < (n : Int) := by omega
      have l2 : (q2 : Int) < (n : Int) := by omega
      have l3 : (q3 : Int) < (n : Int) := by omega
      have t64 : (t : Int) < 64 := by omega
      have hwd : wordAt L t = UInt32.ofNat ((((L.getD q 0).toNat * 256 + (L.getD q1 0).toNat) * 256 + (L.getD q2 0).toNat) * 256 + (L.getD q3 0).toNat) := by subst hq hq1 hq2 hq3; rfl
      generalize L.getD q 0 = c0 at b0 hwd
      generalize L.getD q1 0 = c1 at b1 hwd
      generalize L.getD q2 0 = c2 at b2 hwd
      generalize L.getD q3 0 = c3 at b3 hwd
      obtain ⟨m0, m1, m2, n1, n2, e1, e2, e3, e4, e5, e6, e7, e8, e9, e10⟩ := word_or c0 c1 c2 c3
      rw [← hwd] at e10
      have hps := wpart_set L (n := t) (x := wordAt L t) (by omega) (by rw [if_pos hlt])
      generalize wordAt L t = x at e10 hps
      have st := d2.wset t x
      rw [hps] at st
      have fz := d2.frozen t
      have c2' := d2.wcell (j := t) (by rw [wpart_len _ _ (by omega)]; omega)
      generalize (wpart L t).getD t 0 = old at c2'
      have s0 := d0.stay (S := fun j => j = X + 1 + 1) ((Kept.refl (fun j => j = X + 1 + 1) wr.drew).setCell (p := ⟨X + 1 + 1, t, none⟩) (fun _ => rfl) (.int .u32 (x.toNat : Int))) (by omega)
      have s1 := d1.stay (S := fun j => j = X + 1 + 1) ((Kept.refl (fun j => j = X + 1 + 1) wr.drew).setCell (p := ⟨X + 1 + 1, t, none⟩) (fun _ => rfl) (.int .u32 (x.toNat : Int))) (by omega)
      have k2 : Kept (fun _ => False) w (wr.drew.setCell ⟨X + 1 + 1, t, none⟩ (.int .u32 (x.toNat : Int))) := k1.setCell (p := ⟨X + 1 + 1, t, none⟩) (fun h => by have h : X + 1 + 1 < w.heap.size := h; omega) _
      clear hq hq1 hq2 hq3 hwd hps d0 d1 d2 hb k1 kd a0 a1 a2 kr
      go_wp2_with fail
      refine wp_region_still_tail 35 (by kernel_rfl) (by kernel_rfl) ?_
      simp only [List.take_succ_cons, List.take_zero, List.drop_succ_cons, List.drop_zero]
      change wpStill _ _ wr.drew (fun a' => wpList _ _ _ _ a' wr.drew) _ _
      generalize wr.drew = W1 at *
      repeat still_step
      refine wpStill_nil ?_
      go_wp2_with fail
      go_roundw
      case rel => exact ⟨t + 1, by omega, by go_num, s0, s1, st, k2⟩
      case measure => simp [intOf]; omega
    · obtain rfl : t = 16 := by omega
      rw [show ((16 : Nat) : Int) = 16 from rfl]
      go_wp2_with fail
      go_loopw [7] (fun x wr => ∃ t : Nat, 16 ≤ t ∧ t ≤ 64 ∧ x = .int .i64 t ∧ Arr wr X 64 .u32 (wv s.row) ∧ Arr wr (X + 1) 64 .u32 z8 ∧ Arr wr (X + 1 + 1) 65 .u32 (wv (wpart L t)) ∧ Kept (fun _ => False) w wr) (fun x _ => 64 - (intOf x).toNat)
      case atStart => exact ⟨16, by omega, by omega, rfl, a0, a1, a2, kr⟩
      case round =>
        clear a0 a1 a2 kr
        obtain ⟨t, ht16, ht, rfl, a0, a1, a2, kr⟩ := hrel
        by_cases hlt : t < 64
        · have hlti : (t : Int) < 64 := by omega
          obtain ⟨p16, hp16⟩ : ∃ p, p = t - 16 := ⟨_, rfl⟩
          obtain ⟨p15, hp15⟩ : ∃ p, p = t - 15 := ⟨_, rfl⟩
          obtain ⟨p7, hp7⟩ : ∃ p, p = t - 7 := ⟨_, rfl⟩
          obtain ⟨p2, hp2⟩ : ∃ p, p = t - 2 := ⟨_, rfl⟩
          have w16 : IntKind.i64.wrap ((t : Int) - 16) = (p16 : Int) := by rw [IntWalk.i64_in _ (by omega)]; omega
          have w15 : IntKind.i64.wrap ((t : Int) - 15) = (p15 : Int) := by rw [IntWalk.i64_in _ (by omega)]; omega
          have w7 : IntKind.i64.wrap ((t : Int) - 7) = (p7 : Int) := by rw [IntWalk.i64_in _ (by omega)]; omega
          have w2 : IntKind.i64.wrap ((t : Int) - 2) = (p2 : Int) := by rw [IntWalk.i64_in _ (by omega)]; omega
          have i16 : (p16 : Int) < 64 := by omega
          have i15 : (p15 : Int) < 64 := by omega
          have i7 : (p7 : Int) < 64 := by omega
          have i2 : (p2 : Int) < 64 := by omega
          have g16 := wpart_at L (n := t) (j := p16) (by omega)
          have g15 := wpart_at L (n := t) (j := p15) (by omega)
          have g7 := wpart_at L (n := t) (j := p7) (by omega)
          have g2 := wpart_at L (n := t) (j := p2) (by omega)
          have l64 := wpart_len L t ht
          have hps := wpart_set L (n := t) (x := _) (by omega) (by rw [if_neg (by omega)])
          rw [← hp16, ← hp15, ← hp7, ← hp2, ← g16, ← g15, ← g7, ← g2] at hps
          have c15 := a2.wcell (j := p15) (by omega)
          have c2 := a2.wcell (j := p2) (by omega)
          generalize hx15 : (wpart L t).getD p15 0 = x15 at c15 hps
          generalize hx2 : (wpart L t).getD p2 0 = x2 at c2 hps
          generalize hx16 : (wpart L t).getD p16 0 = x16 at hps
          generalize hx7 : (wpart L t).getD p7 0 = x7 at hps
          clear g16 g15 g7 g2
          have HJ := Lib.hid (And.intro hp16 (And.intro hp15 (And.intro hp7 (And.intro hp2 (And.intro hx15 (And.intro hx2 (And.intro hx16 (And.intro hx7 (And.intro l64 hps)))))))))
          clear hp16 hp15 hp7 hp2 hx15 hx2 hx16 hx7 l64 hps
          go_wp2_with fail
          go_quiet (fail)
          have kd : Kept (fun _ => False) wr (wr.drewN nq) := (Kept.refl _ wr).drewN nq
          have d0 := a0.stay kd not_false
          have d1 := a1.stay kd not_false
          have d2 := a2.stay kd not_false
          have k1 := kr.trans kd
          clear a0 a1 a2 kr kd c15 c2
          generalize wr.drewN nq = W3 at d0 d1 d2 k1 ⊢
          have kd : Kept (fun _ => False) W3 W3.drew := (Kept.refl _ W3).drew
          have e0 := d0.stay kd not_false
          have e1 := d1.stay kd not_false
          have e2 := d2.stay kd not_false
          have k2 := k1.trans kd
          obtain ⟨hp16, hp15, hp7, hp2, hx15, hx2, hx16, hx7, l64, hps⟩ := HJ.out
          have c16 := e2.wcell (j := p16) (by omega)
          have c7 := e2.wcell (j := p7) (by omega)
          have ct := e2.wcell (j := t) (by omega)
          have fz := e2.frozen t
          rw [hx16] at c16
          rw [hx7] at c7
          generalize (wpart L t).getD t 0 = old at ct
          have st := e2.wset t (addU (addU (addU x16 (ss0 x15)) x7) (ss1 x2))
          rw [hps] at st
          have xa := u_add
          have xx := u_xor
          have x3 : (x15.toNat : Int) / 8 = ((shrU x15 3).toNat : Int) := u_shr x15 3
          have x10 : (x2.toNat : Int) / 1024 = ((shrU x2 10).toNat : Int) := u_shr x2 10
          have ess0 : xorU (xorU (rotr x15 7) (rotr x15 18)) (shrU x15 3) = ss0 x15 := rfl
          have ess1 : xorU (xorU (rotr x2 17) (rotr x2 19)) (shrU x2 10) = ss1 x2 := rfl
          have s0 := e0.stay (S := fun j => j = X + 1 + 1) ((Kept.refl (fun j => j = X + 1 + 1) W3.drew).setCell (p := ⟨X + 1 + 1, t, none⟩) (fun _ => rfl) (.int .u32 ((addU (addU (addU x16 (ss0 x15)) x7) (ss1 x2)).toNat : Int))) (by omega)
          have s1 := e1.stay (S := fun j => j = X + 1 + 1) ((Kept.refl (fun j => j = X + 1 + 1) W3.drew).setCell (p := ⟨X + 1 + 1, t, none⟩) (fun _ => rfl) (.int .u32 ((addU (addU (addU x16 (ss0 x15)) x7) (ss1 x2)).toNat : Int))) (by omega)
          have k3 : Kept (fun _ => False) w (W3.drew.setCell ⟨X + 1 + 1, t, none⟩ (.int .u32 ((addU (addU (addU x16 (ss0 x15)) x7) (ss1 x2)).toNat : Int))) := k2.setCell (p := ⟨X + 1 + 1, t, none⟩) (fun h => by have h : X + 1 + 1 < w.heap.size := h; omega) _
          clear d0 d1 d2 k1 kd e0 e1 e2 k2 hp16 hp15 hp7 hp2 hx15 hx2 hx16 hx7 l64 hps HJ
          go_wp2_with fail
          refine wp_region_still_tail 29 (by kernel_rfl) (by kernel_rfl) ?_
          simp only [List.take_succ_cons, List.take_zero, List.drop_succ_cons, List.drop_zero]
          change wpStill _ _ W3.drew (fun a' => wpList _ _ _ _ a' W3.drew) _ _
          generalize W3.drew = W1 at *
          iterate 6 still_step
          still_call (right7 _ W1)
          still_step
          still_call (right18 _ W1)
          iterate 11 still_step
          still_call (right17 _ W1)
          still_step
          still_call (right19 _ W1)
          iterate 6 still_step
          refine wpStill_nil ?_
          go_wp2_with fail
          go_roundw
          case rel => exact ⟨t + 1, by omega, by omega, by go_num, s0, s1, st, k3⟩
          case measure => simp [intOf]; omega
        · obtain rfl : t = 64 := by omega
          have c0 := a0.wcell (j := 0) (by rw [s8_len]; decide)
          have c1 := a0.wcell (j := 1) (by rw [s8_len]; decide)
          have c2 := a0.wcell (j := 2) (by rw [s8_len]; decide)
          have c3 := a0.wcell (j := 3) (by rw [s8_len]; decide)
          have c4 := a0.wcell (j := 4) (by rw [s8_len]; decide)
          have c5 := a0.wcell (j := 5) (by rw [s8_len]; decide)
          have c6 := a0.wcell (j := 6) (by rw [s8_len]; decide)
          have c7 := a0.wcell (j := 7) (by rw [s8_len]; decide)
          rw [show s.row.getD 0 0 = s.a from rfl] at c0
          rw [show s.row.getD 1 0 = s.b from rfl] at c1
          rw [show s.row.getD 2 0 = s.c from rfl] at c2
          rw [show s.row.getD 3 0 = s.d from rfl] at c3
          rw [show s.row.getD 4 0 = s.e from rfl] at c4
          rw [show s.row.getD 5 0 = s.f from rfl] at c5
          rw [show s.row.getD 6 0 = s.g from rfl] at c6
          rw [show s.row.getD 7 0 = s.h from rfl] at c7
          rw [show ((64 : Nat) : Int) = 64 from rfl]
          go_wp2_with fail
          go_quiet (fail)
          have kd : Kept (fun _ => False) wr (wr.drewN nq) := (Kept.refl _ wr).drewN nq
          have d0 := a0.stay kd not_false
          have d1 := a1.stay kd not_false
          have d2 := a2.stay kd not_false
          have k1 := kr.trans kd
          clear a0 a1 a2 kr kd c0 c1 c2 c3 c4 c5 c6 c7
          generalize wr.drewN nq = W3 at d0 d1 d2 k1 ⊢
          go_wp2_with fail
          go_loopw [10, 11, 12, 13, 14, 15, 16, 17, 119] (fun va vb vc vd ve vf vg vh x wr => ∃ (t : Nat) (r : S8), t ≤ 64 ∧ x = .int .i64 t ∧ va = .int .u32 (r.a.toNat : Int) ∧ vb = .int .u32 (r.b.toNat : Int) ∧ vc = .int .u32 (r.c.toNat : Int) ∧ vd = .int .u32 (r.d.toNat : Int) ∧ ve = .int .u32 (r.e.toNat : Int) ∧ vf = .int .u32 (r.f.toNat : Int) ∧ vg = .int .u32 (r.g.toNat : Int) ∧ vh = .int .u32 (r.h.toNat : Int) ∧ Hid (r = rounds (sched L 64) s t) ∧ Arr wr X 64 .u32 (wv s.row) ∧ Arr wr (X + 1) 64 .u32 z8 ∧ Arr wr (X + 1 + 1) 65 .u32 (wv (wpart L 64)) ∧ Kept (fun _ => False) w wr) (fun _ _ _ _ _ _ _ _ x _ => 64 - (intOf x).toNat)
          case atStart => exact ⟨0, s, by omega, rfl, rfl, rfl, rfl, rfl, rfl, rfl, rfl, rfl, rfl, d0, d1, d2, k1⟩
          case round =>
            clear d0 d1 d2 k1
            obtain ⟨t, r, ht, rfl, rfl, rfl, rfl, rfl, rfl, rfl, rfl, rfl, HR, a0, a1, a2, kr⟩ := hrel
            by_cases hlt : t < 64
            · have hlti : (t : Int) < 64 := by omega
              have kd : Kept (fun _ => False) wr wr.drew := (Kept.refl _ wr).drew
              have d0 := a0.stay kd not_false
              have d1 := a1.stay kd not_false
              have d2 := a2.stay kd not_false
              have k1 := kr.trans kd
              have ck := (hT.stay k1 not_false).cell (j := t) (by rw [kW_len]; exact hlt)
              have cw := d2.wcell (j := t) (by rw [wpart_len _ _ (by omega)]; exact hlt)
              rw [← KU_at t hlt] at ck
              rw [wpart_at L hlt] at cw
              have hst : stepF r (KU.getD t 0) ((sched L 64).getD t 0) = rounds (sched L 64) s (t + 1) := by rw [HR.out]; rfl
              generalize KU.getD t 0 = kt at ck hst
              generalize (sched L 64).getD t 0 = wt at cw hst
              obtain ⟨ra, rb, rc, rd, re, rf, rg, rh⟩ := r
              have HS := Lib.hid hst
              have xa := u_add
              have xx := u_xor
              have xn := u_and
              clear hst a0 a1 a2 kr kd
              go_wp2_with fail
              generalize hW1 : wr.drew = W1 at *
              refine still_all hW1 (by kernel_rfl) (by kernel_rfl) ?_
              clear hW1
              iterate 2 still_step
              still_call (right6 _ W1)
              still_step
              still_call (right11 _ W1)
              iterate 2 still_step
              still_call (right25 _ W1)
              have xm := u_notw
              repeat still_step
              refine wpStill_nil ?_
              go_wp2_with fail
              refine (right2 _ W1).mono ?_
              rintro e W ⟨rfl, rfl⟩
              go_wp2_with fail
              refine (right13 _ W).mono ?_
              rintro e W' ⟨rfl, rfl⟩
              go_wp2_with fail
              refine (right22 _ W').mono ?_
              rintro e W ⟨rfl, rfl⟩
              go_wp2_with fail
              go_roundw
              case rel => exact ⟨t + 1, _, by omega, by go_num, rfl, rfl, rfl, rfl, rfl, rfl, rfl, rfl, HS.out, d0, d1, d2, k1⟩
              case measure => simp [intOf]; omega
            · obtain rfl : t = 64 := by omega
              rw [show ((64 : Nat) : Int) = 64 from rfl]
              go_wp2_with fail
              have HB : Hid (s.add r = blockF s L) := by unfold Hid blockF; rw [HR.out]
              have xa := u_add'
              clear HR a2
              go_loopw [191] (fun x wr => ∃ i : Nat, i ≤ 8 ∧ x = .int .i64 i ∧ Arr wr X 64 .u32 (wv (mixL s r i)) ∧ Arr wr (X + 1) 64 .u32 z8 ∧ Kept (fun _ => False) w wr) (fun x _ => 8 - (intOf x).toNat)
              case atStart => exact ⟨0, by omega, rfl, a0, a1, kr⟩
              case round =>
                clear a0 a1 kr
                obtain ⟨i, hi, rfl, a0, a1, kr⟩ := hrel
                have hi9 : i = 0 ∨ i = 1 ∨ i = 2 ∨ i = 3 ∨ i = 4 ∨ i = 5 ∨ i = 6 ∨ i = 7 ∨ i = 8 := by omega
                rcases hi9 with rfl | rfl | rfl | rfl | rfl | rfl | rfl | rfl | rfl
                · have cs := a0.wcell (j := 0) (by rw [mixL_len _ _ _ (by decide)]; decide)
                  rw [show (mixL s r 0).getD 0 0 = s.a from rfl] at cs
                  have fz := a0.frozen 0
                  have st := a0.wset 0 (addU s.a r.a)
                  rw [show (mixL s r 0).set 0 (addU s.a r.a) = mixL s r (0 + 1) from rfl] at st
                  have s1 := a1.stay (S := fun j => j = X) ((Kept.refl (fun j => j = X) wr).setCell (p := ⟨X, 0, none⟩) (fun _ => rfl) (.int .u32 ((addU s.a r.a).toNat : Int))) (by omega)
                  have k3 : Kept (fun _ => False) w (wr.setCell ⟨X, 0, none⟩ (.int .u32 ((addU s.a r.a).toNat : Int))) := kr.setCell (p := ⟨X, 0, none⟩) (fun h => by have h : X < w.heap.size := h; omega) _
                  clear a0 a1 kr
                  rw [show ((0 : Nat) : Int) = 0 from rfl]
                  have ix : (Instr.index 64 (.agg #[.int .u32 (r.a.toNat : Int), .int .u32 (r.b.toNat : Int), .int .u32 (r.c.toNat : Int), .int .u32 (r.d.toNat : Int), .int .u32 (r.e.toNat : Int), .int .u32 (r.f.toNat : Int), .int .u32 (r.g.toNat : Int), .int .u32 (r.h.toNat : Int)]) (.int .i64 0)).run Tryd.prog wr = .ok (.int .u32 (r.a.toNat : Int)) wr := by kernel_rfl
                  go_wp2_with (first
                    | (refine wpl_val rfl (exec_indexA 64 _ _ rfl rfl rfl ix) ?_))
                  go_roundw
                  case rel => exact ⟨0 + 1, by omega, by go_num, st, s1, k3⟩
                  case measure => simp [intOf]
                · have cs := a0.wcell (j := 1) (by rw [mixL_len _ _ _ (by decide)]; decide)
                  rw [show (mixL s r 1).getD 1 0 = s.b from rfl] at cs
                  have fz := a0.frozen 1
                  have st := a0.wset 1 (addU s.b r.b)
                  rw [show (mixL s r 1).set 1 (addU s.b r.b) = mixL s r (1 + 1) from rfl] at st
                  have s1 := a1.stay (S := fun j => j = X) ((Kept.refl (fun j => j = X) wr).setCell (p := ⟨X, 1, none⟩) (fun _ => rfl) (.int .u32 ((addU s.b r.b).toNat : Int))) (by omega)
                  have k3 : Kept (fun _ => False) w (wr.setCell ⟨X, 1, none⟩ (.int .u32 ((addU s.b r.b).toNat : Int))) := kr.setCell (p := ⟨X, 1, none⟩) (fun h => by have h : X < w.heap.size := h; omega) _
                  clear a0 a1 kr
                  rw [show ((1 : Nat) : Int) = 1 from rfl]
                  have ix : (Instr.index 64 (.agg #[.int .u32 (r.a.toNat : Int), .int .u32 (r.b.toNat : Int), .int .u32 (r.c.toNat : Int), .int .u32 (r.d.toNat : Int), .int .u32 (r.e.toNat : Int), .int .u32 (r.f.toNat : Int), .int .u32 (r.g.toNat : Int), .int .u32 (r.h.toNat : Int)]) (.int .i64 1)).run Tryd.prog wr = .ok (.int .u32 (r.b.toNat : Int)) wr := by kernel_rfl
                  go_wp2_with (first
                    | (refine wpl_val rfl (exec_indexA 64 _ _ rfl rfl rfl ix) ?_))
                  go_roundw
                  case rel => exact ⟨1 + 1, by omega, by go_num, st, s1, k3⟩
                  case measure => simp [intOf]
                · have cs := a0.wcell (j := 2) (by rw [mixL_len _ _ _ (by decide)]; decide)
                  rw [show (mixL s r 2).getD 2 0 = s.c from rfl] at cs
                  have fz := a0.frozen 2
                  have st := a0.wset 2 (addU s.c r.c)
                  rw [show (mixL s r 2).set 2 (addU s.c r.c) = mixL s r (2 + 1) from rfl] at st
                  have s1 := a1.stay (S := fun j => j = X) ((Kept.refl (fun j => j = X) wr).setCell (p := ⟨X, 2, none⟩) (fun _ => rfl) (.int .u32 ((addU s.c r.c).toNat : Int))) (by omega)
                  have k3 : Kept (fun _ => False) w (wr.setCell ⟨X, 2, none⟩ (.int .u32 ((addU s.c r.c).toNat : Int))) := kr.setCell (p := ⟨X, 2, none⟩) (fun h => by have h : X < w.heap.size := h; omega) _
                  clear a0 a1 kr
                  rw [show ((2 : Nat) : Int) = 2 from rfl]
                  have ix : (Instr.index 64 (.agg #[.int .u32 (r.a.toNat : Int), .int .u32 (r.b.toNat : Int), .int .u32 (r.c.toNat : Int), .int .u32 (r.d.toNat : Int), .int .u32 (r.e.toNat : Int), .int .u32 (r.f.toNat : Int), .int .u32 (r.g.toNat : Int), .int .u32 (r.h.toNat : Int)]) (.int .i64 2)).run Tryd.prog wr = .ok (.int .u32 (r.c.toNat : Int)) wr := by kernel_rfl
                  go_wp2_with (first
                    | (refine wpl_val rfl (exec_indexA 64 _ _ rfl rfl rfl ix) ?_))
                  go_roundw
                  case rel => exact ⟨2 + 1, by omega, by go_num, st, s1, k3⟩
                  case measure => simp [intOf]
                · have cs := a0.wcell (j := 3) (by rw [mixL_len _ _ _ (by decide)]; decide)
                  rw [show (mixL s r 3).getD 3 0 = s.d from rfl] at cs
                  have fz := a0.frozen 3
                  have st := a0.wset 3 (addU s.d r.d)
                  rw [show (mixL s r 3).set 3 (addU s.d r.d) = mixL s r (3 + 1) from rfl] at st
                  have s1 := a1.stay (S := fun j => j = X) ((Kept.refl (fun j => j = X) wr).setCell (p := ⟨X, 3, none⟩) (fun _ => rfl) (.int .u32 ((addU s.d r.d).toNat : Int))) (by omega)
                  have k3 : Kept (fun _ => False) w (wr.setCell ⟨X, 3, none⟩ (.int .u32 ((addU s.d r.d).toNat : Int))) := kr.setCell (p := ⟨X, 3, none⟩) (fun h => by have h : X < w.heap.size := h; omega) _
                  clear a0 a1 kr
                  rw [show ((3 : Nat) : Int) = 3 from rfl]
                  have ix : (Instr.index 64 (.agg #[.int .u32 (r.a.toNat : Int), .int .u32 (r.b.toNat : Int), .int .u32 (r.c.toNat : Int), .int .u32 (r.d.toNat : Int), .int .u32 (r.e.toNat : Int), .int .u32 (r.f.toNat : Int), .int .u32 (r.g.toNat : Int), .int .u32 (r.h.toNat : Int)]) (.int .i64 3)).run Tryd.prog wr = .ok (.int .u32 (r.d.toNat : Int)) wr := by kernel_rfl
                  go_wp2_with (first
                    | (refine wpl_val rfl (exec_indexA 64 _ _ rfl rfl rfl ix) ?_))
                  go_roundw
                  case rel => exact ⟨3 + 1, by omega, by go_num, st, s1, k3⟩
                  case measure => simp [intOf]
                · have cs := a0.wcell (j := 4) (by rw [mixL_len _ _ _ (by decide)]; decide)
                  rw [show (mixL s r 4).getD 4 0 = s.e from rfl] at cs
                  have fz := a0.frozen 4
                  have st := a0.wset 4 (addU s.e r.e)
                  rw [show (mixL s r 4).set 4 (addU s.e r.e) = mixL s r (4 + 1) from rfl] at st
                  have s1 := a1.stay (S := fun j => j = X) ((Kept.refl (fun j => j = X) wr).setCell (p := ⟨X, 4, none⟩) (fun _ => rfl) (.int .u32 ((addU s.e r.e).toNat : Int))) (by omega)
                  have k3 : Kept (fun _ => False) w (wr.setCell ⟨X, 4, none⟩ (.int .u32 ((addU s.e r.e).toNat : Int))) := kr.setCell (p := ⟨X, 4, none⟩) (fun h => by have h : X < w.heap.size := h; omega) _
                  clear a0 a1 kr
                  rw [show ((4 : Nat) : Int) = 4 from rfl]
                  have ix : (Instr.index 64 (.agg #[.int .u32 (r.a.toNat : Int), .int .u32 (r.b.toNat : Int), .int .u32 (r.c.toNat : Int), .int .u32 (r.d.toNat : Int), .int .u32 (r.e.toNat : Int), .int .u32 (r.f.toNat : Int), .int .u32 (r.g.toNat : Int), .int .u32 (r.h.toNat : Int)]) (.int .i64 4)).run Tryd.prog wr = .ok (.int .u32 (r.e.toNat : Int)) wr := by kernel_rfl
                  go_wp2_with (first
                    | (refine wpl_val rfl (exec_indexA 64 _ _ rfl rfl rfl ix) ?_))
                  go_roundw
                  case rel => exact ⟨4 + 1, by omega, by go_num, st, s1, k3⟩
                  case measure => simp [intOf]
                · have cs := a0.wcell (j := 5) (by rw [mixL_len _ _ _ (by decide)]; decide)
                  rw [show (mixL s r 5).getD 5 0 = s.f from rfl] at cs
                  have fz := a0.frozen 5
                  have st := a0.wset 5 (addU s.f r.f)
                  rw [show (mixL s r 5).set 5 (addU s.f r.f) = mixL s r (5 + 1) from rfl] at st
                  have s1 := a1.stay (S := fun j => j = X) ((Kept.refl (fun j => j = X) wr).setCell (p := ⟨X, 5, none⟩) (fun _ => rfl) (.int .u32 ((addU s.f r.f).toNat : Int))) (by omega)
                  have k3 : Kept (fun _ => False) w (wr.setCell ⟨X, 5, none⟩ (.int .u32 ((addU s.f r.f).toNat : Int))) := kr.setCell (p := ⟨X, 5, none⟩) (fun h => by have h : X < w.heap.size := h; omega) _
                  clear a0 a1 kr
                  rw [show ((5 : Nat) : Int) = 5 from rfl]
                  have ix : (Instr.index 64 (.agg #[.int .u32 (r.a.toNat : Int), .int .u32 (r.b.toNat : Int), .int .u32 (r.c.toNat : Int), .int .u32 (r.d.toNat : Int), .int .u32 (r.e.toNat : Int), .int .u32 (r.f.toNat : Int), .int .u32 (r.g.toNat : Int), .int .u32 (r.h.toNat : Int)]) (.int .i64 5)).run Tryd.prog wr = .ok (.int .u32 (r.f.toNat : Int)) wr := by kernel_rfl
                  go_wp2_with (first
                    | (refine wpl_val rfl (exec_indexA 64 _ _ rfl rfl rfl ix) ?_))
                  go_roundw
                  case rel => exact ⟨5 + 1, by omega, by go_num, st, s1, k3⟩
                  case measure => simp [intOf]
                · have cs := a0.wcell (j := 6) (by rw [mixL_len _ _ _ (by decide)]; decide)
                  rw [show (mixL s r 6).getD 6 0 = s.g from rfl] at cs
                  have fz := a0.frozen 6
                  have st := a0.wset 6 (addU s.g r.g)
                  rw [show (mixL s r 6).set 6 (addU s.g r.g) = mixL s r (6 + 1) from rfl] at st
                  have s1 := a1.stay (S := fun j => j = X) ((Kept.refl (fun j => j = X) wr).setCell (p := ⟨X, 6, none⟩) (fun _ => rfl) (.int .u32 ((addU s.g r.g).toNat : Int))) (by omega)
                  have k3 : Kept (fun _ => False) w (wr.setCell ⟨X, 6, none⟩ (.int .u32 ((addU s.g r.g).toNat : Int))) := kr.setCell (p := ⟨X, 6, none⟩) (fun h => by have h : X < w.heap.size := h; omega) _
                  clear a0 a1 kr
                  rw [show ((6 : Nat) : Int) = 6 from rfl]
                  have ix : (Instr.index 64 (.agg #[.int .u32 (r.a.toNat : Int), .int .u32 (r.b.toNat : Int), .int .u32 (r.c.toNat : Int), .int .u32 (r.d.toNat : Int), .int .u32 (r.e.toNat : Int), .int .u32 (r.f.toNat : Int), .int .u32 (r.g.toNat : Int), .int .u32 (r.h.toNat : Int)]) (.int .i64 6)).run Tryd.prog wr = .ok (.int .u32 (r.g.toNat : Int)) wr := by kernel_rfl
                  go_wp2_with (first
                    | (refine wpl_val rfl (exec_indexA 64 _ _ rfl rfl rfl ix) ?_))
                  go_roundw
                  case rel => exact ⟨6 + 1, by omega, by go_num, st, s1, k3⟩
                  case measure => simp [intOf]
                · have cs := a0.wcell (j := 7) (by rw [mixL_len _ _ _ (by decide)]; decide)
                  rw [show (mixL s r 7).getD 7 0 = s.h from rfl] at cs
                  have fz := a0.frozen 7
                  have st := a0.wset 7 (addU s.h r.h)
                  rw [show (mixL s r 7).set 7 (addU s.h r.h) = mixL s r (7 + 1) from rfl] at st
                  have s1 := a1.stay (S := fun j => j = X) ((Kept.refl (fun j => j = X) wr).setCell (p := ⟨X, 7, none⟩) (fun _ => rfl) (.int .u32 ((addU s.h r.h).toNat : Int))) (by omega)
                  have k3 : Kept (fun _ => False) w (wr.setCell ⟨X, 7, none⟩ (.int .u32 ((addU s.h r.h).toNat : Int))) := kr.setCell (p := ⟨X, 7, none⟩) (fun h => by have h : X < w.heap.size := h; omega) _
                  clear a0 a1 kr
                  rw [show ((7 : Nat) : Int) = 7 from rfl]
                  have ix : (Instr.index 64 (.agg #[.int .u32 (r.a.toNat : Int), .int .u32 (r.b.toNat : Int), .int .u32 (r.c.toNat : Int), .int .u32 (r.d.toNat : Int), .int .u32 (r.e.toNat : Int), .int .u32 (r.f.toNat : Int), .int .u32 (r.g.toNat : Int), .int .u32 (r.h.toNat : Int)]) (.int .i64 7)).run Tryd.prog wr = .ok (.int .u32 (r.h.toNat : Int)) wr := by kernel_rfl
                  go_wp2_with (first
                    | (refine wpl_val rfl (exec_indexA 64 _ _ rfl rfl rfl ix) ?_))
                  go_roundw
                  case rel => exact ⟨7 + 1, by omega, by go_num, st, s1, k3⟩
                  case measure => simp [intOf]
                · rw [show mixL s r 8 = (blockF s L).row by rw [← HB.out]; rfl] at a0
                  have l1 := ldW8 a0 (by rw [wv_len, s8_len])
                  have s1 := stW8 a1 (m := wv (blockF s L).row) rfl (by rw [wv_len, s8_len])
                  have p1 := a1.put (wv (blockF s L).row)
                  have kp : Kept (fun _ => False) w (wr.setRow (X + 1) (kv .u32 (wv (blockF s L).row)).toArray) := kr.setRow (fun h => absurd h (by omega)) _
                  rw [show ((8 : Nat) : Int) = 8 from rfl]
                  clear HB
                  go_wp2_with (first
                    | (with_reducible refine wpl_load 64 _ rfl rfl ?_ l1 ?_
                       · rfl
                       simp only [Act.put, List.getElem_toArray, List.getElem_cons_zero, List.getElem_cons_succ, List.setIfInBounds_toArray, List.set_cons_zero, List.set_cons_succ])
                    | (with_reducible refine wpl_store 64 _ _ rfl rfl ?_ ?_ s1 ?_
                       · rfl
                       · rfl
                       simp only [Act.put, List.getElem_toArray, List.getElem_cons_zero, List.getElem_cons_succ, List.setIfInBounds_toArray, List.set_cons_zero, List.set_cons_succ]))
                  refine bodyPost_ret (results_cell_row rfl _ _ _ _ _ _ _ rfl p1 Tryd.underlying64 rfl (by rw [List.size_toArray, kv_len, wv_len, s8_len]; kernel_rfl)) rfl ?_
                  exact ⟨rfl, kp⟩
