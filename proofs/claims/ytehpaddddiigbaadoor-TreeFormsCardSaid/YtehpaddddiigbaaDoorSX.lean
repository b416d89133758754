/- The document's Rows, Root. -/
import Derived.Test.YtehpaddddiigbaaDoorSV
namespace Go.Proofs.YtehpaddddiigbaaDoor
open Go.RowKit
set_option maxRecDepth 100000
set_option linter.unusedSimpArgs false
set_option linter.unusedVariables false

theorem row_keepS {S : Nat → Prop} {w w' : World} {base : Nat} {t : TypeId} {z : Nat} {v : Value} {n : Nat} {xs : List Value} (h : w.ownsRow base t z v n xs) (hk : Kept S w w') (hS : ∀ k, v.ownBlock = some k → ¬ S k) : w'.ownsRow base t z v n xs := by
  refine ⟨h.1, ?_⟩
  rcases h.2 with h0 | ⟨g, cap, cur, rfl, hb, hg, hr⟩
  · exact .inl h0
  · exact .inr ⟨g, cap, cur, rfl, hb, by rw [hk.block g (Array.getElem?_eq_some_iff.1 hg).1 (hS g rfl)]; exact hg, hr⟩
theorem bslice_row (a : Option Addr) (n c : Nat) (w : World) : (Instr.buildSlice 70 1 #[(0, .slice a n c)]).run Tryd.prog w = .ok (.slice (some ⟨w.heap.size, 0, none⟩) 1 1) (w.alloc (.cells #[.slice a n c] 59)) := by kernel_rfl
/-- One row more in a row of rows of the call's own. -/
theorem push_row {w w0 : World} {base n : Nat} {v : Value} {xs : List Value} (h : w.ownsRow base 59 1 v n xs) (a : Option Addr) (m c : Nat) (hn : n ≤ 100000) (hk : Kept (fun _ => False) w0 w) (hb : w0.heap.size ≤ base) (hb2 : base ≤ w.heap.size) (ty : TypeId) :
    ∃ a' c' w', (Builtin.append_ #[70, 70] ty #[v, .slice (some ⟨w.heap.size, 0, none⟩) 1 1]).run Tryd.prog (w.alloc (.cells #[.slice a m c] 59)) = .ok (.slice a' (n + 1) c') w' ∧
      w'.ownsRow base 59 1 (.slice a' (n + 1) c') (n + 1) (xs ++ [.slice a m c]) ∧ Kept (fun _ => False) w0 w' ∧ base ≤ w'.heap.size ∧ (w.alloc (.cells #[.slice a m c] 59)).grownBy w' v.ownBlock := by
  have k1 : Kept (fun _ => False) w (w.alloc (.cells #[.slice a m c] 59)) := (Kept.refl _ w).alloc _
  have ho := row_keep h k1
  have hg := heap_last w (.cells #[.slice a m c] 59)
  obtain ⟨i, hi⟩ : ∃ i, Tryd.prog.info? 59 = some i := ⟨_, rfl⟩
  obtain ⟨z, hz⟩ : ∃ z, i.zero = some z := by injection hi with hi; subst hi; exact ⟨_, rfl⟩
  have hs : i.size = 1 := by injection hi with hi; subst hi; rfl
  have hzs : z.cells.size = 1 := by injection hi with hi; subst hi; injection hz with hz; subst hz; rfl
  have hby : i.bytes ≤ 24 := by injection hi with hi; subst hi; decide
  obtain ⟨v', w', a1, a2, a3, _⟩ := run_append_own (P := Tryd.prog) _ base 70 ty 59 i z 1 i.bytes Tryd.underlying70 hi hz hs rfl hzs (by omega) v n xs ho ⟨w.heap.size, 0, none⟩ 1 1 [.slice a m c] (by simp)
    (fun j u hu => by
      rw [Addr.add_mid, Nat.zero_add, cell_of_row _ _ _ _ _ _ hg]
      simpa using hu) (fun u hu => by simp at hu; subst hu; rfl) (by simp only [maxLen]; omega)
    (by have : (n + 1) * i.bytes ≤ 100001 * 24 := Nat.mul_le_mul (by omega) hby; omega) (Nat.le_trans hb2 k1.size)
  obtain ⟨a', c', rfl⟩ := row_form a2
  exact ⟨a', c', w', a1, a2, grown_kept (hk.trans k1) a3 (fun k e => Nat.le_trans hb (World.ownsRow.lt ho k e).1), Nat.le_trans (Nat.le_trans hb2 k1.size) a3.size, a3⟩
def rowsOne (w : World) (v : Value) (w' : World) (t : List UInt8) : Prop := ∃ g c n a2 c2 base, v = .slice (some ⟨g, 0, none⟩) n c ∧ 0 < n ∧ n ≤ 100000 ∧ w'.cell? ⟨g, n - 1, none⟩ = some (.slice a2 1 c2) ∧ w'.ownsRow base 27 32 (.slice a2 1 c2) 1 (dcs [t]) ∧ Kept (fun _ => False) w w'
set_option maxHeartbeats 1000000 in
theorem hrows_ct {w : World} {B : Nat} {v : Value} {b : List UInt8} (hH : HashAt w B) (h : ByC w v b) (hl : b.length ≤ 100000) :
    Calls Tryd.prog 39 #[.pointer (some ⟨B, 0, none⟩), v] w fun e w' => ∃ v', e = .returned v' ∧ rowsOne w v' w' (topOf (leavesL b)) := by
  obtain ⟨va, vc, rfl, _⟩ := h.2
  have hm2 : cnt b.length ≤ 10000 ∧ 0 < cnt b.length := by unfold cnt; omega
  have hc64 : ∀ i, i < cnt b.length → 64 * i ≤ b.length := fun i hi => by unfold cnt at hi; omega
  have HC64 := Lib.hid hc64
  have rcc := fun w' => rcount_ct b.length (by omega) w'
  obtain ⟨m, hm⟩ : ∃ m, cnt b.length = m := ⟨_, rfl⟩
  have HM := Lib.hid hm
  have hlm : leavesL b = (List.range m).map fun i => leafL i (chunkL b i) := by unfold leavesL; rw [hm]
  have HL := Lib.hid hlm
  rw [hm] at hm2 rcc
  clear hm hlm hc64
  go_enter Tryd.func39, Tryd.ntmps39
  go_wp2_with fail
  go_loopw [5, 6] (fun s x wr => ∃ k : Nat, k ≤ m ∧ x = .int .i64 k ∧ wr.ownsRow w.heap.size 27 32 s k (dcs ((List.range k).map fun i => leafL i (chunkL b i))) ∧ Kept (fun _ => False) w wr) (fun _ x _ => m - (intOf x).toNat)
  case atStart => exact ⟨0, by omega, rfl, World.ownsRow_nil _ _ _ _, Kept.refl _ _⟩
  case round =>
    obtain ⟨k, hk, rfl, ho, hkr⟩ := hrel
    obtain ⟨a, c, rfl⟩ := row_form ho
    have rc := rcc wr
    by_cases hlt : k < m
    · have hlti : (k : Int) < (m : Int) := by omega
      have chc := rchunk_ct (h.kept hkr) hl (i := k) (HC64.out k (by rw [HM.out]; exact hlt))
      have hr : ((List.range (k + 1)).map fun i => leafL i (chunkL b i)) = ((List.range k).map fun i => leafL i (chunkL b i)) ++ [leafL k (chunkL b k)] := by rw [List.range_succ, List.map_append]; rfl
      have HR := Lib.hid hr
      have hch := chunkL_len b k
      have HCH := Lib.hid hch
      clear hr hch rcc
      go_wp2_with fail
      refine rc.mono ?_
      rintro e W0 ⟨rfl, hW0⟩
      subst hW0
      go_wp2_with fail
      refine chc.mono ?_
      rintro e W1 ⟨x, rfl, hx, k1⟩
      obtain ⟨xa, xc, hxv⟩ := hx.slc
      have lc := rleaf_ct hx (by rw [HCH.out]; omega) (i := k) (by omega)
      subst hxv
      go_wp2_with fail
      refine lc.mono ?_
      rintro e W2 ⟨y, rfl, hy, k2⟩
      obtain ⟨Y, hY⟩ : ∃ Y, 0 :: (be8 k ++ chunkL b k) = Y := ⟨_, rfl⟩
      have hYl : Y.length ≤ 100000 := by rw [← hY]; simp [be8_len]; rw [HCH.out]; omega
      have hsh : shaL Y = leafL k (chunkL b k) := by rw [← hY]; rfl
      rw [hY] at hy
      obtain ⟨ya, yc, hyv⟩ := hy.slc
      have kk2 := (hkr.trans k1).trans k2
      have sc := hsum_ct (hH.kept kk2 not_false) hy hYl
      rw [hsh] at sc
      subst hyv
      clear hY hsh hYl
      go_wp2_with fail
      refine sc.mono ?_
      rintro e W3 ⟨rfl, k3⟩
      have ho2 := row_keep ho ((k1.trans k2).trans k3)
      have bs := bslice_dig (leafL k (chunkL b k)) (leafL_len _ _) W3
      obtain ⟨a3, c3, W4, ap, ho3, k4, hs3⟩ := push_dig ho2 (leafL k (chunkL b k)) (leafL_len _ _) (by omega) (kk2.trans k3) (Nat.le_refl _) (kk2.trans k3).size 59
      rw [← HR.out] at ho3
      have HO := Lib.hid ho3
      clear ho ho2 ho3 hkr k1 k2 k3 kk2 lc chc sc
      go_wp2_with (first
        | (with_reducible refine wpl_bslice 59 _ _ rfl rfl ?_ bs ?_
           · (go_simp <;> rfl)
           simp only [Act.put, List.getElem_toArray, List.getElem_cons_zero, List.getElem_cons_succ, List.setIfInBounds_toArray, List.set_cons_zero, List.set_cons_succ])
        | (refine wpl_val rfl (exec_append 59 _ _ rfl rfl rfl ap) ?_))
      go_roundw
      case rel => exact ⟨k + 1, by omega, by go_num, HO.out, k4⟩
      case measure => simp [intOf]; omega
    · obtain rfl : k = m := by omega
      have hlti : ¬ (k : Int) < (k : Int) := by omega
      rw [← HL.out] at ho
      have h32 := leavesL_32 b
      have hle : (leavesL b).length = k := by rw [leavesL_len, HM.out]
      have ho2 := row_keep ho ((Kept.refl (fun _ => False) wr).alloc (.cells #[.slice a k c] 59))
      have hor : (wr.alloc (.cells #[.slice a k c] 59)).ownsRow w.heap.size 59 1 (.slice (some ⟨wr.heap.size, 0, none⟩) 1 1) 1 [.slice a k c] :=
        ⟨rfl, .inr ⟨wr.heap.size, 1, #[.slice a k c], rfl, hkr.size, heap_last _ _, Nat.le_refl _, by simp [maxLen], rfl, by simp⟩⟩
      have k2 := hkr.alloc (.cells #[.slice a k c] 59)
      have bsr := bslice_row a k c wr
      generalize hL0 : leavesL b = L0 at *
      have HLB := Lib.hid hL0
      clear hL0
      have HL0 := Lib.hid (And.intro h32 hle)
      clear h32 hle HL ho hkr rcc
      go_wp2_with fail
      refine rc.mono ?_
      rintro e W0 ⟨rfl, hW0⟩
      subst hW0
      go_wp2_with (first
        | (with_reducible refine wpl_bslice 70 _ _ rfl rfl ?_ bsr ?_
           · (go_simp <;> rfl)
           simp only [Act.put, List.getElem_toArray, List.getElem_cons_zero, List.getElem_cons_succ, List.setIfInBounds_toArray, List.set_cons_zero, List.set_cons_succ]))
      clear bsr rc
      go_loopw [5, 7] (fun s q wr => ∃ (l : List (List UInt8)) (n nr base : Nat) (xs : List Value), 0 < n ∧ 0 < nr ∧ nr + n ≤ 10001 ∧ Hid ((∀ d ∈ l, d.length = 32) ∧ topOf l = topOf L0 ∧ l.length = n) ∧ wr.ownsRow base 27 32 s n (dcs l) ∧ wr.ownsRow w.heap.size 59 1 q nr xs ∧ Hid (xs[nr - 1]? = some s) ∧ Kept (fun _ => False) w wr) (fun s _ _ => match s with | .slice _ n _ => n | _ => 0)
      case atStart => exact ⟨L0, k, 1, _, _, hm2.2, by omega, by omega, ⟨HL0.out.1, rfl, HL0.out.2⟩, ho2, hor, rfl, k2⟩
      case round =>
        clear ho2 hor k2 hm2
        obtain ⟨l, n, nr, base, xs, hn0, hr0, hnr, HLL, ho, hor, HX, kr⟩ := hrel
        obtain ⟨a5, c5, rfl⟩ := row_form ho
        obtain ⟨a7, c7, rfl⟩ := row_form hor
        by_cases hlt1 : 1 < n
        · have hlt1i : (1 : Int) < (n : Int) := by omega
          obtain ⟨g, c9, e9, hln, hbg, hgl, hld⟩ := dig_load ho HLL.out.1 hn0
          injection e9 with e91 _ e93
          subst e91 e93
          have HLD := Lib.hid hld
          have h32 := HLL.out.1
          have hlen := upL_len l
          rw [hln] at hlen
          have HLN := Lib.hid (And.intro hln hlen)
          obtain ⟨wo, hwo⟩ : ∃ wo : World, wo = wr := ⟨_, rfl⟩
          have hrowO := hor
          rw [← hwo] at hrowO kr HLD
          have H32 := Lib.hid h32
          clear hln hlen hld ho hor h32 hgl hbg
          go_wp2_with fail
          go_loopw [8, 9] (fun s x wz => ∃ (k : Nat), 2 * k ≤ n + 1 ∧ x = .int .i64 (2 * (k : Int)) ∧ wz.ownsRow wo.heap.size 27 32 s k (dcs ((upL l).take k)) ∧ Kept (fun _ => False) wo wz) (fun _ x _ => n + 1 - (intOf x).toNat)
          case atStart => exact ⟨0, by omega, rfl, World.ownsRow_nil _ _ _ _, by rw [hwo]; exact Kept.refl _ _⟩
          case round =>
            clear hwo
            obtain ⟨k, hk, rfl, ho, hkz⟩ := hrel
            obtain ⟨a8, c8, rfl⟩ := row_form ho
            obtain ⟨p0, hp0⟩ : ∃ p, p = 2 * k := ⟨_, rfl⟩
            obtain ⟨p1, hp1⟩ : ∃ p, p = p0 + 1 := ⟨_, rfl⟩
            have e0 : 2 * (k : Int) = (p0 : Int) := by omega
            rw [e0]
            obtain ⟨hln, hlen⟩ := HLN.out
            by_cases hlt2 : p0 < n
            · have hlt2i : (p0 : Int) < (n : Int) := by omega
              have w1 : IntKind.i64.wrap (p1 : Int) = (p1 : Int) := IntWalk.i64_in _ (by omega)
              have w1' : (p0 : Int) + 1 = (p1 : Int) := by omega
              have hkl : k < (upL l).length := by omega
              by_cases hlt3 : p1 < n
              · have hlt3i : (p1 : Int) < (n : Int) := by omega
                have ld0 := fun w' (hk : Kept (fun _ => False) wo w') => HLD.out w' hk p0 (by omega)
                have ld1 := fun w' (hk : Kept (fun _ => False) wo w') => HLD.out w' hk p1 (by omega)
                have hat := upL_at (l := l) (i := k) (by omega)
                rw [← hp0, ← hp1] at hat
                have ht : (upL l).take (k + 1) = (upL l).take k ++ [pairL (l.getD p0 []) (l.getD p1 [])] := by
                  rw [List.take_succ_eq_append_getElem hkl]
                  rw [List.getElem?_eq_getElem hkl] at hat
                  injection hat with hat
                  rw [hat]
                have m0 : (l.getD p0 []).length = 32 := by
                  have hp : p0 < l.length := by omega
                  rw [List.getD_eq_getElem?_getD, List.getElem?_eq_getElem hp]; exact H32.out _ (List.getElem_mem hp)
                have m1 : (l.getD p1 []).length = 32 := by
                  have hp : p1 < l.length := by omega
                  rw [List.getD_eq_getElem?_getD, List.getElem?_eq_getElem hp]; exact H32.out _ (List.getElem_mem hp)
                generalize l.getD p0 [] = d0 at ld0 ht m0
                generalize l.getD p1 [] = d1 at ld1 ht m1
                have HT := Lib.hid ht
                have ho1 := row_keep ho ((Kept.refl (fun _ => False) wr).drew)
                have HE : Hid (p0 + 2 = 2 * (k + 1)) := by unfold Hid; omega
                have HMS : Hid (n + 1 - (p0 + 2) < n + 1 - p0) := by unfold Hid; omega
                have HKN : Hid (2 * (k + 1) ≤ n + 1) := by unfold Hid; omega
                have HPP := Lib.hid (And.intro hp0 hp1)
                clear hp0 hp1 hkl hat hlen ht ho e0 hln
                go_wp2_with fail
                refine wp_region_held_drew (S := (Kept (fun _ => False) wo)) (by kernel_rfl) (hkz.drew) (fun hHeld => ?_)
                refine held_q (v := ?_) (i := 0) rfl (by kernel_rfl) (by kernel_rfl) (by kernel_rfl) (fun _ _ _ h => h) (by rfl) hHeld ?_ ?_
                rotate_left
                · (intro w' hS'; go_simp <;> (with_reducible rfl))
                simp only [Act.put, List.getElem_toArray, List.getElem_cons_zero, List.getElem_cons_succ, List.setIfInBounds_toArray, List.set_cons_zero, List.set_cons_succ]
                refine held_q (v := ?_) (i := 1) rfl (by kernel_rfl) (by kernel_rfl) (by kernel_rfl) (fun _ _ _ h => h) (by rfl) hHeld ?_ ?_
                rotate_left
                · (intro w' hS'; go_simp <;> (with_reducible rfl))
                simp only [Act.put, List.getElem_toArray, List.getElem_cons_zero, List.getElem_cons_succ, List.setIfInBounds_toArray, List.set_cons_zero, List.set_cons_succ]
                refine held_q (v := ?_) (i := 2) rfl (by kernel_rfl) (by kernel_rfl) (by kernel_rfl) (fun _ _ _ h => h) (by rfl) hHeld ?_ ?_
                rotate_left
                · (intro w' hS'; go_simp <;> (with_reducible rfl))
                simp only [Act.put, List.getElem_toArray, List.getElem_cons_zero, List.getElem_cons_succ, List.setIfInBounds_toArray, List.set_cons_zero, List.set_cons_succ]
                refine held_q (v := ?_) (i := 3) rfl (by kernel_rfl) (by kernel_rfl) (by kernel_rfl) (fun _ _ _ h => h) (by rfl) hHeld ?_ ?_
                rotate_left
                · (intro w' hS'; go_simp <;> (with_reducible rfl))
                simp only [Act.put, List.getElem_toArray, List.getElem_cons_zero, List.getElem_cons_succ, List.setIfInBounds_toArray, List.set_cons_zero, List.set_cons_succ]
                refine held_q (v := ?_) (i := 4) rfl (by kernel_rfl) (by kernel_rfl) (by kernel_rfl) (fun _ _ _ h => h) (by rfl) hHeld ?_ ?_
                rotate_left
                · (intro w' hS'; go_simp <;> (with_reducible rfl))
                simp only [Act.put, List.getElem_toArray, List.getElem_cons_zero, List.getElem_cons_succ, List.setIfInBounds_toArray, List.set_cons_zero, List.set_cons_succ]
                refine held_q (i := 5) rfl (by kernel_rfl) (by kernel_rfl) (by kernel_rfl) (fun _ _ _ h => h) (by rfl) hHeld (fun w' hS' => exec_load 27 _ rfl rfl (ld0 w' hS')) ?_
                simp only [Act.put, List.getElem_toArray, List.getElem_cons_zero, List.getElem_cons_succ, List.setIfInBounds_toArray, List.set_cons_zero, List.set_cons_succ]
                refine held_q (v := ?_) (i := 6) rfl (by kernel_rfl) (by kernel_rfl) (by kernel_rfl) (fun _ _ _ h => h) (by rfl) hHeld ?_ ?_
                rotate_left
                · (intro w' hS'; go_simp <;> (with_reducible rfl))
                simp only [Act.put, List.getElem_toArray, List.getElem_cons_zero, List.getElem_cons_succ, List.setIfInBounds_toArray, List.set_cons_zero, List.set_cons_succ]
                refine held_q (v := ?_) (i := 7) rfl (by kernel_rfl) (by kernel_rfl) (by kernel_rfl) (fun _ _ _ h => h) (by rfl) hHeld ?_ ?_
                rotate_left
                · (intro w' hS'; go_simp <;> (with_reducible rfl))
                simp only [Act.put, List.getElem_toArray, List.getElem_cons_zero, List.getElem_cons_succ, List.setIfInBounds_toArray, List.set_cons_zero, List.set_cons_succ]
                refine held_q (v := ?_) (i := 8) rfl (by kernel_rfl) (by kernel_rfl) (by kernel_rfl) (fun _ _ _ h => h) (by rfl) hHeld ?_ ?_
                rotate_left
                · (intro w' hS'; go_simp <;> (with_reducible rfl))
                simp only [Act.put, List.getElem_toArray, List.getElem_cons_zero, List.getElem_cons_succ, List.setIfInBounds_toArray, List.set_cons_zero, List.set_cons_succ]
                refine held_q (v := ?_) (i := 9) rfl (by kernel_rfl) (by kernel_rfl) (by kernel_rfl) (fun _ _ _ h => h) (by rfl) hHeld ?_ ?_
                rotate_left
                · (intro w' hS'; go_simp <;> (with_reducible rfl))
                simp only [Act.put, List.getElem_toArray, List.getElem_cons_zero, List.getElem_cons_succ, List.setIfInBounds_toArray, List.set_cons_zero, List.set_cons_succ]
                refine held_q (i := 10) rfl (by kernel_rfl) (by kernel_rfl) (by kernel_rfl) (fun _ _ _ h => h) (by rfl) hHeld (fun w' hS' => exec_load 27 _ rfl rfl (ld1 w' hS')) ?_
                simp only [Act.put, List.getElem_toArray, List.getElem_cons_zero, List.getElem_cons_succ, List.setIfInBounds_toArray, List.set_cons_zero, List.set_cons_succ]
                refine held_c (i := 11) (f := 58) (args := #[(Value.agg (List.toArray (kv .u8 (nv d0)))), (Value.agg (List.toArray (kv .u8 (nv d1))))]) (by kernel_rfl) rfl (by rfl) ?_ (rnode_ct d0 d1 m0 m1 _) ?_
                · (go_simp <;> rfl)
                rintro e W2 ⟨y, rfl, hy, k2⟩
                have hHeld := hHeld.trans k2
                refine ⟨_, rfl, hHeld, ?_⟩
                simp only [Act.put, List.getElem_toArray, List.getElem_cons_zero, List.getElem_cons_succ, List.setIfInBounds_toArray, List.set_cons_zero, List.set_cons_succ]
                obtain ⟨Y, hY⟩ : ∃ Y, 1 :: (d0 ++ d1) = Y := ⟨_, rfl⟩
                have hYl : Y.length ≤ 100000 := by rw [← hY]; simp [m0, m1]
                have hsh : shaL Y = pairL d0 d1 := by rw [← hY]; rfl
                rw [hY] at hy
                obtain ⟨ya, yc, hyv⟩ := hy.slc
                have sc := hsum_ct ((hH.kept kr not_false).kept hHeld not_false) hy hYl
                rw [hsh] at sc
                subst hyv
                clear hY hsh hYl
                refine held_c (i := 12) (f := 40) (args := #[.pointer (some ⟨B, 0, none⟩), .slice ya Y.length yc]) (by kernel_rfl) rfl (by rfl) ?_ sc ?_
                · (go_simp <;> rfl)
                rintro e W3 ⟨rfl, k3⟩
                have hHeld := hHeld.trans k3
                refine ⟨_, rfl, hHeld, ?_⟩
                simp only [Act.put, List.getElem_toArray, List.getElem_cons_zero, List.getElem_cons_succ, List.setIfInBounds_toArray, List.set_cons_zero, List.set_cons_succ]
                have ho2 := row_keep ho1 (k2.trans k3)
                have bs := bslice_dig (pairL d0 d1) (pairL_len _ _) W3
                obtain ⟨a3, c3, W4, ap, ho3, k4, hs3⟩ := push_dig ho2 (pairL d0 d1) (pairL_len _ _) (by omega) hHeld (Nat.le_refl _) hHeld.size 59
                rw [← HT.out] at ho3
                have HO := Lib.hid ho3
                refine held_v (i := 13) (v := .slice (some ⟨W3.heap.size, 0, none⟩) 1 1) (w1 := W3.alloc (.cells (kv .u8 (nv (pairL d0 d1))).toArray 27)) (by kernel_rfl) rfl (by rfl) (exec_buildSlice (p := #[(0, (Value.agg (List.toArray (kv .u8 (nv (pairL d0 d1))))))]) 59 1 _ rfl (by go_simp <;> rfl) bs) (hHeld.alloc _) (fun hHeld => ?_)
                simp only [Act.put, List.getElem_toArray, List.getElem_cons_zero, List.getElem_cons_succ, List.setIfInBounds_toArray, List.set_cons_zero, List.set_cons_succ]
                refine held_v (i := 14) (v := .slice a3 (k + 1) c3) (w1 := W4) (by kernel_rfl) rfl (by rfl) (exec_append 59 _ _ rfl rfl rfl ap) k4 (fun hHeld => ?_)
                simp only [Act.put, List.getElem_toArray, List.getElem_cons_zero, List.getElem_cons_succ, List.setIfInBounds_toArray, List.set_cons_zero, List.set_cons_succ]
                refine held_q (v := ?_) (i := 15) rfl (by kernel_rfl) (by kernel_rfl) (by kernel_rfl) (fun _ _ _ h => h) (by rfl) hHeld ?_ ?_
                rotate_left
                · (intro w' hS'; go_simp <;> (with_reducible rfl))
                simp only [Act.put, List.getElem_toArray, List.getElem_cons_zero, List.getElem_cons_succ, List.setIfInBounds_toArray, List.set_cons_zero, List.set_cons_succ]
                refine wpAnyH_done (by kernel_rfl) ?_ _
                clear ho1 ho2 ho3 ld0 ld1 w1'
                go_wp2_with fail
                go_roundw
                case rel => exact ⟨k + 1, HKN.out, by have := HE.out; congr 1; omega, HO.out, k4⟩
                case measure => simp [intOf]; have := HMS.out; omega
              · have hlt3i : ¬ (p1 : Int) < (n : Int) := by omega
                have ld0 := HLD.out wr hkz p0 (by omega)
                have hat := upL_last (l := l) (by omega)
                rw [show l.length / 2 = k by omega, show l.length - 1 = p0 by omega] at hat
                have ht : (upL l).take (k + 1) = (upL l).take k ++ [l.getD p0 []] := by
                  rw [List.take_succ_eq_append_getElem hkl]
                  rw [List.getElem?_eq_getElem hkl] at hat
                  injection hat with hat
                  rw [hat]
                have m0 : (l.getD p0 []).length = 32 := by
                  have hp : p0 < l.length := by omega
                  rw [List.getD_eq_getElem?_getD, List.getElem?_eq_getElem hp]; exact H32.out _ (List.getElem_mem hp)
                generalize l.getD p0 [] = d0 at ld0 ht m0
                have bs := bslice_dig d0 m0 wr
                obtain ⟨a3, c3, W4, ap, ho3, k4, hs3⟩ := push_dig ho d0 m0 (by omega) hkz (Nat.le_refl _) hkz.size 59
                rw [← ht] at ho3
                have HO := Lib.hid ho3
                have HE : Hid (p0 + 2 = 2 * (k + 1)) := by unfold Hid; omega
                have HMS : Hid (n + 1 - (p0 + 2) < n + 1 - p0) := by unfold Hid; omega
                have HKN : Hid (2 * (k + 1) ≤ n + 1) := by unfold Hid; omega
                clear hp0 hp1 hkl hat hlen ht ho e0 hln m0 ho3 w1
                go_wp2_with (first
                  | (with_reducible refine wpl_load 27 _ rfl rfl ?_ ld0 ?_
                     · rfl
                     simp only [Act.put, List.getElem_toArray, List.getElem_cons_zero, List.getElem_cons_succ, List.setIfInBounds_toArray, List.set_cons_zero, List.set_cons_succ])
                  | (with_reducible refine wpl_bslice 59 _ _ rfl rfl ?_ bs ?_
                     · (go_simp <;> rfl)
                     simp only [Act.put, List.getElem_toArray, List.getElem_cons_zero, List.getElem_cons_succ, List.setIfInBounds_toArray, List.set_cons_zero, List.set_cons_succ])
                  | (refine wpl_val rfl (exec_append 59 _ _ rfl rfl rfl ap) ?_))
                go_roundw
                case rel => exact ⟨k + 1, HKN.out, by have := HE.out; congr 1; omega, HO.out, k4⟩
                case measure => simp [intOf]; have := HMS.out; omega
            · have hlt2i : ¬ (p0 : Int) < (n : Int) := by omega
              have hk2 : k = (n + 1) / 2 := by omega
              rw [List.take_of_length_le (by omega)] at ho
              have hxs : xs.length = nr := by have := hrowO.1; omega
              have hrow2 := row_keep hrowO hkz
              obtain ⟨a3, c3, W4, ap, ho3, k4, hs3, hg3⟩ := push_row hrow2 a8 k c8 (by omega) (kr.trans hkz) (Nat.le_refl _) (kr.trans hkz).size 70
              have bsr := bslice_row a8 k c8 wr
              have kz := (Kept.refl (fun _ => False) wr).alloc (.cells #[.slice a8 k c8] 59)
              have kg : Kept (fun j => (Value.slice a7 nr c7).ownBlock = some j) (wr.alloc (.cells #[.slice a8 k c8] 59)) W4 := ⟨hg3.os, hg3.tape, hg3.output, hg3.size, fun j hj hs => hg3.block j hj (fun e => hs e.symm)⟩
              have ho4 := row_keepS (row_keep ho kz) kg (fun j hj hc => by
                have h1 := (World.ownsRow.lt ho j hj).1
                have h2 := (World.ownsRow.lt hrowO j hc).2
                omega)
              have HLL2 : Hid ((∀ d ∈ upL l, d.length = 32) ∧ topOf (upL l) = topOf L0 ∧ (upL l).length = k) :=
                ⟨upL_32 HLL.out.1, by rw [← topOf_up (by omega)]; exact HLL.out.2.1, by omega⟩
              have HX2 : Hid ((xs ++ [Value.slice a8 k c8])[nr + 1 - 1]? = some (.slice a8 k c8)) := by
                unfold Hid
                rw [Nat.add_sub_cancel, ← hxs, List.getElem?_concat_length]
              have HNN : Hid (0 < k ∧ nr + 1 + k ≤ 10001 ∧ k < n) := by unfold Hid; omega
              clear hk2 hlen hln e0 hp0 hp1 hxs hg3 kg kz ho hrow2 hrowO
              go_wp2_with (first
                | (with_reducible refine wpl_bslice 70 _ _ rfl rfl ?_ bsr ?_
                   · (go_simp <;> rfl)
                   simp only [Act.put, List.getElem_toArray, List.getElem_cons_zero, List.getElem_cons_succ, List.setIfInBounds_toArray, List.set_cons_zero, List.set_cons_succ])
                | (refine wpl_val rfl (exec_append 70 _ _ rfl rfl rfl ap) ?_))
              go_roundw
              case rel => exact ⟨upL l, k, nr + 1, _, _, HNN.out.1, by omega, HNN.out.2.1, HLL2, ho4, ho3, HX2, k4⟩
              case measure => exact HNN.out.2.2
        · obtain rfl : n = 1 := by omega
          have hlt1i : ¬ (1 : Int) < (((1 : Nat) : Nat) : Int) := by omega
          obtain ⟨h32, htop, hlen⟩ := HLL.out
          rw [topOf_one (by omega)] at htop
          have hl1 : l = [topOf L0] := by
            match l, hlen, htop with
            | [d], _, htop => rw [← htop]; rfl
          have hrc : 0 < nr := hr0
          rcases hor.2 with ⟨hvv, h00⟩ | ⟨g, cap, cur, hv, hb, hg, hnc, hc, hs, ht⟩
          · exact absurd h00 (by omega)
          injection hv with hv1 _ hv3
          subst hv1 hv3
          have hcell := hor.cells (g := g) rfl (nr - 1) _ HX.out
          rw [Addr.add_mid, Nat.zero_add] at hcell
          rw [hl1] at ho
          have HF : Hid (rowsOne w (.slice (some ⟨g, 0, none⟩) nr c7) wr (topOf L0)) := ⟨g, c7, nr, a5, c5, base, rfl, hrc, by omega, hcell, ho, kr⟩
          clear h32 htop hlen hl1 ho hor hg hnc hc hs ht hcell hb
          go_wp2_with fail
          go_ret
          exact ⟨_, rfl, by rw [HLB.out]; exact HF.out⟩

set_option maxHeartbeats 4000000 in
theorem hroot_ct {w : World} {B : Nat} {v : Value} {b : List UInt8} (hH : HashAt w B) (h : ByC w v b) (hl : b.length ≤ 100000) :
    Calls Tryd.prog 26 #[.pointer (some ⟨B, 0, none⟩), v] w fun e w' => e = .returned ((Value.agg (List.toArray (kv .u8 (nv (rootL b)))))) ∧ Kept (fun _ => False) w w' := by
  have zz := zeroDig
  obtain ⟨va, vc, rfl, _⟩ := h.2
  go_enter Tryd.func26, Tryd.ntmps26
  go_upto_region 1 with (first
    | (with_reducible refine wpl_alloc 27 rfl rfl (zz _) ?_
       simp only [World.size_alloc, Act.put, List.getElem_toArray, List.getElem_cons_zero, List.getElem_cons_succ, List.setIfInBounds_toArray, List.set_cons_zero, List.set_cons_succ]))
  obtain ⟨X, hX⟩ : ∃ X, w.heap.size = X := ⟨_, rfl⟩
  have k0 := (Kept.refl (fun _ => False) w).alloc (.cells (kv .u8 z32).toArray 27)
  have m0 : Arr (w.alloc (.cells (kv .u8 z32).toArray 27)) X 27 .u8 z32 := Arr.new hX.symm
  rw [hX]
  generalize w.alloc (.cells (kv .u8 z32).toArray 27) = W0 at k0 m0 ⊢
  have HX := Lib.hid hX
  clear hX zz
  go_wp2_with fail
  refine (hrows_ct (hH.kept k0 not_false) (h.kept k0) hl).mono ?_
  rintro e W1 ⟨v1, rfl, g, c, n, a2, c2, base, rfl, hn0, hn1, hcell, ho, k1⟩
  have h32 : ∀ d ∈ [topOf (leavesL b)], d.length = 32 → d.length = 32 := fun _ _ h => h
  have ht32 : (topOf (leavesL b)).length = 32 := by
    have := ho.1
    simp [dcs, bv_len] at this
    omega
  obtain ⟨g2, c3, e3, _, hbg, hgl, hld⟩ := dig_load ho (fun d hd => by simp at hd; subst hd; exact ht32) (by decide)
  injection e3 with e31 _ e33
  subst e31 e33
  have ld := hld W1 (Kept.refl _ _) 0 (by decide)
  rw [Nat.zero_mul] at ld
  rw [show [topOf (leavesL b)].getD 0 [] = topOf (leavesL b) from rfl] at ld
  obtain ⟨p, hp⟩ : ∃ p, p = n - 1 := ⟨_, rfl⟩
  have wp : (n : Int) - 1 = (p : Int) := by omega
  have lp : (p : Int) < (n : Int) := by omega
  rw [← hp] at hcell
  obtain ⟨nb, hnb⟩ : ∃ nb, b.length = nb := ⟨_, rfl⟩
  have HR : Hid (rootL b = topL nb (topOf (leavesL b))) := by unfold Hid rootL; rw [hnb]
  rw [hnb] at hl ⊢
  have rb := rrootb_ct nb (topOf (leavesL b)) (by omega) ht32 W1
  have m1 := m0.stay k1 not_false
  have k01 := k0.trans k1
  have hH1 := hH.kept k01 not_false
  generalize topOf (leavesL b) = t at *
  clear hp hnb h32 ho hld hgl hbg m0 k0 k1
  go_wp2_with (first
    | (with_reducible refine wpl_load 27 _ rfl rfl ?_ ld ?_
       · rfl
       simp only [Act.put, List.getElem_toArray, List.getElem_cons_zero, List.getElem_cons_succ, List.setIfInBounds_toArray, List.set_cons_zero, List.set_cons_succ]))
  refine rb.mono ?_
  rintro e W2 ⟨y, rfl, hy, k2⟩
  obtain ⟨Y, hY⟩ : ∃ Y, 2 :: (be8 nb ++ t) = Y := ⟨_, rfl⟩
  have hYl : Y.length ≤ 100000 := by rw [← hY]; simp [be8_len, ht32]
  have hsh : shaL Y = rootL b := by rw [← hY, HR.out]; rfl
  rw [hY] at hy
  obtain ⟨ya, yc, hyv⟩ := hy.slc
  have sc := hsum_ct (hH1.kept k2 not_false) hy hYl
  rw [hsh] at sc
  subst hyv
  clear hY hsh hYl rb ht32
  go_wp2_with fail
  refine sc.mono ?_
  rintro e W3 ⟨rfl, k3⟩
  have hdl : (nv (rootL b)).length = 32 := by rw [nv_len, rootL_len]
  have m2 := m1.stay (k2.trans k3) not_false
  have s1 := stDig m2 (m := nv (rootL b)) rfl hdl
  have p1 := m2.put (nv (rootL b))
  have kp : Kept (fun _ => False) w (W3.setRow X (kv .u8 (nv (rootL b))).toArray) := ((k01.trans k2).trans k3).setRow (fun h => absurd h (by have := HX.out; omega)) _
  clear m1 m2
  go_wp2_with (first
    | (with_reducible refine wpl_store 27 _ _ rfl rfl ?_ ?_ s1 ?_
       · rfl
       · rfl
       simp only [Act.put, List.getElem_toArray, List.getElem_cons_zero, List.getElem_cons_succ, List.setIfInBounds_toArray, List.set_cons_zero, List.set_cons_succ]))
  refine bodyPost_ret (results_cell_row rfl _ _ _ _ _ _ _ rfl p1 Tryd.underlying27 rfl (by rw [List.size_toArray, kv_len, hdl]; kernel_rfl)) rfl ?_
  exact ⟨rfl, kp⟩
set_option maxHeartbeats 4000000 in
theorem rRoot_ct {w : World} {v : Value} {b : List UInt8} (h : ByC w v b) (hl : b.length ≤ 100000) :
    Calls Tryd.prog 10 #[v] w fun e w' => e = .returned ((Value.agg (List.toArray (kv .u8 (nv (rootL b)))))) ∧ Kept (fun _ => False) w w' := by
  have zz := zeroDig
  obtain ⟨va, vc, rfl, _⟩ := h.2
  go_enter Tryd.func10, Tryd.ntmps10
  go_upto_region 1 with (first
    | (with_reducible refine wpl_alloc 27 rfl rfl (zz _) ?_
       simp only [World.size_alloc, Act.put, List.getElem_toArray, List.getElem_cons_zero, List.getElem_cons_succ, List.setIfInBounds_toArray, List.set_cons_zero, List.set_cons_succ]))
  obtain ⟨X, hX⟩ : ∃ X, w.heap.size = X := ⟨_, rfl⟩
  have k0 := (Kept.refl (fun _ => False) w).alloc (.cells (kv .u8 z32).toArray 27)
  have m0 : Arr (w.alloc (.cells (kv .u8 z32).toArray 27)) X 27 .u8 z32 := Arr.new hX.symm
  rw [hX]
  generalize w.alloc (.cells (kv .u8 z32).toArray 27) = W0 at k0 m0 ⊢
  have HX := Lib.hid hX
  clear hX zz
  go_wp2_with fail
  refine (hnew_ct W0).mono ?_
  rintro e W1 ⟨B, rfl, hH, k1⟩
  go_wp2_with fail
  refine (hroot_ct hH (h.kept (k0.trans k1)) hl).mono ?_
  rintro e W3 ⟨rfl, k3⟩
  have hdl : (nv (rootL b)).length = 32 := by rw [nv_len, rootL_len]
  have m2 := m0.stay (k1.trans k3) not_false
  have s1 := stDig m2 (m := nv (rootL b)) rfl hdl
  have p1 := m2.put (nv (rootL b))
  have kp : Kept (fun _ => False) w (W3.setRow X (kv .u8 (nv (rootL b))).toArray) := ((k0.trans k1).trans k3).setRow (fun h => absurd h (by have := HX.out; omega)) _
  clear m0 m2
  go_wp2_with (first
    | (with_reducible refine wpl_store 27 _ _ rfl rfl ?_ ?_ s1 ?_
       · rfl
       · rfl
       simp only [Act.put, List.getElem_toArray, List.getElem_cons_zero, List.getElem_cons_succ, List.setIfInBounds_toArray, List.set_cons_zero, List.set_cons_succ]))
  refine bodyPost_ret (results_cell_row rfl _ _ _ _ _ _ _ rfl p1 Tryd.underlying27 rfl (by rw [List.size_toArray, kv_len, hdl]; kernel_rfl)) rfl ?_
  exact ⟨rfl, kp⟩
