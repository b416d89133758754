/- ClaimsPlays' walk. -/
import Derived.Test.YtbaehaleigpijaaPK
import Derived.Deep.LoopGhost
import Derived.Deep.CutRange
import Derived.Deep.CutBlock
namespace Go.Proofs.Ytbaehaleigpijaa
open Go.RowKit
set_option linter.unusedSimpArgs false
set_option linter.unusedVariables false

set_option maxRecDepth 100000 in
set_option maxHeartbeats 8000000 in
theorem plays_law (w : World) {id inc wait ttl : Int} (hi0 : 0 ≤ inc) {v : Value} {len : Nat} {ops : Nat → OpR} (hops : OpsAt w v len ops) :
    Calls Try.prog 3 #[.int .i64 id, .int .u64 inc, .int .i64 wait, .int .i64 ttl, v] w fun e w' => e = .returned (.bool true) ∧ Kept (fun _ => False) w w' := by
  obtain ⟨ad, cap, rfl, hlen, hat⟩ := hops
  by_cases hn : NewOk id inc wait ttl
  · go_enter Try.func3, Try.ntmps3
    go_wp2_with fail
    refine (new_ct id inc wait ttl _ hn).mono ?_
    rintro e W1 ⟨p, rfl, hk1, hp, hb1⟩
    unfold Pl.ptr
    go_wp2_with fail
    refine (rnew_good id inc wait ttl _ hn).mono ?_
    rintro e W2 ⟨R, rfl, hR, hk2, hbR⟩
    have hk12 := hk1.trans hk2
    have hT : Duo w W2 p R (new0 id inc wait ttl) 0 := ⟨Bk.kept hb1 hk2, ⟨[], [], _, _, rnew_bk (Nat.le_trans hk1.size hR) hbR, Refs.new id inc wait ttl, Nat.le_refl _, Nat.le_refl _⟩, hk12⟩
    have hF : Fit (new0 id inc wait ttl) 0 := Fit.new hn hi0
    have hI : Inv (new0 id inc wait ttl) 0 := Inv.new hn
    have pw : ∀ k, p.S k → w.heap.size ≤ k := hp
    generalize new0 id inc wait ttl = s0' at hT hF hI
    clear hb1 hk1 hk2 hn hp hbR hk12 hR
    by_cases h80 : len ≤ 200
    · have h80' : ¬ (200 : Int) < (len : Int) := by omega
      go_wp2_with fail
      go_loopg [68, 14] len (fun gk i nw wr => ∃ (k : Nat) (now : Int) (s : St), gk = len - k ∧ k ≤ len ∧ i = .int .i64 k ∧ nw = .int .i64 now ∧ 0 ≤ now ∧ now ≤ 1000000 * k ∧ Duo w wr p R s k ∧ Inv s now ∧ Fit s k)
      case atStart => exact ⟨0, 0, s0', by omega, by omega, rfl, rfl, by omega, by omega, hT, hI, hF⟩
      case round =>
        obtain ⟨k, now, s, rfl, hk, rfl, rfl, hn0, hn1, hT, hI, hF⟩ := hrel
        by_cases hlt : k < len
        · obtain ⟨ho, b, o, hadd, hbl, hra⟩ := hat k hlt
          have hw : Kept (fun _ => False) w wr := hT.kept
          have hra : wr.rangeAt b (o + k * 39) (ops k).cells.toList := rangeAt_stay hw hbl not_false hra
          subst hadd
          clear hat
          generalize ops k = op at ho hra
          have l0 := load_op ho hra
          have s0 := store_new (P := Try.prog) (ty := 35) (c := Z39) (c' := op.cells) (by rw [OpR.size ho]; kernel_rfl) (by rw [OpR.size ho]; rfl) (OpR.oneCell ho) (w := wr) rfl
          go_upto_region 12 with (first
            | (with_reducible refine wpl_load 35 _ rfl rfl ?_ l0 ?_
               · rfl
               simp only [Act.put, List.getElem_toArray, List.getElem_cons_zero, List.getElem_cons_succ, List.setIfInBounds_toArray, List.set_cons_zero, List.set_cons_succ])
            | (with_reducible refine wpl_alloc 35 rfl rfl (zeroOp _) ?_
               simp only [World.size_alloc, Act.put, List.getElem_toArray, List.getElem_cons_zero, List.getElem_cons_succ, List.setIfInBounds_toArray, List.set_cons_zero, List.set_cons_succ])
            | (with_reducible refine wpl_store 35 _ _ rfl rfl ?_ ?_ s0 ?_
               · rfl
               · rfl
               simp only [Act.put, List.getElem_toArray, List.getElem_cons_zero, List.getElem_cons_succ, List.setIfInBounds_toArray, List.set_cons_zero, List.set_cons_succ]))
          have hr : (wr.alloc (.cells op.cells 35)).heap[wr.heap.size]? = some (.cells op.cells 35) := heap_last wr _
          have k3 : Kept (fun _ => False) wr (wr.alloc (.cells op.cells 35)) := (Kept.refl _ wr).alloc _
          have z3 : wr.heap.size < (wr.alloc (.cells op.cells 35)).heap.size := by simp
          generalize wr.alloc (.cells op.cells 35) = W3 at hr k3 z3 ⊢
          have nS : ∀ k, p.S k → k < wr.heap.size := BkS.lt hT.a
          generalize wr.heap.size = B at hr z3 nS ⊢
          have cl : ∀ j u, #[Value.int .i64 op.kind, .int .i64 op.by_, .int .u8 op.key][j]? = some u → W3.cell? ⟨B, j, none⟩ = some u := fun j u hu => by
            have hj := (Array.getElem?_eq_some_iff.1 hu).1
            rw [cell_of_row _ _ _ _ _ _ hr]; unfold OpR.cells; rw [Array.getElem?_append_left hj]; exact hu
          have c0 := cl 0 _ rfl
          have c1 := cl 1 _ rfl
          have c2 := cl 2 _ rfl
          clear cl l0 s0
          go_upto_region 13 with fail
          obtain ⟨m0, hm0⟩ : ∃ m, (if op.by_ < 0 then 0 else op.by_) = m := ⟨_, rfl⟩
          rw [hm0]
          obtain ⟨m1, hm1⟩ : ∃ m, (if 1000000 < m0 then 1000000 else m0) = m := ⟨_, rfl⟩
          rw [hm1]
          have hb1 : 0 ≤ m1 ∧ m1 ≤ 1000000 := by
            split at hm1 <;> split at hm0 <;> omega
          clear hm0 hm1
          obtain ⟨t, ht, ht0, ht1, htk⟩ : ∃ t, now + m1 = t ∧ 0 ≤ t ∧ t ≤ 1000000 * ((k + 1 : Nat) : Int) ∧ now ≤ t := ⟨_, rfl, by omega, by omega, by omega⟩
          rw [ht]
          clear ht hb1
          have hk0 : 0 ≤ op.key.tmod 3 ∧ op.key.tmod 3 < 256 := by have := ho.key0; have : op.key % 3 = op.key.tmod 3 := by rw [Int.tmod_eq_emod_of_nonneg (by omega)]
                                                                   omega
          have hD : IsDig (dig (op.key.tmod 3)) := dig_is hk0
          have s1 := store_new (P := Try.prog) (ty := 31) (c := Z32) (c' := dig (op.key.tmod 3)) (by rw [hD.size]; kernel_rfl) (by rw [hD.size]; rfl) hD.oneCell (w := W3) rfl
          go_upto_block 2 with (first
            | (with_reducible refine wpl_build 31 _ rfl rfl ?_ (build_dig (op.key.tmod 3) _) ?_
               · (go_simp <;> rfl)
               simp only [Act.put, List.getElem_toArray, List.getElem_cons_zero, List.getElem_cons_succ, List.setIfInBounds_toArray, List.set_cons_zero, List.set_cons_succ])
            | (with_reducible refine wpl_alloc 31 rfl rfl (zeroDig _) ?_
               simp only [World.size_alloc, Act.put, List.getElem_toArray, List.getElem_cons_zero, List.getElem_cons_succ, List.setIfInBounds_toArray, List.set_cons_zero, List.set_cons_succ])
            | (with_reducible refine wpl_store 31 _ _ rfl rfl ?_ ?_ s1 ?_
               · rfl
               · rfl
               simp only [Act.put, List.getElem_toArray, List.getElem_cons_zero, List.getElem_cons_succ, List.setIfInBounds_toArray, List.set_cons_zero, List.set_cons_succ]))
          have hd : (W3.alloc (.cells (dig (op.key.tmod 3)) 31)).heap[W3.heap.size]? = some (.cells (dig (op.key.tmod 3)) 31) := heap_last W3 _
          have k4 : Kept (fun _ => False) wr (W3.alloc (.cells (dig (op.key.tmod 3)) 31)) := k3.alloc _
          have hr4 : (W3.alloc (.cells (dig (op.key.tmod 3)) 31)).heap[B]? = some (.cells op.cells 35) := by rw [Below.heap_alloc _ _ _ z3]; exact hr
          have z4 : B < (W3.alloc (.cells (dig (op.key.tmod 3)) 31)).heap.size := by simp; omega
          generalize W3.alloc (.cells (dig (op.key.tmod 3)) 31) = W4 at hd k4 hr4 z4 ⊢
          have nB : ∀ k, p.S k → k ≠ B ∧ k ≠ W3.heap.size := fun k h => by have := nS k h; omega
          have nE : W3.heap.size < W4.heap.size := (Array.getElem?_eq_some_iff.1 hd).1
          generalize W3.heap.size = E at hd nB nE ⊢
          have hcl := fun w : World => claim_ct ho w
          rw [show op.key % 3 = op.key.tmod 3 by have := ho.key0; rw [Int.tmod_eq_emod_of_nonneg (by omega)]] at hcl
          have hlo := fun {w' : World} (q : w'.heap[B]? = some (.cells op.cells 35)) => load_op_row ho q
          have e1 : ((k + 1 : Nat) : Int) = (k : Int) + 1 := by omega
          have hc1 := hF.count1
          generalize dig (op.key.tmod 3) = D at hD hd hcl
          have hI' : Inv s t := hI.mono htk
          have h4 : Duo w W4 p R s k := hT.quiet k4
          go_cut [18, 19, 20, 21, 22, 23, 24, 25] from 69 to 207 (fun _ _ _ _ _ _ _ _ wx => ∃ s', Duo w wx p R s' (k + 1) ∧ Inv s' t ∧ Fit s' ((k + 1 : Nat) : Int))
          case first =>
            by_cases h1 : op.kind = 1
            · --A
              have h1' : (op.kind == 1) = true := by simp [h1]
              clear hcl hlo
              have hl := load_dig hD hd
              go_wp2_with (first
                | (with_reducible refine wpl_load 31 _ rfl rfl ?_ hl ?_
                   · rfl
                   simp only [Act.put, List.getElem_toArray, List.getElem_cons_zero, List.getElem_cons_succ, List.setIfInBounds_toArray, List.set_cons_zero, List.set_cons_succ]))
              refine (try_ct h4.a hI (by omega) hD t (by omega)).mono ?_
              rintro e W5 ⟨v1, rfl, hs1, k5, ba5⟩
              have bb5 := RefS.prog h4.b h4.a k5
              have hl5 := load_dig hD ((k5.block _ nE (fun h => (nB _ h).2 rfl)).trans hd)
              clear hl
              go_wp2_with (first
                | (with_reducible refine wpl_load 31 _ rfl rfl ?_ hl5 ?_
                   · rfl
                   simp only [Act.put, List.getElem_toArray, List.getElem_cons_zero, List.getElem_cons_succ, List.setIfInBounds_toArray, List.set_cons_zero, List.set_cons_succ]))
              refine (rtry_ct bb5 (by omega) hI (by omega) hD ht0 (by omega)).mono ?_
              rintro e W6 ⟨v2, rfl, hs2, k6, bb6⟩
              have ba6 := BkS.ref ba5 k6
              have sl1 := SlC.ref hs1.slc k6
              have sl2 := hs2.slc
              have kw6 := kept_ref (kept_prog pw h4.kept k5) k6
              clear hl5
              go_wp2_with fail
              refine (same_ct sl1 sl2 (hF.try_ (by omega) hD t).2).mono ?_
              rintro e W7 ⟨rfl, k7⟩
              go_wp2_with fail
              go_meet
              exact ⟨(tryF s D t).2.2, Duo.quiet ⟨ba6, bb6, kw6⟩ k7, (hI.try_ D ht0 htk).1, by rw [e1]; exact (hF.try_ (by omega) hD t).1⟩
              --a
            by_cases h2 : op.kind = 2
            · --B
              have h1' : (op.kind == 1) = false := by simp [h1]
              have h2' : (op.kind == 2) = true := by simp [h2]
              clear h1 hcl hlo
              go_wp2_with fail
              have h4d := h4.quiet ((Kept.refl (fun _ => False) W4).drew)
              refine wp_region_held_drew (S := (Kept (fun k => p.S k ∨ RefBlk w.heap.size W4 k) W4)) (by kernel_rfl) ((Kept.refl _ W4).drew) (fun hHeld => ?_)
              refine held_q (v := ?_) (i := 0) rfl (by kernel_rfl) (by kernel_rfl) (by kernel_rfl) (fun _ _ _ h => h) (by rfl) hHeld ?_ ?_
              rotate_left
              · (intro w' hS'; go_simp <;> (with_reducible rfl))
              simp only [Act.put, List.getElem_toArray, List.getElem_cons_zero, List.getElem_cons_succ, List.setIfInBounds_toArray, List.set_cons_zero, List.set_cons_succ]
              refine held_q (i := 1) rfl (by kernel_rfl) (by kernel_rfl) (by kernel_rfl) (fun _ _ _ h => h) (by rfl) hHeld (fun w' hS' => exec_load 31 _ rfl rfl (load_dig hD ((hS'.block _ nE (fun h => h.elim (fun h => (nB _ h).2 rfl) (not_ref hd (by decide) (by decide) (by decide)))).trans hd))) ?_
              simp only [Act.put, List.getElem_toArray, List.getElem_cons_zero, List.getElem_cons_succ, List.setIfInBounds_toArray, List.set_cons_zero, List.set_cons_succ]
              refine held_q (v := ?_) (i := 3) rfl (by kernel_rfl) (by kernel_rfl) (by kernel_rfl) (fun _ _ _ h => h) (by rfl) hHeld ?_ ?_
              rotate_left
              · (intro w' hS'; go_simp <;> (with_reducible rfl))
              simp only [Act.put, List.getElem_toArray, List.getElem_cons_zero, List.getElem_cons_succ, List.setIfInBounds_toArray, List.set_cons_zero, List.set_cons_succ]
              refine held_q (i := 4) rfl (by kernel_rfl) (by kernel_rfl) (by kernel_rfl) (fun _ _ _ h => h) (by rfl) hHeld (fun w' hS' => exec_load 31 _ rfl rfl (load_dig hD ((hS'.block _ nE (fun h => h.elim (fun h => (nB _ h).2 rfl) (not_ref hd (by decide) (by decide) (by decide)))).trans hd))) ?_
              simp only [Act.put, List.getElem_toArray, List.getElem_cons_zero, List.getElem_cons_succ, List.setIfInBounds_toArray, List.set_cons_zero, List.set_cons_succ]
              refine held_c (i := 2) (f := 13) (args := #[.pointer (some ⟨p.B, 0, none⟩), .agg D]) (by kernel_rfl) rfl (by rfl) ?_ (drop_ct h4d.a hD) ?_
              · (go_simp <;> rfl)
              rintro e W5 ⟨v1, rfl, hs1, k5, ba5⟩
              have hHeld := hHeld.trans' k5 (fun _ _ q => .inl q)
              refine ⟨_, rfl, hHeld, ?_⟩
              simp only [Act.put, List.getElem_toArray, List.getElem_cons_zero, List.getElem_cons_succ, List.setIfInBounds_toArray, List.set_cons_zero, List.set_cons_succ]
              have bb5 := RefS.prog h4d.b h4d.a k5
              have b45 : ∀ k, k < W4.heap.size → RefBlk w.heap.size W5 k → p.S k ∨ RefBlk w.heap.size W4 k := fun k hk hr => by
                by_cases hp : p.S k
                · exact .inl hp
                · obtain ⟨hb, c, t, z1, z2⟩ := hr
                  exact .inr ⟨hb, c, t, by rw [← z1]; exact (k5.block k hk hp).symm, z2⟩
              refine held_c (i := 5) (f := 14) (args := #[.pointer (some ⟨R, 0, none⟩), .agg D]) (by kernel_rfl) rfl (by rfl) ?_ (rdrop_ct bb5 (by omega) hD) ?_
              · (go_simp <;> rfl)
              rintro e W6 ⟨v2, rfl, hs2, k6, bb6⟩
              have hHeld := hHeld.trans' k6 b45
              refine ⟨_, rfl, hHeld, ?_⟩
              simp only [Act.put, List.getElem_toArray, List.getElem_cons_zero, List.getElem_cons_succ, List.setIfInBounds_toArray, List.set_cons_zero, List.set_cons_succ]
              have ba6 := BkS.ref ba5 k6
              have sl1 := SlC.ref hs1.slc k6
              have sl2 := hs2.slc
              have kw6 := kept_ref (kept_prog pw h4d.kept k5) k6
              refine held_c (i := 6) (f := 12) (args := #[v1, v2]) (by kernel_rfl) rfl (by rfl) ?_ (same_ct sl1 sl2 (hF.drop (by omega) hD).2) ?_
              · (go_simp <;> rfl)
              rintro e W7 ⟨rfl, k7⟩
              have hHeld := hHeld.trans k7.upto
              refine ⟨_, rfl, hHeld, ?_⟩
              simp only [Act.put, List.getElem_toArray, List.getElem_cons_zero, List.getElem_cons_succ, List.setIfInBounds_toArray, List.set_cons_zero, List.set_cons_succ]
              refine held_q (v := ?_) (i := 7) rfl (by kernel_rfl) (by kernel_rfl) (by kernel_rfl) (fun _ _ _ h => h) (by rfl) hHeld ?_ ?_
              rotate_left
              · (intro w' hS'; go_simp <;> (with_reducible rfl))
              simp only [Act.put, List.getElem_toArray, List.getElem_cons_zero, List.getElem_cons_succ, List.setIfInBounds_toArray, List.set_cons_zero, List.set_cons_succ]
              refine wpAnyH_done (by kernel_rfl) ?_ _
              go_wp2_with fail
              go_meet
              exact ⟨(dropF s D).2, Duo.quiet ⟨ba6, bb6.mono (by omega), kw6⟩ k7, (hI'.drop D).1, ((hF.drop (by omega) hD).1).mono (by omega)⟩
              --b
            by_cases h3 : op.kind = 3
            · --E
              have h1' : (op.kind == 1) = false := by simp [h1]
              have h2' : (op.kind == 2) = false := by simp [h2]
              have h3' : (op.kind == 3) = true := by simp [h3]
              clear h1 h2 hcl hlo
              go_wp2_with fail
              go_meet
              exact ⟨s, ⟨h4.a, h4.b.mono (by omega), h4.kept⟩, hI', hF.mono (by omega)⟩
              --e
            · --C
              have h1' : (op.kind == 1) = false := by simp [h1]
              have h2' : (op.kind == 2) = false := by simp [h2]
              have h3' : (op.kind == 3) = false := by simp [h3]
              clear h1 h2 h3
              have l1 := hlo hr4
              go_wp2_with (first
                | (with_reducible refine wpl_load 35 _ rfl rfl ?_ l1 ?_
                   · rfl
                   simp only [Act.put, List.getElem_toArray, List.getElem_cons_zero, List.getElem_cons_succ, List.setIfInBounds_toArray, List.set_cons_zero, List.set_cons_succ]))
              refine (hcl _).mono ?_
              rintro e W5 ⟨rfl, k5⟩
              have h5 := h4.quiet k5
              have hr5 := (k5.block _ z4 not_false).trans hr4
              have z5 := Nat.lt_of_lt_of_le z4 k5.size
              clear l1
              go_wp2_with fail
              refine (hear_ct h5.a hI (by omega) hD op.n op.i op.c op.g t ht0 (by omega)).mono ?_
              rintro e W6 ⟨v1, rfl, hs1, k6, ba6⟩
              have bb6 := RefS.prog h5.b h5.a k6
              have kw6 := kept_prog pw h5.kept k6
              have l2 := hlo ((k6.block _ z5 (fun h => (nB _ h).1 rfl)).trans hr5)
              go_wp2_with (first
                | (with_reducible refine wpl_load 35 _ rfl rfl ?_ l2 ?_
                   · rfl
                   simp only [Act.put, List.getElem_toArray, List.getElem_cons_zero, List.getElem_cons_succ, List.setIfInBounds_toArray, List.set_cons_zero, List.set_cons_succ]))
              refine (hcl _).mono ?_
              rintro e W7 ⟨rfl, k7⟩
              clear l2
              have ba7 : BkS W7 p _ := Bk.kept ba6 k7
              have bb7 := bb6.kept k7 (fun _ _ => not_false)
              have kw7 := kw6.trans k7
              have sl7 : SlC W7 v1 _ := hs1.later k7 (fun _ q => q.elim)
              go_wp2_with fail
              refine (rhear_ct bb7 (by omega) hI (by omega) hD op.n op.i op.c op.g ht0 (by omega)).mono ?_
              rintro e W8 ⟨v2, rfl, hs2, k8, bb8⟩
              have ba8 := BkS.ref ba7 k8
              have sl1 := SlC.ref sl7 k8
              have sl2 := hs2.slc
              have kw8 := kept_ref kw7 k8
              have is := (hF.hear (by omega) hD op.n op.i op.c op.g t).2
              have hFF := ((hF.hear (by omega) hD op.n op.i op.c op.g t).1).mono (show (k : Int) ≤ ((k + 1 : Nat) : Int) by omega)
              have hII := (hI'.hear D op.n op.i op.c op.g t).1
              generalize (hearF s D op.n op.i op.c op.g t).2.2 = s' at ba8 bb8 hFF hII
              generalize (hearF s D op.n op.i op.c op.g t).2.1 = c1
              generalize (hearF s D op.n op.i op.c op.g t).1 = m at is sl1 sl2
              clear hcl hlo hs1 hs2 ba6 ba7 bb7 bb6 k5 k6 k7 k8 sl7 h5 hr5 kw6 kw7
              have ec : (c1 != c1) = false := by simp
              go_wp2_with fail
              refine (same_ct sl1 sl2 is).mono ?_
              rintro e W11 ⟨rfl, k11⟩
              go_wp2_with fail
              go_meet
              exact ⟨s', Duo.quiet ⟨ba8, bb8, kw8⟩ k11, hII, hFF⟩
              --c
          case rest =>
            --D
            obtain ⟨s', hT', hI'', hF''⟩ := hcut
            clear hI' hI hF hT hcl hlo k4 hr4 hd h4
            have hb' := hT'.b
            obtain ⟨owns, oths, vo, vt, hRb, hRf, hl1, hl2⟩ := hb'
            obtain ⟨ao, capO, hvo⟩ := row_form hRb.own
            subst hvo
            have hml := row_le hRb.own
            simp only [maxLen] at hml
            go_wp2_with fail
            go_loopg [26] 3 (fun gk n wx => ∃ j : Nat, gk = 3 - j ∧ j ≤ 3 ∧ n = .int .u8 j ∧ Kept (fun _ => False) wc wx)
            case atStart => exact ⟨0, rfl, by omega, rfl, Kept.refl _ _⟩
            case round =>
              obtain ⟨j, rfl, hj, rfl, hkj⟩ := hrel
              by_cases hl3 : j < 3
              · have hl3' : (j : Int) < 3 := by omega
                have hd3 : decide ((j : Int) < 3) = true := decide_eq_true (by omega)
                have hDj : IsDig (dig (j : Int)) := dig_is (by omega)
                have sj := store_new (P := Try.prog) (ty := 31) (c := Z32) (c' := dig (j : Int)) (by rw [hDj.size]; kernel_rfl) (by rw [hDj.size]; rfl) hDj.oneCell (w := wr) rfl
                go_upto_region 32 with (first
                  | (with_reducible refine wpl_build 31 _ rfl rfl ?_ (build_dig (j : Int) _) ?_
                     · (go_simp <;> rfl)
                     simp only [Act.put, List.getElem_toArray, List.getElem_cons_zero, List.getElem_cons_succ, List.setIfInBounds_toArray, List.set_cons_zero, List.set_cons_succ])
                  | (with_reducible refine wpl_alloc 31 rfl rfl (zeroDig _) ?_
                     simp only [World.size_alloc, Act.put, List.getElem_toArray, List.getElem_cons_zero, List.getElem_cons_succ, List.setIfInBounds_toArray, List.set_cons_zero, List.set_cons_succ])
                  | (with_reducible refine wpl_store 31 _ _ rfl rfl ?_ ?_ sj ?_
                     · rfl
                     · rfl
                     simp only [Act.put, List.getElem_toArray, List.getElem_cons_zero, List.getElem_cons_succ, List.setIfInBounds_toArray, List.set_cons_zero, List.set_cons_succ]))
                have ke : Kept (fun _ => False) wr (wr.alloc (.cells (dig (j : Int)) 31)) := (Kept.refl _ wr).alloc _
                have hbx : (wr.alloc (.cells (dig (j : Int)) 31)).heap[wr.heap.size]? = some (.cells (dig (j : Int)) 31) := heap_last wr _
                have nx : wr.heap.size < (wr.alloc (.cells (dig (j : Int)) 31)).heap.size := by simp
                have kcj := hkj.trans ke
                generalize wr.alloc (.cells (dig (j : Int)) 31) = V0 at ke hbx nx kcj ⊢
                generalize wr.heap.size = X at hbx nx ⊢
                clear sj
                generalize dig (j : Int) = F at hDj hbx ⊢
                have a0 : BkS V0 p s' := Bk.kept hT'.a kcj
                have b0 := hRb.kept kcj
                obtain ⟨x, y, hxy⟩ := live_two (live s'.U F t)
                have hlx := fun {w' : World} (h : Kept (fun _ => False) V0 w') => load_dig hDj ((h.block _ nx not_false).trans hbx)
                have l1 := hlx (Kept.refl _ V0)
                have la := live_ct a0 hDj t
                rw [hxy] at la
                go_wp2_with (first
                  | (with_reducible refine wpl_load 31 _ rfl rfl ?_ l1 ?_
                     · rfl
                     simp only [Act.put, List.getElem_toArray, List.getElem_cons_zero, List.getElem_cons_succ, List.setIfInBounds_toArray, List.set_cons_zero, List.set_cons_succ]))
                refine la.mono ?_
                rintro e V1 ⟨rfl, q1⟩
                have l2 := hlx q1
                have lb := rlive_ct (b0.kept q1) hRf hDj ht0
                rw [hxy] at lb
                clear l1 la
                go_wp2_with (first
                  | (with_reducible refine wpl_load 31 _ rfl rfl ?_ l2 ?_
                     · rfl
                     simp only [Act.put, List.getElem_toArray, List.getElem_cons_zero, List.getElem_cons_succ, List.setIfInBounds_toArray, List.set_cons_zero, List.set_cons_succ]))
                refine lb.mono ?_
                rintro e V2 ⟨rfl, q2⟩
                clear l2 lb hxy
                have q12 := q1.trans q2
                have ex : (x != x) = false := by simp
                have ey : (y != y) = false := by simp
                have b2 := b0.kept q12
                have c5 := b2.cell 5 _ rfl
                go_wp2_with fail
                try rw [hd3]
                clear hd3
                go_loopg [32, 174] owns.length (fun gk mv ix wx => ∃ (m : Nat) (mb : Bool), gk = owns.length - m ∧ m ≤ owns.length ∧ mv = .bool mb ∧ ix = .int .i64 m ∧ Kept (fun _ => False) V2 wx ∧ (mb = true ↔ ∃ (q : Nat) (y : OwnE), q < m ∧ owns[q]? = some y ∧ y.D = F))
                case atStart => exact ⟨0, false, rfl, by omega, rfl, rfl, Kept.refl _ _, by simp⟩
                case round =>
                  obtain ⟨m, mb, rfl, hm, rfl, rfl, hkm, hmb⟩ := hrel
                  by_cases hlm : m < owns.length
                  · have hy : owns[m]? = some owns[m] := List.getElem?_eq_getElem hlm
                    generalize owns[m] = y0 at hy
                    have hDy := hRb.digO y0 (List.mem_of_getElem? hy)
                    have b3 := b2.kept hkm
                    obtain ⟨g, cap', hv, hg, _, hra⟩ := row_at b3.own (fun e he => OwnE.len (hRb.digO e he)) hy
                    injection hv with hv1 hv2 hv3
                    subst hv1
                    subst hv3
                    have cs : ∀ w', Kept (fun _ => False) wr w' → w'.cell? ⟨R, 5, none⟩ = some (.slice (some ⟨g, 0, none⟩) owns.length capO) := fun w' q => (b3.kept q).cell 5 _ rfl
                    have hld : ∀ {w'}, Kept (fun _ => False) wr w' → (Instr.loadAt 31 (.pointer (some ⟨g, m * 37, none⟩))).run Try.prog w' = .ok (.agg y0.D) w' := fun q => by
                      have := rangeAt_stay q hg not_false hra
                      simp only [OwnE.cells, Array.toList_append, List.append_assoc] at this
                      exact load_dig_at hDy this
                    have MB := Lib.hid hmb
                    clear hmb hra
                    cases mb with
                    | true =>
                      go_wp2_with fail
                      refine wp_region_held_drew (S := (Kept (fun _ => False) wr)) (by kernel_rfl) ((Kept.refl _ wr).drew) (fun hHeld => ?_)
                      refine held_q (v := ?_) (i := 0) rfl (by kernel_rfl) (by kernel_rfl) (by kernel_rfl) (fun _ _ _ h => h) (by rfl) hHeld ?_ ?_
                      rotate_left
                      · (intro w' hS'; go_simp <;> (with_reducible rfl))
                      simp only [Act.put, List.getElem_toArray, List.getElem_cons_zero, List.getElem_cons_succ, List.setIfInBounds_toArray, List.set_cons_zero, List.set_cons_succ]
                      refine held_q (v := ?_) (i := 1) rfl (by kernel_rfl) (by kernel_rfl) (by kernel_rfl) (fun _ _ _ h => h) (by rfl) hHeld ?_ ?_
                      rotate_left
                      · (intro w' hS'; go_simp <;> (with_reducible rfl))
                      simp only [Act.put, List.getElem_toArray, List.getElem_cons_zero, List.getElem_cons_succ, List.setIfInBounds_toArray, List.set_cons_zero, List.set_cons_succ]
                      refine held_no (i := 2) rfl (by kernel_rfl) (by kernel_rfl) (by kernel_rfl) (fun _ _ _ h => h) (by rfl) hHeld ?_
                      simp only [Act.put, List.getElem_toArray, List.getElem_cons_zero, List.getElem_cons_succ, List.setIfInBounds_toArray, List.set_cons_zero, List.set_cons_succ]
                      refine held_no (i := 3) rfl (by kernel_rfl) (by kernel_rfl) (by kernel_rfl) (fun _ _ _ h => h) (by rfl) hHeld ?_
                      simp only [Act.put, List.getElem_toArray, List.getElem_cons_zero, List.getElem_cons_succ, List.setIfInBounds_toArray, List.set_cons_zero, List.set_cons_succ]
                      refine held_no (i := 4) rfl (by kernel_rfl) (by kernel_rfl) (by kernel_rfl) (fun _ _ _ h => h) (by rfl) hHeld ?_
                      simp only [Act.put, List.getElem_toArray, List.getElem_cons_zero, List.getElem_cons_succ, List.setIfInBounds_toArray, List.set_cons_zero, List.set_cons_succ]
                      refine held_no (i := 5) rfl (by kernel_rfl) (by kernel_rfl) (by kernel_rfl) (fun _ _ _ h => h) (by rfl) hHeld ?_
                      simp only [Act.put, List.getElem_toArray, List.getElem_cons_zero, List.getElem_cons_succ, List.setIfInBounds_toArray, List.set_cons_zero, List.set_cons_succ]
                      refine held_no (i := 6) rfl (by kernel_rfl) (by kernel_rfl) (by kernel_rfl) (fun _ _ _ h => h) (by rfl) hHeld ?_
                      simp only [Act.put, List.getElem_toArray, List.getElem_cons_zero, List.getElem_cons_succ, List.setIfInBounds_toArray, List.set_cons_zero, List.set_cons_succ]
                      refine held_no (i := 7) rfl (by kernel_rfl) (by kernel_rfl) (by kernel_rfl) (fun _ _ _ h => h) (by rfl) hHeld ?_
                      simp only [Act.put, List.getElem_toArray, List.getElem_cons_zero, List.getElem_cons_succ, List.setIfInBounds_toArray, List.set_cons_zero, List.set_cons_succ]
                      refine held_no (i := 8) rfl (by kernel_rfl) (by kernel_rfl) (by kernel_rfl) (fun _ _ _ h => h) (by rfl) hHeld ?_
                      simp only [Act.put, List.getElem_toArray, List.getElem_cons_zero, List.getElem_cons_succ, List.setIfInBounds_toArray, List.set_cons_zero, List.set_cons_succ]
                      refine held_no (i := 9) rfl (by kernel_rfl) (by kernel_rfl) (by kernel_rfl) (fun _ _ _ h => h) (by rfl) hHeld ?_
                      simp only [Act.put, List.getElem_toArray, List.getElem_cons_zero, List.getElem_cons_succ, List.setIfInBounds_toArray, List.set_cons_zero, List.set_cons_succ]
                      refine held_no (i := 10) rfl (by kernel_rfl) (by kernel_rfl) (by kernel_rfl) (fun _ _ _ h => h) (by rfl) hHeld ?_
                      simp only [Act.put, List.getElem_toArray, List.getElem_cons_zero, List.getElem_cons_succ, List.setIfInBounds_toArray, List.set_cons_zero, List.set_cons_succ]
                      refine held_no (i := 11) rfl (by kernel_rfl) (by kernel_rfl) (by kernel_rfl) (fun _ _ _ h => h) (by rfl) hHeld ?_
                      simp only [Act.put, List.getElem_toArray, List.getElem_cons_zero, List.getElem_cons_succ, List.setIfInBounds_toArray, List.set_cons_zero, List.set_cons_succ]
                      refine held_no (i := 12) rfl (by kernel_rfl) (by kernel_rfl) (by kernel_rfl) (fun _ _ _ h => h) (by rfl) hHeld ?_
                      simp only [Act.put, List.getElem_toArray, List.getElem_cons_zero, List.getElem_cons_succ, List.setIfInBounds_toArray, List.set_cons_zero, List.set_cons_succ]
                      refine held_q (v := ?_) (i := 13) rfl (by kernel_rfl) (by kernel_rfl) (by kernel_rfl) (fun _ _ _ h => h) (by rfl) hHeld ?_ ?_
                      rotate_left
                      · (intro w' hS'; go_simp <;> (with_reducible rfl))
                      simp only [Act.put, List.getElem_toArray, List.getElem_cons_zero, List.getElem_cons_succ, List.setIfInBounds_toArray, List.set_cons_zero, List.set_cons_succ]
                      refine held_q (v := ?_) (i := 14) rfl (by kernel_rfl) (by kernel_rfl) (by kernel_rfl) (fun _ _ _ h => h) (by rfl) hHeld ?_ ?_
                      rotate_left
                      · (intro w' hS'; go_simp <;> (with_reducible rfl))
                      simp only [Act.put, List.getElem_toArray, List.getElem_cons_zero, List.getElem_cons_succ, List.setIfInBounds_toArray, List.set_cons_zero, List.set_cons_succ]
                      refine wpAnyH_done (by kernel_rfl) ?_ _
                      go_wp2_with fail
                      go_roundg (owns.length - (m + 1))
                      case rel => exact ⟨m + 1, true, rfl, by omega, rfl, by go_num, hkm.drew, ⟨fun _ => by obtain ⟨q, y, z1, z2⟩ := MB.out.1 (by simp); exact ⟨q, y, by omega, z2⟩, fun _ => rfl⟩⟩
                      case measure => omega
                    | false =>
                      by_cases e : y0.D = F
                      · have E1 := Lib.hid e
                        clear e
                        go_wp2_with fail
                        refine wp_region_held_drew (S := (Kept (fun _ => False) wr)) (by kernel_rfl) ((Kept.refl _ wr).drew) (fun hHeld => ?_)
                        refine held_q (v := ?_) (i := 0) rfl (by kernel_rfl) (by kernel_rfl) (by kernel_rfl) (fun _ _ _ h => h) (by rfl) hHeld ?_ ?_
                        rotate_left
                        · (intro w' hS'; go_simp <;> (with_reducible rfl))
                        simp only [Act.put, List.getElem_toArray, List.getElem_cons_zero, List.getElem_cons_succ, List.setIfInBounds_toArray, List.set_cons_zero, List.set_cons_succ]
                        refine held_q (v := ?_) (i := 1) rfl (by kernel_rfl) (by kernel_rfl) (by kernel_rfl) (fun _ _ _ h => h) (by rfl) hHeld ?_ ?_
                        rotate_left
                        · (intro w' hS'; go_simp <;> (with_reducible rfl))
                        simp only [Act.put, List.getElem_toArray, List.getElem_cons_zero, List.getElem_cons_succ, List.setIfInBounds_toArray, List.set_cons_zero, List.set_cons_succ]
                        refine held_q (v := ?_) (i := 2) rfl (by kernel_rfl) (by kernel_rfl) (by kernel_rfl) (fun _ _ _ h => h) (by rfl) hHeld ?_ ?_
                        rotate_left
                        · (intro w' hS'; go_simp <;> (with_reducible rfl))
                        simp only [Act.put, List.getElem_toArray, List.getElem_cons_zero, List.getElem_cons_succ, List.setIfInBounds_toArray, List.set_cons_zero, List.set_cons_succ]
                        refine held_q (v := ?_) (i := 3) rfl (by kernel_rfl) (by kernel_rfl) (by kernel_rfl) (fun _ _ _ h => h) (by rfl) hHeld ?_ ?_
                        rotate_left
                        · (intro w' hS'; go_simp <;> (with_reducible rfl))
                        simp only [Act.put, List.getElem_toArray, List.getElem_cons_zero, List.getElem_cons_succ, List.setIfInBounds_toArray, List.set_cons_zero, List.set_cons_succ]
                        refine held_q (v := ?_) (i := 4) rfl (by kernel_rfl) (by kernel_rfl) (by kernel_rfl) (fun _ _ _ h => h) (by rfl) hHeld ?_ ?_
                        rotate_left
                        · (intro w' hS'; go_simp <;> (with_reducible rfl))
                        simp only [Act.put, List.getElem_toArray, List.getElem_cons_zero, List.getElem_cons_succ, List.setIfInBounds_toArray, List.set_cons_zero, List.set_cons_succ]
                        refine held_q (v := ?_) (i := 5) rfl (by kernel_rfl) (by kernel_rfl) (by kernel_rfl) (fun _ _ _ h => h) (by rfl) hHeld ?_ ?_
                        rotate_left
                        · (intro w' hS'; go_simp <;> (with_reducible rfl))
                        simp only [Act.put, List.getElem_toArray, List.getElem_cons_zero, List.getElem_cons_succ, List.setIfInBounds_toArray, List.set_cons_zero, List.set_cons_succ]
                        refine held_q (v := ?_) (i := 6) rfl (by kernel_rfl) (by kernel_rfl) (by kernel_rfl) (fun _ _ _ h => h) (by rfl) hHeld ?_ ?_
                        rotate_left
                        · (intro w' hS'; go_simp <;> (with_reducible rfl))
                        simp only [Act.put, List.getElem_toArray, List.getElem_cons_zero, List.getElem_cons_succ, List.setIfInBounds_toArray, List.set_cons_zero, List.set_cons_succ]
                        refine held_q (v := ?_) (i := 7) rfl (by kernel_rfl) (by kernel_rfl) (by kernel_rfl) (fun _ _ _ h => h) (by rfl) hHeld ?_ ?_
                        rotate_left
                        · (intro w' hS'; go_simp <;> (with_reducible rfl))
                        simp only [Act.put, List.getElem_toArray, List.getElem_cons_zero, List.getElem_cons_succ, List.setIfInBounds_toArray, List.set_cons_zero, List.set_cons_succ]
                        refine held_q (v := ?_) (i := 8) rfl (by kernel_rfl) (by kernel_rfl) (by kernel_rfl) (fun _ _ _ h => h) (by rfl) hHeld ?_ ?_
                        rotate_left
                        · (intro w' hS'; go_simp <;> (with_reducible rfl))
                        simp only [Act.put, List.getElem_toArray, List.getElem_cons_zero, List.getElem_cons_succ, List.setIfInBounds_toArray, List.set_cons_zero, List.set_cons_succ]
                        refine held_q (v := ?_) (i := 9) rfl (by kernel_rfl) (by kernel_rfl) (by kernel_rfl) (fun _ _ _ h => h) (by rfl) hHeld ?_ ?_
                        rotate_left
                        · (intro w' hS'; go_simp <;> (with_reducible rfl))
                        simp only [Act.put, List.getElem_toArray, List.getElem_cons_zero, List.getElem_cons_succ, List.setIfInBounds_toArray, List.set_cons_zero, List.set_cons_succ]
                        refine held_q (i := 10) rfl (by kernel_rfl) (by kernel_rfl) (by kernel_rfl) (fun _ _ _ h => h) (by rfl) hHeld (fun w' hS' => exec_load 31 _ rfl rfl (hld hS')) ?_
                        simp only [Act.put, List.getElem_toArray, List.getElem_cons_zero, List.getElem_cons_succ, List.setIfInBounds_toArray, List.set_cons_zero, List.set_cons_succ]
                        refine held_q (i := 11) rfl (by kernel_rfl) (by kernel_rfl) (by kernel_rfl) (fun _ _ _ h => h) (by rfl) hHeld (fun w' hS' => exec_load 31 _ rfl rfl (hlx ((q12.trans hkm).trans hS'))) ?_
                        simp only [Act.put, List.getElem_toArray, List.getElem_cons_zero, List.getElem_cons_succ, List.setIfInBounds_toArray, List.set_cons_zero, List.set_cons_succ]
                        refine held_q (i := 12) rfl (by kernel_rfl) (by kernel_rfl) (by kernel_rfl) (fun _ _ _ h => h) (by rfl) hHeld (fun w' hS' => exec_eql_yes hDy hDj E1.out _ _ rfl rfl rfl) ?_
                        simp only [Act.put, List.getElem_toArray, List.getElem_cons_zero, List.getElem_cons_succ, List.setIfInBounds_toArray, List.set_cons_zero, List.set_cons_succ]
                        refine held_q (v := ?_) (i := 13) rfl (by kernel_rfl) (by kernel_rfl) (by kernel_rfl) (fun _ _ _ h => h) (by rfl) hHeld ?_ ?_
                        rotate_left
                        · (intro w' hS'; go_simp <;> (with_reducible rfl))
                        simp only [Act.put, List.getElem_toArray, List.getElem_cons_zero, List.getElem_cons_succ, List.setIfInBounds_toArray, List.set_cons_zero, List.set_cons_succ]
                        refine held_q (v := ?_) (i := 14) rfl (by kernel_rfl) (by kernel_rfl) (by kernel_rfl) (fun _ _ _ h => h) (by rfl) hHeld ?_ ?_
                        rotate_left
                        · (intro w' hS'; go_simp <;> (with_reducible rfl))
                        simp only [Act.put, List.getElem_toArray, List.getElem_cons_zero, List.getElem_cons_succ, List.setIfInBounds_toArray, List.set_cons_zero, List.set_cons_succ]
                        refine wpAnyH_done (by kernel_rfl) ?_ _
                        go_wp2_with fail
                        go_roundg (owns.length - (m + 1))
                        case rel => exact ⟨m + 1, true, rfl, by omega, rfl, by go_num, hkm.drew, ⟨fun _ => ⟨m, y0, by omega, hy, E1.out⟩, fun _ => rfl⟩⟩
                        case measure => omega
                      · have E1 := Lib.hid e
                        clear e
                        go_wp2_with fail
                        refine wp_region_held_drew (S := (Kept (fun _ => False) wr)) (by kernel_rfl) ((Kept.refl _ wr).drew) (fun hHeld => ?_)
                        refine held_q (v := ?_) (i := 0) rfl (by kernel_rfl) (by kernel_rfl) (by kernel_rfl) (fun _ _ _ h => h) (by rfl) hHeld ?_ ?_
                        rotate_left
                        · (intro w' hS'; go_simp <;> (with_reducible rfl))
                        simp only [Act.put, List.getElem_toArray, List.getElem_cons_zero, List.getElem_cons_succ, List.setIfInBounds_toArray, List.set_cons_zero, List.set_cons_succ]
                        refine held_q (v := ?_) (i := 1) rfl (by kernel_rfl) (by kernel_rfl) (by kernel_rfl) (fun _ _ _ h => h) (by rfl) hHeld ?_ ?_
                        rotate_left
                        · (intro w' hS'; go_simp <;> (with_reducible rfl))
                        simp only [Act.put, List.getElem_toArray, List.getElem_cons_zero, List.getElem_cons_succ, List.setIfInBounds_toArray, List.set_cons_zero, List.set_cons_succ]
                        refine held_q (v := ?_) (i := 2) rfl (by kernel_rfl) (by kernel_rfl) (by kernel_rfl) (fun _ _ _ h => h) (by rfl) hHeld ?_ ?_
                        rotate_left
                        · (intro w' hS'; go_simp <;> (with_reducible rfl))
                        simp only [Act.put, List.getElem_toArray, List.getElem_cons_zero, List.getElem_cons_succ, List.setIfInBounds_toArray, List.set_cons_zero, List.set_cons_succ]
                        refine held_q (v := ?_) (i := 3) rfl (by kernel_rfl) (by kernel_rfl) (by kernel_rfl) (fun _ _ _ h => h) (by rfl) hHeld ?_ ?_
                        rotate_left
                        · (intro w' hS'; go_simp <;> (with_reducible rfl))
                        simp only [Act.put, List.getElem_toArray, List.getElem_cons_zero, List.getElem_cons_succ, List.setIfInBounds_toArray, List.set_cons_zero, List.set_cons_succ]
                        refine held_q (v := ?_) (i := 4) rfl (by kernel_rfl) (by kernel_rfl) (by kernel_rfl) (fun _ _ _ h => h) (by rfl) hHeld ?_ ?_
                        rotate_left
                        · (intro w' hS'; go_simp <;> (with_reducible rfl))
                        simp only [Act.put, List.getElem_toArray, List.getElem_cons_zero, List.getElem_cons_succ, List.setIfInBounds_toArray, List.set_cons_zero, List.set_cons_succ]
                        refine held_q (v := ?_) (i := 5) rfl (by kernel_rfl) (by kernel_rfl) (by kernel_rfl) (fun _ _ _ h => h) (by rfl) hHeld ?_ ?_
                        rotate_left
                        · (intro w' hS'; go_simp <;> (with_reducible rfl))
                        simp only [Act.put, List.getElem_toArray, List.getElem_cons_zero, List.getElem_cons_succ, List.setIfInBounds_toArray, List.set_cons_zero, List.set_cons_succ]
                        refine held_q (v := ?_) (i := 6) rfl (by kernel_rfl) (by kernel_rfl) (by kernel_rfl) (fun _ _ _ h => h) (by rfl) hHeld ?_ ?_
                        rotate_left
                        · (intro w' hS'; go_simp <;> (with_reducible rfl))
                        simp only [Act.put, List.getElem_toArray, List.getElem_cons_zero, List.getElem_cons_succ, List.setIfInBounds_toArray, List.set_cons_zero, List.set_cons_succ]
                        refine held_q (v := ?_) (i := 7) rfl (by kernel_rfl) (by kernel_rfl) (by kernel_rfl) (fun _ _ _ h => h) (by rfl) hHeld ?_ ?_
                        rotate_left
                        · (intro w' hS'; go_simp <;> (with_reducible rfl))
                        simp only [Act.put, List.getElem_toArray, List.getElem_cons_zero, List.getElem_cons_succ, List.setIfInBounds_toArray, List.set_cons_zero, List.set_cons_succ]
                        refine held_q (v := ?_) (i := 8) rfl (by kernel_rfl) (by kernel_rfl) (by kernel_rfl) (fun _ _ _ h => h) (by rfl) hHeld ?_ ?_
                        rotate_left
                        · (intro w' hS'; go_simp <;> (with_reducible rfl))
                        simp only [Act.put, List.getElem_toArray, List.getElem_cons_zero, List.getElem_cons_succ, List.setIfInBounds_toArray, List.set_cons_zero, List.set_cons_succ]
                        refine held_q (v := ?_) (i := 9) rfl (by kernel_rfl) (by kernel_rfl) (by kernel_rfl) (fun _ _ _ h => h) (by rfl) hHeld ?_ ?_
                        rotate_left
                        · (intro w' hS'; go_simp <;> (with_reducible rfl))
                        simp only [Act.put, List.getElem_toArray, List.getElem_cons_zero, List.getElem_cons_succ, List.setIfInBounds_toArray, List.set_cons_zero, List.set_cons_succ]
                        refine held_q (i := 10) rfl (by kernel_rfl) (by kernel_rfl) (by kernel_rfl) (fun _ _ _ h => h) (by rfl) hHeld (fun w' hS' => exec_load 31 _ rfl rfl (hld hS')) ?_
                        simp only [Act.put, List.getElem_toArray, List.getElem_cons_zero, List.getElem_cons_succ, List.setIfInBounds_toArray, List.set_cons_zero, List.set_cons_succ]
                        refine held_q (i := 11) rfl (by kernel_rfl) (by kernel_rfl) (by kernel_rfl) (fun _ _ _ h => h) (by rfl) hHeld (fun w' hS' => exec_load 31 _ rfl rfl (hlx ((q12.trans hkm).trans hS'))) ?_
                        simp only [Act.put, List.getElem_toArray, List.getElem_cons_zero, List.getElem_cons_succ, List.setIfInBounds_toArray, List.set_cons_zero, List.set_cons_succ]
                        refine held_q (i := 12) rfl (by kernel_rfl) (by kernel_rfl) (by kernel_rfl) (fun _ _ _ h => h) (by rfl) hHeld (fun w' hS' => exec_eql_no hDy hDj E1.out _ _ rfl rfl rfl) ?_
                        simp only [Act.put, List.getElem_toArray, List.getElem_cons_zero, List.getElem_cons_succ, List.setIfInBounds_toArray, List.set_cons_zero, List.set_cons_succ]
                        refine held_q (v := ?_) (i := 13) rfl (by kernel_rfl) (by kernel_rfl) (by kernel_rfl) (fun _ _ _ h => h) (by rfl) hHeld ?_ ?_
                        rotate_left
                        · (intro w' hS'; go_simp <;> (with_reducible rfl))
                        simp only [Act.put, List.getElem_toArray, List.getElem_cons_zero, List.getElem_cons_succ, List.setIfInBounds_toArray, List.set_cons_zero, List.set_cons_succ]
                        refine held_q (v := ?_) (i := 14) rfl (by kernel_rfl) (by kernel_rfl) (by kernel_rfl) (fun _ _ _ h => h) (by rfl) hHeld ?_ ?_
                        rotate_left
                        · (intro w' hS'; go_simp <;> (with_reducible rfl))
                        simp only [Act.put, List.getElem_toArray, List.getElem_cons_zero, List.getElem_cons_succ, List.setIfInBounds_toArray, List.set_cons_zero, List.set_cons_succ]
                        refine wpAnyH_done (by kernel_rfl) ?_ _
                        go_wp2_with fail
                        go_roundg (owns.length - (m + 1))
                        case rel => exact ⟨m + 1, false, rfl, by omega, rfl, by go_num, hkm.drew, ⟨fun z => (by cases z), fun ⟨q, y, z1, z2, z3⟩ => by
                          by_cases qm : q = m
                          · subst qm; rw [hy] at z2; injection z2 with z2; subst z2; exact absurd z3 E1.out
                          · exact MB.out.2 ⟨q, y, by omega, z2, z3⟩⟩⟩
                        case measure => omega
                  · have hmm : m = owns.length := by omega
                    subst hmm
                    have hmv : mb = (s'.O (.agg F)).isSome := by
                      cases ho : s'.O (.agg F) with
                      | none =>
                        cases mb with
                        | false => rfl
                        | true => obtain ⟨q, y, _, z2, z3⟩ := hmb.1 rfl; have := hRf.o1 q y z2; rw [z3, ho] at this; cases this
                      | some v => obtain ⟨q, y, z1, z2⟩ := hRf.o2 F v ho; exact hmb.2 ⟨q, y, (List.getElem?_eq_some_iff.1 z1).1, z1, z2⟩
                    have mc := mine_ct (Bk.kept a0 (q12.trans hkm) : BkS wr p s') hDj
                    rw [← hmv] at mc
                    have em : (mb != mb) = false := by simp
                    have lF := hlx (q12.trans hkm)
                    clear hmv hmb
                    go_wp2_with (first
                      | (with_reducible refine wpl_load_g 31 _ ?_ rfl ?_ lF ?_
                         · rfl
                         · rfl
                         simp only [Act.put, List.getElem_toArray, List.getElem_cons_zero, List.getElem_cons_succ, List.setIfInBounds_toArray, List.set_cons_zero, List.set_cons_succ]))
                    refine mc.mono ?_
                    rintro e V3 ⟨rfl, q3⟩
                    clear mc lF
                    go_wp2_with fail
                    go_roundg (3 - (j + 1))
                    case rel => exact ⟨j + 1, rfl, by omega, by go_num, ((kcj.trans q12).trans hkm).trans q3⟩
                    case measure => omega
              · have hl3' : ¬ (j : Int) < 3 := by omega
                go_wp2_with fail
                go_roundg (len - (k + 1))
                case measure => omega
                case rel => exact ⟨k + 1, t, s', rfl, by omega, by go_num, rfl, ht0, ht1, hT'.quiet hkj, hI'', hF''⟩
            --d
        · have hkl : k = len := by omega
          subst hkl
          go_wp2_with fail
          refine (known_ct _).mono ?_
          rintro e w' ⟨rfl, hq⟩
          go_wp2_with fail
          go_ret
          exact ⟨rfl, hT.kept.trans hq⟩
    · have h80' : (200 : Int) < (len : Int) := by omega
      go_wp2_with fail
      refine (known_ct _).mono ?_
      rintro e w' ⟨rfl, hq⟩
      go_wp2_with fail
      go_ret
      exact ⟨rfl, hT.kept.trans hq⟩
  · go_enter Try.func3, Try.ntmps3
    go_wp2_with fail
    refine (new_bad id inc wait ttl _ hn).mono ?_
    rintro e W1 ⟨rfl, rfl⟩
    go_wp2_with fail
    refine (rnew_bad id inc wait ttl _ hn).mono ?_
    rintro e W2 ⟨R, rfl, hR, hk2, hbR⟩
    by_cases h80 : len ≤ 200
    · have h80' : ¬ (200 : Int) < (len : Int) := by omega
      go_wp2_with fail
      refine (known_ct _).mono ?_
      rintro e w' ⟨rfl, hq⟩
      go_wp2_with fail
      go_ret
      exact ⟨rfl, hk2.trans hq⟩
    · have h80' : (200 : Int) < (len : Int) := by omega
      go_wp2_with fail
      refine (known_ct _).mono ?_
      rintro e w' ⟨rfl, hq⟩
      go_wp2_with fail
      go_ret
      exact ⟨rfl, hk2.trans hq⟩
end Go.Proofs.Ytbaehaleigpijaa
