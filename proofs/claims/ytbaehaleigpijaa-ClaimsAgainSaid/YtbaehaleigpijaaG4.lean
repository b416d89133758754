/- ClaimsAgain's walk. -/
import Derived.Test.YtbaehaleigpijaaG3
import Derived.Test.YtbaehaleigpijaaQ2
import Derived.Deep.LoopGhost
import Derived.Deep.CutRange
import Derived.Deep.CutBlock
namespace Go.Proofs.Ytbaehaleigpijaa
open Go.RowKit
set_option linter.unusedSimpArgs false
set_option linter.unusedVariables false

def Z39 : Array Value := #[.int .i64 0, .int .i64 0, .int .u8 0] ++ Z36
theorem zeroOp (w : World) : (zeroValue 35).run Try.prog w = .ok (.agg Z39) w := by kernel_rfl
theorem load_op {o : OpR} (ho : o.Ok) {w : World} {b q : Nat} (h : w.rangeAt b q o.cells.toList) : (Instr.loadAt 35 (.pointer (some ⟨b, q, none⟩))).run Try.prog w = .ok (.agg o.cells) w := by
  have := run_loadAt_mid (P := Try.prog) w b q 35 o.cells.toList _ h Try.underlying35 rfl (by rw [Array.length_toList, OpR.size ho]; kernel_rfl)
  simpa using this
theorem load_op_row {o : OpR} (ho : o.Ok) {w : World} {b : Nat} {t : TypeId} {fr : Nat × Nat} (h : w.heap[b]? = some (.cells o.cells t fr)) :
    (Instr.loadAt 35 (.pointer (some ⟨b, 0, none⟩))).run Try.prog w = .ok (.agg o.cells) w :=
  load_row Try.underlying35 rfl h (by rw [OpR.size ho]; kernel_rfl)

/-- Two books in one state, apart. -/
structure Two (W wr : World) (p q : Pl) (s : St) : Prop where
  a : BkS wr p s
  b : BkS wr q s
  kept : Kept (fun k => p.S k ∨ q.S k) W wr
theorem BkS.other {T : Nat → Prop} {w w' : World} {p : Pl} {s : St} (h : BkS w p s) (hk : Kept T w w') (hT : ∀ k, p.S k → ¬ T k) : BkS w' p s :=
  Bk.of_blocks h (hk.block _ (h.lt _ (.inl rfl)) (hT _ (.inl rfl))) (hk.block _ (h.lt _ (.inr (.inl rfl))) (hT _ (.inr (.inl rfl)))) (hk.block _ (h.lt _ (.inr (.inr (.inl rfl)))) (hT _ (.inr (.inr (.inl rfl))))) (hk.block _ (h.lt _ (.inr (.inr (.inr rfl)))) (hT _ (.inr (.inr (.inr rfl)))))
theorem Kept.up {S : Nat → Prop} {a b : World} (h : Kept (fun _ => False) a b) : Kept S a b := h.mono (fun _ _ q => q.elim)
theorem live_two (o : Option Nat) : ∃ x y, liveV o = .tuple #[.int .i64 x, .bool y] := ⟨_, _, rfl⟩
theorem rangeAt_kept {S : Nat → Prop} {w w' : World} (h : Kept S w w') {b o : Nat} (hb : b < w.heap.size) (hS : ¬ S b) {l : List Value} (hr : w.rangeAt b o l) : w'.rangeAt b o l := fun j v hv => by
  have := hr j v hv
  unfold World.cell? at this ⊢
  rw [h.block b hb hS]; exact this

set_option maxRecDepth 100000 in
set_option maxHeartbeats 4000000 in
theorem again_law (w : World) {id inc wait ttl : Int} (hi0 : 0 ≤ inc) {v : Value} {len : Nat} {ops : Nat → OpR} (hops : OpsAt w v len ops) :
    Calls Try.prog 4 #[.int .i64 id, .int .u64 inc, .int .i64 wait, .int .i64 ttl, v] w fun e w' => e = .returned (.bool true) ∧ Kept (fun _ => False) w w' := by
  obtain ⟨ad, cap, rfl, hlen, hat⟩ := hops
  by_cases hn : NewOk id inc wait ttl
  · go_enter Try.func4, Try.ntmps4
    go_wp2_with fail
    refine (new_ct id inc wait ttl _ hn).mono ?_
    rintro e W1 ⟨p, rfl, hk1, hp, hb1⟩
    unfold Pl.ptr
    go_wp2_with fail
    refine (new_ct id inc wait ttl _ hn).mono ?_
    rintro e W2 ⟨q, rfl, hk2, hq, hb2⟩
    have pq : ∀ k, p.S k → ¬ q.S k := fun k h1 h2 => by have := hb1.lt k h1; have := hq k h2; omega
    have hT : Two W2 W2 p q (new0 id inc wait ttl) := ⟨Bk.kept hb1 hk2, hb2, Kept.refl _ _⟩
    have hk12 := hk1.trans hk2
    have hF : Fit (new0 id inc wait ttl) 0 := Fit.new hn hi0
    have hI : Inv (new0 id inc wait ttl) 0 := Inv.new hn
    have pw : ∀ k, p.S k ∨ q.S k → w.heap.size ≤ k := fun k h => h.elim (hp k) (fun h => by have := hq k h; have := hk1.size; omega)
    generalize new0 id inc wait ttl = s0' at hT hF hI
    clear hb1 hb2 hk1 hk2 hn hp hq
    unfold Pl.ptr
    by_cases h80 : len ≤ 80
    · have h80' : ¬ (80 : Int) < (len : Int) := by omega
      go_wp2_with fail
      go_loopg [57, 13] len (fun gk i nw wr => ∃ (k : Nat) (now : Int) (s : St), gk = len - k ∧ k ≤ len ∧ i = .int .i64 k ∧ nw = .int .i64 now ∧ 0 ≤ now ∧ now ≤ 1000 * k ∧ Two W2 wr p q s ∧ Inv s now ∧ Fit s k)
      case atStart => exact ⟨0, 0, s0', by omega, by omega, rfl, rfl, by omega, by omega, hT, hI, hF⟩
      case round =>
        obtain ⟨k, now, s, rfl, hk, rfl, rfl, hn0, hn1, hT, hI, hF⟩ := hrel
        by_cases hlt : k < len
        · obtain ⟨ho, b, o, hadd, hbl, hra⟩ := hat k hlt
          have hw : Kept (fun _ => False) w wr := hk12.trans' hT.kept (fun k h1 h2 => absurd (pw k h2) (Nat.not_le.2 h1))
          have hra : wr.rangeAt b (o + k * 39) (ops k).cells.toList := rangeAt_kept hw hbl not_false hra
          subst hadd
          clear hat
          generalize ops k = op at ho hra
          have l0 := load_op ho hra
          have s0 := store_new (P := Try.prog) (ty := 35) (c := Z39) (c' := op.cells) (by rw [OpR.size ho]; kernel_rfl) (by rw [OpR.size ho]; rfl) (OpR.oneCell ho) (w := wr) rfl
          go_upto_region 9 with (first
            | (with_reducible refine wpl_load 35 _ rfl rfl ?_ l0 ?_
               · rfl
               simp only [Act.put, List.getElem_toArray, List.getElem_cons_zero, List.getElem_cons_succ, List.setIfInBounds_toArray, List.set_cons_zero, List.set_cons_succ])
            | (with_reducible refine wpl_alloc 35 rfl rfl (zeroOp _) ?_
               simp only [World.size_alloc, Act.put, List.getElem_toArray, List.getElem_cons_zero, List.getElem_cons_succ, List.setIfInBounds_toArray, List.set_cons_zero, List.set_cons_succ])
            | (with_reducible refine wpl_store 35 _ _ rfl rfl ?_ ?_ s0 ?_
               · rfl
               · rfl
               simp only [Act.put, List.getElem_toArray, List.getElem_cons_zero, List.getElem_cons_succ, List.setIfInBounds_toArray, List.set_cons_zero, List.set_cons_succ]))
          have hr : (wr.alloc (.cells op.cells 35)).heap[wr.heap.size]? = some (.cells op.cells 35) := heap_last wr _
          have k3 : Kept (fun _ => False) wr (wr.alloc (.cells op.cells 35)) := (Kept.refl _ wr).alloc _
          have z3 : wr.heap.size < (wr.alloc (.cells op.cells 35)).heap.size := by simp
          generalize wr.alloc (.cells op.cells 35) = W3 at hr k3 z3 ⊢
          have nS : ∀ k, p.S k ∨ q.S k → k < wr.heap.size := fun k h => h.elim (hT.a.lt k) (hT.b.lt k)
          generalize wr.heap.size = B at hr z3 nS ⊢
          have cl : ∀ j u, #[Value.int .i64 op.kind, .int .i64 op.by_, .int .u8 op.key][j]? = some u → W3.cell? ⟨B, j, none⟩ = some u := fun j u hu => by
            have hj := (Array.getElem?_eq_some_iff.1 hu).1
            rw [cell_of_row _ _ _ _ _ _ hr]; unfold OpR.cells; rw [Array.getElem?_append_left hj]; exact hu
          have c0 := cl 0 _ rfl
          have c1 := cl 1 _ rfl
          have c2 := cl 2 _ rfl
          clear cl l0 s0
          go_upto_region 10 with fail
          obtain ⟨m0, hm0⟩ : ∃ m, (if op.by_ < 0 then 0 else op.by_) = m := ⟨_, rfl⟩
          rw [hm0]
          obtain ⟨m1, hm1⟩ : ∃ m, (if 1000 < m0 then 1000 else m0) = m := ⟨_, rfl⟩
          rw [hm1]
          have hb1 : 0 ≤ m1 ∧ m1 ≤ 1000 := by
            split at hm1 <;> split at hm0 <;> omega
          clear hm0 hm1
          obtain ⟨t, ht, ht0, ht1, htk⟩ : ∃ t, now + m1 = t ∧ 0 ≤ t ∧ t ≤ 1000 * ((k + 1 : Nat) : Int) ∧ now ≤ t := ⟨_, rfl, by omega, by omega, by omega⟩
          rw [ht]
          clear ht hb1
          have hk0 : 0 ≤ op.key.tmod 3 ∧ op.key.tmod 3 < 256 := by have := ho.key0; have : op.key % 3 = op.key.tmod 3 := by rw [Int.tmod_eq_emod_of_nonneg (by omega)]
                                                                   omega
          have hD : IsDig (dig (op.key.tmod 3)) := dig_is hk0
          have s1 := store_new (P := Try.prog) (ty := 31) (c := Z32) (c' := dig (op.key.tmod 3)) (by rw [hD.size]; kernel_rfl) (by rw [hD.size]; rfl) hD.oneCell (w := W3) rfl
          go_upto_block 2 with (first
            | (with_reducible refine wpl_build 31 _ rfl rfl ?_ (build_dig (op.key.tmod 3) _) ?_
               · (go_simp <;> rfl)
               simp only [Act.put, List.getElem_toArray, List.getElem_cons_zero, List.getElem_cons_succ, List.setIfInBounds_toArray, List.set_cons_zero, List.set_cons_succ])
            | (with_reducible refine wpl_alloc 31 rfl rfl (zeroDig _) ?_
               simp only [World.size_alloc, Act.put, List.getElem_toArray, List.getElem_cons_zero, List.getElem_cons_succ, List.setIfInBounds_toArray, List.set_cons_zero, List.set_cons_succ])
            | (with_reducible refine wpl_store 31 _ _ rfl rfl ?_ ?_ s1 ?_
               · rfl
               · rfl
               simp only [Act.put, List.getElem_toArray, List.getElem_cons_zero, List.getElem_cons_succ, List.setIfInBounds_toArray, List.set_cons_zero, List.set_cons_succ]))
          have hd : (W3.alloc (.cells (dig (op.key.tmod 3)) 31)).heap[W3.heap.size]? = some (.cells (dig (op.key.tmod 3)) 31) := heap_last W3 _
          have k4 : Kept (fun _ => False) wr (W3.alloc (.cells (dig (op.key.tmod 3)) 31)) := k3.alloc _
          have hr4 : (W3.alloc (.cells (dig (op.key.tmod 3)) 31)).heap[B]? = some (.cells op.cells 35) := by rw [Below.heap_alloc _ _ _ z3]; exact hr
          have z4 : B < (W3.alloc (.cells (dig (op.key.tmod 3)) 31)).heap.size := by simp; omega
          generalize W3.alloc (.cells (dig (op.key.tmod 3)) 31) = W4 at hd k4 hr4 z4 ⊢
          have nB : ∀ k, p.S k ∨ q.S k → k ≠ B ∧ k ≠ W3.heap.size := fun k h => by have := nS k h; omega
          have nE : W3.heap.size < W4.heap.size := (Array.getElem?_eq_some_iff.1 hd).1
          generalize W3.heap.size = E at hd nB nE ⊢
          have hcl := fun w : World => claim_ct ho w
          rw [show op.key % 3 = op.key.tmod 3 by have := ho.key0; rw [Int.tmod_eq_emod_of_nonneg (by omega)]] at hcl
          have hlo := fun {w' : World} (q : w'.heap[B]? = some (.cells op.cells 35)) => load_op_row ho q
          have cg : op.cells[38]? = some (.bool op.g) := by
            have := ho.dig.size
            unfold OpR.cells; rw [Array.getElem?_append_right (by simp)]; exact clm_at ho.dig _ _ _ _ 3
          have e1 : ((k + 1 : Nat) : Int) = (k : Int) + 1 := by omega
          have hc1 := hF.count1
          generalize dig (op.key.tmod 3) = D at hD hd hcl
          have hI' : Inv s t := hI.mono htk
          have ba : BkS W4 p s := Bk.kept hT.a k4
          have bb : BkS W4 q s := Bk.kept hT.b k4
          go_cut [17, 18, 19, 20, 21, 22, 23, 24, 25, 26] from 58 to 209 (fun _ _ _ _ _ _ _ _ _ _ wx => ∃ s', Two W2 wx p q s' ∧ Inv s' t ∧ Fit s' ((k + 1 : Nat) : Int))
          case first =>
            by_cases h1 : op.kind = 1
            · --A
              have h1' : (op.kind == 1) = true := by simp [h1]
              clear hcl hlo cg
              have hl := load_dig hD hd
              go_wp2_with (first
                | (with_reducible refine wpl_load 31 _ rfl rfl ?_ hl ?_
                   · rfl
                   simp only [Act.put, List.getElem_toArray, List.getElem_cons_zero, List.getElem_cons_succ, List.setIfInBounds_toArray, List.set_cons_zero, List.set_cons_succ]))
              refine (try_ct ba hI (by omega) hD t (by omega)).mono ?_
              rintro e W5 ⟨v1, rfl, hs1, k5, ba5⟩
              have bb5 : BkS W5 q s := BkS.other bb k5 (fun k h h' => pq k h' h)
              have hl5 := load_dig hD ((k5.block _ nE (fun h => (nB _ (.inl h)).2 rfl)).trans hd)
              clear hl
              go_wp2_with (first
                | (with_reducible refine wpl_load 31 _ rfl rfl ?_ hl5 ?_
                   · rfl
                   simp only [Act.put, List.getElem_toArray, List.getElem_cons_zero, List.getElem_cons_succ, List.setIfInBounds_toArray, List.set_cons_zero, List.set_cons_succ]))
              refine (try_ct bb5 hI (by omega) hD t (by omega)).mono ?_
              rintro e W6 ⟨v2, rfl, hs2, k6, bb6⟩
              have ba6 := BkS.other ba5 k6 pq
              have sl1 := hs1.later k6 bb.lt
              have sl2 := hs2.slc
              clear hl5
              go_wp2_with fail
              refine (same_ct sl1 sl2 (hF.try_ (by omega) hD t).2).mono ?_
              rintro e W7 ⟨rfl, k7⟩
              go_wp2_with fail
              go_meet
              exact ⟨(tryF s D t).2.2, ⟨Bk.kept ba6 k7, Bk.kept bb6 k7, (((hT.kept.trans k4.up).trans (k5.mono (fun _ _ => .inl))).trans (k6.mono (fun _ _ => .inr))).trans k7.up⟩, (hI.try_ D ht0 htk).1, by rw [e1]; exact (hF.try_ (by omega) hD t).1⟩
              --a
            by_cases h2 : op.kind = 2
            · --B
              have h1' : (op.kind == 1) = false := by simp [h1]
              have h2' : (op.kind == 2) = true := by simp [h2]
              clear h1 hcl hlo cg
              go_wp2_with fail
              refine wp_region_held_drew (S := (Kept (fun k => p.S k ∨ q.S k) W4)) (by kernel_rfl) ((Kept.refl _ W4).drew) (fun hHeld => ?_)
              refine held_q (v := ?_) (i := 0) rfl (by kernel_rfl) (by kernel_rfl) (by kernel_rfl) (fun _ _ _ h => h) (by rfl) hHeld ?_ ?_
              rotate_left
              · (intro w' hS'; go_simp <;> (with_reducible rfl))
              simp only [Act.put, List.getElem_toArray, List.getElem_cons_zero, List.getElem_cons_succ, List.setIfInBounds_toArray, List.set_cons_zero, List.set_cons_succ]
              refine held_q (i := 1) rfl (by kernel_rfl) (by kernel_rfl) (by kernel_rfl) (fun _ _ _ h => h) (by rfl) hHeld (fun w' hS' => exec_load 31 _ rfl rfl (load_dig hD ((hS'.block _ nE (fun h => (nB _ h).2 rfl)).trans hd))) ?_
              simp only [Act.put, List.getElem_toArray, List.getElem_cons_zero, List.getElem_cons_succ, List.setIfInBounds_toArray, List.set_cons_zero, List.set_cons_succ]
              refine held_q (v := ?_) (i := 3) rfl (by kernel_rfl) (by kernel_rfl) (by kernel_rfl) (fun _ _ _ h => h) (by rfl) hHeld ?_ ?_
              rotate_left
              · (intro w' hS'; go_simp <;> (with_reducible rfl))
              simp only [Act.put, List.getElem_toArray, List.getElem_cons_zero, List.getElem_cons_succ, List.setIfInBounds_toArray, List.set_cons_zero, List.set_cons_succ]
              refine held_q (i := 4) rfl (by kernel_rfl) (by kernel_rfl) (by kernel_rfl) (fun _ _ _ h => h) (by rfl) hHeld (fun w' hS' => exec_load 31 _ rfl rfl (load_dig hD ((hS'.block _ nE (fun h => (nB _ h).2 rfl)).trans hd))) ?_
              simp only [Act.put, List.getElem_toArray, List.getElem_cons_zero, List.getElem_cons_succ, List.setIfInBounds_toArray, List.set_cons_zero, List.set_cons_succ]
              refine held_c (i := 2) (f := 13) (args := #[.pointer (some ⟨p.B, 0, none⟩), .agg D]) (by kernel_rfl) rfl (by rfl) ?_ (drop_ct (Bk.kept ba ((Kept.refl _ W4).drew)) hD) ?_
              · (go_simp <;> rfl)
              rintro e W5 ⟨v1, rfl, hs1, k5, ba5⟩
              have hHeld := ((Kept.refl _ W4).drew).trans (k5.mono (T := fun k => p.S k ∨ q.S k) (fun _ _ => .inl))
              refine ⟨_, rfl, hHeld, ?_⟩
              simp only [Act.put, List.getElem_toArray, List.getElem_cons_zero, List.getElem_cons_succ, List.setIfInBounds_toArray, List.set_cons_zero, List.set_cons_succ]
              have bb5 : BkS W5 q s := BkS.other (Bk.kept bb ((Kept.refl _ W4).drew)) k5 (fun k h h' => pq k h' h)
              refine held_c (i := 5) (f := 13) (args := #[.pointer (some ⟨q.B, 0, none⟩), .agg D]) (by kernel_rfl) rfl (by rfl) ?_ (drop_ct bb5 hD) ?_
              · (go_simp <;> rfl)
              rintro e W6 ⟨v2, rfl, hs2, k6, bb6⟩
              have hHeld := (((Kept.refl _ W4).drew).trans (k5.mono (T := fun k => p.S k ∨ q.S k) (fun _ _ => .inl))).trans (k6.mono (T := fun k => p.S k ∨ q.S k) (fun _ _ => .inr))
              refine ⟨_, rfl, hHeld, ?_⟩
              simp only [Act.put, List.getElem_toArray, List.getElem_cons_zero, List.getElem_cons_succ, List.setIfInBounds_toArray, List.set_cons_zero, List.set_cons_succ]
              have ba6 := BkS.other ba5 k6 pq
              have sl1 := hs1.later k6 (BkS.lt (s := s) (p := q) (w := W4.drew) (Bk.kept bb ((Kept.refl _ W4).drew)))
              have sl2 := hs2.slc
              refine held_c (i := 6) (f := 12) (args := #[v1, v2]) (by kernel_rfl) rfl (by rfl) ?_ (same_ct sl1 sl2 (hF.drop (by omega) hD).2) ?_
              · (go_simp <;> rfl)
              rintro e W7 ⟨rfl, k7⟩
              have hHeld := ((((Kept.refl _ W4).drew).trans (k5.mono (T := fun k => p.S k ∨ q.S k) (fun _ _ => .inl))).trans (k6.mono (T := fun k => p.S k ∨ q.S k) (fun _ _ => .inr))).trans k7.up
              refine ⟨_, rfl, hHeld, ?_⟩
              simp only [Act.put, List.getElem_toArray, List.getElem_cons_zero, List.getElem_cons_succ, List.setIfInBounds_toArray, List.set_cons_zero, List.set_cons_succ]
              refine held_q (v := ?_) (i := 7) rfl (by kernel_rfl) (by kernel_rfl) (by kernel_rfl) (fun _ _ _ h => h) (by rfl) hHeld ?_ ?_
              rotate_left
              · (intro w' hS'; go_simp <;> (with_reducible rfl))
              simp only [Act.put, List.getElem_toArray, List.getElem_cons_zero, List.getElem_cons_succ, List.setIfInBounds_toArray, List.set_cons_zero, List.set_cons_succ]
              refine wpAnyH_done (by kernel_rfl) ?_ _
              go_wp2_with fail
              go_meet
              exact ⟨(dropF s D).2, ⟨Bk.kept ba6 k7, Bk.kept bb6 k7, (((hT.kept.trans k4.up.drew).trans (k5.mono (T := fun k => p.S k ∨ q.S k) (fun _ _ => .inl))).trans (k6.mono (T := fun k => p.S k ∨ q.S k) (fun _ _ => .inr))).trans k7.up⟩, (hI'.drop D).1, ((hF.drop (by omega) hD).1).mono (by omega)⟩
              --b
            · --C
              have h1' : (op.kind == 1) = false := by simp [h1]
              have h2' : (op.kind == 2) = false := by simp [h2]
              clear h1 h2
              have lb := fun {w' : World} (h : Kept (fun k => p.S k ∨ q.S k) W4 w') => hlo ((h.block _ z4 (fun h => (nB _ h).1 rfl)).trans hr4)
              have l1 := lb (Kept.refl _ W4)
              go_wp2_with (first
                | (with_reducible refine wpl_load 35 _ rfl rfl ?_ l1 ?_
                   · rfl
                   simp only [Act.put, List.getElem_toArray, List.getElem_cons_zero, List.getElem_cons_succ, List.setIfInBounds_toArray, List.set_cons_zero, List.set_cons_succ]))
              refine (hcl _).mono ?_
              rintro e W5 ⟨rfl, k5⟩
              clear l1
              go_wp2_with fail
              refine (hear_ct (Bk.kept ba k5) hI (by omega) hD op.n op.i op.c op.g t ht0 (by omega)).mono ?_
              rintro e W6 ⟨v1, rfl, hs1, k6, ba6⟩
              have q6 : Kept (fun k => p.S k ∨ q.S k) W4 W6 := k5.up.trans (k6.mono (fun _ _ => .inl))
              have bb5 : BkS W5 q s := Bk.kept bb k5
              have bb6 : BkS W6 q s := BkS.other bb5 k6 (fun k h h' => pq k h' h)
              have l2 := lb q6
              go_wp2_with (first
                | (with_reducible refine wpl_load 35 _ rfl rfl ?_ l2 ?_
                   · rfl
                   simp only [Act.put, List.getElem_toArray, List.getElem_cons_zero, List.getElem_cons_succ, List.setIfInBounds_toArray, List.set_cons_zero, List.set_cons_succ]))
              refine (hcl _).mono ?_
              rintro e W7 ⟨rfl, k7⟩
              clear l2
              go_wp2_with fail
              refine (hear_ct (Bk.kept bb6 k7) hI (by omega) hD op.n op.i op.c op.g t ht0 (by omega)).mono ?_
              rintro e W8 ⟨v2, rfl, hs2, k8, bb8⟩
              have ba8 := BkS.other (Bk.kept ba6 k7 : BkS W7 p _) k8 pq
              have q8 : Kept (fun k => p.S k ∨ q.S k) W4 W8 := (q6.trans k7.up).trans (k8.mono (fun _ _ => .inr))
              have l3 := lb q8
              go_wp2_with (first
                | (with_reducible refine wpl_load 35 _ rfl rfl ?_ l3 ?_
                   · rfl
                   simp only [Act.put, List.getElem_toArray, List.getElem_cons_zero, List.getElem_cons_succ, List.setIfInBounds_toArray, List.set_cons_zero, List.set_cons_succ]))
              refine (hcl _).mono ?_
              rintro e W9 ⟨rfl, k9⟩
              clear l3
              go_wp2_with fail
              have hI2 : Inv (hearF s D op.n op.i op.c op.g t).2.2 now := (hI.hear D op.n op.i op.c op.g t).1
              refine (hear_ct (Bk.kept bb8 k9) hI2 (by omega) hD op.n op.i op.c op.g t ht0 (by omega)).mono ?_
              rintro e W10 ⟨v3, rfl, hs3, k10, bb10⟩
              have ba10 := BkS.other (Bk.kept ba8 k9 : BkS W9 p _) k10 pq
              have q10 : Kept (fun k => p.S k ∨ q.S k) W4 W10 := (q8.trans k9.up).trans (k10.mono (fun _ _ => .inr))
              have is := (hF.hear (by omega) hD op.n op.i op.c op.g t).2
              have hFF := ((hF.hear (by omega) hD op.n op.i op.c op.g t).1).mono (show (k : Int) ≤ ((k + 1 : Nat) : Int) by omega)
              have hII := (hI'.hear D op.n op.i op.c op.g t).1
              obtain ⟨f1, f2, f3, f4⟩ := hear_again s D op.n op.i op.c op.g t
              rw [f1] at hs3
              rw [f2] at bb10
              obtain rfl : v3 = .slice none 0 0 := hs3
              have sl1 : SlC W10 v1 (hearF s D op.n op.i op.c op.g t).1 := (hs1.later ((k7.up.trans k8).trans (k9.up.trans k10)) (BkS.lt (s := s) (p := q) (w := W5) (Bk.kept bb k5)))
              have sl2 : SlC W10 v2 (hearF s D op.n op.i op.c op.g t).1 := (hs2.later (k9.up.trans k10) (BkS.lt (s := s) (p := q) (w := W7) (Bk.kept bb6 k7)))
              have cg' : ∀ {w'}, Kept (fun _ => False) W10 w' → w'.cell? ⟨B, 38, none⟩ = some (.bool op.g) := fun h => by
                rw [cell_of_row _ _ _ _ _ _ ((((q10.trans h.up).block _ z4 (fun h => (nB _ h).1 rfl))).trans hr4)]; exact cg
              generalize (hearF (hearF s D op.n op.i op.c op.g t).2.2 D op.n op.i op.c op.g t).2.1 = c2 at f3 f4 ⊢
              generalize (hearF s D op.n op.i op.c op.g t).2.2 = s' at ba10 bb10 hFF hII
              generalize (hearF s D op.n op.i op.c op.g t).2.1 = c1 at f3 f4 ⊢
              generalize (hearF s D op.n op.i op.c op.g t).1 = m at is sl1 sl2
              clear hcl hlo lb hs1 hs2 ba6 bb6 bb8 ba8 hI2 bb5 f1 f2 ba bb k5 k6 k7 k8 k9 k10
              have fin : ∀ {w'}, Kept (fun _ => False) W10 w' → ∃ s', Two W2 w' p q s' ∧ Inv s' t ∧ Fit s' ((k + 1 : Nat) : Int) := fun h => ⟨s', ⟨Bk.kept ba10 h, Bk.kept bb10 h, ((hT.kept.trans k4.up).trans q10).trans h.up⟩, hII, hFF⟩
              by_cases hz : c1 = 0
              · subst hz
                cases hg : op.g with
                | true =>
                  rw [hg] at cg'
                  go_wp2_with fail
                  refine (same_ct sl1 sl2 is).mono ?_
                  rintro e W11 ⟨rfl, k11⟩
                  have cg1 := cg' k11
                  clear cg'
                  go_wp2_with fail
                  go_meet
                  exact fin k11
                | false =>
                  rw [hg] at cg'
                  obtain rfl := f3 rfl hg
                  go_wp2_with fail
                  refine (same_ct sl1 sl2 is).mono ?_
                  rintro e W11 ⟨rfl, k11⟩
                  have cg1 := cg' k11
                  clear cg'
                  go_wp2_with fail
                  go_meet
                  exact fin k11
              · obtain rfl := f4 hz
                have hz' : (c2 == 0) = false := by simp [hz]
                have hz'' : (c2 != 0) = true := by simp [hz]
                clear cg' hz f3 f4
                go_wp2_with fail
                refine (same_ct sl1 sl2 is).mono ?_
                rintro e W11 ⟨rfl, k11⟩
                go_wp2_with fail
                go_meet
                exact fin k11
              --c
          case rest =>
            --D
            obtain ⟨s', hT', hI'', hF''⟩ := hcut
            clear ba bb hI' hI hF hT hcl hlo cg k4 hr4 hd
            go_wp2_with fail
            go_loopw [27] (fun n wx => ∃ j : Nat, j ≤ 3 ∧ n = .int .u8 j ∧ Kept (fun _ => False) wc wx) (fun n _ => 3 - (intOf n).toNat)
            case atStart => exact ⟨0, by omega, rfl, Kept.refl _ _⟩
            case round =>
              obtain ⟨j, hj, rfl, hkj⟩ := hrel
              by_cases hl3 : j < 3
              · have hl3' : (j : Int) < 3 := by omega
                have hDj : IsDig (dig (j : Int)) := dig_is (by omega)
                have sj := store_new (P := Try.prog) (ty := 31) (c := Z32) (c' := dig (j : Int)) (by rw [hDj.size]; kernel_rfl) (by rw [hDj.size]; rfl) hDj.oneCell (w := wr) rfl
                have ba : BkS wr p s' := Bk.kept hT'.a hkj
                have bb : BkS wr q s' := Bk.kept hT'.b hkj
                have hlj := load_dig hDj (heap_last wr (.cells (dig (j : Int)) 31))
                go_upto_region 29 with (first
                  | (with_reducible refine wpl_build 31 _ rfl rfl ?_ (build_dig (j : Int) _) ?_
                     · (go_simp <;> rfl)
                     simp only [Act.put, List.getElem_toArray, List.getElem_cons_zero, List.getElem_cons_succ, List.setIfInBounds_toArray, List.set_cons_zero, List.set_cons_succ])
                  | (with_reducible refine wpl_alloc 31 rfl rfl (zeroDig _) ?_
                     simp only [World.size_alloc, Act.put, List.getElem_toArray, List.getElem_cons_zero, List.getElem_cons_succ, List.setIfInBounds_toArray, List.set_cons_zero, List.set_cons_succ])
                  | (with_reducible refine wpl_store 31 _ _ rfl rfl ?_ ?_ sj ?_
                     · rfl
                     · rfl
                     simp only [Act.put, List.getElem_toArray, List.getElem_cons_zero, List.getElem_cons_succ, List.setIfInBounds_toArray, List.set_cons_zero, List.set_cons_succ]))
                have ke : Kept (fun _ => False) wr (wr.alloc (.cells (dig (j : Int)) 31)) := (Kept.refl _ wr).alloc _
                have hbx : (wr.alloc (.cells (dig (j : Int)) 31)).heap[wr.heap.size]? = some (.cells (dig (j : Int)) 31) := heap_last wr _
                have nx : wr.heap.size < (wr.alloc (.cells (dig (j : Int)) 31)).heap.size := by simp
                generalize wr.alloc (.cells (dig (j : Int)) 31) = V0 at ke hbx nx ⊢
                generalize wr.heap.size = X at hbx nx ⊢
                clear sj hlj
                generalize dig (j : Int) = F at hDj hbx ⊢
                have a0 : BkS V0 p s' := Bk.kept ba ke
                have b0 : BkS V0 q s' := Bk.kept bb ke
                obtain ⟨x, y, hxy⟩ := live_two (live s'.U F t)
                have hlx := fun {w' : World} (h : Kept (fun _ => False) V0 w') => load_dig hDj ((h.block _ nx not_false).trans hbx)
                have l1 := hlx (Kept.refl _ V0)
                have la := live_ct a0 hDj t
                rw [hxy] at la
                go_wp2_with (first
                  | (with_reducible refine wpl_load 31 _ rfl rfl ?_ l1 ?_
                     · rfl
                     simp only [Act.put, List.getElem_toArray, List.getElem_cons_zero, List.getElem_cons_succ, List.setIfInBounds_toArray, List.set_cons_zero, List.set_cons_succ]))
                refine la.mono ?_
                rintro e V1 ⟨rfl, q1⟩
                have l2 := hlx q1
                have lb := live_ct (Bk.kept b0 q1 : BkS V1 q s') hDj t
                rw [hxy] at lb
                clear l1 la
                go_upto_region 31 with (first
                  | (with_reducible refine wpl_load 31 _ rfl rfl ?_ l2 ?_
                     · rfl
                     simp only [Act.put, List.getElem_toArray, List.getElem_cons_zero, List.getElem_cons_succ, List.setIfInBounds_toArray, List.set_cons_zero, List.set_cons_succ]))
                refine lb.mono ?_
                rintro e V2 ⟨rfl, q2⟩
                clear l2 lb hxy
                have q12 := q1.trans q2
                have ex : (x != x) = false := by simp
                have ey : (y != y) = false := by simp
                go_upto_region 31 with (first
                  | (with_reducible refine wpl_load 31 _ rfl rfl ?_ (hlx q1) ?_
                     · rfl
                     simp only [Act.put, List.getElem_toArray, List.getElem_cons_zero, List.getElem_cons_succ, List.setIfInBounds_toArray, List.set_cons_zero, List.set_cons_succ]))
                refine wp_region_held_drew (S := (Kept (fun _ => False) V2)) (by kernel_rfl) ((Kept.refl _ V2).drew) (fun hHeld => ?_)
                refine held_q (v := ?_) (i := 0) rfl (by kernel_rfl) (by kernel_rfl) (by kernel_rfl) (fun _ _ _ h => h) (by rfl) hHeld ?_ ?_
                rotate_left
                · (intro w' hS'; go_simp <;> (with_reducible rfl))
                simp only [Act.put, List.getElem_toArray, List.getElem_cons_zero, List.getElem_cons_succ, List.setIfInBounds_toArray, List.set_cons_zero, List.set_cons_succ]
                refine held_q (v := ?_) (i := 1) rfl (by kernel_rfl) (by kernel_rfl) (by kernel_rfl) (fun _ _ _ h => h) (by rfl) hHeld ?_ ?_
                rotate_left
                · (intro w' hS'; go_simp <;> (with_reducible rfl))
                simp only [Act.put, List.getElem_toArray, List.getElem_cons_zero, List.getElem_cons_succ, List.setIfInBounds_toArray, List.set_cons_zero, List.set_cons_succ]
                refine held_q (v := ?_) (i := 2) rfl (by kernel_rfl) (by kernel_rfl) (by kernel_rfl) (fun _ _ _ h => h) (by rfl) hHeld ?_ ?_
                rotate_left
                · (intro w' hS'; go_simp <;> (with_reducible rfl))
                simp only [Act.put, List.getElem_toArray, List.getElem_cons_zero, List.getElem_cons_succ, List.setIfInBounds_toArray, List.set_cons_zero, List.set_cons_succ]
                refine held_q (v := ?_) (i := 3) rfl (by kernel_rfl) (by kernel_rfl) (by kernel_rfl) (fun _ _ _ h => h) (by rfl) hHeld ?_ ?_
                rotate_left
                · (intro w' hS'; go_simp <;> (with_reducible rfl))
                simp only [Act.put, List.getElem_toArray, List.getElem_cons_zero, List.getElem_cons_succ, List.setIfInBounds_toArray, List.set_cons_zero, List.set_cons_succ]
                refine held_q (v := ?_) (i := 4) rfl (by kernel_rfl) (by kernel_rfl) (by kernel_rfl) (fun _ _ _ h => h) (by rfl) hHeld ?_ ?_
                rotate_left
                · (intro w' hS'; go_simp <;> (with_reducible rfl))
                simp only [Act.put, List.getElem_toArray, List.getElem_cons_zero, List.getElem_cons_succ, List.setIfInBounds_toArray, List.set_cons_zero, List.set_cons_succ]
                refine held_q (v := ?_) (i := 5) rfl (by kernel_rfl) (by kernel_rfl) (by kernel_rfl) (fun _ _ _ h => h) (by rfl) hHeld ?_ ?_
                rotate_left
                · (intro w' hS'; go_simp <;> (with_reducible rfl))
                simp only [Act.put, List.getElem_toArray, List.getElem_cons_zero, List.getElem_cons_succ, List.setIfInBounds_toArray, List.set_cons_zero, List.set_cons_succ]
                refine held_q (v := ?_) (i := 6) rfl (by kernel_rfl) (by kernel_rfl) (by kernel_rfl) (fun _ _ _ h => h) (by rfl) hHeld ?_ ?_
                rotate_left
                · (intro w' hS'; go_simp <;> (with_reducible rfl))
                simp only [Act.put, List.getElem_toArray, List.getElem_cons_zero, List.getElem_cons_succ, List.setIfInBounds_toArray, List.set_cons_zero, List.set_cons_succ]
                refine held_q (v := ?_) (i := 7) rfl (by kernel_rfl) (by kernel_rfl) (by kernel_rfl) (fun _ _ _ h => h) (by rfl) hHeld ?_ ?_
                rotate_left
                · (intro w' hS'; go_simp <;> (with_reducible rfl))
                simp only [Act.put, List.getElem_toArray, List.getElem_cons_zero, List.getElem_cons_succ, List.setIfInBounds_toArray, List.set_cons_zero, List.set_cons_succ]
                refine held_q (v := ?_) (i := 8) rfl (by kernel_rfl) (by kernel_rfl) (by kernel_rfl) (fun _ _ _ h => h) (by rfl) hHeld ?_ ?_
                rotate_left
                · (intro w' hS'; go_simp <;> (with_reducible rfl))
                simp only [Act.put, List.getElem_toArray, List.getElem_cons_zero, List.getElem_cons_succ, List.setIfInBounds_toArray, List.set_cons_zero, List.set_cons_succ]
                refine held_q (v := ?_) (i := 9) rfl (by kernel_rfl) (by kernel_rfl) (by kernel_rfl) (fun _ _ _ h => h) (by rfl) hHeld ?_ ?_
                rotate_left
                · (intro w' hS'; go_simp <;> (with_reducible rfl))
                simp only [Act.put, List.getElem_toArray, List.getElem_cons_zero, List.getElem_cons_succ, List.setIfInBounds_toArray, List.set_cons_zero, List.set_cons_succ]
                refine held_q (i := 10) rfl (by kernel_rfl) (by kernel_rfl) (by kernel_rfl) (fun _ _ _ h => h) (by rfl) hHeld (fun w' hS' => exec_load 31 _ rfl rfl (hlx (q12.trans hS'))) ?_
                simp only [Act.put, List.getElem_toArray, List.getElem_cons_zero, List.getElem_cons_succ, List.setIfInBounds_toArray, List.set_cons_zero, List.set_cons_succ]
                refine held_q (v := ?_) (i := 12) rfl (by kernel_rfl) (by kernel_rfl) (by kernel_rfl) (fun _ _ _ h => h) (by rfl) hHeld ?_ ?_
                rotate_left
                · (intro w' hS'; go_simp <;> (with_reducible rfl))
                simp only [Act.put, List.getElem_toArray, List.getElem_cons_zero, List.getElem_cons_succ, List.setIfInBounds_toArray, List.set_cons_zero, List.set_cons_succ]
                refine held_q (i := 13) rfl (by kernel_rfl) (by kernel_rfl) (by kernel_rfl) (fun _ _ _ h => h) (by rfl) hHeld (fun w' hS' => exec_load 31 _ rfl rfl (hlx (q12.trans hS'))) ?_
                simp only [Act.put, List.getElem_toArray, List.getElem_cons_zero, List.getElem_cons_succ, List.setIfInBounds_toArray, List.set_cons_zero, List.set_cons_succ]
                refine held_c (i := 11) (f := 20) (args := #[.pointer (some ⟨p.B, 0, none⟩), .agg F]) (by kernel_rfl) rfl (by rfl) ?_ (mine_ct (Bk.kept a0 (q12.drew) : BkS V2.drew p s') hDj) ?_
                · (go_simp <;> rfl)
                rintro e V3 ⟨rfl, q3⟩
                have hHeld := ((Kept.refl _ V2).drew).trans q3
                refine ⟨_, rfl, hHeld, ?_⟩
                simp only [Act.put, List.getElem_toArray, List.getElem_cons_zero, List.getElem_cons_succ, List.setIfInBounds_toArray, List.set_cons_zero, List.set_cons_succ]
                refine held_c (i := 14) (f := 20) (args := #[.pointer (some ⟨q.B, 0, none⟩), .agg F]) (by kernel_rfl) rfl (by rfl) ?_ (mine_ct (Bk.kept b0 (q12.drew.trans q3) : BkS V3 q s') hDj) ?_
                · (go_simp <;> rfl)
                rintro e V4 ⟨rfl, q4⟩
                have hHeld := (((Kept.refl _ V2).drew).trans q3).trans q4
                refine ⟨_, rfl, hHeld, ?_⟩
                simp only [Act.put, List.getElem_toArray, List.getElem_cons_zero, List.getElem_cons_succ, List.setIfInBounds_toArray, List.set_cons_zero, List.set_cons_succ]
                refine held_q (v := ?_) (i := 15) rfl (by kernel_rfl) (by kernel_rfl) (by kernel_rfl) (fun _ _ _ h => h) (by rfl) hHeld ?_ ?_
                rotate_left
                · (intro w' hS'; go_simp <;> (with_reducible rfl))
                simp only [Act.put, List.getElem_toArray, List.getElem_cons_zero, List.getElem_cons_succ, List.setIfInBounds_toArray, List.set_cons_zero, List.set_cons_succ]
                refine held_q (v := ?_) (i := 16) rfl (by kernel_rfl) (by kernel_rfl) (by kernel_rfl) (fun _ _ _ h => h) (by rfl) hHeld ?_ ?_
                rotate_left
                · (intro w' hS'; go_simp <;> (with_reducible rfl))
                simp only [Act.put, List.getElem_toArray, List.getElem_cons_zero, List.getElem_cons_succ, List.setIfInBounds_toArray, List.set_cons_zero, List.set_cons_succ]
                refine wpAnyH_done (by kernel_rfl) ?_ _
                go_wp2_with fail
                go_roundw
                case rel => exact ⟨j + 1, by omega, by go_num, hkj.trans (ke.trans ((q12.drew.trans q3).trans q4))⟩
                case measure => simp [intOf]; omega
              · have hl3' : ¬ (j : Int) < 3 := by omega
                go_wp2_with fail
                go_roundg (len - (k + 1))
                case measure => omega
                case rel => exact ⟨k + 1, t, s', rfl, by omega, by go_num, rfl, ht0, ht1, ⟨Bk.kept hT'.a hkj, Bk.kept hT'.b hkj, hT'.kept.trans hkj.up⟩, hI'', hF''⟩
            --d
        · have hkl : k = len := by omega
          subst hkl
          go_wp2_with fail
          refine (known_ct _).mono ?_
          rintro e w' ⟨rfl, hq⟩
          go_wp2_with fail
          go_ret
          exact ⟨rfl, (hk12.trans' hT.kept (fun k h1 h2 => absurd (pw k h2) (Nat.not_le.2 h1))).trans hq⟩
    · have h80' : (80 : Int) < (len : Int) := by omega
      go_wp2_with fail
      refine (known_ct _).mono ?_
      rintro e w' ⟨rfl, hq⟩
      go_wp2_with fail
      go_ret
      exact ⟨rfl, hk12.trans hq⟩
  · go_enter Try.func4, Try.ntmps4
    go_wp2_with fail
    refine (new_bad id inc wait ttl _ hn).mono ?_
    rintro e W1 ⟨rfl, rfl⟩
    go_wp2_with fail
    refine (new_bad id inc wait ttl _ hn).mono ?_
    rintro e W1 ⟨rfl, rfl⟩
    go_wp2_with fail
    refine (known_ct _).mono ?_
    rintro e w' ⟨rfl, hq⟩
    go_wp2_with fail
    go_ret
    exact ⟨rfl, hq⟩
end Go.Proofs.Ytbaehaleigpijaa
