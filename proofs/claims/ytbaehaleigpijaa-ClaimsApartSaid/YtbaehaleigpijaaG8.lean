/- ClaimsApart's walk. -/
import Derived.Test.YtbaehaleigpijaaG7
import Derived.Deep.LoopGhost
import Derived.Deep.CutRange
import Derived.Deep.CutBlock
namespace Go.Proofs.Ytbaehaleigpijaa
open Go.RowKit
set_option linter.unusedSimpArgs false
set_option linter.unusedVariables false

def Z39a : Array Value := #[.int .i64 0, .int .i64 0, .int .u8 0] ++ Z36
theorem zeroOpa (w : World) : (zeroValue 35).run Try.prog w = .ok (.agg Z39a) w := by kernel_rfl
theorem load_opa {o : OpR} (ho : o.Ok) {w : World} {b q : Nat} (h : w.rangeAt b q o.cells.toList) : (Instr.loadAt 35 (.pointer (some ⟨b, q, none⟩))).run Try.prog w = .ok (.agg o.cells) w := by
  have := run_loadAt_mid (P := Try.prog) w b q 35 o.cells.toList _ h Try.underlying35 rfl (by rw [Array.length_toList, OpR.size ho]; kernel_rfl)
  simpa using this
theorem load_opa_row {o : OpR} (ho : o.Ok) {w : World} {b : Nat} {t : TypeId} {fr : Nat × Nat} (h : w.heap[b]? = some (.cells o.cells t fr)) :
    (Instr.loadAt 35 (.pointer (some ⟨b, 0, none⟩))).run Try.prog w = .ok (.agg o.cells) w :=
  load_row Try.underlying35 rfl h (by rw [OpR.size ho]; kernel_rfl)
theorem rangeAt_kept' {S : Nat → Prop} {w w' : World} (h : Kept S w w') {b o : Nat} (hb : b < w.heap.size) (hS : ¬ S b) {l : List Value} (hr : w.rangeAt b o l) : w'.rangeAt b o l := fun j v hv => by
  have := hr j v hv
  unfold World.cell? at this ⊢
  rw [h.block b hb hS]; exact this

/-- What stands from round to round: the book, the two boxes. -/
structure Std (wr : World) (p : Pl) (s : St) (BP TP : Nat) (now : Int) : Prop where
  bk : BkS wr p s
  bp : wr.heap[BP]? = some (.cells #[p.ptr] 24 (0, 0))
  tp : wr.heap[TP]? = some (.cells #[.int .i64 now] 3 (0, 0))
theorem Std.kept {wr w' : World} {p : Pl} {s : St} {BP TP : Nat} {now : Int} (h : Std wr p s BP TP now) {S : Nat → Prop} (hk : Kept S wr w') (h1 : ∀ k, p.S k → ¬ S k) (h2 : ¬ S BP) (h3 : ¬ S TP) : Std w' p s BP TP now :=
  ⟨BkS.apart h.bk hk h1, (hk.block _ (Array.getElem?_eq_some_iff.1 h.bp).1 h2).trans h.bp, (hk.block _ (Array.getElem?_eq_some_iff.1 h.tp).1 h3).trans h.tp⟩

theorem three_rows {w : World} {X Y Z : Nat} (hX : w.heap[X]? = some (.cells ZR3 62 (0, 0))) (hY : w.heap[Y]? = some (.cells ZR3 62 (0, 0))) (hZ : w.heap[Z]? = some (.cells ZR3 62 (0, 0)))
    (xy : X ≠ Y) (xz : X ≠ Z) (yz : Y ≠ Z) {c1 c2 c3 : Array Value} (h1 : c1.size = 3) (h2 : c2.size = 3) (h3 : c3.size = 3) (o1 : c1.all (·.oneCell') = true) (o2 : c2.all (·.oneCell') = true) (o3 : c3.all (·.oneCell') = true) :
    (Instr.storeAt 62 (.pointer (some ⟨X, 0, none⟩)) (.agg c1)).run Try.prog w = .ok () (w.setRow X c1) ∧
    (Instr.storeAt 62 (.pointer (some ⟨Y, 0, none⟩)) (.agg c2)).run Try.prog (w.setRow X c1) = .ok () ((w.setRow X c1).setRow Y c2) ∧
    (Instr.storeAt 62 (.pointer (some ⟨Z, 0, none⟩)) (.agg c3)).run Try.prog ((w.setRow X c1).setRow Y c2) = .ok () (((w.setRow X c1).setRow Y c2).setRow Z c3) ∧
    (((w.setRow X c1).setRow Y c2).setRow Z c3).heap[X]? = some (.cells c1 62 (0, 0)) ∧ (((w.setRow X c1).setRow Y c2).setRow Z c3).heap[Y]? = some (.cells c2 62 (0, 0)) ∧ (((w.setRow X c1).setRow Y c2).setRow Z c3).heap[Z]? = some (.cells c3 62 (0, 0)) := by
  have hY1 : (w.setRow X c1).heap[Y]? = some (.cells ZR3 62 (0, 0)) := by rw [setRow_other _ _ _ _ xy.symm]; exact hY
  have hZ2 : ((w.setRow X c1).setRow Y c2).heap[Z]? = some (.cells ZR3 62 (0, 0)) := by rw [setRow_other _ _ _ _ yz.symm, setRow_other _ _ _ _ xz.symm]; exact hZ
  refine ⟨store_row hX (by rw [h1]; kernel_rfl) (by rw [h1]; rfl) o1, store_row hY1 (by rw [h2]; kernel_rfl) (by rw [h2]; rfl) o2, store_row hZ2 (by rw [h3]; kernel_rfl) (by rw [h3]; rfl) o3, ?_, ?_, setRow_heap _ _ _ _ _ _ hZ2⟩
  · rw [setRow_other _ _ _ _ xz, setRow_other _ _ _ _ xy]; exact setRow_heap _ _ _ _ _ _ hX
  · rw [setRow_other _ _ _ _ yz]; exact setRow_heap _ _ _ _ _ _ hY1
theorem Row3.weak {w : World} {b n : Nat} {f : Nat → Value} (h : Row3 w b n f) : Row3 w b 0 f := by obtain ⟨c, a1, a2, a3, _⟩ := h; exact ⟨c, a1, a2, a3, fun i hi => absurd hi (by omega)⟩
theorem Row3.at {w : World} {b n : Nat} {f : Nat → Value} (h : Row3 w b n f) {j : Nat} (hj : j < n) : w.cell? ⟨b, j, none⟩ = some (f j) := by
  obtain ⟨c, h1, h2, h3, h4⟩ := h
  rw [cell_of_row _ _ _ _ _ _ h1]; exact h4 j hj
theorem r3_at {w : World} {b : Nat} {f : Nat → Value} {t : TypeId} {fr : Nat × Nat} (h : w.heap[b]? = some (.cells #[f 0, f 1, f 2] t fr)) {j : Nat} (hj : j < 3) : w.cell? ⟨b, j, none⟩ = some (f j) := by
  rw [cell_of_row _ _ _ _ _ _ h]
  rcases (by omega : j = 0 ∨ j = 1 ∨ j = 2) with rfl | rfl | rfl <;> rfl

set_option maxRecDepth 100000 in
set_option maxHeartbeats 4000000 in
theorem apart_law (w : World) {id inc wait ttl : Int} (hi0 : 0 ≤ inc) {v : Value} {len : Nat} {ops : Nat → OpR} (hops : OpsAt w v len ops) :
    Calls Try.prog 6 #[.int .i64 id, .int .u64 inc, .int .i64 wait, .int .i64 ttl, v] w fun e w' => e = .returned (.bool true) ∧ Kept (fun _ => False) w w' := by
  obtain ⟨ad, cap, rfl, hlen, hat⟩ := hops
  by_cases hn : NewOk id inc wait ttl
  · go_enter Try.func6, Try.ntmps6
    go_wp2_with fail
    refine (new_ct id inc wait ttl _ hn).mono ?_
    rintro e W1 ⟨p, rfl, hk1, hp, hb1⟩
    have hF : Fit (new0 id inc wait ttl) 0 := Fit.new hn hi0
    have hI : Inv (new0 id inc wait ttl) 0 := Inv.new hn
    generalize new0 id inc wait ttl = s0' at hb1 hF hI
    clear hn
    have hb1' := hb1.lt
    unfold Pl.ptr
    by_cases h80 : len ≤ 200
    · have h80' : ¬ (200 : Int) < (len : Int) := by omega
      go_wp2_with fail
      have k0 : Kept (fun _ => False) W1 ((W1.alloc (.cells #[.pointer (some ⟨p.B, 0, none⟩)] 24)).alloc (.cells #[.int .i64 0] 3)) := ((Kept.refl _ W1).alloc _).alloc _
      have hSt : Std ((W1.alloc (.cells #[.pointer (some ⟨p.B, 0, none⟩)] 24)).alloc (.cells #[.int .i64 0] 3)) p s0' W1.heap.size (W1.heap.size + 1) 0 :=
        ⟨Bk.kept hb1 k0, by rw [Below.heap_alloc _ _ _ (by simp)]; exact heap_last W1 _, heap_at (by simp)⟩
      have hw0 : Kept (fun _ => False) w ((W1.alloc (.cells #[.pointer (some ⟨p.B, 0, none⟩)] 24)).alloc (.cells #[.int .i64 0] 3)) := hk1.trans k0
      have hz1 := hk1.size
      have aS : ∀ k, p.S k ∨ k = W1.heap.size ∨ k = W1.heap.size + 1 → w.heap.size ≤ k := fun k h => by
        rcases h with h | h | h
        · exact hp k h
        · omega
        · omega
      have nBP : ¬ p.S W1.heap.size := fun h => absurd (hb1' _ h) (Nat.lt_irrefl _)
      have nTP : ¬ p.S (W1.heap.size + 1) := fun h => by have := hb1' _ h; omega
      have nBT : W1.heap.size ≠ W1.heap.size + 1 := by omega
      generalize (W1.alloc (.cells #[.pointer (some ⟨p.B, 0, none⟩)] 24)).alloc (.cells #[.int .i64 0] 3) = W0 at hSt hw0 ⊢
      clear k0 hb1 hb1' hk1 hp hz1
      generalize W1.heap.size + 1 = TP at hSt aS nTP nBT ⊢
      generalize W1.heap.size = BP at hSt aS nBP nBT ⊢
      go_loopg [39] len (fun gk i wr => ∃ (k : Nat) (now : Int) (s : St), gk = len - k ∧ k ≤ len ∧ i = .int .i64 k ∧ 0 ≤ now ∧ now ≤ 1000 * k ∧ Std wr p s BP TP now ∧ Kept (fun k => p.S k ∨ k = BP ∨ k = TP) W0 wr ∧ Inv s now ∧ Fit s k)
      case atStart => exact ⟨0, 0, s0', by omega, by omega, rfl, by omega, by omega, hSt, Kept.refl _ _, hI, hF⟩
      case round =>
        obtain ⟨k, now, s, rfl, hk, rfl, hn0, hn1, hT, hkw, hI, hF⟩ := hrel
        by_cases hlt : k < len
        · obtain ⟨ho, b, o, hadd, hbl, hra⟩ := hat k hlt
          have hw : Kept (fun _ => False) w wr := hw0.trans' hkw (fun k h1 h2 => absurd (aS k h2) (Nat.not_le.2 h1))
          have hra : wr.rangeAt b (o + k * 39) (ops k).cells.toList := rangeAt_kept' hw hbl not_false hra
          subst hadd
          clear hat hw
          generalize ops k = op at ho hra
          have l0 := load_opa ho hra
          have s0 := store_new (P := Try.prog) (ty := 35) (c := Z39a) (c' := op.cells) (by rw [OpR.size ho]; kernel_rfl) (by rw [OpR.size ho]; rfl) (OpR.oneCell ho) (w := wr) rfl
          go_upto_region 9 with (first
            | (with_reducible refine wpl_load 35 _ rfl rfl ?_ l0 ?_
               · rfl
               simp only [Act.put, List.getElem_toArray, List.getElem_cons_zero, List.getElem_cons_succ, List.setIfInBounds_toArray, List.set_cons_zero, List.set_cons_succ])
            | (with_reducible refine wpl_alloc 35 rfl rfl (zeroOpa _) ?_
               simp only [World.size_alloc, Act.put, List.getElem_toArray, List.getElem_cons_zero, List.getElem_cons_succ, List.setIfInBounds_toArray, List.set_cons_zero, List.set_cons_succ])
            | (with_reducible refine wpl_store 35 _ _ rfl rfl ?_ ?_ s0 ?_
               · rfl
               · rfl
               simp only [Act.put, List.getElem_toArray, List.getElem_cons_zero, List.getElem_cons_succ, List.setIfInBounds_toArray, List.set_cons_zero, List.set_cons_succ]))
          have hr : (wr.alloc (.cells op.cells 35)).heap[wr.heap.size]? = some (.cells op.cells 35) := heap_last wr _
          have k3 : Kept (fun k => p.S k ∨ k = BP ∨ k = TP) wr (wr.alloc (.cells op.cells 35)) := (Kept.refl _ wr).alloc _
          have z3 : wr.heap.size < (wr.alloc (.cells op.cells 35)).heap.size := by simp
          have hT3 : Std (wr.alloc (.cells op.cells 35)) p s BP TP now := hT.kept ((Kept.refl (fun _ => False) wr).alloc _) (fun _ _ => not_false) not_false not_false
          have nS : ∀ k, p.S k ∨ k = BP ∨ k = TP → k < wr.heap.size := fun k h => by
            rcases h with h | rfl | rfl
            · exact hT.bk.lt k h
            · exact (Array.getElem?_eq_some_iff.1 hT.bp).1
            · exact (Array.getElem?_eq_some_iff.1 hT.tp).1
          generalize wr.alloc (.cells op.cells 35) = W3 at hr k3 z3 hT3 ⊢
          generalize wr.heap.size = B at hr z3 nS ⊢
          have cl : ∀ j u, #[Value.int .i64 op.kind, .int .i64 op.by_, .int .u8 op.key][j]? = some u → W3.cell? ⟨B, j, none⟩ = some u := fun j u hu => by
            have hj := (Array.getElem?_eq_some_iff.1 hu).1
            rw [cell_of_row _ _ _ _ _ _ hr]; unfold OpR.cells; rw [Array.getElem?_append_left hj]; exact hu
          have c1 := cl 1 _ rfl
          have ct : W3.cell? ⟨TP, 0, none⟩ = some (.int .i64 now) := cell_of_one hT3.tp
          have ft : W3.frozen? ⟨TP, 0, none⟩ = false := free_of_one hT3.tp
          clear cl l0 s0
          go_upto_region 10 with fail
          clear ct ft c1
          obtain ⟨m0, hm0⟩ : ∃ m, (if op.by_ < 0 then 0 else op.by_) = m := ⟨_, rfl⟩
          rw [hm0]
          obtain ⟨m1, hm1⟩ : ∃ m, (if 1000 < m0 then 1000 else m0) = m := ⟨_, rfl⟩
          rw [hm1]
          have hb1 : 0 ≤ m1 ∧ m1 ≤ 1000 := by
            split at hm1 <;> split at hm0 <;> omega
          clear hm0 hm1
          obtain ⟨t, ht, ht0, ht1, htk⟩ : ∃ t, now + m1 = t ∧ 0 ≤ t ∧ t ≤ 1000 * ((k + 1 : Nat) : Int) ∧ now ≤ t := ⟨_, rfl, by omega, by omega, by omega⟩
          rw [ht]
          clear ht hb1
          have hB4 : (W3.setCell ⟨TP, 0, none⟩ (.int .i64 t)).heap[B]? = some (.cells op.cells 35) := by
            rw [Below.heap_setCell _ _ _ _ (show B ≠ TP from fun e => by have := nS TP (.inr (.inr rfl)); omega)]; exact hr
          have k4 : Kept (fun k => p.S k ∨ k = BP ∨ k = TP) wr (W3.setCell ⟨TP, 0, none⟩ (.int .i64 t)) := k3.setCell (fun _ => .inr (.inr rfl)) _
          have hT4 : Std (W3.setCell ⟨TP, 0, none⟩ (.int .i64 t)) p s BP TP t :=
            ⟨BkS.apart (T := fun k => k = TP) hT3.bk ((Kept.refl (fun k => k = TP) W3).setCell (p := ⟨TP, 0, none⟩) (fun _ => rfl) _) (fun k h e => nTP (e ▸ h)), by rw [Below.heap_setCell _ _ _ _ nBT]; exact hT3.bp, one_setCell hT3.tp⟩
          have z4 : B < (W3.setCell ⟨TP, 0, none⟩ (.int .i64 t)).heap.size := (Array.getElem?_eq_some_iff.1 hB4).1
          generalize W3.setCell ⟨TP, 0, none⟩ (.int .i64 t) = W4 at hB4 k4 hT4 z4 ⊢
          clear hr k3 z3 hT3 hT hra
          have c2 : W4.cell? ⟨B, 2, none⟩ = some (.int .u8 op.key) := by rw [cell_of_row _ _ _ _ _ _ hB4]; unfold OpR.cells; rw [Array.getElem?_append_left (by simp)]; rfl
          go_upto_region 14 with (first
            | (with_reducible refine wpl_alloc 62 rfl rfl (zeroR3 _) ?_
               simp only [World.size_alloc, Act.put, List.getElem_toArray, List.getElem_cons_zero, List.getElem_cons_succ, List.setIfInBounds_toArray, List.set_cons_zero, List.set_cons_succ]))
          have k5 : Kept (fun _ => False) W4 (((W4.alloc (.cells ZR3 62)).alloc (.cells ZR3 62)).alloc (.cells ZR3 62)) := (((Kept.refl _ W4).alloc _).alloc _).alloc _
          have x1 : Row3 (((W4.alloc (.cells ZR3 62)).alloc (.cells ZR3 62)).alloc (.cells ZR3 62)) W4.heap.size 0 (fun _ => .int .i64 0) := Row3.zero (by
            rw [Below.heap_alloc _ _ _ (by simp; omega), Below.heap_alloc _ _ _ (by simp)]; exact heap_last W4 _)
          have x2 : Row3 (((W4.alloc (.cells ZR3 62)).alloc (.cells ZR3 62)).alloc (.cells ZR3 62)) (W4.heap.size + 1) 0 (fun _ => .int .i64 0) := Row3.zero (by
            rw [Below.heap_alloc _ _ _ (by simp)]; exact heap_at (by simp))
          have x3 : Row3 (((W4.alloc (.cells ZR3 62)).alloc (.cells ZR3 62)).alloc (.cells ZR3 62)) (W4.heap.size + 1 + 1) 0 (fun _ => .int .i64 0) := Row3.zero (heap_at (by simp))
          generalize (((W4.alloc (.cells ZR3 62)).alloc (.cells ZR3 62)).alloc (.cells ZR3 62)) = W5 at k5 x1 x2 x3 ⊢
          have hT5 : Std W5 p s BP TP t := hT4.kept k5 (fun _ _ => not_false) not_false not_false
          have aN : ∀ k, (k = B ∨ p.S k ∨ k = BP ∨ k = TP) → k < W4.heap.size := fun k h => by
            rcases h with rfl | h
            · exact z4
            · have := nS k h; omega
          have nlm : W4.heap.size ≠ W4.heap.size + 1 ∧ W4.heap.size ≠ W4.heap.size + 1 + 1 ∧ W4.heap.size + 1 ≠ W4.heap.size + 1 + 1 := by omega
          have aL : ∀ k, (k = B ∨ p.S k ∨ k = BP ∨ k = TP) → k ≠ W4.heap.size ∧ k ≠ W4.heap.size + 1 ∧ k ≠ W4.heap.size + 1 + 1 := fun k h => by have := aN k h; omega
          have hwN : ∀ k, k = W4.heap.size ∨ k = W4.heap.size + 1 ∨ k = W4.heap.size + 1 + 1 → W4.heap.size ≤ k := fun k h => by omega
          have hB5 : W5.heap[B]? = some (.cells op.cells 35) := (k5.block _ z4 not_false).trans hB4
          have z5 : W4.heap.size ≤ W5.heap.size := k5.size
          have nz0 : W0.heap.size ≤ W4.heap.size := Nat.le_trans hkw.size k4.size
          generalize W4.heap.size + 1 + 1 = M at x3 nlm aL hwN ⊢
          generalize W4.heap.size + 1 = L at x2 nlm aL hwN ⊢
          generalize W4.heap.size = N at x1 nlm aL aN hwN z4 z5 nz0 ⊢
          have cl := look_ct hT5.bk hT5.bp hT5.tp x1 x2 x3 nlm.1 nlm.2.1 nlm.2.2 (aL BP (.inr (.inr (.inl rfl)))) (aL TP (.inr (.inr (.inr rfl)))) (fun k h => aL k (.inr (.inl h)))
          clear x1 x2 x3 c2
          go_upto_region 15 with (go_at_call 21; refine cl.mono ?_; rintro e W6 ⟨rfl, k6, n6, l6, m6⟩)
          have hn6 := n6.full
          have hl6 := l6.full
          have hm6 := m6.full
          obtain ⟨cN, eN⟩ : ∃ c, c = #[nvI s t 0, nvI s t 1, nvI s t 2] := ⟨_, rfl⟩
          obtain ⟨cL, eL⟩ : ∃ c, c = #[lvI s t 0, lvI s t 1, lvI s t 2] := ⟨_, rfl⟩
          obtain ⟨cM, eM⟩ : ∃ c, c = #[mvI s 0, mvI s 1, mvI s 2] := ⟨_, rfl⟩
          have sN : cN.size = 3 := by rw [eN]; rfl
          have sL : cL.size = 3 := by rw [eL]; rfl
          have sM : cM.size = 3 := by rw [eM]; rfl
          have oN : cN.all (·.oneCell') = true := by rw [eN]; simp [nvI, Value.oneCell']
          have oL : cL.all (·.oneCell') = true := by rw [eL]; simp [lvI, Value.oneCell']
          have oM : cM.all (·.oneCell') = true := by rw [eM]; simp [mvI, Value.oneCell']
          rw [← eN] at hn6; rw [← eL] at hl6; rw [← eM] at hm6
          have EE : Aside (cN = #[nvI s t 0, nvI s t 1, nvI s t 2] ∧ cL = #[lvI s t 0, lvI s t 1, lvI s t 2] ∧ cM = #[mvI s 0, mvI s 1, mvI s 2]) := ⟨eN, eL, eM⟩
          clear eN eL eM
          have zN := n6.lt
          have zL := l6.lt
          have zM := m6.lt
          go_cut [20, 21, 22] from 40 to 117 (fun a c e wx => ∃ A C E : Nat, a = .pointer (some ⟨A, 0, none⟩) ∧ c = .pointer (some ⟨C, 0, none⟩) ∧ e = .pointer (some ⟨E, 0, none⟩) ∧ W6.heap.size ≤ A ∧ W6.heap.size ≤ C ∧ W6.heap.size ≤ E ∧
            wx.heap[A]? = some (.cells cN 62 (0, 0)) ∧ wx.heap[C]? = some (.cells cL 62 (0, 0)) ∧ wx.heap[E]? = some (.cells cM 62 (0, 0)) ∧ Kept (fun _ => False) W6 wx)
          case first =>
            --A
            clear hB5 hB4 hT4 hT5 k4 k5 k6 cl
            refine wp_region_held_drew (S := (Kept (fun _ => False) W6)) (by kernel_rfl) ((Kept.refl _ W6).drew) (fun hHeld => ?_)
            refine held_q (i := 0) rfl (by kernel_rfl) (by kernel_rfl) (by kernel_rfl) (fun _ _ _ h => h) (by rfl) hHeld (fun w' hS' => exec_load 62 _ rfl rfl (load_r3 sN ((hS'.block _ zN not_false).trans hn6))) ?_
            simp only [Act.put, List.getElem_toArray, List.getElem_cons_zero, List.getElem_cons_succ, List.setIfInBounds_toArray, List.set_cons_zero, List.set_cons_succ]
            refine held_q (i := 1) rfl (by kernel_rfl) (by kernel_rfl) (by kernel_rfl) (fun _ _ _ h => h) (by rfl) hHeld (fun w' hS' => exec_load 62 _ rfl rfl (load_r3 sL ((hS'.block _ zL not_false).trans hl6))) ?_
            simp only [Act.put, List.getElem_toArray, List.getElem_cons_zero, List.getElem_cons_succ, List.setIfInBounds_toArray, List.set_cons_zero, List.set_cons_succ]
            refine held_q (i := 2) rfl (by kernel_rfl) (by kernel_rfl) (by kernel_rfl) (fun _ _ _ h => h) (by rfl) hHeld (fun w' hS' => exec_load 62 _ rfl rfl (load_r3 sM ((hS'.block _ zM not_false).trans hm6))) ?_
            simp only [Act.put, List.getElem_toArray, List.getElem_cons_zero, List.getElem_cons_succ, List.setIfInBounds_toArray, List.set_cons_zero, List.set_cons_succ]
            have zV : W6.heap.size ≤ W6.drew.heap.size := hHeld.size
            generalize W6.drew = V at hHeld zV ⊢
            have r1 : ∀ {a : Act} {o : Oper}, o.op = .alloc 62 → (execOp a.eval o).run Try.prog V = .ok (.value (.pointer (some ⟨V.heap.size, 0, none⟩))) (V.alloc (.cells ZR3 62)) := fun h => exec_alloc _ h (zeroR3 _)
            have y1 : V.heap.size < (V.alloc (.cells ZR3 62)).heap.size ∧ (V.alloc (.cells ZR3 62)).heap[V.heap.size]? = some (.cells ZR3 62 (0, 0)) := ⟨by simp, heap_last V _⟩
            have q1 : Kept (fun _ => False) W6 (V.alloc (.cells ZR3 62)) := hHeld.alloc _
            generalize V.alloc (.cells ZR3 62) = A1 at r1 y1 q1
            have r2 : ∀ {a : Act} {o : Oper}, o.op = .alloc 62 → (execOp a.eval o).run Try.prog A1 = .ok (.value (.pointer (some ⟨A1.heap.size, 0, none⟩))) (A1.alloc (.cells ZR3 62)) := fun h => exec_alloc _ h (zeroR3 _)
            have y2 : A1.heap.size < (A1.alloc (.cells ZR3 62)).heap.size ∧ (A1.alloc (.cells ZR3 62)).heap[A1.heap.size]? = some (.cells ZR3 62 (0, 0)) ∧ (A1.alloc (.cells ZR3 62)).heap[V.heap.size]? = some (.cells ZR3 62 (0, 0)) := ⟨by simp, heap_last A1 _, by rw [Below.heap_alloc _ _ _ y1.1]; exact y1.2⟩
            have q2 : Kept (fun _ => False) W6 (A1.alloc (.cells ZR3 62)) := q1.alloc _
            generalize A1.alloc (.cells ZR3 62) = A2 at r2 y2 q2
            have r3 : ∀ {a : Act} {o : Oper}, o.op = .alloc 62 → (execOp a.eval o).run Try.prog A2 = .ok (.value (.pointer (some ⟨A2.heap.size, 0, none⟩))) (A2.alloc (.cells ZR3 62)) := fun h => exec_alloc _ h (zeroR3 _)
            have y3 : (A2.alloc (.cells ZR3 62)).heap[A2.heap.size]? = some (.cells ZR3 62 (0, 0)) := heap_last A2 _
            have y4 : (A2.alloc (.cells ZR3 62)).heap[A1.heap.size]? = some (.cells ZR3 62 (0, 0)) := by rw [Below.heap_alloc _ _ _ y2.1]; exact y2.2.1
            have y5 : (A2.alloc (.cells ZR3 62)).heap[V.heap.size]? = some (.cells ZR3 62 (0, 0)) := by rw [Below.heap_alloc _ _ _ (by omega)]; exact y2.2.2
            have q3 : Kept (fun _ => False) W6 (A2.alloc (.cells ZR3 62)) := q2.alloc _
            generalize A2.alloc (.cells ZR3 62) = A3 at r3 y3 y4 y5 q3
            have z12 := y1.1
            have z23 := y2.1
            clear y1 y2
            have y1 := y5
            have y2 := y4
            clear y4 y5
            generalize A2.heap.size = P3 at r3 y3 z23
            generalize A1.heap.size = P2 at r2 y2 z12 z23
            generalize V.heap.size = P1 at r1 y1 z12 zV
            refine held_sym3 (i := 3) (j := 4) (k := 5) (by kernel_rfl) rfl rfl rfl (by rfl) (by rfl) (by rfl) (r1 rfl) (r1 rfl) (r1 rfl) q1 (fun hHeld => ?_) (fun hHeld => ?_) (fun hHeld => ?_)
            · simp only [Act.put, List.getElem_toArray, List.getElem_cons_zero, List.getElem_cons_succ, List.setIfInBounds_toArray, List.set_cons_zero, List.set_cons_succ]
              refine held_sym2 (i := 4) (j := 5) (by kernel_rfl) rfl rfl (by rfl) (by rfl) (r2 rfl) (r2 rfl) q2 (fun hHeld => ?_) (fun hHeld => ?_)
              · simp only [Act.put, List.getElem_toArray, List.getElem_cons_zero, List.getElem_cons_succ, List.setIfInBounds_toArray, List.set_cons_zero, List.set_cons_succ]
                refine held_v (i := 5) (by kernel_rfl) rfl (by rfl) (r3 rfl) q3 (fun hHeld => ?_)
                simp only [Act.put, List.getElem_toArray, List.getElem_cons_zero, List.getElem_cons_succ, List.setIfInBounds_toArray, List.set_cons_zero, List.set_cons_succ]
                obtain ⟨s1, s2, s3, g1, g2, g3⟩ := three_rows y1 y2 y3 (by omega) (by omega) (by omega) sN sL sM oN oL oM
                refine held_s (i := 6) (w1 := A3.setRow P1 cN) (by kernel_rfl) rfl (by rfl) ?_ ?_ (fun hHeld => ?_)
                · refine exec_store (p := .pointer (some ⟨P1, 0, none⟩)) (q := .agg cN) 62 (.tmp 20) (.tmp 58) ?_ ?_ ?_ ?_
                  · rfl
                  · rfl
                  · rfl
                  · exact s1
                · exact q3.setRow (fun h => by omega) cN
                simp only [Act.put, List.getElem_toArray, List.getElem_cons_zero, List.getElem_cons_succ, List.setIfInBounds_toArray, List.set_cons_zero, List.set_cons_succ]
                refine held_s (i := 7) (w1 := (A3.setRow P1 cN).setRow P2 cL) (by kernel_rfl) rfl (by rfl) ?_ ?_ (fun hHeld => ?_)
                · refine exec_store (p := .pointer (some ⟨P2, 0, none⟩)) (q := .agg cL) 62 (.tmp 21) (.tmp 59) ?_ ?_ ?_ ?_
                  · rfl
                  · rfl
                  · rfl
                  · exact s2
                · exact (q3.setRow (fun h => by omega) cN).setRow (fun h => by omega) cL
                simp only [Act.put, List.getElem_toArray, List.getElem_cons_zero, List.getElem_cons_succ, List.setIfInBounds_toArray, List.set_cons_zero, List.set_cons_succ]
                refine held_s (i := 8) (w1 := ((A3.setRow P1 cN).setRow P2 cL).setRow P3 cM) (by kernel_rfl) rfl (by rfl) ?_ ?_ (fun hHeld => ?_)
                · refine exec_store (p := .pointer (some ⟨P3, 0, none⟩)) (q := .agg cM) 62 (.tmp 22) (.tmp 60) ?_ ?_ ?_ ?_
                  · rfl
                  · rfl
                  · rfl
                  · exact s3
                · exact ((q3.setRow (fun h => by omega) cN).setRow (fun h => by omega) cL).setRow (fun h => by omega) cM
                simp only [Act.put, List.getElem_toArray, List.getElem_cons_zero, List.getElem_cons_succ, List.setIfInBounds_toArray, List.set_cons_zero, List.set_cons_succ]
                refine wpAnyH_done (by kernel_rfl) ?_ _
                go_wp2_with fail
                go_meet
                exact ⟨P1, P2, P3, rfl, rfl, rfl, by omega, by omega, by omega, g1, g2, g3, hHeld⟩
              · simp only [Act.put, List.getElem_toArray, List.getElem_cons_zero, List.getElem_cons_succ, List.setIfInBounds_toArray, List.set_cons_zero, List.set_cons_succ]
                refine held_v (i := 4) (by kernel_rfl) rfl (by rfl) (r3 rfl) q3 (fun hHeld => ?_)
                simp only [Act.put, List.getElem_toArray, List.getElem_cons_zero, List.getElem_cons_succ, List.setIfInBounds_toArray, List.set_cons_zero, List.set_cons_succ]
                obtain ⟨s1, s2, s3, g1, g2, g3⟩ := three_rows y1 y3 y2 (by omega) (by omega) (by omega) sN sL sM oN oL oM
                refine held_s (i := 6) (w1 := A3.setRow P1 cN) (by kernel_rfl) rfl (by rfl) ?_ ?_ (fun hHeld => ?_)
                · refine exec_store (p := .pointer (some ⟨P1, 0, none⟩)) (q := .agg cN) 62 (.tmp 20) (.tmp 58) ?_ ?_ ?_ ?_
                  · rfl
                  · rfl
                  · rfl
                  · exact s1
                · exact q3.setRow (fun h => by omega) cN
                simp only [Act.put, List.getElem_toArray, List.getElem_cons_zero, List.getElem_cons_succ, List.setIfInBounds_toArray, List.set_cons_zero, List.set_cons_succ]
                refine held_s (i := 7) (w1 := (A3.setRow P1 cN).setRow P3 cL) (by kernel_rfl) rfl (by rfl) ?_ ?_ (fun hHeld => ?_)
                · refine exec_store (p := .pointer (some ⟨P3, 0, none⟩)) (q := .agg cL) 62 (.tmp 21) (.tmp 59) ?_ ?_ ?_ ?_
                  · rfl
                  · rfl
                  · rfl
                  · exact s2
                · exact (q3.setRow (fun h => by omega) cN).setRow (fun h => by omega) cL
                simp only [Act.put, List.getElem_toArray, List.getElem_cons_zero, List.getElem_cons_succ, List.setIfInBounds_toArray, List.set_cons_zero, List.set_cons_succ]
                refine held_s (i := 8) (w1 := ((A3.setRow P1 cN).setRow P3 cL).setRow P2 cM) (by kernel_rfl) rfl (by rfl) ?_ ?_ (fun hHeld => ?_)
                · refine exec_store (p := .pointer (some ⟨P2, 0, none⟩)) (q := .agg cM) 62 (.tmp 22) (.tmp 60) ?_ ?_ ?_ ?_
                  · rfl
                  · rfl
                  · rfl
                  · exact s3
                · exact ((q3.setRow (fun h => by omega) cN).setRow (fun h => by omega) cL).setRow (fun h => by omega) cM
                simp only [Act.put, List.getElem_toArray, List.getElem_cons_zero, List.getElem_cons_succ, List.setIfInBounds_toArray, List.set_cons_zero, List.set_cons_succ]
                refine wpAnyH_done (by kernel_rfl) ?_ _
                go_wp2_with fail
                go_meet
                exact ⟨P1, P3, P2, rfl, rfl, rfl, by omega, by omega, by omega, g1, g2, g3, hHeld⟩
            · simp only [Act.put, List.getElem_toArray, List.getElem_cons_zero, List.getElem_cons_succ, List.setIfInBounds_toArray, List.set_cons_zero, List.set_cons_succ]
              refine held_sym2 (i := 3) (j := 5) (by kernel_rfl) rfl rfl (by rfl) (by rfl) (r2 rfl) (r2 rfl) q2 (fun hHeld => ?_) (fun hHeld => ?_)
              · simp only [Act.put, List.getElem_toArray, List.getElem_cons_zero, List.getElem_cons_succ, List.setIfInBounds_toArray, List.set_cons_zero, List.set_cons_succ]
                refine held_v (i := 5) (by kernel_rfl) rfl (by rfl) (r3 rfl) q3 (fun hHeld => ?_)
                simp only [Act.put, List.getElem_toArray, List.getElem_cons_zero, List.getElem_cons_succ, List.setIfInBounds_toArray, List.set_cons_zero, List.set_cons_succ]
                obtain ⟨s1, s2, s3, g1, g2, g3⟩ := three_rows y2 y1 y3 (by omega) (by omega) (by omega) sN sL sM oN oL oM
                refine held_s (i := 6) (w1 := A3.setRow P2 cN) (by kernel_rfl) rfl (by rfl) ?_ ?_ (fun hHeld => ?_)
                · refine exec_store (p := .pointer (some ⟨P2, 0, none⟩)) (q := .agg cN) 62 (.tmp 20) (.tmp 58) ?_ ?_ ?_ ?_
                  · rfl
                  · rfl
                  · rfl
                  · exact s1
                · exact q3.setRow (fun h => by omega) cN
                simp only [Act.put, List.getElem_toArray, List.getElem_cons_zero, List.getElem_cons_succ, List.setIfInBounds_toArray, List.set_cons_zero, List.set_cons_succ]
                refine held_s (i := 7) (w1 := (A3.setRow P2 cN).setRow P1 cL) (by kernel_rfl) rfl (by rfl) ?_ ?_ (fun hHeld => ?_)
                · refine exec_store (p := .pointer (some ⟨P1, 0, none⟩)) (q := .agg cL) 62 (.tmp 21) (.tmp 59) ?_ ?_ ?_ ?_
                  · rfl
                  · rfl
                  · rfl
                  · exact s2
                · exact (q3.setRow (fun h => by omega) cN).setRow (fun h => by omega) cL
                simp only [Act.put, List.getElem_toArray, List.getElem_cons_zero, List.getElem_cons_succ, List.setIfInBounds_toArray, List.set_cons_zero, List.set_cons_succ]
                refine held_s (i := 8) (w1 := ((A3.setRow P2 cN).setRow P1 cL).setRow P3 cM) (by kernel_rfl) rfl (by rfl) ?_ ?_ (fun hHeld => ?_)
                · refine exec_store (p := .pointer (some ⟨P3, 0, none⟩)) (q := .agg cM) 62 (.tmp 22) (.tmp 60) ?_ ?_ ?_ ?_
                  · rfl
                  · rfl
                  · rfl
                  · exact s3
                · exact ((q3.setRow (fun h => by omega) cN).setRow (fun h => by omega) cL).setRow (fun h => by omega) cM
                simp only [Act.put, List.getElem_toArray, List.getElem_cons_zero, List.getElem_cons_succ, List.setIfInBounds_toArray, List.set_cons_zero, List.set_cons_succ]
                refine wpAnyH_done (by kernel_rfl) ?_ _
                go_wp2_with fail
                go_meet
                exact ⟨P2, P1, P3, rfl, rfl, rfl, by omega, by omega, by omega, g1, g2, g3, hHeld⟩
              · simp only [Act.put, List.getElem_toArray, List.getElem_cons_zero, List.getElem_cons_succ, List.setIfInBounds_toArray, List.set_cons_zero, List.set_cons_succ]
                refine held_v (i := 3) (by kernel_rfl) rfl (by rfl) (r3 rfl) q3 (fun hHeld => ?_)
                simp only [Act.put, List.getElem_toArray, List.getElem_cons_zero, List.getElem_cons_succ, List.setIfInBounds_toArray, List.set_cons_zero, List.set_cons_succ]
                obtain ⟨s1, s2, s3, g1, g2, g3⟩ := three_rows y3 y1 y2 (by omega) (by omega) (by omega) sN sL sM oN oL oM
                refine held_s (i := 6) (w1 := A3.setRow P3 cN) (by kernel_rfl) rfl (by rfl) ?_ ?_ (fun hHeld => ?_)
                · refine exec_store (p := .pointer (some ⟨P3, 0, none⟩)) (q := .agg cN) 62 (.tmp 20) (.tmp 58) ?_ ?_ ?_ ?_
                  · rfl
                  · rfl
                  · rfl
                  · exact s1
                · exact q3.setRow (fun h => by omega) cN
                simp only [Act.put, List.getElem_toArray, List.getElem_cons_zero, List.getElem_cons_succ, List.setIfInBounds_toArray, List.set_cons_zero, List.set_cons_succ]
                refine held_s (i := 7) (w1 := (A3.setRow P3 cN).setRow P1 cL) (by kernel_rfl) rfl (by rfl) ?_ ?_ (fun hHeld => ?_)
                · refine exec_store (p := .pointer (some ⟨P1, 0, none⟩)) (q := .agg cL) 62 (.tmp 21) (.tmp 59) ?_ ?_ ?_ ?_
                  · rfl
                  · rfl
                  · rfl
                  · exact s2
                · exact (q3.setRow (fun h => by omega) cN).setRow (fun h => by omega) cL
                simp only [Act.put, List.getElem_toArray, List.getElem_cons_zero, List.getElem_cons_succ, List.setIfInBounds_toArray, List.set_cons_zero, List.set_cons_succ]
                refine held_s (i := 8) (w1 := ((A3.setRow P3 cN).setRow P1 cL).setRow P2 cM) (by kernel_rfl) rfl (by rfl) ?_ ?_ (fun hHeld => ?_)
                · refine exec_store (p := .pointer (some ⟨P2, 0, none⟩)) (q := .agg cM) 62 (.tmp 22) (.tmp 60) ?_ ?_ ?_ ?_
                  · rfl
                  · rfl
                  · rfl
                  · exact s3
                · exact ((q3.setRow (fun h => by omega) cN).setRow (fun h => by omega) cL).setRow (fun h => by omega) cM
                simp only [Act.put, List.getElem_toArray, List.getElem_cons_zero, List.getElem_cons_succ, List.setIfInBounds_toArray, List.set_cons_zero, List.set_cons_succ]
                refine wpAnyH_done (by kernel_rfl) ?_ _
                go_wp2_with fail
                go_meet
                exact ⟨P3, P1, P2, rfl, rfl, rfl, by omega, by omega, by omega, g1, g2, g3, hHeld⟩
            · simp only [Act.put, List.getElem_toArray, List.getElem_cons_zero, List.getElem_cons_succ, List.setIfInBounds_toArray, List.set_cons_zero, List.set_cons_succ]
              refine held_sym2 (i := 3) (j := 4) (by kernel_rfl) rfl rfl (by rfl) (by rfl) (r2 rfl) (r2 rfl) q2 (fun hHeld => ?_) (fun hHeld => ?_)
              · simp only [Act.put, List.getElem_toArray, List.getElem_cons_zero, List.getElem_cons_succ, List.setIfInBounds_toArray, List.set_cons_zero, List.set_cons_succ]
                refine held_v (i := 4) (by kernel_rfl) rfl (by rfl) (r3 rfl) q3 (fun hHeld => ?_)
                simp only [Act.put, List.getElem_toArray, List.getElem_cons_zero, List.getElem_cons_succ, List.setIfInBounds_toArray, List.set_cons_zero, List.set_cons_succ]
                obtain ⟨s1, s2, s3, g1, g2, g3⟩ := three_rows y2 y3 y1 (by omega) (by omega) (by omega) sN sL sM oN oL oM
                refine held_s (i := 6) (w1 := A3.setRow P2 cN) (by kernel_rfl) rfl (by rfl) ?_ ?_ (fun hHeld => ?_)
                · refine exec_store (p := .pointer (some ⟨P2, 0, none⟩)) (q := .agg cN) 62 (.tmp 20) (.tmp 58) ?_ ?_ ?_ ?_
                  · rfl
                  · rfl
                  · rfl
                  · exact s1
                · exact q3.setRow (fun h => by omega) cN
                simp only [Act.put, List.getElem_toArray, List.getElem_cons_zero, List.getElem_cons_succ, List.setIfInBounds_toArray, List.set_cons_zero, List.set_cons_succ]
                refine held_s (i := 7) (w1 := (A3.setRow P2 cN).setRow P3 cL) (by kernel_rfl) rfl (by rfl) ?_ ?_ (fun hHeld => ?_)
                · refine exec_store (p := .pointer (some ⟨P3, 0, none⟩)) (q := .agg cL) 62 (.tmp 21) (.tmp 59) ?_ ?_ ?_ ?_
                  · rfl
                  · rfl
                  · rfl
                  · exact s2
                · exact (q3.setRow (fun h => by omega) cN).setRow (fun h => by omega) cL
                simp only [Act.put, List.getElem_toArray, List.getElem_cons_zero, List.getElem_cons_succ, List.setIfInBounds_toArray, List.set_cons_zero, List.set_cons_succ]
                refine held_s (i := 8) (w1 := ((A3.setRow P2 cN).setRow P3 cL).setRow P1 cM) (by kernel_rfl) rfl (by rfl) ?_ ?_ (fun hHeld => ?_)
                · refine exec_store (p := .pointer (some ⟨P1, 0, none⟩)) (q := .agg cM) 62 (.tmp 22) (.tmp 60) ?_ ?_ ?_ ?_
                  · rfl
                  · rfl
                  · rfl
                  · exact s3
                · exact ((q3.setRow (fun h => by omega) cN).setRow (fun h => by omega) cL).setRow (fun h => by omega) cM
                simp only [Act.put, List.getElem_toArray, List.getElem_cons_zero, List.getElem_cons_succ, List.setIfInBounds_toArray, List.set_cons_zero, List.set_cons_succ]
                refine wpAnyH_done (by kernel_rfl) ?_ _
                go_wp2_with fail
                go_meet
                exact ⟨P2, P3, P1, rfl, rfl, rfl, by omega, by omega, by omega, g1, g2, g3, hHeld⟩
              · simp only [Act.put, List.getElem_toArray, List.getElem_cons_zero, List.getElem_cons_succ, List.setIfInBounds_toArray, List.set_cons_zero, List.set_cons_succ]
                refine held_v (i := 3) (by kernel_rfl) rfl (by rfl) (r3 rfl) q3 (fun hHeld => ?_)
                simp only [Act.put, List.getElem_toArray, List.getElem_cons_zero, List.getElem_cons_succ, List.setIfInBounds_toArray, List.set_cons_zero, List.set_cons_succ]
                obtain ⟨s1, s2, s3, g1, g2, g3⟩ := three_rows y3 y2 y1 (by omega) (by omega) (by omega) sN sL sM oN oL oM
                refine held_s (i := 6) (w1 := A3.setRow P3 cN) (by kernel_rfl) rfl (by rfl) ?_ ?_ (fun hHeld => ?_)
                · refine exec_store (p := .pointer (some ⟨P3, 0, none⟩)) (q := .agg cN) 62 (.tmp 20) (.tmp 58) ?_ ?_ ?_ ?_
                  · rfl
                  · rfl
                  · rfl
                  · exact s1
                · exact q3.setRow (fun h => by omega) cN
                simp only [Act.put, List.getElem_toArray, List.getElem_cons_zero, List.getElem_cons_succ, List.setIfInBounds_toArray, List.set_cons_zero, List.set_cons_succ]
                refine held_s (i := 7) (w1 := (A3.setRow P3 cN).setRow P2 cL) (by kernel_rfl) rfl (by rfl) ?_ ?_ (fun hHeld => ?_)
                · refine exec_store (p := .pointer (some ⟨P2, 0, none⟩)) (q := .agg cL) 62 (.tmp 21) (.tmp 59) ?_ ?_ ?_ ?_
                  · rfl
                  · rfl
                  · rfl
                  · exact s2
                · exact (q3.setRow (fun h => by omega) cN).setRow (fun h => by omega) cL
                simp only [Act.put, List.getElem_toArray, List.getElem_cons_zero, List.getElem_cons_succ, List.setIfInBounds_toArray, List.set_cons_zero, List.set_cons_succ]
                refine held_s (i := 8) (w1 := ((A3.setRow P3 cN).setRow P2 cL).setRow P1 cM) (by kernel_rfl) rfl (by rfl) ?_ ?_ (fun hHeld => ?_)
                · refine exec_store (p := .pointer (some ⟨P1, 0, none⟩)) (q := .agg cM) 62 (.tmp 22) (.tmp 60) ?_ ?_ ?_ ?_
                  · rfl
                  · rfl
                  · rfl
                  · exact s3
                · exact ((q3.setRow (fun h => by omega) cN).setRow (fun h => by omega) cL).setRow (fun h => by omega) cM
                simp only [Act.put, List.getElem_toArray, List.getElem_cons_zero, List.getElem_cons_succ, List.setIfInBounds_toArray, List.set_cons_zero, List.set_cons_succ]
                refine wpAnyH_done (by kernel_rfl) ?_ _
                go_wp2_with fail
                go_meet
                exact ⟨P3, P2, P1, rfl, rfl, rfl, by omega, by omega, by omega, g1, g2, g3, hHeld⟩
            --a
          case rest =>
            obtain ⟨A, C, E, rfl, rfl, rfl, zA, zC, zE, hA, hC, hE, k7⟩ := hcut
            have hk0 : 0 ≤ op.key.tmod 3 ∧ op.key.tmod 3 < 3 := by
              have := ho.key0
              have : op.key % 3 = op.key.tmod 3 := by rw [Int.tmod_eq_emod_of_nonneg (by omega)]
              omega
            have hD : IsDig (dig (op.key.tmod 3)) := dig_is (by omega)
            have hcl := fun w : World => claim_ct ho w
            rw [show op.key % 3 = op.key.tmod 3 by have := ho.key0; rw [Int.tmod_eq_emod_of_nonneg (by omega)]] at hcl
            have sz5 := k5.size
            have sz6 := k6.size
            have sz7 := k7.size
            have zB6 : B < W6.heap.size := by omega
            have hT6 : Std W6 p s BP TP t := hT5.kept k6 (fun k h e => by have := aL k (.inr (.inl h)); omega) (fun e => by have := aL BP (.inr (.inr (.inl rfl))); omega) (fun e => by have := aL TP (.inr (.inr (.inr rfl))); omega)
            have hB6 : W6.heap[B]? = some (.cells op.cells 35) := (k6.block _ (by omega) (fun e => by have := aL B (.inl rfl); omega)).trans hB5
            have hT7 : Std wc p s BP TP t := hT6.kept k7 (fun _ _ => not_false) not_false not_false
            have hB7 : wc.heap[B]? = some (.cells op.cells 35) := (k7.block _ zB6 not_false).trans hB6
            have n7 : Row3 wc N 3 (nvI s t) := n6.of (k7.block _ zN not_false)
            have l7 : Row3 wc L 3 (lvI s t) := l6.of (k7.block _ zL not_false)
            have m7 : Row3 wc M 3 (mvI s) := m6.of (k7.block _ zM not_false)
            have kW : Kept (fun k => p.S k ∨ k = BP ∨ k = TP) W0 wc :=
              (((hkw.trans k4).trans k5.upto).trans' k6 (fun k h1 h2 => by have := hwN k h2; omega)).trans k7.upto
            have nW0 : ∀ k, k = N ∨ k = L ∨ k = M → W0.heap.size ≤ k := fun k h => by have := hwN k h; omega
            clear hT6 hT5 hT4 hB6 hB5 hB4 cl k4 k5 n6 l6 m6 hn6 hl6 hm6
            have e1 : ((k + 1 : Nat) : Int) = (k : Int) + 1 := by omega
            have hc1 := hF.count1
            have cK : wc.cell? ⟨B, 0, none⟩ = some (.int .i64 op.kind) := by rw [cell_of_row _ _ _ _ _ _ hB7]; unfold OpR.cells; rw [Array.getElem?_append_left (by simp)]; rfl
            go_upto_block 2 with fail
            clear cK
            go_cut [] from 40 to 117 (fun wx => ∃ s', Std wx p s' BP TP t ∧ Kept p.S wc wx ∧ Inv s' t ∧ Fit s' ((k + 1 : Nat) : Int) ∧ ∀ E, dig (op.key.tmod 3) ≠ E → Alike s s' E t)
            case first =>
              --B
              have cB : wc.cell? ⟨BP, 0, none⟩ = some p.ptr := cell_of_one hT7.bp
              have cT : wc.cell? ⟨TP, 0, none⟩ = some (.int .i64 t) := cell_of_one hT7.tp
              unfold Pl.ptr at cB
              have sBP : ∀ {w'}, Kept p.S wc w' → w'.heap[BP]? = some (.cells #[p.ptr] 24 (0, 0)) := fun q => (q.block _ (Array.getElem?_eq_some_iff.1 hT7.bp).1 nBP).trans hT7.bp
              have sTP : ∀ {w'}, Kept p.S wc w' → w'.heap[TP]? = some (.cells #[.int .i64 t] 3 (0, 0)) := fun q => (q.block _ (Array.getElem?_eq_some_iff.1 hT7.tp).1 nTP).trans hT7.tp
              by_cases h1 : op.kind = 1
              · have h1' : (op.kind == 1) = true := by simp [h1]
                have ct := try_ct hT7.bk hI (by omega) hD t (by omega)
                clear hcl
                go_wp2_with (first
                  | (with_reducible refine wpl_build 31 _ rfl rfl ?_ (build_dig (op.key.tmod 3) _) ?_
                     · (go_simp <;> rfl)
                     simp only [Act.put, List.getElem_toArray, List.getElem_cons_zero, List.getElem_cons_succ, List.setIfInBounds_toArray, List.set_cons_zero, List.set_cons_succ]))
                refine ct.mono ?_
                rintro e W8 ⟨v1, rfl, hs1, k8, b8⟩
                go_wp2_with fail
                go_meet
                exact ⟨(tryF s (dig (op.key.tmod 3)) t).2.2, ⟨b8, sBP k8, sTP k8⟩, k8, (hI.try_ (dig (op.key.tmod 3)) ht0 htk).1, by rw [e1]; exact (hF.try_ (by omega) hD t).1, fun E h => try_apart s h t t⟩
              by_cases h2 : op.kind = 2
              · have h1' : (op.kind == 1) = false := by simp [h1]
                have h2' : (op.kind == 2) = true := by simp [h2]
                have ct := drop_ct hT7.bk hD
                clear h1 hcl
                go_wp2_with (first
                  | (with_reducible refine wpl_build 31 _ rfl rfl ?_ (build_dig (op.key.tmod 3) _) ?_
                     · (go_simp <;> rfl)
                     simp only [Act.put, List.getElem_toArray, List.getElem_cons_zero, List.getElem_cons_succ, List.setIfInBounds_toArray, List.set_cons_zero, List.set_cons_succ]))
                refine ct.mono ?_
                rintro e W8 ⟨v1, rfl, hs1, k8, b8⟩
                go_wp2_with fail
                go_meet
                exact ⟨(dropF s (dig (op.key.tmod 3))).2, ⟨b8, sBP k8, sTP k8⟩, k8, ((hI.drop (dig (op.key.tmod 3))).1).mono htk, ((hF.drop (by omega) hD).1).mono (by omega), fun E h => drop_apart s h t⟩
              · have h1' : (op.kind == 1) = false := by simp [h1]
                have h2' : (op.kind == 2) = false := by simp [h2]
                clear h1 h2
                have bB : ∀ w', Kept p.S wc w' → w'.cell? ⟨BP, 0, none⟩ = some (.pointer (some ⟨p.B, 0, none⟩)) := fun w' q => cell_of_one (sBP q)
                have bT : ∀ w', Kept p.S wc w' → w'.cell? ⟨TP, 0, none⟩ = some (.int .i64 t) := fun w' q => cell_of_one (sTP q)
                go_wp2_with fail
                refine wp_region_held_drew (S := (Kept p.S wc)) (by kernel_rfl) ((Kept.refl _ wc).drew) (fun hHeld => ?_)
                refine held_q (v := ?_) (i := 0) rfl (by kernel_rfl) (by kernel_rfl) (by kernel_rfl) (fun _ _ _ h => h) (by rfl) hHeld ?_ ?_
                rotate_left
                · (intro w' hS'; go_simp <;> (with_reducible rfl))
                simp only [Act.put, List.getElem_toArray, List.getElem_cons_zero, List.getElem_cons_succ, List.setIfInBounds_toArray, List.set_cons_zero, List.set_cons_succ]
                refine held_q (i := 1) rfl (by kernel_rfl) (by kernel_rfl) (by kernel_rfl) (fun _ _ _ h => h) (by rfl) hHeld (fun w' hS' => exec_load 35 _ rfl rfl (load_opa_row ho ((hS'.block _ (Array.getElem?_eq_some_iff.1 hB7).1 (fun h => by have := nS B (.inl h); omega)).trans hB7))) ?_
                simp only [Act.put, List.getElem_toArray, List.getElem_cons_zero, List.getElem_cons_succ, List.setIfInBounds_toArray, List.set_cons_zero, List.set_cons_succ]
                refine held_q (v := ?_) (i := 3) rfl (by kernel_rfl) (by kernel_rfl) (by kernel_rfl) (fun _ _ _ h => h) (by rfl) hHeld ?_ ?_
                rotate_left
                · (intro w' hS'; go_simp <;> (with_reducible rfl))
                simp only [Act.put, List.getElem_toArray, List.getElem_cons_zero, List.getElem_cons_succ, List.setIfInBounds_toArray, List.set_cons_zero, List.set_cons_succ]
                refine held_c (i := 2) (f := 16) (args := #[.agg op.cells]) (by kernel_rfl) rfl (by rfl) ?_ (hcl _) ?_
                · (go_simp <;> rfl)
                rintro e W8 ⟨rfl, k8⟩
                have hHeld := ((Kept.refl p.S wc).drew).trans k8.upto
                refine ⟨_, rfl, hHeld, ?_⟩
                simp only [Act.put, List.getElem_toArray, List.getElem_cons_zero, List.getElem_cons_succ, List.setIfInBounds_toArray, List.set_cons_zero, List.set_cons_succ]
                refine held_c (i := 4) (f := 15) (args := #[.pointer (some ⟨p.B, 0, none⟩), .agg (clm (dig (op.key.tmod 3)) op.n op.i op.c op.g), .int .i64 t]) (by kernel_rfl) rfl (by rfl) ?_ (hear_ct (Bk.kept hT7.bk (((Kept.refl (fun _ => False) wc).drew).trans k8) : BkS W8 p s) hI (by omega) hD op.n op.i op.c op.g t ht0 (by omega)) ?_
                · (go_simp <;> rfl)
                rintro e W9 ⟨v1, rfl, hs1, k9, b9⟩
                have hHeld := (((Kept.refl p.S wc).drew).trans k8.upto).trans k9
                refine ⟨_, rfl, hHeld, ?_⟩
                simp only [Act.put, List.getElem_toArray, List.getElem_cons_zero, List.getElem_cons_succ, List.setIfInBounds_toArray, List.set_cons_zero, List.set_cons_succ]
                refine wpAnyH_done (by kernel_rfl) ?_ _
                go_wp2_with fail
                go_meet
                exact ⟨(hearF s (dig (op.key.tmod 3)) op.n op.i op.c op.g t).2.2, ⟨b9, sBP hHeld, sTP hHeld⟩, hHeld, ((hI.hear (dig (op.key.tmod 3)) op.n op.i op.c op.g t).1).mono htk, ((hF.hear (by omega) hD op.n op.i op.c op.g t).1).mono (by omega), fun E h => hear_apart s h op.n op.i op.c op.g t t⟩
              --b
            case rest =>
              --C
              obtain ⟨s', hT8, k8, hI8, hF8, hal⟩ := hcut
              clear hT7 hB7 hcl
              have n8 : Row3 wc N 0 (nvI s t) := (n7.of (k8.block _ n7.lt (fun h => (aL N (.inr (.inl h))).1 rfl))).weak
              have l8 : Row3 wc L 0 (lvI s t) := (l7.of (k8.block _ l7.lt (fun h => (aL L (.inr (.inl h))).2.1 rfl))).weak
              have m8 : Row3 wc M 0 (mvI s) := (m7.of (k8.block _ m7.lt (fun h => (aL M (.inr (.inl h))).2.2 rfl))).weak
              have hA8 := (k8.block _ (Array.getElem?_eq_some_iff.1 hA).1 (fun h => by have := aN A (.inr (.inl h)); omega)).trans hA
              have hC8 := (k8.block _ (Array.getElem?_eq_some_iff.1 hC).1 (fun h => by have := aN C (.inr (.inl h)); omega)).trans hC
              have hE8 := (k8.block _ (Array.getElem?_eq_some_iff.1 hE).1 (fun h => by have := aN E (.inr (.inl h)); omega)).trans hE
              have cl2 := look_ct hT8.bk hT8.bp hT8.tp n8 l8 m8 nlm.1 nlm.2.1 nlm.2.2 (aL BP (.inr (.inr (.inl rfl)))) (aL TP (.inr (.inr (.inr rfl)))) (fun k h => aL k (.inr (.inl h)))
              have kW8 := kW.trans (k8.mono (T := fun k => p.S k ∨ k = BP ∨ k = TP) (fun _ _ => .inl))
              clear n8 l8 m8 n7 l7 m7 hA hC hE k7 k8 kW hkw hI hF
              go_upto_block 3 with (go_at_call 21; refine cl2.mono ?_; rintro e W9 ⟨rfl, k9, n9, l9, m9⟩)
              clear cl2
              have hT9 : Std W9 p s' BP TP t := hT8.kept k9 (fun k h e => by have := aL k (.inr (.inl h)); omega) (fun e => by have := aL BP (.inr (.inr (.inl rfl))); omega) (fun e => by have := aL TP (.inr (.inr (.inr rfl))); omega)
              have hA9 := (k9.block _ (Array.getElem?_eq_some_iff.1 hA8).1 (fun h => by omega)).trans hA8
              have hC9 := (k9.block _ (Array.getElem?_eq_some_iff.1 hC8).1 (fun h => by omega)).trans hC8
              have hE9 := (k9.block _ (Array.getElem?_eq_some_iff.1 hE8).1 (fun h => by omega)).trans hE8
              have kW9 := kW8.trans' k9 (fun k h1 h2 => absurd (nW0 k h2) (Nat.not_le.2 h1))
              clear hT8 k9 kW8 hA8 hC8 hE8
              go_wp2_with fail
              go_loopw [23] (fun n wx => ∃ j : Nat, j ≤ 3 ∧ n = .int .u8 j ∧ Kept (fun _ => False) W9 wx) (fun n _ => 3 - (intOf n).toNat)
              case atStart => exact ⟨0, by omega, rfl, Kept.refl _ _⟩
              case round =>
                obtain ⟨j, hj, rfl, hkj⟩ := hrel
                by_cases hl3 : j < 3
                · have hl3' : (j : Int) < 3 := by omega
                  obtain ⟨eN, eL, eM⟩ := EE.out
                  have gA : ∀ w', Kept (fun _ => False) wr w' → w'.cell? ⟨A, j, none⟩ = some (nvI s t j) := fun w' q => r3_at (((hkj.trans q).block _ (Array.getElem?_eq_some_iff.1 hA9).1 not_false).trans (by rw [← eN]; exact hA9)) hl3
                  have gC : ∀ w', Kept (fun _ => False) wr w' → w'.cell? ⟨C, j, none⟩ = some (lvI s t j) := fun w' q => r3_at (((hkj.trans q).block _ (Array.getElem?_eq_some_iff.1 hC9).1 not_false).trans (by rw [← eL]; exact hC9)) hl3
                  have gE : ∀ w', Kept (fun _ => False) wr w' → w'.cell? ⟨E, j, none⟩ = some (mvI s j) := fun w' q => r3_at (((hkj.trans q).block _ (Array.getElem?_eq_some_iff.1 hE9).1 not_false).trans (by rw [← eM]; exact hE9)) hl3
                  have gN : ∀ w', Kept (fun _ => False) wr w' → w'.cell? ⟨N, j, none⟩ = some (nvI s' t j) := fun w' q => (n9.of ((hkj.trans q).block _ n9.lt not_false)).at hl3
                  have gL : ∀ w', Kept (fun _ => False) wr w' → w'.cell? ⟨L, j, none⟩ = some (lvI s' t j) := fun w' q => (l9.of ((hkj.trans q).block _ l9.lt not_false)).at hl3
                  have gM : ∀ w', Kept (fun _ => False) wr w' → w'.cell? ⟨M, j, none⟩ = some (mvI s' j) := fun w' q => (m9.of ((hkj.trans q).block _ m9.lt not_false)).at hl3
                  clear eN eL eM EE
                  by_cases e : (j : Int) = op.key.tmod 3
                  · have e' : ((j : Int) != op.key.tmod 3) = false := by simp [e]
                    clear e gA gC gE gN gL gM
                    go_wp2_with fail
                    refine wp_region_held_drew (S := (Kept (fun _ => False) wr)) (by kernel_rfl) ((Kept.refl _ wr).drew) (fun hHeld => ?_)
                    refine held_q (v := ?_) (i := 0) rfl (by kernel_rfl) (by kernel_rfl) (by kernel_rfl) (fun _ _ _ h => h) (by rfl) hHeld ?_ ?_
                    rotate_left
                    · (intro w' hS'; go_simp <;> (with_reducible rfl))
                    simp only [Act.put, List.getElem_toArray, List.getElem_cons_zero, List.getElem_cons_succ, List.setIfInBounds_toArray, List.set_cons_zero, List.set_cons_succ]
                    refine held_q (v := ?_) (i := 1) rfl (by kernel_rfl) (by kernel_rfl) (by kernel_rfl) (fun _ _ _ h => h) (by rfl) hHeld ?_ ?_
                    rotate_left
                    · (intro w' hS'; go_simp <;> (with_reducible rfl))
                    simp only [Act.put, List.getElem_toArray, List.getElem_cons_zero, List.getElem_cons_succ, List.setIfInBounds_toArray, List.set_cons_zero, List.set_cons_succ]
                    refine held_q (v := ?_) (i := 2) rfl (by kernel_rfl) (by kernel_rfl) (by kernel_rfl) (fun _ _ _ h => h) (by rfl) hHeld ?_ ?_
                    rotate_left
                    · (intro w' hS'; go_simp <;> (with_reducible rfl))
                    simp only [Act.put, List.getElem_toArray, List.getElem_cons_zero, List.getElem_cons_succ, List.setIfInBounds_toArray, List.set_cons_zero, List.set_cons_succ]
                    refine held_q (v := ?_) (i := 3) rfl (by kernel_rfl) (by kernel_rfl) (by kernel_rfl) (fun _ _ _ h => h) (by rfl) hHeld ?_ ?_
                    rotate_left
                    · (intro w' hS'; go_simp <;> (with_reducible rfl))
                    simp only [Act.put, List.getElem_toArray, List.getElem_cons_zero, List.getElem_cons_succ, List.setIfInBounds_toArray, List.set_cons_zero, List.set_cons_succ]
                    refine held_no (i := 4) rfl (by kernel_rfl) (by kernel_rfl) (by kernel_rfl) (fun _ _ _ h => h) (by rfl) hHeld ?_
                    simp only [Act.put, List.getElem_toArray, List.getElem_cons_zero, List.getElem_cons_succ, List.setIfInBounds_toArray, List.set_cons_zero, List.set_cons_succ]
                    refine held_no (i := 5) rfl (by kernel_rfl) (by kernel_rfl) (by kernel_rfl) (fun _ _ _ h => h) (by rfl) hHeld ?_
                    simp only [Act.put, List.getElem_toArray, List.getElem_cons_zero, List.getElem_cons_succ, List.setIfInBounds_toArray, List.set_cons_zero, List.set_cons_succ]
                    refine held_no (i := 6) rfl (by kernel_rfl) (by kernel_rfl) (by kernel_rfl) (fun _ _ _ h => h) (by rfl) hHeld ?_
                    simp only [Act.put, List.getElem_toArray, List.getElem_cons_zero, List.getElem_cons_succ, List.setIfInBounds_toArray, List.set_cons_zero, List.set_cons_succ]
                    refine held_no (i := 7) rfl (by kernel_rfl) (by kernel_rfl) (by kernel_rfl) (fun _ _ _ h => h) (by rfl) hHeld ?_
                    simp only [Act.put, List.getElem_toArray, List.getElem_cons_zero, List.getElem_cons_succ, List.setIfInBounds_toArray, List.set_cons_zero, List.set_cons_succ]
                    refine held_no (i := 8) rfl (by kernel_rfl) (by kernel_rfl) (by kernel_rfl) (fun _ _ _ h => h) (by rfl) hHeld ?_
                    simp only [Act.put, List.getElem_toArray, List.getElem_cons_zero, List.getElem_cons_succ, List.setIfInBounds_toArray, List.set_cons_zero, List.set_cons_succ]
                    refine held_no (i := 9) rfl (by kernel_rfl) (by kernel_rfl) (by kernel_rfl) (fun _ _ _ h => h) (by rfl) hHeld ?_
                    simp only [Act.put, List.getElem_toArray, List.getElem_cons_zero, List.getElem_cons_succ, List.setIfInBounds_toArray, List.set_cons_zero, List.set_cons_succ]
                    refine held_no (i := 10) rfl (by kernel_rfl) (by kernel_rfl) (by kernel_rfl) (fun _ _ _ h => h) (by rfl) hHeld ?_
                    simp only [Act.put, List.getElem_toArray, List.getElem_cons_zero, List.getElem_cons_succ, List.setIfInBounds_toArray, List.set_cons_zero, List.set_cons_succ]
                    refine held_no (i := 11) rfl (by kernel_rfl) (by kernel_rfl) (by kernel_rfl) (fun _ _ _ h => h) (by rfl) hHeld ?_
                    simp only [Act.put, List.getElem_toArray, List.getElem_cons_zero, List.getElem_cons_succ, List.setIfInBounds_toArray, List.set_cons_zero, List.set_cons_succ]
                    refine held_no (i := 12) rfl (by kernel_rfl) (by kernel_rfl) (by kernel_rfl) (fun _ _ _ h => h) (by rfl) hHeld ?_
                    simp only [Act.put, List.getElem_toArray, List.getElem_cons_zero, List.getElem_cons_succ, List.setIfInBounds_toArray, List.set_cons_zero, List.set_cons_succ]
                    refine held_no (i := 13) rfl (by kernel_rfl) (by kernel_rfl) (by kernel_rfl) (fun _ _ _ h => h) (by rfl) hHeld ?_
                    simp only [Act.put, List.getElem_toArray, List.getElem_cons_zero, List.getElem_cons_succ, List.setIfInBounds_toArray, List.set_cons_zero, List.set_cons_succ]
                    refine held_no (i := 14) rfl (by kernel_rfl) (by kernel_rfl) (by kernel_rfl) (fun _ _ _ h => h) (by rfl) hHeld ?_
                    simp only [Act.put, List.getElem_toArray, List.getElem_cons_zero, List.getElem_cons_succ, List.setIfInBounds_toArray, List.set_cons_zero, List.set_cons_succ]
                    refine held_no (i := 15) rfl (by kernel_rfl) (by kernel_rfl) (by kernel_rfl) (fun _ _ _ h => h) (by rfl) hHeld ?_
                    simp only [Act.put, List.getElem_toArray, List.getElem_cons_zero, List.getElem_cons_succ, List.setIfInBounds_toArray, List.set_cons_zero, List.set_cons_succ]
                    refine held_no (i := 16) rfl (by kernel_rfl) (by kernel_rfl) (by kernel_rfl) (fun _ _ _ h => h) (by rfl) hHeld ?_
                    simp only [Act.put, List.getElem_toArray, List.getElem_cons_zero, List.getElem_cons_succ, List.setIfInBounds_toArray, List.set_cons_zero, List.set_cons_succ]
                    refine held_no (i := 17) rfl (by kernel_rfl) (by kernel_rfl) (by kernel_rfl) (fun _ _ _ h => h) (by rfl) hHeld ?_
                    simp only [Act.put, List.getElem_toArray, List.getElem_cons_zero, List.getElem_cons_succ, List.setIfInBounds_toArray, List.set_cons_zero, List.set_cons_succ]
                    refine held_no (i := 18) rfl (by kernel_rfl) (by kernel_rfl) (by kernel_rfl) (fun _ _ _ h => h) (by rfl) hHeld ?_
                    simp only [Act.put, List.getElem_toArray, List.getElem_cons_zero, List.getElem_cons_succ, List.setIfInBounds_toArray, List.set_cons_zero, List.set_cons_succ]
                    refine held_no (i := 19) rfl (by kernel_rfl) (by kernel_rfl) (by kernel_rfl) (fun _ _ _ h => h) (by rfl) hHeld ?_
                    simp only [Act.put, List.getElem_toArray, List.getElem_cons_zero, List.getElem_cons_succ, List.setIfInBounds_toArray, List.set_cons_zero, List.set_cons_succ]
                    refine held_no (i := 20) rfl (by kernel_rfl) (by kernel_rfl) (by kernel_rfl) (fun _ _ _ h => h) (by rfl) hHeld ?_
                    simp only [Act.put, List.getElem_toArray, List.getElem_cons_zero, List.getElem_cons_succ, List.setIfInBounds_toArray, List.set_cons_zero, List.set_cons_succ]
                    refine held_no (i := 21) rfl (by kernel_rfl) (by kernel_rfl) (by kernel_rfl) (fun _ _ _ h => h) (by rfl) hHeld ?_
                    simp only [Act.put, List.getElem_toArray, List.getElem_cons_zero, List.getElem_cons_succ, List.setIfInBounds_toArray, List.set_cons_zero, List.set_cons_succ]
                    refine held_no (i := 22) rfl (by kernel_rfl) (by kernel_rfl) (by kernel_rfl) (fun _ _ _ h => h) (by rfl) hHeld ?_
                    simp only [Act.put, List.getElem_toArray, List.getElem_cons_zero, List.getElem_cons_succ, List.setIfInBounds_toArray, List.set_cons_zero, List.set_cons_succ]
                    refine held_no (i := 23) rfl (by kernel_rfl) (by kernel_rfl) (by kernel_rfl) (fun _ _ _ h => h) (by rfl) hHeld ?_
                    simp only [Act.put, List.getElem_toArray, List.getElem_cons_zero, List.getElem_cons_succ, List.setIfInBounds_toArray, List.set_cons_zero, List.set_cons_succ]
                    refine held_no (i := 24) rfl (by kernel_rfl) (by kernel_rfl) (by kernel_rfl) (fun _ _ _ h => h) (by rfl) hHeld ?_
                    simp only [Act.put, List.getElem_toArray, List.getElem_cons_zero, List.getElem_cons_succ, List.setIfInBounds_toArray, List.set_cons_zero, List.set_cons_succ]
                    refine held_no (i := 25) rfl (by kernel_rfl) (by kernel_rfl) (by kernel_rfl) (fun _ _ _ h => h) (by rfl) hHeld ?_
                    simp only [Act.put, List.getElem_toArray, List.getElem_cons_zero, List.getElem_cons_succ, List.setIfInBounds_toArray, List.set_cons_zero, List.set_cons_succ]
                    refine held_no (i := 26) rfl (by kernel_rfl) (by kernel_rfl) (by kernel_rfl) (fun _ _ _ h => h) (by rfl) hHeld ?_
                    simp only [Act.put, List.getElem_toArray, List.getElem_cons_zero, List.getElem_cons_succ, List.setIfInBounds_toArray, List.set_cons_zero, List.set_cons_succ]
                    refine held_no (i := 27) rfl (by kernel_rfl) (by kernel_rfl) (by kernel_rfl) (fun _ _ _ h => h) (by rfl) hHeld ?_
                    simp only [Act.put, List.getElem_toArray, List.getElem_cons_zero, List.getElem_cons_succ, List.setIfInBounds_toArray, List.set_cons_zero, List.set_cons_succ]
                    refine held_no (i := 28) rfl (by kernel_rfl) (by kernel_rfl) (by kernel_rfl) (fun _ _ _ h => h) (by rfl) hHeld ?_
                    simp only [Act.put, List.getElem_toArray, List.getElem_cons_zero, List.getElem_cons_succ, List.setIfInBounds_toArray, List.set_cons_zero, List.set_cons_succ]
                    refine held_q (v := ?_) (i := 29) rfl (by kernel_rfl) (by kernel_rfl) (by kernel_rfl) (fun _ _ _ h => h) (by rfl) hHeld ?_ ?_
                    rotate_left
                    · (intro w' hS'; go_simp <;> (with_reducible rfl))
                    simp only [Act.put, List.getElem_toArray, List.getElem_cons_zero, List.getElem_cons_succ, List.setIfInBounds_toArray, List.set_cons_zero, List.set_cons_succ]
                    refine wpAnyH_done (by kernel_rfl) ?_ _
                    go_wp2_with fail
                    go_roundw
                    case rel => exact ⟨j + 1, by omega, by go_num, hkj.drew⟩
                    case measure => simp [intOf]; omega
                  · have e' : ((j : Int) != op.key.tmod 3) = true := by simp [e]
                    have al := hal (dig (j : Int)) (fun q => e (dig_inj q).symm)
                    rw [al.n] at gN
                    rw [al.l] at gL
                    rw [al.m] at gM
                    obtain ⟨X, hX⟩ := nvI_int s t j
                    obtain ⟨Y, hY⟩ := lvI_int s t j
                    obtain ⟨Z, hZ⟩ := mvI_int s j
                    rw [hX] at gA gN
                    rw [hY] at gC gL
                    rw [hZ] at gE gM
                    clear e hX hY hZ al
                    go_wp2_with fail
                    refine wp_region_held_drew (S := (Kept (fun _ => False) wr)) (by kernel_rfl) ((Kept.refl _ wr).drew) (fun hHeld => ?_)
                    refine held_q (v := ?_) (i := 0) rfl (by kernel_rfl) (by kernel_rfl) (by kernel_rfl) (fun _ _ _ h => h) (by rfl) hHeld ?_ ?_
                    rotate_left
                    · (intro w' hS'; go_simp <;> (with_reducible rfl))
                    simp only [Act.put, List.getElem_toArray, List.getElem_cons_zero, List.getElem_cons_succ, List.setIfInBounds_toArray, List.set_cons_zero, List.set_cons_succ]
                    refine held_q (v := ?_) (i := 1) rfl (by kernel_rfl) (by kernel_rfl) (by kernel_rfl) (fun _ _ _ h => h) (by rfl) hHeld ?_ ?_
                    rotate_left
                    · (intro w' hS'; go_simp <;> (with_reducible rfl))
                    simp only [Act.put, List.getElem_toArray, List.getElem_cons_zero, List.getElem_cons_succ, List.setIfInBounds_toArray, List.set_cons_zero, List.set_cons_succ]
                    refine held_q (v := ?_) (i := 2) rfl (by kernel_rfl) (by kernel_rfl) (by kernel_rfl) (fun _ _ _ h => h) (by rfl) hHeld ?_ ?_
                    rotate_left
                    · (intro w' hS'; go_simp <;> (with_reducible rfl))
                    simp only [Act.put, List.getElem_toArray, List.getElem_cons_zero, List.getElem_cons_succ, List.setIfInBounds_toArray, List.set_cons_zero, List.set_cons_succ]
                    refine held_q (v := ?_) (i := 3) rfl (by kernel_rfl) (by kernel_rfl) (by kernel_rfl) (fun _ _ _ h => h) (by rfl) hHeld ?_ ?_
                    rotate_left
                    · (intro w' hS'; go_simp <;> (with_reducible rfl))
                    simp only [Act.put, List.getElem_toArray, List.getElem_cons_zero, List.getElem_cons_succ, List.setIfInBounds_toArray, List.set_cons_zero, List.set_cons_succ]
                    refine held_q (v := ?_) (i := 4) rfl (by kernel_rfl) (by kernel_rfl) (by kernel_rfl) (fun _ _ _ h => h) (by rfl) hHeld ?_ ?_
                    rotate_left
                    · (intro w' hS'; go_simp <;> (with_reducible rfl))
                    simp only [Act.put, List.getElem_toArray, List.getElem_cons_zero, List.getElem_cons_succ, List.setIfInBounds_toArray, List.set_cons_zero, List.set_cons_succ]
                    refine held_q (v := ?_) (i := 5) rfl (by kernel_rfl) (by kernel_rfl) (by kernel_rfl) (fun _ _ _ h => h) (by rfl) hHeld ?_ ?_
                    rotate_left
                    · (intro w' hS'; go_simp <;> (with_reducible rfl))
                    simp only [Act.put, List.getElem_toArray, List.getElem_cons_zero, List.getElem_cons_succ, List.setIfInBounds_toArray, List.set_cons_zero, List.set_cons_succ]
                    refine held_q (v := ?_) (i := 6) rfl (by kernel_rfl) (by kernel_rfl) (by kernel_rfl) (fun _ _ _ h => h) (by rfl) hHeld ?_ ?_
                    rotate_left
                    · (intro w' hS'; go_simp <;> (with_reducible rfl))
                    simp only [Act.put, List.getElem_toArray, List.getElem_cons_zero, List.getElem_cons_succ, List.setIfInBounds_toArray, List.set_cons_zero, List.set_cons_succ]
                    refine held_q (v := ?_) (i := 7) rfl (by kernel_rfl) (by kernel_rfl) (by kernel_rfl) (fun _ _ _ h => h) (by rfl) hHeld ?_ ?_
                    rotate_left
                    · (intro w' hS'; go_simp <;> (with_reducible rfl))
                    simp only [Act.put, List.getElem_toArray, List.getElem_cons_zero, List.getElem_cons_succ, List.setIfInBounds_toArray, List.set_cons_zero, List.set_cons_succ]
                    refine held_q (v := ?_) (i := 8) rfl (by kernel_rfl) (by kernel_rfl) (by kernel_rfl) (fun _ _ _ h => h) (by rfl) hHeld ?_ ?_
                    rotate_left
                    · (intro w' hS'; go_simp <;> (with_reducible rfl))
                    simp only [Act.put, List.getElem_toArray, List.getElem_cons_zero, List.getElem_cons_succ, List.setIfInBounds_toArray, List.set_cons_zero, List.set_cons_succ]
                    refine held_q (v := ?_) (i := 9) rfl (by kernel_rfl) (by kernel_rfl) (by kernel_rfl) (fun _ _ _ h => h) (by rfl) hHeld ?_ ?_
                    rotate_left
                    · (intro w' hS'; go_simp <;> (with_reducible rfl))
                    simp only [Act.put, List.getElem_toArray, List.getElem_cons_zero, List.getElem_cons_succ, List.setIfInBounds_toArray, List.set_cons_zero, List.set_cons_succ]
                    refine held_q (v := ?_) (i := 10) rfl (by kernel_rfl) (by kernel_rfl) (by kernel_rfl) (fun _ _ _ h => h) (by rfl) hHeld ?_ ?_
                    rotate_left
                    · (intro w' hS'; go_simp <;> (with_reducible rfl))
                    simp only [Act.put, List.getElem_toArray, List.getElem_cons_zero, List.getElem_cons_succ, List.setIfInBounds_toArray, List.set_cons_zero, List.set_cons_succ]
                    refine held_q (v := ?_) (i := 11) rfl (by kernel_rfl) (by kernel_rfl) (by kernel_rfl) (fun _ _ _ h => h) (by rfl) hHeld ?_ ?_
                    rotate_left
                    · (intro w' hS'; go_simp <;> (with_reducible rfl))
                    simp only [Act.put, List.getElem_toArray, List.getElem_cons_zero, List.getElem_cons_succ, List.setIfInBounds_toArray, List.set_cons_zero, List.set_cons_succ]
                    refine held_q (v := ?_) (i := 12) rfl (by kernel_rfl) (by kernel_rfl) (by kernel_rfl) (fun _ _ _ h => h) (by rfl) hHeld ?_ ?_
                    rotate_left
                    · (intro w' hS'; go_simp <;> (with_reducible rfl))
                    simp only [Act.put, List.getElem_toArray, List.getElem_cons_zero, List.getElem_cons_succ, List.setIfInBounds_toArray, List.set_cons_zero, List.set_cons_succ]
                    refine held_q (v := ?_) (i := 13) rfl (by kernel_rfl) (by kernel_rfl) (by kernel_rfl) (fun _ _ _ h => h) (by rfl) hHeld ?_ ?_
                    rotate_left
                    · (intro w' hS'; go_simp <;> (with_reducible rfl))
                    simp only [Act.put, List.getElem_toArray, List.getElem_cons_zero, List.getElem_cons_succ, List.setIfInBounds_toArray, List.set_cons_zero, List.set_cons_succ]
                    refine held_q (v := ?_) (i := 14) rfl (by kernel_rfl) (by kernel_rfl) (by kernel_rfl) (fun _ _ _ h => h) (by rfl) hHeld ?_ ?_
                    rotate_left
                    · (intro w' hS'; go_simp <;> (with_reducible rfl))
                    simp only [Act.put, List.getElem_toArray, List.getElem_cons_zero, List.getElem_cons_succ, List.setIfInBounds_toArray, List.set_cons_zero, List.set_cons_succ]
                    refine held_q (v := ?_) (i := 15) rfl (by kernel_rfl) (by kernel_rfl) (by kernel_rfl) (fun _ _ _ h => h) (by rfl) hHeld ?_ ?_
                    rotate_left
                    · (intro w' hS'; go_simp <;> (with_reducible rfl))
                    simp only [Act.put, List.getElem_toArray, List.getElem_cons_zero, List.getElem_cons_succ, List.setIfInBounds_toArray, List.set_cons_zero, List.set_cons_succ]
                    refine held_q (v := ?_) (i := 16) rfl (by kernel_rfl) (by kernel_rfl) (by kernel_rfl) (fun _ _ _ h => h) (by rfl) hHeld ?_ ?_
                    rotate_left
                    · (intro w' hS'; go_simp <;> (with_reducible rfl))
                    simp only [Act.put, List.getElem_toArray, List.getElem_cons_zero, List.getElem_cons_succ, List.setIfInBounds_toArray, List.set_cons_zero, List.set_cons_succ]
                    refine held_q (v := ?_) (i := 17) rfl (by kernel_rfl) (by kernel_rfl) (by kernel_rfl) (fun _ _ _ h => h) (by rfl) hHeld ?_ ?_
                    rotate_left
                    · (intro w' hS'; go_simp <;> (with_reducible rfl))
                    simp only [Act.put, List.getElem_toArray, List.getElem_cons_zero, List.getElem_cons_succ, List.setIfInBounds_toArray, List.set_cons_zero, List.set_cons_succ]
                    refine held_q (v := ?_) (i := 18) rfl (by kernel_rfl) (by kernel_rfl) (by kernel_rfl) (fun _ _ _ h => h) (by rfl) hHeld ?_ ?_
                    rotate_left
                    · (intro w' hS'; go_simp <;> (with_reducible rfl))
                    simp only [Act.put, List.getElem_toArray, List.getElem_cons_zero, List.getElem_cons_succ, List.setIfInBounds_toArray, List.set_cons_zero, List.set_cons_succ]
                    refine held_q (v := ?_) (i := 19) rfl (by kernel_rfl) (by kernel_rfl) (by kernel_rfl) (fun _ _ _ h => h) (by rfl) hHeld ?_ ?_
                    rotate_left
                    · (intro w' hS'; go_simp <;> (with_reducible rfl))
                    simp only [Act.put, List.getElem_toArray, List.getElem_cons_zero, List.getElem_cons_succ, List.setIfInBounds_toArray, List.set_cons_zero, List.set_cons_succ]
                    refine held_q (v := ?_) (i := 20) rfl (by kernel_rfl) (by kernel_rfl) (by kernel_rfl) (fun _ _ _ h => h) (by rfl) hHeld ?_ ?_
                    rotate_left
                    · (intro w' hS'; go_simp <;> (with_reducible rfl))
                    simp only [Act.put, List.getElem_toArray, List.getElem_cons_zero, List.getElem_cons_succ, List.setIfInBounds_toArray, List.set_cons_zero, List.set_cons_succ]
                    refine held_q (v := ?_) (i := 21) rfl (by kernel_rfl) (by kernel_rfl) (by kernel_rfl) (fun _ _ _ h => h) (by rfl) hHeld ?_ ?_
                    rotate_left
                    · (intro w' hS'; go_simp <;> (with_reducible rfl))
                    simp only [Act.put, List.getElem_toArray, List.getElem_cons_zero, List.getElem_cons_succ, List.setIfInBounds_toArray, List.set_cons_zero, List.set_cons_succ]
                    refine held_q (v := ?_) (i := 22) rfl (by kernel_rfl) (by kernel_rfl) (by kernel_rfl) (fun _ _ _ h => h) (by rfl) hHeld ?_ ?_
                    rotate_left
                    · (intro w' hS'; go_simp <;> (with_reducible rfl))
                    simp only [Act.put, List.getElem_toArray, List.getElem_cons_zero, List.getElem_cons_succ, List.setIfInBounds_toArray, List.set_cons_zero, List.set_cons_succ]
                    refine held_q (v := ?_) (i := 23) rfl (by kernel_rfl) (by kernel_rfl) (by kernel_rfl) (fun _ _ _ h => h) (by rfl) hHeld ?_ ?_
                    rotate_left
                    · (intro w' hS'; go_simp <;> (with_reducible rfl))
                    simp only [Act.put, List.getElem_toArray, List.getElem_cons_zero, List.getElem_cons_succ, List.setIfInBounds_toArray, List.set_cons_zero, List.set_cons_succ]
                    refine held_q (v := ?_) (i := 24) rfl (by kernel_rfl) (by kernel_rfl) (by kernel_rfl) (fun _ _ _ h => h) (by rfl) hHeld ?_ ?_
                    rotate_left
                    · (intro w' hS'; go_simp <;> (with_reducible rfl))
                    simp only [Act.put, List.getElem_toArray, List.getElem_cons_zero, List.getElem_cons_succ, List.setIfInBounds_toArray, List.set_cons_zero, List.set_cons_succ]
                    refine held_q (v := ?_) (i := 25) rfl (by kernel_rfl) (by kernel_rfl) (by kernel_rfl) (fun _ _ _ h => h) (by rfl) hHeld ?_ ?_
                    rotate_left
                    · (intro w' hS'; go_simp <;> (with_reducible rfl))
                    simp only [Act.put, List.getElem_toArray, List.getElem_cons_zero, List.getElem_cons_succ, List.setIfInBounds_toArray, List.set_cons_zero, List.set_cons_succ]
                    refine held_q (v := ?_) (i := 26) rfl (by kernel_rfl) (by kernel_rfl) (by kernel_rfl) (fun _ _ _ h => h) (by rfl) hHeld ?_ ?_
                    rotate_left
                    · (intro w' hS'; go_simp <;> (with_reducible rfl))
                    simp only [Act.put, List.getElem_toArray, List.getElem_cons_zero, List.getElem_cons_succ, List.setIfInBounds_toArray, List.set_cons_zero, List.set_cons_succ]
                    refine held_q (v := ?_) (i := 27) rfl (by kernel_rfl) (by kernel_rfl) (by kernel_rfl) (fun _ _ _ h => h) (by rfl) hHeld ?_ ?_
                    rotate_left
                    · (intro w' hS'; go_simp <;> (with_reducible rfl))
                    simp only [Act.put, List.getElem_toArray, List.getElem_cons_zero, List.getElem_cons_succ, List.setIfInBounds_toArray, List.set_cons_zero, List.set_cons_succ]
                    refine held_q (v := ?_) (i := 28) rfl (by kernel_rfl) (by kernel_rfl) (by kernel_rfl) (fun _ _ _ h => h) (by rfl) hHeld ?_ ?_
                    rotate_left
                    · (intro w' hS'; go_simp <;> (with_reducible rfl))
                    simp only [Act.put, List.getElem_toArray, List.getElem_cons_zero, List.getElem_cons_succ, List.setIfInBounds_toArray, List.set_cons_zero, List.set_cons_succ]
                    refine held_q (v := ?_) (i := 29) rfl (by kernel_rfl) (by kernel_rfl) (by kernel_rfl) (fun _ _ _ h => h) (by rfl) hHeld ?_ ?_
                    rotate_left
                    · (intro w' hS'; go_simp <;> (with_reducible rfl))
                    simp only [Act.put, List.getElem_toArray, List.getElem_cons_zero, List.getElem_cons_succ, List.setIfInBounds_toArray, List.set_cons_zero, List.set_cons_succ]
                    refine wpAnyH_done (by kernel_rfl) ?_ _
                    go_wp2_with fail
                    go_roundw
                    case rel => exact ⟨j + 1, by omega, by go_num, hkj.drew⟩
                    case measure => simp [intOf]; omega
                · have hl3' : ¬ (j : Int) < 3 := by omega
                  go_wp2_with fail
                  go_roundg (len - (k + 1))
                  case measure => omega
                  case rel => exact ⟨k + 1, t, s', rfl, by omega, by go_num, ht0, ht1, hT9.kept hkj (fun _ _ => not_false) not_false not_false, kW9.trans hkj.upto, hI8, hF8⟩
              --c
        · have hkl : k = len := by omega
          subst hkl
          go_wp2_with fail
          refine (known_ct _).mono ?_
          rintro e w' ⟨rfl, hq⟩
          go_wp2_with fail
          go_ret
          exact ⟨rfl, (hw0.trans' hkw (fun k h1 h2 => absurd (aS k h2) (Nat.not_le.2 h1))).trans hq⟩
    · have h80' : (200 : Int) < (len : Int) := by omega
      go_wp2_with fail
      refine (known_ct _).mono ?_
      rintro e w' ⟨rfl, hq⟩
      go_wp2_with fail
      go_ret
      exact ⟨rfl, (hk1.alloc _).trans hq⟩
  · go_enter Try.func6, Try.ntmps6
    go_wp2_with fail
    refine (new_bad id inc wait ttl _ hn).mono ?_
    rintro e W1 ⟨rfl, rfl⟩
    go_wp2_with fail
    refine (known_ct _).mono ?_
    rintro e w' ⟨rfl, hq⟩
    go_wp2_with fail
    go_ret
    exact ⟨rfl, ((Kept.refl _ _).alloc _).trans hq⟩
end Go.Proofs.Ytbaehaleigpijaa
