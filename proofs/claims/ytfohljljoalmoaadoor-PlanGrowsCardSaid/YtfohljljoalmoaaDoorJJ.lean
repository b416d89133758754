/- PlanOrder's walk. -/
import Derived.Test.YtfohljljoalmoaaDoorJK
import Derived.Test.YtfohljljoalmoaaDoorTO
namespace Go.Proofs.YtfohljljoalmoaaDoor
open Go.RowKit
set_option maxRecDepth 100000
set_option linter.unusedSimpArgs false
set_option linter.unusedVariables false

def rotL {α : Type} (l : List α) (t : Nat) : List α := l.drop t ++ l.take t
theorem rot_len {α : Type} (l : List α) (t : Nat) : (rotL l t).length = l.length := by
  unfold rotL; rw [List.length_append, List.length_drop, List.length_take]; omega
theorem rot_perm {α : Type} (l : List α) (t : Nat) : (rotL l t).Perm l := by
  unfold rotL
  refine List.perm_append_comm.trans ?_
  rw [List.take_append_drop]
theorem rot_zip {α β : Type} {l : List α} {m : List β} (h : l.length = m.length) (t : Nat) : (rotL l t).zip (rotL m t) = rotL (l.zip m) t := by
  unfold rotL
  rw [List.zip_append (by rw [List.length_drop, List.length_drop, h])]
  simp only [List.zip, List.drop_zipWith, List.take_zipWith]
theorem rot_at {α : Type} {l : List α} {t k : Nat} (ht : t < l.length) (hk : k < l.length) : (rotL l t)[k]? = l[(k + t) % l.length]? := by
  unfold rotL
  by_cases h : k + t < l.length
  · rw [Nat.mod_eq_of_lt h, List.getElem?_append_left (by rw [List.length_drop]; omega), List.getElem?_drop, Nat.add_comm]
  · rw [List.getElem?_append_right (by rw [List.length_drop]; omega), List.length_drop, List.getElem?_take_of_lt (by omega)]
    congr 1
    rw [Nat.mod_eq_sub_mod (by omega), Nat.mod_eq_of_lt (by omega)]
    omega
theorem u64_nn (n : Int) : 0 ≤ IntKind.u64.wrap n := by
  simp [IntKind.wrap, IntKind.bits, IntKind.signed]; omega
theorem turn_at (turn : Int) (n : Nat) (hn : 0 < n) : ∃ t0 : Nat, t0 < n ∧ (IntKind.u64.wrap turn).tmod (n : Int) = (t0 : Int) := by
  have hun : 0 ≤ IntKind.u64.wrap turn := u64_nn turn
  generalize IntKind.u64.wrap turn = u at hun
  rw [Int.tmod_eq_emod_of_nonneg hun]
  have h1 : 0 ≤ u % (n : Int) := Int.emod_nonneg _ (by omega)
  have h2 : u % (n : Int) < n := Int.emod_lt_of_pos _ (by omega)
  exact ⟨(u % (n : Int)).toNat, by omega, by omega⟩
theorem turn_mod {k t0 n j : Nat} (hj : j = (k + t0) % n) : ((k : Int) + (t0 : Int)).tmod (n : Int) = (j : Int) := by
  rw [Int.tmod_eq_emod_of_nonneg (by omega), hj]; push_cast; rfl
theorem wrap_small {x : Int} (h : 0 ≤ x ∧ x ≤ 1000) : wrap64 x = x := IntWalk.wrap64_in _ (by omega)

theorem store_sl {w : World} {R j n c : Nat} {a : Option Addr} {v0 : Value} (hc : w.cell? ⟨R, j, none⟩ = some v0) (hf : w.frozen? ⟨R, j, none⟩ = false) :
    (Instr.storeAt 22 (.pointer (some ⟨R, j, none⟩)) (.slice a n c)).run Tryd.prog w = .ok () (w.setCell ⟨R, j, none⟩ (.slice a n c)) := by
  go_simp
theorem own_not {w : World} {base : Nat} {t t' : TypeId} {z : Nat} {v : Value} {n : Nat} {xs : List Value} (h : w.ownsRow base t z v n xs) {D : Nat} {cs : Array Value} (hD : w.heap[D]? = some (.cells cs t' (0, 0))) (ht : t ≠ t') : ∀ k, v.ownBlock = some k → k ≠ D := fun k hk e => by
  subst e
  obtain ⟨_, c, h2⟩ := own_type h hk
  rw [hD] at h2
  injection h2 with h2; injection h2 with _ h2
  exact ht h2.symm
theorem own_apart {w : World} {base b2 : Nat} {t t' : TypeId} {z z2 : Nat} {v u : Value} {n m : Nat} {xs ys : List Value} (h : w.ownsRow base t z v n xs) (h2 : w.ownsRow b2 t' z2 u m ys) (ht : t ≠ t') : ∀ k, v.ownBlock = some k → ¬ u.ownBlock = some k := fun k hk e => by
  obtain ⟨_, c, q⟩ := own_type h2 e
  exact own_not h q ht k hk rfl
theorem rot_take {α : Type} {l : List α} {t k n j : Nat} {y : α} (hl : l.length = n) (ht : t < n) (hk : k < n) (hj : j = (k + t) % n) (hy : l[j]? = some y) : (rotL l t).take (k + 1) = (rotL l t).take k ++ [y] := by
  have hr : (rotL l t)[k]? = some y := by rw [rot_at (by omega) (by omega), hl, ← hj]; exact hy
  have hlt : k < (rotL l t).length := (List.getElem?_eq_some_iff.1 hr).1
  rw [List.take_succ_eq_append_getElem hlt]
  congr 2
  rw [List.getElem?_eq_getElem hlt] at hr
  injection hr
theorem okI_rot {x : TgtE} {ls : List FileE} {ts : List (List FileE)} (h : okI x ls ts = true) (t : Nat) : okI ⟨x.name, rotL x.deps t, x.fuel, x.prog⟩ ls (rotL ts t) = true := by
  unfold okI mayT at *
  simp only [Bool.and_eq_true, beq_iff_eq] at h ⊢
  obtain ⟨⟨⟨⟨h1, h2⟩, h3⟩, h4⟩, h5⟩ := h
  obtain ⟨q1, q2, q3, q4⟩ := headIs.1 h1
  refine ⟨⟨⟨⟨headIs.2 ⟨q1, by rw [rot_len]; exact q2, fun d hd => q3 d ((rot_perm _ _).mem_iff.1 hd), (rot_perm _ _).nodup_iff.2 q4⟩, h2⟩, h3⟩, ?_⟩, by rw [rot_len, rot_len, h5]⟩
  rw [List.all_eq_true] at h4 ⊢
  exact fun l hl => h4 l ((rot_perm _ _).mem_iff.1 hl)
theorem ins_rot {x : TgtE} {ls o : List FileE} {ts : List (List FileE)} (h : okI x ls ts = true) (hi : insO ls (depsZ x ts) = some o) (t : Nat) : insO ls (depsZ ⟨x.name, rotL x.deps t, x.fuel, x.prog⟩ (rotL ts t)) = some o := by
  obtain ⟨h1, h2, _⟩ := okI_deps h
  have e : depsZ ⟨x.name, rotL x.deps t, x.fuel, x.prog⟩ (rotL ts t) = rotL (depsZ x ts) t := rot_zip h2.symm t
  rw [e]
  exact insO_perm h1 (rot_perm _ _) hi
set_option maxRecDepth 100000 in
set_option maxHeartbeats 8000000 in
theorem order_law {w : World} (hT : FldTab w) {x : TgtE} {vd vp vs vo : Value} {ls : List FileE} {ts : List (List FileE)} (h : TgtAt w x vd vp) (hs : TreeAt w vs ls) (ho : TreesAt w vo ts) (turn : Int) (ht : -9223372036854775808 ≤ turn ∧ turn ≤ 9223372036854775807) :
    Calls Tryd.prog 3 #[.agg (tgtC x vd vp), vs, vo, .int .i64 turn] w fun e w' => e = .returned (.bool true) ∧ Kept (fun _ => False) w w' := by
  obtain ⟨a1, c1, a2, c2, rfl, rfl, hc1, hc2, hm1⟩ := h.words
  obtain ⟨a3, c3, rfl⟩ := hs.slc
  obtain ⟨a4, c4, rfl, hc4, hm4⟩ := ho.slc
  simp only [maxLen] at hm1 hm4
  unfold tgtC
  have k1 : Kept (fun _ => False) w (w.alloc (.cells #[.string x.name, .slice a1 x.deps.length c1, .int .i64 x.fuel, .slice a2 x.prog.length c2] 25)) := (Kept.refl _ w).alloc _
  have hb0 := heap_last w (.cells #[.string x.name, .slice a1 x.deps.length c1, .int .i64 x.fuel, .slice a2 x.prog.length c2] 25)
  go_enter Tryd.func3, Tryd.ntmps3
  go_upto_region 1 with fail
  generalize w.alloc (.cells #[.string x.name, .slice a1 x.deps.length c1, .int .i64 x.fuel, .slice a2 x.prog.length c2] 25) = W1 at k1 hb0 ⊢
  have hzB := (Array.getElem?_eq_some_iff.1 hb0).1
  have hBw : w.heap.size = w.heap.size := rfl
  generalize hBe : w.heap.size = B at hb0 hzB ⊢
  have hbW : ∀ w', Kept (fun _ => False) W1 w' → w'.heap[B]? = some (.cells #[.string x.name, .slice a1 x.deps.length c1, .int .i64 x.fuel, .slice a2 x.prog.length c2] 25) := fun w' q => by rw [q.block _ hzB not_false]; exact hb0
  have ldB : ∀ w', Kept (fun _ => False) W1 w' → (Instr.loadAt 25 (.pointer (some ⟨B, 0, none⟩))).run Tryd.prog w' = .ok (.agg #[.string x.name, .slice a1 x.deps.length c1, .int .i64 x.fuel, .slice a2 x.prog.length c2]) w' := fun w' q => load_row Tryd.underlying25 rfl (hbW w' q) (by kernel_rfl)
  have ld1 := ldB W1 (Kept.refl _ _)
  have gc := great16_ct (h.kept k1) (hs.kept k1) (ho.kept k1)
  unfold tgtC at gc
  clear hBw hBe
  go_wp2_with (first
    | (with_reducible refine wpl_load 25 _ rfl rfl ?_ ld1 ?_
       · rfl
       simp only [Act.put, List.getElem_toArray, List.getElem_cons_zero, List.getElem_cons_succ, List.setIfInBounds_toArray, List.set_cons_zero, List.set_cons_succ]))
  refine gc.mono ?_
  rintro e W2 ⟨⟨q, rfl⟩, k2⟩
  have K2 := k1.trans k2
  clear gc ld1
  cases q with
  | true =>
    go_wp2_with fail
    refine (known16_ct (hT.kept (K2))).mono ?_
    rintro e Wk ⟨rfl, kk⟩
    go_wp2_with fail
    go_ret
    exact ⟨rfl, (K2).trans kk⟩
  | false =>
    have ld2 := ldB W2 k2
    have ic := inputs_ct (hT.kept K2) (h.kept K2) (hs.kept K2) (ho.kept K2)
    unfold tgtC at ic
    go_wp2_with (first
      | (with_reducible refine wpl_load 25 _ rfl rfl ?_ ld2 ?_
         · rfl
         simp only [Act.put, List.getElem_toArray, List.getElem_cons_zero, List.getElem_cons_succ, List.setIfInBounds_toArray, List.set_cons_zero, List.set_cons_succ]))
    refine ic.mono ?_
    rintro e W3 ⟨hi, k3⟩
    have K3 := K2.trans k3
    clear ic ld2
    rcases hi with ⟨_, rfl⟩ | ⟨_, ⟨_, rfl⟩ | ⟨o, v', hio, rfl, hto⟩⟩
    · go_wp2_with fail
      refine (known16_ct (hT.kept (K3))).mono ?_
      rintro e Wk ⟨rfl, kk⟩
      go_wp2_with fail
      go_ret
      exact ⟨rfl, (K3).trans kk⟩
    · go_wp2_with fail
      refine (known16_ct (hT.kept (K3))).mono ?_
      rintro e Wk ⟨rfl, kk⟩
      go_wp2_with fail
      go_ret
      exact ⟨rfl, (K3).trans kk⟩
    · obtain ⟨a5, c5, rfl⟩ := hto.slc
      rename_i hok
      by_cases h0 : ts.length = 0
      · have i0 : ((ts.length : Int) == 0) = true := by rw [h0]; rfl
        go_wp2_with fail
        refine (known16_ct (hT.kept (K3))).mono ?_
        rintro e Wk ⟨rfl, kk⟩
        go_wp2_with fail
        go_ret
        exact ⟨rfl, (K3).trans kk⟩
      · have i0 : ((ts.length : Int) == 0) = false := beq_eq_false_iff_ne.2 (by omega)
        have ld3 := ldB W3 (k2.trans k3)
        have zt : ∀ w, (zeroValue 25).run Tryd.prog w = .ok (.agg #[.string ⟨#[]⟩, .slice none 0 0, .int .i64 0, .slice none 0 0]) w := fun w => by kernel_rfl
        have st := store_new (P := Tryd.prog) (ty := 25) (c := #[.string ⟨#[]⟩, .slice none 0 0, .int .i64 0, .slice none 0 0]) (c' := #[.string x.name, .slice a1 x.deps.length c1, .int .i64 x.fuel, .slice a2 x.prog.length c2]) (by kernel_rfl) rfl (by simp [Value.oneCell']) (w := W3) (b := W3.heap.size) rfl
        go_upto_region 7 with (first
          | (with_reducible refine wpl_load 25 _ rfl rfl ?_ ld3 ?_
             · rfl
             simp only [Act.put, List.getElem_toArray, List.getElem_cons_zero, List.getElem_cons_succ, List.setIfInBounds_toArray, List.set_cons_zero, List.set_cons_succ])
          | (with_reducible refine wpl_alloc 25 rfl rfl (zt _) ?_
             simp only [World.size_alloc, Act.put, List.getElem_toArray, List.getElem_cons_zero, List.getElem_cons_succ, List.setIfInBounds_toArray, List.set_cons_zero, List.set_cons_succ])
          | (with_reducible refine wpl_store 25 _ _ rfl rfl ?_ ?_ st ?_
             · rfl
             · rfl
             simp only [Act.put, List.getElem_toArray, List.getElem_cons_zero, List.getElem_cons_succ, List.setIfInBounds_toArray, List.set_cons_zero, List.set_cons_succ]))
        have k4 : Kept (fun _ => False) W3 (W3.alloc (.cells #[.string x.name, .slice a1 x.deps.length c1, .int .i64 x.fuel, .slice a2 x.prog.length c2] 25)) := (Kept.refl _ W3).alloc _
        have hD4 := heap_last W3 (.cells #[.string x.name, .slice a1 x.deps.length c1, .int .i64 x.fuel, .slice a2 x.prog.length c2] 25)
        generalize W3.alloc (.cells #[.string x.name, .slice a1 x.deps.length c1, .int .i64 x.fuel, .slice a2 x.prog.length c2] 25) = W4 at k4 hD4 ⊢
        obtain ⟨D, hDe⟩ : ∃ D, D = W3.heap.size := ⟨_, rfl⟩
        have hDz : W3.heap.size ≤ D := by omega
        have hDz2 : D ≤ W3.heap.size := by omega
        rw [← hDe] at hD4 ⊢
        clear st zt ld3 hDe
        have e41 : W4.cell? ⟨D, 1, none⟩ = some (.slice a1 x.deps.length c1) := by rw [cell_of_row _ _ _ _ _ _ hD4]; rfl
        have f41 : W4.frozen? ⟨D, 1, none⟩ = false := by simp [World.frozen?, hD4]
        go_upto_region 8 with fail
        have hD5 : (W4.setCell ⟨D, 1, none⟩ (.slice none 0 0)).heap[D]? = some (.cells #[.string x.name, .slice none 0 0, .int .i64 x.fuel, .slice a2 x.prog.length c2] 25) := by rw [heap_setCell_same hD4]; rfl
        have k5 : Kept (fun i => D ≤ i) W3 (W4.setCell ⟨D, 1, none⟩ (.slice none 0 0)) := (k4.mono (fun _ _ q => q.elim)).setCell (p := ⟨D, 1, none⟩) (fun _ => Nat.le_refl _) _
        clear e41 f41 hD4 k4
        generalize W4.setCell ⟨D, 1, none⟩ (.slice none 0 0) = W5 at hD5 k5 ⊢
        obtain ⟨vs, hvl, hvr, hve⟩ := ho
        obtain ⟨hdo, hlen, h5, hnd, hnm, hmy⟩ := okI_deps hok
        have hn : x.deps.length = ts.length := hlen.symm
        have HLEN := Lib.hid hn
        have HX := Lib.hid (And.intro hok (And.intro hio (And.intro hdo hnd)))
        obtain ⟨n, hne⟩ : ∃ n, n = ts.length := ⟨_, rfl⟩
        have hdn : x.deps.length = n := by omega
        have hvn : vs.length = n := by omega
        have hn5 : n ≤ 5 := by omega
        have hn1 : 0 < n := by omega
        rw [← hne] at hm4 hc4 i0 hvl hvr ⊢
        obtain ⟨t0, hlt0, hm0⟩ := turn_at turn n hn1
        have HM0 := Lib.hid hm0
        clear hm0
        have hD5z := (Array.getElem?_eq_some_iff.1 hD5).1
        clear hok hio hdo hnd hnm hmy hlen hn hne hvl h0 i0 ht hbW
        go_wp2_with fail
        go_loopg [12, 41] n (fun gk s12 s41 wr => ∃ (k : Nat) (a : Option Addr) (c : Nat) (a' : Option Addr) (c' : Nat), gk = n - k ∧ k ≤ n ∧ s41 = .int .i64 k ∧ s12 = .slice a' k c' ∧ wr.heap[D]? = some (.cells #[.string x.name, .slice a k c, .int .i64 x.fuel, .slice a2 x.prog.length c2] 25) ∧
          wr.ownsRow D 9 1 (.slice a k c) k (((rotL x.deps t0).take k).map Value.string) ∧ wr.ownsRow D 27 1 (.slice a' k c') k ((rotL vs t0).take k) ∧ Kept (fun i => D ≤ i) W3 wr)
        case atStart => exact ⟨0, none, 0, none, 0, by omega, by omega, rfl, rfl, hD5, World.ownsRow_nil _ _ _ _, World.ownsRow_nil _ _ _ _, k5⟩
        case round =>
          obtain ⟨k, a6, c6, a7, c7, rfl, hk, rfl, rfl, hD, hrs, hrt, hkr⟩ := hrel
          have K3r : Kept (fun _ => False) W3 wr := hkr.mono (fun i hi e => by omega)
          have Kr := K3.trans K3r
          by_cases hlt : k < n
          · have gk : (k : Int) < (n : Int) := by omega
            have gn0 : ((n : Int) == 0) = false := beq_eq_false_iff_ne.2 (by omega)
            have b1 : 0 ≤ (t0 : Int) ∧ (t0 : Int) ≤ 1000 := by omega
            have b2 : 0 ≤ (k : Int) + (t0 : Int) ∧ (k : Int) + (t0 : Int) ≤ 1000 := by omega
            have bn : 0 ≤ (n : Int) ∧ (n : Int) ≤ 18446744073709551615 := by omega
            obtain ⟨j, hj⟩ : ∃ j, j = (k + t0) % n := ⟨_, rfl⟩
            have hjn : j < n := by rw [hj]; exact Nat.mod_lt _ hn1
            have HV : Hid ((wrap64 ((k : Int) + wrap64 ((IntKind.u64.wrap turn).tmod (n : Int)))).tmod (n : Int) = (j : Int)) := by
              unfold Hid
              rw [HM0.out, wrap_small b1, wrap_small b2]
              exact turn_mod hj
            have HJ := Lib.hid hj
            have gn1 : IntKind.u64.wrap (n : Int) = (n : Int) := IntWalk.u64_in _ bn
            clear hj b1 b2 bn
            go_upto_region 13 with fail
            rw [HV.out]
            clear gn1 gn0 gk
            have hjd : x.deps[j]? = some (x.deps[j]'(by omega)) := List.getElem?_eq_getElem _
            generalize x.deps[j]'(by omega) = d at hjd
            have hjv : vs[j]? = some (vs[j]'(by omega)) := List.getElem?_eq_getElem _
            generalize vs[j]'(by omega) = v at hjv
            have hlz : j < ts.length := by have := HLEN.out; omega
            have hjt : ts[j]? = some ts[j] := List.getElem?_eq_getElem hlz
            obtain ⟨y, hy, htr⟩ := hve j _ hjt
            rw [hjv] at hy
            injection hy with hy
            subst hy
            obtain ⟨av, cv, hvs⟩ := htr.slc
            subst hvs
            have HR1 := Lib.hid (rot_take hdn hlt0 hlt HJ.out hjd)
            have HR2 := Lib.hid (rot_take hvn hlt0 hlt HJ.out hjv)
            obtain ⟨_, b, q, rfl, hb, hcell⟩ := h.deps.elem hjd
            obtain ⟨b2, q2, hae, hb2, hcell2⟩ := hvr.elem (j := j) (xs := [.slice av ts[j].length cv]) (by rw [List.getElem?_map, hjv]; rfl)
            subst hae
            have hcell2 : w.cell? ⟨b2, q2 + j, none⟩ = some (.slice av ts[j].length cv) := by have := hcell2 0 _ rfl; rw [Nat.mul_one] at this; exact this
            have hsz3 := K3.size
            have hsz1 := (k2.trans k3).size
            have hbD : b < D := by omega
            have hBD : B < D := by omega
            have hb2D : b2 < D := by omega
            have hown : ∀ i, (Value.slice a6 k c6).ownBlock = some i → D ≤ i := fun i hi => (own_type hrs hi).1
            have hnot : ∀ i, (Value.slice a6 k c6).ownBlock = some i → i ≠ D := own_not hrs hD (by decide)
            have hDr : D < wr.heap.size := (Array.getElem?_eq_some_iff.1 hD).1
            have hBr : B < wr.heap.size := by omega
            have hbr : b < wr.heap.size := by omega
            have cY : ∀ w', Kept (fun i => (Value.slice a6 k c6).ownBlock = some i) wr w' → w'.cell? ⟨D, 1, none⟩ = some (.slice a6 k c6) := fun w' q => by
              rw [q.cell (p := ⟨D, 1, none⟩) hDr (fun e => hnot D e rfl), cell_of_row _ _ _ _ _ _ hD]; rfl
            have hB13 := (k2.trans k3).trans K3r
            have cB : ∀ w', Kept (fun i => (Value.slice a6 k c6).ownBlock = some i) wr w' → w'.cell? ⟨B, 1, none⟩ = some (.slice (some ⟨b, q, none⟩) x.deps.length c1) := fun w' z => by
              rw [z.cell (p := ⟨B, 1, none⟩) hBr (fun e => by have := hown B e; omega), hB13.cell (p := ⟨B, 1, none⟩) hzB not_false, cell_of_row _ _ _ _ _ _ hb0]; rfl
            have cS : ∀ w', Kept (fun i => (Value.slice a6 k c6).ownBlock = some i) wr w' → w'.cell? ⟨b, q + j, none⟩ = some (.string d) := fun w' z => by
              rw [z.cell (p := ⟨b, q + j, none⟩) hbr (fun e => by have := hown b e; omega), Kr.cell (p := ⟨b, q + j, none⟩) hb not_false]; exact hcell
            have gj : (j : Int) < (n : Int) := by omega
            have gj0 : (0 : Int) ≤ (j : Int) := by omega
            have hrs' : wr.drew.ownsRow D 9 1 (.slice a6 k c6) k (((rotL x.deps t0).take k).map Value.string) := row_kept hrs ((Kept.refl _ wr).drew)
            have hg := heap_last wr.drew (.cells #[.string d] 9)
            have bs1 := bs_s d wr.drew
            obtain ⟨a8, c8, W7, ap, ho7, hgr⟩ := push_s (c := 1) (alloc_row hrs' (.cells #[.string d] 9)) (u := .string d) rfl hg (by omega) (by have : wr.drew.heap.size = wr.heap.size := rfl; simp; omega) 22
            have k7 : Kept (fun i => (Value.slice a6 k c6).ownBlock = some i) wr W7 := (((Kept.refl _ wr).drew).alloc _).trans (grown_row hgr)
            have k7a : Kept (fun i => (Value.slice a6 k c6).ownBlock = some i) wr (wr.drew.alloc (.cells #[.string d] 9)) := ((Kept.refl _ wr).drew).alloc _
            have hD7 : W7.heap[D]? = some (.cells #[.string x.name, .slice a6 k c6, .int .i64 x.fuel, .slice a2 x.prog.length c2] 25) := by rw [k7.block D hDr (fun e => hnot D e rfl)]; exact hD
            have c7' : W7.cell? ⟨D, 1, none⟩ = some (.slice a6 k c6) := cY W7 k7
            have f7' : W7.frozen? ⟨D, 1, none⟩ = false := by simp [World.frozen?, hD7]
            have st8 := store_sl (a := a8) (n := k + 1) (c := c8) c7' f7'
            have hD8 : (W7.setCell ⟨D, 1, none⟩ (.slice a8 (k + 1) c8)).heap[D]? = some (.cells #[.string x.name, .slice a8 (k + 1) c8, .int .i64 x.fuel, .slice a2 x.prog.length c2] 25) := by rw [heap_setCell_same hD7]; rfl
            have k8 : Kept (fun i => i = D) W7 (W7.setCell ⟨D, 1, none⟩ (.slice a8 (k + 1) c8)) := (Kept.refl (fun i => i = D) W7).setCell (p := ⟨D, 1, none⟩) (fun _ => rfl) _
            have ho8 := row_stay ho7 k8 (fun i hi e => own_not ho7 hD7 (by decide) i hi e)
            have hrt7 := row_stay hrt k7 (own_apart hrt hrs (by decide))
            have hrt8 := row_stay hrt7 k8 (fun i hi e => own_not hrt7 hD7 (by decide) i hi e)
            have hkr8 : Kept (fun i => D ≤ i) W3 (W7.setCell ⟨D, 1, none⟩ (.slice a8 (k + 1) c8)) := (hkr.trans (k7.mono (fun i _ e => hown i e))).trans (k8.mono (fun i _ e => by omega))
            clear hrs hrs' hg hgr hD hnot hD7 c7' f7' k8 hrt hrt7 ho7
            refine tail_drew 10 (Kept (fun i => (Value.slice a6 k c6).ownBlock = some i) wr) (by kernel_rfl) ((Kept.refl _ wr).drew) (fun hHeld => ?_)
            refine tail_q (v := ?_) (i := 0) rfl (by kernel_rfl) (by kernel_rfl) (by kernel_rfl) (by kernel_rfl) (by decide) (fun _ _ _ h => h) (by rfl) hHeld ?_ ?_
            rotate_left
            · (intro w' hS'; go_simp <;> (with_reducible rfl))
            simp only [Act.put, List.getElem_toArray, List.getElem_cons_zero, List.getElem_cons_succ, List.setIfInBounds_toArray, List.set_cons_zero, List.set_cons_succ]
            refine tail_q (v := ?_) (i := 1) rfl (by kernel_rfl) (by kernel_rfl) (by kernel_rfl) (by kernel_rfl) (by decide) (fun _ _ _ h => h) (by rfl) hHeld ?_ ?_
            rotate_left
            · (intro w' hS'; go_simp <;> (with_reducible rfl))
            simp only [Act.put, List.getElem_toArray, List.getElem_cons_zero, List.getElem_cons_succ, List.setIfInBounds_toArray, List.set_cons_zero, List.set_cons_succ]
            refine tail_q (v := ?_) (i := 2) rfl (by kernel_rfl) (by kernel_rfl) (by kernel_rfl) (by kernel_rfl) (by decide) (fun _ _ _ h => h) (by rfl) hHeld ?_ ?_
            rotate_left
            · (intro w' hS'; go_simp <;> (with_reducible rfl))
            simp only [Act.put, List.getElem_toArray, List.getElem_cons_zero, List.getElem_cons_succ, List.setIfInBounds_toArray, List.set_cons_zero, List.set_cons_succ]
            refine tail_q (v := ?_) (i := 3) rfl (by kernel_rfl) (by kernel_rfl) (by kernel_rfl) (by kernel_rfl) (by decide) (fun _ _ _ h => h) (by rfl) hHeld ?_ ?_
            rotate_left
            · (intro w' hS'; go_simp <;> (with_reducible rfl))
            simp only [Act.put, List.getElem_toArray, List.getElem_cons_zero, List.getElem_cons_succ, List.setIfInBounds_toArray, List.set_cons_zero, List.set_cons_succ]
            refine tail_q (v := ?_) (i := 4) rfl (by kernel_rfl) (by kernel_rfl) (by kernel_rfl) (by kernel_rfl) (by decide) (fun _ _ _ h => h) (by rfl) hHeld ?_ ?_
            rotate_left
            · (intro w' hS'; go_simp <;> (with_reducible rfl))
            simp only [Act.put, List.getElem_toArray, List.getElem_cons_zero, List.getElem_cons_succ, List.setIfInBounds_toArray, List.set_cons_zero, List.set_cons_succ]
            refine tail_q (v := ?_) (i := 5) rfl (by kernel_rfl) (by kernel_rfl) (by kernel_rfl) (by kernel_rfl) (by decide) (fun _ _ _ h => h) (by rfl) hHeld ?_ ?_
            rotate_left
            · (intro w' hS'; go_simp <;> (with_reducible rfl))
            simp only [Act.put, List.getElem_toArray, List.getElem_cons_zero, List.getElem_cons_succ, List.setIfInBounds_toArray, List.set_cons_zero, List.set_cons_succ]
            refine tail_q (v := ?_) (i := 6) rfl (by kernel_rfl) (by kernel_rfl) (by kernel_rfl) (by kernel_rfl) (by decide) (fun _ _ _ h => h) (by rfl) hHeld ?_ ?_
            rotate_left
            · (intro w' hS'; go_simp <;> (with_reducible rfl))
            simp only [Act.put, List.getElem_toArray, List.getElem_cons_zero, List.getElem_cons_succ, List.setIfInBounds_toArray, List.set_cons_zero, List.set_cons_succ]
            refine tail_v (i := 7) (by kernel_rfl) rfl (by rfl) (exec_buildSlice 22 1 _ rfl (by go_simp <;> rfl) bs1) (k7a) (fun hHeld => ?_)
            simp only [Act.put, List.getElem_toArray, List.getElem_cons_zero, List.getElem_cons_succ, List.setIfInBounds_toArray, List.set_cons_zero, List.set_cons_succ]
            refine tail_v (i := 8) (by kernel_rfl) rfl (by rfl) (exec_append 22 _ _ rfl rfl rfl ap) (k7) (fun hHeld => ?_)
            simp only [Act.put, List.getElem_toArray, List.getElem_cons_zero, List.getElem_cons_succ, List.setIfInBounds_toArray, List.set_cons_zero, List.set_cons_succ]
            refine tail_v (v := ?_) (i := 9) (by kernel_rfl) rfl (by rfl) ?_ hHeld (fun hHeld => ?_)
            rotate_left
            · (go_simp <;> (with_reducible rfl))
            simp only [Act.put, List.getElem_toArray, List.getElem_cons_zero, List.getElem_cons_succ, List.setIfInBounds_toArray, List.set_cons_zero, List.set_cons_succ]
            refine tail_end (by kernel_rfl) rfl (by rfl) (exec_store 22 _ _ rfl rfl rfl st8) (by kernel_rfl) ?_
            simp only [Act.put, List.getElem_toArray, List.getElem_cons_zero, List.getElem_cons_succ, List.setIfInBounds_toArray, List.set_cons_zero, List.set_cons_succ]
            generalize W7.setCell ⟨D, 1, none⟩ (.slice a8 (k + 1) c8) = W8 at hD8 ho8 hrt8 hkr8 ⊢
            have K8 := K3.trans (hkr8.mono (fun i hi e => by omega))
            clear cY cB cS bs1 ap st8 k7 k7a hown hDr hBr hbr hcell
            have c9 : W8.cell? ⟨b2, q2 + j, none⟩ = some (.slice av ts[j].length cv) := by rw [K8.cell (p := ⟨b2, q2 + j, none⟩) hb2 not_false]; exact hcell2
            have bs2 := bs_t av ts[j].length cv W8
            have hg9 := heap_last W8 (.cells #[.slice av ts[j].length cv] 27)
            have hD8z := (Array.getElem?_eq_some_iff.1 hD8).1
            obtain ⟨a9, c9', W9, ap9, ho9, hgr9⟩ := push_t (c := 1) (alloc_row hrt8 (.cells #[.slice av ts[j].length cv] 27)) (u := .slice av ts[j].length cv) rfl hg9 (by omega) (by simp; omega) 28
            have k9 : Kept (fun i => (Value.slice a7 k c7).ownBlock = some i) W8 W9 := ((Kept.refl _ W8).alloc _).trans (grown_row hgr9)
            have hD9 : W9.heap[D]? = some (.cells #[.string x.name, .slice a8 (k + 1) c8, .int .i64 x.fuel, .slice a2 x.prog.length c2] 25) := by rw [k9.block D hD8z (fun e => own_not hrt8 hD8 (by decide) D e rfl)]; exact hD8
            have hos9 := row_stay ho8 k9 (own_apart ho8 hrt8 (by decide))
            have hkr9 : Kept (fun i => D ≤ i) W3 W9 := hkr8.trans (k9.mono (fun i _ e => (own_type hrt8 e).1))
            have HT1 : Hid (((rotL x.deps t0).take k).map Value.string ++ [.string d] = ((rotL x.deps t0).take (k + 1)).map Value.string) := by unfold Hid; rw [HR1.out, List.map_append]; rfl
            have HT2 : Hid ((rotL vs t0).take k ++ [.slice av ts[j].length cv] = (rotL vs t0).take (k + 1)) := HR2.out.symm
            rw [HT1.out] at hos9
            rw [HT2.out] at ho9
            clear hrt8 ho8 hD8 hg9 hgr9 k9 HT1 HT2 HR1 HR2 hjd hjv hjt htr hve hvr hkr8
            go_wp2_with (first
              | (with_reducible refine wpl_bslice 28 _ _ rfl rfl ?_ bs2 ?_
                 · (go_simp <;> rfl)
                 simp only [Act.put, List.getElem_toArray, List.getElem_cons_zero, List.getElem_cons_succ, List.setIfInBounds_toArray, List.set_cons_zero, List.set_cons_succ])
              | (with_reducible refine wpl_append 28 _ _ rfl rfl ?_ ?_ ap9 ?_
                 · rfl
                 · rfl
                 simp only [Act.put, List.getElem_toArray, List.getElem_cons_zero, List.getElem_cons_succ, List.setIfInBounds_toArray, List.set_cons_zero, List.set_cons_succ]))
            go_roundg (n - (k + 1))
            case rel => exact ⟨k + 1, a8, c8, a9, c9', rfl, by omega, by go_num, rfl, hD9, hos9, ho9, hkr9⟩
            case measure => omega
          · obtain rfl : k = n := by omega
            obtain ⟨hok, hio, hdo, hnd⟩ := HX.out
            have hl1 : (rotL x.deps t0).length = k := by rw [rot_len]; exact hdn
            have hl2 : (rotL vs t0).length = k := by rw [rot_len]; exact hvn
            rw [List.take_of_length_le (Nat.le_of_eq hl1)] at hrs
            rw [List.take_of_length_le (Nat.le_of_eq hl2)] at hrt
            have hmk : k ≤ maxLen := by simp only [maxLen]; omega
            have hrd : DepsAt wr (.slice a6 k c6) (rotL x.deps t0) := ⟨by
              have := RowAt.own hrs (by rw [List.length_map]; exact hl1) hmk
              rw [List.map_map] at this
              exact this, fun d hd => h.deps.2 d ((rot_perm _ _).mem_iff.1 hd)⟩
            have hty : TgtAt wr ⟨x.name, rotL x.deps t0, x.fuel, x.prog⟩ (.slice a6 k c6) (.slice a2 x.prog.length c2) := ⟨h.name, hrd, (h.prog.kept Kr)⟩
            have hto2 : TreesAt wr (.slice a7 k c7) (rotL ts t0) := ⟨rotL vs t0, by rw [rot_len, rot_len, hvn, ← HLEN.out, hdn], RowAt.own hrt hl2 hmk, fun j l hl => by
              have hjk : j < k := by
                have := (List.getElem?_eq_some_iff.1 hl).1
                rw [rot_len, ← HLEN.out, hdn] at this; exact this
              rw [rot_at (by rw [← HLEN.out, hdn]; exact hlt0) (by rw [← HLEN.out, hdn]; exact hjk)] at hl
              obtain ⟨y, hy, hyt⟩ := hve _ l hl
              refine ⟨y, ?_, hyt.kept Kr⟩
              rw [rot_at (by omega) (by omega), hvn, ← hy, ← HLEN.out, hdn]⟩
            have hok2 := okI_rot hok t0
            have hio2 := ins_rot hok hio t0
            have ic := inputs_ct (hT.kept Kr) hty (hs.kept Kr) hto2
            have ldD : (Instr.loadAt 25 (.pointer (some ⟨D, 0, none⟩))).run Tryd.prog wr = .ok (.agg #[.string x.name, .slice a6 k c6, .int .i64 x.fuel, .slice a2 x.prog.length c2]) wr := load_row Tryd.underlying25 rfl hD (by kernel_rfl)
            unfold tgtC at ic
            dsimp only at ic
            have HO := Lib.hid (And.intro hok2 hio2)
            have gkk : ¬ ((k : Int) < (k : Int)) := by omega
            clear hok hio hdo hnd hl1 hl2 hrs hrt hrd hty hto2 hok2 hio2 hD hve hvr
            go_wp2_with (first
              | (with_reducible refine wpl_load 25 _ rfl rfl ?_ ldD ?_
                 · rfl
                 simp only [Act.put, List.getElem_toArray, List.getElem_cons_zero, List.getElem_cons_succ, List.setIfInBounds_toArray, List.set_cons_zero, List.set_cons_succ]))
            refine ic.mono ?_
            rintro e W6 ⟨hi2, k6⟩
            obtain ⟨v6, rfl, ht6⟩ : ∃ v, e = .returned (.tuple #[v, .int .i64 0]) ∧ TreeAt W6 v o := by
              obtain ⟨ho1, ho2⟩ := HO.out
              rcases hi2 with ⟨q1, _⟩ | ⟨_, ⟨q1, _⟩ | ⟨o', v', q1, he, hte⟩⟩
              · rw [ho1] at q1; cases q1
              · rw [ho2] at q1; cases q1
              · rw [ho2] at q1; injection q1 with q1; subst q1; exact ⟨v', he, hte⟩
            obtain ⟨a10, c10, rfl⟩ := ht6.slc
            have sc := rSame_ct (hto.kept (K3r.trans k6)) ht6
            rw [sameB_rfl] at sc
            clear ic ldD hi2
            go_wp2_with fail
            refine sc.mono ?_
            rintro e W7 ⟨rfl, k7⟩
            clear sc
            go_wp2_with fail
            refine (known16_ct (hT.kept ((Kr.trans k6).trans k7))).mono ?_
            rintro e Wk ⟨rfl, kk⟩
            go_wp2_with fail
            go_ret
            exact ⟨rfl, ((Kr.trans k6).trans k7).trans kk⟩
end Go.Proofs.YtfohljljoalmoaaDoor
