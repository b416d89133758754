/- The document's words. -/
import Derived.Test.YtehpaddddiigbaaDoorSM
namespace Go.Proofs.YtehpaddddiigbaaDoor
open Go.RowKit
set_option maxRecDepth 100000
set_option linter.unusedSimpArgs false
set_option linter.unusedVariables false

theorem results_two_cells {P : Program} {fn : Func} {p q : Tmp} {ty uy : TypeId} (h : fn.results = #[.cell p ty, .cell q uy]) (tmps : Array Value) (w : World) {a b : Nat} {x y : Value}
    (hp : tmps.getD p undef = .pointer (some ⟨a, 0, none⟩)) (hq : tmps.getD q undef = .pointer (some ⟨b, 0, none⟩))
    (h1 : (loadVar ty ⟨a, 0, none⟩).run P w = .ok x w) (h2 : (loadVar uy ⟨b, 0, none⟩).run P w = .ok y w) : (results fn tmps).run P w = .ok (.tuple #[x, y]) w := by
  have hp' : tmps[p]?.getD undef = .pointer (some ⟨a, 0, none⟩) := by simpa using hp
  have hq' : tmps[q]?.getD undef = .pointer (some ⟨b, 0, none⟩) := by simpa using hq
  simp [results, h, hp', hq', asAddr, h1, h2]
theorem p64_len : p64.length = 64 := rfl
set_option maxHeartbeats 4000000 in
theorem words_ct (w : World) :
    Calls Tryd.prog 38 #[] w fun e w' => e = .returned (.tuple #[(Value.agg (List.toArray (kv .u32 hW))), (Value.agg (List.toArray (kv .u32 kW)))]) ∧ Kept (fun _ => False) w w' := by
  have zz := zeroW64
  have z8' := zeroW8
  go_enter Tryd.func38, Tryd.ntmps38
  go_wp2_with (first
    | (with_reducible refine wpl_alloc 65 rfl rfl (zz _) ?_
       simp only [World.size_alloc, Act.put, List.getElem_toArray, List.getElem_cons_zero, List.getElem_cons_succ, List.setIfInBounds_toArray, List.set_cons_zero, List.set_cons_succ])
    | (with_reducible refine wpl_alloc 64 rfl rfl (z8' _) ?_
       simp only [World.size_alloc, Act.put, List.getElem_toArray, List.getElem_cons_zero, List.getElem_cons_succ, List.setIfInBounds_toArray, List.set_cons_zero, List.set_cons_succ]))
  obtain ⟨X, hX⟩ : ∃ X, w.heap.size = X := ⟨_, rfl⟩
  have kk := fun (v : World) (o : Obj) => (Kept.refl (fun _ => False) v).alloc o
  have k0 := (((kk w (.cells (kv .u32 z8).toArray 64)).trans (kk _ (.cells (kv .u32 z64).toArray 65))).trans (kk _ (.cells (kv .u32 z8).toArray 64))).trans (kk _ (.cells (kv .u32 z64).toArray 65))
  have m0 : Arr (((((w.alloc (.cells (kv .u32 z8).toArray 64)).alloc (.cells (kv .u32 z64).toArray 65)).alloc (.cells (kv .u32 z8).toArray 64)).alloc (.cells (kv .u32 z64).toArray 65))) X 64 .u32 z8 := (((Arr.new hX.symm).stay (kk _ _) not_false).stay (kk _ _) not_false).stay (kk _ _) not_false
  have m1 : Arr (((((w.alloc (.cells (kv .u32 z8).toArray 64)).alloc (.cells (kv .u32 z64).toArray 65)).alloc (.cells (kv .u32 z8).toArray 64)).alloc (.cells (kv .u32 z64).toArray 65))) (X + 1) 65 .u32 z64 := ((Arr.new (by rw [World.size_alloc, hX])).stay (kk _ _) not_false).stay (kk _ _) not_false
  have m2 : Arr (((((w.alloc (.cells (kv .u32 z8).toArray 64)).alloc (.cells (kv .u32 z64).toArray 65)).alloc (.cells (kv .u32 z8).toArray 64)).alloc (.cells (kv .u32 z64).toArray 65))) (X + 1 + 1) 64 .u32 z8 := (Arr.new (by rw [World.size_alloc, World.size_alloc, hX])).stay (kk _ _) not_false
  have m3 : Arr (((((w.alloc (.cells (kv .u32 z8).toArray 64)).alloc (.cells (kv .u32 z64).toArray 65)).alloc (.cells (kv .u32 z8).toArray 64)).alloc (.cells (kv .u32 z64).toArray 65))) (X + 1 + 1 + 1) 65 .u32 z64 := Arr.new (by rw [World.size_alloc, World.size_alloc, World.size_alloc, hX])
  rw [hX]
  generalize (((w.alloc (.cells (kv .u32 z8).toArray 64)).alloc (.cells (kv .u32 z64).toArray 65)).alloc (.cells (kv .u32 z8).toArray 64)).alloc (.cells (kv .u32 z64).toArray 65) = W0 at k0 m0 m1 m2 m3 ⊢
  clear zz kk
  refine (primes_ct W0).mono ?_
  rintro e W1 ⟨v, rfl, ho, kp⟩
  obtain ⟨g, c, rfl, hbg, hgl, hcg⟩ := row_int ho
  have hgX := m3.lt
  have n0 := m0.stay kp not_false
  have n1 := m1.stay kp not_false
  have n2 := m2.stay kp not_false
  have n3 := m3.stay kp not_false
  have k1 := k0.trans kp
  have HC := Lib.hid hcg
  clear m0 m1 m2 m3 k0 kp hcg ho
  go_wp2_with fail
  go_loopw [5] (fun x wr => ∃ i : Nat, i ≤ 64 ∧ x = .int .i64 i ∧ Arr wr X 64 .u32 z8 ∧ Arr wr (X + 1) 65 .u32 z64 ∧ Arr wr (X + 1 + 1) 64 .u32 (part hW 8 (min i 8)) ∧ Arr wr (X + 1 + 1 + 1) 65 .u32 (part kW 64 i) ∧ Kept (fun j => j = X + 1 + 1 ∨ j = X + 1 + 1 + 1) W1 wr ∧ Kept (fun _ => False) w wr) (fun x _ => 64 - (intOf x).toNat)
  case atStart => exact ⟨0, by omega, rfl, n0, n1, n2, n3, Kept.refl _ _, k1⟩
  case round =>
    clear n0 n1 n2 n3 k1
    obtain ⟨i, hi, rfl, n0, n1, n2, n3, k1, kr⟩ := hrel
    by_cases hlt : i < 64
    · have hlti : (i : Int) < 64 := by omega
      have cp : wr.cell? ⟨g, i, none⟩ = some (.int .i64 ((p64.getD i 0 : Nat) : Int)) := by rw [k1.cell (p := ⟨g, i, none⟩) hgl (by intro h; rcases h with h | h <;> (have h : g = _ := h) <;> omega)]; exact HC.out i hlt
      have hp311 := p64_le i hlt
      obtain ⟨h31, h32⟩ := kF_root i hlt
      have rc := root_ct (p64.getD i 0) 3 (kF.getD i 0) (by decide) (by decide) hp311 h31 h32 wr
      rw [← kW_at i hlt] at rc
      have q3 := part_set kW_len (i := i) hlt
      have cp2 : Hid (∀ W : World, Kept (fun j => j = X + 1 + 1 ∨ j = X + 1 + 1 + 1) wr W → W.cell? ⟨g, i, none⟩ = some (.int .i64 ((p64.getD i 0 : Nat) : Int))) := fun W h => by
        rw [(k1.trans h).cell (p := ⟨g, i, none⟩) hgl (by intro h; rcases h with h | h <;> (have h : g = _ := h) <;> omega)]; exact HC.out i hlt
      have rc2 : Hid (i < 8 → ∀ W : World, Calls Tryd.prog 54 #[.int .i64 ((p64.getD i 0 : Nat) : Int), .int .i64 2] W fun x w' => x = .returned (.int .u32 ((hW.getD i 0 : Nat) : Int)) ∧ Kept (fun _ => False) W w') := fun h W => by
        obtain ⟨h21, h22⟩ := hF_root i h
        have := root_ct (p64.getD i 0) 2 (hF.getD i 0) (by decide) (by decide) hp311 h21 h22 W
        rw [← hW_at i h] at this
        exact this
      rw [show ((3 : Nat) : Int) = 3 from rfl] at rc
      generalize hkw : kW.getD i 0 = kw at rc q3
      have HQ := Lib.hid q3
      clear hp311 h31 h32 q3 hkw
      generalize p64.getD i 0 = p at cp rc cp2 rc2
      go_wp2_with fail
      refine rc.mono ?_
      rintro e W2 ⟨rfl, kq⟩
      have fz := (n3.stay kq not_false).frozen i
      have cw := (n3.stay kq not_false).cell (j := i) (by rw [part_len kW_len (by omega)]; omega)
      generalize (part kW 64 i).getD i 0 = old at cw
      have st := (n3.stay kq not_false).set i kw
      rw [HQ.out] at st
      have ks := (Kept.refl (fun j => j = X + 1 + 1 + 1) W2).setCell (p := ⟨X + 1 + 1 + 1, i, none⟩) (fun _ => rfl) (.int .u32 (kw : Int))
      have s0 := (n0.stay kq not_false).stay ks (by omega)
      have s1 := (n1.stay kq not_false).stay ks (by omega)
      have s2 := (n2.stay kq not_false).stay ks (by omega)
      have ks2 : Kept (fun j => j = X + 1 + 1 ∨ j = X + 1 + 1 + 1) wr (W2.setCell ⟨X + 1 + 1 + 1, i, none⟩ (.int .u32 (kw : Int))) := (kq.mono (fun _ _ h => h.elim)).setCell (p := ⟨X + 1 + 1 + 1, i, none⟩) (fun _ => .inr rfl) _
      have kw2 : Kept (fun _ => False) w (W2.setCell ⟨X + 1 + 1 + 1, i, none⟩ (.int .u32 (kw : Int))) := (kr.trans kq).setCell (p := ⟨X + 1 + 1 + 1, i, none⟩) (fun h => by have h : X + 1 + 1 + 1 < w.heap.size := h; omega) _
      have k12 := k1.trans ks2
      have cp3 := cp2.out _ ks2
      have HC2 := Lib.hid (And.intro k12 cp3)
      clear n0 n1 n2 n3 k1 kr kq ks cp rc k12 cp3 ks2
      by_cases h8 : i < 8
      · have h8i : (i : Int) < 8 := by omega
        have rc3 := rc2.out h8
        rw [show min i 8 = i by omega] at s2
        have q2 := part_set hW_len (i := i) h8
        generalize hhw : hW.getD i 0 = hw at rc3 q2
        have HQ2 := Lib.hid q2
        clear q2 hhw
        obtain ⟨k12, cp3⟩ := HC2.out
        go_wp2_with fail
        generalize W2.setCell ⟨X + 1 + 1 + 1, i, none⟩ (.int .u32 (kw : Int)) = W3 at st s0 s1 s2 kw2 k12 cp3 ⊢
        refine (rc3 W3).mono ?_
        rintro e W4 ⟨rfl, kq⟩
        have fz4 := (s2.stay kq not_false).frozen i
        have cw4 := (s2.stay kq not_false).cell (j := i) (by rw [part_len hW_len (by omega)]; omega)
        generalize (part hW 8 i).getD i 0 = old4 at cw4
        have st4 := (s2.stay kq not_false).set i hw
        rw [HQ2.out] at st4
        have ks := (Kept.refl (fun j => j = X + 1 + 1) W4).setCell (p := ⟨X + 1 + 1, i, none⟩) (fun _ => rfl) (.int .u32 (hw : Int))
        have t0 := (s0.stay kq not_false).stay ks (by omega)
        have t1 := (s1.stay kq not_false).stay ks (by omega)
        have t3 := (st.stay kq not_false).stay ks (by omega)
        have k5 : Kept (fun _ => False) w (W4.setCell ⟨X + 1 + 1, i, none⟩ (.int .u32 (hw : Int))) := (kw2.trans kq).setCell (p := ⟨X + 1 + 1, i, none⟩) (fun h => by have h : X + 1 + 1 < w.heap.size := h; omega) _
        have k15 : Kept (fun j => j = X + 1 + 1 ∨ j = X + 1 + 1 + 1) W1 (W4.setCell ⟨X + 1 + 1, i, none⟩ (.int .u32 (hw : Int))) := (k12.trans (kq.mono (fun _ _ h => h.elim))).setCell (p := ⟨X + 1 + 1, i, none⟩) (fun _ => .inl rfl) _
        have HM : Hid (min (i + 1) 8 = i + 1) := by unfold Hid; omega
        clear s0 s1 s2 st kw2 k12 cp3 kq ks rc3
        go_wp2_with fail
        go_roundw
        case rel => exact ⟨i + 1, by omega, by go_num, t0, t1, by rw [HM.out]; exact st4, t3, k15, k5⟩
        case measure => simp [intOf]; omega
      · have h8i : ¬ (i : Int) < 8 := by omega
        rw [show min i 8 = min (i + 1) 8 by omega] at s2
        go_wp2_with fail
        go_roundw
        case rel => exact ⟨i + 1, by omega, by go_num, s0, s1, s2, st, HC2.out.1, kw2⟩
        case measure => simp [intOf]; omega
    · obtain rfl : i = 64 := by omega
      rw [show ((64 : Nat) : Int) = 64 from rfl]
      rw [show min 64 8 = 8 by decide, part_full hW_len (by decide)] at n2
      rw [part_full kW_len (by decide)] at n3
      go_wp2_with fail
      have kd : Kept (fun _ => False) wr wr.drew := (Kept.refl _ wr).drew
      have e0 := n0.stay kd not_false
      have e1 := n1.stay kd not_false
      have s0 := stW8 e0 (m := hW) rfl hW_len
      have p0 := e0.put hW
      have ks0 := (Kept.refl (fun j => j = X) wr.drew).setRow (b := X) (fun _ => rfl) (kv .u32 hW).toArray
      have s1 := stW64 (e1.stay ks0 (by omega)) (m := kW) rfl kW_len
      have p1 := (e1.stay ks0 (by omega)).put kW
      have ks1 := (Kept.refl (fun j => j = X + 1) (wr.drew.setRow X (kv .u32 hW).toArray)).setRow (b := X + 1) (fun _ => rfl) (kv .u32 kW).toArray
      have r0 := p0.stay ks1 (by omega)
      have kf : Kept (fun _ => False) w ((wr.drew.setRow X (kv .u32 hW).toArray).setRow (X + 1) (kv .u32 kW).toArray) := ((kr.trans kd).setRow (b := X) (fun h => absurd h (by omega)) _).setRow (b := X + 1) (fun h => absurd h (by omega)) _
      have kS1 : Kept (fun j => j = X ∨ j = X + 1) wr (wr.drew.setRow X (kv .u32 hW).toArray) := ((Kept.refl _ wr).drew).setRow (fun _ => .inl rfl) _
      have kS2 : Kept (fun j => j = X ∨ j = X + 1) wr ((wr.drew.setRow X (kv .u32 hW).toArray).setRow (X + 1) (kv .u32 kW).toArray) := kS1.setRow (fun _ => .inr rfl) _
      refine wp_region_held_drew (S := (Kept (fun j => j = X ∨ j = X + 1) wr)) (by kernel_rfl) ((Kept.refl _ wr).drew) (fun hHeld => ?_)
      refine held_q (i := 0) rfl (by kernel_rfl) (by kernel_rfl) (by kernel_rfl) (fun _ _ _ h => h) (by rfl) hHeld (fun w' hS' => exec_load 64 _ rfl rfl (ldW8 (n2.stay hS' (by omega)) hW_len)) ?_
      simp only [Act.put, List.getElem_toArray, List.getElem_cons_zero, List.getElem_cons_succ, List.setIfInBounds_toArray, List.set_cons_zero, List.set_cons_succ]
      refine held_q (i := 1) rfl (by kernel_rfl) (by kernel_rfl) (by kernel_rfl) (fun _ _ _ h => h) (by rfl) hHeld (fun w' hS' => exec_load 65 _ rfl rfl (ldW64 (n3.stay hS' (by omega)) kW_len)) ?_
      simp only [Act.put, List.getElem_toArray, List.getElem_cons_zero, List.getElem_cons_succ, List.setIfInBounds_toArray, List.set_cons_zero, List.set_cons_succ]
      refine held_s (i := 2) (w1 := wr.drew.setRow X (kv .u32 hW).toArray) (by kernel_rfl) rfl (by rfl) ?_ ?_ (fun hHeld => ?_)
      · refine exec_store (p := .pointer (some ⟨X, 0, none⟩)) (q := (Value.agg (List.toArray (kv .u32 hW)))) 64 (.tmp 0) (.tmp 27) ?_ ?_ ?_ ?_
        · rfl
        · rfl
        · rfl
        · exact s0
      · exact kS1
      simp only [Act.put, List.getElem_toArray, List.getElem_cons_zero, List.getElem_cons_succ, List.setIfInBounds_toArray, List.set_cons_zero, List.set_cons_succ]
      refine held_s (i := 3) (w1 := (wr.drew.setRow X (kv .u32 hW).toArray).setRow (X + 1) (kv .u32 kW).toArray) (by kernel_rfl) rfl (by rfl) ?_ ?_ (fun hHeld => ?_)
      · refine exec_store (p := .pointer (some ⟨X + 1, 0, none⟩)) (q := (Value.agg (List.toArray (kv .u32 kW)))) 65 (.tmp 1) (.tmp 28) ?_ ?_ ?_ ?_
        · rfl
        · rfl
        · rfl
        · exact s1
      · exact kS2
      simp only [Act.put, List.getElem_toArray, List.getElem_cons_zero, List.getElem_cons_succ, List.setIfInBounds_toArray, List.set_cons_zero, List.set_cons_succ]
      refine wpAnyH_done (by kernel_rfl) ?_ _
      go_wp2_with fail
      refine bodyPost_ret (results_two_cells rfl _ _ rfl rfl (run_loadVar_row _ X _ _ _ _ _ r0 Tryd.underlying64 rfl (by rw [List.size_toArray, kv_len, hW_len]; kernel_rfl)) (run_loadVar_row _ (X + 1) _ _ _ _ _ p1 Tryd.underlying65 rfl (by rw [List.size_toArray, kv_len, kW_len]; kernel_rfl))) rfl ?_
      exact ⟨rfl, kf⟩
