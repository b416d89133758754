/- The document's times. -/
import Derived.Test.YtehpaddddiigbaaDoorSE
namespace Go.Proofs.YtehpaddddiigbaaDoor
open Go.RowKit
set_option maxRecDepth 100000
set_option linter.unusedSimpArgs false
set_option linter.unusedVariables false

theorem z10_V : V z10 = 0 := by decide +kernel
theorem z10_lt : ∀ d ∈ z10, d < BB := by decide +kernel
theorem four_alloc (w : World) (t : TypeId) (k : IntKind) (a b c d : List Nat) {X : Nat} (hX : w.heap.size = X) :
    let W := (((w.alloc (.cells (kv k a).toArray t)).alloc (.cells (kv k b).toArray t)).alloc (.cells (kv k c).toArray t)).alloc (.cells (kv k d).toArray t)
    Arr W X t k a ∧ Arr W (X + 1) t k b ∧ Arr W (X + 1 + 1) t k c ∧ Arr W (X + 1 + 1 + 1) t k d ∧ Kept (fun _ => False) w W := by
  intro W
  have s1 := World.size_alloc w (.cells (kv k a).toArray t)
  have s2 := World.size_alloc (w.alloc (.cells (kv k a).toArray t)) (.cells (kv k b).toArray t)
  have s3 := World.size_alloc ((w.alloc (.cells (kv k a).toArray t)).alloc (.cells (kv k b).toArray t)) (.cells (kv k c).toArray t)
  have kk := fun (v : World) (o : Obj) => (Kept.refl (fun _ => False) v).alloc o
  refine ⟨?_, ?_, ?_, ?_, (((kk _ _).trans (kk _ _)).trans (kk _ _)).trans (kk _ _)⟩
  · exact (((Arr.new hX.symm).stay (kk _ _) not_false).stay (kk _ _) not_false).stay (kk _ _) not_false
  · exact ((Arr.new (by rw [s1, hX])).stay (kk _ _) not_false).stay (kk _ _) not_false
  · exact (Arr.new (by rw [s2, s1, hX])).stay (kk _ _) not_false
  · exact Arr.new (by rw [s3, s2, s1, hX])
set_option maxHeartbeats 4000000 in
theorem times_ct (a b : List Nat) (ha : a.length = 10) (hb : b.length = 10) (da : ∀ d ∈ a, d < BB) (db : ∀ d ∈ b, d < BB) (hab : V a * V b < BB ^ 10) (w : World) :
    Calls Tryd.prog 67 #[(Value.agg (List.toArray (kv .u64 a))), (Value.agg (List.toArray (kv .u64 b)))] w fun e w' => ∃ c : List Nat, e = .returned ((Value.agg (List.toArray (kv .u64 c)))) ∧ c.length = 10 ∧ (∀ d ∈ c, d < BB) ∧ V c = V a * V b ∧ Kept (fun _ => False) w w' := by
  have z10' := zeroU10
  go_enter Tryd.func67, Tryd.ntmps67
  go_wp2_with (first
    | (with_reducible refine wpl_alloc 95 rfl rfl (z10' _) ?_
       simp only [World.size_alloc, Act.put, List.getElem_toArray, List.getElem_cons_zero, List.getElem_cons_succ, List.setIfInBounds_toArray, List.set_cons_zero, List.set_cons_succ]))
  obtain ⟨X, hX⟩ : ∃ X, w.heap.size = X := ⟨_, rfl⟩
  obtain ⟨hA, hB, hR, hO, k4⟩ := four_alloc w 95 .u64 a b z10 z10 hX
  rw [hX]
  generalize (((w.alloc (.cells (kv .u64 a).toArray 95)).alloc (.cells (kv .u64 b).toArray 95)).alloc (.cells (kv .u64 z10).toArray 95)).alloc (.cells (kv .u64 z10).toArray 95) = W at hA hB hR hO k4 ⊢
  go_loopw [6] (fun x wr => ∃ (i : Nat) (out : List Nat), i ≤ 10 ∧ x = .int .i64 i ∧ out.length = 10 ∧ Hid ((∀ d ∈ out, d < BB) ∧ ∃ q, V out + q * BB ^ 10 = V (a.take i) * V b) ∧ Arr wr X 95 .u64 a ∧ Arr wr (X + 1) 95 .u64 b ∧ Arr wr (X + 1 + 1) 95 .u64 z10 ∧ Arr wr (X + 1 + 1 + 1) 95 .u64 out ∧ Kept (fun _ => False) w wr) (fun x _ => 10 - (intOf x).toNat)
  case atStart => exact ⟨0, z10, by omega, rfl, rfl, ⟨z10_lt, 0, by rw [z10_V]; simp [V]⟩, hA, hB, hR, hO, k4⟩
  case round =>
    obtain ⟨i, out, hi, rfl, hol, HO, hAr, hBr, hRr, hOr, hkr⟩ := hrel
    by_cases hlt : i < 10
    · have hi10 : (i : Int) < 10 := by omega
      have HV := Lib.hid (rfl : V out = V out)
      go_wp2_with fail
      go_loopw [7, 8] (fun c x wz => ∃ (k carry : Nat) (o2 : List Nat), i + k ≤ 10 ∧ x = .int .i64 k ∧ c = .int .u64 carry ∧ carry < 65536 ∧ o2.length = 10 ∧ Hid ((∀ d ∈ o2, d < BB) ∧ V o2 + carry * BB ^ (i + k) = V out + a.getD i 0 * BB ^ i * V (b.take k)) ∧ Arr wz X 95 .u64 a ∧ Arr wz (X + 1) 95 .u64 b ∧ Arr wz (X + 1 + 1) 95 .u64 z10 ∧ Arr wz (X + 1 + 1 + 1) 95 .u64 o2 ∧ Kept (fun _ => False) w wz) (fun _ x _ => 10 - (intOf x).toNat)
      case atStart => exact ⟨0, 0, out, by omega, rfl, rfl, by omega, hol, ⟨HO.out.1, times_zero rfl⟩, hAr, hBr, hRr, hOr, hkr⟩
      case round =>
        clear hAr hBr hRr hOr hkr
        obtain ⟨k, carry, o2, hk, rfl, rfl, hcy, hol2, HO2, hAr, hBr, hRr, hOr, hkr⟩ := hrel
        obtain ⟨p, hp⟩ : ∃ p : Nat, p = i + k := ⟨_, rfl⟩
        have hto : ((i : Int) + (k : Int)).toNat = i + k := by omega
        by_cases hlk : p < 10
        · have hp10 : (i : Int) + (k : Int) < 10 := by omega
          have c1 := hAr.cell (j := i) (by omega)
          have c2 := hBr.cell (j := k) (by omega)
          have c3 := hOr.cell (j := p) (by omega)
          rw [hp] at c3
          have bA := getD_lt (j := i) da
          have bB := getD_lt (j := k) db
          have bO := getD_lt (j := p) HO2.out.1
          have hst := times_step (out := o2) (a := a) (b := b) (i := i) (k := k) (carry := carry) (S := V out) (by omega) (by omega) (by omega) HO2.out.2
          rw [← hp] at hst
          have hsl := set_lt (l := o2) (j := p) (v := (o2.getD p 0 + a.getD i 0 * b.getD k 0 + carry) % BB) HO2.out.1 (Nat.mod_lt _ (by decide))
          have hdb := dig_bound bO bA bB (show carry < BB from hcy)
          have HJ := Lib.hid (And.intro hsl hst)
          clear hsl hst
          rw [← hp] at c3
          generalize hxo : o2.getD p 0 = o at c3 bO hdb HJ
          rw [hp] at c3
          generalize hxx : a.getD i 0 = x at c1 bA hdb
          generalize hxy : b.getD k 0 = y at c2 bB hdb
          rw [hxx, hxy] at HJ
          obtain ⟨P, hP⟩ : ∃ P : Nat, P = x * y := ⟨_, rfl⟩
          rw [← hP] at hdb HJ
          have hPi : (x : Int) * (y : Int) = (P : Int) := by rw [hP]; exact_mod_cast rfl
          have w1 : IntKind.u64.wrap ((x : Int) * (y : Int)) = (P : Int) := by rw [hPi]; exact IntWalk.u64_in _ (by omega)
          have w2 : IntKind.u64.wrap ((o : Int) + (P : Int)) = (o : Int) + (P : Int) := IntWalk.u64_in _ (by omega)
          have w3 : IntKind.u64.wrap ((o : Int) + (P : Int) + (carry : Int)) = (o : Int) + (P : Int) + (carry : Int) := IntWalk.u64_in _ (by omega)
          obtain ⟨hd1, hd2⟩ := hdb
          have e1 : (((o + P + carry) % BB : Nat) : Int) = ((o : Int) + (P : Int) + (carry : Int)) % 65536 := by unfold BB; omega
          have e2 : (((o + P + carry) / BB : Nat) : Int) = ((o : Int) + (P : Int) + (carry : Int)) / 65536 := by unfold BB; omega
          have HE := Lib.hid (And.intro e1 e2)
          clear hP hPi bA bB bO hxo hxx hxy e1 e2
          go_wp2_with fail
          go_quiet (fail)
          have kd : Kept (fun _ => False) wr (wr.drewN nq) := (Kept.refl _ wr).drewN nq
          have hA3 := hAr.stay kd not_false
          have hB3 := hBr.stay kd not_false
          have hR3 := hRr.stay kd not_false
          have hO3 := hOr.stay kd not_false
          have k3 := hkr.trans kd
          clear hAr hBr hRr hOr hkr c1 c2 c3 kd
          generalize wr.drewN nq = W3 at hA3 hB3 hR3 hO3 k3 ⊢
          have c4 := hO3.cell (j := p) (by omega)
          have hfr := hO3.frozen p
          have hset := hO3.set p ((o + P + carry) % BB)
          have ksc := (Kept.refl (fun j => j = X + 1 + 1 + 1) W3).setCell (p := ⟨X + 1 + 1 + 1, p, none⟩) (fun _ => rfl) (.int .u64 (((o + P + carry) % BB : Nat) : Int))
          have hA4 := hA3.stay ksc (by omega)
          have hB4 := hB3.stay ksc (by omega)
          have hR4 := hR3.stay ksc (by omega)
          have k4' : Kept (fun _ => False) w (W3.setCell ⟨X + 1 + 1 + 1, p, none⟩ (.int .u64 (((o + P + carry) % BB : Nat) : Int))) := k3.setCell (p := ⟨X + 1 + 1 + 1, p, none⟩) (fun h => by have h : X + 1 + 1 + 1 < w.heap.size := h; omega) _
          rw [HE.out.1] at hset hA4 hB4 hR4 k4'
          generalize o2.getD p 0 = v0 at c4
          have hl2 : (o2.set p ((o + P + carry) % BB)).length = 10 := by rw [List.length_set]; exact hol2
          have HL := Lib.hid hl2
          have HD2 := Lib.hid hd2
          clear hA3 hB3 hR3 hO3 k3 ksc hl2 hd2
          rw [hp] at c4 hfr hset hA4 hB4 hR4 k4'
          go_wp2_with fail
          go_roundw
          case rel => exact ⟨k + 1, (o + P + carry) / BB, o2.set p ((o + P + carry) % BB), by omega, by go_num, by rw [HE.out.2], HD2.out, HL.out, HJ.out, hA4, hB4, hR4, by rw [hp]; exact hset, k4'⟩
          case measure => simp [intOf]; omega
        · have hp10 : ¬ (i : Int) + (k : Int) < 10 := by omega
          have hk10 : k = 10 - i := by omega
          have HK := Lib.hid hk10
          have HO3 : Hid ((∀ d ∈ o2, d < BB) ∧ ∃ q, V o2 + q * BB ^ 10 = V (a.take (i + 1)) * V b) := by
            obtain ⟨h1, h2⟩ := HO2.out
            obtain ⟨_, q, hq⟩ := HO.out
            rw [hk10] at h2
            exact ⟨h1, times_row hlt ha hb h2 hq⟩
          clear hk10
          go_wp2_with fail
          go_roundw
          case rel => exact ⟨i + 1, o2, by omega, by go_num, hol2, HO3, hAr, hBr, hRr, hOr, hkr⟩
          case measure => simp [intOf]; omega
    · obtain rfl : i = 10 := by omega
      obtain ⟨hod, q, hq⟩ := HO.out
      rw [List.take_of_length_le (by omega)] at hq
      have hV := V_mod hol hod hq hab
      have HF := Lib.hid (And.intro hod hV)
      clear hod hq hV HO hA hB hR hO
      have l1 := ldU10 hOr hol
      have s1 := stU10 hRr (m := out) rfl hol
      have p1 := hRr.put out
      have kp : Kept (fun _ => False) w (wr.setRow (X + 1 + 1) (kv .u64 out).toArray) := hkr.setRow (fun h => absurd h (by omega)) _
      go_wp2_with (first
        | (with_reducible refine wpl_load 95 _ rfl rfl ?_ l1 ?_
           · rfl
           simp only [Act.put, List.getElem_toArray, List.getElem_cons_zero, List.getElem_cons_succ, List.setIfInBounds_toArray, List.set_cons_zero, List.set_cons_succ])
        | (with_reducible refine wpl_store 95 _ _ rfl rfl ?_ ?_ s1 ?_
           · rfl
           · rfl
           simp only [Act.put, List.getElem_toArray, List.getElem_cons_zero, List.getElem_cons_succ, List.setIfInBounds_toArray, List.set_cons_zero, List.set_cons_succ]))
      refine bodyPost_ret (results_cell_row rfl _ _ _ _ _ _ _ rfl p1 Tryd.underlying95 rfl (by rw [List.size_toArray, kv_len, hol]; kernel_rfl)) rfl ?_
      exact ⟨out, rfl, hol, HF.out.1, HF.out.2, kp⟩
