/- utf8.Valid at a slice of bytes. -/
import Derived.Test.YtlheboafhgmbpaaDoorLN
import Derived.Lib.DecodeNEq
import Derived.Deep.LoopGhost
import Derived.Deep.Cut
import Derived.Deep.CutBlock
namespace Go.Proofs.YtlheboafhgmbpaaDoor
open Go.RowKit Go.Lib
set_option maxRecDepth 100000
set_option linter.unusedSimpArgs false
set_option linter.unusedVariables false

/-- The two tables of unicode/utf8. -/
structure Tab8 (w : World) : Prop where
  first : ∀ c, c < 256 → w.cell? ⟨0, c, none⟩ = some (.int .u8 (firstT c))
  acc : ∀ i, i < 16 → w.cell? ⟨1, i * 2, none⟩ = some (.int .u8 (accLo i)) ∧ w.cell? ⟨1, i * 2 + 1, none⟩ = some (.int .u8 (accHi i))
theorem cell_lt {w : World} {b i : Nat} {v : Value} (h : w.cell? ⟨b, i, none⟩ = some v) : b < w.heap.size := by
  rcases Nat.lt_or_ge b w.heap.size with h' | h'
  · exact h'
  · simp [World.cell?, Array.getElem?_eq_none h'] at h
theorem Tab8.kept {w w' : World} (h : Tab8 w) (k : Kept (fun _ => False) w w') : Tab8 w' where
  first c hc := by rw [k.cell (cell_lt (h.first c hc)) not_false]; exact h.first c hc
  acc i hi := ⟨by rw [k.cell (cell_lt (h.acc i hi).1) not_false]; exact (h.acc i hi).1, by rw [k.cell (cell_lt (h.acc i hi).2) not_false]; exact (h.acc i hi).2⟩
theorem validD_drop {l : List UInt8} {k : Nat} (h : AscL l k) : validD (l.drop k) = validD l := (validD_ascii k l h).symm
theorem ascL_one {l : List UInt8} (h0 : 0 < l.length) (h : (l.getD 0 0).toNat < 128) : AscL l 1 := by
  match l, h0 with
  | a :: r, _ =>
    intro b hb
    simp at hb h
    subst hb
    exact h
/-- Bytes from k on. -/
theorem ByC.dropL {w : World} {a : Option Addr} {c : Nat} {l : List UInt8} (h : ByC w (.slice a l.length c) l) {k : Nat} (hk : k ≤ l.length) :
    ∃ a' c', (∀ w', (Instr.sliceAt 22 (.slice a l.length c) (some (.int .i64 (k : Int))) none none).run Tryd.prog w' = .ok (.slice a' (l.drop k).length c') w') ∧ ByC w (.slice a' (l.drop k).length c') (l.drop k) := by
  obtain ⟨a', c', h1, h2⟩ := h.drop hk
  exact ⟨a', c', by rw [List.length_drop]; exact h1, by rw [List.length_drop]; exact h2⟩
/-- What a word of a slice's head tells. -/
theorem word_tell {w : World} {a : Option Addr} {c : Nat} {l : List UInt8} (h : ByC w (.slice a l.length c) l) (h8 : 8 ≤ l.length) :
    ∃ A : Nat, A < 18446744073709551616 ∧ ((A &&& 9259542123273814144 = 0) ↔ AscL l 8) ∧ ∀ n, Calls Tryd.prog 19 #[.slice a l.length c] (w.drewN n) fun e w' => e = .returned (.int .u64 (A : Int)) ∧ ∃ m, w' = (w.drewN n).drewN m :=
  ⟨_, word_ltL l, word_ascL l h8, fun n => word_ct (h.kept ((Kept.refl _ w).drewN n)) h8⟩
theorem getD_pos {l : List UInt8} (h : 0 < l.length) : l ≠ [] := fun e => by subst e; simp at h
theorem chk_no2 {n b1 b2 b3 lo hi : Nat} (h : n < 2 ∨ b1 < lo ∨ hi < b1) : checkN n b1 b2 b3 2 lo hi = none := by unfold checkN; rw [if_pos rfl, if_pos h]
theorem chk_yes2 {n b1 b2 b3 lo hi : Nat} (h : ¬ (n < 2 ∨ b1 < lo ∨ hi < b1)) : checkN n b1 b2 b3 2 lo hi = some 2 := by unfold checkN; rw [if_pos rfl, if_neg h]
theorem chk_no3 {n b1 b2 b3 lo hi : Nat} (h : n < 3 ∨ b1 < lo ∨ hi < b1 ∨ b2 < 128 ∨ 191 < b2) : checkN n b1 b2 b3 3 lo hi = none := by unfold checkN; rw [if_neg (by decide), if_pos rfl, if_pos h]
theorem chk_yes3 {n b1 b2 b3 lo hi : Nat} (h : ¬ (n < 3 ∨ b1 < lo ∨ hi < b1 ∨ b2 < 128 ∨ 191 < b2)) : checkN n b1 b2 b3 3 lo hi = some 3 := by unfold checkN; rw [if_neg (by decide), if_pos rfl, if_neg h]
theorem chk_no4 {n b1 b2 b3 lo hi : Nat} (h : n < 4 ∨ b1 < lo ∨ hi < b1 ∨ b2 < 128 ∨ 191 < b2 ∨ b3 < 128 ∨ 191 < b3) : checkN n b1 b2 b3 4 lo hi = none := by unfold checkN; rw [if_neg (by decide), if_neg (by decide), if_pos rfl, if_pos h]
theorem chk_yes4 {n b1 b2 b3 lo hi : Nat} (h : ¬ (n < 4 ∨ b1 < lo ∨ hi < b1 ∨ b2 < 128 ∨ 191 < b2 ∨ b3 < 128 ∨ 191 < b3)) : checkN n b1 b2 b3 4 lo hi = some 4 := by unfold checkN; rw [if_neg (by decide), if_neg (by decide), if_pos rfl, if_neg h]
theorem chk_no {n b1 b2 b3 z lo hi : Nat} (h2 : ¬ z = 2) (h3 : ¬ z = 3) (h4 : ¬ z = 4) : checkN n b1 b2 b3 z lo hi = none := by unfold checkN; rw [if_neg h2, if_neg h3, if_neg h4]
theorem nb (c n : Nat) (h : ¬ c = n) : ((c : Int) == (n : Int)) = false := by simp; omega
set_option maxRecDepth 100000 in
theorem and7L' : ∀ X : Fin 256, bits .and .u8 ((X.val : Nat) : Int) 7 = ((X.val % 8 : Nat) : Int) := by decide
theorem and7L (X : Nat) (h : X < 256) : bits .and .u8 (X : Int) 7 = ((X % 8 : Nat) : Int) := and7L' ⟨X, h⟩
theorem firstT_lt (b : Nat) : firstT b < 256 := by
  unfold firstT
  repeat' split
  all_goals simp
theorem accLo_lt (i : Nat) : accLo i < 256 := by
  unfold accLo
  repeat' split
  all_goals simp
theorem accHi_lt (i : Nat) : accHi i < 256 := by
  unfold accHi
  repeat' split
  all_goals simp
set_option maxRecDepth 1000000 in
set_option maxHeartbeats 16000000 in
theorem valid_ct {w : World} {a : Option Addr} {n c : Nat} {l : List UInt8} (h : ByC w (.slice a n c) l) (hl : l.length ≤ 1000000) (hT : Tab8 w) :
    Calls Tryd.prog 14 #[.slice a n c] w fun e w' => e = .returned (.bool (validD l)) ∧ Kept (fun _ => False) w w' := by
  obtain ⟨rfl, hc⟩ := h.cap
  obtain ⟨ANS, hANS⟩ : ∃ ANS, validD l = ANS := ⟨_, rfl⟩
  rw [hANS]
  have sl0 := fun w' => slice_hm a l.length c hc w'
  have h0 : ByC w (.slice a l.length l.length) l := by have := h.head (i := l.length) (Nat.le_refl _); rwa [List.take_length] at this
  go_enter Tryd.func14, Tryd.ntmps14
  go_wp2_with (first
    | (refine wpl_val rfl (exec_slice_hm 22 _ _ _ rfl rfl rfl rfl (sl0 _)) ?_))
  clear sl0 h
  go_loopg [0] (l.length + 1) (fun gk s0 wr => ∃ (t : List UInt8) (a' : Option Addr) (c' : Nat), s0 = .slice a' t.length c' ∧ ByC wr (.slice a' t.length c') t ∧ validD t = ANS ∧ t.length < gk ∧ t.length ≤ 1000000 ∧ Kept (fun _ => False) w wr)
  case atStart => exact ⟨l, a, l.length, rfl, h0, hANS, by omega, hl, Kept.refl _ _⟩
  case round =>
    obtain ⟨t, a', c', rfl, ht, hv, hg, htl, hk⟩ := hrel
    clear hANS h0
    have hTr := hT.kept hk
    by_cases hpos : 0 < t.length
    · obtain ⟨g', rfl⟩ : ∃ g', gk = g' + 1 := ⟨gk - 1, by omega⟩
      have hposz : (0 : Int) < (t.length : Int) := by omega
      obtain ⟨b, o, rfl, hbl, hcell⟩ := ht.byte hpos
      rw [Nat.add_zero] at hcell
      obtain ⟨x0, hx0⟩ : ∃ x0, t.getD 0 0 = x0 := ⟨_, rfl⟩
      rw [hx0] at hcell
      have hx0lt : x0.toNat < 256 := x0.toNat_lt
      by_cases hasc : x0.toNat < 128
      · as_aux_lemma =>
          have hascz : (x0.toNat : Int) < 128 := by omega
          have a1 : AscL t 1 := ascL_one hpos (by rw [hx0]; exact hasc)
          obtain ⟨b1, c1, sl1, ht1⟩ := ht.dropL (k := 1) (by omega)
          have z1 : (t.drop 1).length + 1 = t.length := by rw [List.length_drop]; omega
          have v1 : validD (t.drop 1) = ANS := by rw [validD_drop a1]; exact hv
          generalize t.drop 1 = t1 at sl1 ht1 z1 v1
          have sl1' : ∀ w', (Instr.sliceAt 22 (.slice (some ⟨b, o, none⟩) t.length c') (some (.int .i64 1)) none none).run Tryd.prog w' = .ok (.slice b1 t1.length c1) w' := sl1
          clear hTr hT hv a1 sl1
          by_cases c8 : 8 < t1.length
          · have c8z : (8 : Int) < (t1.length : Int) := by omega
            obtain ⟨A1, lA1, kA1, cW1⟩ := word_tell ht1 (by omega)
            have hand1 : bits .and .u64 (A1 : Int) 9259542123273814144 = ((A1 &&& 9259542123273814144 : Nat) : Int) := u64_and_nat A1 9259542123273814144 lA1 (by omega)
            obtain ⟨Z1, hZ1⟩ : ∃ Z1, A1 &&& 9259542123273814144 = Z1 := ⟨_, rfl⟩
            rw [hZ1] at hand1 kA1
            clear hZ1 lA1
            have cW1' : Calls Tryd.prog 19 #[.slice b1 t1.length c1] wr fun e w' => e = .returned (.int .u64 (A1 : Int)) ∧ ∃ m, w' = wr.drewN m := cW1 0
            by_cases hz1 : Z1 = 0
            · have hz1b : ((Z1 : Int) == 0) = true := by simp [hz1]
              obtain ⟨b2, c2, sl2, ht2⟩ := ht1.dropL (k := 8) (by omega)
              have z2 : (t1.drop 8).length + 8 = t1.length := by rw [List.length_drop]; omega
              have v2 : validD (t1.drop 8) = ANS := by rw [validD_drop (kA1.1 hz1)]; exact v1
              generalize t1.drop 8 = t2 at sl2 ht2 z2 v2
              have sl2' : ∀ w', (Instr.sliceAt 22 (.slice b1 t1.length c1) (some (.int .i64 8)) none none).run Tryd.prog w' = .ok (.slice b2 t2.length c2) w' := sl2
              clear kA1 v1 sl2 cW1
              go_wp2_with (first
                | (refine wpl_val rfl (exec_slice_l 22 _ _ rfl rfl rfl (sl1' _)) ?_))
              refine cW1'.mono ?_
              rintro e W1 ⟨rfl, q1, rfl⟩
              have hk1 := hk.drewN q1
              have ht2' := ht2.kept ((Kept.refl _ wr).drewN q1)
              generalize wr.drewN q1 = W1 at hk1 ht2' ⊢
              go_wp2_with (first
                | (refine wpl_val rfl (exec_slice_l 22 _ _ rfl rfl rfl (sl2' _)) ?_))
              clear sl1' sl2' cW1' ht1 ht2 hk ht
              by_cases c16 : 16 < t2.length
              · have c16z : (16 : Int) < (t2.length : Int) := by omega
                obtain ⟨b3, c3, sl3, ht3⟩ := ht2'.dropL (k := 8) (by omega)
                have z3 : (t2.drop 8).length + 8 = t2.length := by rw [List.length_drop]; omega
                have sl3' : ∀ w', (Instr.sliceAt 22 (.slice b2 t2.length c2) (some (.int .i64 8)) none none).run Tryd.prog w' = .ok (.slice b3 (t2.drop 8).length c3) w' := sl3
                obtain ⟨A2, lA2, kA2, cW2⟩ := word_tell ht2' (by omega)
                obtain ⟨A3, lA3, kA3, cW3⟩ := word_tell ht3 (by omega)
                have k2 : (A2 ||| A3) &&& 9259542123273814144 = 0 → AscL t2 16 := fun h0' => by
                  obtain ⟨e1, e2⟩ := (or_mask A2 A3 _).1 h0'
                  exact ascL_add t2 8 8 (kA2.1 e1) (kA3.1 e2)
                have hor2 : bits .or .u64 (A2 : Int) (A3 : Int) = ((A2 ||| A3 : Nat) : Int) := u64_or_nat A2 A3 lA2 lA3
                have lor2 : A2 ||| A3 < 18446744073709551616 := Nat.or_lt_two_pow (n := 64) lA2 lA3
                have hand2 : bits .and .u64 ((A2 ||| A3 : Nat) : Int) 9259542123273814144 = (((A2 ||| A3) &&& 9259542123273814144 : Nat) : Int) := u64_and_nat _ 9259542123273814144 lor2 (by omega)
                obtain ⟨O2, hO2⟩ : ∃ O2, A2 ||| A3 = O2 := ⟨_, rfl⟩
                rw [hO2] at hor2 hand2 k2
                obtain ⟨Z2, hZ2⟩ : ∃ Z2, O2 &&& 9259542123273814144 = Z2 := ⟨_, rfl⟩
                rw [hZ2] at hand2 k2
                generalize t2.drop 8 = t3 at *
                clear kA2 kA3 lor2 hO2 hZ2 sl3 lA2 lA3
                by_cases hz2 : Z2 = 0
                · have hz2b : ((Z2 : Int) == 0) = true := by simp [hz2]
                  obtain ⟨b4, c4, sl4, ht4⟩ := ht2'.dropL (k := 16) (by omega)
                  have z4 : (t2.drop 16).length + 16 = t2.length := by rw [List.length_drop]; omega
                  have v4 : validD (t2.drop 16) = ANS := by rw [validD_drop (k2 hz2)]; exact v2
                  generalize t2.drop 16 = t4 at sl4 ht4 z4 v4
                  have sl4' : ∀ w', (Instr.sliceAt 22 (.slice b2 t2.length c2) (some (.int .i64 16)) none none).run Tryd.prog w' = .ok (.slice b4 t4.length c4) w' := sl4
                  clear k2 sl4
                  refine wp_region_quiet_lit (by kernel_rfl) (by kernel_rfl) ?_
                  repeat (first
                    | go_big_quiet_skip
                    | (go_big_quiet_want
                       first
                         | (with_reducible refine quiet_of_run (fun n => exec_slice_l 22 _ _ rfl rfl rfl (sl3' _)) ?_
                            go_simp
                            go_big_quiet_on)
                         | (go_big_quiet_op
                            go_big_quiet_call (first | (go_at_call 19; with_reducible exact Calls.quiet_of (cW2 _)) | (go_at_call 19; with_reducible exact Calls.quiet_of (cW3 _))))
                         | (go_big_quiet_op; go_big_quiet_on)))
                  refine wpQuiet_nil ?_
                  intro _ hw'
                  obtain ⟨nq, hw''⟩ := hw'
                  subst hw''
                  have hk4 := hk1.drewN nq
                  have ht5 := ht4.kept ((Kept.refl _ W1).drewN nq)
                  generalize W1.drewN nq = W2 at hk4 ht5 ⊢
                  clear cW2 cW3 ht4 ht3 ht2' hk1 hor2 hand2
                  go_wp2_with (first
                    | (refine wpl_val rfl (exec_slice_l 22 _ _ rfl rfl rfl (sl4' _)) ?_))
                  clear sl4' sl3' hand1
                  go_loopg [0] (t4.length + 1) (fun g2 s0 wx => ∃ (u : List UInt8) (a5 : Option Addr) (c5 : Nat), s0 = .slice a5 u.length c5 ∧ ByC wx (.slice a5 u.length c5) u ∧ validD u = ANS ∧ u.length < g2 ∧ u.length ≤ t4.length ∧ Kept (fun _ => False) w wx)
                  case atStart => exact ⟨t4, b4, c4, rfl, ht5, v4, by omega, Nat.le_refl _, hk4⟩
                  case round =>
                    obtain ⟨u, a5, c5, rfl, hu, vu, hgu, hut, hku⟩ := hrel
                    clear ht5 hk4 v4
                    by_cases c32 : 32 < u.length
                    · obtain ⟨g3, rfl⟩ : ∃ g3, gk = g3 + 1 := ⟨gk - 1, by omega⟩
                      have c32z : (32 : Int) < (u.length : Int) := by omega
                      obtain ⟨p1, d1, se1, hu1⟩ := hu.dropL (k := 8) (by omega)
                      obtain ⟨p2, d2, se2, hu2⟩ := hu.dropL (k := 16) (by omega)
                      obtain ⟨p3, d3, se3, hu3⟩ := hu.dropL (k := 24) (by omega)
                      have e1 : (u.drop 8).length + 8 = u.length := by rw [List.length_drop]; omega
                      have e2 : (u.drop 16).length + 16 = u.length := by rw [List.length_drop]; omega
                      have e3 : (u.drop 24).length + 24 = u.length := by rw [List.length_drop]; omega
                      have se1' : ∀ w', (Instr.sliceAt 22 (.slice a5 u.length c5) (some (.int .i64 8)) none none).run Tryd.prog w' = .ok (.slice p1 (u.drop 8).length d1) w' := se1
                      have se2' : ∀ w', (Instr.sliceAt 22 (.slice a5 u.length c5) (some (.int .i64 16)) none none).run Tryd.prog w' = .ok (.slice p2 (u.drop 16).length d2) w' := se2
                      have se3' : ∀ w', (Instr.sliceAt 22 (.slice a5 u.length c5) (some (.int .i64 24)) none none).run Tryd.prog w' = .ok (.slice p3 (u.drop 24).length d3) w' := se3
                      obtain ⟨B0, lB0, kB0, cB0⟩ := word_tell hu (by omega)
                      obtain ⟨B1, lB1, kB1, cB1⟩ := word_tell hu1 (by omega)
                      obtain ⟨B2, lB2, kB2, cB2⟩ := word_tell hu2 (by omega)
                      obtain ⟨B3, lB3, kB3, cB3⟩ := word_tell hu3 (by omega)
                      have ho1 : bits .or .u64 (B0 : Int) (B1 : Int) = ((B0 ||| B1 : Nat) : Int) := u64_or_nat B0 B1 lB0 lB1
                      have ho2 : bits .or .u64 (B2 : Int) (B3 : Int) = ((B2 ||| B3 : Nat) : Int) := u64_or_nat B2 B3 lB2 lB3
                      have lo1 : B0 ||| B1 < 18446744073709551616 := Nat.or_lt_two_pow (n := 64) lB0 lB1
                      have lo2 : B2 ||| B3 < 18446744073709551616 := Nat.or_lt_two_pow (n := 64) lB2 lB3
                      have ho3 : bits .or .u64 ((B0 ||| B1 : Nat) : Int) ((B2 ||| B3 : Nat) : Int) = (((B0 ||| B1) ||| (B2 ||| B3) : Nat) : Int) := u64_or_nat _ _ lo1 lo2
                      have lo3 : (B0 ||| B1) ||| (B2 ||| B3) < 18446744073709551616 := Nat.or_lt_two_pow (n := 64) lo1 lo2
                      have hand3 : bits .and .u64 (((B0 ||| B1) ||| (B2 ||| B3) : Nat) : Int) 9259542123273814144 = ((((B0 ||| B1) ||| (B2 ||| B3)) &&& 9259542123273814144 : Nat) : Int) := u64_and_nat _ 9259542123273814144 lo3 (by omega)
                      have k3 : ((B0 ||| B1) ||| (B2 ||| B3)) &&& 9259542123273814144 = 0 → AscL u 32 := fun h0' => by
                        obtain ⟨e01, e23⟩ := (or_mask _ _ _).1 h0'
                        obtain ⟨e0, e1⟩ := (or_mask _ _ _).1 e01
                        obtain ⟨e2, e3⟩ := (or_mask _ _ _).1 e23
                        have s16 : AscL u 16 := ascL_add u 8 8 (kB0.1 e0) (kB1.1 e1)
                        have s24 : AscL u 24 := ascL_add u 16 8 s16 (kB2.1 e2)
                        exact ascL_add u 24 8 s24 (kB3.1 e3)
                      obtain ⟨P1, hP1⟩ : ∃ P1, B0 ||| B1 = P1 := ⟨_, rfl⟩
                      obtain ⟨P2, hP2⟩ : ∃ P2, B2 ||| B3 = P2 := ⟨_, rfl⟩
                      rw [hP1, hP2] at ho3 hand3 k3
                      rw [hP1] at ho1
                      rw [hP2] at ho2
                      obtain ⟨P3, hP3⟩ : ∃ P3, P1 ||| P2 = P3 := ⟨_, rfl⟩
                      rw [hP3] at ho3 hand3 k3
                      obtain ⟨Z3, hZ3⟩ : ∃ Z3, P3 &&& 9259542123273814144 = Z3 := ⟨_, rfl⟩
                      rw [hZ3] at hand3 k3
                      generalize u.drop 8 = u1 at *
                      generalize u.drop 16 = u2 at *
                      generalize u.drop 24 = u3 at *
                      clear kB0 kB1 kB2 kB3 lo1 lo2 lo3 hP1 hP2 hP3 hZ3 se1 se2 se3 lB0 lB1 lB2 lB3 hu1 hu2 hu3
                      by_cases hz3 : Z3 = 0
                      · have hz3b : ((Z3 : Int) == 0) = true := by simp [hz3]
                        obtain ⟨p4, d4, se4, hu4⟩ := hu.dropL (k := 32) (by omega)
                        have e4 : (u.drop 32).length + 32 = u.length := by rw [List.length_drop]; omega
                        have vu4 : validD (u.drop 32) = ANS := by rw [validD_drop (k3 hz3)]; exact vu
                        generalize u.drop 32 = u4 at *
                        have se4' : ∀ w', (Instr.sliceAt 22 (.slice a5 u.length c5) (some (.int .i64 32)) none none).run Tryd.prog w' = .ok (.slice p4 u4.length d4) w' := se4
                        clear se4 k3
                        go_wp2_with fail
                        refine wp_region_quiet_lit (by kernel_rfl) (by kernel_rfl) ?_
                        repeat (first
                          | go_big_quiet_skip
                          | (go_big_quiet_want
                             first
                               | (with_reducible refine quiet_of_run (fun n => exec_slice_l 22 _ _ rfl rfl rfl (se1' _)) ?_
                                  go_simp
                                  go_big_quiet_on)
                               | (with_reducible refine quiet_of_run (fun n => exec_slice_l 22 _ _ rfl rfl rfl (se2' _)) ?_
                                  go_simp
                                  go_big_quiet_on)
                               | (with_reducible refine quiet_of_run (fun n => exec_slice_l 22 _ _ rfl rfl rfl (se3' _)) ?_
                                  go_simp
                                  go_big_quiet_on)
                               | (go_big_quiet_op
                                  go_big_quiet_call (first | (go_at_call 19; with_reducible exact Calls.quiet_of (cB0 _)) | (go_at_call 19; with_reducible exact Calls.quiet_of (cB1 _)) | (go_at_call 19; with_reducible exact Calls.quiet_of (cB2 _)) | (go_at_call 19; with_reducible exact Calls.quiet_of (cB3 _))))
                               | (go_big_quiet_op; go_big_quiet_on)))
                        refine wpQuiet_nil ?_
                        intro _ hw'
                        obtain ⟨nq, hw''⟩ := hw'
                        subst hw''
                        have hk6 := hku.drewN nq
                        have hu6 := hu4.kept ((Kept.refl _ wr).drewN nq)
                        generalize wr.drewN nq = W3 at hk6 hu6 ⊢
                        clear cB0 cB1 cB2 cB3 hu4 hku hu ho1 ho2 ho3 hand3
                        go_wp2_with (first
                          | (refine wpl_val rfl (exec_slice_l 22 _ _ rfl rfl rfl (se4' _)) ?_))
                        go_roundg g3
                        case measure => omega
                        case rel => exact ⟨u4, p4, d4, rfl, hu6, vu4, by omega, by omega, hk6⟩
                      · have hz3b : ((Z3 : Int) == 0) = false := by simp; omega
                        clear k3
                        go_wp2_with fail
                        refine wp_region_quiet_lit (by kernel_rfl) (by kernel_rfl) ?_
                        repeat (first
                          | go_big_quiet_skip
                          | (go_big_quiet_want
                             first
                               | (with_reducible refine quiet_of_run (fun n => exec_slice_l 22 _ _ rfl rfl rfl (se1' _)) ?_
                                  go_simp
                                  go_big_quiet_on)
                               | (with_reducible refine quiet_of_run (fun n => exec_slice_l 22 _ _ rfl rfl rfl (se2' _)) ?_
                                  go_simp
                                  go_big_quiet_on)
                               | (with_reducible refine quiet_of_run (fun n => exec_slice_l 22 _ _ rfl rfl rfl (se3' _)) ?_
                                  go_simp
                                  go_big_quiet_on)
                               | (go_big_quiet_op
                                  go_big_quiet_call (first | (go_at_call 19; with_reducible exact Calls.quiet_of (cB0 _)) | (go_at_call 19; with_reducible exact Calls.quiet_of (cB1 _)) | (go_at_call 19; with_reducible exact Calls.quiet_of (cB2 _)) | (go_at_call 19; with_reducible exact Calls.quiet_of (cB3 _))))
                               | (go_big_quiet_op; go_big_quiet_on)))
                        refine wpQuiet_nil ?_
                        intro _ hw'
                        obtain ⟨nq, hw''⟩ := hw'
                        subst hw''
                        go_wp2_with fail
                        go_roundg g'
                        case measure => omega
                        case rel => exact ⟨u, a5, c5, rfl, hu.kept ((Kept.refl _ wr).drewN nq), vu, by omega, by omega, hku.drewN nq⟩
                    · have c32z : ¬ ((32 : Int) < (u.length : Int)) := by omega
                      have c32d : decide ((32 : Int) < (u.length : Int)) = false := decide_eq_false c32z
                      go_wp2_with fail
                      refine wp_region_quiet_lit (by kernel_rfl) (by kernel_rfl) ?_
                      repeat (first
                        | go_big_quiet_skip
                        | (go_big_quiet_want
                           first
                             | (go_big_quiet_op; go_big_quiet_on)))
                      refine wpQuiet_nil ?_
                      intro _ hw'
                      obtain ⟨nq, hw''⟩ := hw'
                      subst hw''
                      go_wp2_with fail
                      go_roundg g'
                      case measure => omega
                      case rel => exact ⟨u, a5, c5, rfl, hu.kept ((Kept.refl _ wr).drewN nq), vu, by omega, by omega, hku.drewN nq⟩
                · have hz2b : ((Z2 : Int) == 0) = false := by simp; omega
                  clear k2
                  refine wp_region_quiet_lit (by kernel_rfl) (by kernel_rfl) ?_
                  repeat (first
                    | go_big_quiet_skip
                    | (go_big_quiet_want
                       first
                         | (with_reducible refine quiet_of_run (fun n => exec_slice_l 22 _ _ rfl rfl rfl (sl3' _)) ?_
                            go_simp
                            go_big_quiet_on)
                         | (go_big_quiet_op
                            go_big_quiet_call (first | (go_at_call 19; with_reducible exact Calls.quiet_of (cW2 _)) | (go_at_call 19; with_reducible exact Calls.quiet_of (cW3 _))))
                         | (go_big_quiet_op; go_big_quiet_on)))
                  refine wpQuiet_nil ?_
                  intro _ hw'
                  obtain ⟨nq, hw''⟩ := hw'
                  subst hw''
                  go_wp2_with fail
                  go_roundg g'
                  case measure => omega
                  case rel => exact ⟨t2, b2, c2, rfl, ht2'.kept ((Kept.refl _ W1).drewN nq), v2, by omega, by omega, hk1.drewN nq⟩
              · have c16z : ¬ ((16 : Int) < (t2.length : Int)) := by omega
                have c16d : decide ((16 : Int) < (t2.length : Int)) = false := decide_eq_false c16z
                refine wp_region_quiet_lit (by kernel_rfl) (by kernel_rfl) ?_
                repeat (first
                  | go_big_quiet_skip
                  | (go_big_quiet_want
                     first
                       | (go_big_quiet_op; go_big_quiet_on)))
                refine wpQuiet_nil ?_
                intro _ hw'
                obtain ⟨nq, hw''⟩ := hw'
                subst hw''
                go_wp2_with fail
                go_roundg g'
                case measure => omega
                case rel => exact ⟨t2, b2, c2, rfl, ht2'.kept ((Kept.refl _ W1).drewN nq), v2, by omega, by omega, hk1.drewN nq⟩
            · have hz1b : ((Z1 : Int) == 0) = false := by simp; omega
              clear kA1 cW1
              go_wp2_with (first
                | (refine wpl_val rfl (exec_slice_l 22 _ _ rfl rfl rfl (sl1' _)) ?_))
              refine cW1'.mono ?_
              rintro e W1 ⟨rfl, q1, rfl⟩
              go_wp2_with fail
              go_roundg g'
              case measure => omega
              case rel => exact ⟨t1, b1, c1, rfl, ht1.kept ((Kept.refl _ wr).drewN q1), v1, by omega, by omega, hk.drewN q1⟩
          · have c8z : ¬ ((8 : Int) < (t1.length : Int)) := by omega
            have c8d : decide ((8 : Int) < (t1.length : Int)) = false := decide_eq_false c8z
            go_wp2_with (first
              | (refine wpl_val rfl (exec_slice_l 22 _ _ rfl rfl rfl (sl1' _)) ?_))
            go_roundg g'
            case measure => omega
            case rel => exact ⟨t1, b1, c1, rfl, ht1, v1, by omega, by omega, hk⟩
      · have hascz : ¬ ((x0.toNat : Int) < 128) := by omega
        have hascd : decide ((x0.toNat : Int) < 128) = false := decide_eq_false hascz
        have hlead := validD_lead t (getD_pos hpos) (by rw [hx0]; omega)
        rw [hv, hx0] at hlead
        have hc0 := hTr.first x0.toNat hx0lt
        have hXlt : firstT x0.toNat < 256 := firstT_lt _
        obtain ⟨X, hX⟩ : ∃ X, firstT x0.toNat = X := ⟨_, rfl⟩
        rw [hX] at hc0 hXlt hlead
        have h7 := and7L X hXlt
        have ha := hTr.acc (X / 16) (by omega)
        obtain ⟨ha0, ha1⟩ := ha
        generalize hLO : accLo (X / 16) = LO at ha0 hlead
        generalize hHI : accHi (X / 16) = HI at ha1 hlead
        have hLOl : LO < 256 := by rw [← hLO]; exact accLo_lt _
        have hHIl : HI < 256 := by rw [← hHI]; exact accHi_lt _
        obtain ⟨x1, hx1⟩ : ∃ x1, t.getD 1 0 = x1 := ⟨_, rfl⟩
        obtain ⟨x2, hx2⟩ : ∃ x2, t.getD 2 0 = x2 := ⟨_, rfl⟩
        obtain ⟨x3, hx3⟩ : ∃ x3, t.getD 3 0 = x3 := ⟨_, rfl⟩
        rw [hx1, hx2, hx3] at hlead
        have hx1l : x1.toNat < 256 := x1.toNat_lt
        have hx2l : x2.toNat < 256 := x2.toNat_lt
        have hx3l : x3.toNat < 256 := x3.toNat_lt
        have hkA : Kept (fun _ => False) w (wr.alloc (.cells #[.int .u8 LO, .int .u8 HI] 53)) := hk.alloc _
        have hAh := heap_last wr (.cells #[.int .u8 LO, .int .u8 HI] 53)
        have htA : ByC (wr.alloc (.cells #[.int .u8 LO, .int .u8 HI] 53)) (.slice (some ⟨b, o, none⟩) t.length c') t := ht.kept ((Kept.refl _ wr).alloc _)
        obtain ⟨SZ, hSZ⟩ : ∃ SZ, X % 8 = SZ := ⟨_, rfl⟩
        rw [hSZ] at hlead
        have HL := Lib.hid hlead
        clear hTr hT hX hv hLO hHI hlead hk ht
        go_upto_region 17 with fail
        have l0 : (wr.alloc (.cells #[.int .u8 LO, .int .u8 HI] 53)).cell? ⟨wr.heap.size, 0, none⟩ = some (.int .u8 (LO : Int)) := by rw [cell_of_row _ _ _ _ _ _ hAh]; rfl
        have l1 : (wr.alloc (.cells #[.int .u8 LO, .int .u8 HI] 53)).cell? ⟨wr.heap.size, 1, none⟩ = some (.int .u8 (HI : Int)) := by rw [cell_of_row _ _ _ _ _ _ hAh]; rfl
        generalize wr.alloc (.cells #[.int .u8 LO, .int .u8 HI] 53) = W at hkA htA l0 l1 ⊢
        generalize wr.heap.size = Bk at l0 l1 ⊢
        clear hAh hcell hc0 ha0 ha1 hbl
        by_cases s2 : SZ = 2
        · as_aux_lemma =>
            subst s2
            by_cases q0 : t.length < 2
            · have q0z : (t.length : Int) < 2 := by omega
              have q0d : decide ((t.length : Int) < 2) = true := decide_eq_true q0z
              have HN : Hid (ANS = false) := by unfold Hid; rw [HL.out, chk_no2 (by omega)]
              clear HL htA
              go_wp2_with fail
              refine wp_region_quiet_lit (by kernel_rfl) (by kernel_rfl) ?_
              repeat (first
                | go_big_quiet_skip
                | (go_big_quiet_want
                   first
                     | (go_big_quiet_op; go_big_quiet_on)))
              refine wpQuiet_nil ?_
              intro _ hw'
              obtain ⟨nq, hw''⟩ := hw'
              subst hw''
              go_wp2_with fail
              go_ret
              exact ⟨by rw [HN.out] <;> rfl, hkA.drewN _⟩
            have q0z : ¬ ((t.length : Int) < 2) := by omega
            have q0d : decide ((t.length : Int) < 2) = false := decide_eq_false q0z
            obtain ⟨_, _, hbe1, _, e1⟩ := htA.byte (i := 1) (by omega)
            injection hbe1 with hbe1
            injection hbe1 with hb1 ho1 _
            subst hb1 ho1
            rw [hx1] at e1
            have hz1 : (1 : Int) < (t.length : Int) := by omega
            have hp1 : 1 < t.length := by omega
            by_cases q1 : (x1.toNat : Int) < (LO : Int)
            · have q1d : decide ((x1.toNat : Int) < (LO : Int)) = true := decide_eq_true q1
              have q1n : x1.toNat < LO := by omega
              have q1e : decide (x1.toNat < LO) = true := decide_eq_true q1n
              have HN : Hid (ANS = false) := by unfold Hid; rw [HL.out, chk_no2 (by omega)]
              clear HL htA
              go_wp2_with fail
              refine wp_region_quiet_lit (by kernel_rfl) (by kernel_rfl) ?_
              repeat (first
                | go_big_quiet_skip
                | (go_big_quiet_want
                   first
                     | (go_big_quiet_op; go_big_quiet_on)))
              refine wpQuiet_nil ?_
              intro _ hw'
              obtain ⟨nq, hw''⟩ := hw'
              subst hw''
              go_wp2_with fail
              go_ret
              exact ⟨by rw [HN.out] <;> rfl, hkA.drewN _⟩
            have q1d : decide ((x1.toNat : Int) < (LO : Int)) = false := decide_eq_false q1
            have q1n : ¬ (x1.toNat < LO) := by omega
            have q1e : decide (x1.toNat < LO) = false := decide_eq_false q1n
            by_cases q2 : (HI : Int) < (x1.toNat : Int)
            · have q2d : decide ((HI : Int) < (x1.toNat : Int)) = true := decide_eq_true q2
              have q2n : HI < x1.toNat := by omega
              have q2e : decide (HI < x1.toNat) = true := decide_eq_true q2n
              have HN : Hid (ANS = false) := by unfold Hid; rw [HL.out, chk_no2 (by omega)]
              clear HL htA
              go_wp2_with fail
              refine wp_region_quiet_lit (by kernel_rfl) (by kernel_rfl) ?_
              repeat (first
                | go_big_quiet_skip
                | (go_big_quiet_want
                   first
                     | (go_big_quiet_op; go_big_quiet_on)))
              refine wpQuiet_nil ?_
              intro _ hw'
              obtain ⟨nq, hw''⟩ := hw'
              subst hw''
              go_wp2_with fail
              go_ret
              exact ⟨by rw [HN.out] <;> rfl, hkA.drewN _⟩
            have q2d : decide ((HI : Int) < (x1.toNat : Int)) = false := decide_eq_false q2
            have q2n : ¬ (HI < x1.toNat) := by omega
            have q2e : decide (HI < x1.toNat) = false := decide_eq_false q2n
            have hvk : validD (t.drop 2) = ANS := by rw [HL.out, chk_yes2 (by omega)]
            obtain ⟨pk, dk, sk, htk⟩ := htA.dropL (k := 2) (by omega)
            have zk : (t.drop 2).length + 2 = t.length := by rw [List.length_drop]; omega
            generalize t.drop 2 = tk at *
            have sk' : ∀ w', (Instr.sliceAt 22 (.slice (some ⟨b, o, none⟩) t.length c') (some (.int .i64 2)) none none).run Tryd.prog w' = .ok (.slice pk tk.length dk) w' := sk
            clear HL sk htA
            go_wp2_with fail
            refine wp_region_quiet_lit (by kernel_rfl) (by kernel_rfl) ?_
            repeat (first
              | go_big_quiet_skip
              | (go_big_quiet_want
                 first
                   | (go_big_quiet_op; go_big_quiet_on)))
            refine wpQuiet_nil ?_
            intro _ hw'
            obtain ⟨nq, hw''⟩ := hw'
            subst hw''
            have hk6 := hkA.drewN nq
            have ht6 := htk.kept ((Kept.refl _ W).drewN nq)
            generalize W.drewN nq = W3 at hk6 ht6 ⊢
            go_wp2_with (first
              | (refine wpl_val rfl (exec_slice_l 22 _ _ rfl rfl rfl (sk' _)) ?_))
            go_roundg g'
            case measure => omega
            case rel => exact ⟨tk, pk, dk, rfl, ht6, hvk, by omega, by omega, hk6⟩
        have s2z : ((SZ : Int) == 2) = false := nb SZ 2 s2
        by_cases s3 : SZ = 3
        · as_aux_lemma =>
            subst s3
            by_cases q0 : t.length < 3
            · have q0z : (t.length : Int) < 3 := by omega
              have q0d : decide ((t.length : Int) < 3) = true := decide_eq_true q0z
              have HN : Hid (ANS = false) := by unfold Hid; rw [HL.out, chk_no3 (by omega)]
              clear HL htA
              go_wp2_with fail
              refine wp_region_quiet_lit (by kernel_rfl) (by kernel_rfl) ?_
              repeat (first
                | go_big_quiet_skip
                | (go_big_quiet_want
                   first
                     | (go_big_quiet_op; go_big_quiet_on)))
              refine wpQuiet_nil ?_
              intro _ hw'
              obtain ⟨nq, hw''⟩ := hw'
              subst hw''
              go_wp2_with fail
              go_ret
              exact ⟨by rw [HN.out] <;> rfl, hkA.drewN _⟩
            have q0z : ¬ ((t.length : Int) < 3) := by omega
            have q0d : decide ((t.length : Int) < 3) = false := decide_eq_false q0z
            obtain ⟨_, _, hbe1, _, e1⟩ := htA.byte (i := 1) (by omega)
            injection hbe1 with hbe1
            injection hbe1 with hb1 ho1 _
            subst hb1 ho1
            rw [hx1] at e1
            have hz1 : (1 : Int) < (t.length : Int) := by omega
            have hp1 : 1 < t.length := by omega
            obtain ⟨_, _, hbe2, _, e2⟩ := htA.byte (i := 2) (by omega)
            injection hbe2 with hbe2
            injection hbe2 with hb2 ho2 _
            subst hb2 ho2
            rw [hx2] at e2
            have hz2 : (2 : Int) < (t.length : Int) := by omega
            have hp2 : 2 < t.length := by omega
            by_cases q1 : (x1.toNat : Int) < (LO : Int)
            · have q1d : decide ((x1.toNat : Int) < (LO : Int)) = true := decide_eq_true q1
              have q1n : x1.toNat < LO := by omega
              have q1e : decide (x1.toNat < LO) = true := decide_eq_true q1n
              have HN : Hid (ANS = false) := by unfold Hid; rw [HL.out, chk_no3 (by omega)]
              clear HL htA
              go_wp2_with fail
              refine wp_region_quiet_lit (by kernel_rfl) (by kernel_rfl) ?_
              repeat (first
                | go_big_quiet_skip
                | (go_big_quiet_want
                   first
                     | (go_big_quiet_op; go_big_quiet_on)))
              refine wpQuiet_nil ?_
              intro _ hw'
              obtain ⟨nq, hw''⟩ := hw'
              subst hw''
              go_wp2_with fail
              go_ret
              exact ⟨by rw [HN.out] <;> rfl, hkA.drewN _⟩
            have q1d : decide ((x1.toNat : Int) < (LO : Int)) = false := decide_eq_false q1
            have q1n : ¬ (x1.toNat < LO) := by omega
            have q1e : decide (x1.toNat < LO) = false := decide_eq_false q1n
            by_cases q2 : (HI : Int) < (x1.toNat : Int)
            · have q2d : decide ((HI : Int) < (x1.toNat : Int)) = true := decide_eq_true q2
              have q2n : HI < x1.toNat := by omega
              have q2e : decide (HI < x1.toNat) = true := decide_eq_true q2n
              have HN : Hid (ANS = false) := by unfold Hid; rw [HL.out, chk_no3 (by omega)]
              clear HL htA
              go_wp2_with fail
              refine wp_region_quiet_lit (by kernel_rfl) (by kernel_rfl) ?_
              repeat (first
                | go_big_quiet_skip
                | (go_big_quiet_want
                   first
                     | (go_big_quiet_op; go_big_quiet_on)))
              refine wpQuiet_nil ?_
              intro _ hw'
              obtain ⟨nq, hw''⟩ := hw'
              subst hw''
              go_wp2_with fail
              go_ret
              exact ⟨by rw [HN.out] <;> rfl, hkA.drewN _⟩
            have q2d : decide ((HI : Int) < (x1.toNat : Int)) = false := decide_eq_false q2
            have q2n : ¬ (HI < x1.toNat) := by omega
            have q2e : decide (HI < x1.toNat) = false := decide_eq_false q2n
            by_cases q3 : (x2.toNat : Int) < 128
            · have q3d : decide ((x2.toNat : Int) < 128) = true := decide_eq_true q3
              have q3n : x2.toNat < 128 := by omega
              have q3e : decide (x2.toNat < 128) = true := decide_eq_true q3n
              have HN : Hid (ANS = false) := by unfold Hid; rw [HL.out, chk_no3 (by omega)]
              clear HL htA
              go_wp2_with fail
              refine wp_region_quiet_lit (by kernel_rfl) (by kernel_rfl) ?_
              repeat (first
                | go_big_quiet_skip
                | (go_big_quiet_want
                   first
                     | (go_big_quiet_op; go_big_quiet_on)))
              refine wpQuiet_nil ?_
              intro _ hw'
              obtain ⟨nq, hw''⟩ := hw'
              subst hw''
              go_wp2_with fail
              go_ret
              exact ⟨by rw [HN.out] <;> rfl, hkA.drewN _⟩
            have q3d : decide ((x2.toNat : Int) < 128) = false := decide_eq_false q3
            have q3n : ¬ (x2.toNat < 128) := by omega
            have q3e : decide (x2.toNat < 128) = false := decide_eq_false q3n
            by_cases q4 : (191 : Int) < (x2.toNat : Int)
            · have q4d : decide ((191 : Int) < (x2.toNat : Int)) = true := decide_eq_true q4
              have q4n : 191 < x2.toNat := by omega
              have q4e : decide (191 < x2.toNat) = true := decide_eq_true q4n
              have HN : Hid (ANS = false) := by unfold Hid; rw [HL.out, chk_no3 (by omega)]
              clear HL htA
              go_wp2_with fail
              refine wp_region_quiet_lit (by kernel_rfl) (by kernel_rfl) ?_
              repeat (first
                | go_big_quiet_skip
                | (go_big_quiet_want
                   first
                     | (go_big_quiet_op; go_big_quiet_on)))
              refine wpQuiet_nil ?_
              intro _ hw'
              obtain ⟨nq, hw''⟩ := hw'
              subst hw''
              go_wp2_with fail
              go_ret
              exact ⟨by rw [HN.out] <;> rfl, hkA.drewN _⟩
            have q4d : decide ((191 : Int) < (x2.toNat : Int)) = false := decide_eq_false q4
            have q4n : ¬ (191 < x2.toNat) := by omega
            have q4e : decide (191 < x2.toNat) = false := decide_eq_false q4n
            have hvk : validD (t.drop 3) = ANS := by rw [HL.out, chk_yes3 (by omega)]
            obtain ⟨pk, dk, sk, htk⟩ := htA.dropL (k := 3) (by omega)
            have zk : (t.drop 3).length + 3 = t.length := by rw [List.length_drop]; omega
            generalize t.drop 3 = tk at *
            have sk' : ∀ w', (Instr.sliceAt 22 (.slice (some ⟨b, o, none⟩) t.length c') (some (.int .i64 3)) none none).run Tryd.prog w' = .ok (.slice pk tk.length dk) w' := sk
            clear HL sk htA
            go_wp2_with fail
            refine wp_region_quiet_lit (by kernel_rfl) (by kernel_rfl) ?_
            repeat (first
              | go_big_quiet_skip
              | (go_big_quiet_want
                 first
                   | (go_big_quiet_op; go_big_quiet_on)))
            refine wpQuiet_nil ?_
            intro _ hw'
            obtain ⟨nq, hw''⟩ := hw'
            subst hw''
            have hk6 := hkA.drewN nq
            have ht6 := htk.kept ((Kept.refl _ W).drewN nq)
            generalize W.drewN nq = W3 at hk6 ht6 ⊢
            go_wp2_with (first
              | (refine wpl_val rfl (exec_slice_l 22 _ _ rfl rfl rfl (sk' _)) ?_))
            go_roundg g'
            case measure => omega
            case rel => exact ⟨tk, pk, dk, rfl, ht6, hvk, by omega, by omega, hk6⟩
        have s3z : ((SZ : Int) == 3) = false := nb SZ 3 s3
        by_cases s4 : SZ = 4
        · as_aux_lemma =>
            subst s4
            by_cases q0 : t.length < 4
            · have q0z : (t.length : Int) < 4 := by omega
              have q0d : decide ((t.length : Int) < 4) = true := decide_eq_true q0z
              have HN : Hid (ANS = false) := by unfold Hid; rw [HL.out, chk_no4 (by omega)]
              clear HL htA
              go_wp2_with fail
              refine wp_region_quiet_lit (by kernel_rfl) (by kernel_rfl) ?_
              repeat (first
                | go_big_quiet_skip
                | (go_big_quiet_want
                   first
                     | (go_big_quiet_op; go_big_quiet_on)))
              refine wpQuiet_nil ?_
              intro _ hw'
              obtain ⟨nq, hw''⟩ := hw'
              subst hw''
              go_wp2_with fail
              go_ret
              exact ⟨by rw [HN.out] <;> rfl, hkA.drewN _⟩
            have q0z : ¬ ((t.length : Int) < 4) := by omega
            have q0d : decide ((t.length : Int) < 4) = false := decide_eq_false q0z
            obtain ⟨_, _, hbe1, _, e1⟩ := htA.byte (i := 1) (by omega)
            injection hbe1 with hbe1
            injection hbe1 with hb1 ho1 _
            subst hb1 ho1
            rw [hx1] at e1
            have hz1 : (1 : Int) < (t.length : Int) := by omega
            have hp1 : 1 < t.length := by omega
            obtain ⟨_, _, hbe2, _, e2⟩ := htA.byte (i := 2) (by omega)
            injection hbe2 with hbe2
            injection hbe2 with hb2 ho2 _
            subst hb2 ho2
            rw [hx2] at e2
            have hz2 : (2 : Int) < (t.length : Int) := by omega
            have hp2 : 2 < t.length := by omega
            obtain ⟨_, _, hbe3, _, e3⟩ := htA.byte (i := 3) (by omega)
            injection hbe3 with hbe3
            injection hbe3 with hb3 ho3 _
            subst hb3 ho3
            rw [hx3] at e3
            have hz3 : (3 : Int) < (t.length : Int) := by omega
            have hp3 : 3 < t.length := by omega
            by_cases q1 : (x1.toNat : Int) < (LO : Int)
            · have q1d : decide ((x1.toNat : Int) < (LO : Int)) = true := decide_eq_true q1
              have q1n : x1.toNat < LO := by omega
              have q1e : decide (x1.toNat < LO) = true := decide_eq_true q1n
              have HN : Hid (ANS = false) := by unfold Hid; rw [HL.out, chk_no4 (by omega)]
              clear HL htA
              go_wp2_with fail
              refine wp_region_quiet_lit (by kernel_rfl) (by kernel_rfl) ?_
              repeat (first
                | go_big_quiet_skip
                | (go_big_quiet_want
                   first
                     | (go_big_quiet_op; go_big_quiet_on)))
              refine wpQuiet_nil ?_
              intro _ hw'
              obtain ⟨nq, hw''⟩ := hw'
              subst hw''
              go_wp2_with fail
              go_ret
              exact ⟨by rw [HN.out] <;> rfl, hkA.drewN _⟩
            have q1d : decide ((x1.toNat : Int) < (LO : Int)) = false := decide_eq_false q1
            have q1n : ¬ (x1.toNat < LO) := by omega
            have q1e : decide (x1.toNat < LO) = false := decide_eq_false q1n
            by_cases q2 : (HI : Int) < (x1.toNat : Int)
            · have q2d : decide ((HI : Int) < (x1.toNat : Int)) = true := decide_eq_true q2
              have q2n : HI < x1.toNat := by omega
              have q2e : decide (HI < x1.toNat) = true := decide_eq_true q2n
              have HN : Hid (ANS = false) := by unfold Hid; rw [HL.out, chk_no4 (by omega)]
              clear HL htA
              go_wp2_with fail
              refine wp_region_quiet_lit (by kernel_rfl) (by kernel_rfl) ?_
              repeat (first
                | go_big_quiet_skip
                | (go_big_quiet_want
                   first
                     | (go_big_quiet_op; go_big_quiet_on)))
              refine wpQuiet_nil ?_
              intro _ hw'
              obtain ⟨nq, hw''⟩ := hw'
              subst hw''
              go_wp2_with fail
              go_ret
              exact ⟨by rw [HN.out] <;> rfl, hkA.drewN _⟩
            have q2d : decide ((HI : Int) < (x1.toNat : Int)) = false := decide_eq_false q2
            have q2n : ¬ (HI < x1.toNat) := by omega
            have q2e : decide (HI < x1.toNat) = false := decide_eq_false q2n
            by_cases q3 : (x2.toNat : Int) < 128
            · have q3d : decide ((x2.toNat : Int) < 128) = true := decide_eq_true q3
              have q3n : x2.toNat < 128 := by omega
              have q3e : decide (x2.toNat < 128) = true := decide_eq_true q3n
              have HN : Hid (ANS = false) := by unfold Hid; rw [HL.out, chk_no4 (by omega)]
              clear HL htA
              go_wp2_with fail
              refine wp_region_quiet_lit (by kernel_rfl) (by kernel_rfl) ?_
              repeat (first
                | go_big_quiet_skip
                | (go_big_quiet_want
                   first
                     | (go_big_quiet_op; go_big_quiet_on)))
              refine wpQuiet_nil ?_
              intro _ hw'
              obtain ⟨nq, hw''⟩ := hw'
              subst hw''
              go_wp2_with fail
              go_ret
              exact ⟨by rw [HN.out] <;> rfl, hkA.drewN _⟩
            have q3d : decide ((x2.toNat : Int) < 128) = false := decide_eq_false q3
            have q3n : ¬ (x2.toNat < 128) := by omega
            have q3e : decide (x2.toNat < 128) = false := decide_eq_false q3n
            by_cases q4 : (191 : Int) < (x2.toNat : Int)
            · have q4d : decide ((191 : Int) < (x2.toNat : Int)) = true := decide_eq_true q4
              have q4n : 191 < x2.toNat := by omega
              have q4e : decide (191 < x2.toNat) = true := decide_eq_true q4n
              have HN : Hid (ANS = false) := by unfold Hid; rw [HL.out, chk_no4 (by omega)]
              clear HL htA
              go_wp2_with fail
              refine wp_region_quiet_lit (by kernel_rfl) (by kernel_rfl) ?_
              repeat (first
                | go_big_quiet_skip
                | (go_big_quiet_want
                   first
                     | (go_big_quiet_op; go_big_quiet_on)))
              refine wpQuiet_nil ?_
              intro _ hw'
              obtain ⟨nq, hw''⟩ := hw'
              subst hw''
              go_wp2_with fail
              go_ret
              exact ⟨by rw [HN.out] <;> rfl, hkA.drewN _⟩
            have q4d : decide ((191 : Int) < (x2.toNat : Int)) = false := decide_eq_false q4
            have q4n : ¬ (191 < x2.toNat) := by omega
            have q4e : decide (191 < x2.toNat) = false := decide_eq_false q4n
            by_cases q5 : (x3.toNat : Int) < 128
            · have q5d : decide ((x3.toNat : Int) < 128) = true := decide_eq_true q5
              have q5n : x3.toNat < 128 := by omega
              have q5e : decide (x3.toNat < 128) = true := decide_eq_true q5n
              have HN : Hid (ANS = false) := by unfold Hid; rw [HL.out, chk_no4 (by omega)]
              clear HL htA
              go_wp2_with fail
              refine wp_region_quiet_lit (by kernel_rfl) (by kernel_rfl) ?_
              repeat (first
                | go_big_quiet_skip
                | (go_big_quiet_want
                   first
                     | (go_big_quiet_op; go_big_quiet_on)))
              refine wpQuiet_nil ?_
              intro _ hw'
              obtain ⟨nq, hw''⟩ := hw'
              subst hw''
              go_wp2_with fail
              go_ret
              exact ⟨by rw [HN.out] <;> rfl, hkA.drewN _⟩
            have q5d : decide ((x3.toNat : Int) < 128) = false := decide_eq_false q5
            have q5n : ¬ (x3.toNat < 128) := by omega
            have q5e : decide (x3.toNat < 128) = false := decide_eq_false q5n
            by_cases q6 : (191 : Int) < (x3.toNat : Int)
            · have q6d : decide ((191 : Int) < (x3.toNat : Int)) = true := decide_eq_true q6
              have q6n : 191 < x3.toNat := by omega
              have q6e : decide (191 < x3.toNat) = true := decide_eq_true q6n
              have HN : Hid (ANS = false) := by unfold Hid; rw [HL.out, chk_no4 (by omega)]
              clear HL htA
              go_wp2_with fail
              refine wp_region_quiet_lit (by kernel_rfl) (by kernel_rfl) ?_
              repeat (first
                | go_big_quiet_skip
                | (go_big_quiet_want
                   first
                     | (go_big_quiet_op; go_big_quiet_on)))
              refine wpQuiet_nil ?_
              intro _ hw'
              obtain ⟨nq, hw''⟩ := hw'
              subst hw''
              go_wp2_with fail
              go_ret
              exact ⟨by rw [HN.out] <;> rfl, hkA.drewN _⟩
            have q6d : decide ((191 : Int) < (x3.toNat : Int)) = false := decide_eq_false q6
            have q6n : ¬ (191 < x3.toNat) := by omega
            have q6e : decide (191 < x3.toNat) = false := decide_eq_false q6n
            have hvk : validD (t.drop 4) = ANS := by rw [HL.out, chk_yes4 (by omega)]
            obtain ⟨pk, dk, sk, htk⟩ := htA.dropL (k := 4) (by omega)
            have zk : (t.drop 4).length + 4 = t.length := by rw [List.length_drop]; omega
            generalize t.drop 4 = tk at *
            have sk' : ∀ w', (Instr.sliceAt 22 (.slice (some ⟨b, o, none⟩) t.length c') (some (.int .i64 4)) none none).run Tryd.prog w' = .ok (.slice pk tk.length dk) w' := sk
            clear HL sk htA
            go_wp2_with fail
            refine wp_region_quiet_lit (by kernel_rfl) (by kernel_rfl) ?_
            repeat (first
              | go_big_quiet_skip
              | (go_big_quiet_want
                 first
                   | (go_big_quiet_op; go_big_quiet_on)))
            refine wpQuiet_nil ?_
            intro _ hw'
            obtain ⟨nq, hw''⟩ := hw'
            subst hw''
            have hk6 := hkA.drewN nq
            have ht6 := htk.kept ((Kept.refl _ W).drewN nq)
            generalize W.drewN nq = W3 at hk6 ht6 ⊢
            go_wp2_with (first
              | (refine wpl_val rfl (exec_slice_l 22 _ _ rfl rfl rfl (sk' _)) ?_))
            go_roundg g'
            case measure => omega
            case rel => exact ⟨tk, pk, dk, rfl, ht6, hvk, by omega, by omega, hk6⟩
        have s4z : ((SZ : Int) == 4) = false := nb SZ 4 s4
        have HN : Hid (ANS = false) := by unfold Hid; rw [HL.out, chk_no s2 s3 s4]
        clear HL htA
        go_wp2_with fail
        go_ret
        exact ⟨by rw [HN.out] <;> rfl, hkA⟩
    · have hposz : ¬ ((0 : Int) < (t.length : Int)) := by omega
      obtain rfl : t = [] := List.eq_nil_of_length_eq_zero (by omega)
      rw [validD_nil] at hv
      subst hv
      go_wp2_with fail
      go_ret
      exact ⟨rfl, hk⟩
end Go.Proofs.YtlheboafhgmbpaaDoor
