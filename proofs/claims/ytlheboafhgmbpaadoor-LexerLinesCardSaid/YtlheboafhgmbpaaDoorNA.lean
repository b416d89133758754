/- LexerLines: the document's utf. -/
import Derived.Test.YtlheboafhgmbpaaDoorLX
import Derived.Deep.LoopGhost
namespace Go.Proofs.YtlheboafhgmbpaaDoor
open Go.RowKit
set_option maxRecDepth 100000
set_option linter.unusedSimpArgs false
set_option linter.unusedVariables false

theorem valid_no {l P : List UInt8} (h : Lib.validD l = Lib.validD P) (hP : P ≠ []) (hc : chunkB P = none) : Lib.validD l = false := by rw [h, validD_chunk hP, hc]
theorem valid_go {l P : List UInt8} {n : Nat} (h : Lib.validD l = Lib.validD P) (hP : P ≠ []) (hc : chunkB P = some n) : Lib.validD l = Lib.validD (P.drop n) := by rw [h, validD_chunk hP, hc]
theorem chunk_eq {P : List UInt8} {c : Nat} (hc : (P.getD 0 0).toNat = c) {n r : Nat} (hn : widB c = n) (hr : lowB c = r) (h1 : ¬ (128 ≤ c ∧ c < 192)) (h2 : ¬ P.length < n) :
    chunkB P = match contsB P (n - 1) 1 r with
      | none => none
      | some r => if fitB n r = true then some n else none := by
  unfold chunkB
  dsimp only
  rw [hc, if_neg h1, hn, if_neg h2, hr]
  rfl
theorem chunk_low {P : List UInt8} {c : Nat} (hc : (P.getD 0 0).toNat = c) (h1 : 128 ≤ c ∧ c < 192) : chunkB P = none := by
  unfold chunkB
  dsimp only
  rw [hc, if_pos h1]
theorem chunk_short {P : List UInt8} {c n : Nat} (hc : (P.getD 0 0).toNat = c) (hn : widB c = n) (h2 : P.length < n) : chunkB P = none := by
  unfold chunkB
  dsimp only
  rw [hc]
  split
  · rfl
  · rw [hn, if_pos h2]
theorem conts_bad {P : List UInt8} {m k r d : Nat} (hd : (P.getD k 0).toNat = d) (h : d < 128 ∨ 191 < d) : contsB P (m + 1) k r = none := by
  conv => lhs; unfold contsB
  rw [hd, if_pos h]
theorem conts_next {P : List UInt8} {m k r d : Nat} (hd : (P.getD k 0).toNat = d) (h : ¬ (d < 128 ∨ 191 < d)) : contsB P (m + 1) k r = contsB P m (k + 1) (r * 64 + d - 128) := by
  conv => lhs; unfold contsB
  rw [hd, if_neg h]
theorem getD_drop (l : List UInt8) (i k : Nat) : (l.drop i).getD k 0 = l.getD (i + k) 0 := by
  rw [List.getD_eq_getElem?_getD, List.getD_eq_getElem?_getD, List.getElem?_drop]
def leastC : Array Value := #[.int .i64 0, .int .i64 0, .int .i64 128, .int .i64 2048, .int .i64 65536]
theorem build_least (w : World) : (Instr.build 68 #[(0, .int .i64 0), (1, .int .i64 0), (2, .int .i64 128), (3, .int .i64 2048), (4, .int .i64 65536)]).run Tryd.prog w = .ok (.agg leastC) w := by kernel_rfl
theorem store_least (w : World) : (Instr.storeAt 68 (.pointer (some ⟨w.heap.size, 0, none⟩)) (.agg leastC)).run Tryd.prog (w.alloc (.cells #[.int .i64 0, .int .i64 0, .int .i64 0, .int .i64 0, .int .i64 0] 68)) = .ok () (w.alloc (.cells leastC 68)) :=
  store_new (P := Tryd.prog) (ty := 68) (c := #[.int .i64 0, .int .i64 0, .int .i64 0, .int .i64 0, .int .i64 0]) (c' := leastC) (by kernel_rfl) rfl (by simp [leastC, Value.oneCell']) (w := w) rfl
theorem cell_least (w : World) {k : Nat} {z : Int} (h : leastC[k]? = some (.int .i64 z)) : (w.alloc (.cells leastC 68)).cell? ⟨w.heap.size, k, none⟩ = some (.int .i64 z) := by
  rw [cell_of_row _ _ _ _ _ _ (heap_last w _)]; exact h
theorem grow64 {k r d : Nat} (hk : 1 ≤ k) (hr : r < 256 * 64 ^ (k - 1)) (hd : d ≤ 191) : r * 64 + d - 128 < 256 * 64 ^ (k + 1 - 1) := by
  obtain ⟨j, rfl⟩ : ∃ j, k = j + 1 := ⟨k - 1, by omega⟩
  simp only [Nat.add_sub_cancel] at hr ⊢
  rw [Nat.pow_succ]
  omega
theorem small64 {k r : Nat} (hk : k ≤ 4) (hr : r < 256 * 64 ^ (k - 1)) : r < 67108864 := by
  have : 64 ^ (k - 1) ≤ 64 ^ 3 := Nat.pow_le_pow_right (by omega) (by omega)
  omega
set_option maxRecDepth 100000 in
set_option maxHeartbeats 16000000 in
theorem utf_ct {w : World} {v : Value} {l : List UInt8} (h : ByC w v l) (hl : l.length ≤ 1000000) :
    Calls Tryd.prog 20 #[v] w fun e w' => e = .returned (.bool (Lib.validD l)) ∧ Kept (fun _ => False) w w' := by
  obtain ⟨a1, c1, hv1⟩ := h.1.slc
  subst hv1
  go_enter Tryd.func20, Tryd.ntmps20
  go_wp2_with fail
  go_loopg [3] l.length (fun gk s3 wr => ∃ i : Nat, gk = l.length - i ∧ i ≤ l.length ∧ s3 = .int .i64 i ∧ Hid (Lib.validD l = Lib.validD (l.drop i)) ∧ Kept (fun _ => False) w wr)
  case atStart => exact ⟨0, by omega, by omega, rfl, rfl, Kept.refl _ _⟩
  case round =>
    obtain ⟨i, rfl, hi, rfl, hv, hk⟩ := hrel
    by_cases hlt : i < l.length
    · have gi : decide ((i : Int) < (l.length : Int)) = true := decide_eq_true (by omega)
      obtain ⟨bb, oo, hva, hbl, e0⟩ := h.byte hlt
      have hPn : l.drop i ≠ [] := fun e => by have := congrArg List.length e; simp at this; omega
      have hP0 : ((l.drop i).getD 0 0).toNat = (l.getD i 0).toNat := by rw [getD_drop, Nat.add_zero]
      have hcl := UInt8.toNat_lt (l.getD i 0)
      generalize (l.getD i 0).toNat = c at e0 hP0 hcl
      have e1 : wr.cell? ⟨bb, oo + i, none⟩ = some (.int .u8 (c : Int)) := by rw [hk.cell (p := ⟨bb, oo + i, none⟩) hbl not_false, e0]
      subst hva
      by_cases k4 : 240 ≤ c
      · have g4 : decide ((240 : Int) ≤ (c : Int)) = true := decide_eq_true (by omega)
        have hwid : widB c = 4 := by unfold widB; rw [if_pos k4]
        have hlow : lowB c = c - 240 := by unfold lowB; rw [if_pos k4]
        have hmid : ¬ (128 ≤ c ∧ c < 192) := by omega
        have hCE := fun h2 => chunk_eq hP0 hwid hlow hmid h2
        by_cases hsh : l.length < i + 4
        · have gz : decide ((l.length : Int) < (i : Int) + 4) = true := decide_eq_true (by omega)
          have hF : Hid (Lib.validD l = false) := valid_no hv.out hPn (chunk_short hP0 hwid (by rw [List.length_drop]; omega))
          clear hCE hP0 hPn hv
          go_wp2_with fail
          go_ret
          exact ⟨by rw [hF.out]; rfl, hk⟩
        have gz : decide ((l.length : Int) < (i : Int) + 4) = false := decide_eq_false (by omega)
        have HC := Lib.hid (hCE (by rw [List.length_drop]; omega))
        clear hCE
        have hPz : Hid (l.drop i ≠ []) := hPn
        clear hP0 hPn e0
        go_wp2_with fail
        go_loopg [5, 6] 4 (fun gk s5 s6 wx => ∃ k r : Nat, gk = 4 + 1 - k ∧ 1 ≤ k ∧ k ≤ 4 ∧ s6 = .int .i64 k ∧ s5 = .int .i64 r ∧ Hid (r < 256 * 64 ^ (k - 1)) ∧ Hid (contsB (l.drop i) (4 - 1) 1 (c - 240) = contsB (l.drop i) (4 - k) k r) ∧ Kept (fun _ => False) w wx)
        case atStart => exact ⟨1, c - 240, by omega, by omega, by omega, rfl, by go_num, show c - 240 < 256 by omega, rfl, hk⟩
        case round =>
          obtain ⟨k, r, rfl, hk1, hkn, rfl, rfl, hrb, hcr, hkx⟩ := hrel
          have hr := small64 (by omega) hrb.out
          by_cases hkl : k < 4
          · have gk1 : decide ((k : Int) < 4) = true := decide_eq_true (by omega)
            obtain ⟨b2, o2, hva, hb2, e0⟩ := h.byte (i := i + k) (by omega)
            injection hva with hva
            injection hva with hva1 hva2
            subst hva1; subst hva2
            have hd0 := getD_drop l i k
            rw [← hd0, ← Nat.add_assoc] at e0
            obtain ⟨d, hd⟩ : ∃ d, ((l.drop i).getD k 0).toNat = d := ⟨_, rfl⟩
            have hdl : d < 256 := by rw [← hd]; exact UInt8.toNat_lt _
            have e1 : wr.cell? ⟨bb, oo + i + k, none⟩ = some (.int .u8 (d : Int)) := by rw [hkx.cell (p := ⟨bb, oo + i + k, none⟩) hbl not_false, e0, hd]
            rw [show oo + i + k = oo + (i + k) by omega] at e1
            by_cases hbad : d < 128 ∨ 191 < d
            · have hF : Hid (Lib.validD l = false) := by
                refine valid_no hv.out hPz.out ?_
                rw [HC.out, hcr.out, show 4 - k = (4 - k - 1) + 1 by omega, conts_bad hd hbad]
              clear hd hd0 e0 hcr hrb
              rcases Nat.lt_or_ge d 128 with hb1 | hb1
              · have gb1 : decide ((d : Int) < 128) = true := decide_eq_true (by omega)
                go_wp2_with fail
                go_ret
                exact ⟨by rw [hF.out]; rfl, hkx⟩
              · have gb1 : decide ((d : Int) < 128) = false := decide_eq_false (by omega)
                have gb2 : decide ((191 : Int) < (d : Int)) = true := decide_eq_true (by omega)
                go_wp2_with fail
                go_ret
                exact ⟨by rw [hF.out]; rfl, hkx⟩
            · have gb1 : decide ((d : Int) < 128) = false := decide_eq_false (by omega)
              have gb2 : decide ((191 : Int) < (d : Int)) = false := decide_eq_false (by omega)
              have hrb2 : Hid (r * 64 + d - 128 < 256 * 64 ^ (k + 1 - 1)) := grow64 hk1 hrb.out (by omega)
              have hcr2 : Hid (contsB (l.drop i) (4 - 1) 1 (c - 240) = contsB (l.drop i) (4 - (k + 1)) (k + 1) (r * 64 + d - 128)) := by
                unfold Hid
                rw [hcr.out, show 4 - k = (4 - (k + 1)) + 1 by omega, conts_next hd hbad]
              clear hd hd0 e0 hcr hrb
              go_wp2_with fail
              go_roundg (4 + 1 - (k + 1))
              case measure => omega
              case rel => exact ⟨k + 1, r * 64 + d - 128, by omega, by omega, by omega, by go_num, by go_num, hrb2, hcr2, hkx⟩
          · obtain rfl : k = 4 := by omega
            have gk1 : decide ((4 : Int) < 4) = false := rfl
            have hcf : Hid (contsB (l.drop i) (4 - 1) 1 (c - 240) = some r) := hcr.out
            have bl := build_least wr
            have kl : Kept (fun _ => False) w (wr.alloc (.cells leastC 68)) := hkx.trans ((Kept.refl _ wr).alloc _)
            have sl := store_least wr
            have cl := cell_least wr (k := 4) (z := 65536) rfl
            have hL : leastB 4 = 65536 := rfl
            by_cases f1 : r < 65536
            · have hF : Hid (Lib.validD l = false) := valid_no hv.out hPz.out (by rw [HC.out, hcf.out]; dsimp only; rw [if_neg (by unfold fitB; rw [hL]; simp; omega)])
              have q1 : decide ((r : Int) < 65536) = true := decide_eq_true (by omega)
              clear hcf hcr hrb
              go_wp2_with (first
                | (with_reducible refine wpl_build 68 _ rfl rfl ?_ bl ?_
                   · (go_simp <;> rfl)
                   simp only [Act.put, List.getElem_toArray, List.getElem_cons_zero, List.getElem_cons_succ, List.setIfInBounds_toArray, List.set_cons_zero, List.set_cons_succ])
                | (with_reducible refine wpl_store 68 _ _ rfl rfl ?_ ?_ sl ?_
                   · rfl
                   · rfl
                   simp only [Act.put, List.getElem_toArray, List.getElem_cons_zero, List.getElem_cons_succ, List.setIfInBounds_toArray, List.set_cons_zero, List.set_cons_succ]))
              go_ret
              exact ⟨by rw [hF.out]; rfl, kl⟩
            have q1 : decide ((r : Int) < 65536) = false := decide_eq_false (by omega)
            by_cases f2 : 1114111 < r
            · have hF : Hid (Lib.validD l = false) := valid_no hv.out hPz.out (by rw [HC.out, hcf.out]; dsimp only; rw [if_neg (by unfold fitB; rw [hL]; simp; omega)])
              have q2 : decide ((1114111 : Int) < (r : Int)) = true := decide_eq_true (by omega)
              clear hcf hcr hrb
              go_wp2_with (first
                | (with_reducible refine wpl_build 68 _ rfl rfl ?_ bl ?_
                   · (go_simp <;> rfl)
                   simp only [Act.put, List.getElem_toArray, List.getElem_cons_zero, List.getElem_cons_succ, List.setIfInBounds_toArray, List.set_cons_zero, List.set_cons_succ])
                | (with_reducible refine wpl_store 68 _ _ rfl rfl ?_ ?_ sl ?_
                   · rfl
                   · rfl
                   simp only [Act.put, List.getElem_toArray, List.getElem_cons_zero, List.getElem_cons_succ, List.setIfInBounds_toArray, List.set_cons_zero, List.set_cons_succ]))
              go_ret
              exact ⟨by rw [hF.out]; rfl, kl⟩
            have q2 : decide ((1114111 : Int) < (r : Int)) = false := decide_eq_false (by omega)
            by_cases f3 : 55296 ≤ r ∧ r ≤ 57343
            · have hF : Hid (Lib.validD l = false) := valid_no hv.out hPz.out (by rw [HC.out, hcf.out]; dsimp only; rw [if_neg (by unfold fitB; rw [hL]; simp; omega)])
              have q3 : decide ((55296 : Int) ≤ (r : Int)) = true := decide_eq_true (by omega)
              have q4 : decide ((r : Int) ≤ 57343) = true := decide_eq_true (by omega)
              clear hcf hcr hrb
              go_wp2_with (first
                | (with_reducible refine wpl_build 68 _ rfl rfl ?_ bl ?_
                   · (go_simp <;> rfl)
                   simp only [Act.put, List.getElem_toArray, List.getElem_cons_zero, List.getElem_cons_succ, List.setIfInBounds_toArray, List.set_cons_zero, List.set_cons_succ])
                | (with_reducible refine wpl_store 68 _ _ rfl rfl ?_ ?_ sl ?_
                   · rfl
                   · rfl
                   simp only [Act.put, List.getElem_toArray, List.getElem_cons_zero, List.getElem_cons_succ, List.setIfInBounds_toArray, List.set_cons_zero, List.set_cons_succ]))
              go_ret
              exact ⟨by rw [hF.out]; rfl, kl⟩
            have hG : Hid (Lib.validD l = Lib.validD (l.drop (i + 4))) := by
              have := valid_go hv.out hPz.out (n := 4) (by rw [HC.out, hcf.out]; dsimp only; rw [if_pos (by unfold fitB; rw [hL]; simp; omega)])
              rw [List.drop_drop] at this
              exact this
            clear hcf hcr hrb
            rcases Nat.lt_or_ge r 55296 with f4 | f4
            · have q3 : decide ((55296 : Int) ≤ (r : Int)) = false := decide_eq_false (by omega)
              go_wp2_with (first
                | (with_reducible refine wpl_build 68 _ rfl rfl ?_ bl ?_
                   · (go_simp <;> rfl)
                   simp only [Act.put, List.getElem_toArray, List.getElem_cons_zero, List.getElem_cons_succ, List.setIfInBounds_toArray, List.set_cons_zero, List.set_cons_succ])
                | (with_reducible refine wpl_store 68 _ _ rfl rfl ?_ ?_ sl ?_
                   · rfl
                   · rfl
                   simp only [Act.put, List.getElem_toArray, List.getElem_cons_zero, List.getElem_cons_succ, List.setIfInBounds_toArray, List.set_cons_zero, List.set_cons_succ]))
              go_roundg (l.length - (i + 4))
              case measure => omega
              case rel => exact ⟨i + 4, by omega, by omega, by go_num, hG, kl⟩
            · have q3 : decide ((55296 : Int) ≤ (r : Int)) = true := decide_eq_true (by omega)
              have q4 : decide ((r : Int) ≤ 57343) = false := decide_eq_false (by omega)
              go_wp2_with (first
                | (with_reducible refine wpl_build 68 _ rfl rfl ?_ bl ?_
                   · (go_simp <;> rfl)
                   simp only [Act.put, List.getElem_toArray, List.getElem_cons_zero, List.getElem_cons_succ, List.setIfInBounds_toArray, List.set_cons_zero, List.set_cons_succ])
                | (with_reducible refine wpl_store 68 _ _ rfl rfl ?_ ?_ sl ?_
                   · rfl
                   · rfl
                   simp only [Act.put, List.getElem_toArray, List.getElem_cons_zero, List.getElem_cons_succ, List.setIfInBounds_toArray, List.set_cons_zero, List.set_cons_succ]))
              go_roundg (l.length - (i + 4))
              case measure => omega
              case rel => exact ⟨i + 4, by omega, by omega, by go_num, hG, kl⟩
      have g4 : decide ((240 : Int) ≤ (c : Int)) = false := decide_eq_false (by omega)
      by_cases k3 : 224 ≤ c
      · have g3 : decide ((224 : Int) ≤ (c : Int)) = true := decide_eq_true (by omega)
        have hwid : widB c = 3 := by unfold widB; rw [if_neg k4, if_pos k3]
        have hlow : lowB c = c - 224 := by unfold lowB; rw [if_neg k4, if_pos k3]
        have hmid : ¬ (128 ≤ c ∧ c < 192) := by omega
        have hCE := fun h2 => chunk_eq hP0 hwid hlow hmid h2
        by_cases hsh : l.length < i + 3
        · have gz : decide ((l.length : Int) < (i : Int) + 3) = true := decide_eq_true (by omega)
          have hF : Hid (Lib.validD l = false) := valid_no hv.out hPn (chunk_short hP0 hwid (by rw [List.length_drop]; omega))
          clear hCE hP0 hPn hv
          go_wp2_with fail
          go_ret
          exact ⟨by rw [hF.out]; rfl, hk⟩
        have gz : decide ((l.length : Int) < (i : Int) + 3) = false := decide_eq_false (by omega)
        have HC := Lib.hid (hCE (by rw [List.length_drop]; omega))
        clear hCE
        have hPz : Hid (l.drop i ≠ []) := hPn
        clear hP0 hPn e0
        go_wp2_with fail
        go_loopg [5, 6] 3 (fun gk s5 s6 wx => ∃ k r : Nat, gk = 3 + 1 - k ∧ 1 ≤ k ∧ k ≤ 3 ∧ s6 = .int .i64 k ∧ s5 = .int .i64 r ∧ Hid (r < 256 * 64 ^ (k - 1)) ∧ Hid (contsB (l.drop i) (3 - 1) 1 (c - 224) = contsB (l.drop i) (3 - k) k r) ∧ Kept (fun _ => False) w wx)
        case atStart => exact ⟨1, c - 224, by omega, by omega, by omega, rfl, by go_num, show c - 224 < 256 by omega, rfl, hk⟩
        case round =>
          obtain ⟨k, r, rfl, hk1, hkn, rfl, rfl, hrb, hcr, hkx⟩ := hrel
          have hr := small64 (by omega) hrb.out
          by_cases hkl : k < 3
          · have gk1 : decide ((k : Int) < 3) = true := decide_eq_true (by omega)
            obtain ⟨b2, o2, hva, hb2, e0⟩ := h.byte (i := i + k) (by omega)
            injection hva with hva
            injection hva with hva1 hva2
            subst hva1; subst hva2
            have hd0 := getD_drop l i k
            rw [← hd0, ← Nat.add_assoc] at e0
            obtain ⟨d, hd⟩ : ∃ d, ((l.drop i).getD k 0).toNat = d := ⟨_, rfl⟩
            have hdl : d < 256 := by rw [← hd]; exact UInt8.toNat_lt _
            have e1 : wr.cell? ⟨bb, oo + i + k, none⟩ = some (.int .u8 (d : Int)) := by rw [hkx.cell (p := ⟨bb, oo + i + k, none⟩) hbl not_false, e0, hd]
            rw [show oo + i + k = oo + (i + k) by omega] at e1
            by_cases hbad : d < 128 ∨ 191 < d
            · have hF : Hid (Lib.validD l = false) := by
                refine valid_no hv.out hPz.out ?_
                rw [HC.out, hcr.out, show 3 - k = (3 - k - 1) + 1 by omega, conts_bad hd hbad]
              clear hd hd0 e0 hcr hrb
              rcases Nat.lt_or_ge d 128 with hb1 | hb1
              · have gb1 : decide ((d : Int) < 128) = true := decide_eq_true (by omega)
                go_wp2_with fail
                go_ret
                exact ⟨by rw [hF.out]; rfl, hkx⟩
              · have gb1 : decide ((d : Int) < 128) = false := decide_eq_false (by omega)
                have gb2 : decide ((191 : Int) < (d : Int)) = true := decide_eq_true (by omega)
                go_wp2_with fail
                go_ret
                exact ⟨by rw [hF.out]; rfl, hkx⟩
            · have gb1 : decide ((d : Int) < 128) = false := decide_eq_false (by omega)
              have gb2 : decide ((191 : Int) < (d : Int)) = false := decide_eq_false (by omega)
              have hrb2 : Hid (r * 64 + d - 128 < 256 * 64 ^ (k + 1 - 1)) := grow64 hk1 hrb.out (by omega)
              have hcr2 : Hid (contsB (l.drop i) (3 - 1) 1 (c - 224) = contsB (l.drop i) (3 - (k + 1)) (k + 1) (r * 64 + d - 128)) := by
                unfold Hid
                rw [hcr.out, show 3 - k = (3 - (k + 1)) + 1 by omega, conts_next hd hbad]
              clear hd hd0 e0 hcr hrb
              go_wp2_with fail
              go_roundg (3 + 1 - (k + 1))
              case measure => omega
              case rel => exact ⟨k + 1, r * 64 + d - 128, by omega, by omega, by omega, by go_num, by go_num, hrb2, hcr2, hkx⟩
          · obtain rfl : k = 3 := by omega
            have gk1 : decide ((3 : Int) < 3) = false := rfl
            have hcf : Hid (contsB (l.drop i) (3 - 1) 1 (c - 224) = some r) := hcr.out
            have bl := build_least wr
            have kl : Kept (fun _ => False) w (wr.alloc (.cells leastC 68)) := hkx.trans ((Kept.refl _ wr).alloc _)
            have sl := store_least wr
            have cl := cell_least wr (k := 3) (z := 2048) rfl
            have hL : leastB 3 = 2048 := rfl
            by_cases f1 : r < 2048
            · have hF : Hid (Lib.validD l = false) := valid_no hv.out hPz.out (by rw [HC.out, hcf.out]; dsimp only; rw [if_neg (by unfold fitB; rw [hL]; simp; omega)])
              have q1 : decide ((r : Int) < 2048) = true := decide_eq_true (by omega)
              clear hcf hcr hrb
              go_wp2_with (first
                | (with_reducible refine wpl_build 68 _ rfl rfl ?_ bl ?_
                   · (go_simp <;> rfl)
                   simp only [Act.put, List.getElem_toArray, List.getElem_cons_zero, List.getElem_cons_succ, List.setIfInBounds_toArray, List.set_cons_zero, List.set_cons_succ])
                | (with_reducible refine wpl_store 68 _ _ rfl rfl ?_ ?_ sl ?_
                   · rfl
                   · rfl
                   simp only [Act.put, List.getElem_toArray, List.getElem_cons_zero, List.getElem_cons_succ, List.setIfInBounds_toArray, List.set_cons_zero, List.set_cons_succ]))
              go_ret
              exact ⟨by rw [hF.out]; rfl, kl⟩
            have q1 : decide ((r : Int) < 2048) = false := decide_eq_false (by omega)
            by_cases f2 : 1114111 < r
            · have hF : Hid (Lib.validD l = false) := valid_no hv.out hPz.out (by rw [HC.out, hcf.out]; dsimp only; rw [if_neg (by unfold fitB; rw [hL]; simp; omega)])
              have q2 : decide ((1114111 : Int) < (r : Int)) = true := decide_eq_true (by omega)
              clear hcf hcr hrb
              go_wp2_with (first
                | (with_reducible refine wpl_build 68 _ rfl rfl ?_ bl ?_
                   · (go_simp <;> rfl)
                   simp only [Act.put, List.getElem_toArray, List.getElem_cons_zero, List.getElem_cons_succ, List.setIfInBounds_toArray, List.set_cons_zero, List.set_cons_succ])
                | (with_reducible refine wpl_store 68 _ _ rfl rfl ?_ ?_ sl ?_
                   · rfl
                   · rfl
                   simp only [Act.put, List.getElem_toArray, List.getElem_cons_zero, List.getElem_cons_succ, List.setIfInBounds_toArray, List.set_cons_zero, List.set_cons_succ]))
              go_ret
              exact ⟨by rw [hF.out]; rfl, kl⟩
            have q2 : decide ((1114111 : Int) < (r : Int)) = false := decide_eq_false (by omega)
            by_cases f3 : 55296 ≤ r ∧ r ≤ 57343
            · have hF : Hid (Lib.validD l = false) := valid_no hv.out hPz.out (by rw [HC.out, hcf.out]; dsimp only; rw [if_neg (by unfold fitB; rw [hL]; simp; omega)])
              have q3 : decide ((55296 : Int) ≤ (r : Int)) = true := decide_eq_true (by omega)
              have q4 : decide ((r : Int) ≤ 57343) = true := decide_eq_true (by omega)
              clear hcf hcr hrb
              go_wp2_with (first
                | (with_reducible refine wpl_build 68 _ rfl rfl ?_ bl ?_
                   · (go_simp <;> rfl)
                   simp only [Act.put, List.getElem_toArray, List.getElem_cons_zero, List.getElem_cons_succ, List.setIfInBounds_toArray, List.set_cons_zero, List.set_cons_succ])
                | (with_reducible refine wpl_store 68 _ _ rfl rfl ?_ ?_ sl ?_
                   · rfl
                   · rfl
                   simp only [Act.put, List.getElem_toArray, List.getElem_cons_zero, List.getElem_cons_succ, List.setIfInBounds_toArray, List.set_cons_zero, List.set_cons_succ]))
              go_ret
              exact ⟨by rw [hF.out]; rfl, kl⟩
            have hG : Hid (Lib.validD l = Lib.validD (l.drop (i + 3))) := by
              have := valid_go hv.out hPz.out (n := 3) (by rw [HC.out, hcf.out]; dsimp only; rw [if_pos (by unfold fitB; rw [hL]; simp; omega)])
              rw [List.drop_drop] at this
              exact this
            clear hcf hcr hrb
            rcases Nat.lt_or_ge r 55296 with f4 | f4
            · have q3 : decide ((55296 : Int) ≤ (r : Int)) = false := decide_eq_false (by omega)
              go_wp2_with (first
                | (with_reducible refine wpl_build 68 _ rfl rfl ?_ bl ?_
                   · (go_simp <;> rfl)
                   simp only [Act.put, List.getElem_toArray, List.getElem_cons_zero, List.getElem_cons_succ, List.setIfInBounds_toArray, List.set_cons_zero, List.set_cons_succ])
                | (with_reducible refine wpl_store 68 _ _ rfl rfl ?_ ?_ sl ?_
                   · rfl
                   · rfl
                   simp only [Act.put, List.getElem_toArray, List.getElem_cons_zero, List.getElem_cons_succ, List.setIfInBounds_toArray, List.set_cons_zero, List.set_cons_succ]))
              go_roundg (l.length - (i + 3))
              case measure => omega
              case rel => exact ⟨i + 3, by omega, by omega, by go_num, hG, kl⟩
            · have q3 : decide ((55296 : Int) ≤ (r : Int)) = true := decide_eq_true (by omega)
              have q4 : decide ((r : Int) ≤ 57343) = false := decide_eq_false (by omega)
              go_wp2_with (first
                | (with_reducible refine wpl_build 68 _ rfl rfl ?_ bl ?_
                   · (go_simp <;> rfl)
                   simp only [Act.put, List.getElem_toArray, List.getElem_cons_zero, List.getElem_cons_succ, List.setIfInBounds_toArray, List.set_cons_zero, List.set_cons_succ])
                | (with_reducible refine wpl_store 68 _ _ rfl rfl ?_ ?_ sl ?_
                   · rfl
                   · rfl
                   simp only [Act.put, List.getElem_toArray, List.getElem_cons_zero, List.getElem_cons_succ, List.setIfInBounds_toArray, List.set_cons_zero, List.set_cons_succ]))
              go_roundg (l.length - (i + 3))
              case measure => omega
              case rel => exact ⟨i + 3, by omega, by omega, by go_num, hG, kl⟩
      have g3 : decide ((224 : Int) ≤ (c : Int)) = false := decide_eq_false (by omega)
      by_cases k2 : 192 ≤ c
      · have g2 : decide ((192 : Int) ≤ (c : Int)) = true := decide_eq_true (by omega)
        have hwid : widB c = 2 := by unfold widB; rw [if_neg k4, if_neg k3, if_pos k2]
        have hlow : lowB c = c - 192 := by unfold lowB; rw [if_neg k4, if_neg k3, if_pos k2]
        have hmid : ¬ (128 ≤ c ∧ c < 192) := by omega
        have hCE := fun h2 => chunk_eq hP0 hwid hlow hmid h2
        by_cases hsh : l.length < i + 2
        · have gz : decide ((l.length : Int) < (i : Int) + 2) = true := decide_eq_true (by omega)
          have hF : Hid (Lib.validD l = false) := valid_no hv.out hPn (chunk_short hP0 hwid (by rw [List.length_drop]; omega))
          clear hCE hP0 hPn hv
          go_wp2_with fail
          go_ret
          exact ⟨by rw [hF.out]; rfl, hk⟩
        have gz : decide ((l.length : Int) < (i : Int) + 2) = false := decide_eq_false (by omega)
        have HC := Lib.hid (hCE (by rw [List.length_drop]; omega))
        clear hCE
        have hPz : Hid (l.drop i ≠ []) := hPn
        clear hP0 hPn e0
        go_wp2_with fail
        go_loopg [5, 6] 2 (fun gk s5 s6 wx => ∃ k r : Nat, gk = 2 + 1 - k ∧ 1 ≤ k ∧ k ≤ 2 ∧ s6 = .int .i64 k ∧ s5 = .int .i64 r ∧ Hid (r < 256 * 64 ^ (k - 1)) ∧ Hid (contsB (l.drop i) (2 - 1) 1 (c - 192) = contsB (l.drop i) (2 - k) k r) ∧ Kept (fun _ => False) w wx)
        case atStart => exact ⟨1, c - 192, by omega, by omega, by omega, rfl, by go_num, show c - 192 < 256 by omega, rfl, hk⟩
        case round =>
          obtain ⟨k, r, rfl, hk1, hkn, rfl, rfl, hrb, hcr, hkx⟩ := hrel
          have hr := small64 (by omega) hrb.out
          by_cases hkl : k < 2
          · have gk1 : decide ((k : Int) < 2) = true := decide_eq_true (by omega)
            obtain ⟨b2, o2, hva, hb2, e0⟩ := h.byte (i := i + k) (by omega)
            injection hva with hva
            injection hva with hva1 hva2
            subst hva1; subst hva2
            have hd0 := getD_drop l i k
            rw [← hd0, ← Nat.add_assoc] at e0
            obtain ⟨d, hd⟩ : ∃ d, ((l.drop i).getD k 0).toNat = d := ⟨_, rfl⟩
            have hdl : d < 256 := by rw [← hd]; exact UInt8.toNat_lt _
            have e1 : wr.cell? ⟨bb, oo + i + k, none⟩ = some (.int .u8 (d : Int)) := by rw [hkx.cell (p := ⟨bb, oo + i + k, none⟩) hbl not_false, e0, hd]
            rw [show oo + i + k = oo + (i + k) by omega] at e1
            by_cases hbad : d < 128 ∨ 191 < d
            · have hF : Hid (Lib.validD l = false) := by
                refine valid_no hv.out hPz.out ?_
                rw [HC.out, hcr.out, show 2 - k = (2 - k - 1) + 1 by omega, conts_bad hd hbad]
              clear hd hd0 e0 hcr hrb
              rcases Nat.lt_or_ge d 128 with hb1 | hb1
              · have gb1 : decide ((d : Int) < 128) = true := decide_eq_true (by omega)
                go_wp2_with fail
                go_ret
                exact ⟨by rw [hF.out]; rfl, hkx⟩
              · have gb1 : decide ((d : Int) < 128) = false := decide_eq_false (by omega)
                have gb2 : decide ((191 : Int) < (d : Int)) = true := decide_eq_true (by omega)
                go_wp2_with fail
                go_ret
                exact ⟨by rw [hF.out]; rfl, hkx⟩
            · have gb1 : decide ((d : Int) < 128) = false := decide_eq_false (by omega)
              have gb2 : decide ((191 : Int) < (d : Int)) = false := decide_eq_false (by omega)
              have hrb2 : Hid (r * 64 + d - 128 < 256 * 64 ^ (k + 1 - 1)) := grow64 hk1 hrb.out (by omega)
              have hcr2 : Hid (contsB (l.drop i) (2 - 1) 1 (c - 192) = contsB (l.drop i) (2 - (k + 1)) (k + 1) (r * 64 + d - 128)) := by
                unfold Hid
                rw [hcr.out, show 2 - k = (2 - (k + 1)) + 1 by omega, conts_next hd hbad]
              clear hd hd0 e0 hcr hrb
              go_wp2_with fail
              go_roundg (2 + 1 - (k + 1))
              case measure => omega
              case rel => exact ⟨k + 1, r * 64 + d - 128, by omega, by omega, by omega, by go_num, by go_num, hrb2, hcr2, hkx⟩
          · obtain rfl : k = 2 := by omega
            have gk1 : decide ((2 : Int) < 2) = false := rfl
            have hcf : Hid (contsB (l.drop i) (2 - 1) 1 (c - 192) = some r) := hcr.out
            have bl := build_least wr
            have kl : Kept (fun _ => False) w (wr.alloc (.cells leastC 68)) := hkx.trans ((Kept.refl _ wr).alloc _)
            have sl := store_least wr
            have cl := cell_least wr (k := 2) (z := 128) rfl
            have hL : leastB 2 = 128 := rfl
            by_cases f1 : r < 128
            · have hF : Hid (Lib.validD l = false) := valid_no hv.out hPz.out (by rw [HC.out, hcf.out]; dsimp only; rw [if_neg (by unfold fitB; rw [hL]; simp; omega)])
              have q1 : decide ((r : Int) < 128) = true := decide_eq_true (by omega)
              clear hcf hcr hrb
              go_wp2_with (first
                | (with_reducible refine wpl_build 68 _ rfl rfl ?_ bl ?_
                   · (go_simp <;> rfl)
                   simp only [Act.put, List.getElem_toArray, List.getElem_cons_zero, List.getElem_cons_succ, List.setIfInBounds_toArray, List.set_cons_zero, List.set_cons_succ])
                | (with_reducible refine wpl_store 68 _ _ rfl rfl ?_ ?_ sl ?_
                   · rfl
                   · rfl
                   simp only [Act.put, List.getElem_toArray, List.getElem_cons_zero, List.getElem_cons_succ, List.setIfInBounds_toArray, List.set_cons_zero, List.set_cons_succ]))
              go_ret
              exact ⟨by rw [hF.out]; rfl, kl⟩
            have q1 : decide ((r : Int) < 128) = false := decide_eq_false (by omega)
            by_cases f2 : 1114111 < r
            · have hF : Hid (Lib.validD l = false) := valid_no hv.out hPz.out (by rw [HC.out, hcf.out]; dsimp only; rw [if_neg (by unfold fitB; rw [hL]; simp; omega)])
              have q2 : decide ((1114111 : Int) < (r : Int)) = true := decide_eq_true (by omega)
              clear hcf hcr hrb
              go_wp2_with (first
                | (with_reducible refine wpl_build 68 _ rfl rfl ?_ bl ?_
                   · (go_simp <;> rfl)
                   simp only [Act.put, List.getElem_toArray, List.getElem_cons_zero, List.getElem_cons_succ, List.setIfInBounds_toArray, List.set_cons_zero, List.set_cons_succ])
                | (with_reducible refine wpl_store 68 _ _ rfl rfl ?_ ?_ sl ?_
                   · rfl
                   · rfl
                   simp only [Act.put, List.getElem_toArray, List.getElem_cons_zero, List.getElem_cons_succ, List.setIfInBounds_toArray, List.set_cons_zero, List.set_cons_succ]))
              go_ret
              exact ⟨by rw [hF.out]; rfl, kl⟩
            have q2 : decide ((1114111 : Int) < (r : Int)) = false := decide_eq_false (by omega)
            by_cases f3 : 55296 ≤ r ∧ r ≤ 57343
            · have hF : Hid (Lib.validD l = false) := valid_no hv.out hPz.out (by rw [HC.out, hcf.out]; dsimp only; rw [if_neg (by unfold fitB; rw [hL]; simp; omega)])
              have q3 : decide ((55296 : Int) ≤ (r : Int)) = true := decide_eq_true (by omega)
              have q4 : decide ((r : Int) ≤ 57343) = true := decide_eq_true (by omega)
              clear hcf hcr hrb
              go_wp2_with (first
                | (with_reducible refine wpl_build 68 _ rfl rfl ?_ bl ?_
                   · (go_simp <;> rfl)
                   simp only [Act.put, List.getElem_toArray, List.getElem_cons_zero, List.getElem_cons_succ, List.setIfInBounds_toArray, List.set_cons_zero, List.set_cons_succ])
                | (with_reducible refine wpl_store 68 _ _ rfl rfl ?_ ?_ sl ?_
                   · rfl
                   · rfl
                   simp only [Act.put, List.getElem_toArray, List.getElem_cons_zero, List.getElem_cons_succ, List.setIfInBounds_toArray, List.set_cons_zero, List.set_cons_succ]))
              go_ret
              exact ⟨by rw [hF.out]; rfl, kl⟩
            have hG : Hid (Lib.validD l = Lib.validD (l.drop (i + 2))) := by
              have := valid_go hv.out hPz.out (n := 2) (by rw [HC.out, hcf.out]; dsimp only; rw [if_pos (by unfold fitB; rw [hL]; simp; omega)])
              rw [List.drop_drop] at this
              exact this
            clear hcf hcr hrb
            rcases Nat.lt_or_ge r 55296 with f4 | f4
            · have q3 : decide ((55296 : Int) ≤ (r : Int)) = false := decide_eq_false (by omega)
              go_wp2_with (first
                | (with_reducible refine wpl_build 68 _ rfl rfl ?_ bl ?_
                   · (go_simp <;> rfl)
                   simp only [Act.put, List.getElem_toArray, List.getElem_cons_zero, List.getElem_cons_succ, List.setIfInBounds_toArray, List.set_cons_zero, List.set_cons_succ])
                | (with_reducible refine wpl_store 68 _ _ rfl rfl ?_ ?_ sl ?_
                   · rfl
                   · rfl
                   simp only [Act.put, List.getElem_toArray, List.getElem_cons_zero, List.getElem_cons_succ, List.setIfInBounds_toArray, List.set_cons_zero, List.set_cons_succ]))
              go_roundg (l.length - (i + 2))
              case measure => omega
              case rel => exact ⟨i + 2, by omega, by omega, by go_num, hG, kl⟩
            · have q3 : decide ((55296 : Int) ≤ (r : Int)) = true := decide_eq_true (by omega)
              have q4 : decide ((r : Int) ≤ 57343) = false := decide_eq_false (by omega)
              go_wp2_with (first
                | (with_reducible refine wpl_build 68 _ rfl rfl ?_ bl ?_
                   · (go_simp <;> rfl)
                   simp only [Act.put, List.getElem_toArray, List.getElem_cons_zero, List.getElem_cons_succ, List.setIfInBounds_toArray, List.set_cons_zero, List.set_cons_succ])
                | (with_reducible refine wpl_store 68 _ _ rfl rfl ?_ ?_ sl ?_
                   · rfl
                   · rfl
                   simp only [Act.put, List.getElem_toArray, List.getElem_cons_zero, List.getElem_cons_succ, List.setIfInBounds_toArray, List.set_cons_zero, List.set_cons_succ]))
              go_roundg (l.length - (i + 2))
              case measure => omega
              case rel => exact ⟨i + 2, by omega, by omega, by go_num, hG, kl⟩
      have g2 : decide ((192 : Int) ≤ (c : Int)) = false := decide_eq_false (by omega)
      by_cases k1 : 128 ≤ c
      · have g1 : decide ((128 : Int) ≤ (c : Int)) = true := decide_eq_true (by omega)
        have hF : Hid (Lib.validD l = false) := valid_no hv.out hPn (chunk_low hP0 (by omega))
        clear hP0 hPn hv e0
        go_wp2_with fail
        go_ret
        exact ⟨by rw [hF.out]; rfl, hk⟩
      · have g1 : decide ((128 : Int) ≤ (c : Int)) = false := decide_eq_false (by omega)
        have hwid : widB c = 1 := by unfold widB; rw [if_neg k4, if_neg k3, if_neg k2]
        have hlow : lowB c = c := by unfold lowB; rw [if_neg k4, if_neg k3, if_neg k2]
        have hmid : ¬ (128 ≤ c ∧ c < 192) := by omega
        have hCE := fun h2 => chunk_eq hP0 hwid hlow hmid h2
        by_cases hsh : l.length < i + 1
        · have gz : decide ((l.length : Int) < (i : Int) + 1) = true := decide_eq_true (by omega)
          have hF : Hid (Lib.validD l = false) := valid_no hv.out hPn (chunk_short hP0 hwid (by rw [List.length_drop]; omega))
          clear hCE hP0 hPn hv
          go_wp2_with fail
          go_ret
          exact ⟨by rw [hF.out]; rfl, hk⟩
        have gz : decide ((l.length : Int) < (i : Int) + 1) = false := decide_eq_false (by omega)
        have HC := Lib.hid (hCE (by rw [List.length_drop]; omega))
        clear hCE
        have hPz : Hid (l.drop i ≠ []) := hPn
        clear hP0 hPn e0
        go_wp2_with fail
        go_loopg [5, 6] 1 (fun gk s5 s6 wx => ∃ k r : Nat, gk = 1 + 1 - k ∧ 1 ≤ k ∧ k ≤ 1 ∧ s6 = .int .i64 k ∧ s5 = .int .i64 r ∧ Hid (r < 256 * 64 ^ (k - 1)) ∧ Hid (contsB (l.drop i) (1 - 1) 1 (c) = contsB (l.drop i) (1 - k) k r) ∧ Kept (fun _ => False) w wx)
        case atStart => exact ⟨1, c, by omega, by omega, by omega, rfl, by go_num, show c < 256 by omega, rfl, hk⟩
        case round =>
          obtain ⟨k, r, rfl, hk1, hkn, rfl, rfl, hrb, hcr, hkx⟩ := hrel
          have hr := small64 (by omega) hrb.out
          by_cases hkl : k < 1
          · have gk1 : decide ((k : Int) < 1) = true := decide_eq_true (by omega)
            obtain ⟨b2, o2, hva, hb2, e0⟩ := h.byte (i := i + k) (by omega)
            injection hva with hva
            injection hva with hva1 hva2
            subst hva1; subst hva2
            have hd0 := getD_drop l i k
            rw [← hd0, ← Nat.add_assoc] at e0
            obtain ⟨d, hd⟩ : ∃ d, ((l.drop i).getD k 0).toNat = d := ⟨_, rfl⟩
            have hdl : d < 256 := by rw [← hd]; exact UInt8.toNat_lt _
            have e1 : wr.cell? ⟨bb, oo + i + k, none⟩ = some (.int .u8 (d : Int)) := by rw [hkx.cell (p := ⟨bb, oo + i + k, none⟩) hbl not_false, e0, hd]
            rw [show oo + i + k = oo + (i + k) by omega] at e1
            by_cases hbad : d < 128 ∨ 191 < d
            · have hF : Hid (Lib.validD l = false) := by
                refine valid_no hv.out hPz.out ?_
                rw [HC.out, hcr.out, show 1 - k = (1 - k - 1) + 1 by omega, conts_bad hd hbad]
              clear hd hd0 e0 hcr hrb
              rcases Nat.lt_or_ge d 128 with hb1 | hb1
              · have gb1 : decide ((d : Int) < 128) = true := decide_eq_true (by omega)
                go_wp2_with fail
                go_ret
                exact ⟨by rw [hF.out]; rfl, hkx⟩
              · have gb1 : decide ((d : Int) < 128) = false := decide_eq_false (by omega)
                have gb2 : decide ((191 : Int) < (d : Int)) = true := decide_eq_true (by omega)
                go_wp2_with fail
                go_ret
                exact ⟨by rw [hF.out]; rfl, hkx⟩
            · have gb1 : decide ((d : Int) < 128) = false := decide_eq_false (by omega)
              have gb2 : decide ((191 : Int) < (d : Int)) = false := decide_eq_false (by omega)
              have hrb2 : Hid (r * 64 + d - 128 < 256 * 64 ^ (k + 1 - 1)) := grow64 hk1 hrb.out (by omega)
              have hcr2 : Hid (contsB (l.drop i) (1 - 1) 1 (c) = contsB (l.drop i) (1 - (k + 1)) (k + 1) (r * 64 + d - 128)) := by
                unfold Hid
                rw [hcr.out, show 1 - k = (1 - (k + 1)) + 1 by omega, conts_next hd hbad]
              clear hd hd0 e0 hcr hrb
              go_wp2_with fail
              go_roundg (1 + 1 - (k + 1))
              case measure => omega
              case rel => exact ⟨k + 1, r * 64 + d - 128, by omega, by omega, by omega, by go_num, by go_num, hrb2, hcr2, hkx⟩
          · obtain rfl : k = 1 := by omega
            have gk1 : decide ((1 : Int) < 1) = false := rfl
            have hcf : Hid (contsB (l.drop i) (1 - 1) 1 (c) = some r) := hcr.out
            have bl := build_least wr
            have kl : Kept (fun _ => False) w (wr.alloc (.cells leastC 68)) := hkx.trans ((Kept.refl _ wr).alloc _)
            have sl := store_least wr
            have cl := cell_least wr (k := 1) (z := 0) rfl
            have hL : leastB 1 = 0 := rfl
            by_cases f1 : r < 0
            · have hF : Hid (Lib.validD l = false) := valid_no hv.out hPz.out (by rw [HC.out, hcf.out]; dsimp only; rw [if_neg (by unfold fitB; rw [hL]; simp; omega)])
              have q1 : decide ((r : Int) < 0) = true := decide_eq_true (by omega)
              clear hcf hcr hrb
              go_wp2_with (first
                | (with_reducible refine wpl_build 68 _ rfl rfl ?_ bl ?_
                   · (go_simp <;> rfl)
                   simp only [Act.put, List.getElem_toArray, List.getElem_cons_zero, List.getElem_cons_succ, List.setIfInBounds_toArray, List.set_cons_zero, List.set_cons_succ])
                | (with_reducible refine wpl_store 68 _ _ rfl rfl ?_ ?_ sl ?_
                   · rfl
                   · rfl
                   simp only [Act.put, List.getElem_toArray, List.getElem_cons_zero, List.getElem_cons_succ, List.setIfInBounds_toArray, List.set_cons_zero, List.set_cons_succ]))
              go_ret
              exact ⟨by rw [hF.out]; rfl, kl⟩
            have q1 : decide ((r : Int) < 0) = false := decide_eq_false (by omega)
            by_cases f2 : 1114111 < r
            · have hF : Hid (Lib.validD l = false) := valid_no hv.out hPz.out (by rw [HC.out, hcf.out]; dsimp only; rw [if_neg (by unfold fitB; rw [hL]; simp; omega)])
              have q2 : decide ((1114111 : Int) < (r : Int)) = true := decide_eq_true (by omega)
              clear hcf hcr hrb
              go_wp2_with (first
                | (with_reducible refine wpl_build 68 _ rfl rfl ?_ bl ?_
                   · (go_simp <;> rfl)
                   simp only [Act.put, List.getElem_toArray, List.getElem_cons_zero, List.getElem_cons_succ, List.setIfInBounds_toArray, List.set_cons_zero, List.set_cons_succ])
                | (with_reducible refine wpl_store 68 _ _ rfl rfl ?_ ?_ sl ?_
                   · rfl
                   · rfl
                   simp only [Act.put, List.getElem_toArray, List.getElem_cons_zero, List.getElem_cons_succ, List.setIfInBounds_toArray, List.set_cons_zero, List.set_cons_succ]))
              go_ret
              exact ⟨by rw [hF.out]; rfl, kl⟩
            have q2 : decide ((1114111 : Int) < (r : Int)) = false := decide_eq_false (by omega)
            by_cases f3 : 55296 ≤ r ∧ r ≤ 57343
            · have hF : Hid (Lib.validD l = false) := valid_no hv.out hPz.out (by rw [HC.out, hcf.out]; dsimp only; rw [if_neg (by unfold fitB; rw [hL]; simp; omega)])
              have q3 : decide ((55296 : Int) ≤ (r : Int)) = true := decide_eq_true (by omega)
              have q4 : decide ((r : Int) ≤ 57343) = true := decide_eq_true (by omega)
              clear hcf hcr hrb
              go_wp2_with (first
                | (with_reducible refine wpl_build 68 _ rfl rfl ?_ bl ?_
                   · (go_simp <;> rfl)
                   simp only [Act.put, List.getElem_toArray, List.getElem_cons_zero, List.getElem_cons_succ, List.setIfInBounds_toArray, List.set_cons_zero, List.set_cons_succ])
                | (with_reducible refine wpl_store 68 _ _ rfl rfl ?_ ?_ sl ?_
                   · rfl
                   · rfl
                   simp only [Act.put, List.getElem_toArray, List.getElem_cons_zero, List.getElem_cons_succ, List.setIfInBounds_toArray, List.set_cons_zero, List.set_cons_succ]))
              go_ret
              exact ⟨by rw [hF.out]; rfl, kl⟩
            have hG : Hid (Lib.validD l = Lib.validD (l.drop (i + 1))) := by
              have := valid_go hv.out hPz.out (n := 1) (by rw [HC.out, hcf.out]; dsimp only; rw [if_pos (by unfold fitB; rw [hL]; simp; omega)])
              rw [List.drop_drop] at this
              exact this
            clear hcf hcr hrb
            rcases Nat.lt_or_ge r 55296 with f4 | f4
            · have q3 : decide ((55296 : Int) ≤ (r : Int)) = false := decide_eq_false (by omega)
              go_wp2_with (first
                | (with_reducible refine wpl_build 68 _ rfl rfl ?_ bl ?_
                   · (go_simp <;> rfl)
                   simp only [Act.put, List.getElem_toArray, List.getElem_cons_zero, List.getElem_cons_succ, List.setIfInBounds_toArray, List.set_cons_zero, List.set_cons_succ])
                | (with_reducible refine wpl_store 68 _ _ rfl rfl ?_ ?_ sl ?_
                   · rfl
                   · rfl
                   simp only [Act.put, List.getElem_toArray, List.getElem_cons_zero, List.getElem_cons_succ, List.setIfInBounds_toArray, List.set_cons_zero, List.set_cons_succ]))
              go_roundg (l.length - (i + 1))
              case measure => omega
              case rel => exact ⟨i + 1, by omega, by omega, by go_num, hG, kl⟩
            · have q3 : decide ((55296 : Int) ≤ (r : Int)) = true := decide_eq_true (by omega)
              have q4 : decide ((r : Int) ≤ 57343) = false := decide_eq_false (by omega)
              go_wp2_with (first
                | (with_reducible refine wpl_build 68 _ rfl rfl ?_ bl ?_
                   · (go_simp <;> rfl)
                   simp only [Act.put, List.getElem_toArray, List.getElem_cons_zero, List.getElem_cons_succ, List.setIfInBounds_toArray, List.set_cons_zero, List.set_cons_succ])
                | (with_reducible refine wpl_store 68 _ _ rfl rfl ?_ ?_ sl ?_
                   · rfl
                   · rfl
                   simp only [Act.put, List.getElem_toArray, List.getElem_cons_zero, List.getElem_cons_succ, List.setIfInBounds_toArray, List.set_cons_zero, List.set_cons_succ]))
              go_roundg (l.length - (i + 1))
              case measure => omega
              case rel => exact ⟨i + 1, by omega, by omega, by go_num, hG, kl⟩
    · obtain rfl : i = l.length := by omega
      have gi : decide ((l.length : Int) < (l.length : Int)) = false := by simp
      have hF : Hid (Lib.validD l = true) := by unfold Hid; rw [hv.out, List.drop_length]; rfl
      clear hv
      go_wp2_with fail
      go_ret
      exact ⟨by rw [hF.out]; rfl, hk⟩
end Go.Proofs.YtlheboafhgmbpaaDoor
