/- LexerBack's walk, second part. -/
import Derived.Test.YtlheboafhgmbpaaDoorMB
import Derived.Deep.LoopGhost
namespace Go.Proofs.YtlheboafhgmbpaaDoor
open Go.RowKit
set_option maxRecDepth 100000
set_option linter.unusedSimpArgs false
set_option linter.unusedVariables false

theorem lead_begin {ys : List UInt8} {k : Nat} {ws : List (List UInt8)} (h : Lead ys (if k = 0 then 0 else 4) [] ws) : Lead (ys ++ [32, 34]) 2 ([] : List UInt8) ws := by
  refine h.begin ?_
  split
  · exact .inl rfl
  · exact .inr rfl
theorem nbz (c n : Nat) (h : c ≠ n) : ((c : Int) == (n : Int)) = false := by simp; omega
set_option maxRecDepth 100000 in
set_option maxHeartbeats 16000000 in
theorem back_law {w : World} {v : Value} {ws : List (List UInt8)} (h : StrsAt w v ws) (hT : Tab8 w) :
    Calls Tryd.prog 5 #[v] w fun e w' => e = .returned (.bool true) ∧ Kept (fun _ => False) w w' := by
  have hm1 : ws.length ≤ maxLen := by obtain ⟨_, _, _, hm, _⟩ := h; exact hm
  simp only [maxLen] at hm1
  obtain ⟨a1, c1, hv1⟩ := h.slc
  subst hv1
  by_cases q0 : ws.length = 0
  · have d0 : ((ws.length : Int) == 0) = true := by simp [q0]
    go_enter Tryd.func5, Tryd.ntmps5
    go_wp2_with fail
    refine (known_ct hT).mono ?_
    rintro e W9 ⟨rfl, k9⟩
    go_wp2_with fail
    go_ret
    exact ⟨rfl, (Kept.refl _ w).trans k9⟩
  have d0 : ((ws.length : Int) == 0) = false := nbz ws.length 0 q0
  by_cases q1 : 40 < ws.length
  · have d1 : decide ((40 : Int) < (ws.length : Int)) = true := decide_eq_true (by omega)
    go_enter Tryd.func5, Tryd.ntmps5
    go_wp2_with fail
    refine (known_ct hT).mono ?_
    rintro e W9 ⟨rfl, k9⟩
    go_wp2_with fail
    go_ret
    exact ⟨rfl, (Kept.refl _ w).trans k9⟩
  have d1 : decide ((40 : Int) < (ws.length : Int)) = false := decide_eq_false (by omega)
  go_enter Tryd.func5, Tryd.ntmps5
  go_wp2_with fail
  go_loopg [3, 21] ws.length (fun gk sl i wr => ∃ (k : Nat) (ys : List UInt8) (a : Option Addr) (c : Nat), gk = ws.length - k ∧ k ≤ ws.length ∧ i = .int .i64 k ∧ sl = .slice a ys.length c ∧ ys.length ≤ 324 * k ∧ Hid (Lead ys (if k = 0 then 0 else 4) [] (ws.take k)) ∧ wr.ownsRow w.heap.size 5 1 (.slice a ys.length c) ys.length (bv ys) ∧ Kept (fun _ => False) w wr)
  case atStart => exact ⟨0, [], none, 0, by omega, by omega, rfl, rfl, by simp, Lead.nil, World.ownsRow_nil _ _ _ _, Kept.refl _ _⟩
  case round =>
    obtain ⟨k, ys, ya, yc, rfl, hk, rfl, rfl, hyl, hlead, ho, hkr⟩ := hrel
    by_cases hlt : k < ws.length
    · have hx : ws[k]? = some ws[k] := List.getElem?_eq_getElem hlt
      have htk : Hid (ws.take (k + 1) = ws.take k ++ [ws[k]]) := List.take_succ_eq_append_getElem hlt
      obtain ⟨b0, o0, rfl, hbl, e0⟩ := h.word hx
      generalize ws[k] = x at hx htk e0
      have hxs : (⟨x.toArray⟩ : ByteArray).size = x.length := by show x.toArray.size = _; simp
      have e1 : wr.cell? ⟨b0, o0 + k, none⟩ = some (.string ⟨x.toArray⟩) := by rw [hkr.cell (p := ⟨b0, o0 + k, none⟩) hbl not_false]; exact e0
      have hkz : decide ((k : Int) < (ws.length : Int)) = true := decide_eq_true (by omega)
      by_cases q2 : 160 < x.length
      · have d2 : decide ((160 : Int) < ((⟨x.toArray⟩ : ByteArray).size : Int)) = true := decide_eq_true (by omega)
        clear hlead ho hx htk
        go_wp2_with fail
        refine (known_ct (hT.kept hkr)).mono ?_
        rintro e W9 ⟨rfl, k9⟩
        go_wp2_with fail
        go_ret
        exact ⟨rfl, (hkr).trans k9⟩
      have d2 : decide ((160 : Int) < ((⟨x.toArray⟩ : ByteArray).size : Int)) = false := decide_eq_false (by omega)
      obtain ⟨a2, c2, y2, V1, hy2, ap1, ho1, kv1⟩ := app_txt ho [32, 34] (by simp; omega) hkr (Nat.le_refl _) hkr.size 22
      have e2 : V1.cell? ⟨b0, o0 + k, none⟩ = some (.string ⟨x.toArray⟩) := by rw [kv1.cell (p := ⟨b0, o0 + k, none⟩) hbl not_false]; exact e0
      have hl1 : Hid (Lead y2 2 (x.take 0) (ws.take k)) := by unfold Hid; rw [hy2]; exact lead_begin hlead.out
      have hy2l : y2.length ≤ 324 * k + 2 := by rw [hy2]; simp; omega
      have B1 := BRow.first (s := ⟨x.toArray⟩) kv1 ho1
      obtain ⟨W, hW⟩ : ∃ W, V1.iter ⟨x.toArray⟩ 0 = W := ⟨_, rfl⟩
      obtain ⟨J, hJ⟩ : ∃ J, V1.heap.size = J := ⟨_, rfl⟩
      rw [hW, hJ] at B1
      clear hy2 ho ho1 kv1 hx e0 hlead
      go_wp2_with (first
        | (with_reducible refine wpl_append2 22 9 _ _ rfl rfl ?_ ?_ ap1 ?_
           · rfl
           · rfl
           simp only [Act.put, List.getElem_toArray, List.getElem_cons_zero, List.getElem_cons_succ, List.setIfInBounds_toArray, List.set_cons_zero, List.set_cons_succ]))
      clear hW e1 e2 ap1 d0 d1 d2
      go_loopg [3] x.length (fun gk sl wx => ∃ (pos : Nat) (zs : List UInt8) (a : Option Addr) (c : Nat), gk = x.length - pos ∧ pos ≤ x.length ∧ sl = .slice a zs.length c ∧ zs.length ≤ 324 * k + 2 + 2 * pos ∧ Hid (Lead zs 2 (x.take pos) (ws.take k)) ∧ BRow w wx J ⟨x.toArray⟩ pos (.slice a zs.length c) zs)
      case atStart => exact ⟨0, y2, a2, c2, by omega, by omega, rfl, by omega, hl1, B1⟩
      case round =>
        clear hl1 B1 hy2l
        obtain ⟨pos, zs, za, zc, rfl, hp, rfl, hzl, hzlead, hB⟩ := hrel
        have hI := hB.it
        by_cases hlt2 : pos < x.length
        · have hnx := fun ty => Lib.run_next_any_at (P := Tryd.prog) wr J ⟨x.toArray⟩ pos ty hI (by omega)
          have hne : x.drop pos ≠ [] := fun e => by have := congrArg List.length e; simp at this; omega
          have hd : Lib.decodeL (x.drop pos) = Utf8.decode ⟨x.toArray⟩ pos := Lib.decodeL_drop ⟨x.toArray⟩ pos
          have hok := decode_ok ⟨x.toArray⟩ pos
          have hwd := Lib.width_pos ⟨x.toArray⟩ pos
          have hle : pos + (Utf8.decode ⟨x.toArray⟩ pos).2 ≤ x.length := by
            have h1 := Lib.decodeL_le _ hne
            rw [hd, List.length_drop] at h1
            omega
          generalize Utf8.decode ⟨x.toArray⟩ pos = d at hnx hd hok hwd hle
          obtain ⟨c, wd⟩ := d
          dsimp only at hnx hok hwd hle
          have B2 := hB.next (pos + wd)
          have hlaw := fun hc => hzlead.out.rune hlt2 hd hc
          have HL := Lib.hid hlaw
          clear hlaw hd hne hzlead hB
          generalize wr.iterAt J ⟨x.toArray⟩ (pos + wd) = W2 at *
          by_cases c10 : c = 10
          · have g10 : ((c : Int) == 10) = true := by simp [c10]
            obtain ⟨hL, hQ⟩ := HL.out (.inl c10)
            rw [c10] at hL hQ
            obtain ⟨a2, c2, z2, V2, hz2, ap, B3⟩ := B2.txt [92, 110] (by simp; omega) 22
            have hL2 : Hid (Lead z2 2 (x.take (pos + wd)) (ws.take k)) := by unfold Hid; rw [hz2]; exact hL
            have hzl2 : z2.length ≤ zs.length + 2 := by rw [hz2]; simp
            clear hL hQ hz2 B2 HL hok
            go_wp2_with (first
              | (with_reducible refine wpl_append2 22 9 _ _ rfl rfl ?_ ?_ ap ?_
                 · rfl
                 · rfl
                 simp only [Act.put, List.getElem_toArray, List.getElem_cons_zero, List.getElem_cons_succ, List.setIfInBounds_toArray, List.set_cons_zero, List.set_cons_succ]))
            go_roundg (x.length - (pos + wd))
            case measure => omega
            case rel => exact ⟨pos + wd, z2, a2, c2, by omega, by omega, rfl, by omega, hL2, B3⟩
          have g10 : ((c : Int) == 10) = false := nbz c 10 c10
          by_cases c3 : c = 34 ∨ c = 92
          · have g3 : ((c : Int) == 34) = true ∨ (((c : Int) == 34) = false ∧ ((c : Int) == 92) = true) := by
              rcases c3 with e | e
              · exact .inl (by simp [e])
              · exact .inr ⟨nbz c 34 (by omega), by simp [e]⟩
            have hcb : c < 256 := by omega
            have hcn : (UInt8.ofNat c).toNat = c := by simp; omega
            obtain ⟨hL, hQ⟩ := HL.out (.inr (by omega))
            have hq : quoteR c = [92, UInt8.ofNat c] := by unfold quoteR; rw [if_neg c10, if_pos c3]
            rw [hq] at hL
            have hwrap : IntKind.u8.wrap (c : Int) = (c : Int) := by simp only [IntKind.wrap]; have : ((c : Int) % 256) = c := by omega
                                                                     simp [IntKind.bits, IntKind.signed, this]
            have bs1 : (Instr.buildSlice 22 1 #[(0, .int .u8 92)]).run Tryd.prog W2 = .ok (.slice (some ⟨W2.heap.size, 0, none⟩) 1 1) (W2.alloc (.cells #[.int .u8 92] 5)) := bslice_one 92 W2
            have B2a := B2.alloc (.cells #[.int .u8 92] 5)
            have hg1 : (W2.alloc (.cells #[.int .u8 92] 5)).heap[W2.heap.size]? = some (.cells #[.int .u8 ((UInt8.toNat 92 : Nat) : Int)] 5 (0, 0)) := heap_last W2 _
            obtain ⟨a3, c4, z3, V3, hz3, ap1, B3a⟩ := B2a.app (byt_one (b := 92) (c := 1) hg1) (by simp; omega) 22
            have bs2 := bslice_one (c : Int) V3
            have B3b := B3a.alloc (.cells #[.int .u8 (c : Int)] 5)
            have hg2 : (V3.alloc (.cells #[.int .u8 (c : Int)] 5)).heap[V3.heap.size]? = some (.cells #[.int .u8 ((UInt8.ofNat c).toNat : Int)] 5 (0, 0)) := by rw [hcn]; exact heap_last V3 _
            have hz3l : z3.length = zs.length + 1 := by rw [hz3]; simp
            obtain ⟨a2, c2, z2, V2, hz2, ap2, B3⟩ := B3b.app (byt_one (b := UInt8.ofNat c) (c := 1) hg2) (by simp; omega) 22
            have hL2 : Hid (Lead z2 2 (x.take (pos + wd)) (ws.take k)) := by unfold Hid; rw [hz2, hz3, List.append_assoc]; exact hL
            have hzl2 : z2.length ≤ zs.length + 2 := by rw [hz2]; simp; omega
            clear hL hQ hz2 hz3 B2 B2a B3a B3b HL hok hq hg1 hg2 hcn
            rcases g3 with g34 | ⟨g34, g92⟩
            · skip
              go_wp2_with (first
                | (with_reducible refine wpl_bslice 22 _ _ rfl rfl ?_ bs1 ?_
                   · (go_simp <;> rfl)
                   simp only [Act.put, List.getElem_toArray, List.getElem_cons_zero, List.getElem_cons_succ, List.setIfInBounds_toArray, List.set_cons_zero, List.set_cons_succ])
                | (with_reducible refine wpl_append 22 _ _ rfl rfl ?_ ?_ ap1 ?_
                   · rfl
                   · rfl
                   simp only [Act.put, List.getElem_toArray, List.getElem_cons_zero, List.getElem_cons_succ, List.setIfInBounds_toArray, List.set_cons_zero, List.set_cons_succ])
                | (with_reducible refine wpl_bslice 22 _ _ rfl rfl ?_ bs2 ?_
                   · (go_simp <;> rfl)
                   simp only [Act.put, List.getElem_toArray, List.getElem_cons_zero, List.getElem_cons_succ, List.setIfInBounds_toArray, List.set_cons_zero, List.set_cons_succ])
                | (with_reducible refine wpl_append 22 _ _ rfl rfl ?_ ?_ ap2 ?_
                   · rfl
                   · rfl
                   simp only [Act.put, List.getElem_toArray, List.getElem_cons_zero, List.getElem_cons_succ, List.setIfInBounds_toArray, List.set_cons_zero, List.set_cons_succ]))
              go_roundg (x.length - (pos + wd))
              case measure => omega
              case rel => exact ⟨pos + wd, z2, a2, c2, by omega, by omega, rfl, by omega, hL2, B3⟩
            · skip
              go_wp2_with (first
                | (with_reducible refine wpl_bslice 22 _ _ rfl rfl ?_ bs1 ?_
                   · (go_simp <;> rfl)
                   simp only [Act.put, List.getElem_toArray, List.getElem_cons_zero, List.getElem_cons_succ, List.setIfInBounds_toArray, List.set_cons_zero, List.set_cons_succ])
                | (with_reducible refine wpl_append 22 _ _ rfl rfl ?_ ?_ ap1 ?_
                   · rfl
                   · rfl
                   simp only [Act.put, List.getElem_toArray, List.getElem_cons_zero, List.getElem_cons_succ, List.setIfInBounds_toArray, List.set_cons_zero, List.set_cons_succ])
                | (with_reducible refine wpl_bslice 22 _ _ rfl rfl ?_ bs2 ?_
                   · (go_simp <;> rfl)
                   simp only [Act.put, List.getElem_toArray, List.getElem_cons_zero, List.getElem_cons_succ, List.setIfInBounds_toArray, List.set_cons_zero, List.set_cons_succ])
                | (with_reducible refine wpl_append 22 _ _ rfl rfl ?_ ?_ ap2 ?_
                   · rfl
                   · rfl
                   simp only [Act.put, List.getElem_toArray, List.getElem_cons_zero, List.getElem_cons_succ, List.setIfInBounds_toArray, List.set_cons_zero, List.set_cons_succ]))
              go_roundg (x.length - (pos + wd))
              case measure => omega
              case rel => exact ⟨pos + wd, z2, a2, c2, by omega, by omega, rfl, by omega, hL2, B3⟩
          have g34 : ((c : Int) == 34) = false := nbz c 34 (by omega)
          have g92 : ((c : Int) == 92) = false := nbz c 92 (by omega)
          by_cases b1 : c < 32
          · have gl : decide ((c : Int) < 32) = true := decide_eq_true (by omega)
            have kk := B2.kept
            clear B2 HL hok
            go_wp2_with fail
            refine (known_ct (hT.kept kk)).mono ?_
            rintro e W9 ⟨rfl, k9⟩
            go_wp2_with fail
            go_ret
            exact ⟨rfl, (kk).trans k9⟩
          have gl : decide ((c : Int) < 32) = false := decide_eq_false (by omega)
          by_cases b2 : c = 127
          · have g127 : ((c : Int) == 127) = true := by simp [b2]
            have kk := B2.kept
            clear B2 HL hok
            go_wp2_with fail
            refine (known_ct (hT.kept kk)).mono ?_
            rintro e W9 ⟨rfl, k9⟩
            go_wp2_with fail
            go_ret
            exact ⟨rfl, (kk).trans k9⟩
          have g127 : ((c : Int) == 127) = false := nbz c 127 b2
          by_cases b3 : c = 65533
          · have gbad : ((c : Int) == 65533) = true := by simp [b3]
            have kk := B2.kept
            clear B2 HL hok
            go_wp2_with fail
            refine (known_ct (hT.kept kk)).mono ?_
            rintro e W9 ⟨rfl, k9⟩
            go_wp2_with fail
            go_ret
            exact ⟨rfl, (kk).trans k9⟩
          · have gbad : ((c : Int) == 65533) = false := nbz c 65533 b3
            obtain ⟨hL, hQ⟩ := HL.out (.inr (by omega))
            have hq : quoteR c = Lib.encodeRune (c : Int) := by unfold quoteR; rw [if_neg c10, if_neg c3]
            rw [hq] at hL hQ
            have cv := conv_rune c hok.1 hok.2 W2
            obtain ⟨a2, c2, z2, V2, hz2, ap, B3⟩ := B2.txt (Lib.encodeRune (c : Int)) (by omega) 22
            have hL2 : Hid (Lead z2 2 (x.take (pos + wd)) (ws.take k)) := by unfold Hid; rw [hz2]; exact hL
            have hzl2 : z2.length ≤ zs.length + 2 * wd := by rw [hz2, List.length_append]; omega
            clear hL hQ hz2 B2 HL hok hq
            go_wp2_with (first
              | (refine wpl_val rfl (exec_conv 21 9 _ rfl rfl cv) ?_)
              | (with_reducible refine wpl_append2 22 9 _ _ rfl rfl ?_ ?_ ap ?_
                 · rfl
                 · rfl
                 simp only [Act.put, List.getElem_toArray, List.getElem_cons_zero, List.getElem_cons_succ, List.setIfInBounds_toArray, List.set_cons_zero, List.set_cons_succ]))
            go_roundg (x.length - (pos + wd))
            case measure => omega
            case rel => exact ⟨pos + wd, z2, a2, c2, by omega, by omega, rfl, by omega, hL2, B3⟩
        · have hend := fun ty => Lib.run_next_end_at (P := Tryd.prog) wr J ⟨x.toArray⟩ pos ty hI (by omega)
          obtain rfl : pos = x.length := by omega
          have hl3 := hzlead.out
          rw [List.take_length] at hl3
          have hl4 := hl3.close
          have hB2 := hB.kept
          have bs1 : (Instr.buildSlice 22 1 #[(0, .int .u8 34)]).run Tryd.prog wr = .ok (.slice (some ⟨wr.heap.size, 0, none⟩) 1 1) (wr.alloc (.cells #[.int .u8 34] 5)) := bslice_one 34 wr
          have B2a := hB.alloc (.cells #[.int .u8 34] 5)
          have hg1 : (wr.alloc (.cells #[.int .u8 34] 5)).heap[wr.heap.size]? = some (.cells #[.int .u8 ((UInt8.toNat 34 : Nat) : Int)] 5 (0, 0)) := heap_last wr _
          obtain ⟨a3, c4, z3, V3, hz3, ap1, B3a⟩ := B2a.app (byt_one (b := 34) (c := 1) hg1) (by simp; omega) 22
          have hz3l : z3.length = zs.length + 1 := by rw [hz3]; simp
          have hl5 : Hid (Lead z3 (if k + 1 = 0 then 0 else 4) [] (ws.take (k + 1))) := by unfold Hid; rw [if_neg (by omega), htk.out, hz3]; exact hl4
          have hr3 := B3a.row
          have hk3 := B3a.kept
          clear hl3 hl4 hB hB2 B2a B3a hg1 hz3 hzlead hI
          go_wp2_with (first
            | (with_reducible refine wpl_bslice 22 _ _ rfl rfl ?_ bs1 ?_
               · (go_simp <;> rfl)
               simp only [Act.put, List.getElem_toArray, List.getElem_cons_zero, List.getElem_cons_succ, List.setIfInBounds_toArray, List.set_cons_zero, List.set_cons_succ])
            | (with_reducible refine wpl_append 22 _ _ rfl rfl ?_ ?_ ap1 ?_
               · rfl
               · rfl
               simp only [Act.put, List.getElem_toArray, List.getElem_cons_zero, List.getElem_cons_succ, List.setIfInBounds_toArray, List.set_cons_zero, List.set_cons_succ]))
          go_roundg (ws.length - (k + 1))
          case measure => omega
          case rel => exact ⟨k + 1, z3, a3, c4, by omega, by omega, by go_num, rfl, by omega, hl5, hr3, hk3⟩
    · obtain rfl : k = ws.length := by omega
      have hkz : decide ((ws.length : Int) < (ws.length : Int)) = false := by simp
      have hl3 := hlead.out
      rw [List.take_length, if_neg q0] at hl3
      have hlin := hl3.lines (fun e => q0 (by rw [e]; rfl)) (by omega)
      have l2 := lines_ct (ByC.own ho) (hT.kept hkr)
      rw [hlin] at l2
      have hyl2 : ¬ 20000 < ys.length := by omega
      clear hlin hl3 hlead ho
      go_wp2_with fail
      refine l2.mono ?_
      rintro e W5 ⟨k5, v5, rfl, hO5⟩
      obtain ⟨ma, mcap, hv5⟩ := hO5.slc
      subst hv5
      have kk5 := hkr.trans k5
      obtain ⟨g1, p1, s1, rfl, _, _, -, e1, e2, hw1⟩ := hO5.at (j := 0) rfl
      rw [Nat.zero_mul] at e1 e2
      have e1' : W5.cell? ⟨g1, 0, none⟩ = some (.int .i64 1) := e1
      have e2' : W5.cell? ⟨g1, 1, none⟩ = some (.slice p1 ws.length s1) := e2
      have wc := words_ct (StrsAt.own hw1) (h.kept kk5)
      have wc2 : Calls Tryd.prog 11 #[.slice p1 ws.length s1, .slice a1 ws.length c1] W5 fun e w' => e = .returned (.bool true) ∧ Drawn W5 w' := by
        rw [show (ws == ws) = true from by simp] at wc
        exact wc
      clear l2 e1 e2 hw1 hO5 wc
      go_wp2_with fail
      refine wc2.mono ?_
      rintro e W6 ⟨rfl, hd6⟩
      have kk6 := kk5.trans hd6.kept
      go_wp2_with fail
      refine (known_ct (hT.kept kk6)).mono ?_
      rintro e W9 ⟨rfl, k9⟩
      go_wp2_with fail
      go_ret
      exact ⟨rfl, (kk6).trans k9⟩
end Go.Proofs.YtlheboafhgmbpaaDoor
