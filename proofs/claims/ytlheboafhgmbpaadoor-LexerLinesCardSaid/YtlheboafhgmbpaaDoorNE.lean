/- LexerLines: the document's line, walked. -/
import Derived.Test.YtlheboafhgmbpaaDoorNC
import Derived.Test.YtlheboafhgmbpaaDoorND
import Derived.Test.YtlheboafhgmbpaaDoorLU
import Derived.Test.YtlheboafhgmbpaaDoorLK
namespace Go.Proofs.YtlheboafhgmbpaaDoor
open Go.RowKit
set_option maxRecDepth 100000
set_option linter.unusedSimpArgs false
set_option linter.unusedVariables false

theorem blank_no {b : UInt8} (h1 : ¬ b = 32) (h2 : ¬ b = 9) : blankB b = false := by unfold blankB; simp [h1, h2]
theorem endNo {b : UInt8} (h1 : ¬ b = 32) (h2 : ¬ b = 9) (h3 : ¬ b = 35) : endB b = false := by unfold endB; rw [blank_no h1 h2]; simpa using h3
theorem end_no {b : UInt8} (h1 : ¬ b = 32) (h2 : ¬ b = 9) (h3 : ¬ b = 35) : endB b = false := by unfold endB; rw [blank_no h1 h2]; simpa using h3
set_option maxRecDepth 100000 in
set_option maxHeartbeats 16000000 in
theorem rline_ct {w : World} {v : Value} {l : List UInt8} (h : ByC w v l) (hl : l.length ≤ 100000) :
    Calls Tryd.prog 15 #[v] w (LineOut w (lineV l)) := by
  obtain ⟨a1, c1, hv1⟩ := h.1.slc
  subst hv1
  obtain ⟨RES, hRES⟩ : ∃ R, lineV l = R := ⟨_, rfl⟩
  rw [hRES]
  have uc := utf_ct h (by omega)
  by_cases hu : Lib.validD l = true
  case neg =>
    have hu' : Lib.validD l = false := by simpa using hu
    rw [hu'] at uc
    have hF : Hid (RES = none) := by unfold Hid; rw [← hRES]; exact lineV_no hu'
    clear hRES hu hu'
    go_enter Tryd.func15, Tryd.ntmps15
    go_wp2_with fail
    refine uc.mono ?_
    rintro e W1 ⟨rfl, k1⟩
    go_wp2_with fail
    go_ret2
    exact LineOut.no hF.out k1
  rw [hu] at uc
  have hL : Hid (RES = lineB l) := by unfold Hid; rw [← hRES]; unfold lineV; rw [if_pos hu]
  clear hRES hu
  go_enter Tryd.func15, Tryd.ntmps15
  go_wp2_with fail
  refine uc.mono ?_
  rintro e W1 ⟨rfl, k1⟩
  clear uc
  go_wp2_with fail
  go_loopg [4, 5] l.length (fun gk s4 s5 wr => ∃ (i : Nat) (out : List (List UInt8)) (a : Option Addr) (c : Nat), gk = l.length - i ∧ i ≤ l.length ∧ s5 = .int .i64 i ∧ s4 = .slice a out.length c ∧ out.length ≤ i ∧ Hid (RES = wordsR out (lineB (l.drop i))) ∧ wr.ownsRow w.heap.size 9 1 (.slice a out.length c) out.length (sv out) ∧ Kept (fun _ => False) w wr)
  case atStart => exact ⟨0, [], none, 0, by omega, by omega, rfl, rfl, by simp, by unfold Hid; rw [wordsR_nil]; exact hL.out, World.ownsRow_nil _ _ _ _, k1⟩
  case round =>
    obtain ⟨i, out, oa, oc, rfl, hi, rfl, rfl, hol, hres, ho, hk⟩ := hrel
    by_cases hlt : i < l.length
    · have gi : decide ((i : Int) < (l.length : Int)) = true := decide_eq_true (by omega)
      have hb := h.kept hk
      obtain ⟨bb, oo, hva, hbl, e0⟩ := hb.byte hlt
      subst hva
      have hqd := hres.out
      rw [drop_byte hlt, lineB_cons] at hqd
      by_cases c32 : l.getD i 0 = 32
      · rw [c32] at e0 hqd
        have e1 : wr.cell? ⟨bb, oo + i, none⟩ = some (.int .u8 32) := e0
        have hQ : Hid (RES = wordsR out (lineB (l.drop (i + 1)))) := hqd
        clear hqd e0 hres
        go_wp2_with fail
        go_roundg (l.length - (i + 1))
        case measure => omega
        case rel => exact ⟨i + 1, out, oa, oc, by omega, by omega, by go_num, rfl, by omega, hQ, ho, hk⟩
      have g32 : (((l.getD i 0).toNat : Int) == 32) = false := nb8 c32
      by_cases c9 : l.getD i 0 = 9
      · rw [c9] at e0 hqd
        have e1 : wr.cell? ⟨bb, oo + i, none⟩ = some (.int .u8 9) := e0
        have hQ : Hid (RES = wordsR out (lineB (l.drop (i + 1)))) := hqd
        clear hqd e0 hres g32
        go_wp2_with fail
        go_roundg (l.length - (i + 1))
        case measure => omega
        case rel => exact ⟨i + 1, out, oa, oc, by omega, by omega, by go_num, rfl, by omega, hQ, ho, hk⟩
      have g9 : (((l.getD i 0).toNat : Int) == 9) = false := nb8 c9
      rw [if_neg (by rw [blank_no c32 c9]; simp)] at hqd
      by_cases c35 : l.getD i 0 = 35
      · rw [c35] at e0 hqd
        have e1 : wr.cell? ⟨bb, oo + i, none⟩ = some (.int .u8 35) := e0
        have hQ : Hid (RES = some out) := by
          unfold Hid; rw [hqd]; simp [wordsR]
        clear hqd e0 hres g32 g9
        go_wp2_with fail
        go_ret2
        exact LineOut.yes hQ.out hk (own_base ho (Nat.zero_le _))
      have g35 : (((l.getD i 0).toNat : Int) == 35) = false := nb8 c35
      rw [if_neg (by simpa using c35)] at hqd
      by_cases c34 : l.getD i 0 = 34
      · rw [c34] at e0 hqd
        have e1 : wr.cell? ⟨bb, oo + i, none⟩ = some (.int .u8 34) := e0
        rw [if_pos (by rfl)] at hqd
        have qc := quoted_ct hb (by omega) hlt
        have HQ := Lib.hid hqd
        clear hqd e0 hres g32 g9 g35
        generalize hQB : quotedB (l.drop (i + 1)) = QB at qc HQ
        clear hQB
        go_wp2_with fail
        refine qc.mono ?_
        rintro e W2 ⟨hq, rfl⟩
        cases QB with
        | none =>
          obtain ⟨s, n, rfl⟩ := hq
          have hF : Hid (RES = none) := HQ.out
          clear qc HQ
          go_wp2_with fail
          go_ret2
          exact LineOut.no hF.out hk
        | some p =>
          obtain ⟨wd, q⟩ := p
          obtain ⟨j, hj, hij, hqj, rfl⟩ := hq
          dsimp only at hqj
          have hfin : Hid (RES = wordsR (out ++ [wd]) (lineB (l.drop j))) := by
            unfold Hid; rw [HQ.out]; dsimp only; rw [hqj, wordsR_more]
          clear qc HQ hqj
          obtain ⟨a2, c2, z2, W2, hz2, ap, ho2, hk2⟩ := out_app ho hk wd (by omega) 30
          have bs := bslice_str ⟨(wd).toArray⟩ W2
          have hz2l : z2.length ≤ out.length + 1 := by rw [hz2]; simp
          have hres2 : Hid (RES = wordsR z2 (lineB (l.drop j))) := by unfold Hid; rw [hz2]; exact (hfin.out)
          clear ho hz2
          go_wp2_with (first
            | (with_reducible refine wpl_bslice 30 _ _ rfl rfl ?_ bs ?_
               · (go_simp <;> rfl)
               simp only [Act.put, List.getElem_toArray, List.getElem_cons_zero, List.getElem_cons_succ, List.setIfInBounds_toArray, List.set_cons_zero, List.set_cons_succ])
            | (with_reducible refine wpl_append 30 _ _ rfl rfl ?_ ?_ ap ?_
               · rfl
               · rfl
               simp only [Act.put, List.getElem_toArray, List.getElem_cons_zero, List.getElem_cons_succ, List.setIfInBounds_toArray, List.set_cons_zero, List.set_cons_succ]))
          go_roundg (l.length - j)
          case measure => omega
          case rel => exact ⟨j, z2, a2, c2, by omega, by omega, rfl, rfl, by omega, hres2, ho2, hk2⟩
      have g34 : (((l.getD i 0).toNat : Int) == 34) = false := nb8 c34
      rw [if_neg (by simpa using c34), ← drop_byte hlt] at hqd
      have HQ := Lib.hid hqd
      have hq0 := endNo c32 c9 c35
      generalize hPB : plainB (l.drop i) = PB at HQ
      have HP := Lib.hid hPB
      have e1 := e0
      have hb0 : Hid (¬ l.getD i 0 = 32 ∧ ¬ l.getD i 0 = 9 ∧ ¬ l.getD i 0 = 35 ∧ ¬ l.getD i 0 = 34) := ⟨c32, c9, c35, c34⟩
      obtain ⟨b0, hbe⟩ : ∃ b0, l.getD i 0 = b0 := ⟨_, rfl⟩
      rw [hbe] at g32 g9 g35 g34 e1
      clear hqd hres hPB e0 hq0 c32 c9 c35 c34 hbe
      go_wp2_with fail
      obtain ⟨V, hV⟩ : ∃ V, wr = V := ⟨_, rfl⟩
      rw [hV] at hb ho hk e1 hbl ⊢
      clear hV
      go_loopg [5, 9] l.length (fun gk s5 s9 wx => ∃ (j : Nat) (wd : List UInt8), gk = l.length + i - j ∧ i ≤ j ∧ j ≤ l.length ∧ s5 = .int .i64 j ∧ s9 = .string ⟨wd.toArray⟩ ∧ wd.length ≤ j ∧ Hid (PB = wordQ wd (plainB (l.drop j))) ∧ wx = V)
      case atStart => exact ⟨i, [], by omega, by omega, by omega, rfl, rfl, by simp, by unfold Hid; rw [wordQ_nil, HP.out], rfl⟩
      case round =>
        obtain ⟨j, wd, rfl, hij, hj, rfl, rfl, hwl, hpj, rfl⟩ := hrel
        by_cases hjl : j < l.length
        · have gj : decide ((j : Int) < (l.length : Int)) = true := decide_eq_true (by omega)
          obtain ⟨b2, o2, hva, hb2, e2⟩ := hb.byte hjl
          injection hva with hva
          injection hva with hva1 hva2
          subst hva1; subst hva2
          have hpd := hpj.out
          rw [drop_byte hjl, plainB_cons] at hpd
          by_cases d32 : l.getD j 0 = 32
          · have hji : i < j := by
              rcases Nat.lt_or_ge i j with q | q
              · exact q
              · obtain rfl : i = j := by omega
                obtain ⟨z1, z2, z3, z4⟩ := hb0.out
                first | exact absurd d32 z1 | exact absurd d32 z2 | exact absurd d32 z3
            rw [d32] at e2
            have e3 : wr.cell? ⟨bb, oo + j, none⟩ = some (.int .u8 32) := e2
            have hPB : PB = some (wd, l.drop j) := by
              rw [hpd, if_pos (by rw [d32]; rfl), ← drop_byte hjl]; simp [wordQ]
            have hfin : Hid (RES = wordsR (out ++ [wd]) (lineB (l.drop j))) := by
              unfold Hid; rw [HQ.out, hPB]; dsimp only; rw [wordsR_more]
            clear hpd e2 hPB HQ HP hpj e1 g32 g9 g35 g34
            obtain ⟨a2, c2, z2, W2, hz2, ap, ho2, hk2⟩ := out_app ho hk wd (by omega) 30
            have bs := bslice_str ⟨(wd).toArray⟩ wr
            have hz2l : z2.length ≤ out.length + 1 := by rw [hz2]; simp
            have hres2 : Hid (RES = wordsR z2 (lineB (l.drop j))) := by unfold Hid; rw [hz2]; exact (hfin.out)
            clear ho hz2
            go_wp2_with (first
              | (with_reducible refine wpl_bslice 30 _ _ rfl rfl ?_ bs ?_
                 · (go_simp <;> rfl)
                 simp only [Act.put, List.getElem_toArray, List.getElem_cons_zero, List.getElem_cons_succ, List.setIfInBounds_toArray, List.set_cons_zero, List.set_cons_succ])
              | (with_reducible refine wpl_append 30 _ _ rfl rfl ?_ ?_ ap ?_
                 · rfl
                 · rfl
                 simp only [Act.put, List.getElem_toArray, List.getElem_cons_zero, List.getElem_cons_succ, List.setIfInBounds_toArray, List.set_cons_zero, List.set_cons_succ]))
            go_roundg (l.length - j)
            case measure => omega
            case rel => exact ⟨j, z2, a2, c2, by omega, by omega, rfl, rfl, by omega, hres2, ho2, hk2⟩
          by_cases d9 : l.getD j 0 = 9
          · have hji : i < j := by
              rcases Nat.lt_or_ge i j with q | q
              · exact q
              · obtain rfl : i = j := by omega
                obtain ⟨z1, z2, z3, z4⟩ := hb0.out
                first | exact absurd d9 z1 | exact absurd d9 z2 | exact absurd d9 z3
            rw [d9] at e2
            have e3 : wr.cell? ⟨bb, oo + j, none⟩ = some (.int .u8 9) := e2
            have hPB : PB = some (wd, l.drop j) := by
              rw [hpd, if_pos (by rw [d9]; rfl), ← drop_byte hjl]; simp [wordQ]
            have hfin : Hid (RES = wordsR (out ++ [wd]) (lineB (l.drop j))) := by
              unfold Hid; rw [HQ.out, hPB]; dsimp only; rw [wordsR_more]
            clear hpd e2 hPB HQ HP hpj e1 g32 g9 g35 g34
            obtain ⟨a2, c2, z2, W2, hz2, ap, ho2, hk2⟩ := out_app ho hk wd (by omega) 30
            have bs := bslice_str ⟨(wd).toArray⟩ wr
            have hz2l : z2.length ≤ out.length + 1 := by rw [hz2]; simp
            have hres2 : Hid (RES = wordsR z2 (lineB (l.drop j))) := by unfold Hid; rw [hz2]; exact (hfin.out)
            clear ho hz2
            go_wp2_with (first
              | (with_reducible refine wpl_bslice 30 _ _ rfl rfl ?_ bs ?_
                 · (go_simp <;> rfl)
                 simp only [Act.put, List.getElem_toArray, List.getElem_cons_zero, List.getElem_cons_succ, List.setIfInBounds_toArray, List.set_cons_zero, List.set_cons_succ])
              | (with_reducible refine wpl_append 30 _ _ rfl rfl ?_ ?_ ap ?_
                 · rfl
                 · rfl
                 simp only [Act.put, List.getElem_toArray, List.getElem_cons_zero, List.getElem_cons_succ, List.setIfInBounds_toArray, List.set_cons_zero, List.set_cons_succ]))
            go_roundg (l.length - j)
            case measure => omega
            case rel => exact ⟨j, z2, a2, c2, by omega, by omega, rfl, rfl, by omega, hres2, ho2, hk2⟩
          by_cases d35 : l.getD j 0 = 35
          · have hji : i < j := by
              rcases Nat.lt_or_ge i j with q | q
              · exact q
              · obtain rfl : i = j := by omega
                obtain ⟨z1, z2, z3, z4⟩ := hb0.out
                first | exact absurd d35 z1 | exact absurd d35 z2 | exact absurd d35 z3
            rw [d35] at e2
            have e3 : wr.cell? ⟨bb, oo + j, none⟩ = some (.int .u8 35) := e2
            have hPB : PB = some (wd, l.drop j) := by
              rw [hpd, if_pos (by rw [d35]; rfl), ← drop_byte hjl]; simp [wordQ]
            have hfin : Hid (RES = wordsR (out ++ [wd]) (lineB (l.drop j))) := by
              unfold Hid; rw [HQ.out, hPB]; dsimp only; rw [wordsR_more]
            clear hpd e2 hPB HQ HP hpj e1 g32 g9 g35 g34
            obtain ⟨a2, c2, z2, W2, hz2, ap, ho2, hk2⟩ := out_app ho hk wd (by omega) 30
            have bs := bslice_str ⟨(wd).toArray⟩ wr
            have hz2l : z2.length ≤ out.length + 1 := by rw [hz2]; simp
            have hres2 : Hid (RES = wordsR z2 (lineB (l.drop j))) := by unfold Hid; rw [hz2]; exact (hfin.out)
            clear ho hz2
            go_wp2_with (first
              | (with_reducible refine wpl_bslice 30 _ _ rfl rfl ?_ bs ?_
                 · (go_simp <;> rfl)
                 simp only [Act.put, List.getElem_toArray, List.getElem_cons_zero, List.getElem_cons_succ, List.setIfInBounds_toArray, List.set_cons_zero, List.set_cons_succ])
              | (with_reducible refine wpl_append 30 _ _ rfl rfl ?_ ?_ ap ?_
                 · rfl
                 · rfl
                 simp only [Act.put, List.getElem_toArray, List.getElem_cons_zero, List.getElem_cons_succ, List.setIfInBounds_toArray, List.set_cons_zero, List.set_cons_succ]))
            go_roundg (l.length - j)
            case measure => omega
            case rel => exact ⟨j, z2, a2, c2, by omega, by omega, rfl, rfl, by omega, hres2, ho2, hk2⟩
          have k32 : (((l.getD j 0).toNat : Int) != 32) = true := by rw [bne]; rw [show (((l.getD j 0).toNat : Int) == 32) = false from nb8 d32]; rfl
          have k9 : (((l.getD j 0).toNat : Int) != 9) = true := by rw [bne]; rw [show (((l.getD j 0).toNat : Int) == 9) = false from nb8 d9]; rfl
          have k35 : (((l.getD j 0).toNat : Int) != 35) = true := by rw [bne]; rw [show (((l.getD j 0).toNat : Int) == 35) = false from nb8 d35]; rfl
          rw [if_neg (by rw [endNo d32 d9 d35]; simp)] at hpd
          by_cases d34 : l.getD j 0 = 34
          · rw [d34] at e2
            have e3 : wr.cell? ⟨bb, oo + j, none⟩ = some (.int .u8 34) := e2
            have hF : Hid (RES = none) := by
              unfold Hid; rw [HQ.out, hpd, if_pos (by rw [d34]; rfl)]; rfl
            clear hpd e2 HQ HP hpj e1 g32 g9 g35 g34 k32 k9 k35
            go_wp2_with fail
            go_ret2
            exact LineOut.no hF.out hk
          have k34 : (((l.getD j 0).toNat : Int) != 34) = true := by rw [bne]; rw [show (((l.getD j 0).toNat : Int) == 34) = false from nb8 d34]; rfl
          rw [if_neg (by simpa using d34)] at hpd
          have cc := ctrl_ct (l.getD j 0) wr
          by_cases hct : ctrlB (l.getD j 0) = true
          · rw [hct] at cc
            rw [if_pos hct] at hpd
            have hF : Hid (RES = none) := by
              unfold Hid; rw [HQ.out, hpd]; rfl
            clear hpd HQ HP hpj e1 g32 g9 g35 g34 hct d32 d9 d35 d34
            generalize l.getD j 0 = d at *
            go_wp2_with fail
            refine cc.mono ?_
            rintro e W2 ⟨rfl, rfl⟩
            go_wp2_with fail
            go_ret2
            exact LineOut.no hF.out hk
          · have hct' : ctrlB (l.getD j 0) = false := by simpa using hct
            rw [hct'] at cc
            rw [if_neg hct, wordQ_more] at hpd
            have hQ : Hid (PB = wordQ (wd ++ [l.getD j 0]) (plainB (l.drop (j + 1)))) := hpd
            obtain ⟨pa, pc, hsl, hpb⟩ := hb.mid (i := j) (j := j + 1) (by omega) (by omega)
            rw [show j + 1 - j = 1 by omega] at hsl hpb
            have hsl : ∀ w', (Instr.sliceAt 22 (.slice (some ⟨bb, oo, none⟩) l.length c1) (some (.int .i64 (j : Int))) (some (.int .i64 ((j : Int) + 1))) none).run Tryd.prog w' = .ok (.slice pa 1 pc) w' := hsl
            rw [drop_byte hjl, List.take_succ_cons, List.take_zero] at hpb
            have hcv := conv_str hpb.1
            have hba := bapp wd [l.getD j 0]
            clear hpd hpj hpb hct hct' e1 g32 g9 g35 g34 d32 d9 d35 d34
            generalize l.getD j 0 = d at *
            go_wp2_with fail
            refine cc.mono ?_
            rintro e W2 ⟨rfl, rfl⟩
            go_wp2_with (first
              | (refine wpl_val rfl (exec_slice_lh 22 _ _ _ rfl rfl rfl rfl (hsl _)) ?_)
              | (refine wpl_val rfl (exec_conv 22 9 _ rfl rfl hcv) ?_))
            go_roundg (l.length + i - (j + 1))
            case measure => omega
            case rel => exact ⟨j + 1, wd ++ [d], by omega, by omega, by omega, by go_num, rfl, by simp; omega, hQ, rfl⟩
        · obtain rfl : j = l.length := by omega
          have gj : decide ((l.length : Int) < (l.length : Int)) = false := by simp
          have hPB : PB = some (wd, l.drop l.length) := by
            rw [hpj.out, List.drop_length, plainB_nil]; simp [wordQ]
          have hfin : Hid (RES = wordsR (out ++ [wd]) (lineB (l.drop l.length))) := by
            unfold Hid; rw [HQ.out, hPB]; dsimp only; rw [wordsR_more]
          have hji : i < l.length := hlt
          clear hPB HQ HP hpj e1 g32 g9 g35 g34
          obtain ⟨a2, c2, z2, W2, hz2, ap, ho2, hk2⟩ := out_app ho hk wd (by omega) 30
          have bs := bslice_str ⟨wd.toArray⟩ wr
          have hz2l : z2.length ≤ out.length + 1 := by rw [hz2]; simp
          have hres2 : Hid (RES = wordsR z2 (lineB (l.drop l.length))) := by unfold Hid; rw [hz2]; exact hfin.out
          clear ho hz2
          go_wp2_with (first
            | (with_reducible refine wpl_bslice 30 _ _ rfl rfl ?_ bs ?_
               · (go_simp <;> rfl)
               simp only [Act.put, List.getElem_toArray, List.getElem_cons_zero, List.getElem_cons_succ, List.setIfInBounds_toArray, List.set_cons_zero, List.set_cons_succ])
            | (with_reducible refine wpl_append 30 _ _ rfl rfl ?_ ?_ ap ?_
               · rfl
               · rfl
               simp only [Act.put, List.getElem_toArray, List.getElem_cons_zero, List.getElem_cons_succ, List.setIfInBounds_toArray, List.set_cons_zero, List.set_cons_succ]))
          go_roundg (l.length - l.length)
          case measure => omega
          case rel => exact ⟨l.length, z2, a2, c2, by omega, by omega, rfl, rfl, by omega, hres2, ho2, hk2⟩
    · obtain rfl : i = l.length := by omega
      have gi : decide ((l.length : Int) < (l.length : Int)) = false := by simp
      have hQ : Hid (RES = some out) := by unfold Hid; rw [hres.out, List.drop_length, lineB_nil]; simp [wordsR]
      clear hres
      go_wp2_with fail
      go_ret2
      exact LineOut.yes hQ.out hk (own_base ho (Nat.zero_le _))
end Go.Proofs.YtlheboafhgmbpaaDoor
