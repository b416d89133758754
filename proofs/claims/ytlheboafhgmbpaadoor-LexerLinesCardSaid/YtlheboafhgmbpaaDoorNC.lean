/- LexerLines: the document's quoted, walked. -/
import Derived.Test.YtlheboafhgmbpaaDoorNB
namespace Go.Proofs.YtlheboafhgmbpaaDoor
open Go.RowKit
set_option maxRecDepth 100000
set_option linter.unusedSimpArgs false
set_option linter.unusedVariables false

theorem nb8 {b c : UInt8} (h : ¬ b = c) : ((b.toNat : Int) == (c.toNat : Int)) = false := by
  simp only [beq_eq_false_iff_ne, ne_eq]
  intro e
  exact h (UInt8.toNat_inj.1 (by omega))
set_option maxRecDepth 100000 in
set_option maxHeartbeats 16000000 in
theorem quoted_ct {w : World} {a1 : Option Addr} {c1 : Nat} {l : List UInt8} (h : ByC w (.slice a1 l.length c1) l) (hl : l.length ≤ 1000000) {k : Nat} (hk : k < l.length) :
    Calls Tryd.prog 21 #[.slice a1 l.length c1, .int .i64 (k : Int)] w fun e w' => QOut l k (quotedB (l.drop (k + 1))) e ∧ w' = w := by
  obtain ⟨RES, hRES⟩ : ∃ R, quotedB (l.drop (k + 1)) = R := ⟨_, rfl⟩
  rw [hRES]
  have HR := Lib.hid hRES
  clear hRES
  go_enter Tryd.func21, Tryd.ntmps21
  go_wp2_with fail
  go_loopg [7, 8] l.length (fun gk s7 s8 wr => ∃ (i : Nat) (wd : List UInt8), gk = l.length + k + 1 - i ∧ k < i ∧ i ≤ l.length ∧ s7 = .string ⟨wd.toArray⟩ ∧ s8 = .int .i64 i ∧ wd.length ≤ i ∧ Hid (RES = wordQ wd (quotedB (l.drop i))) ∧ wr = w)
  case atStart => exact ⟨k + 1, [], by omega, by omega, by omega, rfl, by go_num, by simp, by unfold Hid; rw [wordQ_nil, HR.out], rfl⟩
  case round =>
    obtain ⟨i, wd, rfl, hki, hi, rfl, rfl, hwl, hq, rfl⟩ := hrel
    by_cases hlt : i < l.length
    · have gi : decide ((i : Int) < (l.length : Int)) = true := decide_eq_true (by omega)
      obtain ⟨bb, oo, hva, hbl, e0⟩ := h.byte hlt
      subst hva
      have hqd := hq.out
      rw [drop_byte hlt, quotedB_cons] at hqd
      by_cases c34 : l.getD i 0 = 34
      · rw [c34] at e0
        have e1 : wr.cell? ⟨bb, oo + i, none⟩ = some (.int .u8 34) := e0
        rw [c34, if_pos (by rfl)] at hqd
        clear e0
        by_cases hend : i + 1 = l.length
        · have ge : ((i : Int) + 1 == (l.length : Int)) = true := by simp; omega
          have hF : Hid (RES = some (wd, l.drop (i + 1))) := by
            unfold Hid
            rw [hqd, List.drop_eq_nil_of_le (by omega)]
            simp [wordQ, afterB]
          clear hqd hq
          go_wp2_with fail
          go_ret3
          exact ⟨QOut.yes (j := i + 1) hF.out (by omega) (by omega), rfl⟩
        · have ge : ((i : Int) + 1 == (l.length : Int)) = false := by simp; omega
          have hlt2 : i + 1 < l.length := by omega
          obtain ⟨b2, o2, hva, hb2, e2⟩ := h.byte hlt2
          injection hva with hva
          injection hva with hva1 hva2
          subst hva1; subst hva2
          have hqd2 := hqd
          rw [drop_byte hlt2] at hqd2
          have b32 : (l.getD (i + 1) 0 == 32) = decide ((l.getD (i + 1) 0).toNat = 32) := byte_eq _ 32 (by omega)
          have b9 : (l.getD (i + 1) 0 == 9) = decide ((l.getD (i + 1) 0).toNat = 9) := byte_eq _ 9 (by omega)
          have b35 : (l.getD (i + 1) 0 == 35) = decide ((l.getD (i + 1) 0).toNat = 35) := byte_eq _ 35 (by omega)
          have haf : afterB (l.getD (i + 1) 0 :: l.drop (i + 1 + 1)) = (decide ((l.getD (i + 1) 0).toNat = 32) || decide ((l.getD (i + 1) 0).toNat = 9) || decide ((l.getD (i + 1) 0).toNat = 35)) := by
            show endB (l.getD (i + 1) 0) = _
            unfold endB blankB; rw [b32, b9, b35]
          rw [haf] at hqd2
          rw [← drop_byte hlt2] at hqd2
          generalize (l.getD (i + 1) 0).toNat = d at e2 hqd2
          clear b32 b9 b35 haf hqd hq
          by_cases d32 : d = 32
          · have g1 : ((d : Int) == 32) = true := by simp [d32]
            have hF : Hid (RES = some (wd, l.drop (i + 1))) := by unfold Hid; rw [hqd2]; simp [wordQ, d32]
            clear hqd2
            go_wp2_with fail
            go_ret3
            exact ⟨QOut.yes (j := i + 1) hF.out (by omega) (by omega), rfl⟩
          have g1 : ((d : Int) == 32) = false := by simp; omega
          by_cases d9 : d = 9
          · have g2 : ((d : Int) == 9) = true := by simp [d9]
            have hF : Hid (RES = some (wd, l.drop (i + 1))) := by unfold Hid; rw [hqd2]; simp [wordQ, d9]
            clear hqd2
            go_wp2_with fail
            go_ret3
            exact ⟨QOut.yes (j := i + 1) hF.out (by omega) (by omega), rfl⟩
          have g2 : ((d : Int) == 9) = false := by simp; omega
          by_cases d35 : d = 35
          · have g3 : ((d : Int) == 35) = true := by simp [d35]
            have hF : Hid (RES = some (wd, l.drop (i + 1))) := by unfold Hid; rw [hqd2]; simp [wordQ, d35]
            clear hqd2
            go_wp2_with fail
            go_ret3
            exact ⟨QOut.yes (j := i + 1) hF.out (by omega) (by omega), rfl⟩
          · have g3 : ((d : Int) == 35) = false := by simp; omega
            have hF : Hid (RES = none) := by unfold Hid; rw [hqd2]; simp [wordQ, d32, d9, d35]
            clear hqd2
            go_wp2_with fail
            go_ret3
            exact ⟨QOut.no hF.out, rfl⟩
      have g34 : (((l.getD i 0).toNat : Int) == 34) = false := nb8 c34
      rw [if_neg (by simpa using c34)] at hqd
      by_cases c92 : l.getD i 0 = 92
      · rw [c92] at e0 g34
        have e1 : wr.cell? ⟨bb, oo + i, none⟩ = some (.int .u8 92) := e0
        rw [c92, if_pos (by rfl)] at hqd
        clear e0 g34
        by_cases hend : i + 1 = l.length
        · have ge : ((i : Int) + 1 == (l.length : Int)) = true := by simp; omega
          have hF : Hid (RES = none) := by
            unfold Hid
            rw [hqd, List.drop_eq_nil_of_le (by omega)]
            rfl
          clear hqd hq
          go_wp2_with fail
          go_ret3
          exact ⟨QOut.no hF.out, rfl⟩
        · have ge : ((i : Int) + 1 == (l.length : Int)) = false := by simp; omega
          have hlt2 : i + 1 < l.length := by omega
          obtain ⟨b2, o2, hva, hb2, e2⟩ := h.byte hlt2
          injection hva with hva
          injection hva with hva1 hva2
          subst hva1; subst hva2
          rw [drop_byte hlt2] at hqd
          dsimp only at hqd
          by_cases d110 : l.getD (i + 1) 0 = 110
          · rw [d110] at e2 hqd
            have e3 : wr.cell? ⟨bb, oo + (i + 1), none⟩ = some (.int .u8 110) := e2
            rw [if_pos (by rfl), wordQ_more] at hqd
            have hQ : Hid (RES = wordQ (wd ++ [10]) (quotedB (l.drop (i + 1 + 1)))) := hqd
            have hba : ((⟨wd.toArray⟩ : ByteArray) ++ (⟨#[10]⟩ : ByteArray)) = ⟨(wd ++ [10]).toArray⟩ := bapp wd [10]
            clear hqd hq e2
            go_wp2_with fail
            go_roundg (l.length + k + 1 - (i + 1 + 1))
            case measure => omega
            case rel => exact ⟨i + 1 + 1, wd ++ [10], by omega, by omega, by omega, rfl, by go_num, by simp; omega, hQ, rfl⟩
          have g110 : (((l.getD (i + 1) 0).toNat : Int) == 110) = false := nb8 d110
          rw [if_neg (by simpa using d110)] at hqd
          by_cases d3 : l.getD (i + 1) 0 = 34 ∨ l.getD (i + 1) 0 = 92
          · rw [if_pos (by simpa using d3), wordQ_more] at hqd
            have hQ : Hid (RES = wordQ (wd ++ [l.getD (i + 1) 0]) (quotedB (l.drop (i + 1 + 1)))) := hqd
            have g3 : (((l.getD (i + 1) 0).toNat : Int) == 34) = true ∨ ((((l.getD (i + 1) 0).toNat : Int) == 34) = false ∧ (((l.getD (i + 1) 0).toNat : Int) == 92) = true) := by
              rcases d3 with e | e <;> rw [e]
              · exact .inl rfl
              · exact .inr ⟨rfl, rfl⟩
            obtain ⟨pa, pc, hsl, hpb⟩ := h.mid (i := i + 1) (j := i + 1 + 1) (by omega) (by omega)
            rw [show i + 1 + 1 - (i + 1) = 1 by omega] at hsl hpb
            have hsl : ∀ w', (Instr.sliceAt 22 (.slice (some ⟨bb, oo, none⟩) l.length c1) (some (.int .i64 ((i : Int) + 1))) (some (.int .i64 ((i : Int) + 1 + 1))) none).run Tryd.prog w' = .ok (.slice pa 1 pc) w' := hsl
            rw [drop_byte hlt2, List.take_succ_cons, List.take_zero] at hpb
            have hcv := conv_str hpb.1
            have hba := bapp wd [l.getD (i + 1) 0]
            clear hqd hq hpb d3 d110
            generalize l.getD (i + 1) 0 = d at *
            generalize d.toNat = dn at *
            rcases g3 with g3 | ⟨g3, g4⟩
            · skip
              go_wp2_with (first
                | (refine wpl_val rfl (exec_slice_lh 22 _ _ _ rfl rfl rfl rfl (hsl _)) ?_)
                | (refine wpl_val rfl (exec_conv 22 9 _ rfl rfl hcv) ?_))
              go_roundg (l.length + k + 1 - (i + 1 + 1))
              case measure => omega
              case rel => exact ⟨i + 1 + 1, wd ++ [d], by omega, by omega, by omega, rfl, by go_num, by simp; omega, hQ, rfl⟩
            · skip
              go_wp2_with (first
                | (refine wpl_val rfl (exec_slice_lh 22 _ _ _ rfl rfl rfl rfl (hsl _)) ?_)
                | (refine wpl_val rfl (exec_conv 22 9 _ rfl rfl hcv) ?_))
              go_roundg (l.length + k + 1 - (i + 1 + 1))
              case measure => omega
              case rel => exact ⟨i + 1 + 1, wd ++ [d], by omega, by omega, by omega, rfl, by go_num, by simp; omega, hQ, rfl⟩
          · have hn := not_or.1 d3
            have g3 : (((l.getD (i + 1) 0).toNat : Int) == 34) = false := nb8 hn.1
            have g4 : (((l.getD (i + 1) 0).toNat : Int) == 92) = false := nb8 hn.2
            have hF : Hid (RES = none) := by
              unfold Hid
              rw [hqd, if_neg (by simpa using d3)]
              rfl
            clear hqd hq hn d3
            generalize (l.getD (i + 1) 0).toNat = dn at *
            go_wp2_with fail
            go_ret3
            exact ⟨QOut.no hF.out, rfl⟩
      have g92 : (((l.getD i 0).toNat : Int) == 92) = false := nb8 c92
      rw [if_neg (by simpa using c92)] at hqd
      have cc := ctrl_ct (l.getD i 0) wr
      by_cases hct : ctrlB (l.getD i 0) = true
      · rw [hct] at cc
        rw [if_pos hct] at hqd
        have hF : Hid (RES = none) := hqd
        clear hqd hq
        generalize l.getD i 0 = d at *
        go_wp2_with fail
        refine cc.mono ?_
        rintro e W2 ⟨rfl, rfl⟩
        go_wp2_with fail
        go_ret3
        exact ⟨QOut.no hF.out, rfl⟩
      · have hct' : ctrlB (l.getD i 0) = false := by simpa using hct
        rw [hct'] at cc
        rw [if_neg hct, wordQ_more] at hqd
        have hQ : Hid (RES = wordQ (wd ++ [l.getD i 0]) (quotedB (l.drop (i + 1)))) := hqd
        obtain ⟨pa, pc, hsl, hpb⟩ := h.mid (i := i) (j := i + 1) (by omega) (by omega)
        rw [show i + 1 - i = 1 by omega] at hsl hpb
        have hsl : ∀ w', (Instr.sliceAt 22 (.slice (some ⟨bb, oo, none⟩) l.length c1) (some (.int .i64 (i : Int))) (some (.int .i64 ((i : Int) + 1))) none).run Tryd.prog w' = .ok (.slice pa 1 pc) w' := hsl
        rw [drop_byte hlt, List.take_succ_cons, List.take_zero] at hpb
        have hcv := conv_str hpb.1
        have hba := bapp wd [l.getD i 0]
        clear hqd hq hpb hct hct'
        generalize l.getD i 0 = d at *
        go_wp2_with fail
        refine cc.mono ?_
        rintro e W2 ⟨rfl, rfl⟩
        go_wp2_with (first
          | (refine wpl_val rfl (exec_slice_lh 22 _ _ _ rfl rfl rfl rfl (hsl _)) ?_)
          | (refine wpl_val rfl (exec_conv 22 9 _ rfl rfl hcv) ?_))
        go_roundg (l.length + k + 1 - (i + 1))
        case measure => omega
        case rel => exact ⟨i + 1, wd ++ [d], by omega, by omega, by omega, rfl, by go_num, by simp; omega, hQ, rfl⟩
    · obtain rfl : i = l.length := by omega
      have gi : decide ((l.length : Int) < (l.length : Int)) = false := by simp
      have hF : Hid (RES = none) := by unfold Hid; rw [hq.out, List.drop_length]; rfl
      clear hq
      go_wp2_with fail
      go_ret3
      exact ⟨QOut.no hF.out, rfl⟩
end Go.Proofs.YtlheboafhgmbpaaDoor
