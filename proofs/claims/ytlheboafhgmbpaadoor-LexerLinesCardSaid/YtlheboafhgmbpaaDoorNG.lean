/- LexerLines' walk. -/
import Derived.Test.YtlheboafhgmbpaaDoorNF
namespace Go.Proofs.YtlheboafhgmbpaaDoor
open Go.RowKit
set_option maxRecDepth 100000
set_option linter.unusedSimpArgs false
set_option linter.unusedVariables false

section
variable {P : Program} {ops : Array Oper} {rest : List Oper} {o : Oper} {a : Act} {w w1 : World} {Q : Exit → Act → World → Prop} {v : Value}
theorem wpl_val_g (hw : Region.wanted o (yielded ops a.tmps) = true) (hrun : (execOp a.eval o).run P w = .ok (.value v) w1) (h : wpList P ops Q rest (a.put o.dst v) w1) : wpList P ops Q (o :: rest) a w :=
  wpList_step fun K hK => by rw [if_pos hw]; unfold Oper.wp; rw [hrun]; exact hK _ _ h
end
theorem linesB_len {l : List UInt8} {ls : List LineE} (h : linesB l = .ok ls) : ls.length ≤ 20001 := by
  by_cases hl : 20000 < l.length
  · unfold linesB at h; rw [if_pos hl] at h; cases h
  · rw [linesB_short hl] at h
    cases hf : foldL [] 1 (cutB l) with
    | error n => rw [hf] at h; cases h
    | ok xs =>
      rw [hf] at h
      injection h with h
      subst h
      have := foldL_len (cutB l) [] 1 xs hf
      have h2 := cutB_len l
      have h3 := count_le_len l
      simp only [List.length_nil, Nat.zero_add] at this
      omega
set_option maxRecDepth 100000 in
set_option maxHeartbeats 16000000 in
theorem lines_law {w : World} {v : Value} {b : List UInt8} (h : ByC w v b) (hT : Tab8 w) :
    Calls Tryd.prog 3 #[v] w fun e w' => e = .returned (.bool true) ∧ Kept (fun _ => False) w w' := by
  have hm1 : b.length ≤ maxLen := by obtain ⟨⟨_, _, _, hm, _⟩, _⟩ := h; exact hm
  simp only [maxLen] at hm1
  obtain ⟨a1, c1, hv1⟩ := h.1.slc
  subst hv1
  by_cases q1 : 3000 < b.length ∧ b.length ≤ 20000
  · have d1 : decide ((3000 : Int) < (b.length : Int)) = true := decide_eq_true (by omega)
    have d2 : decide ((b.length : Int) ≤ 20000) = true := decide_eq_true (by omega)
    go_enter Tryd.func3, Tryd.ntmps3
    go_wp2_with fail
    refine (known_ct hT).mono ?_
    rintro e W9 ⟨rfl, k9⟩
    go_wp2_with fail
    go_ret
    exact ⟨rfl, (Kept.refl _ w).trans k9⟩
  have d12 : decide ((3000 : Int) < (b.length : Int)) = false ∨ (decide ((3000 : Int) < (b.length : Int)) = true ∧ decide ((b.length : Int) ≤ 20000) = false) := by
    by_cases q : 3000 < b.length
    · exact .inr ⟨decide_eq_true (by omega), decide_eq_false (by omega)⟩
    · exact .inl (decide_eq_false (by omega))
  by_cases q3 : 30000 < b.length
  · have d3 : decide ((30000 : Int) < (b.length : Int)) = true := decide_eq_true (by omega)
    rcases d12 with d1 | ⟨d1, d2⟩
    · exfalso
      have := of_decide_eq_false d1
      omega
    · go_enter Tryd.func3, Tryd.ntmps3
      go_wp2_with fail
      refine (known_ct hT).mono ?_
      rintro e W9 ⟨rfl, k9⟩
      go_wp2_with fail
      go_ret
      exact ⟨rfl, (Kept.refl _ w).trans k9⟩
  have d3 : decide ((30000 : Int) < (b.length : Int)) = false := decide_eq_false (by omega)
  obtain ⟨V1, a2, c2, W2, bs0, ap0, ho, k2⟩ := copy_by h.1 (by omega) (Kept.refl _ w) 22
  have lc := lines_ct (ByC.own ho) (hT.kept k2)
  obtain ⟨X, hX⟩ : ∃ X, linesB b = X := ⟨_, rfl⟩
  rw [hX] at lc
  go_enter Tryd.func3, Tryd.ntmps3
  rcases d12 with d1 | ⟨d1, d2⟩
  · skip
    go_wp2_with (first
      | (with_reducible refine wpl_bslice 22 _ _ rfl rfl ?_ bs0 ?_
         · (go_simp <;> rfl)
         simp only [Act.put, List.getElem_toArray, List.getElem_cons_zero, List.getElem_cons_succ, List.setIfInBounds_toArray, List.set_cons_zero, List.set_cons_succ])
      | (with_reducible refine wpl_append 22 _ _ rfl rfl ?_ ?_ ap0 ?_
         · rfl
         · rfl
         simp only [Act.put, List.getElem_toArray, List.getElem_cons_zero, List.getElem_cons_succ, List.setIfInBounds_toArray, List.set_cons_zero, List.set_cons_succ]))
    refine lc.mono ?_
    rintro e W3 hL
    have rc := rlines_ct (h.kept (k2.trans hL.1))
    rw [hX] at rc
    clear lc bs0 ap0
    cases X with
    | error p =>
      obtain ⟨k3, rfl⟩ := hL
      clear hX
      go_wp2_with fail
      refine rc.mono ?_
      rintro e W4 ⟨k4, rfl⟩
      have kk4 := (k2.trans k3).trans k4
      have kd4 := k3.trans k4
      have sc := same_ct (OwnLines.nil W4 0) (OwnLines.nil W4 0) (by simp)
      clear rc
      go_wp2_with fail
      refine sc.mono ?_
      rintro e W5 ⟨rfl, k5⟩
      have kk5 := kk4.trans k5
      have cvA := conv_str ((ByC.own (row_kept ho (kd4.trans k5))).1)
      have cvB := conv_str (h.kept kk5).1
      clear sc ho h
      go_wp2_with (first
        | (refine wpl_val_g (by rfl) (exec_conv 22 9 _ rfl rfl cvA) ?_)
        | (refine wpl_val_g (by rfl) (exec_conv 22 9 _ rfl rfl cvB) ?_))
      refine (known_ct (hT.kept kk5)).mono ?_
      rintro e W9 ⟨rfl, k9⟩
      go_wp2_with fail
      go_ret
      exact ⟨rfl, (kk5).trans k9⟩
    | ok ls =>
      obtain ⟨k3, v3, rfl, hO3⟩ := hL
      obtain ⟨la, lcap, hv3⟩ := hO3.slc
      subst hv3
      have hll := linesB_len hX
      clear hX
      go_wp2_with fail
      refine rc.mono ?_
      rintro e W4 ⟨k4, v4, rfl, hO4⟩
      obtain ⟨ma, mcap, hv4⟩ := hO4.slc
      subst hv4
      have kk4 := (k2.trans k3).trans k4
      have kd4 := k3.trans k4
      have sc := same_ct (hO3.kept k4) hO4 (by omega)
      clear rc hO3 hO4
      go_wp2_with fail
      refine sc.mono ?_
      rintro e W5 ⟨rfl, k5⟩
      have kk5 := kk4.trans k5
      have cvA := conv_str ((ByC.own (row_kept ho (kd4.trans k5))).1)
      have cvB := conv_str (h.kept kk5).1
      clear sc ho h
      go_wp2_with (first
        | (refine wpl_val_g (by rfl) (exec_conv 22 9 _ rfl rfl cvA) ?_)
        | (refine wpl_val_g (by rfl) (exec_conv 22 9 _ rfl rfl cvB) ?_))
      refine (known_ct (hT.kept kk5)).mono ?_
      rintro e W9 ⟨rfl, k9⟩
      go_wp2_with fail
      go_ret
      exact ⟨rfl, (kk5).trans k9⟩
  · skip
    go_wp2_with (first
      | (with_reducible refine wpl_bslice 22 _ _ rfl rfl ?_ bs0 ?_
         · (go_simp <;> rfl)
         simp only [Act.put, List.getElem_toArray, List.getElem_cons_zero, List.getElem_cons_succ, List.setIfInBounds_toArray, List.set_cons_zero, List.set_cons_succ])
      | (with_reducible refine wpl_append 22 _ _ rfl rfl ?_ ?_ ap0 ?_
         · rfl
         · rfl
         simp only [Act.put, List.getElem_toArray, List.getElem_cons_zero, List.getElem_cons_succ, List.setIfInBounds_toArray, List.set_cons_zero, List.set_cons_succ]))
    refine lc.mono ?_
    rintro e W3 hL
    have rc := rlines_ct (h.kept (k2.trans hL.1))
    rw [hX] at rc
    clear lc bs0 ap0
    cases X with
    | error p =>
      obtain ⟨k3, rfl⟩ := hL
      clear hX
      go_wp2_with fail
      refine rc.mono ?_
      rintro e W4 ⟨k4, rfl⟩
      have kk4 := (k2.trans k3).trans k4
      have kd4 := k3.trans k4
      have sc := same_ct (OwnLines.nil W4 0) (OwnLines.nil W4 0) (by simp)
      clear rc
      go_wp2_with fail
      refine sc.mono ?_
      rintro e W5 ⟨rfl, k5⟩
      have kk5 := kk4.trans k5
      have cvA := conv_str ((ByC.own (row_kept ho (kd4.trans k5))).1)
      have cvB := conv_str (h.kept kk5).1
      clear sc ho h
      go_wp2_with (first
        | (refine wpl_val_g (by rfl) (exec_conv 22 9 _ rfl rfl cvA) ?_)
        | (refine wpl_val_g (by rfl) (exec_conv 22 9 _ rfl rfl cvB) ?_))
      refine (known_ct (hT.kept kk5)).mono ?_
      rintro e W9 ⟨rfl, k9⟩
      go_wp2_with fail
      go_ret
      exact ⟨rfl, (kk5).trans k9⟩
    | ok ls =>
      obtain ⟨k3, v3, rfl, hO3⟩ := hL
      obtain ⟨la, lcap, hv3⟩ := hO3.slc
      subst hv3
      have hll := linesB_len hX
      clear hX
      go_wp2_with fail
      refine rc.mono ?_
      rintro e W4 ⟨k4, v4, rfl, hO4⟩
      obtain ⟨ma, mcap, hv4⟩ := hO4.slc
      subst hv4
      have kk4 := (k2.trans k3).trans k4
      have kd4 := k3.trans k4
      have sc := same_ct (hO3.kept k4) hO4 (by omega)
      clear rc hO3 hO4
      go_wp2_with fail
      refine sc.mono ?_
      rintro e W5 ⟨rfl, k5⟩
      have kk5 := kk4.trans k5
      have cvA := conv_str ((ByC.own (row_kept ho (kd4.trans k5))).1)
      have cvB := conv_str (h.kept kk5).1
      clear sc ho h
      go_wp2_with (first
        | (refine wpl_val_g (by rfl) (exec_conv 22 9 _ rfl rfl cvA) ?_)
        | (refine wpl_val_g (by rfl) (exec_conv 22 9 _ rfl rfl cvB) ?_))
      refine (known_ct (hT.kept kk5)).mono ?_
      rintro e W9 ⟨rfl, k9⟩
      go_wp2_with fail
      go_ret
      exact ⟨rfl, (kk5).trans k9⟩
end Go.Proofs.YtlheboafhgmbpaaDoor
