/- LexerLines: the document's Lines, walked. -/
import Derived.Test.YtlheboafhgmbpaaDoorNE
import Derived.Test.YtlheboafhgmbpaaDoorMA
namespace Go.Proofs.YtlheboafhgmbpaaDoor
open Go.RowKit
set_option maxRecDepth 100000
set_option linter.unusedSimpArgs false
set_option linter.unusedVariables false

/-- How far the document has come: the lines told, the piece begun. -/
def FarP (l : List UInt8) (RES : Except Nat (List LineE)) (i fr n : Nat) (ls : List LineE) : Prop :=
  (i ≤ l.length → RES = foldL ls n (cutB (l.drop fr)) ∧ ∀ k, fr ≤ k → k < i → l.getD k 0 ≠ 10) ∧ (¬ i ≤ l.length → RES = .ok ls)
theorem mem_mid {l : List UInt8} {fr i : Nat} (h : ∀ k, fr ≤ k → k < i → l.getD k 0 ≠ 10) (hi : i ≤ l.length) : ∀ b ∈ (l.drop fr).take (i - fr), b ≠ 10 := by
  intro b hb
  obtain ⟨q, hq, e⟩ := List.getElem_of_mem hb
  rw [List.length_take, List.length_drop] at hq
  have := h (fr + q) (by omega) (by omega)
  rw [← e, List.getElem_take, List.getElem_drop]
  rw [List.getD_eq_getElem?_getD, List.getElem?_eq_getElem (by omega)] at this
  exact this
theorem cut_at {l : List UInt8} {fr i : Nat} (hf : fr ≤ i) (hi : i < l.length) (h10 : l.getD i 0 = 10) (h : ∀ k, fr ≤ k → k < i → l.getD k 0 ≠ 10) : cutB (l.drop fr) = (l.drop fr).take (i - fr) :: cutB (l.drop (i + 1)) := by
  have e : l.drop fr = (l.drop fr).take (i - fr) ++ 10 :: l.drop (i + 1) := by
    conv => lhs; rw [← List.take_append_drop (i - fr) (l.drop fr)]
    rw [List.drop_drop, show fr + (i - fr) = i by omega, drop_byte hi, h10]
  conv => lhs; rw [e]
  rw [cutB_join, cutB_flat _ (mem_mid h (by omega))]
  rfl
theorem cut_end {l : List UInt8} {fr : Nat} (h : ∀ k, fr ≤ k → k < l.length → l.getD k 0 ≠ 10) : cutB (l.drop fr) = [(l.drop fr).take (l.length - fr)] := by
  have e : (l.drop fr).take (l.length - fr) = l.drop fr := by rw [List.take_of_length_le (by rw [List.length_drop]; omega)]
  rw [e]
  have := mem_mid h (Nat.le_refl _)
  rw [e] at this
  exact cutB_flat _ this
theorem FarP.next {l : List UInt8} {RES : Except Nat (List LineE)} {i fr n : Nat} {ls : List LineE} (h : FarP l RES i fr n ls) (hi : i < l.length) (hn : ¬ l.getD i 0 = 10) : FarP l RES (i + 1) fr n ls :=
  ⟨fun _ => ⟨(h.1 (by omega)).1, fun k h1 h2 => by
    rcases Nat.lt_or_ge k i with q | q
    · exact (h.1 (by omega)).2 k h1 q
    · obtain rfl : k = i := by omega
      exact hn⟩, fun q => absurd hi (by omega)⟩
theorem FarP.piece {l : List UInt8} {RES : Except Nat (List LineE)} {i fr n : Nat} {ls : List LineE} (h : FarP l RES i fr n ls) (hi : i ≤ l.length) (hf : fr ≤ i) (hn : i < l.length → l.getD i 0 = 10) :
    match lineV ((l.drop fr).take (i - fr)) with
    | none => RES = .error n
    | some ws => FarP l RES (i + 1) (i + 1) (n + 1) (addL ls n ws) := by
  obtain ⟨h1, h2⟩ := h.1 hi
  rcases Nat.lt_or_ge i l.length with q | q
  · rw [cut_at hf q (hn q) h2] at h1
    cases hv : lineV ((l.drop fr).take (i - fr)) with
    | none => rw [foldL_none hv] at h1; exact h1
    | some ws =>
      rw [foldL_some hv] at h1
      exact ⟨fun _ => ⟨h1, fun k a b => absurd a (by omega)⟩, fun q => absurd q (by omega)⟩
  · obtain rfl : i = l.length := by omega
    rw [cut_end h2] at h1
    cases hv : lineV ((l.drop fr).take (l.length - fr)) with
    | none => rw [foldL_none hv] at h1; exact h1
    | some ws =>
      rw [foldL_some hv] at h1
      exact ⟨fun q => absurd q (by omega), fun _ => h1⟩
set_option maxRecDepth 100000 in
set_option maxHeartbeats 16000000 in
theorem rlines_ct {w : World} {v : Value} {l : List UInt8} (h : ByC w v l) :
    Calls Tryd.prog 9 #[v] w (LinesOut w (linesB l)) := by
  have hml : l.length ≤ maxLen := by obtain ⟨⟨_, _, _, h2, _⟩, _⟩ := h; exact h2
  simp only [maxLen] at hml
  obtain ⟨a1, c1, hv1⟩ := h.1.slc
  subst hv1
  by_cases hb : 20000 < l.length
  · have db : decide ((20000 : Int) < (l.length : Int)) = true := decide_eq_true (by omega)
    have HX : Hid (linesB l = .error (0, 3)) := by unfold Hid linesB; rw [if_pos hb]
    clear h hb
    go_enter Tryd.func9, Tryd.ntmps9
    go_wp2_with fail
    go_ret3
    exact LinesOut.no (n := 0) (z := 3) HX.out (Kept.refl _ _)
  have db : decide ((20000 : Int) < (l.length : Int)) = false := decide_eq_false (by omega)
  rw [linesB_short hb]
  obtain ⟨RES, hRES⟩ : ∃ RES, foldL [] 1 (cutB l) = RES := ⟨_, rfl⟩
  rw [hRES]
  have HR := Lib.hid hRES
  clear hRES
  go_enter Tryd.func9, Tryd.ntmps9
  go_wp2_with fail
  go_loopg [5, 6, 7, 8] (l.length + 1) (fun gk s5 s6 s7 s8 wr => ∃ (i fr n : Nat) (ls : List LineE) (a : Option Addr) (c : Nat), gk = l.length + 1 - i ∧ i ≤ l.length + 1 ∧ fr ≤ i ∧ s6 = .int .i64 fr ∧ s7 = .int .i64 n ∧ s8 = .int .i64 i ∧ s5 = .slice a ls.length c ∧ OwnLines wr w.heap.size (.slice a ls.length c) ls ∧ ls.length ≤ i ∧ n ≤ i + 1 ∧ Hid (FarP l RES i fr n ls) ∧ Kept (fun _ => False) w wr)
  case atStart => exact ⟨0, 0, 1, [], none, 0, by omega, by omega, by omega, rfl, rfl, rfl, rfl, OwnLines.nil _ _, by simp, by omega, ⟨fun _ => ⟨HR.out.symm, fun k _ q => absurd q (by omega)⟩, fun q => absurd q (by omega)⟩, Kept.refl _ _⟩
  case round =>
    obtain ⟨i, fr, n, ls, oa, oc, rfl, hi, hfi, rfl, rfl, rfl, rfl, ho, hol, hni, hfar, hk⟩ := hrel
    by_cases hle : i ≤ l.length
    · have gle : decide ((i : Int) ≤ (l.length : Int)) = true := decide_eq_true (by omega)
      have hb := h.kept hk
      by_cases hlt : i < l.length
      · have glt : decide ((i : Int) < (l.length : Int)) = true := decide_eq_true (by omega)
        obtain ⟨bb, oo, hva, hbl, e0⟩ := hb.byte hlt
        subst hva
        by_cases c10 : l.getD i 0 = 10
        · rw [c10] at e0
          have e1 : wr.cell? ⟨bb, oo + i, none⟩ = some (.int .u8 10) := e0
          have h10 : i < l.length → l.getD i 0 = 10 := fun _ => c10
          clear e0 c10
          obtain ⟨pa, pc, hsl, hpb⟩ := hb.mid (i := fr) (j := i) (by omega) (by omega)
          have hpl : ((l.drop fr).take (i - fr)).length ≤ 100000 := by rw [List.length_take, List.length_drop]; omega
          have lc := rline_ct hpb hpl
          have HX := Lib.hid (hfar.out.piece (by omega) (by omega) h10)
          clear hpb hpl hfar h10
          generalize lineV ((l.drop fr).take (i - fr)) = LV at lc HX
          go_wp2_with (first
            | (refine wpl_val rfl (exec_slice_lh 22 _ _ _ rfl rfl rfl rfl (hsl _)) ?_))
          refine lc.mono ?_
          rintro e W3 ⟨k3, la, ln, lcap, hl3⟩
          have kw3 := hk.trans k3
          cases LV with
          | none =>
            obtain rfl := hl3
            have HF : Hid (toX RES = .error (n, 5)) := by unfold Hid; rw [show RES = .error n from HX.out]; rfl
            clear HX lc
            go_wp2_with fail
            go_ret3
            exact LinesOut.no (n := n) (z := 5) HF.out kw3
          | some ws =>
            obtain ⟨rfl, hws⟩ := hl3
            have ho4 := ho.kept k3
            obtain ⟨_, _, hlen⟩ := row_form hws
            injection hlen with _ hlen _
            subst hlen
            by_cases hw : ws = []
            · subst hw
              have HR2 : Hid (FarP l RES (i + 1) (i + 1) (n + 1) ls) := HX.out
              clear HX lc ho hws
              go_wp2_with fail
              go_roundg (l.length + 1 - (i + 1))
              case measure => omega
              case rel => exact ⟨i + 1, i + 1, n + 1, ls, oa, oc, by omega, by omega, by omega, by go_num, by go_num, by go_num, rfl, ho4, by omega, by omega, HR2, kw3⟩
            · have hwl : 0 < ws.length := List.length_pos_iff.2 hw
              have hwz : decide ((0 : Int) < (ws.length : Int)) = true := decide_eq_true (by omega)
              have HR2 : Hid (FarP l RES (i + 1) (i + 1) (n + 1) (ls ++ [⟨n, ws⟩])) := by
                have := HX.out
                unfold addL at this
                dsimp only at this
                rw [if_neg hw] at this
                exact this
              obtain ⟨v', w', ap, ho', kr'⟩ := ho4.snoc kw3 (n := n) hws (by omega)
              have bd := build_line ((n : Nat) : Int) la ws.length lcap W3
              have bs := bslice_line ((n : Nat) : Int) la ws.length lcap W3
              obtain ⟨va, vc, hv'⟩ := ho'.slc
              subst hv'
              clear HX lc ho hws ho4
              go_wp2_with (first
                | (with_reducible refine wpl_build 32 _ rfl rfl ?_ bd ?_
                   · (go_simp <;> rfl)
                   simp only [Act.put, List.getElem_toArray, List.getElem_cons_zero, List.getElem_cons_succ, List.setIfInBounds_toArray, List.set_cons_zero, List.set_cons_succ])
                | (with_reducible refine wpl_bslice 24 _ _ rfl rfl ?_ bs ?_
                   · (go_simp <;> rfl)
                   simp only [Act.put, List.getElem_toArray, List.getElem_cons_zero, List.getElem_cons_succ, List.setIfInBounds_toArray, List.set_cons_zero, List.set_cons_succ])
                | (with_reducible refine wpl_append 24 _ _ rfl rfl ?_ ?_ ap ?_
                   · rfl
                   · rfl
                   simp only [Act.put, List.getElem_toArray, List.getElem_cons_zero, List.getElem_cons_succ, List.setIfInBounds_toArray, List.set_cons_zero, List.set_cons_succ]))
              go_roundg (l.length + 1 - (i + 1))
              case measure => omega
              case rel => exact ⟨i + 1, i + 1, n + 1, _, va, vc, by omega, by omega, by omega, by go_num, by go_num, by go_num, rfl, ho', by simp; omega, by omega, HR2, kr'⟩
        · have k10 : (((l.getD i 0).toNat : Int) != 10) = true := by rw [bne]; rw [show (((l.getD i 0).toNat : Int) == 10) = false from nb8 c10]; rfl
          have HR2 : Hid (FarP l RES (i + 1) fr n ls) := hfar.out.next hlt c10
          clear hfar c10
          generalize l.getD i 0 = d at *
          go_wp2_with fail
          go_roundg (l.length + 1 - (i + 1))
          case measure => omega
          case rel => exact ⟨i + 1, fr, n, ls, oa, oc, by omega, by omega, by omega, rfl, rfl, by go_num, rfl, ho, by omega, by omega, HR2, hk⟩
      · have glt : decide ((i : Int) < (l.length : Int)) = false := decide_eq_false (by omega)
        have h10 : i < l.length → l.getD i 0 = 10 := fun q => absurd q hlt
        obtain ⟨pa, pc, hsl, hpb⟩ := hb.mid (i := fr) (j := i) (by omega) (by omega)
        have hpl : ((l.drop fr).take (i - fr)).length ≤ 100000 := by rw [List.length_take, List.length_drop]; omega
        have lc := rline_ct hpb hpl
        have HX := Lib.hid (hfar.out.piece (by omega) (by omega) h10)
        clear hpb hpl hfar h10
        generalize lineV ((l.drop fr).take (i - fr)) = LV at lc HX
        go_wp2_with (first
          | (refine wpl_val rfl (exec_slice_lh 22 _ _ _ rfl rfl rfl rfl (hsl _)) ?_))
        refine lc.mono ?_
        rintro e W3 ⟨k3, la, ln, lcap, hl3⟩
        have kw3 := hk.trans k3
        cases LV with
        | none =>
          obtain rfl := hl3
          have HF : Hid (toX RES = .error (n, 5)) := by unfold Hid; rw [show RES = .error n from HX.out]; rfl
          clear HX lc
          go_wp2_with fail
          go_ret3
          exact LinesOut.no (n := n) (z := 5) HF.out kw3
        | some ws =>
          obtain ⟨rfl, hws⟩ := hl3
          have ho4 := ho.kept k3
          obtain ⟨_, _, hlen⟩ := row_form hws
          injection hlen with _ hlen _
          subst hlen
          by_cases hw : ws = []
          · subst hw
            have HR2 : Hid (FarP l RES (i + 1) (i + 1) (n + 1) ls) := HX.out
            clear HX lc ho hws
            go_wp2_with fail
            go_roundg (l.length + 1 - (i + 1))
            case measure => omega
            case rel => exact ⟨i + 1, i + 1, n + 1, ls, oa, oc, by omega, by omega, by omega, by go_num, by go_num, by go_num, rfl, ho4, by omega, by omega, HR2, kw3⟩
          · have hwl : 0 < ws.length := List.length_pos_iff.2 hw
            have hwz : decide ((0 : Int) < (ws.length : Int)) = true := decide_eq_true (by omega)
            have HR2 : Hid (FarP l RES (i + 1) (i + 1) (n + 1) (ls ++ [⟨n, ws⟩])) := by
              have := HX.out
              unfold addL at this
              dsimp only at this
              rw [if_neg hw] at this
              exact this
            obtain ⟨v', w', ap, ho', kr'⟩ := ho4.snoc kw3 (n := n) hws (by omega)
            have bd := build_line ((n : Nat) : Int) la ws.length lcap W3
            have bs := bslice_line ((n : Nat) : Int) la ws.length lcap W3
            obtain ⟨va, vc, hv'⟩ := ho'.slc
            subst hv'
            clear HX lc ho hws ho4
            go_wp2_with (first
              | (with_reducible refine wpl_build 32 _ rfl rfl ?_ bd ?_
                 · (go_simp <;> rfl)
                 simp only [Act.put, List.getElem_toArray, List.getElem_cons_zero, List.getElem_cons_succ, List.setIfInBounds_toArray, List.set_cons_zero, List.set_cons_succ])
              | (with_reducible refine wpl_bslice 24 _ _ rfl rfl ?_ bs ?_
                 · (go_simp <;> rfl)
                 simp only [Act.put, List.getElem_toArray, List.getElem_cons_zero, List.getElem_cons_succ, List.setIfInBounds_toArray, List.set_cons_zero, List.set_cons_succ])
              | (with_reducible refine wpl_append 24 _ _ rfl rfl ?_ ?_ ap ?_
                 · rfl
                 · rfl
                 simp only [Act.put, List.getElem_toArray, List.getElem_cons_zero, List.getElem_cons_succ, List.setIfInBounds_toArray, List.set_cons_zero, List.set_cons_succ]))
            go_roundg (l.length + 1 - (i + 1))
            case measure => omega
            case rel => exact ⟨i + 1, i + 1, n + 1, _, va, vc, by omega, by omega, by omega, by go_num, by go_num, by go_num, rfl, ho', by simp; omega, by omega, HR2, kr'⟩
    · have gle : decide ((i : Int) ≤ (l.length : Int)) = false := decide_eq_false (by omega)
      have HX : Hid (toX RES = .ok ls) := by unfold Hid; rw [hfar.out.2 hle]; rfl
      clear hfar
      go_wp2_with fail
      go_ret3
      exact LinesOut.yes HX.out hk ho
end Go.Proofs.YtlheboafhgmbpaaDoor
