/- lexer.Lines. -/
import Derived.Test.YtlheboafhgmbpaaDoorLP
namespace Go.Proofs.YtlheboafhgmbpaaDoor
open Go.RowKit
set_option maxRecDepth 100000
set_option linter.unusedSimpArgs false
set_option linter.unusedVariables false

theorem bslice_10 (w : World) : (Instr.buildSlice 22 1 #[(0, .int .u8 10)]).run Tryd.prog w = .ok (.slice (some ⟨w.heap.size, 0, none⟩) 1 1) (w.alloc (.cells #[.int .u8 10] 5)) := by kernel_rfl
theorem build_line (n : Int) (a : Option Addr) (m c : Nat) (w : World) : (Instr.build 32 #[(0, .int .i64 n), (1, .slice a m c)]).run Tryd.prog w = .ok (.agg #[.int .i64 n, .slice a m c]) w := by kernel_rfl
theorem bslice_line (n : Int) (a : Option Addr) (m c : Nat) (w : World) : (Instr.buildSlice 24 1 #[(0, .agg #[.int .i64 n, .slice a m c])]).run Tryd.prog w = .ok (.slice (some ⟨w.heap.size, 0, none⟩) 1 1) (w.alloc (.cells #[.int .i64 n, .slice a m c] 32)) := by kernel_rfl
theorem foldL_none {acc : List LineE} {n : Nat} {p : List UInt8} {ps : List (List UInt8)} (h : lineV p = none) : foldL acc n (p :: ps) = .error n := by unfold foldL; rw [h]
theorem foldL_some {acc : List LineE} {n : Nat} {p : List UInt8} {ps : List (List UInt8)} {ws : List (List UInt8)} (h : lineV p = some ws) : foldL acc n (p :: ps) = foldL (addL acc n ws) (n + 1) ps := by conv => lhs; unfold foldL; rw [h]
theorem lineV_no {p : List UInt8} (h : Lib.validD p = false) : lineV p = none := by unfold lineV; rw [h]; rfl
theorem lineV_yes {p : List UInt8} (h : Lib.validD p = true) : lineV p = lineR p := by unfold lineV; rw [h, if_pos rfl, lineR_valid p h]
theorem addL_len (acc : List LineE) (n : Nat) (ws : List (List UInt8)) : (addL acc n ws).length ≤ acc.length + 1 := by unfold addL; split <;> simp
/-- What Lines hands back. -/
def LinesOut (w : World) (x : Except (Nat × Nat) (List LineE)) (e : Ending) (w' : World) : Prop := Kept (fun _ => False) w w' ∧ match x with
  | .error p => e = .returned (.tuple #[.slice none 0 0, .int .i64 (p.1 : Int), .int .i64 (p.2 : Int)])
  | .ok ls => ∃ v, e = .returned (.tuple #[v, .int .i64 0, .int .i64 0]) ∧ OwnLines w' w.heap.size v ls
theorem LinesOut.no {w w' : World} {x : Except (Nat × Nat) (List LineE)} {n z : Nat} (h : x = .error (n, z)) (k : Kept (fun _ => False) w w') : LinesOut w x (.returned (.tuple #[.slice none 0 0, .int .i64 (n : Int), .int .i64 (z : Int)])) w' := by subst h; exact ⟨k, rfl⟩
theorem LinesOut.yes {w w' : World} {x : Except (Nat × Nat) (List LineE)} {ls : List LineE} {v : Value} (h : x = .ok ls) (k : Kept (fun _ => False) w w') (ho : OwnLines w' w.heap.size v ls) : LinesOut w x (.returned (.tuple #[v, .int .i64 0, .int .i64 0])) w' := by subst h; exact ⟨k, v, rfl, ho⟩
def toX : Except Nat (List LineE) → Except (Nat × Nat) (List LineE)
  | .error n => .error (n, 5)
  | .ok ls => .ok ls
theorem linesB_short {l : List UInt8} (h : ¬ 20000 < l.length) : linesB l = toX (foldL [] 1 (cutB l)) := by
  unfold linesB toX
  rw [if_neg h]
  cases foldL [] 1 (cutB l) <;> rfl
theorem cutB_total : ∀ l : List UInt8, ∀ p ∈ cutB l, p.length ≤ l.length
  | [], p, h => by simp [cutB] at h; subst h; simp
  | c :: r, p, h => by
    have ih := cutB_total r
    unfold cutB at h
    split at h
    · rcases List.mem_cons.1 h with rfl | h
      · simp
      · have := ih p h; simp; omega
    · cases hr : cutB r with
      | nil => exact absurd hr (cutB_ne r)
      | cons q qs =>
        rw [hr] at h ih
        rcases List.mem_cons.1 h with rfl | h
        · have := ih q (by simp); simp; omega
        · have := ih p (by simp [h]); simp; omega
set_option maxRecDepth 100000 in
set_option maxHeartbeats 8000000 in
theorem lines_ct {w : World} {v : Value} {l : List UInt8} (h : ByC w v l) (hT : Tab8 w) :
    Calls Tryd.prog 8 #[v] w (LinesOut w (linesB l)) := by
  have hml : l.length ≤ maxLen := by obtain ⟨⟨_, _, _, h2, _⟩, _⟩ := h; exact h2
  simp only [maxLen] at hml
  by_cases hb : 20000 < l.length
  · have db : decide ((20000 : Int) < (l.length : Int)) = true := decide_eq_true (by omega)
    have hx : linesB l = .error (0, 3) := by unfold linesB; rw [if_pos hb]
    obtain ⟨a, c, hv⟩ := h.1.slc
    subst hv
    have HX := Lib.hid hx
    clear hx hT h hb
    go_enter Tryd.func8, Tryd.ntmps8
    go_wp2_with fail
    go_ret3
    exact LinesOut.no (n := 0) (z := 3) HX.out (Kept.refl _ _)
  have db : decide ((20000 : Int) < (l.length : Int)) = false := decide_eq_false (by omega)
  rw [linesB_short hb]
  obtain ⟨a, c, hv⟩ := h.1.slc
  subst hv
  obtain ⟨RES, hRES⟩ : ∃ RES, foldL [] 1 (cutB l) = RES := ⟨_, rfl⟩
  rw [hRES]
  have b1 := bslice_10 w
  have cv : (convert 22 22 (.slice (some ⟨w.heap.size, 0, none⟩) 1 1)).run Tryd.prog (w.alloc (.cells #[.int .u8 10] 5)) = .ok (.slice (some ⟨w.heap.size, 0, none⟩) 1 1) (w.alloc (.cells #[.int .u8 10] 5 (1, 2))) := Lib.run_convert_bytes_const (P := Tryd.prog) w 22 5 #[.int .u8 10] 1 1 Tryd.underlying22 Tryd.underlying5
  have k1 : Kept (fun _ => False) w (w.alloc (.cells #[.int .u8 10] 5 (1, 2))) := (Kept.refl _ w).alloc _
  have h1 := heap_last w (.cells #[.int .u8 10] 5 (1, 2))
  generalize w.alloc (.cells #[.int .u8 10] 5 (1, 2)) = W1 at cv k1 h1
  have hten : W1.cell? ⟨w.heap.size, 0, none⟩ = some (.int .u8 10) := by rw [cell_of_row _ _ _ _ _ _ h1]; rfl
  have sc := split_ct (h.kept k1) (by omega) (d := 1) hten
  go_enter Tryd.func8, Tryd.ntmps8
  go_wp2_with (first
    | (with_reducible refine wpl_bslice 22 _ _ rfl rfl ?_ b1 ?_
       · (go_simp <;> rfl)
       simp only [Act.put, List.getElem_toArray, List.getElem_cons_zero, List.getElem_cons_succ, List.setIfInBounds_toArray, List.set_cons_zero, List.set_cons_succ])
    | (refine wpl_val rfl (exec_conv 22 22 _ rfl rfl cv) ?_))
  refine sc.mono ?_
  rintro e W2 ⟨k2, vs, hvs, rfl, hA⟩
  obtain ⟨A, hAe⟩ : ∃ A, W1.heap.size = A := ⟨_, rfl⟩
  rw [hAe] at hA
  have hP : (cutB l).length ≤ 20001 := by rw [cutB_len]; have := count_le_len l; omega
  have hpl := cutB_total l
  generalize cutB l = P at hvs hA hRES hP hpl ⊢
  have kk2 := k1.trans k2
  have hAl : A < W2.heap.size := (Array.getElem?_eq_some_iff.1 hA).1
  have hvl := hvs.1
  go_wp2_with fail
  go_loopw [2, 17] (fun lv iv wr => ∃ (k : Nat) (ls : List LineE), k ≤ P.length ∧ iv = .int .i64 k ∧ OwnLines wr W2.heap.size lv ls ∧ ls.length ≤ k ∧ foldL ls (k + 1) (P.drop k) = RES ∧ Kept (fun _ => False) W2 wr) (fun _ iv _ => P.length - (intOf iv).toNat)
  case atStart => exact ⟨0, [], by omega, rfl, OwnLines.nil _ _, by simp, by simpa using hRES, Kept.refl _ _⟩
  case round =>
    obtain ⟨k, ls, hk, rfl, ho, hlk, hres, hkr⟩ := hrel
    clear hRES cv b1
    obtain ⟨av, cv, hlv⟩ := ho.slc
    subst hlv
    by_cases hlt : k < P.length
    · have hpk : P[k]? = some P[k] := List.getElem?_eq_getElem hlt
      obtain ⟨x, hx, hpx⟩ := hvs.2 k _ hpk
      have hps := hpl P[k] (List.getElem_mem hlt)
      rw [List.drop_eq_getElem_cons hlt] at hres
      generalize P[k] = p at *
      have kr1 := k2.trans hkr
      have hpx' := hpx.kept kr1
      obtain ⟨xa, xc, hxv⟩ := hpx.1.slc
      subst hxv
      have hc : wr.cell? ⟨A, k, none⟩ = some (.slice xa p.length xc) := by
        rw [hkr.cell (p := ⟨A, k, none⟩) hAl not_false, cell_of_row _ _ _ _ _ _ hA]; simpa using hx
      have hcv := conv_str hpx'.1
      have lct := line_ct ⟨p.toArray⟩ wr (by show p.toArray.size ≤ 100000; simp; omega)
      rw [show (⟨p.toArray⟩ : ByteArray).data.toList = p from by simp] at lct
      have hltz : decide ((k : Int) < (P.length : Int)) = true := decide_eq_true (by omega)
      have HR := Lib.hid hres
      have hlr : Lib.validD p = true → lineV p = lineR p := lineV_yes
      generalize lineR p = LR at lct hlr
      clear hres hpl hvs hx hpk h sc
      go_wp2_with (first
        | (refine wpl_val rfl (exec_conv 22 9 _ rfl rfl hcv) ?_))
      refine lct.mono ?_
      rintro e W3 ⟨k3, la, ln, lcap, hl3⟩
      have kr3 := hkr.trans k3
      have kw3 := kk2.trans kr3
      cases LR with
      | none =>
        obtain rfl := hl3
        have hz : lineV p = none := by
          cases hd : Lib.validD p with
          | false => exact lineV_no hd
          | true => exact hlr hd
        have HX : Hid (toX RES = .error (k + 1, 5)) := by unfold Hid; rw [← HR.out, foldL_none hz]; rfl
        clear hlr HR lct
        go_wp2_with fail
        go_ret3
        exact LinesOut.no (n := k + 1) (z := 5) HX.out kw3
      | some ws =>
        obtain ⟨rfl, hws⟩ := hl3
        have vct := valid_ct (hpx'.kept k3) (by omega) (hT.kept kw3)
        clear lct
        go_wp2_with fail
        refine vct.mono ?_
        rintro e W4 ⟨rfl, k4⟩
        have kr4 := kr3.trans k4
        have kw4 := kw3.trans k4
        cases hd : Lib.validD p with
        | false =>
          have HX : Hid (toX RES = .error (k + 1, 5)) := by unfold Hid; rw [← HR.out, foldL_none (lineV_no hd)]; rfl
          clear hlr HR vct hd
          go_wp2_with fail
          go_ret3
          exact LinesOut.no (n := k + 1) (z := 5) HX.out kw4
        | true =>
          have hz := hlr hd
          have hws4 := row_kept hws k4
          have ho4 := ho.kept (k3.trans k4)
          rw [foldL_some hz] at HR
          obtain ⟨_, _, hlen⟩ := row_form hws4
          injection hlen with _ hlen _
          subst hlen
          by_cases hw : ws = []
          · subst hw
            have HR2 : Hid (foldL ls (k + 1 + 1) (P.drop (k + 1)) = RES) := HR
            clear HR vct hd hlr hz ho hws hws4 hcv hpx hpx' hc k3 kr3 kw3
            go_wp2_with fail
            go_roundw
            case rel => exact ⟨k + 1, ls, by omega, by go_num, ho4, by omega, HR2.out, kr4⟩
            case measure => simp [intOf]; omega
          · have hwl : 0 < ws.length := List.length_pos_iff.2 hw
            have hwz : decide ((0 : Int) < (ws.length : Int)) = true := decide_eq_true (by omega)
            have HR2 : Hid (foldL (ls ++ [⟨k + 1, ws⟩]) (k + 1 + 1) (P.drop (k + 1)) = RES) := by
              have := HR.out
              unfold addL at this
              rw [if_neg hw] at this
              exact this
            obtain ⟨v', w', ap, ho', kr'⟩ := ho4.snoc kr4 (n := k + 1) hws4 (by omega)
            have bd := build_line ((k + 1 : Nat) : Int) la ws.length lcap W4
            have bs := bslice_line ((k + 1 : Nat) : Int) la ws.length lcap W4
            rw [Int.natCast_add] at ap bd bs
            clear HR vct hd hlr hz ho hws hws4 hcv hpx hpx' hc k3 kr3 kw3 ho4
            go_wp2_with (first
              | (with_reducible refine wpl_build 32 _ rfl rfl ?_ bd ?_
                 · (go_simp <;> rfl)
                 simp only [Act.put, List.getElem_toArray, List.getElem_cons_zero, List.getElem_cons_succ, List.setIfInBounds_toArray, List.set_cons_zero, List.set_cons_succ])
              | (with_reducible refine wpl_bslice 24 _ _ rfl rfl ?_ bs ?_
                 · (go_simp <;> rfl)
                 simp only [Act.put, List.getElem_toArray, List.getElem_cons_zero, List.getElem_cons_succ, List.setIfInBounds_toArray, List.set_cons_zero, List.set_cons_succ])
              | (refine wpl_val rfl (exec_append 24 _ _ rfl rfl rfl ap) ?_))
            go_roundw
            case rel => exact ⟨k + 1, _, by omega, by go_num, ho', by simp; omega, HR2.out, kr'⟩
            case measure => simp [intOf]; omega
    · obtain rfl : k = P.length := by omega
      rw [List.drop_eq_nil_of_le (Nat.le_refl _)] at hres
      have hltz : decide ((P.length : Int) < (P.length : Int)) = false := by simp
      have HX : Hid (toX RES = .ok ls) := by unfold Hid; rw [← hres]; rfl
      have ho2 : OwnLines wr w.heap.size (.slice av ls.length cv) ls := ho.base kk2.size
      clear hres ho hpl hvs h sc
      go_wp2_with fail
      go_ret3
      exact LinesOut.yes HX.out (kk2.trans hkr) ho2
end Go.Proofs.YtlheboafhgmbpaaDoor
