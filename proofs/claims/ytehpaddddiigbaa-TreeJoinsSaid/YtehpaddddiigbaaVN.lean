/- TreeJoins' walk. -/
import Derived.Test.YtehpaddddiigbaaVM
namespace Go.Proofs.Ytehpaddddiigbaa
open Go.RowKit
set_option linter.unusedSimpArgs false
set_option linter.unusedVariables false


theorem exec_index {P : Program} {o : Oper} {a : Act} {w : World} {p q v : Value} (t : TypeId) (x y : Operand) (ho : o.op = .index t x y) (hx : a.eval x = p) (hy : a.eval y = q) (h : (Instr.index t p q).run P w = .ok v w) : (execOp a.eval o).run P w = .ok (.value v) w := by
  unfold execOp; simp only [ho, hx, hy, Sem.run_bind, h, Result.andThen_ok]; rfl
theorem idx0 (x y : Value) (w : World) : (Instr.index 47 (.agg #[x, y]) (.int .i64 0)).run Try.prog w = .ok x w := by kernel_rfl
theorem idx1 (x y : Value) (w : World) : (Instr.index 47 (.agg #[x, y]) (.int .i64 1)).run Try.prog w = .ok y w := by kernel_rfl
set_option maxRecDepth 100000 in
set_option maxHeartbeats 4000000 in
theorem joins_law {w : World} {va vb : Value} {la lb : List FileE} (ha : TreeAt w va la) (hb : TreeAt w vb lb) :
    Calls Try.prog 8 #[va, vb] w fun e w' => e = .returned (.bool true) ∧ Kept (fun _ => False) w w' := by
  obtain ⟨a, c, hv⟩ := ha.slc
  subst hv
  obtain ⟨a2, c2, hv2⟩ := hb.slc
  subst hv2
  go_enter Try.func8, Try.ntmps8
  go_wp2_with fail
  refine (great_ct ha).mono ?_
  rintro e W ⟨⟨g, rfl⟩, k1⟩
  cases g with
  | true =>
    go_wp2_with fail
    refine (known_ct _).mono ?_
    rintro e W9 ⟨rfl, k9⟩
    go_wp2_with fail
    go_ret
    exact ⟨rfl, (k1).trans k9⟩
  | false =>
    go_wp2_with fail
    refine (great_ct (hb.kept k1)).mono ?_
    rintro e W2 ⟨⟨g, rfl⟩, k2⟩
    have K2 := k1.trans k2
    clear k1 k2
    cases g with
    | true =>
      go_wp2_with fail
      refine (known_ct _).mono ?_
      rintro e W9 ⟨rfl, k9⟩
      go_wp2_with fail
      go_ret
      exact ⟨rfl, (K2).trans k9⟩
    | false =>
      go_wp2_with fail
      refine (joined_ct (ha.kept K2) (hb.kept K2)).mono ?_
      rintro e W3 ⟨hj, k3⟩
      have K3 := K2.trans k3
      have hcm := joinC_comm la lb
      rcases hj with ⟨hc, rfl⟩ | ⟨hc, v3, rfl, h3⟩
      · go_wp2_with fail
        refine (joined_ct (hb.kept K3) (ha.kept K3)).mono ?_
        rintro e W4 ⟨hj2, k4⟩
        have K4 := K3.trans k4
        rcases hj2 with ⟨hc2, rfl⟩ | ⟨hc2, _⟩
        · rw [← hcm]
          generalize joinC la lb = cc at hc
          have e1 : ((cc : Int) != (cc : Int)) = false := by simp
          have e2 : ((cc : Int) != 0) = true := by simp; omega
          have sc := same_ct (TreeAt.nil W4 0) (TreeAt.nil W4 0) (by simp) (by simp)
          rw [sameB_rfl] at sc
          clear hcm hc2
          go_wp2_with fail
          refine sc.mono ?_
          rintro e W5 ⟨rfl, k5⟩
          go_wp2_with fail
          refine (known_ct _).mono ?_
          rintro e W9 ⟨rfl, k9⟩
          go_wp2_with fail
          go_ret
          exact ⟨rfl, (K4.trans k5).trans k9⟩
        · exact absurd (hcm.trans hc2) hc
      · obtain ⟨a3, c3, hv3⟩ := h3.slc
        subst hv3
        have hjd := joinC_zero hc
        have hco := joinO_comm hc
        have hoL : (joinO la lb).length ≤ 16 := (mayIs hjd.may).len
        go_wp2_with fail
        refine (joined_ct (hb.kept K3) (ha.kept K3)).mono ?_
        rintro e W4 ⟨hj2, k4⟩
        have K4 := K3.trans k4
        rcases hj2 with ⟨hc2, _⟩ | ⟨hc2, v4, rfl, h4⟩
        · exact absurd (hcm.symm.trans hc) hc2
        · rw [hco] at h4
          generalize joinO la lb = o at *
          obtain ⟨a4, c4, hv4⟩ := h4.slc
          subst hv4
          have sc := same_ct (h3.kept k4) h4 (by omega) (by omega)
          rw [sameB_rfl] at sc
          clear hcm hc2 hc hco h4
          go_wp2_with fail
          refine sc.mono ?_
          rintro e W6 ⟨rfl, k6⟩
          have K6 := K4.trans k6
          have h46 := h3.kept (k4.trans k6)
          have hmo := hjd.may
          have HIN := Lib.hid (fun (f : FileE) (hf : f ∈ la) => hjd.perm.mem_iff.2 (List.mem_append.2 (.inl hf)))
          have HIM := Lib.hid (fun (f : FileE) (hf : f ∈ lb) => hjd.perm.mem_iff.2 (List.mem_append.2 (.inr hf)))
          have hma := hjd.may1
          have hmb := hjd.may2
          have hla := (mayIs hma).len
          have hlb := (mayIs hmb).len
          have KL : Kept (fun _ => False) W6 W6 := Kept.refl _ _
          clear sc h3
          go_wp2_with fail
          refine wp_loop_rounds 3 ?_
          rw [rounds_succ]
          go_wp2_with (first
            | (refine wpl_val rfl (exec_index 47 _ _ rfl rfl rfl (idx0 _ _ _)) ?_))
          go_loopw [53] (fun i wr => ∃ k : Nat, k ≤ (la).length ∧ i = .int .i64 k ∧ Kept (fun _ => False) W6 wr) (fun i _ => (la).length - (intOf i).toNat)
          case atStart => exact ⟨0, by omega, rfl, KL⟩
          case round =>
            obtain ⟨k, hk, rfl, hkr⟩ := hrel
            have hKr := K6.trans hkr
            by_cases hlt : k < (la).length
            · have hfa : (la)[k]? = some (la)[k] := List.getElem?_eq_getElem hlt
              generalize (la)[k] = f at hfa
              obtain ⟨_, b1, o1, y, rfl, hbl, hrx, hB⟩ := ((ha).kept hKr).file hfa
              obtain ⟨a3, c3, rfl⟩ := hB.slc
              have q0 : wr.cell? ⟨b1, o1 + k * 2, none⟩ = some (.string f.path) := hrx 0 _ rfl
              have hff := ((mayIs hma).file f (List.mem_of_getElem? hfa)).2.1
              have HFA := Lib.hid hfa
              clear hfa
              go_wp2_with fail
              refine (get_ct (h46.kept hkr) f.path).mono ?_
              rintro e W7 ⟨hg, k7⟩
              obtain ⟨v7, rfl, h7⟩ := get_is hg hmo (HIN.out f (List.mem_of_getElem? HFA.out)) rfl
              clear hg
              obtain ⟨a7, c7, hv7⟩ := h7.slc
              subst hv7
              have q1 : ∀ w', Kept (fun _ => False) W7 w' → w'.cell? ⟨b1, o1 + k * 2 + 1, none⟩ = some (.slice a3 f.bytes.length c3) := fun w' q => ((k7.trans q).cell (p := ⟨b1, o1 + k * 2 + 1, none⟩) hbl not_false).trans (hrx 1 _ rfl)
              have cv1 := fun w' (q : Kept (fun _ => False) W7 w') => conv_str (h7.kept q)
              have cv2 := fun w' (q : Kept (fun _ => False) W7 w') => conv_str (hB.kept (k7.trans q))
              have nfb : (f.bytes != f.bytes) = false := by simp
              clear hrx hB
              go_wp2_with fail
              refine wp_region_held_drew (S := (Kept (fun _ => False) W7)) (by kernel_rfl) ((Kept.refl _ W7).drew) (fun hHeld => ?_)
              refine held_q (v := ?_) (i := 0) rfl (by kernel_rfl) (by kernel_rfl) (by kernel_rfl) (fun _ _ _ h => h) (by rfl) hHeld ?_ ?_
              rotate_left
              · (intro w' hS'; go_simp <;> (with_reducible rfl))
              simp only [Act.put, List.getElem_toArray, List.getElem_cons_zero, List.getElem_cons_succ, List.setIfInBounds_toArray, List.set_cons_zero, List.set_cons_succ]
              refine held_q (v := ?_) (i := 1) rfl (by kernel_rfl) (by kernel_rfl) (by kernel_rfl) (fun _ _ _ h => h) (by rfl) hHeld ?_ ?_
              rotate_left
              · (intro w' hS'; go_simp <;> (with_reducible rfl))
              simp only [Act.put, List.getElem_toArray, List.getElem_cons_zero, List.getElem_cons_succ, List.setIfInBounds_toArray, List.set_cons_zero, List.set_cons_succ]
              refine held_q (v := ?_) (i := 2) rfl (by kernel_rfl) (by kernel_rfl) (by kernel_rfl) (fun _ _ _ h => h) (by rfl) hHeld ?_ ?_
              rotate_left
              · (intro w' hS'; go_simp <;> (with_reducible rfl))
              simp only [Act.put, List.getElem_toArray, List.getElem_cons_zero, List.getElem_cons_succ, List.setIfInBounds_toArray, List.set_cons_zero, List.set_cons_succ]
              refine held_q (v := ?_) (i := 3) rfl (by kernel_rfl) (by kernel_rfl) (by kernel_rfl) (fun _ _ _ h => h) (by rfl) hHeld ?_ ?_
              rotate_left
              · (intro w' hS'; go_simp <;> (with_reducible rfl))
              simp only [Act.put, List.getElem_toArray, List.getElem_cons_zero, List.getElem_cons_succ, List.setIfInBounds_toArray, List.set_cons_zero, List.set_cons_succ]
              refine held_q (i := 4) rfl (by kernel_rfl) (by kernel_rfl) (by kernel_rfl) (fun _ _ _ h => h) (by rfl) hHeld (fun w' hS' => exec_conv 25 9 _ rfl rfl (cv1 w' hS')) ?_
              simp only [Act.put, List.getElem_toArray, List.getElem_cons_zero, List.getElem_cons_succ, List.setIfInBounds_toArray, List.set_cons_zero, List.set_cons_succ]
              refine held_q (v := ?_) (i := 5) rfl (by kernel_rfl) (by kernel_rfl) (by kernel_rfl) (fun _ _ _ h => h) (by rfl) hHeld ?_ ?_
              rotate_left
              · (intro w' hS'; go_simp <;> (with_reducible rfl))
              simp only [Act.put, List.getElem_toArray, List.getElem_cons_zero, List.getElem_cons_succ, List.setIfInBounds_toArray, List.set_cons_zero, List.set_cons_succ]
              refine held_q (v := ?_) (i := 6) rfl (by kernel_rfl) (by kernel_rfl) (by kernel_rfl) (fun _ _ _ h => h) (by rfl) hHeld ?_ ?_
              rotate_left
              · (intro w' hS'; go_simp <;> (with_reducible rfl))
              simp only [Act.put, List.getElem_toArray, List.getElem_cons_zero, List.getElem_cons_succ, List.setIfInBounds_toArray, List.set_cons_zero, List.set_cons_succ]
              refine held_q (v := ?_) (i := 7) rfl (by kernel_rfl) (by kernel_rfl) (by kernel_rfl) (fun _ _ _ h => h) (by rfl) hHeld ?_ ?_
              rotate_left
              · (intro w' hS'; go_simp <;> (with_reducible rfl))
              simp only [Act.put, List.getElem_toArray, List.getElem_cons_zero, List.getElem_cons_succ, List.setIfInBounds_toArray, List.set_cons_zero, List.set_cons_succ]
              refine held_q (v := ?_) (i := 8) rfl (by kernel_rfl) (by kernel_rfl) (by kernel_rfl) (fun _ _ _ h => h) (by rfl) hHeld ?_ ?_
              rotate_left
              · (intro w' hS'; go_simp <;> (with_reducible rfl))
              simp only [Act.put, List.getElem_toArray, List.getElem_cons_zero, List.getElem_cons_succ, List.setIfInBounds_toArray, List.set_cons_zero, List.set_cons_succ]
              refine held_q (v := ?_) (i := 9) rfl (by kernel_rfl) (by kernel_rfl) (by kernel_rfl) (fun _ _ _ h => h) (by rfl) hHeld ?_ ?_
              rotate_left
              · (intro w' hS'; go_simp <;> (with_reducible rfl))
              simp only [Act.put, List.getElem_toArray, List.getElem_cons_zero, List.getElem_cons_succ, List.setIfInBounds_toArray, List.set_cons_zero, List.set_cons_succ]
              refine held_q (i := 10) rfl (by kernel_rfl) (by kernel_rfl) (by kernel_rfl) (fun _ _ _ h => h) (by rfl) hHeld (fun w' hS' => exec_conv 25 9 _ rfl rfl (cv2 w' hS')) ?_
              simp only [Act.put, List.getElem_toArray, List.getElem_cons_zero, List.getElem_cons_succ, List.setIfInBounds_toArray, List.set_cons_zero, List.set_cons_succ]
              refine held_q (v := ?_) (i := 11) rfl (by kernel_rfl) (by kernel_rfl) (by kernel_rfl) (fun _ _ _ h => h) (by rfl) hHeld ?_ ?_
              rotate_left
              · (intro w' hS'; go_simp <;> (with_reducible rfl))
              simp only [Act.put, List.getElem_toArray, List.getElem_cons_zero, List.getElem_cons_succ, List.setIfInBounds_toArray, List.set_cons_zero, List.set_cons_succ]
              refine held_q (v := ?_) (i := 12) rfl (by kernel_rfl) (by kernel_rfl) (by kernel_rfl) (fun _ _ _ h => h) (by rfl) hHeld ?_ ?_
              rotate_left
              · (intro w' hS'; go_simp <;> (with_reducible rfl))
              simp only [Act.put, List.getElem_toArray, List.getElem_cons_zero, List.getElem_cons_succ, List.setIfInBounds_toArray, List.set_cons_zero, List.set_cons_succ]
              refine wpAnyH_done (by kernel_rfl) ?_ _
              go_wp2_with fail
              go_roundw
              case rel => exact ⟨k + 1, by omega, by go_num, (hkr.trans k7).trans hHeld⟩
              case measure => simp [intOf]; omega
            · obtain rfl : k = la.length := by omega
              have KL := hkr
              have KLH := Lib.hid hkr
              clear HIN hKr hkr
              have HIN := HIM
              clear HIM
              go_wp2_with fail
              rw [rounds_succ]
              generalize wr = wr0 at KL KLH ⊢
              go_wp2_with (first
                | (refine wpl_val rfl (exec_index 47 _ _ rfl rfl rfl (idx1 _ _ _)) ?_))
              go_loopw [53] (fun i wr => ∃ k : Nat, k ≤ (lb).length ∧ i = .int .i64 k ∧ Kept (fun _ => False) W6 wr) (fun i _ => (lb).length - (intOf i).toNat)
              case atStart => exact ⟨0, by omega, rfl, KL⟩
              case round =>
                obtain ⟨k, hk, rfl, hkr⟩ := hrel
                have hKr := K6.trans hkr
                by_cases hlt : k < (lb).length
                · have hfa : (lb)[k]? = some (lb)[k] := List.getElem?_eq_getElem hlt
                  generalize (lb)[k] = f at hfa
                  obtain ⟨_, b1, o1, y, rfl, hbl, hrx, hB⟩ := ((hb).kept hKr).file hfa
                  obtain ⟨a3, c3, rfl⟩ := hB.slc
                  have q0 : wr.cell? ⟨b1, o1 + k * 2, none⟩ = some (.string f.path) := hrx 0 _ rfl
                  have hff := ((mayIs hmb).file f (List.mem_of_getElem? hfa)).2.1
                  have HFA := Lib.hid hfa
                  clear hfa
                  go_wp2_with fail
                  refine (get_ct (h46.kept hkr) f.path).mono ?_
                  rintro e W7 ⟨hg, k7⟩
                  obtain ⟨v7, rfl, h7⟩ := get_is hg hmo (HIN.out f (List.mem_of_getElem? HFA.out)) rfl
                  clear hg
                  obtain ⟨a7, c7, hv7⟩ := h7.slc
                  subst hv7
                  have q1 : ∀ w', Kept (fun _ => False) W7 w' → w'.cell? ⟨b1, o1 + k * 2 + 1, none⟩ = some (.slice a3 f.bytes.length c3) := fun w' q => ((k7.trans q).cell (p := ⟨b1, o1 + k * 2 + 1, none⟩) hbl not_false).trans (hrx 1 _ rfl)
                  have cv1 := fun w' (q : Kept (fun _ => False) W7 w') => conv_str (h7.kept q)
                  have cv2 := fun w' (q : Kept (fun _ => False) W7 w') => conv_str (hB.kept (k7.trans q))
                  have nfb : (f.bytes != f.bytes) = false := by simp
                  clear hrx hB
                  go_wp2_with fail
                  refine wp_region_held_drew (S := (Kept (fun _ => False) W7)) (by kernel_rfl) ((Kept.refl _ W7).drew) (fun hHeld => ?_)
                  refine held_q (v := ?_) (i := 0) rfl (by kernel_rfl) (by kernel_rfl) (by kernel_rfl) (fun _ _ _ h => h) (by rfl) hHeld ?_ ?_
                  rotate_left
                  · (intro w' hS'; go_simp <;> (with_reducible rfl))
                  simp only [Act.put, List.getElem_toArray, List.getElem_cons_zero, List.getElem_cons_succ, List.setIfInBounds_toArray, List.set_cons_zero, List.set_cons_succ]
                  refine held_q (v := ?_) (i := 1) rfl (by kernel_rfl) (by kernel_rfl) (by kernel_rfl) (fun _ _ _ h => h) (by rfl) hHeld ?_ ?_
                  rotate_left
                  · (intro w' hS'; go_simp <;> (with_reducible rfl))
                  simp only [Act.put, List.getElem_toArray, List.getElem_cons_zero, List.getElem_cons_succ, List.setIfInBounds_toArray, List.set_cons_zero, List.set_cons_succ]
                  refine held_q (v := ?_) (i := 2) rfl (by kernel_rfl) (by kernel_rfl) (by kernel_rfl) (fun _ _ _ h => h) (by rfl) hHeld ?_ ?_
                  rotate_left
                  · (intro w' hS'; go_simp <;> (with_reducible rfl))
                  simp only [Act.put, List.getElem_toArray, List.getElem_cons_zero, List.getElem_cons_succ, List.setIfInBounds_toArray, List.set_cons_zero, List.set_cons_succ]
                  refine held_q (v := ?_) (i := 3) rfl (by kernel_rfl) (by kernel_rfl) (by kernel_rfl) (fun _ _ _ h => h) (by rfl) hHeld ?_ ?_
                  rotate_left
                  · (intro w' hS'; go_simp <;> (with_reducible rfl))
                  simp only [Act.put, List.getElem_toArray, List.getElem_cons_zero, List.getElem_cons_succ, List.setIfInBounds_toArray, List.set_cons_zero, List.set_cons_succ]
                  refine held_q (i := 4) rfl (by kernel_rfl) (by kernel_rfl) (by kernel_rfl) (fun _ _ _ h => h) (by rfl) hHeld (fun w' hS' => exec_conv 25 9 _ rfl rfl (cv1 w' hS')) ?_
                  simp only [Act.put, List.getElem_toArray, List.getElem_cons_zero, List.getElem_cons_succ, List.setIfInBounds_toArray, List.set_cons_zero, List.set_cons_succ]
                  refine held_q (v := ?_) (i := 5) rfl (by kernel_rfl) (by kernel_rfl) (by kernel_rfl) (fun _ _ _ h => h) (by rfl) hHeld ?_ ?_
                  rotate_left
                  · (intro w' hS'; go_simp <;> (with_reducible rfl))
                  simp only [Act.put, List.getElem_toArray, List.getElem_cons_zero, List.getElem_cons_succ, List.setIfInBounds_toArray, List.set_cons_zero, List.set_cons_succ]
                  refine held_q (v := ?_) (i := 6) rfl (by kernel_rfl) (by kernel_rfl) (by kernel_rfl) (fun _ _ _ h => h) (by rfl) hHeld ?_ ?_
                  rotate_left
                  · (intro w' hS'; go_simp <;> (with_reducible rfl))
                  simp only [Act.put, List.getElem_toArray, List.getElem_cons_zero, List.getElem_cons_succ, List.setIfInBounds_toArray, List.set_cons_zero, List.set_cons_succ]
                  refine held_q (v := ?_) (i := 7) rfl (by kernel_rfl) (by kernel_rfl) (by kernel_rfl) (fun _ _ _ h => h) (by rfl) hHeld ?_ ?_
                  rotate_left
                  · (intro w' hS'; go_simp <;> (with_reducible rfl))
                  simp only [Act.put, List.getElem_toArray, List.getElem_cons_zero, List.getElem_cons_succ, List.setIfInBounds_toArray, List.set_cons_zero, List.set_cons_succ]
                  refine held_q (v := ?_) (i := 8) rfl (by kernel_rfl) (by kernel_rfl) (by kernel_rfl) (fun _ _ _ h => h) (by rfl) hHeld ?_ ?_
                  rotate_left
                  · (intro w' hS'; go_simp <;> (with_reducible rfl))
                  simp only [Act.put, List.getElem_toArray, List.getElem_cons_zero, List.getElem_cons_succ, List.setIfInBounds_toArray, List.set_cons_zero, List.set_cons_succ]
                  refine held_q (v := ?_) (i := 9) rfl (by kernel_rfl) (by kernel_rfl) (by kernel_rfl) (fun _ _ _ h => h) (by rfl) hHeld ?_ ?_
                  rotate_left
                  · (intro w' hS'; go_simp <;> (with_reducible rfl))
                  simp only [Act.put, List.getElem_toArray, List.getElem_cons_zero, List.getElem_cons_succ, List.setIfInBounds_toArray, List.set_cons_zero, List.set_cons_succ]
                  refine held_q (i := 10) rfl (by kernel_rfl) (by kernel_rfl) (by kernel_rfl) (fun _ _ _ h => h) (by rfl) hHeld (fun w' hS' => exec_conv 25 9 _ rfl rfl (cv2 w' hS')) ?_
                  simp only [Act.put, List.getElem_toArray, List.getElem_cons_zero, List.getElem_cons_succ, List.setIfInBounds_toArray, List.set_cons_zero, List.set_cons_succ]
                  refine held_q (v := ?_) (i := 11) rfl (by kernel_rfl) (by kernel_rfl) (by kernel_rfl) (fun _ _ _ h => h) (by rfl) hHeld ?_ ?_
                  rotate_left
                  · (intro w' hS'; go_simp <;> (with_reducible rfl))
                  simp only [Act.put, List.getElem_toArray, List.getElem_cons_zero, List.getElem_cons_succ, List.setIfInBounds_toArray, List.set_cons_zero, List.set_cons_succ]
                  refine held_q (v := ?_) (i := 12) rfl (by kernel_rfl) (by kernel_rfl) (by kernel_rfl) (fun _ _ _ h => h) (by rfl) hHeld ?_ ?_
                  rotate_left
                  · (intro w' hS'; go_simp <;> (with_reducible rfl))
                  simp only [Act.put, List.getElem_toArray, List.getElem_cons_zero, List.getElem_cons_succ, List.setIfInBounds_toArray, List.set_cons_zero, List.set_cons_succ]
                  refine wpAnyH_done (by kernel_rfl) ?_ _
                  go_wp2_with fail
                  go_roundw
                  case rel => exact ⟨k + 1, by omega, by go_num, (hkr.trans k7).trans hHeld⟩
                  case measure => simp [intOf]; omega
                · obtain rfl : k = lb.length := by omega
                  have hol : o.length = la.length + lb.length := by rw [hjd.perm.length_eq, List.length_append]
                  have wl : IntKind.i64.wrap ((la.length : Int) + (lb.length : Int)) = (o.length : Int) := by rw [IntWalk.i64_in _ (by omega)]; omega
                  have eol : ((o.length : Int) == (o.length : Int)) = true := by simp
                  clear hol
                  go_wp2_with fail
                  rw [rounds_succ]
                  go_wp2_with fail
                  refine (known_ct _).mono ?_
                  rintro e W9 ⟨rfl, k9⟩
                  go_wp2_with fail
                  go_ret
                  exact ⟨rfl, (K6.trans hkr).trans k9⟩
end Go.Proofs.Ytehpaddddiigbaa
