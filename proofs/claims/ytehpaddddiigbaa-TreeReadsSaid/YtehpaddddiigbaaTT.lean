/- The document's Read. -/
import Derived.Test.YtehpaddddiigbaaTN
import Derived.Test.YtehpaddddiigbaaTS
namespace Go.Proofs.Ytehpaddddiigbaa
open Go.RowKit
set_option linter.unusedSimpArgs false
set_option linter.unusedVariables false

/-- Where the files end. -/
def finR (l : List UInt8) (fs0 : List FileE) (i m : Nat) : Option (List FileE × Nat) :=
  match filesS m (l.drop i) with
  | none => none
  | some (fs, j) => some (fs0 ++ fs, i + j)
theorem finR_zero (l : List UInt8) (fs0 : List FileE) (i : Nat) : finR l fs0 i 0 = some (fs0, i) := by
  unfold finR filesS; simp
theorem finR_none1 {l : List UInt8} {fs0 : List FileE} {i m : Nat} (h : bytesS (l.drop i) 40 = none) : finR l fs0 i (m + 1) = none := by
  unfold finR filesS; rw [h]
theorem finR_none2 {l : List UInt8} {fs0 : List FileE} {i m k1 : Nat} {p : List UInt8} (h : bytesS (l.drop i) 40 = some (p, k1)) (h2 : bytesS (l.drop (i + k1)) 2000 = none) : finR l fs0 i (m + 1) = none := by
  unfold finR filesS; rw [h]; dsimp only; rw [List.drop_drop, h2]
theorem finR_some {l : List UInt8} {fs0 : List FileE} {i m k1 k2 : Nat} {p x : List UInt8} (h : bytesS (l.drop i) 40 = some (p, k1)) (h2 : bytesS (l.drop (i + k1)) 2000 = some (x, k2)) :
    finR l fs0 i (m + 1) = finR l (fs0 ++ [⟨⟨p.toArray⟩, x⟩]) (i + k1 + k2) m := by
  unfold finR
  conv => lhs; unfold filesS
  rw [h]; dsimp only; rw [List.drop_drop, h2]; dsimp only; rw [List.drop_drop, Nat.add_assoc]
  cases filesS m (l.drop (i + (k1 + k2))) with
  | none => rfl
  | some fk =>
    obtain ⟨fs, j⟩ := fk
    dsimp only
    rw [List.append_assoc, List.singleton_append, show i + (k1 + k2 + j) = i + (k1 + k2) + j by omega]
theorem readS_fin {l : List UInt8} {n k : Nat} (hu : uintS l = some (n, k)) (h16 : ¬ 16 < n) : readS l = match finR l [] k n with
    | none => none
    | some (fs, j) => if j = l.length ∧ mayB fs = true then some fs else none := by
  unfold readS finR
  rw [hu]
  dsimp only
  rw [if_neg h16]
  cases filesS n (l.drop k) with
  | none => rfl
  | some fk => obtain ⟨fs, j⟩ := fk; rfl
/-- Where the files end all bytes are told. -/
theorem finR_raw {l : List UInt8} {n k j : Nat} {fs : List FileE} (hu : uintS l = some (n, k)) (hf : finR l [] k n = some (fs, j)) : (rawL fs == l) = (j == l.length) := by
  unfold finR at hf
  cases hg : filesS n (l.drop k) with
  | none => rw [hg] at hf; cases hf
  | some gk =>
    obtain ⟨gs, q⟩ := gk
    rw [hg] at hf
    dsimp only at hf
    injection hf with hf; injection hf with h1 h2
    rw [List.nil_append] at h1
    subst h1; subst h2
    obtain ⟨e1, e2, e4⟩ := filesS_form n _ gs q hg
    have e3 := uintS_form hu
    have hk := (uintS_le hu).1
    rw [List.length_drop] at e4
    have e5 : rawL gs ++ l.drop (k + q) = l := by
      unfold rawL
      rw [List.drop_drop] at e2
      rw [e1, List.append_assoc, e2, e3]
    have e6 := congrArg List.length e5
    rw [List.length_append, List.length_drop] at e6
    by_cases hq : k + q = l.length
    · rw [List.drop_eq_nil_of_le (by omega), List.append_nil] at e5
      rw [e5, hq]; simp
    · have h1 : (rawL gs == l) = false := by
        rw [beq_eq_false_iff_ne]
        intro e
        rw [e] at e6
        omega
      rw [h1]
      symm
      simpa using hq
theorem BOut.any {w0 w : World} {i : Nat} {res : Option (List UInt8 × Nat)} {e : Ending} (h : BOut w0 w i res e) : ∃ a n c j x, e = .returned (.tuple #[.slice a n c, .int .i64 j, .int .i64 x]) := by
  cases res with
  | none => obtain ⟨x, _, rfl⟩ := h; exact ⟨_, _, _, _, _, rfl⟩
  | some dk =>
    obtain ⟨ds, k⟩ := dk
    obtain ⟨x, rfl, ho⟩ := h
    obtain ⟨a, c, rfl⟩ := row_form ho
    exact ⟨_, _, _, _, _, rfl⟩

set_option maxRecDepth 100000 in
set_option maxHeartbeats 4000000 in
theorem rRead_ct {w : World} {v : Value} {l : List UInt8} (h : ByAt w v l) (hl : l.length ≤ 100000) :
    Calls Try.prog 13 #[v] w fun e w' => ReadOut w (readS l) e w' := by
  have uc := rUint_ct h (i := 0) (by omega) hl
  rw [List.drop_zero] at uc
  have bc := fun (w' : World) (q : Kept (fun _ => False) w w') (i : Nat) (hi : i ≤ l.length) => rBytes_ct (h.kept q) hi hl (m := 40) (by omega)
  have bc2 := fun (w' : World) (q : Kept (fun _ => False) w w') (i : Nat) (hi : i ≤ l.length) => rBytes_ct (h.kept q) hi hl (m := 2000) (by omega)
  have cb := fun (w' : World) (q : Kept (fun _ => False) w w') => conv_str (h.kept q)
  generalize hres0 : readS l = res
  obtain ⟨a, c, hv⟩ := h.slc
  subst hv
  cases hu : uintS l with
  | none =>
    rw [hu] at uc
    unfold UOut at uc
    dsimp only at uc
    have HR : Hid (res = none) := by unfold Hid; rw [← hres0]; unfold readS; rw [hu]
    clear hu bc bc2 hres0 cb
    go_enter Try.func13, Try.ntmps13
    go_wp2_with fail
    refine uc.mono ?_
    rintro e W ⟨hW, x, hx, rfl⟩
    subst hW
    go_wp2_with fail
    go_ret2
    exact ReadOut.no HR.out (Kept.refl _ _)
  | some nk =>
    obtain ⟨n, k⟩ := nk
    obtain ⟨hk, hn8⟩ := uintS_le hu
    rw [hu] at uc
    unfold UOut at uc
    dsimp only at uc
    rw [Nat.zero_add] at uc
    by_cases h16 : 16 < n
    · have HR : Hid (res = none) := by unfold Hid; rw [← hres0]; unfold readS; rw [hu]; dsimp only; rw [if_pos h16]
      have d16 : decide ((16 : Int) < (n : Int)) = true := decide_eq_true (by omega)
      have h16i : (16 : Int) < n := by omega
      clear hu bc bc2 hres0 cb
      go_enter Try.func13, Try.ntmps13
      go_wp2_with fail
      refine uc.mono ?_
      rintro e W ⟨hW, rfl⟩
      subst hW
      go_wp2_with fail
      go_ret2
      exact ReadOut.no HR.out (Kept.refl _ _)
    have d16 : decide ((16 : Int) < (n : Int)) = false := decide_eq_false (by omega)
    have d16n : decide (16 < n) = false := decide_eq_false (by omega)
    have wn : IntKind.i64.wrap (n : Int) = n := IntWalk.i64_in _ (by omega)
    have RAW := Lib.hid (fun fs j (hf : finR l [] k n = some (fs, j)) => finR_raw hu hf)
    have HRS : Hid ((match finR l [] k n with
      | none => none
      | some (fs, j) => if j = l.length ∧ mayB fs = true then some fs else none) = res) := by unfold Hid; rw [← hres0, readS_fin hu h16]
    have hn16 : n ≤ 16 := by omega
    clear hu hres0
    go_enter Try.func13, Try.ntmps13
    go_wp2_with fail
    refine uc.mono ?_
    rintro e W ⟨hW, rfl⟩
    subst hW
    go_wp2_with fail
    go_loopw [5, 7, 8] (fun x5 x7 x8 wr => ∃ (q i : Nat) (ps : List (ByteArray × Value)) (fs0 : List FileE), q ≤ n ∧ x8 = .int .i64 q ∧ x5 = .int .i64 i ∧ i ≤ l.length ∧ wr.ownsRow W.heap.size 43 2 x7 ps.length (prs ps) ∧ PairsO wr ps fs0 ∧ fs0.length = q ∧ Kept (fun _ => False) W wr ∧ finR l fs0 i (n - q) = finR l [] k n) (fun _ _ x8 _ => n - (intOf x8).toNat)
    case atStart => exact ⟨0, k, [], [], by omega, rfl, rfl, hk, World.ownsRow_nil _ _ _ _, ⟨rfl, fun j f hf => by simp at hf⟩, rfl, Kept.refl _ _, rfl⟩
    case round =>
      obtain ⟨q, i, ps, fs0, hq, rfl, rfl, hi, ho, hp, hfl, hkr, hrs⟩ := hrel
      obtain ⟨ao, co, hvo⟩ := row_form ho
      subst hvo
      have HF := Lib.hid hrs
      have hpl := hp.1
      have hps16 : ps.length ≤ 16 := by omega
      have HPL := Lib.hid hpl
      have HFL := Lib.hid hfl
      clear hrs hpl hfl
      by_cases hlt : q < n
      · obtain ⟨m, hm⟩ : ∃ m, n - q = m + 1 := ⟨n - q - 1, by omega⟩
        have hqn : (q : Int) < n := by omega
        have HM := Lib.hid hm
        clear hm
        have b1 := bc wr hkr i hi
        cases hb1 : bytesS (l.drop i) 40 with
        | none =>
          rw [hb1] at b1
          have hr0 : res = none := by rw [← HRS.out, ← HF.out, HM.out, finR_none1 hb1]
          have HR := Lib.hid hr0
          clear hb1 bc ho hp hr0
          go_wp2_with fail
          refine b1.mono ?_
          rintro e W1 ⟨k1, x, hx, rfl⟩
          have b2 := bc2 W1 (hkr.trans k1) 0 (by omega)
          generalize bytesS (l.drop 0) 2000 = r2 at b2
          clear bc2
          go_wp2_with fail
          refine b2.mono ?_
          rintro e W2 ⟨k2, hb2⟩
          obtain ⟨a2, n2, c2, j2, x2, rfl⟩ := hb2.any
          clear hb2
          go_wp2_with fail
          go_ret2
          exact ReadOut.no HR.out ((hkr.trans k1).trans k2)
        | some pk =>
          obtain ⟨p, k1⟩ := pk
          obtain ⟨hk1, hp40⟩ := bytesS_le hb1
          rw [List.length_drop] at hk1
          have hi1 : i + k1 ≤ l.length := by omega
          rw [hb1] at b1
          unfold BOut at b1
          dsimp only at b1
          go_wp2_with fail
          refine b1.mono ?_
          rintro e W1 ⟨kw1, x1, rfl, ho1⟩
          have kk1 := hkr.trans kw1
          have b2 := bc2 W1 kk1 (i + k1) hi1
          obtain ⟨ax, cx, hx1⟩ := row_form ho1
          subst hx1
          have ho1' := own_base ho1 (Nat.zero_le _)
          obtain ⟨ij, hij⟩ : ∃ ij, i + k1 = ij := ⟨_, rfl⟩
          have HIJ := Lib.hid hij
          rw [hij] at b2 hi1
          cases hb2 : bytesS (l.drop ij) 2000 with
          | none =>
            rw [hb2] at b2
            unfold BOut at b2
            dsimp only at b2
            have hr0 : res = none := by rw [← HRS.out, ← HF.out, HM.out, finR_none2 hb1 (by rw [hij]; exact hb2)]
            have HR := Lib.hid hr0
            clear hb1 hb2 bc bc2 ho hp b1 ho1 ho1' hr0
            try rw [hij]
            clear hij
            go_wp2_with fail
            refine b2.mono ?_
            rintro e W2 ⟨k2, x, hx, rfl⟩
            go_wp2_with fail
            go_ret2
            exact ReadOut.no HR.out (kk1.trans k2)
          | some xk =>
            obtain ⟨xs, k2⟩ := xk
            obtain ⟨hk2, hx2000⟩ := bytesS_le hb2
            rw [List.length_drop] at hk2
            rw [hb2] at b2
            unfold BOut at b2
            dsimp only at b2
            have hnext : finR l (fs0 ++ [⟨⟨p.toArray⟩, xs⟩]) (ij + k2) (n - (q + 1)) = finR l [] k n := by
              rw [← HF.out, HM.out, finR_some hb1 (by rw [hij]; exact hb2), hij]
              have := HM.out
              congr 1; omega
            have HN := Lib.hid hnext
            clear hb1 hb2 bc bc2 b1 hnext
            try rw [hij]
            clear hij
            go_wp2_with fail
            refine b2.mono ?_
            rintro e W2 ⟨kw2, x2, rfl, ho2⟩
            have kk2 := kk1.trans kw2
            obtain ⟨ay, cy, hx2⟩ := row_form ho2
            subst hx2
            have ho2' := own_base ho2 (Nat.zero_le _)
            have cs := conv_str (ByAt.own (row_kept ho1' kw2))
            have hps40 : (⟨p.toArray⟩ : ByteArray).size = p.length := by simp [ByteArray.size]
            have bf := build_f ⟨p.toArray⟩ ay xs.length cy W2
            have bs := bslice_f1 ⟨p.toArray⟩ ay xs.length cy W2
            have k3 : Kept (fun _ => False) W2 (W2.alloc (.cells #[.string ⟨p.toArray⟩, .slice ay xs.length cy] 43)) := (Kept.refl _ W2).alloc _
            have hr3 := heap_last W2 (.cells #[.string ⟨p.toArray⟩, .slice ay xs.length cy] 43)
            generalize W2.alloc (.cells #[.string ⟨p.toArray⟩, .slice ay xs.length cy] 43) = W3 at bs k3 hr3
            have hoo := row_kept (row_kept (row_kept ho kw1) kw2) k3
            obtain ⟨v', w', ap, ho', hg'⟩ := app_files hoo (ad := ⟨W2.heap.size, 0, none⟩) (m := 1) (c := 1) (news := prs [((⟨p.toArray⟩ : ByteArray), Value.slice ay xs.length cy)]) rfl (fun j u hu => by
              rw [Addr.add_mid, Nat.zero_add, cell_of_row _ _ _ _ _ _ hr3]
              simpa [prs] using hu) (fun u hu => by simp [prs] at hu; rcases hu with rfl | rfl <;> rfl) (by omega) (Nat.le_trans kk2.size k3.size) 27 27 Try.underlying27
            have kk3 : Kept (fun _ => False) W w' := grown_kept (kk2.trans k3) hg' (fun k e => (World.ownsRow.lt hoo k e).1)
            have hp3 := (((hp.kept kw1).kept kw2).kept k3).snoc (f := ⟨⟨p.toArray⟩, xs⟩) (x := .slice ay xs.length cy) (by simp only [hps40, maxLen]; omega) (row_kept ho2' k3)
            have hp4 := hp3.grown hoo hg'
            rw [← prs_app] at ho'
            obtain ⟨a', c', hv'⟩ := row_form ho'
            subst hv'
            have HP4 := Lib.hid hp4
            have HO4 := Lib.hid ho'
            clear hp4 hp3 hp ho ho1 ho1' ho2 ho2' hoo hg' hr3 k3 ho' hps40
            have hik : ij + k2 ≤ l.length := by omega
            go_wp2_with (first
              | (with_reducible refine wpl_build 43 _ rfl rfl ?_ bf ?_
                 · (go_simp <;> rfl)
                 simp only [Act.put, List.getElem_toArray, List.getElem_cons_zero, List.getElem_cons_succ, List.setIfInBounds_toArray, List.set_cons_zero, List.set_cons_succ])
              | (with_reducible refine wpl_bslice 27 _ _ rfl rfl ?_ bs ?_
                 · (go_simp <;> rfl)
                 simp only [Act.put, List.getElem_toArray, List.getElem_cons_zero, List.getElem_cons_succ, List.setIfInBounds_toArray, List.set_cons_zero, List.set_cons_succ])
              | (refine wpl_val rfl (exec_append 27 _ _ rfl rfl rfl ap) ?_))
            go_roundw
            case rel => exact ⟨q + 1, ij + k2, _, _, by omega, by go_num, by simp, hik, by rw [List.length_append]; exact HO4.out, HP4.out, by rw [List.length_append, HFL.out]; rfl, kk3, HN.out⟩
            case measure => simp [intOf]; omega
      · obtain rfl : q = n := by omega
        have hfin : finR l [] k q = some (fs0, i) := by rw [← HF.out, Nat.sub_self, finR_zero]
        have hraw := RAW.out _ _ hfin
        have hrz : (if i = l.length ∧ mayB fs0 = true then some fs0 else none) = res := by rw [← HRS.out, hfin]
        have HRZ := Lib.hid hrz
        have ht := TreeAt.of_row ho hp.at
        rw [HPL.out] at ht
        have hpe : ps.length = fs0.length := HPL.out
        rw [hpe]
        have mc := fun (w' : World) (q : Kept (fun _ => False) wr w') => rMay_ct (ht.kept q)
        have cbr := fun (w' : World) (q : Kept (fun _ => False) wr w') => cb w' (hkr.trans q)
        clear hrz bc bc2 ho hp hfin hpe cb
        generalize hmb : mayB fs0 = mb at mc
        cases mb with
        | false =>
          have hr0 : res = none := by rw [← HRZ.out, if_neg (fun z => by rw [hmb] at z; cases z.2)]
          have HR := Lib.hid hr0
          clear hr0 hraw hmb
          go_wp2_with fail
          refine wp_region_held_drew (S := (Kept (fun _ => False) wr)) (by kernel_rfl) ((Kept.refl _ wr).drew) (fun hHeld => ?_)
          refine held_q (v := ?_) (i := 0) rfl (by kernel_rfl) (by kernel_rfl) (by kernel_rfl) (fun _ _ _ h => h) (by rfl) hHeld ?_ ?_
          rotate_left
          · (intro w' hS'; go_simp <;> (with_reducible rfl))
          simp only [Act.put, List.getElem_toArray, List.getElem_cons_zero, List.getElem_cons_succ, List.setIfInBounds_toArray, List.set_cons_zero, List.set_cons_succ]
          refine held_c (i := 1) (f := 27) (args := #[.slice ao fs0.length co]) (by kernel_rfl) rfl (by rfl) ?_ (mc _ hHeld) ?_
          · (go_simp <;> rfl)
          rintro e W5 ⟨rfl, kq⟩
          have hHeld := hHeld.trans kq
          refine ⟨_, rfl, hHeld, ?_⟩
          simp only [Act.put, List.getElem_toArray, List.getElem_cons_zero, List.getElem_cons_succ, List.setIfInBounds_toArray, List.set_cons_zero, List.set_cons_succ]
          refine held_q (v := ?_) (i := 2) rfl (by kernel_rfl) (by kernel_rfl) (by kernel_rfl) (fun _ _ _ h => h) (by rfl) hHeld ?_ ?_
          rotate_left
          · (intro w' hS'; go_simp <;> (with_reducible rfl))
          simp only [Act.put, List.getElem_toArray, List.getElem_cons_zero, List.getElem_cons_succ, List.setIfInBounds_toArray, List.set_cons_zero, List.set_cons_succ]
          refine held_q (v := ?_) (i := 3) rfl (by kernel_rfl) (by kernel_rfl) (by kernel_rfl) (fun _ _ _ h => h) (by rfl) hHeld ?_ ?_
          rotate_left
          · (intro w' hS'; go_simp <;> (with_reducible rfl))
          simp only [Act.put, List.getElem_toArray, List.getElem_cons_zero, List.getElem_cons_succ, List.setIfInBounds_toArray, List.set_cons_zero, List.set_cons_succ]
          refine held_no (i := 4) rfl (by kernel_rfl) (by kernel_rfl) (by kernel_rfl) (fun _ _ _ h => h) (by rfl) hHeld ?_
          simp only [Act.put, List.getElem_toArray, List.getElem_cons_zero, List.getElem_cons_succ, List.setIfInBounds_toArray, List.set_cons_zero, List.set_cons_succ]
          refine held_no (i := 5) rfl (by kernel_rfl) (by kernel_rfl) (by kernel_rfl) (fun _ _ _ h => h) (by rfl) hHeld ?_
          simp only [Act.put, List.getElem_toArray, List.getElem_cons_zero, List.getElem_cons_succ, List.setIfInBounds_toArray, List.set_cons_zero, List.set_cons_succ]
          refine held_no (i := 6) rfl (by kernel_rfl) (by kernel_rfl) (by kernel_rfl) (fun _ _ _ h => h) (by rfl) hHeld ?_
          simp only [Act.put, List.getElem_toArray, List.getElem_cons_zero, List.getElem_cons_succ, List.setIfInBounds_toArray, List.set_cons_zero, List.set_cons_succ]
          refine held_no (i := 7) rfl (by kernel_rfl) (by kernel_rfl) (by kernel_rfl) (fun _ _ _ h => h) (by rfl) hHeld ?_
          simp only [Act.put, List.getElem_toArray, List.getElem_cons_zero, List.getElem_cons_succ, List.setIfInBounds_toArray, List.set_cons_zero, List.set_cons_succ]
          refine held_no (i := 8) rfl (by kernel_rfl) (by kernel_rfl) (by kernel_rfl) (fun _ _ _ h => h) (by rfl) hHeld ?_
          simp only [Act.put, List.getElem_toArray, List.getElem_cons_zero, List.getElem_cons_succ, List.setIfInBounds_toArray, List.set_cons_zero, List.set_cons_succ]
          refine held_no (i := 9) rfl (by kernel_rfl) (by kernel_rfl) (by kernel_rfl) (fun _ _ _ h => h) (by rfl) hHeld ?_
          simp only [Act.put, List.getElem_toArray, List.getElem_cons_zero, List.getElem_cons_succ, List.setIfInBounds_toArray, List.set_cons_zero, List.set_cons_succ]
          refine held_q (v := ?_) (i := 10) rfl (by kernel_rfl) (by kernel_rfl) (by kernel_rfl) (fun _ _ _ h => h) (by rfl) hHeld ?_ ?_
          rotate_left
          · (intro w' hS'; go_simp <;> (with_reducible rfl))
          simp only [Act.put, List.getElem_toArray, List.getElem_cons_zero, List.getElem_cons_succ, List.setIfInBounds_toArray, List.set_cons_zero, List.set_cons_succ]
          refine wpAnyH_done (by kernel_rfl) ?_ _
          go_wp2_with fail
          go_ret2
          exact ReadOut.no HR.out (hkr.trans hHeld)
        | true =>
          have hmi := mayIs hmb
          have hl16 := hmi.len
          have rc := fun (w' : World) (q : Kept (fun _ => False) wr w') => rRaw_ct (ht.kept q) hl16 (fun f hf => ⟨(hmi.file f hf).2.1, (hmi.file f hf).2.2⟩)
          generalize rawL fs0 = R at rc hraw
          have HMB := Lib.hid hmb
          by_cases hil : i = l.length
          · have en : (R == l) = true := by rw [hraw, hil]; simp
            have hr0 : res = some fs0 := by rw [← HRZ.out, if_pos ⟨hil, hmb⟩]
            have HR := Lib.hid hr0
            clear hr0 hraw hil hmb hmi
            go_wp2_with fail
            refine wp_region_held_drew (S := (Kept (fun _ => False) wr)) (by kernel_rfl) ((Kept.refl _ wr).drew) (fun hHeld => ?_)
            refine held_q (v := ?_) (i := 0) rfl (by kernel_rfl) (by kernel_rfl) (by kernel_rfl) (fun _ _ _ h => h) (by rfl) hHeld ?_ ?_
            rotate_left
            · (intro w' hS'; go_simp <;> (with_reducible rfl))
            simp only [Act.put, List.getElem_toArray, List.getElem_cons_zero, List.getElem_cons_succ, List.setIfInBounds_toArray, List.set_cons_zero, List.set_cons_succ]
            refine held_c (i := 1) (f := 27) (args := #[.slice ao fs0.length co]) (by kernel_rfl) rfl (by rfl) ?_ (mc _ hHeld) ?_
            · (go_simp <;> rfl)
            rintro e W5 ⟨rfl, kq⟩
            have hHeld := hHeld.trans kq
            refine ⟨_, rfl, hHeld, ?_⟩
            simp only [Act.put, List.getElem_toArray, List.getElem_cons_zero, List.getElem_cons_succ, List.setIfInBounds_toArray, List.set_cons_zero, List.set_cons_succ]
            refine held_q (v := ?_) (i := 2) rfl (by kernel_rfl) (by kernel_rfl) (by kernel_rfl) (fun _ _ _ h => h) (by rfl) hHeld ?_ ?_
            rotate_left
            · (intro w' hS'; go_simp <;> (with_reducible rfl))
            simp only [Act.put, List.getElem_toArray, List.getElem_cons_zero, List.getElem_cons_succ, List.setIfInBounds_toArray, List.set_cons_zero, List.set_cons_succ]
            refine held_q (v := ?_) (i := 3) rfl (by kernel_rfl) (by kernel_rfl) (by kernel_rfl) (fun _ _ _ h => h) (by rfl) hHeld ?_ ?_
            rotate_left
            · (intro w' hS'; go_simp <;> (with_reducible rfl))
            simp only [Act.put, List.getElem_toArray, List.getElem_cons_zero, List.getElem_cons_succ, List.setIfInBounds_toArray, List.set_cons_zero, List.set_cons_succ]
            refine held_q (v := ?_) (i := 4) rfl (by kernel_rfl) (by kernel_rfl) (by kernel_rfl) (fun _ _ _ h => h) (by rfl) hHeld ?_ ?_
            rotate_left
            · (intro w' hS'; go_simp <;> (with_reducible rfl))
            simp only [Act.put, List.getElem_toArray, List.getElem_cons_zero, List.getElem_cons_succ, List.setIfInBounds_toArray, List.set_cons_zero, List.set_cons_succ]
            refine held_q (v := ?_) (i := 7) rfl (by kernel_rfl) (by kernel_rfl) (by kernel_rfl) (fun _ _ _ h => h) (by rfl) hHeld ?_ ?_
            rotate_left
            · (intro w' hS'; go_simp <;> (with_reducible rfl))
            simp only [Act.put, List.getElem_toArray, List.getElem_cons_zero, List.getElem_cons_succ, List.setIfInBounds_toArray, List.set_cons_zero, List.set_cons_succ]
            refine held_q (i := 8) rfl (by kernel_rfl) (by kernel_rfl) (by kernel_rfl) (fun _ _ _ h => h) (by rfl) hHeld (fun w' hS' => exec_conv 25 9 _ rfl rfl (cbr w' hS')) ?_
            simp only [Act.put, List.getElem_toArray, List.getElem_cons_zero, List.getElem_cons_succ, List.setIfInBounds_toArray, List.set_cons_zero, List.set_cons_succ]
            refine held_c (i := 5) (f := 37) (args := #[.slice ao fs0.length co]) (by kernel_rfl) rfl (by rfl) ?_ (rc _ hHeld) ?_
            · (go_simp <;> rfl)
            rintro e W6 ⟨v6, rfl, h6, k6⟩
            have hHeld := hHeld.trans k6
            refine ⟨_, rfl, hHeld, ?_⟩
            simp only [Act.put, List.getElem_toArray, List.getElem_cons_zero, List.getElem_cons_succ, List.setIfInBounds_toArray, List.set_cons_zero, List.set_cons_succ]
            refine held_v (i := 6) (by kernel_rfl) rfl (by rfl) (exec_conv 25 9 _ rfl rfl (conv_str h6)) (hHeld) (fun hHeld => ?_)
            simp only [Act.put, List.getElem_toArray, List.getElem_cons_zero, List.getElem_cons_succ, List.setIfInBounds_toArray, List.set_cons_zero, List.set_cons_succ]
            refine held_q (v := ?_) (i := 9) rfl (by kernel_rfl) (by kernel_rfl) (by kernel_rfl) (fun _ _ _ h => h) (by rfl) hHeld ?_ ?_
            rotate_left
            · (intro w' hS'; go_simp <;> (with_reducible rfl))
            simp only [Act.put, List.getElem_toArray, List.getElem_cons_zero, List.getElem_cons_succ, List.setIfInBounds_toArray, List.set_cons_zero, List.set_cons_succ]
            refine held_q (v := ?_) (i := 10) rfl (by kernel_rfl) (by kernel_rfl) (by kernel_rfl) (fun _ _ _ h => h) (by rfl) hHeld ?_ ?_
            rotate_left
            · (intro w' hS'; go_simp <;> (with_reducible rfl))
            simp only [Act.put, List.getElem_toArray, List.getElem_cons_zero, List.getElem_cons_succ, List.setIfInBounds_toArray, List.set_cons_zero, List.set_cons_succ]
            refine wpAnyH_done (by kernel_rfl) ?_ _
            go_wp2_with fail
            go_ret2
            exact ReadOut.yes HR.out (hkr.trans hHeld) (ht.kept hHeld)
          · have en : (R == l) = false := by rw [hraw]; simpa using hil
            have hr0 : res = none := by rw [← HRZ.out, if_neg (fun z => hil z.1)]
            have HR := Lib.hid hr0
            clear hr0 hraw hil hmb hmi
            go_wp2_with fail
            refine wp_region_held_drew (S := (Kept (fun _ => False) wr)) (by kernel_rfl) ((Kept.refl _ wr).drew) (fun hHeld => ?_)
            refine held_q (v := ?_) (i := 0) rfl (by kernel_rfl) (by kernel_rfl) (by kernel_rfl) (fun _ _ _ h => h) (by rfl) hHeld ?_ ?_
            rotate_left
            · (intro w' hS'; go_simp <;> (with_reducible rfl))
            simp only [Act.put, List.getElem_toArray, List.getElem_cons_zero, List.getElem_cons_succ, List.setIfInBounds_toArray, List.set_cons_zero, List.set_cons_succ]
            refine held_c (i := 1) (f := 27) (args := #[.slice ao fs0.length co]) (by kernel_rfl) rfl (by rfl) ?_ (mc _ hHeld) ?_
            · (go_simp <;> rfl)
            rintro e W5 ⟨rfl, kq⟩
            have hHeld := hHeld.trans kq
            refine ⟨_, rfl, hHeld, ?_⟩
            simp only [Act.put, List.getElem_toArray, List.getElem_cons_zero, List.getElem_cons_succ, List.setIfInBounds_toArray, List.set_cons_zero, List.set_cons_succ]
            refine held_q (v := ?_) (i := 2) rfl (by kernel_rfl) (by kernel_rfl) (by kernel_rfl) (fun _ _ _ h => h) (by rfl) hHeld ?_ ?_
            rotate_left
            · (intro w' hS'; go_simp <;> (with_reducible rfl))
            simp only [Act.put, List.getElem_toArray, List.getElem_cons_zero, List.getElem_cons_succ, List.setIfInBounds_toArray, List.set_cons_zero, List.set_cons_succ]
            refine held_q (v := ?_) (i := 3) rfl (by kernel_rfl) (by kernel_rfl) (by kernel_rfl) (fun _ _ _ h => h) (by rfl) hHeld ?_ ?_
            rotate_left
            · (intro w' hS'; go_simp <;> (with_reducible rfl))
            simp only [Act.put, List.getElem_toArray, List.getElem_cons_zero, List.getElem_cons_succ, List.setIfInBounds_toArray, List.set_cons_zero, List.set_cons_succ]
            refine held_q (v := ?_) (i := 4) rfl (by kernel_rfl) (by kernel_rfl) (by kernel_rfl) (fun _ _ _ h => h) (by rfl) hHeld ?_ ?_
            rotate_left
            · (intro w' hS'; go_simp <;> (with_reducible rfl))
            simp only [Act.put, List.getElem_toArray, List.getElem_cons_zero, List.getElem_cons_succ, List.setIfInBounds_toArray, List.set_cons_zero, List.set_cons_succ]
            refine held_q (v := ?_) (i := 7) rfl (by kernel_rfl) (by kernel_rfl) (by kernel_rfl) (fun _ _ _ h => h) (by rfl) hHeld ?_ ?_
            rotate_left
            · (intro w' hS'; go_simp <;> (with_reducible rfl))
            simp only [Act.put, List.getElem_toArray, List.getElem_cons_zero, List.getElem_cons_succ, List.setIfInBounds_toArray, List.set_cons_zero, List.set_cons_succ]
            refine held_q (i := 8) rfl (by kernel_rfl) (by kernel_rfl) (by kernel_rfl) (fun _ _ _ h => h) (by rfl) hHeld (fun w' hS' => exec_conv 25 9 _ rfl rfl (cbr w' hS')) ?_
            simp only [Act.put, List.getElem_toArray, List.getElem_cons_zero, List.getElem_cons_succ, List.setIfInBounds_toArray, List.set_cons_zero, List.set_cons_succ]
            refine held_c (i := 5) (f := 37) (args := #[.slice ao fs0.length co]) (by kernel_rfl) rfl (by rfl) ?_ (rc _ hHeld) ?_
            · (go_simp <;> rfl)
            rintro e W6 ⟨v6, rfl, h6, k6⟩
            have hHeld := hHeld.trans k6
            refine ⟨_, rfl, hHeld, ?_⟩
            simp only [Act.put, List.getElem_toArray, List.getElem_cons_zero, List.getElem_cons_succ, List.setIfInBounds_toArray, List.set_cons_zero, List.set_cons_succ]
            refine held_v (i := 6) (by kernel_rfl) rfl (by rfl) (exec_conv 25 9 _ rfl rfl (conv_str h6)) (hHeld) (fun hHeld => ?_)
            simp only [Act.put, List.getElem_toArray, List.getElem_cons_zero, List.getElem_cons_succ, List.setIfInBounds_toArray, List.set_cons_zero, List.set_cons_succ]
            refine held_q (v := ?_) (i := 9) rfl (by kernel_rfl) (by kernel_rfl) (by kernel_rfl) (fun _ _ _ h => h) (by rfl) hHeld ?_ ?_
            rotate_left
            · (intro w' hS'; go_simp <;> (with_reducible rfl))
            simp only [Act.put, List.getElem_toArray, List.getElem_cons_zero, List.getElem_cons_succ, List.setIfInBounds_toArray, List.set_cons_zero, List.set_cons_succ]
            refine held_q (v := ?_) (i := 10) rfl (by kernel_rfl) (by kernel_rfl) (by kernel_rfl) (fun _ _ _ h => h) (by rfl) hHeld ?_ ?_
            rotate_left
            · (intro w' hS'; go_simp <;> (with_reducible rfl))
            simp only [Act.put, List.getElem_toArray, List.getElem_cons_zero, List.getElem_cons_succ, List.setIfInBounds_toArray, List.set_cons_zero, List.set_cons_succ]
            refine wpAnyH_done (by kernel_rfl) ?_ _
            go_wp2_with fail
            go_ret2
            exact ReadOut.no HR.out (hkr.trans hHeld)
end Go.Proofs.Ytehpaddddiigbaa
