/- A line's words: line. -/
import Derived.Test.YtlheboafhgmbpaaDoorLJ
import Derived.Lib.OthersKept
import Derived.Laws.RangeAny
namespace Go.Proofs.YtlheboafhgmbpaaDoor
open Go.RowKit
set_option maxRecDepth 100000
set_option linter.unusedSimpArgs false
set_option linter.unusedVariables false

theorem stepR_bound {r r' : RdS} {c : Nat} {m : Bool} (h : r.stepR c = some (r', m)) : r'.st ≤ 4 ∧ r'.word.length ≤ r.word.length + 4 ∧ r'.words.length ≤ r.words.length + 1 := by
  have e1 : ∀ x : Nat, (Lib.encodeRune (x : Int)).length ≤ 4 := fun x => by rw [← Lib.runeCells_length]; exact (Lib.runeCells_le _).2
  have hput : ∀ n x, n ≤ 4 → (r.putR n x).st ≤ 4 ∧ (r.putR n x).word.length ≤ r.word.length + 4 ∧ (r.putR n x).words.length ≤ r.words.length + 1 := fun n x hn => by
    have := e1 x
    refine ⟨hn, ?_, by simp [RdS.putR]⟩
    simp only [RdS.putR, List.length_append]; omega
  unfold RdS.stepR at h
  repeat' split at h
  all_goals first
    | (cases h; done)
    | (injection h with h; injection h with h _; subst h; first | exact hput _ _ (by omega) | (simp [RdS.stop]; done) | (simp [RdS.stop]; omega))
theorem runL_fuel : ∀ (f : Nat) (l : List UInt8) (r : RdS), l.length ≤ f → runL f l r = runL l.length l r
  | 0, l, r, h => by
    obtain rfl := List.eq_nil_of_length_eq_zero (Nat.le_zero.1 h)
    rfl
  | f + 1, [], r, h => by rw [List.length_nil]; unfold runL; simp
  | f + 1, x :: l, r, h => by
    have hw := Lib.decodeL_width (x :: l)
    have ih := fun r' => runL_fuel f ((x :: l).drop (Lib.decodeL (x :: l)).2) r' (by rw [List.length_drop]; simp at h ⊢; omega)
    have ih2 := fun r' => runL_fuel l.length ((x :: l).drop (Lib.decodeL (x :: l)).2) r' (by rw [List.length_drop]; simp; omega)
    rw [List.length_cons]
    unfold runL
    rw [if_neg (by simp), if_neg (by simp)]
    cases r.stepR (Lib.decodeL (x :: l)).1 with
    | none => rfl
    | some p =>
      obtain ⟨r', m⟩ := p
      dsimp only
      rw [ih, ih2]
/-- The reader over what is left of a line. -/
def restL (l : List UInt8) (r : RdS) : Option RdS := runL l.length l r
theorem restL_nil (r : RdS) : restL [] r = some r := rfl
theorem restL_step {l : List UInt8} (hl : l ≠ []) (r : RdS) : restL l r = match r.stepR (Lib.decodeL l).1 with
    | none => none
    | some (r', more) => if more then restL (l.drop (Lib.decodeL l).2) r' else some r' := by
  unfold restL
  have hw := Lib.decodeL_width l
  cases l with
  | nil => exact absurd rfl hl
  | cons x l =>
    have ih2 := fun r' => runL_fuel l.length ((x :: l).drop (Lib.decodeL (x :: l)).2) r' (by rw [List.length_drop]; simp; omega)
    conv => lhs; rw [List.length_cons]; unfold runL
    rw [if_neg (by simp)]
    cases r.stepR (Lib.decodeL (x :: l)).1 with
    | none => rfl
    | some p =>
      obtain ⟨r', m⟩ := p
      dsimp only
      rw [ih2]
def lineR (l : List UInt8) : Option (List (List UInt8)) := finM (restL l ⟨0, [], []⟩)
theorem lineR_valid (l : List UInt8) (h : Lib.validD l = true) : lineR l = lineB l := by
  unfold lineR restL
  rw [runL_run l.length l _ (Nat.le_refl _) h, ← lineM_fin, lineM_lineB]
/-- A decoded rune is a rune. -/
theorem decode_ok (s : ByteArray) (pos : Nat) : (Utf8.decode s pos).1 ≤ 1114111 ∧ ((Utf8.decode s pos).1 < 55296 ∨ 57343 < (Utf8.decode s pos).1) := by
  rw [Lib.decode_at]
  have k0 := (s.get! pos).toNat_lt
  rcases Lib.decodeN_shape (s.size - pos) (s.get! pos).toNat (s.get! (pos + 1)).toNat (s.get! (pos + 2)).toNat (s.get! (pos + 3)).toNat with ⟨c, e⟩ | ⟨c1, c2, c3, cv, e⟩ | ⟨c1, c2, c3, c4, cv, cw, e⟩ | ⟨c1, c2, c3, c4, c5, cv, cw, e⟩ | e
  all_goals (rw [e]; dsimp only; omega)
theorem RS.out {w0 w w' : World} {R : Nat} (h : Kept (fun _ => False) w0 w) (k : Kept (RS w w0.heap.size R) w w') : Kept (fun _ => False) w0 w' :=
  h.trans' k (fun i hi e => by have := e.1; omega)
theorem RS.iter {w w' : World} {B R I : Nat} {s : ByteArray} {pos : Nat} (k : Kept (RS w B R) w w') (hI : w.heap[I]? = some (.stringIter s pos)) (hIR : I ≠ R) : w'.heap[I]? = some (.stringIter s pos) := by
  rw [k.block I (Array.getElem?_eq_some_iff.1 hI).1 (fun e => ?_)]
  · exact hI
  · rcases e.2 with e | ⟨c, fz, e⟩ | ⟨c, fz, e⟩
    · exact hIR e
    · rw [hI] at e; injection e with e; cases e
    · rw [hI] at e; injection e with e; cases e
theorem RdAt.iterAt {w : World} {B R I : Nat} {st : RdS} {s : ByteArray} {pos pos' : Nat} (h : RdAt w B R st) (hI : w.heap[I]? = some (.stringIter s pos)) : RdAt (w.iterAt I s pos') B R st ∧ Kept (fun k => k = I) w (w.iterAt I s pos') := by
  have k : Kept (fun k => k = I) w (w.iterAt I s pos') := ⟨rfl, rfl, rfl, by rw [Lib.iterAt_size]; exact Nat.le_refl _, fun i _ hi => Lib.iterAt_other w I i s pos' hi⟩
  refine ⟨?_, k⟩
  obtain ⟨h1, p, b, ws, hR, hp, hb, hws, hn⟩ := h
  have not_I : ∀ {t : TypeId} {z n : Nat} {v : Value} {xs : List Value}, w.ownsRow B t z v n xs → ∀ k, v.ownBlock = some k → k ≠ I := fun h k hk e => by
    subst e
    obtain ⟨_, c, h2⟩ := own_type h hk
    rw [hI] at h2; injection h2 with h2; cases h2
  exact ⟨h1, p, b, ws, by rw [k.block R (Array.getElem?_eq_some_iff.1 hR).1 (fun e => by subst e; rw [hI] at hR; injection hR with hR; cases hR)]; exact hR, hp, row_stay hb k (not_I hb), row_stay hws k (not_I hws), hn⟩
/-- What line hands back. -/
def LineOut (w : World) (x : Option (List (List UInt8))) (e : Ending) (w' : World) : Prop := Kept (fun _ => False) w w' ∧ ∃ a n c, match x with
  | some ws => e = .returned (.tuple #[.slice a n c, .bool true]) ∧ w'.ownsRow 0 9 1 (.slice a n c) ws.length (sv ws)
  | none => e = .returned (.tuple #[.slice a n c, .bool false])
theorem LineOut.no {w w' : World} {x : Option (List (List UInt8))} {a : Option Addr} {n c : Nat} (h : x = none) (k : Kept (fun _ => False) w w') : LineOut w x (.returned (.tuple #[.slice a n c, .bool false])) w' := by subst h; exact ⟨k, a, n, c, rfl⟩
theorem LineOut.yes {w w' : World} {x : Option (List (List UInt8))} {ws : List (List UInt8)} {a : Option Addr} {n c : Nat} (h : x = some ws) (k : Kept (fun _ => False) w w') (hs : w'.ownsRow 0 9 1 (.slice a n c) ws.length (sv ws)) : LineOut w x (.returned (.tuple #[.slice a n c, .bool true])) w' := by subst h; exact ⟨k, a, n, c, rfl, hs⟩
/-- At a line's end. -/
theorem fin_one (r : RdS) (h : r.st = 1) : finM (some r) = finM (some r.stop) := by simp [finM, h, RdS.stop]
theorem fin_ok (r : RdS) (h : r.st = 0 ∨ r.st = 4) : finM (some r) = some r.words := by rcases h with h | h <;> simp [finM, h]
theorem fin_no (r : RdS) (h : r.st ≠ 0) (h1 : r.st ≠ 1) (h4 : r.st ≠ 4) : finM (some r) = none := by simp [finM, h, h1, h4]
theorem RdAt.words {w : World} {B R : Nat} {st : RdS} (h : RdAt w B R st) : ∃ a c, w.cell? ⟨R, 3, none⟩ = some (.slice a st.words.length c) ∧ w.ownsRow 0 9 1 (.slice a st.words.length c) st.words.length (sv st.words) := by
  obtain ⟨h1, p, b, ws, hR, hp, hb, hws, hn⟩ := h
  obtain ⟨a, c, rfl⟩ := row_form hws
  exact ⟨a, c, by rw [cell_of_row _ _ _ _ _ _ hR]; rfl, own_base hws (Nat.zero_le _)⟩
theorem zero_rd (w : World) : (Instr.build 47 #[]).run Tryd.prog w = .ok (.agg #[.int .i64 0, .pointer none, .slice none 0 0, .slice none 0 0]) w := by kernel_rfl
set_option maxRecDepth 100000 in
set_option maxHeartbeats 8000000 in
theorem line_ct (s : ByteArray) (w : World) (hs : s.size ≤ 100000) :
    Calls Tryd.prog 13 #[.string s] w (LineOut w (lineR s.data.toList)) := by
  have zr := zero_rd w
  obtain ⟨RES, hRES⟩ : ∃ RES, restL s.data.toList ⟨0, [], []⟩ = RES := ⟨_, rfl⟩
  have hfin : lineR s.data.toList = finM RES := by unfold lineR; rw [hRES]
  rw [hfin]
  clear hfin
  obtain ⟨W, hW⟩ : ∃ W, (w.alloc (.cells #[.int .i64 0, .pointer none, .slice none 0 0, .slice none 0 0] 47)).iter s 0 = W := ⟨_, rfl⟩
  obtain ⟨R, hR⟩ : ∃ R, w.heap.size = R := ⟨_, rfl⟩
  have k1 : Kept (fun _ => False) w W := by rw [← hW]; exact ((Kept.refl _ w).alloc _).alloc _
  have hR1 : W.heap[R]? = some (.cells #[.int .i64 0, .pointer none, .slice none 0 0, .slice none 0 0] 47 (0, 0)) := by
    rw [← hW, ← hR, show (w.alloc (.cells #[.int .i64 0, .pointer none, .slice none 0 0, .slice none 0 0] 47)).iter s 0 = (w.alloc (.cells #[.int .i64 0, .pointer none, .slice none 0 0, .slice none 0 0] 47)).alloc (.stringIter s 0) from rfl, Below.heap_alloc _ _ _ (by simp)]; exact heap_last w _
  have hI1 : W.heap[R + 1]? = some (.stringIter s 0) := by rw [← hW, ← hR]; exact heap_at (by simp)
  have hrd : RdAt W R R ⟨0, [], []⟩ := ⟨Nat.le_refl _, _, _, _, hR1, .inl rfl, World.ownsRow_nil _ _ _ _, World.ownsRow_nil _ _ _ _, fun _ => rfl⟩
  go_enter Tryd.func13, Tryd.ntmps13
  go_wp2_with (first
    | (with_reducible refine wpl_build 47 _ rfl rfl ?_ zr ?_
       · (go_simp <;> rfl)
       simp only [Act.put, List.getElem_toArray, List.getElem_cons_zero, List.getElem_cons_succ, List.setIfInBounds_toArray, List.set_cons_zero, List.set_cons_succ]))
  clear hR1 zr hW
  go_loopw [] (fun wr => ∃ (pos : Nat) (st : RdS), pos ≤ s.size ∧ wr.heap[R + 1]? = some (.stringIter s pos) ∧ RdAt wr R R st ∧ st.st ≤ 4 ∧ st.word.length ≤ 4 * pos ∧ st.words.length ≤ pos ∧ restL (s.data.toList.drop pos) st = RES ∧ Kept (fun _ => False) w wr) (fun wr => s.size - wr.iterPos (R + 1))
  case atStart => exact ⟨0, ⟨0, [], []⟩, by omega, hI1, hrd, by simp, by simp, by simp, by rw [List.drop_zero]; exact hRES, k1⟩
  case round =>
    obtain ⟨pos, st, hpos, hI, hr, b1, b2, b3, hres, hk⟩ := hrel
    have hBr : R ≤ wr.heap.size := by subst hR; exact hk.size
    by_cases hlt : pos < s.size
    · have hnx := fun ty => Lib.run_next_any_at (P := Tryd.prog) wr (R + 1) s pos ty hI hlt
      have hne : s.data.toList.drop pos ≠ [] := by
        intro e
        have := congrArg List.length e
        rw [List.length_drop, List.length_nil] at this
        have hsz : s.data.toList.length = s.size := (Lib.size_eq s).symm
        omega
      rw [restL_step hne, Lib.decodeL_drop, List.drop_drop] at hres
      have hok := decode_ok s pos
      have hwd := Lib.width_pos s pos
      have hle : pos + (Utf8.decode s pos).2 ≤ s.size := by
        have h1 := Lib.decodeL_le _ hne
        rw [Lib.decodeL_drop, List.length_drop] at h1
        have hsz : s.data.toList.length = s.size := (Lib.size_eq s).symm
        omega
      generalize Utf8.decode s pos = d at hnx hres hok hwd hle
      obtain ⟨c, wd⟩ := d
      dsimp only at hnx hres hok hwd hle
      obtain ⟨hr2, k2⟩ := hr.iterAt (pos' := pos + wd) hI
      have hI2 := Lib.iterAt_heap wr (R + 1) s pos (pos + wd) hI
      have hk2 : Kept (fun _ => False) w (wr.iterAt (R + 1) s (pos + wd)) := hk.trans' k2 (fun i hi e => by subst hR; omega)
      have rc := read_ct hr2 b1 (by omega) (by omega) (by rw [Lib.iterAt_size]; exact hBr) hok.1 hok.2
      have hbd : ∀ r' m, st.stepR c = some (r', m) → r'.st ≤ 4 ∧ r'.word.length ≤ 4 * (pos + wd) ∧ r'.words.length ≤ pos + wd := fun r' m e => by
        have := stepR_bound e
        omega
      generalize wr.iterAt (R + 1) s (pos + wd) = W2 at *
      generalize st.stepR c = X at *
      have HB := Lib.hid hbd
      have HR := Lib.hid hres
      clear hbd hres hr k2 hk hok hne
      go_wp2_with fail
      refine rc.mono ?_
      rintro e W3 ⟨k3, hx⟩
      have hk3 : Kept (fun _ => False) w W3 := by subst hR; exact RS.out hk2 k3
      have hI3 := RS.iter k3 hI2 (by omega)
      cases X with
      | none =>
        obtain ⟨m, rfl⟩ := hx
        have HN := HR.out
        dsimp only at HN
        go_wp2_with fail
        go_ret2
        exact LineOut.no (by rw [← HN]; rfl) hk3
      | some rm =>
        obtain ⟨r', m⟩ := rm
        obtain ⟨rfl, hr3⟩ := hx
        obtain ⟨d1, d2, d3⟩ := HB.out r' m rfl
        have HN := HR.out
        dsimp only at HN
        clear HR HB rc k3 hk2 hI2
        cases m with
        | true =>
          simp only [if_true] at HN
          have HN := Lib.hid HN
          go_wp2_with fail
          go_roundw
          case rel => exact ⟨pos + wd, r', hle, hI3, hr3, d1, d2, d3, HN.out, hk3⟩
          case measure => simp [World.iterPos, hI3, hI]; omega
        | false =>
          simp only [Bool.false_eq_true, if_false] at HN
          have hfx : finM RES = finM (some r') := by rw [← HN]
          clear HN
          have hbw : r'.words.length ≤ 100000 := by omega
          have hBv : R ≤ W3.heap.size := by subst hR; exact hk3.size
          clear d1 d2 d3
          obtain ⟨sx, hsx⟩ : ∃ sx, r' = sx := ⟨_, rfl⟩
          rw [hsx] at hr3 hbw hfx
          clear hsx
          have hv := hr3
          have hkv := hk3
          clear hr3 hk3
          have hVl := hv.lt.2
          obtain ⟨aw, cw, hc3, hsw⟩ := hv.words
          have hc0 := hv.c0
          by_cases e1 : sx.st = 1
          · rw [e1] at hc0
            have ec := end_ct hv (by omega) (by omega)
            have HF := Lib.hid (hfx.trans (fin_one sx e1))
            clear hc3 hsw hfx
            go_wp2_with fail
            refine ec.mono ?_
            rintro e V2 ⟨rfl, hv2, k2⟩
            have hk2 : Kept (fun _ => False) w V2 := by subst hR; exact RS.out hkv k2
            have hb2 : sx.stop.words.length ≤ 200000 := by simp [RdS.stop]; omega
            have hst2 : sx.stop.st = 0 := rfl
            clear hc0 ec hv hVl k2 aw cw hkv e1
            generalize sx.stop = sx at hv2 HF hb2 hst2
            have hVl := hv2.lt.2
            obtain ⟨aw, cw, hc3, hsw⟩ := hv2.words
            have hc0 := hv2.c0
            rw [hst2] at hc0
            go_wp2_with fail
            have c3 : ∀ w', Kept (fun _ => False) V2 w' → w'.cell? ⟨R, 3, none⟩ = some (.slice aw sx.words.length cw) := fun w' q => by rw [q.cell (p := ⟨R, 3, none⟩) hVl not_false]; exact hc3
            have c0 : ∀ w', Kept (fun _ => False) V2 w' → w'.cell? ⟨R, 0, none⟩ = some (.int .i64 0) := fun w' q => by rw [q.cell (p := ⟨R, 0, none⟩) hVl not_false]; exact hc0
            clear hc0 hc3
            refine wp_region_held_drew (S := (Kept (fun _ => False) V2)) (by kernel_rfl) ((Kept.refl _ V2).drew) (fun hHeld => ?_)
            refine held_q (v := ?_) (i := 0) rfl (by kernel_rfl) (by kernel_rfl) (by kernel_rfl) (fun _ _ _ h => h) (by rfl) hHeld ?_ ?_
            rotate_left
            · (intro w' hS'; go_simp <;> (with_reducible rfl))
            simp only [Act.put, List.getElem_toArray, List.getElem_cons_zero, List.getElem_cons_succ, List.setIfInBounds_toArray, List.set_cons_zero, List.set_cons_succ]
            refine held_q (v := ?_) (i := 1) rfl (by kernel_rfl) (by kernel_rfl) (by kernel_rfl) (fun _ _ _ h => h) (by rfl) hHeld ?_ ?_
            rotate_left
            · (intro w' hS'; go_simp <;> (with_reducible rfl))
            simp only [Act.put, List.getElem_toArray, List.getElem_cons_zero, List.getElem_cons_succ, List.setIfInBounds_toArray, List.set_cons_zero, List.set_cons_succ]
            refine held_q (v := ?_) (i := 2) rfl (by kernel_rfl) (by kernel_rfl) (by kernel_rfl) (fun _ _ _ h => h) (by rfl) hHeld ?_ ?_
            rotate_left
            · (intro w' hS'; go_simp <;> (with_reducible rfl))
            simp only [Act.put, List.getElem_toArray, List.getElem_cons_zero, List.getElem_cons_succ, List.setIfInBounds_toArray, List.set_cons_zero, List.set_cons_succ]
            refine held_q (v := ?_) (i := 3) rfl (by kernel_rfl) (by kernel_rfl) (by kernel_rfl) (fun _ _ _ h => h) (by rfl) hHeld ?_ ?_
            rotate_left
            · (intro w' hS'; go_simp <;> (with_reducible rfl))
            simp only [Act.put, List.getElem_toArray, List.getElem_cons_zero, List.getElem_cons_succ, List.setIfInBounds_toArray, List.set_cons_zero, List.set_cons_succ]
            refine held_q (v := ?_) (i := 4) rfl (by kernel_rfl) (by kernel_rfl) (by kernel_rfl) (fun _ _ _ h => h) (by rfl) hHeld ?_ ?_
            rotate_left
            · (intro w' hS'; go_simp <;> (with_reducible rfl))
            simp only [Act.put, List.getElem_toArray, List.getElem_cons_zero, List.getElem_cons_succ, List.setIfInBounds_toArray, List.set_cons_zero, List.set_cons_succ]
            refine held_q (v := ?_) (i := 5) rfl (by kernel_rfl) (by kernel_rfl) (by kernel_rfl) (fun _ _ _ h => h) (by rfl) hHeld ?_ ?_
            rotate_left
            · (intro w' hS'; go_simp <;> (with_reducible rfl))
            simp only [Act.put, List.getElem_toArray, List.getElem_cons_zero, List.getElem_cons_succ, List.setIfInBounds_toArray, List.set_cons_zero, List.set_cons_succ]
            refine held_q (v := ?_) (i := 6) rfl (by kernel_rfl) (by kernel_rfl) (by kernel_rfl) (fun _ _ _ h => h) (by rfl) hHeld ?_ ?_
            rotate_left
            · (intro w' hS'; go_simp <;> (with_reducible rfl))
            simp only [Act.put, List.getElem_toArray, List.getElem_cons_zero, List.getElem_cons_succ, List.setIfInBounds_toArray, List.set_cons_zero, List.set_cons_succ]
            refine held_q (v := ?_) (i := 7) rfl (by kernel_rfl) (by kernel_rfl) (by kernel_rfl) (fun _ _ _ h => h) (by rfl) hHeld ?_ ?_
            rotate_left
            · (intro w' hS'; go_simp <;> (with_reducible rfl))
            simp only [Act.put, List.getElem_toArray, List.getElem_cons_zero, List.getElem_cons_succ, List.setIfInBounds_toArray, List.set_cons_zero, List.set_cons_succ]
            refine held_q (v := ?_) (i := 8) rfl (by kernel_rfl) (by kernel_rfl) (by kernel_rfl) (fun _ _ _ h => h) (by rfl) hHeld ?_ ?_
            rotate_left
            · (intro w' hS'; go_simp <;> (with_reducible rfl))
            simp only [Act.put, List.getElem_toArray, List.getElem_cons_zero, List.getElem_cons_succ, List.setIfInBounds_toArray, List.set_cons_zero, List.set_cons_succ]
            refine held_q (v := ?_) (i := 9) rfl (by kernel_rfl) (by kernel_rfl) (by kernel_rfl) (fun _ _ _ h => h) (by rfl) hHeld ?_ ?_
            rotate_left
            · (intro w' hS'; go_simp <;> (with_reducible rfl))
            simp only [Act.put, List.getElem_toArray, List.getElem_cons_zero, List.getElem_cons_succ, List.setIfInBounds_toArray, List.set_cons_zero, List.set_cons_succ]
            refine held_no (i := 10) rfl (by kernel_rfl) (by kernel_rfl) (by kernel_rfl) (fun _ _ _ h => h) (by rfl) hHeld ?_
            simp only [Act.put, List.getElem_toArray, List.getElem_cons_zero, List.getElem_cons_succ, List.setIfInBounds_toArray, List.set_cons_zero, List.set_cons_succ]
            refine held_no (i := 11) rfl (by kernel_rfl) (by kernel_rfl) (by kernel_rfl) (fun _ _ _ h => h) (by rfl) hHeld ?_
            simp only [Act.put, List.getElem_toArray, List.getElem_cons_zero, List.getElem_cons_succ, List.setIfInBounds_toArray, List.set_cons_zero, List.set_cons_succ]
            refine held_no (i := 12) rfl (by kernel_rfl) (by kernel_rfl) (by kernel_rfl) (fun _ _ _ h => h) (by rfl) hHeld ?_
            simp only [Act.put, List.getElem_toArray, List.getElem_cons_zero, List.getElem_cons_succ, List.setIfInBounds_toArray, List.set_cons_zero, List.set_cons_succ]
            refine held_no (i := 13) rfl (by kernel_rfl) (by kernel_rfl) (by kernel_rfl) (fun _ _ _ h => h) (by rfl) hHeld ?_
            simp only [Act.put, List.getElem_toArray, List.getElem_cons_zero, List.getElem_cons_succ, List.setIfInBounds_toArray, List.set_cons_zero, List.set_cons_succ]
            refine held_no (i := 14) rfl (by kernel_rfl) (by kernel_rfl) (by kernel_rfl) (fun _ _ _ h => h) (by rfl) hHeld ?_
            simp only [Act.put, List.getElem_toArray, List.getElem_cons_zero, List.getElem_cons_succ, List.setIfInBounds_toArray, List.set_cons_zero, List.set_cons_succ]
            refine held_q (v := ?_) (i := 15) rfl (by kernel_rfl) (by kernel_rfl) (by kernel_rfl) (fun _ _ _ h => h) (by rfl) hHeld ?_ ?_
            rotate_left
            · (intro w' hS'; go_simp <;> (with_reducible rfl))
            simp only [Act.put, List.getElem_toArray, List.getElem_cons_zero, List.getElem_cons_succ, List.setIfInBounds_toArray, List.set_cons_zero, List.set_cons_succ]
            refine held_q (v := ?_) (i := 16) rfl (by kernel_rfl) (by kernel_rfl) (by kernel_rfl) (fun _ _ _ h => h) (by rfl) hHeld ?_ ?_
            rotate_left
            · (intro w' hS'; go_simp <;> (with_reducible rfl))
            simp only [Act.put, List.getElem_toArray, List.getElem_cons_zero, List.getElem_cons_succ, List.setIfInBounds_toArray, List.set_cons_zero, List.set_cons_succ]
            refine held_q (v := ?_) (i := 17) rfl (by kernel_rfl) (by kernel_rfl) (by kernel_rfl) (fun _ _ _ h => h) (by rfl) hHeld ?_ ?_
            rotate_left
            · (intro w' hS'; go_simp <;> (with_reducible rfl))
            simp only [Act.put, List.getElem_toArray, List.getElem_cons_zero, List.getElem_cons_succ, List.setIfInBounds_toArray, List.set_cons_zero, List.set_cons_succ]
            refine wpAnyH_done (by kernel_rfl) ?_ _
            go_wp2_with fail
            go_ret2
            exact LineOut.yes (HF.out.trans (fin_ok _ (.inl hst2))) (hk2.trans hHeld) (row_kept hsw hHeld)
          have n1 : ((sx.st : Int) == 1) = false := nb sx.st 1 e1
          by_cases e0 : sx.st = 0
          · rw [e0] at hc0
            have HF := Lib.hid (hfx.trans (fin_ok sx (.inl e0)))
            clear hfx
            go_wp2_with fail
            have c3 : ∀ w', Kept (fun _ => False) W3 w' → w'.cell? ⟨R, 3, none⟩ = some (.slice aw sx.words.length cw) := fun w' q => by rw [q.cell (p := ⟨R, 3, none⟩) hVl not_false]; exact hc3
            have c0 : ∀ w', Kept (fun _ => False) W3 w' → w'.cell? ⟨R, 0, none⟩ = some (.int .i64 0) := fun w' q => by rw [q.cell (p := ⟨R, 0, none⟩) hVl not_false]; exact hc0
            clear hc0 hc3
            refine wp_region_held_drew (S := (Kept (fun _ => False) W3)) (by kernel_rfl) ((Kept.refl _ W3).drew) (fun hHeld => ?_)
            refine held_q (v := ?_) (i := 0) rfl (by kernel_rfl) (by kernel_rfl) (by kernel_rfl) (fun _ _ _ h => h) (by rfl) hHeld ?_ ?_
            rotate_left
            · (intro w' hS'; go_simp <;> (with_reducible rfl))
            simp only [Act.put, List.getElem_toArray, List.getElem_cons_zero, List.getElem_cons_succ, List.setIfInBounds_toArray, List.set_cons_zero, List.set_cons_succ]
            refine held_q (v := ?_) (i := 1) rfl (by kernel_rfl) (by kernel_rfl) (by kernel_rfl) (fun _ _ _ h => h) (by rfl) hHeld ?_ ?_
            rotate_left
            · (intro w' hS'; go_simp <;> (with_reducible rfl))
            simp only [Act.put, List.getElem_toArray, List.getElem_cons_zero, List.getElem_cons_succ, List.setIfInBounds_toArray, List.set_cons_zero, List.set_cons_succ]
            refine held_q (v := ?_) (i := 2) rfl (by kernel_rfl) (by kernel_rfl) (by kernel_rfl) (fun _ _ _ h => h) (by rfl) hHeld ?_ ?_
            rotate_left
            · (intro w' hS'; go_simp <;> (with_reducible rfl))
            simp only [Act.put, List.getElem_toArray, List.getElem_cons_zero, List.getElem_cons_succ, List.setIfInBounds_toArray, List.set_cons_zero, List.set_cons_succ]
            refine held_q (v := ?_) (i := 3) rfl (by kernel_rfl) (by kernel_rfl) (by kernel_rfl) (fun _ _ _ h => h) (by rfl) hHeld ?_ ?_
            rotate_left
            · (intro w' hS'; go_simp <;> (with_reducible rfl))
            simp only [Act.put, List.getElem_toArray, List.getElem_cons_zero, List.getElem_cons_succ, List.setIfInBounds_toArray, List.set_cons_zero, List.set_cons_succ]
            refine held_q (v := ?_) (i := 4) rfl (by kernel_rfl) (by kernel_rfl) (by kernel_rfl) (fun _ _ _ h => h) (by rfl) hHeld ?_ ?_
            rotate_left
            · (intro w' hS'; go_simp <;> (with_reducible rfl))
            simp only [Act.put, List.getElem_toArray, List.getElem_cons_zero, List.getElem_cons_succ, List.setIfInBounds_toArray, List.set_cons_zero, List.set_cons_succ]
            refine held_q (v := ?_) (i := 5) rfl (by kernel_rfl) (by kernel_rfl) (by kernel_rfl) (fun _ _ _ h => h) (by rfl) hHeld ?_ ?_
            rotate_left
            · (intro w' hS'; go_simp <;> (with_reducible rfl))
            simp only [Act.put, List.getElem_toArray, List.getElem_cons_zero, List.getElem_cons_succ, List.setIfInBounds_toArray, List.set_cons_zero, List.set_cons_succ]
            refine held_q (v := ?_) (i := 6) rfl (by kernel_rfl) (by kernel_rfl) (by kernel_rfl) (fun _ _ _ h => h) (by rfl) hHeld ?_ ?_
            rotate_left
            · (intro w' hS'; go_simp <;> (with_reducible rfl))
            simp only [Act.put, List.getElem_toArray, List.getElem_cons_zero, List.getElem_cons_succ, List.setIfInBounds_toArray, List.set_cons_zero, List.set_cons_succ]
            refine held_q (v := ?_) (i := 7) rfl (by kernel_rfl) (by kernel_rfl) (by kernel_rfl) (fun _ _ _ h => h) (by rfl) hHeld ?_ ?_
            rotate_left
            · (intro w' hS'; go_simp <;> (with_reducible rfl))
            simp only [Act.put, List.getElem_toArray, List.getElem_cons_zero, List.getElem_cons_succ, List.setIfInBounds_toArray, List.set_cons_zero, List.set_cons_succ]
            refine held_q (v := ?_) (i := 8) rfl (by kernel_rfl) (by kernel_rfl) (by kernel_rfl) (fun _ _ _ h => h) (by rfl) hHeld ?_ ?_
            rotate_left
            · (intro w' hS'; go_simp <;> (with_reducible rfl))
            simp only [Act.put, List.getElem_toArray, List.getElem_cons_zero, List.getElem_cons_succ, List.setIfInBounds_toArray, List.set_cons_zero, List.set_cons_succ]
            refine held_q (v := ?_) (i := 9) rfl (by kernel_rfl) (by kernel_rfl) (by kernel_rfl) (fun _ _ _ h => h) (by rfl) hHeld ?_ ?_
            rotate_left
            · (intro w' hS'; go_simp <;> (with_reducible rfl))
            simp only [Act.put, List.getElem_toArray, List.getElem_cons_zero, List.getElem_cons_succ, List.setIfInBounds_toArray, List.set_cons_zero, List.set_cons_succ]
            refine held_no (i := 10) rfl (by kernel_rfl) (by kernel_rfl) (by kernel_rfl) (fun _ _ _ h => h) (by rfl) hHeld ?_
            simp only [Act.put, List.getElem_toArray, List.getElem_cons_zero, List.getElem_cons_succ, List.setIfInBounds_toArray, List.set_cons_zero, List.set_cons_succ]
            refine held_no (i := 11) rfl (by kernel_rfl) (by kernel_rfl) (by kernel_rfl) (fun _ _ _ h => h) (by rfl) hHeld ?_
            simp only [Act.put, List.getElem_toArray, List.getElem_cons_zero, List.getElem_cons_succ, List.setIfInBounds_toArray, List.set_cons_zero, List.set_cons_succ]
            refine held_no (i := 12) rfl (by kernel_rfl) (by kernel_rfl) (by kernel_rfl) (fun _ _ _ h => h) (by rfl) hHeld ?_
            simp only [Act.put, List.getElem_toArray, List.getElem_cons_zero, List.getElem_cons_succ, List.setIfInBounds_toArray, List.set_cons_zero, List.set_cons_succ]
            refine held_no (i := 13) rfl (by kernel_rfl) (by kernel_rfl) (by kernel_rfl) (fun _ _ _ h => h) (by rfl) hHeld ?_
            simp only [Act.put, List.getElem_toArray, List.getElem_cons_zero, List.getElem_cons_succ, List.setIfInBounds_toArray, List.set_cons_zero, List.set_cons_succ]
            refine held_no (i := 14) rfl (by kernel_rfl) (by kernel_rfl) (by kernel_rfl) (fun _ _ _ h => h) (by rfl) hHeld ?_
            simp only [Act.put, List.getElem_toArray, List.getElem_cons_zero, List.getElem_cons_succ, List.setIfInBounds_toArray, List.set_cons_zero, List.set_cons_succ]
            refine held_q (v := ?_) (i := 15) rfl (by kernel_rfl) (by kernel_rfl) (by kernel_rfl) (fun _ _ _ h => h) (by rfl) hHeld ?_ ?_
            rotate_left
            · (intro w' hS'; go_simp <;> (with_reducible rfl))
            simp only [Act.put, List.getElem_toArray, List.getElem_cons_zero, List.getElem_cons_succ, List.setIfInBounds_toArray, List.set_cons_zero, List.set_cons_succ]
            refine held_q (v := ?_) (i := 16) rfl (by kernel_rfl) (by kernel_rfl) (by kernel_rfl) (fun _ _ _ h => h) (by rfl) hHeld ?_ ?_
            rotate_left
            · (intro w' hS'; go_simp <;> (with_reducible rfl))
            simp only [Act.put, List.getElem_toArray, List.getElem_cons_zero, List.getElem_cons_succ, List.setIfInBounds_toArray, List.set_cons_zero, List.set_cons_succ]
            refine held_q (v := ?_) (i := 17) rfl (by kernel_rfl) (by kernel_rfl) (by kernel_rfl) (fun _ _ _ h => h) (by rfl) hHeld ?_ ?_
            rotate_left
            · (intro w' hS'; go_simp <;> (with_reducible rfl))
            simp only [Act.put, List.getElem_toArray, List.getElem_cons_zero, List.getElem_cons_succ, List.setIfInBounds_toArray, List.set_cons_zero, List.set_cons_succ]
            refine wpAnyH_done (by kernel_rfl) ?_ _
            go_wp2_with fail
            go_ret2
            exact LineOut.yes HF.out (hkv.trans hHeld) (row_kept hsw hHeld)
          by_cases e4 : sx.st = 4
          · rw [e4] at hc0
            have HF := Lib.hid (hfx.trans (fin_ok sx (.inr e4)))
            clear hfx
            go_wp2_with fail
            have c3 : ∀ w', Kept (fun _ => False) W3 w' → w'.cell? ⟨R, 3, none⟩ = some (.slice aw sx.words.length cw) := fun w' q => by rw [q.cell (p := ⟨R, 3, none⟩) hVl not_false]; exact hc3
            have c0 : ∀ w', Kept (fun _ => False) W3 w' → w'.cell? ⟨R, 0, none⟩ = some (.int .i64 4) := fun w' q => by rw [q.cell (p := ⟨R, 0, none⟩) hVl not_false]; exact hc0
            clear hc0 hc3
            refine wp_region_held_drew (S := (Kept (fun _ => False) W3)) (by kernel_rfl) ((Kept.refl _ W3).drew) (fun hHeld => ?_)
            refine held_q (v := ?_) (i := 0) rfl (by kernel_rfl) (by kernel_rfl) (by kernel_rfl) (fun _ _ _ h => h) (by rfl) hHeld ?_ ?_
            rotate_left
            · (intro w' hS'; go_simp <;> (with_reducible rfl))
            simp only [Act.put, List.getElem_toArray, List.getElem_cons_zero, List.getElem_cons_succ, List.setIfInBounds_toArray, List.set_cons_zero, List.set_cons_succ]
            refine held_q (v := ?_) (i := 1) rfl (by kernel_rfl) (by kernel_rfl) (by kernel_rfl) (fun _ _ _ h => h) (by rfl) hHeld ?_ ?_
            rotate_left
            · (intro w' hS'; go_simp <;> (with_reducible rfl))
            simp only [Act.put, List.getElem_toArray, List.getElem_cons_zero, List.getElem_cons_succ, List.setIfInBounds_toArray, List.set_cons_zero, List.set_cons_succ]
            refine held_q (v := ?_) (i := 2) rfl (by kernel_rfl) (by kernel_rfl) (by kernel_rfl) (fun _ _ _ h => h) (by rfl) hHeld ?_ ?_
            rotate_left
            · (intro w' hS'; go_simp <;> (with_reducible rfl))
            simp only [Act.put, List.getElem_toArray, List.getElem_cons_zero, List.getElem_cons_succ, List.setIfInBounds_toArray, List.set_cons_zero, List.set_cons_succ]
            refine held_q (v := ?_) (i := 3) rfl (by kernel_rfl) (by kernel_rfl) (by kernel_rfl) (fun _ _ _ h => h) (by rfl) hHeld ?_ ?_
            rotate_left
            · (intro w' hS'; go_simp <;> (with_reducible rfl))
            simp only [Act.put, List.getElem_toArray, List.getElem_cons_zero, List.getElem_cons_succ, List.setIfInBounds_toArray, List.set_cons_zero, List.set_cons_succ]
            refine held_q (v := ?_) (i := 4) rfl (by kernel_rfl) (by kernel_rfl) (by kernel_rfl) (fun _ _ _ h => h) (by rfl) hHeld ?_ ?_
            rotate_left
            · (intro w' hS'; go_simp <;> (with_reducible rfl))
            simp only [Act.put, List.getElem_toArray, List.getElem_cons_zero, List.getElem_cons_succ, List.setIfInBounds_toArray, List.set_cons_zero, List.set_cons_succ]
            refine held_q (v := ?_) (i := 5) rfl (by kernel_rfl) (by kernel_rfl) (by kernel_rfl) (fun _ _ _ h => h) (by rfl) hHeld ?_ ?_
            rotate_left
            · (intro w' hS'; go_simp <;> (with_reducible rfl))
            simp only [Act.put, List.getElem_toArray, List.getElem_cons_zero, List.getElem_cons_succ, List.setIfInBounds_toArray, List.set_cons_zero, List.set_cons_succ]
            refine held_q (v := ?_) (i := 6) rfl (by kernel_rfl) (by kernel_rfl) (by kernel_rfl) (fun _ _ _ h => h) (by rfl) hHeld ?_ ?_
            rotate_left
            · (intro w' hS'; go_simp <;> (with_reducible rfl))
            simp only [Act.put, List.getElem_toArray, List.getElem_cons_zero, List.getElem_cons_succ, List.setIfInBounds_toArray, List.set_cons_zero, List.set_cons_succ]
            refine held_q (v := ?_) (i := 7) rfl (by kernel_rfl) (by kernel_rfl) (by kernel_rfl) (fun _ _ _ h => h) (by rfl) hHeld ?_ ?_
            rotate_left
            · (intro w' hS'; go_simp <;> (with_reducible rfl))
            simp only [Act.put, List.getElem_toArray, List.getElem_cons_zero, List.getElem_cons_succ, List.setIfInBounds_toArray, List.set_cons_zero, List.set_cons_succ]
            refine held_q (v := ?_) (i := 8) rfl (by kernel_rfl) (by kernel_rfl) (by kernel_rfl) (fun _ _ _ h => h) (by rfl) hHeld ?_ ?_
            rotate_left
            · (intro w' hS'; go_simp <;> (with_reducible rfl))
            simp only [Act.put, List.getElem_toArray, List.getElem_cons_zero, List.getElem_cons_succ, List.setIfInBounds_toArray, List.set_cons_zero, List.set_cons_succ]
            refine held_q (v := ?_) (i := 9) rfl (by kernel_rfl) (by kernel_rfl) (by kernel_rfl) (fun _ _ _ h => h) (by rfl) hHeld ?_ ?_
            rotate_left
            · (intro w' hS'; go_simp <;> (with_reducible rfl))
            simp only [Act.put, List.getElem_toArray, List.getElem_cons_zero, List.getElem_cons_succ, List.setIfInBounds_toArray, List.set_cons_zero, List.set_cons_succ]
            refine held_q (v := ?_) (i := 10) rfl (by kernel_rfl) (by kernel_rfl) (by kernel_rfl) (fun _ _ _ h => h) (by rfl) hHeld ?_ ?_
            rotate_left
            · (intro w' hS'; go_simp <;> (with_reducible rfl))
            simp only [Act.put, List.getElem_toArray, List.getElem_cons_zero, List.getElem_cons_succ, List.setIfInBounds_toArray, List.set_cons_zero, List.set_cons_succ]
            refine held_q (v := ?_) (i := 11) rfl (by kernel_rfl) (by kernel_rfl) (by kernel_rfl) (fun _ _ _ h => h) (by rfl) hHeld ?_ ?_
            rotate_left
            · (intro w' hS'; go_simp <;> (with_reducible rfl))
            simp only [Act.put, List.getElem_toArray, List.getElem_cons_zero, List.getElem_cons_succ, List.setIfInBounds_toArray, List.set_cons_zero, List.set_cons_succ]
            refine held_q (v := ?_) (i := 12) rfl (by kernel_rfl) (by kernel_rfl) (by kernel_rfl) (fun _ _ _ h => h) (by rfl) hHeld ?_ ?_
            rotate_left
            · (intro w' hS'; go_simp <;> (with_reducible rfl))
            simp only [Act.put, List.getElem_toArray, List.getElem_cons_zero, List.getElem_cons_succ, List.setIfInBounds_toArray, List.set_cons_zero, List.set_cons_succ]
            refine held_q (v := ?_) (i := 13) rfl (by kernel_rfl) (by kernel_rfl) (by kernel_rfl) (fun _ _ _ h => h) (by rfl) hHeld ?_ ?_
            rotate_left
            · (intro w' hS'; go_simp <;> (with_reducible rfl))
            simp only [Act.put, List.getElem_toArray, List.getElem_cons_zero, List.getElem_cons_succ, List.setIfInBounds_toArray, List.set_cons_zero, List.set_cons_succ]
            refine held_q (v := ?_) (i := 14) rfl (by kernel_rfl) (by kernel_rfl) (by kernel_rfl) (fun _ _ _ h => h) (by rfl) hHeld ?_ ?_
            rotate_left
            · (intro w' hS'; go_simp <;> (with_reducible rfl))
            simp only [Act.put, List.getElem_toArray, List.getElem_cons_zero, List.getElem_cons_succ, List.setIfInBounds_toArray, List.set_cons_zero, List.set_cons_succ]
            refine held_q (v := ?_) (i := 15) rfl (by kernel_rfl) (by kernel_rfl) (by kernel_rfl) (fun _ _ _ h => h) (by rfl) hHeld ?_ ?_
            rotate_left
            · (intro w' hS'; go_simp <;> (with_reducible rfl))
            simp only [Act.put, List.getElem_toArray, List.getElem_cons_zero, List.getElem_cons_succ, List.setIfInBounds_toArray, List.set_cons_zero, List.set_cons_succ]
            refine held_q (v := ?_) (i := 16) rfl (by kernel_rfl) (by kernel_rfl) (by kernel_rfl) (fun _ _ _ h => h) (by rfl) hHeld ?_ ?_
            rotate_left
            · (intro w' hS'; go_simp <;> (with_reducible rfl))
            simp only [Act.put, List.getElem_toArray, List.getElem_cons_zero, List.getElem_cons_succ, List.setIfInBounds_toArray, List.set_cons_zero, List.set_cons_succ]
            refine held_q (v := ?_) (i := 17) rfl (by kernel_rfl) (by kernel_rfl) (by kernel_rfl) (fun _ _ _ h => h) (by rfl) hHeld ?_ ?_
            rotate_left
            · (intro w' hS'; go_simp <;> (with_reducible rfl))
            simp only [Act.put, List.getElem_toArray, List.getElem_cons_zero, List.getElem_cons_succ, List.setIfInBounds_toArray, List.set_cons_zero, List.set_cons_succ]
            refine wpAnyH_done (by kernel_rfl) ?_ _
            go_wp2_with fail
            go_ret2
            exact LineOut.yes HF.out (hkv.trans hHeld) (row_kept hsw hHeld)
          · have n0 : ((sx.st : Int) == 0) = false := nb sx.st 0 e0
            have n4 : ((sx.st : Int) == 4) = false := nb sx.st 4 e4
            have HF := Lib.hid (hfx.trans (fin_no sx e0 e1 e4))
            clear hfx
            go_wp2_with fail
            have c3 : ∀ w', Kept (fun _ => False) W3 w' → w'.cell? ⟨R, 3, none⟩ = some (.slice aw sx.words.length cw) := fun w' q => by rw [q.cell (p := ⟨R, 3, none⟩) hVl not_false]; exact hc3
            have c0 : ∀ w', Kept (fun _ => False) W3 w' → w'.cell? ⟨R, 0, none⟩ = some (.int .i64 (sx.st : Int)) := fun w' q => by rw [q.cell (p := ⟨R, 0, none⟩) hVl not_false]; exact hc0
            clear hc0 hc3
            refine wp_region_held_drew (S := (Kept (fun _ => False) W3)) (by kernel_rfl) ((Kept.refl _ W3).drew) (fun hHeld => ?_)
            refine held_q (v := ?_) (i := 0) rfl (by kernel_rfl) (by kernel_rfl) (by kernel_rfl) (fun _ _ _ h => h) (by rfl) hHeld ?_ ?_
            rotate_left
            · (intro w' hS'; go_simp <;> (with_reducible rfl))
            simp only [Act.put, List.getElem_toArray, List.getElem_cons_zero, List.getElem_cons_succ, List.setIfInBounds_toArray, List.set_cons_zero, List.set_cons_succ]
            refine held_q (v := ?_) (i := 1) rfl (by kernel_rfl) (by kernel_rfl) (by kernel_rfl) (fun _ _ _ h => h) (by rfl) hHeld ?_ ?_
            rotate_left
            · (intro w' hS'; go_simp <;> (with_reducible rfl))
            simp only [Act.put, List.getElem_toArray, List.getElem_cons_zero, List.getElem_cons_succ, List.setIfInBounds_toArray, List.set_cons_zero, List.set_cons_succ]
            refine held_q (v := ?_) (i := 2) rfl (by kernel_rfl) (by kernel_rfl) (by kernel_rfl) (fun _ _ _ h => h) (by rfl) hHeld ?_ ?_
            rotate_left
            · (intro w' hS'; go_simp <;> (with_reducible rfl))
            simp only [Act.put, List.getElem_toArray, List.getElem_cons_zero, List.getElem_cons_succ, List.setIfInBounds_toArray, List.set_cons_zero, List.set_cons_succ]
            refine held_q (v := ?_) (i := 3) rfl (by kernel_rfl) (by kernel_rfl) (by kernel_rfl) (fun _ _ _ h => h) (by rfl) hHeld ?_ ?_
            rotate_left
            · (intro w' hS'; go_simp <;> (with_reducible rfl))
            simp only [Act.put, List.getElem_toArray, List.getElem_cons_zero, List.getElem_cons_succ, List.setIfInBounds_toArray, List.set_cons_zero, List.set_cons_succ]
            refine held_q (v := ?_) (i := 4) rfl (by kernel_rfl) (by kernel_rfl) (by kernel_rfl) (fun _ _ _ h => h) (by rfl) hHeld ?_ ?_
            rotate_left
            · (intro w' hS'; go_simp <;> (with_reducible rfl))
            simp only [Act.put, List.getElem_toArray, List.getElem_cons_zero, List.getElem_cons_succ, List.setIfInBounds_toArray, List.set_cons_zero, List.set_cons_succ]
            refine held_q (v := ?_) (i := 5) rfl (by kernel_rfl) (by kernel_rfl) (by kernel_rfl) (fun _ _ _ h => h) (by rfl) hHeld ?_ ?_
            rotate_left
            · (intro w' hS'; go_simp <;> (with_reducible rfl))
            simp only [Act.put, List.getElem_toArray, List.getElem_cons_zero, List.getElem_cons_succ, List.setIfInBounds_toArray, List.set_cons_zero, List.set_cons_succ]
            refine held_q (v := ?_) (i := 6) rfl (by kernel_rfl) (by kernel_rfl) (by kernel_rfl) (fun _ _ _ h => h) (by rfl) hHeld ?_ ?_
            rotate_left
            · (intro w' hS'; go_simp <;> (with_reducible rfl))
            simp only [Act.put, List.getElem_toArray, List.getElem_cons_zero, List.getElem_cons_succ, List.setIfInBounds_toArray, List.set_cons_zero, List.set_cons_succ]
            refine held_q (v := ?_) (i := 7) rfl (by kernel_rfl) (by kernel_rfl) (by kernel_rfl) (fun _ _ _ h => h) (by rfl) hHeld ?_ ?_
            rotate_left
            · (intro w' hS'; go_simp <;> (with_reducible rfl))
            simp only [Act.put, List.getElem_toArray, List.getElem_cons_zero, List.getElem_cons_succ, List.setIfInBounds_toArray, List.set_cons_zero, List.set_cons_succ]
            refine held_q (v := ?_) (i := 8) rfl (by kernel_rfl) (by kernel_rfl) (by kernel_rfl) (fun _ _ _ h => h) (by rfl) hHeld ?_ ?_
            rotate_left
            · (intro w' hS'; go_simp <;> (with_reducible rfl))
            simp only [Act.put, List.getElem_toArray, List.getElem_cons_zero, List.getElem_cons_succ, List.setIfInBounds_toArray, List.set_cons_zero, List.set_cons_succ]
            refine held_q (v := ?_) (i := 9) rfl (by kernel_rfl) (by kernel_rfl) (by kernel_rfl) (fun _ _ _ h => h) (by rfl) hHeld ?_ ?_
            rotate_left
            · (intro w' hS'; go_simp <;> (with_reducible rfl))
            simp only [Act.put, List.getElem_toArray, List.getElem_cons_zero, List.getElem_cons_succ, List.setIfInBounds_toArray, List.set_cons_zero, List.set_cons_succ]
            refine held_q (v := ?_) (i := 10) rfl (by kernel_rfl) (by kernel_rfl) (by kernel_rfl) (fun _ _ _ h => h) (by rfl) hHeld ?_ ?_
            rotate_left
            · (intro w' hS'; go_simp <;> (with_reducible rfl))
            simp only [Act.put, List.getElem_toArray, List.getElem_cons_zero, List.getElem_cons_succ, List.setIfInBounds_toArray, List.set_cons_zero, List.set_cons_succ]
            refine held_q (v := ?_) (i := 11) rfl (by kernel_rfl) (by kernel_rfl) (by kernel_rfl) (fun _ _ _ h => h) (by rfl) hHeld ?_ ?_
            rotate_left
            · (intro w' hS'; go_simp <;> (with_reducible rfl))
            simp only [Act.put, List.getElem_toArray, List.getElem_cons_zero, List.getElem_cons_succ, List.setIfInBounds_toArray, List.set_cons_zero, List.set_cons_succ]
            refine held_q (v := ?_) (i := 12) rfl (by kernel_rfl) (by kernel_rfl) (by kernel_rfl) (fun _ _ _ h => h) (by rfl) hHeld ?_ ?_
            rotate_left
            · (intro w' hS'; go_simp <;> (with_reducible rfl))
            simp only [Act.put, List.getElem_toArray, List.getElem_cons_zero, List.getElem_cons_succ, List.setIfInBounds_toArray, List.set_cons_zero, List.set_cons_succ]
            refine held_q (v := ?_) (i := 13) rfl (by kernel_rfl) (by kernel_rfl) (by kernel_rfl) (fun _ _ _ h => h) (by rfl) hHeld ?_ ?_
            rotate_left
            · (intro w' hS'; go_simp <;> (with_reducible rfl))
            simp only [Act.put, List.getElem_toArray, List.getElem_cons_zero, List.getElem_cons_succ, List.setIfInBounds_toArray, List.set_cons_zero, List.set_cons_succ]
            refine held_q (v := ?_) (i := 14) rfl (by kernel_rfl) (by kernel_rfl) (by kernel_rfl) (fun _ _ _ h => h) (by rfl) hHeld ?_ ?_
            rotate_left
            · (intro w' hS'; go_simp <;> (with_reducible rfl))
            simp only [Act.put, List.getElem_toArray, List.getElem_cons_zero, List.getElem_cons_succ, List.setIfInBounds_toArray, List.set_cons_zero, List.set_cons_succ]
            refine held_q (v := ?_) (i := 15) rfl (by kernel_rfl) (by kernel_rfl) (by kernel_rfl) (fun _ _ _ h => h) (by rfl) hHeld ?_ ?_
            rotate_left
            · (intro w' hS'; go_simp <;> (with_reducible rfl))
            simp only [Act.put, List.getElem_toArray, List.getElem_cons_zero, List.getElem_cons_succ, List.setIfInBounds_toArray, List.set_cons_zero, List.set_cons_succ]
            refine held_q (v := ?_) (i := 16) rfl (by kernel_rfl) (by kernel_rfl) (by kernel_rfl) (fun _ _ _ h => h) (by rfl) hHeld ?_ ?_
            rotate_left
            · (intro w' hS'; go_simp <;> (with_reducible rfl))
            simp only [Act.put, List.getElem_toArray, List.getElem_cons_zero, List.getElem_cons_succ, List.setIfInBounds_toArray, List.set_cons_zero, List.set_cons_succ]
            refine held_q (v := ?_) (i := 17) rfl (by kernel_rfl) (by kernel_rfl) (by kernel_rfl) (fun _ _ _ h => h) (by rfl) hHeld ?_ ?_
            rotate_left
            · (intro w' hS'; go_simp <;> (with_reducible rfl))
            simp only [Act.put, List.getElem_toArray, List.getElem_cons_zero, List.getElem_cons_succ, List.setIfInBounds_toArray, List.set_cons_zero, List.set_cons_succ]
            refine wpAnyH_done (by kernel_rfl) ?_ _
            go_wp2_with fail
            go_ret2
            exact LineOut.no HF.out (hkv.trans hHeld)
    · have hend := fun ty => Lib.run_next_end_at (P := Tryd.prog) wr (R + 1) s pos ty hI hlt
      obtain rfl : pos = s.size := by omega
      rw [List.drop_eq_nil_of_le (by rw [← Lib.size_eq]; exact Nat.le_refl _), restL_nil] at hres
      have hfx : finM RES = finM (some st) := by rw [hres]
      have hbw : st.words.length ≤ 100000 := by omega
      obtain ⟨sx, hsx⟩ : ∃ sx, st = sx := ⟨_, rfl⟩
      rw [hsx] at hr hbw hfx
      clear hsx
      have hv := hr
      have hkv := hk
      have hBv := hBr
      clear hr hk
      have hVl := hv.lt.2
      obtain ⟨aw, cw, hc3, hsw⟩ := hv.words
      have hc0 := hv.c0
      by_cases e1 : sx.st = 1
      · rw [e1] at hc0
        have ec := end_ct hv (by omega) (by omega)
        have HF := Lib.hid (hfx.trans (fin_one sx e1))
        clear hc3 hsw hfx
        go_wp2_with fail
        refine ec.mono ?_
        rintro e V2 ⟨rfl, hv2, k2⟩
        have hk2 : Kept (fun _ => False) w V2 := by subst hR; exact RS.out hkv k2
        have hb2 : sx.stop.words.length ≤ 200000 := by simp [RdS.stop]; omega
        have hst2 : sx.stop.st = 0 := rfl
        clear hc0 ec hv hVl k2 aw cw hkv e1
        generalize sx.stop = sx at hv2 HF hb2 hst2
        have hVl := hv2.lt.2
        obtain ⟨aw, cw, hc3, hsw⟩ := hv2.words
        have hc0 := hv2.c0
        rw [hst2] at hc0
        go_wp2_with fail
        have c3 : ∀ w', Kept (fun _ => False) V2 w' → w'.cell? ⟨R, 3, none⟩ = some (.slice aw sx.words.length cw) := fun w' q => by rw [q.cell (p := ⟨R, 3, none⟩) hVl not_false]; exact hc3
        have c0 : ∀ w', Kept (fun _ => False) V2 w' → w'.cell? ⟨R, 0, none⟩ = some (.int .i64 0) := fun w' q => by rw [q.cell (p := ⟨R, 0, none⟩) hVl not_false]; exact hc0
        clear hc0 hc3
        refine wp_region_held_drew (S := (Kept (fun _ => False) V2)) (by kernel_rfl) ((Kept.refl _ V2).drew) (fun hHeld => ?_)
        refine held_q (v := ?_) (i := 0) rfl (by kernel_rfl) (by kernel_rfl) (by kernel_rfl) (fun _ _ _ h => h) (by rfl) hHeld ?_ ?_
        rotate_left
        · (intro w' hS'; go_simp <;> (with_reducible rfl))
        simp only [Act.put, List.getElem_toArray, List.getElem_cons_zero, List.getElem_cons_succ, List.setIfInBounds_toArray, List.set_cons_zero, List.set_cons_succ]
        refine held_q (v := ?_) (i := 1) rfl (by kernel_rfl) (by kernel_rfl) (by kernel_rfl) (fun _ _ _ h => h) (by rfl) hHeld ?_ ?_
        rotate_left
        · (intro w' hS'; go_simp <;> (with_reducible rfl))
        simp only [Act.put, List.getElem_toArray, List.getElem_cons_zero, List.getElem_cons_succ, List.setIfInBounds_toArray, List.set_cons_zero, List.set_cons_succ]
        refine held_q (v := ?_) (i := 2) rfl (by kernel_rfl) (by kernel_rfl) (by kernel_rfl) (fun _ _ _ h => h) (by rfl) hHeld ?_ ?_
        rotate_left
        · (intro w' hS'; go_simp <;> (with_reducible rfl))
        simp only [Act.put, List.getElem_toArray, List.getElem_cons_zero, List.getElem_cons_succ, List.setIfInBounds_toArray, List.set_cons_zero, List.set_cons_succ]
        refine held_q (v := ?_) (i := 3) rfl (by kernel_rfl) (by kernel_rfl) (by kernel_rfl) (fun _ _ _ h => h) (by rfl) hHeld ?_ ?_
        rotate_left
        · (intro w' hS'; go_simp <;> (with_reducible rfl))
        simp only [Act.put, List.getElem_toArray, List.getElem_cons_zero, List.getElem_cons_succ, List.setIfInBounds_toArray, List.set_cons_zero, List.set_cons_succ]
        refine held_q (v := ?_) (i := 4) rfl (by kernel_rfl) (by kernel_rfl) (by kernel_rfl) (fun _ _ _ h => h) (by rfl) hHeld ?_ ?_
        rotate_left
        · (intro w' hS'; go_simp <;> (with_reducible rfl))
        simp only [Act.put, List.getElem_toArray, List.getElem_cons_zero, List.getElem_cons_succ, List.setIfInBounds_toArray, List.set_cons_zero, List.set_cons_succ]
        refine held_q (v := ?_) (i := 5) rfl (by kernel_rfl) (by kernel_rfl) (by kernel_rfl) (fun _ _ _ h => h) (by rfl) hHeld ?_ ?_
        rotate_left
        · (intro w' hS'; go_simp <;> (with_reducible rfl))
        simp only [Act.put, List.getElem_toArray, List.getElem_cons_zero, List.getElem_cons_succ, List.setIfInBounds_toArray, List.set_cons_zero, List.set_cons_succ]
        refine held_q (v := ?_) (i := 6) rfl (by kernel_rfl) (by kernel_rfl) (by kernel_rfl) (fun _ _ _ h => h) (by rfl) hHeld ?_ ?_
        rotate_left
        · (intro w' hS'; go_simp <;> (with_reducible rfl))
        simp only [Act.put, List.getElem_toArray, List.getElem_cons_zero, List.getElem_cons_succ, List.setIfInBounds_toArray, List.set_cons_zero, List.set_cons_succ]
        refine held_q (v := ?_) (i := 7) rfl (by kernel_rfl) (by kernel_rfl) (by kernel_rfl) (fun _ _ _ h => h) (by rfl) hHeld ?_ ?_
        rotate_left
        · (intro w' hS'; go_simp <;> (with_reducible rfl))
        simp only [Act.put, List.getElem_toArray, List.getElem_cons_zero, List.getElem_cons_succ, List.setIfInBounds_toArray, List.set_cons_zero, List.set_cons_succ]
        refine held_q (v := ?_) (i := 8) rfl (by kernel_rfl) (by kernel_rfl) (by kernel_rfl) (fun _ _ _ h => h) (by rfl) hHeld ?_ ?_
        rotate_left
        · (intro w' hS'; go_simp <;> (with_reducible rfl))
        simp only [Act.put, List.getElem_toArray, List.getElem_cons_zero, List.getElem_cons_succ, List.setIfInBounds_toArray, List.set_cons_zero, List.set_cons_succ]
        refine held_q (v := ?_) (i := 9) rfl (by kernel_rfl) (by kernel_rfl) (by kernel_rfl) (fun _ _ _ h => h) (by rfl) hHeld ?_ ?_
        rotate_left
        · (intro w' hS'; go_simp <;> (with_reducible rfl))
        simp only [Act.put, List.getElem_toArray, List.getElem_cons_zero, List.getElem_cons_succ, List.setIfInBounds_toArray, List.set_cons_zero, List.set_cons_succ]
        refine held_no (i := 10) rfl (by kernel_rfl) (by kernel_rfl) (by kernel_rfl) (fun _ _ _ h => h) (by rfl) hHeld ?_
        simp only [Act.put, List.getElem_toArray, List.getElem_cons_zero, List.getElem_cons_succ, List.setIfInBounds_toArray, List.set_cons_zero, List.set_cons_succ]
        refine held_no (i := 11) rfl (by kernel_rfl) (by kernel_rfl) (by kernel_rfl) (fun _ _ _ h => h) (by rfl) hHeld ?_
        simp only [Act.put, List.getElem_toArray, List.getElem_cons_zero, List.getElem_cons_succ, List.setIfInBounds_toArray, List.set_cons_zero, List.set_cons_succ]
        refine held_no (i := 12) rfl (by kernel_rfl) (by kernel_rfl) (by kernel_rfl) (fun _ _ _ h => h) (by rfl) hHeld ?_
        simp only [Act.put, List.getElem_toArray, List.getElem_cons_zero, List.getElem_cons_succ, List.setIfInBounds_toArray, List.set_cons_zero, List.set_cons_succ]
        refine held_no (i := 13) rfl (by kernel_rfl) (by kernel_rfl) (by kernel_rfl) (fun _ _ _ h => h) (by rfl) hHeld ?_
        simp only [Act.put, List.getElem_toArray, List.getElem_cons_zero, List.getElem_cons_succ, List.setIfInBounds_toArray, List.set_cons_zero, List.set_cons_succ]
        refine held_no (i := 14) rfl (by kernel_rfl) (by kernel_rfl) (by kernel_rfl) (fun _ _ _ h => h) (by rfl) hHeld ?_
        simp only [Act.put, List.getElem_toArray, List.getElem_cons_zero, List.getElem_cons_succ, List.setIfInBounds_toArray, List.set_cons_zero, List.set_cons_succ]
        refine held_q (v := ?_) (i := 15) rfl (by kernel_rfl) (by kernel_rfl) (by kernel_rfl) (fun _ _ _ h => h) (by rfl) hHeld ?_ ?_
        rotate_left
        · (intro w' hS'; go_simp <;> (with_reducible rfl))
        simp only [Act.put, List.getElem_toArray, List.getElem_cons_zero, List.getElem_cons_succ, List.setIfInBounds_toArray, List.set_cons_zero, List.set_cons_succ]
        refine held_q (v := ?_) (i := 16) rfl (by kernel_rfl) (by kernel_rfl) (by kernel_rfl) (fun _ _ _ h => h) (by rfl) hHeld ?_ ?_
        rotate_left
        · (intro w' hS'; go_simp <;> (with_reducible rfl))
        simp only [Act.put, List.getElem_toArray, List.getElem_cons_zero, List.getElem_cons_succ, List.setIfInBounds_toArray, List.set_cons_zero, List.set_cons_succ]
        refine held_q (v := ?_) (i := 17) rfl (by kernel_rfl) (by kernel_rfl) (by kernel_rfl) (fun _ _ _ h => h) (by rfl) hHeld ?_ ?_
        rotate_left
        · (intro w' hS'; go_simp <;> (with_reducible rfl))
        simp only [Act.put, List.getElem_toArray, List.getElem_cons_zero, List.getElem_cons_succ, List.setIfInBounds_toArray, List.set_cons_zero, List.set_cons_succ]
        refine wpAnyH_done (by kernel_rfl) ?_ _
        go_wp2_with fail
        go_ret2
        exact LineOut.yes (HF.out.trans (fin_ok _ (.inl hst2))) (hk2.trans hHeld) (row_kept hsw hHeld)
      have n1 : ((sx.st : Int) == 1) = false := nb sx.st 1 e1
      by_cases e0 : sx.st = 0
      · rw [e0] at hc0
        have HF := Lib.hid (hfx.trans (fin_ok sx (.inl e0)))
        clear hfx
        go_wp2_with fail
        have c3 : ∀ w', Kept (fun _ => False) wr w' → w'.cell? ⟨R, 3, none⟩ = some (.slice aw sx.words.length cw) := fun w' q => by rw [q.cell (p := ⟨R, 3, none⟩) hVl not_false]; exact hc3
        have c0 : ∀ w', Kept (fun _ => False) wr w' → w'.cell? ⟨R, 0, none⟩ = some (.int .i64 0) := fun w' q => by rw [q.cell (p := ⟨R, 0, none⟩) hVl not_false]; exact hc0
        clear hc0 hc3
        refine wp_region_held_drew (S := (Kept (fun _ => False) wr)) (by kernel_rfl) ((Kept.refl _ wr).drew) (fun hHeld => ?_)
        refine held_q (v := ?_) (i := 0) rfl (by kernel_rfl) (by kernel_rfl) (by kernel_rfl) (fun _ _ _ h => h) (by rfl) hHeld ?_ ?_
        rotate_left
        · (intro w' hS'; go_simp <;> (with_reducible rfl))
        simp only [Act.put, List.getElem_toArray, List.getElem_cons_zero, List.getElem_cons_succ, List.setIfInBounds_toArray, List.set_cons_zero, List.set_cons_succ]
        refine held_q (v := ?_) (i := 1) rfl (by kernel_rfl) (by kernel_rfl) (by kernel_rfl) (fun _ _ _ h => h) (by rfl) hHeld ?_ ?_
        rotate_left
        · (intro w' hS'; go_simp <;> (with_reducible rfl))
        simp only [Act.put, List.getElem_toArray, List.getElem_cons_zero, List.getElem_cons_succ, List.setIfInBounds_toArray, List.set_cons_zero, List.set_cons_succ]
        refine held_q (v := ?_) (i := 2) rfl (by kernel_rfl) (by kernel_rfl) (by kernel_rfl) (fun _ _ _ h => h) (by rfl) hHeld ?_ ?_
        rotate_left
        · (intro w' hS'; go_simp <;> (with_reducible rfl))
        simp only [Act.put, List.getElem_toArray, List.getElem_cons_zero, List.getElem_cons_succ, List.setIfInBounds_toArray, List.set_cons_zero, List.set_cons_succ]
        refine held_q (v := ?_) (i := 3) rfl (by kernel_rfl) (by kernel_rfl) (by kernel_rfl) (fun _ _ _ h => h) (by rfl) hHeld ?_ ?_
        rotate_left
        · (intro w' hS'; go_simp <;> (with_reducible rfl))
        simp only [Act.put, List.getElem_toArray, List.getElem_cons_zero, List.getElem_cons_succ, List.setIfInBounds_toArray, List.set_cons_zero, List.set_cons_succ]
        refine held_q (v := ?_) (i := 4) rfl (by kernel_rfl) (by kernel_rfl) (by kernel_rfl) (fun _ _ _ h => h) (by rfl) hHeld ?_ ?_
        rotate_left
        · (intro w' hS'; go_simp <;> (with_reducible rfl))
        simp only [Act.put, List.getElem_toArray, List.getElem_cons_zero, List.getElem_cons_succ, List.setIfInBounds_toArray, List.set_cons_zero, List.set_cons_succ]
        refine held_q (v := ?_) (i := 5) rfl (by kernel_rfl) (by kernel_rfl) (by kernel_rfl) (fun _ _ _ h => h) (by rfl) hHeld ?_ ?_
        rotate_left
        · (intro w' hS'; go_simp <;> (with_reducible rfl))
        simp only [Act.put, List.getElem_toArray, List.getElem_cons_zero, List.getElem_cons_succ, List.setIfInBounds_toArray, List.set_cons_zero, List.set_cons_succ]
        refine held_q (v := ?_) (i := 6) rfl (by kernel_rfl) (by kernel_rfl) (by kernel_rfl) (fun _ _ _ h => h) (by rfl) hHeld ?_ ?_
        rotate_left
        · (intro w' hS'; go_simp <;> (with_reducible rfl))
        simp only [Act.put, List.getElem_toArray, List.getElem_cons_zero, List.getElem_cons_succ, List.setIfInBounds_toArray, List.set_cons_zero, List.set_cons_succ]
        refine held_q (v := ?_) (i := 7) rfl (by kernel_rfl) (by kernel_rfl) (by kernel_rfl) (fun _ _ _ h => h) (by rfl) hHeld ?_ ?_
        rotate_left
        · (intro w' hS'; go_simp <;> (with_reducible rfl))
        simp only [Act.put, List.getElem_toArray, List.getElem_cons_zero, List.getElem_cons_succ, List.setIfInBounds_toArray, List.set_cons_zero, List.set_cons_succ]
        refine held_q (v := ?_) (i := 8) rfl (by kernel_rfl) (by kernel_rfl) (by kernel_rfl) (fun _ _ _ h => h) (by rfl) hHeld ?_ ?_
        rotate_left
        · (intro w' hS'; go_simp <;> (with_reducible rfl))
        simp only [Act.put, List.getElem_toArray, List.getElem_cons_zero, List.getElem_cons_succ, List.setIfInBounds_toArray, List.set_cons_zero, List.set_cons_succ]
        refine held_q (v := ?_) (i := 9) rfl (by kernel_rfl) (by kernel_rfl) (by kernel_rfl) (fun _ _ _ h => h) (by rfl) hHeld ?_ ?_
        rotate_left
        · (intro w' hS'; go_simp <;> (with_reducible rfl))
        simp only [Act.put, List.getElem_toArray, List.getElem_cons_zero, List.getElem_cons_succ, List.setIfInBounds_toArray, List.set_cons_zero, List.set_cons_succ]
        refine held_no (i := 10) rfl (by kernel_rfl) (by kernel_rfl) (by kernel_rfl) (fun _ _ _ h => h) (by rfl) hHeld ?_
        simp only [Act.put, List.getElem_toArray, List.getElem_cons_zero, List.getElem_cons_succ, List.setIfInBounds_toArray, List.set_cons_zero, List.set_cons_succ]
        refine held_no (i := 11) rfl (by kernel_rfl) (by kernel_rfl) (by kernel_rfl) (fun _ _ _ h => h) (by rfl) hHeld ?_
        simp only [Act.put, List.getElem_toArray, List.getElem_cons_zero, List.getElem_cons_succ, List.setIfInBounds_toArray, List.set_cons_zero, List.set_cons_succ]
        refine held_no (i := 12) rfl (by kernel_rfl) (by kernel_rfl) (by kernel_rfl) (fun _ _ _ h => h) (by rfl) hHeld ?_
        simp only [Act.put, List.getElem_toArray, List.getElem_cons_zero, List.getElem_cons_succ, List.setIfInBounds_toArray, List.set_cons_zero, List.set_cons_succ]
        refine held_no (i := 13) rfl (by kernel_rfl) (by kernel_rfl) (by kernel_rfl) (fun _ _ _ h => h) (by rfl) hHeld ?_
        simp only [Act.put, List.getElem_toArray, List.getElem_cons_zero, List.getElem_cons_succ, List.setIfInBounds_toArray, List.set_cons_zero, List.set_cons_succ]
        refine held_no (i := 14) rfl (by kernel_rfl) (by kernel_rfl) (by kernel_rfl) (fun _ _ _ h => h) (by rfl) hHeld ?_
        simp only [Act.put, List.getElem_toArray, List.getElem_cons_zero, List.getElem_cons_succ, List.setIfInBounds_toArray, List.set_cons_zero, List.set_cons_succ]
        refine held_q (v := ?_) (i := 15) rfl (by kernel_rfl) (by kernel_rfl) (by kernel_rfl) (fun _ _ _ h => h) (by rfl) hHeld ?_ ?_
        rotate_left
        · (intro w' hS'; go_simp <;> (with_reducible rfl))
        simp only [Act.put, List.getElem_toArray, List.getElem_cons_zero, List.getElem_cons_succ, List.setIfInBounds_toArray, List.set_cons_zero, List.set_cons_succ]
        refine held_q (v := ?_) (i := 16) rfl (by kernel_rfl) (by kernel_rfl) (by kernel_rfl) (fun _ _ _ h => h) (by rfl) hHeld ?_ ?_
        rotate_left
        · (intro w' hS'; go_simp <;> (with_reducible rfl))
        simp only [Act.put, List.getElem_toArray, List.getElem_cons_zero, List.getElem_cons_succ, List.setIfInBounds_toArray, List.set_cons_zero, List.set_cons_succ]
        refine held_q (v := ?_) (i := 17) rfl (by kernel_rfl) (by kernel_rfl) (by kernel_rfl) (fun _ _ _ h => h) (by rfl) hHeld ?_ ?_
        rotate_left
        · (intro w' hS'; go_simp <;> (with_reducible rfl))
        simp only [Act.put, List.getElem_toArray, List.getElem_cons_zero, List.getElem_cons_succ, List.setIfInBounds_toArray, List.set_cons_zero, List.set_cons_succ]
        refine wpAnyH_done (by kernel_rfl) ?_ _
        go_wp2_with fail
        go_ret2
        exact LineOut.yes HF.out (hkv.trans hHeld) (row_kept hsw hHeld)
      by_cases e4 : sx.st = 4
      · rw [e4] at hc0
        have HF := Lib.hid (hfx.trans (fin_ok sx (.inr e4)))
        clear hfx
        go_wp2_with fail
        have c3 : ∀ w', Kept (fun _ => False) wr w' → w'.cell? ⟨R, 3, none⟩ = some (.slice aw sx.words.length cw) := fun w' q => by rw [q.cell (p := ⟨R, 3, none⟩) hVl not_false]; exact hc3
        have c0 : ∀ w', Kept (fun _ => False) wr w' → w'.cell? ⟨R, 0, none⟩ = some (.int .i64 4) := fun w' q => by rw [q.cell (p := ⟨R, 0, none⟩) hVl not_false]; exact hc0
        clear hc0 hc3
        refine wp_region_held_drew (S := (Kept (fun _ => False) wr)) (by kernel_rfl) ((Kept.refl _ wr).drew) (fun hHeld => ?_)
        refine held_q (v := ?_) (i := 0) rfl (by kernel_rfl) (by kernel_rfl) (by kernel_rfl) (fun _ _ _ h => h) (by rfl) hHeld ?_ ?_
        rotate_left
        · (intro w' hS'; go_simp <;> (with_reducible rfl))
        simp only [Act.put, List.getElem_toArray, List.getElem_cons_zero, List.getElem_cons_succ, List.setIfInBounds_toArray, List.set_cons_zero, List.set_cons_succ]
        refine held_q (v := ?_) (i := 1) rfl (by kernel_rfl) (by kernel_rfl) (by kernel_rfl) (fun _ _ _ h => h) (by rfl) hHeld ?_ ?_
        rotate_left
        · (intro w' hS'; go_simp <;> (with_reducible rfl))
        simp only [Act.put, List.getElem_toArray, List.getElem_cons_zero, List.getElem_cons_succ, List.setIfInBounds_toArray, List.set_cons_zero, List.set_cons_succ]
        refine held_q (v := ?_) (i := 2) rfl (by kernel_rfl) (by kernel_rfl) (by kernel_rfl) (fun _ _ _ h => h) (by rfl) hHeld ?_ ?_
        rotate_left
        · (intro w' hS'; go_simp <;> (with_reducible rfl))
        simp only [Act.put, List.getElem_toArray, List.getElem_cons_zero, List.getElem_cons_succ, List.setIfInBounds_toArray, List.set_cons_zero, List.set_cons_succ]
        refine held_q (v := ?_) (i := 3) rfl (by kernel_rfl) (by kernel_rfl) (by kernel_rfl) (fun _ _ _ h => h) (by rfl) hHeld ?_ ?_
        rotate_left
        · (intro w' hS'; go_simp <;> (with_reducible rfl))
        simp only [Act.put, List.getElem_toArray, List.getElem_cons_zero, List.getElem_cons_succ, List.setIfInBounds_toArray, List.set_cons_zero, List.set_cons_succ]
        refine held_q (v := ?_) (i := 4) rfl (by kernel_rfl) (by kernel_rfl) (by kernel_rfl) (fun _ _ _ h => h) (by rfl) hHeld ?_ ?_
        rotate_left
        · (intro w' hS'; go_simp <;> (with_reducible rfl))
        simp only [Act.put, List.getElem_toArray, List.getElem_cons_zero, List.getElem_cons_succ, List.setIfInBounds_toArray, List.set_cons_zero, List.set_cons_succ]
        refine held_q (v := ?_) (i := 5) rfl (by kernel_rfl) (by kernel_rfl) (by kernel_rfl) (fun _ _ _ h => h) (by rfl) hHeld ?_ ?_
        rotate_left
        · (intro w' hS'; go_simp <;> (with_reducible rfl))
        simp only [Act.put, List.getElem_toArray, List.getElem_cons_zero, List.getElem_cons_succ, List.setIfInBounds_toArray, List.set_cons_zero, List.set_cons_succ]
        refine held_q (v := ?_) (i := 6) rfl (by kernel_rfl) (by kernel_rfl) (by kernel_rfl) (fun _ _ _ h => h) (by rfl) hHeld ?_ ?_
        rotate_left
        · (intro w' hS'; go_simp <;> (with_reducible rfl))
        simp only [Act.put, List.getElem_toArray, List.getElem_cons_zero, List.getElem_cons_succ, List.setIfInBounds_toArray, List.set_cons_zero, List.set_cons_succ]
        refine held_q (v := ?_) (i := 7) rfl (by kernel_rfl) (by kernel_rfl) (by kernel_rfl) (fun _ _ _ h => h) (by rfl) hHeld ?_ ?_
        rotate_left
        · (intro w' hS'; go_simp <;> (with_reducible rfl))
        simp only [Act.put, List.getElem_toArray, List.getElem_cons_zero, List.getElem_cons_succ, List.setIfInBounds_toArray, List.set_cons_zero, List.set_cons_succ]
        refine held_q (v := ?_) (i := 8) rfl (by kernel_rfl) (by kernel_rfl) (by kernel_rfl) (fun _ _ _ h => h) (by rfl) hHeld ?_ ?_
        rotate_left
        · (intro w' hS'; go_simp <;> (with_reducible rfl))
        simp only [Act.put, List.getElem_toArray, List.getElem_cons_zero, List.getElem_cons_succ, List.setIfInBounds_toArray, List.set_cons_zero, List.set_cons_succ]
        refine held_q (v := ?_) (i := 9) rfl (by kernel_rfl) (by kernel_rfl) (by kernel_rfl) (fun _ _ _ h => h) (by rfl) hHeld ?_ ?_
        rotate_left
        · (intro w' hS'; go_simp <;> (with_reducible rfl))
        simp only [Act.put, List.getElem_toArray, List.getElem_cons_zero, List.getElem_cons_succ, List.setIfInBounds_toArray, List.set_cons_zero, List.set_cons_succ]
        refine held_q (v := ?_) (i := 10) rfl (by kernel_rfl) (by kernel_rfl) (by kernel_rfl) (fun _ _ _ h => h) (by rfl) hHeld ?_ ?_
        rotate_left
        · (intro w' hS'; go_simp <;> (with_reducible rfl))
        simp only [Act.put, List.getElem_toArray, List.getElem_cons_zero, List.getElem_cons_succ, List.setIfInBounds_toArray, List.set_cons_zero, List.set_cons_succ]
        refine held_q (v := ?_) (i := 11) rfl (by kernel_rfl) (by kernel_rfl) (by kernel_rfl) (fun _ _ _ h => h) (by rfl) hHeld ?_ ?_
        rotate_left
        · (intro w' hS'; go_simp <;> (with_reducible rfl))
        simp only [Act.put, List.getElem_toArray, List.getElem_cons_zero, List.getElem_cons_succ, List.setIfInBounds_toArray, List.set_cons_zero, List.set_cons_succ]
        refine held_q (v := ?_) (i := 12) rfl (by kernel_rfl) (by kernel_rfl) (by kernel_rfl) (fun _ _ _ h => h) (by rfl) hHeld ?_ ?_
        rotate_left
        · (intro w' hS'; go_simp <;> (with_reducible rfl))
        simp only [Act.put, List.getElem_toArray, List.getElem_cons_zero, List.getElem_cons_succ, List.setIfInBounds_toArray, List.set_cons_zero, List.set_cons_succ]
        refine held_q (v := ?_) (i := 13) rfl (by kernel_rfl) (by kernel_rfl) (by kernel_rfl) (fun _ _ _ h => h) (by rfl) hHeld ?_ ?_
        rotate_left
        · (intro w' hS'; go_simp <;> (with_reducible rfl))
        simp only [Act.put, List.getElem_toArray, List.getElem_cons_zero, List.getElem_cons_succ, List.setIfInBounds_toArray, List.set_cons_zero, List.set_cons_succ]
        refine held_q (v := ?_) (i := 14) rfl (by kernel_rfl) (by kernel_rfl) (by kernel_rfl) (fun _ _ _ h => h) (by rfl) hHeld ?_ ?_
        rotate_left
        · (intro w' hS'; go_simp <;> (with_reducible rfl))
        simp only [Act.put, List.getElem_toArray, List.getElem_cons_zero, List.getElem_cons_succ, List.setIfInBounds_toArray, List.set_cons_zero, List.set_cons_succ]
        refine held_q (v := ?_) (i := 15) rfl (by kernel_rfl) (by kernel_rfl) (by kernel_rfl) (fun _ _ _ h => h) (by rfl) hHeld ?_ ?_
        rotate_left
        · (intro w' hS'; go_simp <;> (with_reducible rfl))
        simp only [Act.put, List.getElem_toArray, List.getElem_cons_zero, List.getElem_cons_succ, List.setIfInBounds_toArray, List.set_cons_zero, List.set_cons_succ]
        refine held_q (v := ?_) (i := 16) rfl (by kernel_rfl) (by kernel_rfl) (by kernel_rfl) (fun _ _ _ h => h) (by rfl) hHeld ?_ ?_
        rotate_left
        · (intro w' hS'; go_simp <;> (with_reducible rfl))
        simp only [Act.put, List.getElem_toArray, List.getElem_cons_zero, List.getElem_cons_succ, List.setIfInBounds_toArray, List.set_cons_zero, List.set_cons_succ]
        refine held_q (v := ?_) (i := 17) rfl (by kernel_rfl) (by kernel_rfl) (by kernel_rfl) (fun _ _ _ h => h) (by rfl) hHeld ?_ ?_
        rotate_left
        · (intro w' hS'; go_simp <;> (with_reducible rfl))
        simp only [Act.put, List.getElem_toArray, List.getElem_cons_zero, List.getElem_cons_succ, List.setIfInBounds_toArray, List.set_cons_zero, List.set_cons_succ]
        refine wpAnyH_done (by kernel_rfl) ?_ _
        go_wp2_with fail
        go_ret2
        exact LineOut.yes HF.out (hkv.trans hHeld) (row_kept hsw hHeld)
      · have n0 : ((sx.st : Int) == 0) = false := nb sx.st 0 e0
        have n4 : ((sx.st : Int) == 4) = false := nb sx.st 4 e4
        have HF := Lib.hid (hfx.trans (fin_no sx e0 e1 e4))
        clear hfx
        go_wp2_with fail
        have c3 : ∀ w', Kept (fun _ => False) wr w' → w'.cell? ⟨R, 3, none⟩ = some (.slice aw sx.words.length cw) := fun w' q => by rw [q.cell (p := ⟨R, 3, none⟩) hVl not_false]; exact hc3
        have c0 : ∀ w', Kept (fun _ => False) wr w' → w'.cell? ⟨R, 0, none⟩ = some (.int .i64 (sx.st : Int)) := fun w' q => by rw [q.cell (p := ⟨R, 0, none⟩) hVl not_false]; exact hc0
        clear hc0 hc3
        refine wp_region_held_drew (S := (Kept (fun _ => False) wr)) (by kernel_rfl) ((Kept.refl _ wr).drew) (fun hHeld => ?_)
        refine held_q (v := ?_) (i := 0) rfl (by kernel_rfl) (by kernel_rfl) (by kernel_rfl) (fun _ _ _ h => h) (by rfl) hHeld ?_ ?_
        rotate_left
        · (intro w' hS'; go_simp <;> (with_reducible rfl))
        simp only [Act.put, List.getElem_toArray, List.getElem_cons_zero, List.getElem_cons_succ, List.setIfInBounds_toArray, List.set_cons_zero, List.set_cons_succ]
        refine held_q (v := ?_) (i := 1) rfl (by kernel_rfl) (by kernel_rfl) (by kernel_rfl) (fun _ _ _ h => h) (by rfl) hHeld ?_ ?_
        rotate_left
        · (intro w' hS'; go_simp <;> (with_reducible rfl))
        simp only [Act.put, List.getElem_toArray, List.getElem_cons_zero, List.getElem_cons_succ, List.setIfInBounds_toArray, List.set_cons_zero, List.set_cons_succ]
        refine held_q (v := ?_) (i := 2) rfl (by kernel_rfl) (by kernel_rfl) (by kernel_rfl) (fun _ _ _ h => h) (by rfl) hHeld ?_ ?_
        rotate_left
        · (intro w' hS'; go_simp <;> (with_reducible rfl))
        simp only [Act.put, List.getElem_toArray, List.getElem_cons_zero, List.getElem_cons_succ, List.setIfInBounds_toArray, List.set_cons_zero, List.set_cons_succ]
        refine held_q (v := ?_) (i := 3) rfl (by kernel_rfl) (by kernel_rfl) (by kernel_rfl) (fun _ _ _ h => h) (by rfl) hHeld ?_ ?_
        rotate_left
        · (intro w' hS'; go_simp <;> (with_reducible rfl))
        simp only [Act.put, List.getElem_toArray, List.getElem_cons_zero, List.getElem_cons_succ, List.setIfInBounds_toArray, List.set_cons_zero, List.set_cons_succ]
        refine held_q (v := ?_) (i := 4) rfl (by kernel_rfl) (by kernel_rfl) (by kernel_rfl) (fun _ _ _ h => h) (by rfl) hHeld ?_ ?_
        rotate_left
        · (intro w' hS'; go_simp <;> (with_reducible rfl))
        simp only [Act.put, List.getElem_toArray, List.getElem_cons_zero, List.getElem_cons_succ, List.setIfInBounds_toArray, List.set_cons_zero, List.set_cons_succ]
        refine held_q (v := ?_) (i := 5) rfl (by kernel_rfl) (by kernel_rfl) (by kernel_rfl) (fun _ _ _ h => h) (by rfl) hHeld ?_ ?_
        rotate_left
        · (intro w' hS'; go_simp <;> (with_reducible rfl))
        simp only [Act.put, List.getElem_toArray, List.getElem_cons_zero, List.getElem_cons_succ, List.setIfInBounds_toArray, List.set_cons_zero, List.set_cons_succ]
        refine held_q (v := ?_) (i := 6) rfl (by kernel_rfl) (by kernel_rfl) (by kernel_rfl) (fun _ _ _ h => h) (by rfl) hHeld ?_ ?_
        rotate_left
        · (intro w' hS'; go_simp <;> (with_reducible rfl))
        simp only [Act.put, List.getElem_toArray, List.getElem_cons_zero, List.getElem_cons_succ, List.setIfInBounds_toArray, List.set_cons_zero, List.set_cons_succ]
        refine held_q (v := ?_) (i := 7) rfl (by kernel_rfl) (by kernel_rfl) (by kernel_rfl) (fun _ _ _ h => h) (by rfl) hHeld ?_ ?_
        rotate_left
        · (intro w' hS'; go_simp <;> (with_reducible rfl))
        simp only [Act.put, List.getElem_toArray, List.getElem_cons_zero, List.getElem_cons_succ, List.setIfInBounds_toArray, List.set_cons_zero, List.set_cons_succ]
        refine held_q (v := ?_) (i := 8) rfl (by kernel_rfl) (by kernel_rfl) (by kernel_rfl) (fun _ _ _ h => h) (by rfl) hHeld ?_ ?_
        rotate_left
        · (intro w' hS'; go_simp <;> (with_reducible rfl))
        simp only [Act.put, List.getElem_toArray, List.getElem_cons_zero, List.getElem_cons_succ, List.setIfInBounds_toArray, List.set_cons_zero, List.set_cons_succ]
        refine held_q (v := ?_) (i := 9) rfl (by kernel_rfl) (by kernel_rfl) (by kernel_rfl) (fun _ _ _ h => h) (by rfl) hHeld ?_ ?_
        rotate_left
        · (intro w' hS'; go_simp <;> (with_reducible rfl))
        simp only [Act.put, List.getElem_toArray, List.getElem_cons_zero, List.getElem_cons_succ, List.setIfInBounds_toArray, List.set_cons_zero, List.set_cons_succ]
        refine held_q (v := ?_) (i := 10) rfl (by kernel_rfl) (by kernel_rfl) (by kernel_rfl) (fun _ _ _ h => h) (by rfl) hHeld ?_ ?_
        rotate_left
        · (intro w' hS'; go_simp <;> (with_reducible rfl))
        simp only [Act.put, List.getElem_toArray, List.getElem_cons_zero, List.getElem_cons_succ, List.setIfInBounds_toArray, List.set_cons_zero, List.set_cons_succ]
        refine held_q (v := ?_) (i := 11) rfl (by kernel_rfl) (by kernel_rfl) (by kernel_rfl) (fun _ _ _ h => h) (by rfl) hHeld ?_ ?_
        rotate_left
        · (intro w' hS'; go_simp <;> (with_reducible rfl))
        simp only [Act.put, List.getElem_toArray, List.getElem_cons_zero, List.getElem_cons_succ, List.setIfInBounds_toArray, List.set_cons_zero, List.set_cons_succ]
        refine held_q (v := ?_) (i := 12) rfl (by kernel_rfl) (by kernel_rfl) (by kernel_rfl) (fun _ _ _ h => h) (by rfl) hHeld ?_ ?_
        rotate_left
        · (intro w' hS'; go_simp <;> (with_reducible rfl))
        simp only [Act.put, List.getElem_toArray, List.getElem_cons_zero, List.getElem_cons_succ, List.setIfInBounds_toArray, List.set_cons_zero, List.set_cons_succ]
        refine held_q (v := ?_) (i := 13) rfl (by kernel_rfl) (by kernel_rfl) (by kernel_rfl) (fun _ _ _ h => h) (by rfl) hHeld ?_ ?_
        rotate_left
        · (intro w' hS'; go_simp <;> (with_reducible rfl))
        simp only [Act.put, List.getElem_toArray, List.getElem_cons_zero, List.getElem_cons_succ, List.setIfInBounds_toArray, List.set_cons_zero, List.set_cons_succ]
        refine held_q (v := ?_) (i := 14) rfl (by kernel_rfl) (by kernel_rfl) (by kernel_rfl) (fun _ _ _ h => h) (by rfl) hHeld ?_ ?_
        rotate_left
        · (intro w' hS'; go_simp <;> (with_reducible rfl))
        simp only [Act.put, List.getElem_toArray, List.getElem_cons_zero, List.getElem_cons_succ, List.setIfInBounds_toArray, List.set_cons_zero, List.set_cons_succ]
        refine held_q (v := ?_) (i := 15) rfl (by kernel_rfl) (by kernel_rfl) (by kernel_rfl) (fun _ _ _ h => h) (by rfl) hHeld ?_ ?_
        rotate_left
        · (intro w' hS'; go_simp <;> (with_reducible rfl))
        simp only [Act.put, List.getElem_toArray, List.getElem_cons_zero, List.getElem_cons_succ, List.setIfInBounds_toArray, List.set_cons_zero, List.set_cons_succ]
        refine held_q (v := ?_) (i := 16) rfl (by kernel_rfl) (by kernel_rfl) (by kernel_rfl) (fun _ _ _ h => h) (by rfl) hHeld ?_ ?_
        rotate_left
        · (intro w' hS'; go_simp <;> (with_reducible rfl))
        simp only [Act.put, List.getElem_toArray, List.getElem_cons_zero, List.getElem_cons_succ, List.setIfInBounds_toArray, List.set_cons_zero, List.set_cons_succ]
        refine held_q (v := ?_) (i := 17) rfl (by kernel_rfl) (by kernel_rfl) (by kernel_rfl) (fun _ _ _ h => h) (by rfl) hHeld ?_ ?_
        rotate_left
        · (intro w' hS'; go_simp <;> (with_reducible rfl))
        simp only [Act.put, List.getElem_toArray, List.getElem_cons_zero, List.getElem_cons_succ, List.setIfInBounds_toArray, List.set_cons_zero, List.set_cons_succ]
        refine wpAnyH_done (by kernel_rfl) ?_ _
        go_wp2_with fail
        go_ret2
        exact LineOut.no HF.out (hkv.trans hHeld)
end Go.Proofs.YtlheboafhgmbpaaDoor
