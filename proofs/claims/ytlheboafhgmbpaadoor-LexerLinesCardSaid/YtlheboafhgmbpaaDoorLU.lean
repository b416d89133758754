/- LexerJoin's walk. -/
import Derived.Test.YtlheboafhgmbpaaDoorLT
namespace Go.Proofs.YtlheboafhgmbpaaDoor
open Go.RowKit
set_option maxRecDepth 100000
set_option linter.unusedSimpArgs false
set_option linter.unusedVariables false

theorem bslice_b0 (w : World) : (Instr.buildSlice 22 0 #[]).run Tryd.prog w = .ok (.slice (some ⟨w.heap.size, 0, none⟩) 0 0) (w.alloc (.cells #[] 5)) := by kernel_rfl
/-- A row of bytes grows by these; its list is named. -/
theorem app_by2 {w w0 : World} {base : Nat} {v x : Value} {xs l : List UInt8} (h : w.ownsRow base 5 1 v xs.length (bv xs)) (hx : ByAt w x l) (hn : xs.length + l.length ≤ 1000000) (hk : Kept (fun _ => False) w0 w) (hb : w0.heap.size ≤ base) (hb2 : base ≤ w.heap.size) (ty : TypeId) :
    ∃ a' c' ys w', ys = xs ++ l ∧ (Builtin.append_ #[22, 22] ty #[v, x]).run Tryd.prog w = .ok (.slice a' ys.length c') w' ∧ w'.ownsRow base 5 1 (.slice a' ys.length c') ys.length (bv ys) ∧ Kept (fun _ => False) w0 w' := by
  obtain ⟨v', w', ap, ho, hg⟩ := app_by h hx hn hb2 ty
  rw [← bv_app, ← List.length_append] at ho
  obtain ⟨a', c', rfl⟩ := row_form ho
  exact ⟨a', c', _, w', rfl, ap, ho, grown_kept hk hg (fun k e => Nat.le_trans hb (World.ownsRow.lt h k e).1)⟩
/-- A copy of bytes of the call's own. -/
theorem copy_by {w w0 : World} {v : Value} {l : List UInt8} (h : ByAt w v l) (hn : l.length ≤ 1000000) (hk : Kept (fun _ => False) w0 w) (ty : TypeId) :
    ∃ W1 a' c' w', (Instr.buildSlice 22 0 #[]).run Tryd.prog w = .ok (.slice (some ⟨w.heap.size, 0, none⟩) 0 0) W1 ∧
      (Builtin.append_ #[22, 22] ty #[.slice (some ⟨w.heap.size, 0, none⟩) 0 0, v]).run Tryd.prog W1 = .ok (.slice a' l.length c') w' ∧ w'.ownsRow w.heap.size 5 1 (.slice a' l.length c') l.length (bv l) ∧ Kept (fun _ => False) w0 w' := by
  have k1 : Kept (fun _ => False) w (w.alloc (.cells #[] 5)) := (Kept.refl _ w).alloc _
  have ho : (w.alloc (.cells #[] 5)).ownsRow w.heap.size 5 1 (.slice (some ⟨w.heap.size, 0, none⟩) 0 0) ([] : List UInt8).length (bv []) := World.ownsRow_made w #[] 0 (Nat.le_refl _) (Nat.zero_le _) rfl
  obtain ⟨a', c', ys, w', hys, ap, ho', k'⟩ := app_by2 ho (h.kept k1) (by simpa using hn) (hk.trans k1) hk.size k1.size ty
  rw [List.nil_append] at hys
  subst hys
  exact ⟨_, a', c', w', bslice_b0 w, ap, ho', k'⟩
theorem wpl_append {P : Program} {ops : Array Oper} {rest : List Oper} {o : Oper} {a : Act} {w w1 : World} {Q : Exit → Act → World → Prop} {v p q : Value} (t : TypeId) (x y : Operand) (hgd : o.guard = none) (ho : o.op = .call { callee := .builtin .append, args := #[x, y], argTypes := #[t, t] }) (hx : a.eval x = p) (hy : a.eval y = q)
    (hf : (Builtin.append_ #[t, t] o.type #[p, q]).run P w = .ok v w1) (h : wpList P ops Q rest (a.put o.dst v) w1) : wpList P ops Q (o :: rest) a w :=
  wpl_val hgd (exec_append t x y ho hx hy hf) h
theorem bslice_one (m : Int) (w : World) : (Instr.buildSlice 22 1 #[(0, .int .u8 m)]).run Tryd.prog w = .ok (.slice (some ⟨w.heap.size, 0, none⟩) 1 1) (w.alloc (.cells #[.int .u8 m] 5)) := by kernel_rfl
theorem byt_one {w : World} {g c : Nat} {b : UInt8} {t : TypeId} {fr : Nat × Nat} (h : w.heap[g]? = some (.cells #[.int .u8 b.toNat] t fr)) : ByAt w (.slice (some ⟨g, 0, none⟩) 1 c) [b] :=
  lit_by (l := [b]) (cs := [.int .u8 b.toNat]) h rfl (by simp [maxLen])
/-- What Lines hands back, both ways in one. -/
theorem LinesOut.gen {w w' : World} {l : List UInt8} {e : Ending} (hl : ¬ 20000 < l.length) (h : LinesOut w (linesB l) e w') :
    ∃ a n c, ∃ z y : Nat, e = .returned (.tuple #[.slice a n c, .int .i64 (z : Int), .int .i64 (y : Int)]) ∧ Kept (fun _ => False) w w' ∧
      ((∃ j, foldL [] 1 (cutB l) = .error j ∧ z = j ∧ y = 5 ∧ n = 0) ∨ (∃ ls, foldL [] 1 (cutB l) = .ok ls ∧ z = 0 ∧ y = 0 ∧ n = ls.length ∧ OwnLines w' w.heap.size (.slice a n c) ls)) := by
  rw [linesB_short hl] at h
  obtain ⟨k, h⟩ := h
  cases hr : foldL [] 1 (cutB l) with
  | error j =>
    rw [hr] at h
    exact ⟨none, 0, 0, j, 5, h, k, .inl ⟨j, rfl, rfl, rfl, rfl⟩⟩
  | ok ls =>
    rw [hr] at h
    obtain ⟨v, e1, e2⟩ := h
    obtain ⟨a, c, rfl⟩ := e2.slc
    exact ⟨a, _, c, 0, 0, e1, k, .inr ⟨ls, rfl, rfl, rfl, rfl, e2⟩⟩
theorem count_take (l : List UInt8) (k : Nat) (hk : k < l.length) : (l.take (k + 1)).count 10 = (l.take k).count 10 + if l.getD k 0 == 10 then 1 else 0 := by
  rw [List.take_succ_eq_append_getElem hk, List.count_append, List.getD_eq_getElem?_getD, List.getElem?_eq_getElem hk]
  simp [List.count_cons]
/-- The first k lines' numbers are raised. -/
def bumped (N : Nat) (ms : List LineE) (k : Nat) : List LineE := (ms.take k).map (shiftE N) ++ ms.drop k
theorem bumped_len (N : Nat) (ms : List LineE) (k : Nat) : (bumped N ms k).length = ms.length := by unfold bumped; simp; omega
theorem bumped_at {N : Nat} {ms : List LineE} {k : Nat} {x : LineE} (hx : ms[k]? = some x) : (bumped N ms k)[k]? = some x := by
  have hk := (List.getElem?_eq_some_iff.1 hx).1
  unfold bumped
  rw [List.getElem?_append_right (by simp; omega)]
  simp [List.getElem?_drop, Nat.min_eq_left (Nat.le_of_lt hk), hx]
theorem bumped_step {N : Nat} {ms : List LineE} {k : Nat} {x : LineE} (hx : ms[k]? = some x) : (bumped N ms k).set k ⟨x.n + N, x.words⟩ = bumped N ms (k + 1) := by
  obtain ⟨hk, e⟩ := List.getElem?_eq_some_iff.1 hx
  unfold bumped
  have hl : ((ms.take k).map (shiftE N)).length = k := by simp; omega
  rw [List.set_append_right _ _ (by omega), hl, Nat.sub_self, List.drop_eq_getElem_cons hk, List.set_cons_zero, List.take_succ_eq_append_getElem hk, e]
  simp [shiftE]
theorem bumped_all (N : Nat) (ms : List LineE) : bumped N ms ms.length = ms.map (shiftE N) := by unfold bumped; simp
theorem own_range {w : World} {B : Nat} {v : Value} {ls : List LineE} (h : OwnLines w B v ls) : ∀ k, v.ownBlock = some k → B ≤ k ∧ k < w.heap.size ∧ ∃ c fz, w.heap[k]? = some (.cells c 32 fz) := fun k hk => by
  obtain ⟨ps, h1, _⟩ := h
  obtain ⟨q, c, e⟩ := own_type h1 hk
  exact ⟨q, (Array.getElem?_eq_some_iff.1 e).1, c, _, e⟩
set_option maxRecDepth 100000 in
set_option maxHeartbeats 16000000 in
theorem join_law {w : World} {v1 v2 : Value} {a b : List UInt8} (h1 : ByC w v1 a) (h2 : ByC w v2 b) (hT : Tab8 w) :
    Calls Tryd.prog 6 #[v1, v2] w fun e w' => e = .returned (.bool true) ∧ Kept (fun _ => False) w w' := by
  have hm1 : a.length ≤ maxLen := by obtain ⟨⟨_, _, _, hm, _⟩, _⟩ := h1; exact hm
  have hm2 : b.length ≤ maxLen := by obtain ⟨⟨_, _, _, hm, _⟩, _⟩ := h2; exact hm
  simp only [maxLen] at hm1 hm2
  obtain ⟨a1, c1, hv1⟩ := h1.1.slc
  subst hv1
  obtain ⟨a2, c2, hv2⟩ := h2.1.slc
  subst hv2
  by_cases q1 : 3000 < a.length
  · have d1 : decide ((3000 : Int) < (a.length : Int)) = true := decide_eq_true (by omega)
    go_enter Tryd.func6, Tryd.ntmps6
    go_wp2_with fail
    refine (known_ct hT).mono ?_
    rintro e W9 ⟨rfl, k9⟩
    go_wp2_with fail
    go_ret
    exact ⟨rfl, (Kept.refl _ w).trans k9⟩
  have d1 : decide ((3000 : Int) < (a.length : Int)) = false := decide_eq_false (by omega)
  by_cases q2 : 3000 < b.length
  · have d2 : decide ((3000 : Int) < (b.length : Int)) = true := decide_eq_true (by omega)
    go_enter Tryd.func6, Tryd.ntmps6
    go_wp2_with fail
    refine (known_ct hT).mono ?_
    rintro e W9 ⟨rfl, k9⟩
    go_wp2_with fail
    go_ret
    exact ⟨rfl, (Kept.refl _ w).trans k9⟩
  have d2 : decide ((3000 : Int) < (b.length : Int)) = false := decide_eq_false (by omega)
  go_enter Tryd.func6, Tryd.ntmps6
  go_wp2_with fail
  refine (lines_ct h1 hT).mono ?_
  rintro e W1 hL1
  obtain ⟨la, ln, lcap, lz, ly, rfl, k1, hr1⟩ := hL1.gen (by omega)
  clear hL1
  have l2 := lines_ct (h2.kept k1) (hT.kept k1)
  go_wp2_with fail
  refine l2.mono ?_
  rintro e W2 hL2
  obtain ⟨ma, mn, mcap, mz, my, rfl, k2, hr2⟩ := hL2.gen (by omega)
  clear hL2 l2
  have kk2 := k1.trans k2
  -- both texts, a ten between them
  obtain ⟨V1, x1, y1, V2, b1, ap1, ho1, kv1⟩ := copy_by (h1.kept kk2).1 (by omega) (Kept.refl _ W2) 22
  have bs2 := bslice_one 10 V2
  have kv2 : Kept (fun _ => False) V2 (V2.alloc (.cells #[.int .u8 10] 5)) := (Kept.refl _ V2).alloc _
  have hg2 := heap_last V2 (.cells #[.int .u8 10] 5)
  obtain ⟨x2, y2, l2', V4, hl2, ap2, ho2, kv4⟩ := app_by2 (row_kept ho1 kv2) (byt_one (b := 10) (c := 1) hg2) (by simp; omega) (kv1.trans kv2) (Nat.le_refl _) (by have := kv1.size; have := kv2.size; omega) 22
  obtain ⟨x3, y3, l3', V5, hl3, ap3, ho3, kv5⟩ := app_by2 ho2 ((h2.kept kk2).1.kept kv4) (by rw [hl2]; simp; omega) kv4 (Nat.le_refl _) kv4.size 22
  have hl3' : l3' = a ++ 10 :: b := by rw [hl3, hl2]; simp
  have hlen3 : l3'.length ≤ 6001 := by rw [hl3']; simp; omega
  have kk5 := kk2.trans kv5
  have l3 := lines_ct (ByC.own ho3) (hT.kept kk5)
  have HL := Lib.hid hl3'
  clear hl3' hl3 hl2 ho1 ho2 ho3 hg2 kv1 kv2 kv4
  go_wp2_with (first
    | (with_reducible refine wpl_bslice 22 _ _ rfl rfl ?_ b1 ?_
       · (go_simp <;> rfl)
       simp only [Act.put, List.getElem_toArray, List.getElem_cons_zero, List.getElem_cons_succ, List.setIfInBounds_toArray, List.set_cons_zero, List.set_cons_succ])
    | (with_reducible refine wpl_bslice 22 _ _ rfl rfl ?_ bs2 ?_
       · (go_simp <;> rfl)
       simp only [Act.put, List.getElem_toArray, List.getElem_cons_zero, List.getElem_cons_succ, List.setIfInBounds_toArray, List.set_cons_zero, List.set_cons_succ])
    | (with_reducible refine wpl_append 22 _ _ rfl rfl ?_ ?_ ap1 ?_
       · rfl
       · rfl
       simp only [Act.put, List.getElem_toArray, List.getElem_cons_zero, List.getElem_cons_succ, List.setIfInBounds_toArray, List.set_cons_zero, List.set_cons_succ])
    | (with_reducible refine wpl_append 22 _ _ rfl rfl ?_ ?_ ap2 ?_
       · rfl
       · rfl
       simp only [Act.put, List.getElem_toArray, List.getElem_cons_zero, List.getElem_cons_succ, List.setIfInBounds_toArray, List.set_cons_zero, List.set_cons_succ])
    | (with_reducible refine wpl_append 22 _ _ rfl rfl ?_ ?_ ap3 ?_
       · rfl
       · rfl
       simp only [Act.put, List.getElem_toArray, List.getElem_cons_zero, List.getElem_cons_succ, List.setIfInBounds_toArray, List.set_cons_zero, List.set_cons_succ]))
  refine l3.mono ?_
  rintro e W6 hL3
  obtain ⟨ba, bn, bcap, bz, by', rfl, k6, hr3⟩ := hL3.gen (by omega)
  clear hL3 l3 b1 bs2 ap1 ap2 ap3
  rw [HL.out, foldL_join] at hr3
  have kk6 := kk5.trans k6
  have hN := cutB_len a
  have hNle := count_le_len a
  have h6 := h1.kept kk6
  have hj1 := fun j => foldL_num (cutB a) [] 1 j
  have hj2 := fun j => foldL_num (cutB b) [] 1 j
  have hNb := cutB_len b
  have hNble := count_le_len b
  generalize (cutB a).length = N at *
  have HR := Lib.hid (And.intro hr1 (And.intro hr2 hr3))
  have HN := Lib.hid (And.intro hN (And.intro hNb (And.intro hj1 hj2)))
  clear hr1 hr2 hr3 HL hN hNb hj1 hj2
  go_wp2_with fail
  go_loopw [14, 52] (fun n i wr => ∃ k m : Nat, k ≤ a.length ∧ i = .int .i64 k ∧ n = .int .i64 (m : Int) ∧ m = 1 + (a.take k).count 10 ∧ wr = W6) (fun _ i _ => a.length - (intOf i).toNat)
  case atStart => exact ⟨0, 1, by omega, rfl, rfl, rfl, rfl⟩
  case round =>
    obtain ⟨k, m, hk, rfl, rfl, hm, rfl⟩ := hrel
    by_cases hlt : k < a.length
    · obtain ⟨bb, oo, rfl, _, e1⟩ := h6.byte hlt
      have ht := count_take a k hlt
      have hm2 : m ≤ 1 + a.length := by
        have := List.count_le_length (a := (10 : UInt8)) (l := a.take k)
        rw [List.length_take] at this
        omega
      generalize a.getD k 0 = x at e1 ht
      have hkz : decide ((k : Int) < (a.length : Int)) = true := decide_eq_true (by omega)
      by_cases hx : x = 10
      · subst hx
        have HM := Lib.hid (And.intro hm ht)
        clear hm ht
        go_wp2_with fail
        go_roundw
        case rel => exact ⟨k + 1, m + 1, by omega, by go_num, by go_num, by rw [HM.out.2, if_pos (by rfl)]; have := HM.out.1; omega, trivial⟩
        case measure => simp [intOf]; omega
      · have hx1 : ((x.toNat : Int) == 10) = false := by
          simp only [beq_eq_false_iff_ne, ne_eq]
          intro e
          exact hx (UInt8.toNat_inj.1 (by show x.toNat = 10; omega))
        have hx2 : ¬ (x == 10) = true := by simpa using hx
        have HM := Lib.hid (And.intro hm (And.intro ht hx2))
        clear hm ht hx2 hx
        go_wp2_with fail
        go_roundw
        case rel => exact ⟨k + 1, m, by omega, by go_num, rfl, by rw [HM.out.2.1, if_neg HM.out.2.2]; have := HM.out.1; omega, trivial⟩
        case measure => simp [intOf]; omega
    · obtain rfl : k = a.length := by omega
      rw [List.take_length] at hm
      obtain ⟨hN, hNb, hj1, hj2⟩ := HN.out
      obtain rfl : m = N := by omega
      have hkz : decide ((a.length : Int) < (a.length : Int)) = false := by simp
      obtain ⟨hr1, hr2, hr3⟩ := HR.out
      clear HR h6
      rcases hr1 with ⟨j, eA, rfl, rfl, rfl⟩ | ⟨ls, eA, rfl, rfl, rfl, hO1⟩
      · rw [eA] at hr3
        dsimp only at hr3
        rcases hr3 with ⟨j', e3, rfl, rfl, _⟩ | ⟨_, e3, _⟩
        · injection e3 with e3
          subst e3
          have jj : ((lz : Int) == (lz : Int)) = true := by simp
          clear eA hr2 hj1 hj2 hN hNb HN
          go_wp2_with fail
          refine (known_ct (hT.kept kk6)).mono ?_
          rintro e W9 ⟨rfl, k9⟩
          go_wp2_with fail
          go_ret
          exact ⟨rfl, (kk6).trans k9⟩
        · cases e3
      · rw [eA] at hr3
        dsimp only at hr3
        rcases hr2 with ⟨j, eB, rfl, rfl, rfl⟩ | ⟨ms, eB, rfl, rfl, rfl, hO2⟩
        · rw [eB] at hr3
          dsimp only at hr3
          rcases hr3 with ⟨j', e3, rfl, rfl, _⟩ | ⟨_, e3, _⟩
          · injection e3 with e3
            have hjb := hj2 _ eB
            have jj : ((bz : Int) == (m : Int) + (mz : Int)) = true := by simp; omega
            have hmz : mz ≤ 4000 := by omega
            have hmm : m ≤ 4000 := by omega
            clear hm e3 hjb eA eB hO1 hj1 hj2 hN hNb HN
            go_wp2_with fail
            refine (known_ct (hT.kept kk6)).mono ?_
            rintro e W9 ⟨rfl, k9⟩
            go_wp2_with fail
            go_ret
            exact ⟨rfl, (kk6).trans k9⟩
          · cases e3
        · rw [eB] at hr3
          dsimp only at hr3
          rcases hr3 with ⟨j', e3, _⟩ | ⟨xs, e3, rfl, rfl, rfl, hO3⟩
          · cases e3
          · injection e3 with e3
            have hxl : xs.length = ls.length + ms.length := by rw [← e3]; simp
            have hnums := foldL_nums (cutB b) [] 1 3001 ms (fun x hx => by simp at hx) (by omega) eB
            have hlsl := foldL_len (cutB a) [] 1 ls eA
            have hmsl := foldL_len (cutB b) [] 1 ms eB
            simp only [List.length_nil, Nat.zero_add] at hlsl hmsl
            rw [cutB_len] at hlsl
            have hlsm : ls.length ≤ 4000 := by omega
            have hmsm : ms.length ≤ 4000 := by omega
            have hmm : m ≤ 4000 := by omega
            have hge : decide (((xs.length : Nat) : Int) != (ls.length : Int) + (ms.length : Int)) = false := by simp; omega
            have hge2 : (((xs.length : Nat) : Int) != (ls.length : Int) + (ms.length : Int)) = false := by simp; omega
            have HE := Lib.hid e3.symm
            have HX := Lib.hid hxl
            have HH := Lib.hid hnums
            clear hm e3 hxl hnums hlsl hmsl eA eB hN hNb hj1 hj2 HN hNle hNble hlen3
            obtain ⟨wr', hwr⟩ : ∃ W, wr = W := ⟨_, rfl⟩
            rw [hwr] at k6 kk6 hO3 ⊢
            clear hwr
            obtain ⟨S, hS⟩ : ∃ S : Nat → Prop, S = fun q => (Value.slice ma ms.length mcap).ownBlock = some q := ⟨_, rfl⟩
            have hO2' := hO2.kept (kv5.trans k6)
            have hO1' := hO1.kept ((k2.trans kv5).trans k6)
            have hSL : ∀ q, S q → W1.heap.size ≤ q ∧ q < W2.heap.size ∧ ∃ c fz, wr'.heap[q]? = some (.cells c 32 fz) := fun q hq => by
              subst hS
              obtain ⟨z1, z2, _⟩ := own_range hO2 q hq
              obtain ⟨_, _, z3⟩ := own_range hO2' q hq
              exact ⟨z1, z2, z3⟩
            have hL1 : ∀ q, (Value.slice la ls.length lcap).ownBlock = some q → q < W1.heap.size := fun q hq => (own_range hO1 q hq).2.1
            have hw1 : w.heap.size ≤ W1.heap.size := k1.size
            have hw2 : W2.heap.size ≤ V5.heap.size := kv5.size
            have hsz : W1.heap.size ≤ wr'.heap.size := Nat.le_trans (Nat.le_trans k2.size kv5.size) k6.size
            clear hO2 hO1
            go_wp2_with fail
            go_loopw [108] (fun i wx => ∃ k : Nat, k ≤ ms.length ∧ i = .int .i64 k ∧ OwnLines wx W1.heap.size (.slice ma ms.length mcap) (bumped m ms k) ∧ Kept S wr' wx) (fun i _ => ms.length - (intOf i).toNat)
            case atStart => exact ⟨0, by omega, rfl, by unfold bumped; simpa using hO2', Kept.refl _ _⟩
            case round =>
              obtain ⟨k, hk, rfl, ho, hks⟩ := hrel
              obtain ⟨_, pc, hpv⟩ := ho.slc
              rw [bumped_len] at hpv
              by_cases hlt : k < ms.length
              · have hx : ms[k]? = some ms[k] := List.getElem?_eq_getElem hlt
                have hxn := HH.out ms[k] (List.getElem_mem hlt)
                generalize ms[k] = x at hx hxn
                obtain ⟨g, a', c', hma, hBg, hgl, _, e1, e2, hw⟩ := ho.at (bumped_at hx)
                subst hma
                obtain ⟨ho', kb, fz, _⟩ := ho.bump (bumped_at hx) (x.n + m)
                rw [bumped_step hx, Int.natCast_add] at ho'
                rw [Int.natCast_add] at kb
                have hSg : S g := by rw [hS]; rfl
                have hks' := hks.trans (kb.mono (fun _ _ e => by subst e; exact hSg) : Kept S _ _)
                have hkz : decide ((k : Int) < (ms.length : Int)) = true := decide_eq_true (by omega)
                have HO := Lib.hid (And.intro ho' hks')
                clear ho' hks' kb hw ho hx hpv hO1' hO2' hO3 hSL hS hSg
                go_wp2_with fail
                go_roundw
                case rel => exact ⟨k + 1, by omega, by go_num, HO.out.1, HO.out.2⟩
                case measure => simp [intOf]; omega
              · obtain rfl : k = ms.length := by omega
                rw [bumped_all] at ho
                have hkz : decide ((ms.length : Int) < (ms.length : Int)) = false := by simp
                have hSc : ∀ q, S q → ∃ c fz, wr'.heap[q]? = some (.cells c 32 fz) := fun q hq => (hSL q hq).2.2
                have hO1x := hO1'.other hks (fun q hq hs => by have := hL1 q hq; have := (hSL q hs).1; omega) hSc
                have hO3x := hO3.other hks (fun q hq hs => by have := (own_range hO3 q hq).1; have := (hSL q hs).2.1; omega) hSc
                obtain ⟨v', w', ap, hj, kj⟩ := hO1x.join ho (by simp; omega) (by have := hks.size; have := kk6.size; omega)
                have hO3y := hO3x.other kj (fun q hq e => by have := (own_range hO3 q hq).1; have := hL1 q e; have := k2.size; omega) (fun q e => (own_range hO1x q e).2.2)
                rw [HE.out] at hO3y
                have sc := same_ct hO3y hj (by simp; omega)
                have kw : Kept (fun _ => False) w w' := (kk6.trans' hks (fun q hq hs => by have := (hSL q hs).1; omega)).trans' kj (fun q hq e => by have := (own_range hO1x q e).1; omega)
                obtain ⟨va, vc, hv'⟩ := hj.slc
                subst hv'
                rw [← HE.out] at sc
                simp only [List.length_append, List.length_map] at sc ap
                rw [← HX.out] at ap
                clear ho hO1' hO2' hO1x hO3 hO3x hO3y hSL hS hSc hj kj hpv
                go_wp2_with (first
                  | (with_reducible refine wpl_append 24 _ _ rfl rfl ?_ ?_ ap ?_
                     · rfl
                     · rfl
                     simp only [Act.put, List.getElem_toArray, List.getElem_cons_zero, List.getElem_cons_succ, List.setIfInBounds_toArray, List.set_cons_zero, List.set_cons_succ]))
                refine sc.mono ?_
                rintro e W7 ⟨rfl, k7⟩
                have kk7 := kw.trans k7
                clear sc ap
                go_wp2_with fail
                refine (known_ct (hT.kept kk7)).mono ?_
                rintro e W9 ⟨rfl, k9⟩
                go_wp2_with fail
                go_ret
                exact ⟨rfl, (kk7).trans k9⟩
end Go.Proofs.YtlheboafhgmbpaaDoor
