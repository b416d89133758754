/- LexerPlain's walk. -/
import Derived.Test.YtlheboafhgmbpaaDoorLX
import Derived.Test.YtlheboafhgmbpaaDoorLU
import Derived.Lib.AppendStr
namespace Go.Proofs.YtlheboafhgmbpaaDoor
open Go.RowKit
set_option maxRecDepth 100000
set_option linter.unusedSimpArgs false
set_option linter.unusedVariables false

/-- A constant text's bytes go behind a row of bytes. -/
theorem app_txt {w0 w : World} {base : Nat} {v : Value} {l : List UInt8} (h : w.ownsRow base 5 1 v l.length (bv l)) (x : List UInt8) (hn : l.length + x.length ≤ 1000000) (hk : Kept (fun _ => False) w0 w) (hb : w0.heap.size ≤ base) (hb2 : base ≤ w.heap.size) (ty : TypeId) :
    ∃ a c ys w', ys = l ++ x ∧ (Builtin.append_ #[22, 9] ty #[v, .string ⟨x.toArray⟩]).run Tryd.prog w = .ok (.slice a ys.length c) w' ∧ w'.ownsRow base 5 1 (.slice a ys.length c) ys.length (bv ys) ∧ Kept (fun _ => False) w0 w' := by
  obtain ⟨i, hi, hz, hs, hby⟩ : ∃ i, Tryd.prog.info? 5 = some i ∧ i.zero = some (.int .u8 0) ∧ i.size = 1 ∧ i.bytes = 1 := ⟨_, rfl, rfl, rfl, rfl⟩
  obtain ⟨v', w', a1, a2, a3, _⟩ := Lib.run_append_own_string (P := Tryd.prog) w base 22 9 ty 5 i Tryd.underlying22 Tryd.underlying9 hi hz hs hby v l.length (bv l) h ⟨x.toArray⟩ (by show l.length + x.toArray.size ≤ _; simp [maxLen]; omega) (by show l.length + x.toArray.size ≤ _; simp; omega) hb2
  have e1 : Lib.strCells ⟨x.toArray⟩ = bv x := by
    rw [Lib.strCells_eq]
    simp [Lib.byteCells, bv]
  have e2 : (⟨x.toArray⟩ : ByteArray).size = x.length := by show x.toArray.size = _; simp
  rw [e1, e2, ← bv_app] at a2
  obtain ⟨a, c, rfl⟩ := row_form a2
  have el : (l ++ x).length = l.length + x.length := by simp
  refine ⟨a, c, l ++ x, w', rfl, by rw [el]; exact a1, by rw [el]; exact a2, grown_kept hk a3 (fun k e => by obtain ⟨q, _⟩ := own_type h e; omega)⟩
theorem wpl_append2 {P : Program} {ops : Array Oper} {rest : List Oper} {o : Oper} {a : Act} {w w1 : World} {Q : Exit → Act → World → Prop} {v p q : Value} (t u : TypeId) (x y : Operand) (hgd : o.guard = none) (ho : o.op = .call { callee := .builtin .append, args := #[x, y], argTypes := #[t, u] }) (hx : a.eval x = p) (hy : a.eval y = q)
    (hf : (Builtin.append_ #[t, u] o.type #[p, q]).run P w = .ok v w1) (h : wpList P ops Q rest (a.put o.dst v) w1) : wpList P ops Q (o :: rest) a w := by
  refine wpl_val hgd ?_ h
  unfold execOp
  simp only [ho, resolve, invoke, builtin, Sem.run_bind, Sem.run_pure, Result.andThen_ok]
  simp only [List.map_toArray, List.map_cons, List.map_nil, hx, hy, hf, Result.andThen_ok]
set_option maxRecDepth 100000 in
set_option maxHeartbeats 16000000 in
theorem plain_law {w : World} {v : Value} {b : List UInt8} (h : ByC w v b) (hT : Tab8 w) :
    Calls Tryd.prog 4 #[v] w fun e w' => e = .returned (.bool true) ∧ Kept (fun _ => False) w w' := by
  have hm1 : b.length ≤ maxLen := by obtain ⟨⟨_, _, _, hm, _⟩, _⟩ := h; exact hm
  simp only [maxLen] at hm1
  obtain ⟨a1, c1, hv1⟩ := h.1.slc
  subst hv1
  by_cases q1 : 3000 < b.length
  · have d1 : decide ((3000 : Int) < (b.length : Int)) = true := decide_eq_true (by omega)
    go_enter Tryd.func4, Tryd.ntmps4
    go_wp2_with fail
    refine (known_ct hT).mono ?_
    rintro e W9 ⟨rfl, k9⟩
    go_wp2_with fail
    go_ret
    exact ⟨rfl, (Kept.refl _ w).trans k9⟩
  have d1 : decide ((3000 : Int) < (b.length : Int)) = false := decide_eq_false (by omega)
  go_enter Tryd.func4, Tryd.ntmps4
  go_wp2_with fail
  refine (lines_ct h hT).mono ?_
  rintro e W1 hL1
  obtain ⟨la, ln, lcap, lz, ly, rfl, k1, hr1⟩ := hL1.gen (by omega)
  clear hL1
  rcases hr1 with ⟨j, eA, rfl, rfl, rfl⟩ | ⟨ls, eA, rfl, rfl, rfl, hO1⟩
  · go_wp2_with fail
    refine (known_ct (hT.kept k1)).mono ?_
    rintro e W9 ⟨rfl, k9⟩
    go_wp2_with fail
    go_ret
    exact ⟨rfl, (k1).trans k9⟩
  have hfw := foldL_wide (cutB b) [] 1 ls (by omega) eA
  have hpos := foldL_pos (cutB b) [] 1 ls (fun x hx => by simp at hx) (by omega) eA
  have hcl := cutB_len b
  have hcc := count_le_len b
  have hnums := foldL_nums (cutB b) [] 1 3001 ls (fun x hx => by simp at hx) (by omega) eA
  have hlsl := foldL_len (cutB b) [] 1 ls eA
  have hls : ls.length ≤ 4000 := by simp only [List.length_nil, Nat.zero_add] at hlsl; omega
  rw [← cutB_wide] at hfw
  have hfw : foldL [] 1 (cutB (wideB b)) = .ok (ls.map dblE) := hfw
  have HH := Lib.hid (And.intro hfw (And.intro hpos hnums))
  clear hfw hpos hcl hcc hnums hlsl eA
  have hb1 := h.kept k1
  go_wp2_with fail
  go_loopw [6, 27] (fun sl i wr => ∃ (k : Nat) (ys : List UInt8) (a : Option Addr) (c : Nat), k ≤ b.length ∧ i = .int .i64 k ∧ sl = .slice a ys.length c ∧ Hid (ys = wideB (b.take k)) ∧ wr.ownsRow W1.heap.size 5 1 (.slice a ys.length c) ys.length (bv ys) ∧ Kept (fun _ => False) W1 wr) (fun _ i _ => b.length - (intOf i).toNat)
  case atStart => exact ⟨0, [], none, 0, by omega, rfl, rfl, rfl, World.ownsRow_nil _ _ _ _, Kept.refl _ _⟩
  case round =>
    obtain ⟨k, ys, ya, yc, hk, rfl, rfl, hys, ho, hkr⟩ := hrel
    have hyl : ys.length ≤ 33000 := by
      rw [hys.out]
      have := wideB_len (b.take k)
      rw [List.length_take] at this
      omega
    by_cases hlt : k < b.length
    · obtain ⟨bb, oo, rfl, hbl, e0⟩ := hb1.byte hlt
      have e1 : wr.cell? ⟨bb, oo + k, none⟩ = some (.int .u8 ((b.getD k 0).toNat : Int)) := by rw [hkr.cell (p := ⟨bb, oo + k, none⟩) hbl not_false]; exact e0
      have hx0 : b[k] = b.getD k 0 := by rw [List.getD_eq_getElem?_getD, List.getElem?_eq_getElem hlt]; rfl
      have htk : wideB (b.take (k + 1)) = wideB (b.take k) ++ wideB [b.getD k 0] := by rw [List.take_succ_eq_append_getElem hlt, wideB_app, hx0]
      generalize b.getD k 0 = x at e0 e1 htk
      have hkz : decide ((k : Int) < (b.length : Int)) = true := decide_eq_true (by omega)
      clear hx0
      by_cases hx : x = 10
      · subst hx
        obtain ⟨a2, c2, y2, V1, hy2, ap1, ho1, kv1⟩ := app_txt ho moreX (by simp [moreX]; omega) hkr (Nat.le_refl _) hkr.size 22
        have hy2l : y2.length ≤ 33010 := by rw [hy2]; simp [moreX]; omega
        have bs1 := bslice_one ((UInt8.toNat 10 : Nat) : Int) V1
        have kv2 : Kept (fun _ => False) V1 (V1.alloc (.cells #[.int .u8 ((UInt8.toNat 10 : Nat) : Int)] 5)) := (Kept.refl _ V1).alloc _
        have hg2 := heap_last V1 (.cells #[.int .u8 ((UInt8.toNat 10 : Nat) : Int)] 5)
        obtain ⟨a3, c3, y3, V3, hy3, ap2, ho2, kv3⟩ := app_by2 (row_kept ho1 kv2) (byt_one (b := 10) (c := 1) hg2) (by simp; omega) (kv1.trans kv2) (Nat.le_refl _) (by have := kv1.size; have := kv2.size; omega) 22
        have hfin : Hid (y3 = wideB (b.take (k + 1))) := by
          unfold Hid
          rw [htk, ← hys.out, hy3, hy2, wideB_cons, if_pos (by rfl)]
          simp [wideB]
        have e10 : (((UInt8.toNat 10 : Nat) : Int) == 10) = true := rfl
        have bs1' : (Instr.buildSlice 22 1 #[(0, .int .u8 10)]).run Tryd.prog V1 = .ok (.slice (some ⟨V1.heap.size, 0, none⟩) 1 1) (V1.alloc (.cells #[.int .u8 10] 5)) := bs1
        have e1' : wr.cell? ⟨bb, oo + k, none⟩ = some (.int .u8 10) := e1
        have e2' : V1.cell? ⟨bb, oo + k, none⟩ = some (.int .u8 10) := by rw [kv1.cell (p := ⟨bb, oo + k, none⟩) hbl not_false]; exact e0
        clear hy2 hy3 htk hys ho ho1 hg2 kv1 kv2 e0 e1 bs1
        go_wp2_with (first
          | (with_reducible refine wpl_append2 22 9 _ _ rfl rfl ?_ ?_ ap1 ?_
             · rfl
             · rfl
             simp only [Act.put, List.getElem_toArray, List.getElem_cons_zero, List.getElem_cons_succ, List.setIfInBounds_toArray, List.set_cons_zero, List.set_cons_succ])
          | (with_reducible refine wpl_bslice 22 _ _ rfl rfl ?_ bs1' ?_
             · (go_simp <;> rfl)
             simp only [Act.put, List.getElem_toArray, List.getElem_cons_zero, List.getElem_cons_succ, List.setIfInBounds_toArray, List.set_cons_zero, List.set_cons_succ])
          | (with_reducible refine wpl_append 22 _ _ rfl rfl ?_ ?_ ap2 ?_
             · rfl
             · rfl
             simp only [Act.put, List.getElem_toArray, List.getElem_cons_zero, List.getElem_cons_succ, List.setIfInBounds_toArray, List.set_cons_zero, List.set_cons_succ]))
        go_roundw
        case rel => exact ⟨k + 1, y3, a3, c3, by omega, by go_num, rfl, hfin, ho2, kv3⟩
        case measure => simp [intOf]; omega
      · have hx1 : ((x.toNat : Int) == 10) = false := by
          simp only [beq_eq_false_iff_ne, ne_eq]
          intro e
          exact hx (UInt8.toNat_inj.1 (by show x.toNat = 10; omega))
        have bs1 := bslice_one (x.toNat : Int) wr
        have kv2 : Kept (fun _ => False) wr (wr.alloc (.cells #[.int .u8 (x.toNat : Int)] 5)) := (Kept.refl _ wr).alloc _
        have hg2 := heap_last wr (.cells #[.int .u8 (x.toNat : Int)] 5)
        obtain ⟨a3, c3, y3, V3, hy3, ap2, ho2, kv3⟩ := app_by2 (row_kept ho kv2) (byt_one (b := x) (c := 1) hg2) (by simp; omega) (hkr.trans kv2) (Nat.le_refl _) (by have := hkr.size; have := kv2.size; omega) 22
        have hfin : Hid (y3 = wideB (b.take (k + 1))) := by
          unfold Hid
          rw [htk, ← hys.out, hy3, wideB_cons, if_neg (by simpa using hx)]
          simp [wideB]
        clear hy3 htk hys ho hg2 kv2
        go_wp2_with (first
          | (with_reducible refine wpl_bslice 22 _ _ rfl rfl ?_ bs1 ?_
             · (go_simp <;> rfl)
             simp only [Act.put, List.getElem_toArray, List.getElem_cons_zero, List.getElem_cons_succ, List.setIfInBounds_toArray, List.set_cons_zero, List.set_cons_succ])
          | (with_reducible refine wpl_append 22 _ _ rfl rfl ?_ ?_ ap2 ?_
             · rfl
             · rfl
             simp only [Act.put, List.getElem_toArray, List.getElem_cons_zero, List.getElem_cons_succ, List.setIfInBounds_toArray, List.set_cons_zero, List.set_cons_succ]))
        go_roundw
        case rel => exact ⟨k + 1, y3, a3, c3, by omega, by go_num, rfl, hfin, ho2, kv3⟩
        case measure => simp [intOf]; omega
    · obtain rfl : k = b.length := by omega
      have hys' : Hid (ys = wideB b) := by have := hys.out; rw [List.take_length] at this; exact this
      clear hys
      have hkz : decide ((b.length : Int) < (b.length : Int)) = false := by simp
      have kkr := k1.trans hkr
      by_cases q2 : 20000 < ys.length
      · have d2 : decide ((20000 : Int) < (ys.length : Int)) = true := decide_eq_true (by omega)
        go_wp2_with fail
        refine (known_ct (hT.kept kkr)).mono ?_
        rintro e W9 ⟨rfl, k9⟩
        go_wp2_with fail
        go_ret
        exact ⟨rfl, (kkr).trans k9⟩
      have d2 : decide ((20000 : Int) < (ys.length : Int)) = false := decide_eq_false (by omega)
      have l2 := lines_ct (ByC.own ho) (hT.kept kkr)
      go_wp2_with fail
      refine l2.mono ?_
      rintro e W5 hL5
      obtain ⟨ma, mn, mcap, mz, my, rfl, k5, hr5⟩ := hL5.gen q2
      rw [hys'.out, HH.out.1] at hr5
      rcases hr5 with ⟨j, eB, _⟩ | ⟨ms, eB, rfl, rfl, rfl, hO5⟩
      · cases eB
      injection eB with eB
      have hml : ms.length = ls.length := by rw [← eB]; simp
      rw [hml] at hO5 ⊢
      have kk5 := kkr.trans k5
      have hO1' := hO1.kept (hkr.trans k5)
      have hll : ((ls.length : Int) != (ls.length : Int)) = false := by simp
      have HB := Lib.hid eB.symm
      clear hL5 l2 eB hml hO1 ho
      go_wp2_with fail
      go_loopw [66] (fun i wx => ∃ k : Nat, k ≤ ls.length ∧ i = .int .i64 k ∧ Drawn W5 wx) (fun i _ => ls.length - (intOf i).toNat)
      case atStart => exact ⟨0, by omega, rfl, Drawn.refl _⟩
      case round =>
        obtain ⟨k, hk, rfl, hd⟩ := hrel
        by_cases hlt : k < ls.length
        · have hx : ls[k]? = some ls[k] := List.getElem?_eq_getElem hlt
          have hx1 := HH.out.2.1 ls[k] (List.getElem_mem hlt)
          have hx2 := HH.out.2.2 ls[k] (List.getElem_mem hlt)
          have hm : ms[k]? = some (dblE ls[k]) := by rw [HB.out, List.getElem?_map, hx]; rfl
          generalize ls[k] = x at hx hx1 hx2 hm
          obtain ⟨g1, p1, s1, rfl, _, _, -, e1, e2, hw1⟩ := (hO1'.kept hd.kept).at hx
          obtain ⟨g2, p2, s2, rfl, _, _, -, e3, e4, hw2⟩ := (hO5.kept hd.kept).at hm
          have e3' : wr.cell? ⟨g2, k * 2, none⟩ = some (.int .i64 (2 * (x.n : Int) - 1)) := by
            rw [e3]
            have : (((dblE x).n : Nat) : Int) = 2 * (x.n : Int) - 1 := by show ((2 * x.n - 1 : Nat) : Int) = _; omega
            rw [this]
          have e4' : wr.cell? ⟨g2, k * 2 + 1, none⟩ = some (.slice p2 x.words.length s2) := e4
          have hw2' : wr.ownsRow 0 9 1 (.slice p2 x.words.length s2) x.words.length (sv x.words) := hw2
          have wc : ∀ n, Calls Tryd.prog 11 #[.slice p1 x.words.length s1, .slice p2 x.words.length s2] (wr.drewN n) fun e w' => e = .returned (.bool true) ∧ ∃ m, w' = (wr.drewN n).drewN m := fun n => by
            have := words_ct ((StrsAt.own hw1).kept ((Kept.refl _ wr).drewN n)) ((StrsAt.own hw2').kept ((Kept.refl _ wr).drewN n))
            rw [show (x.words == x.words) = true from by simp] at this
            exact this
          have hnz : ((2 * (x.n : Int) - 1) != (2 * (x.n : Int) - 1)) = false := by simp
          have hkz2 : decide ((k : Int) < (ls.length : Int)) = true := decide_eq_true (by omega)
          have hkz3 : (k : Int) < (ls.length : Int) := by omega
          clear hx hm hw1 hw2 hw2' e3 e4
          go_wp2_with fail
          refine wp_region_quiet_lit (by kernel_rfl) (by kernel_rfl) ?_
          repeat (first
            | go_big_quiet_skip
            | (go_big_quiet_want
               first
                 | (go_big_quiet_op
                    go_big_quiet_call ((go_at_call 11; with_reducible exact Calls.quiet_of (wc _))))
                 | (go_big_quiet_op; go_big_quiet_on)))
          refine wpQuiet_nil ?_
          intro _ hw'
          obtain ⟨nq, hw''⟩ := hw'
          subst hw''
          go_wp2_with fail
          go_roundw
          case rel => exact ⟨k + 1, by omega, by go_num, hd.drewN nq⟩
          case measure => simp [intOf]; omega
        · obtain rfl : k = ls.length := by omega
          have hkz2 : decide ((ls.length : Int) < (ls.length : Int)) = false := by simp
          have kk6 := kk5.trans hd.kept
          go_wp2_with fail
          refine (known_ct (hT.kept kk6)).mono ?_
          rintro e W9 ⟨rfl, k9⟩
          go_wp2_with fail
          go_ret
          exact ⟨rfl, (kk6).trans k9⟩
end Go.Proofs.YtlheboafhgmbpaaDoor
