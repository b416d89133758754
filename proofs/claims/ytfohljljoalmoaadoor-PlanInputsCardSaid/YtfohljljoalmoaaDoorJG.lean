/- plan.Inputs. -/
import Derived.Test.YtfohljljoalmoaaDoorJF
namespace Go.Proofs.YtfohljljoalmoaaDoor
open Go.RowKit
set_option maxRecDepth 100000
set_option linter.unusedSimpArgs false
set_option linter.unusedVariables false

/-- A row of trees. -/
def TreesAt (w : World) (v : Value) (ts : List (List FileE)) : Prop :=
  ∃ vs : List Value, vs.length = ts.length ∧ RowAt w 1 v (vs.map fun x => [x]) ∧ ∀ (j : Nat) l, ts[j]? = some l → ∃ x, vs[j]? = some x ∧ TreeAt w x l
theorem TreesAt.kept {w w' : World} {v : Value} {ts : List (List FileE)} (h : TreesAt w v ts) (hk : Kept (fun _ => False) w w') : TreesAt w' v ts := by
  obtain ⟨vs, h1, h2, h3⟩ := h
  refine ⟨vs, h1, h2.kept hk, fun j l hl => ?_⟩
  obtain ⟨x, hx, ht⟩ := h3 j l hl
  exact ⟨x, hx, ht.kept hk⟩
theorem TreesAt.slc {w : World} {v : Value} {ts : List (List FileE)} (h : TreesAt w v ts) : ∃ a c, v = .slice a ts.length c ∧ ts.length ≤ c ∧ ts.length ≤ maxLen := by
  obtain ⟨vs, h0, h, _⟩ := h
  obtain ⟨a, c, h1, h2, h3⟩ := h.slc
  rw [List.length_map, h0] at h1 h2 h3
  exact ⟨a, c, h1, h2, h3⟩
theorem TreesAt.elem {w : World} {a : Option Addr} {n c : Nat} {ts : List (List FileE)} (h : TreesAt w (.slice a n c) ts) {j : Nat} {l : List FileE} (hj : ts[j]? = some l) :
    ∃ b o x, a = some ⟨b, o, none⟩ ∧ b < w.heap.size ∧ w.cell? ⟨b, o + j, none⟩ = some x ∧ TreeAt w x l := by
  obtain ⟨vs, h0, h, h3⟩ := h
  obtain ⟨x, hx, ht⟩ := h3 j l hj
  obtain ⟨b, o, e, hb, hr⟩ := h.elem (j := j) (xs := [x]) (by rw [List.getElem?_map, hx]; rfl)
  have := hr 0 _ rfl
  rw [Nat.mul_one] at this
  exact ⟨b, o, x, e, hb, this, ht⟩
set_option maxRecDepth 100000 in
theorem wrong_ct {w : World} {v : Value} {l : List FileE} (h : TreeAt w v l) :
    Calls Tryd.prog 23 #[v] w fun e w' => e = .returned (.bool (!mayB l)) ∧ Kept (fun _ => False) w w' := by
  have mc := may_ct h
  obtain ⟨a, c, rfl⟩ := h.slc
  go_enter Tryd.func23, Tryd.ntmps23
  go_wp2_with fail
  refine mc.mono ?_
  rintro e W ⟨rfl, k1⟩
  go_wp2_with fail
  go_ret
  exact ⟨rfl, k1⟩
def FW : Value := .func (.func 23) #[] #[]
set_option maxRecDepth 100000 in
set_option maxHeartbeats 2000000 in
theorem indexR_ct {w : World} {v : Value} {ts : List (List FileE)} (h : TreesAt w v ts) :
    Calls Tryd.prog 49 #[v, FW] w fun e w' => (∃ r : Int, e = .returned (.int .i64 r) ∧ decide ((0 : Int) ≤ r) = !ts.all mayB) ∧ Kept (fun _ => False) w w' := by
  obtain ⟨a', c', rfl, hc, hm⟩ := h.slc
  simp only [maxLen] at hm
  unfold FW
  go_enter Tryd.func49, Tryd.ntmps49
  go_wp2_with fail
  go_loopg [8] ts.length (fun gk i wr => ∃ k : Nat, gk = ts.length - k ∧ k ≤ ts.length ∧ i = .int .i64 k ∧ Hid ((ts.take k).all mayB = true) ∧ Kept (fun _ => False) w wr)
  case atStart => exact ⟨0, by omega, by omega, rfl, rfl, Kept.refl _ _⟩
  case round =>
    obtain ⟨k, rfl, hk, rfl, HA, hkr⟩ := hrel
    by_cases hlt : k < ts.length
    · have hf : ts[k]? = some ts[k] := List.getElem?_eq_getElem hlt
      have htk : ts.take (k + 1) = ts.take k ++ [ts[k]] := List.take_succ_eq_append_getElem hlt
      generalize ts[k] = x at hf htk
      obtain ⟨b, o, v, rfl, hb, hcell, ht⟩ := (h.kept hkr).elem hf
      have mc := wrong_ct ht
      obtain ⟨a1, c1, rfl⟩ := ht.slc
      have HN : Hid ((ts.take (k + 1)).all mayB = mayB x) := by
        unfold Hid
        rw [htk, List.all_append, HA.out]; simp
      have HY : Hid (mayB x = false → ts.all mayB = false) := by
        unfold Hid
        intro hq
        rw [List.all_eq_false]
        exact ⟨x, List.mem_of_getElem? hf, by rw [hq]; simp⟩
      clear htk hf
      generalize mayB x = q at HN HY mc
      go_wp2_with fail
      refine mc.mono ?_
      rintro e W ⟨rfl, k1⟩
      cases q with
      | false =>
        have HF := Lib.hid (HY.out rfl)
        clear HY HN mc
        go_wp2_with fail
        go_ret
        exact ⟨⟨_, rfl, by rw [HF.out]; simp⟩, hkr.trans k1⟩
      | true =>
        clear HY mc
        go_wp2_with fail
        go_roundg (ts.length - (k + 1))
        case rel => exact ⟨k + 1, rfl, by omega, by go_num, HN.out, hkr.trans k1⟩
        case measure => omega
    · obtain rfl : k = ts.length := by omega
      have hin := HA.out
      rw [List.take_length] at hin
      have HX := Lib.hid hin
      clear hin
      go_wp2_with fail
      go_ret
      exact ⟨⟨_, rfl, by rw [HX.out]; rfl⟩, hkr⟩
theorem contR_ct {w : World} {v : Value} {ts : List (List FileE)} (h : TreesAt w v ts) :
    Calls Tryd.prog 26 #[v, FW] w fun e w' => e = .returned (.bool (!ts.all mayB)) ∧ Kept (fun _ => False) w w' := by
  have ic := indexR_ct h
  obtain ⟨a', c', rfl, hc, hm⟩ := h.slc
  unfold FW at ic ⊢
  go_enter Tryd.func26, Tryd.ntmps26
  go_wp2_with fail
  refine ic.mono ?_
  rintro e W ⟨⟨r, rfl, hr⟩, k1⟩
  have HR := Lib.hid hr
  clear hr ic
  go_wp2_with fail
  go_ret
  exact ⟨by rw [← HR.out]; rfl, k1⟩

/-- What may be asked. -/
def okI (x : TgtE) (ls : List FileE) (ts : List (List FileE)) : Bool := mayT x && mayB ls && ts.all mayB && (ts.length == x.deps.length)
def depsZ (x : TgtE) (ts : List (List FileE)) : List Dep := x.deps.zip ts
/-- What Inputs gives. -/
def InsOut (x : TgtE) (ls : List FileE) (ts : List (List FileE)) (w : World) (e : Ending) : Prop :=
  (okI x ls ts = false ∧ e = .returned (.tuple #[.slice none 0 0, .int .i64 2])) ∨
  (okI x ls ts = true ∧ ((insO ls (depsZ x ts) = none ∧ e = .returned (.tuple #[.slice none 0 0, .int .i64 8])) ∨
    ∃ o v', insO ls (depsZ x ts) = some o ∧ e = .returned (.tuple #[v', .int .i64 0]) ∧ TreeAt w v' o))
theorem TgtAt.words {w : World} {x : TgtE} {vd vp : Value} (h : TgtAt w x vd vp) : ∃ a1 c1 a2 c2, vd = .slice a1 x.deps.length c1 ∧ vp = .slice a2 x.prog.length c2 ∧ x.deps.length ≤ c1 ∧ x.prog.length ≤ c2 ∧ x.deps.length ≤ maxLen := by
  obtain ⟨a1, c1, hv1, h1, h3⟩ := h.deps.slc
  obtain ⟨a2, c2, hv2, h2, _⟩ := h.prog.slc
  exact ⟨a1, c1, a2, c2, hv1, hv2, h1, h2, h3⟩
theorem bslice_tg (s : ByteArray) (a1 a2 : Option Addr) (n1 c1 n2 c2 : Nat) (f : Int) (w : World) : (Instr.buildSlice 54 1 #[(0, .agg #[.string s, .slice a1 n1 c1, .int .i64 f, .slice a2 n2 c2])]).run Tryd.prog w = .ok (.slice (some ⟨w.heap.size, 0, none⟩) 1 1) (w.alloc (.cells #[.string s, .slice a1 n1 c1, .int .i64 f, .slice a2 n2 c2] 25)) := by kernel_rfl
theorem okI_deps {x : TgtE} {ls : List FileE} {ts : List (List FileE)} (h : okI x ls ts = true) : DepsOk ls (depsZ x ts) ∧ ts.length = x.deps.length ∧ x.deps.length ≤ 5 ∧ x.deps.Nodup ∧ (∀ d ∈ x.deps, nameB d = true) ∧ ∀ l ∈ ts, mayB l = true := by
  unfold okI at h
  simp only [Bool.and_eq_true, beq_iff_eq] at h
  obtain ⟨⟨⟨h1, h2⟩, h3⟩, h4⟩ := h
  unfold mayT at h1
  rw [Bool.and_eq_true] at h1
  obtain ⟨_, q2, q3, q4⟩ := headIs.1 h1.1
  rw [List.all_eq_true] at h3
  refine ⟨⟨h2, fun y hy => ?_⟩, h4, q2, q4, q3, h3⟩
  have := List.of_mem_zip (show (y.1, y.2) ∈ x.deps.zip ts from hy)
  exact ⟨q3 _ this.1, h3 _ this.2⟩
set_option maxRecDepth 100000 in
set_option maxHeartbeats 4000000 in
theorem inputs_ct {w : World} (hT : FldTab w) {x : TgtE} {vd vp vs vo : Value} {ls : List FileE} {ts : List (List FileE)} (h : TgtAt w x vd vp) (hs : TreeAt w vs ls) (ho : TreesAt w vo ts) :
    Calls Tryd.prog 9 #[.agg (tgtC x vd vp), vs, vo] w fun e w' => InsOut x ls ts w' e ∧ Kept (fun _ => False) w w' := by
  obtain ⟨a1, c1, a2, c2, rfl, rfl, hc1, hc2, hm1⟩ := h.words
  obtain ⟨a3, c3, rfl⟩ := hs.slc
  obtain ⟨a4, c4, rfl, hc4, hm4⟩ := ho.slc
  simp only [maxLen] at hm1 hm4
  unfold tgtC
  have k1 : Kept (fun _ => False) w (w.alloc (.cells #[.string x.name, .slice a1 x.deps.length c1, .int .i64 x.fuel, .slice a2 x.prog.length c2] 25)) := (Kept.refl _ w).alloc _
  have hb0 := heap_last w (.cells #[.string x.name, .slice a1 x.deps.length c1, .int .i64 x.fuel, .slice a2 x.prog.length c2] 25)
  have ldB : (Instr.loadAt 25 (.pointer (some ⟨w.heap.size, 0, none⟩))).run Tryd.prog (w.alloc (.cells #[.string x.name, .slice a1 x.deps.length c1, .int .i64 x.fuel, .slice a2 x.prog.length c2] 25)) = .ok (.agg #[.string x.name, .slice a1 x.deps.length c1, .int .i64 x.fuel, .slice a2 x.prog.length c2]) _ := load_row Tryd.underlying25 rfl hb0 (by kernel_rfl)
  go_enter Tryd.func9, Tryd.ntmps9
  go_upto_region 2 with (first
    | (with_reducible refine wpl_load 25 _ rfl rfl ?_ ldB ?_
       · rfl
       simp only [Act.put, List.getElem_toArray, List.getElem_cons_zero, List.getElem_cons_succ, List.setIfInBounds_toArray, List.set_cons_zero, List.set_cons_succ]))
  generalize w.alloc (.cells #[.string x.name, .slice a1 x.deps.length c1, .int .i64 x.fuel, .slice a2 x.prog.length c2] 25) = W1 at k1 hb0 ldB ⊢
  generalize w.heap.size = B at hb0 ldB ⊢
  have bs := bslice_tg x.name a1 a2 x.deps.length c1 x.prog.length c2 x.fuel W1
  have hz1 := (Array.getElem?_eq_some_iff.1 hb0).1
  have k2 : Kept (fun _ => False) w (W1.alloc (.cells #[.string x.name, .slice a1 x.deps.length c1, .int .i64 x.fuel, .slice a2 x.prog.length c2] 25)) := k1.alloc _
  have hg := heap_last W1 (.cells #[.string x.name, .slice a1 x.deps.length c1, .int .i64 x.fuel, .slice a2 x.prog.length c2] 25)
  have kb : Kept (fun _ => False) W1 (W1.alloc (.cells #[.string x.name, .slice a1 x.deps.length c1, .int .i64 x.fuel, .slice a2 x.prog.length c2] 25)) := (Kept.refl _ W1).alloc _
  generalize W1.alloc (.cells #[.string x.name, .slice a1 x.deps.length c1, .int .i64 x.fuel, .slice a2 x.prog.length c2] 25) = W2 at bs k2 hg kb
  generalize W1.heap.size = G at bs hg
  have e1 : ∀ w', Kept (fun _ => False) W2 w' → w'.cell? ⟨B, 1, none⟩ = some (.slice a1 x.deps.length c1) := fun w' q => by rw [(kb.trans q).cell (p := ⟨B, 1, none⟩) hz1 not_false, cell_of_row _ _ _ _ _ _ hb0]; rfl
  have mo := may_one_ct (hT.kept k2) (h.kept k2) hg
  have hok : okI x ls ts = (mayT x && mayB ls && ts.all mayB && (ts.length == x.deps.length)) := rfl
  have HOK := Lib.hid hok
  clear hok hb0
  have wc := fun w' (q : Kept (fun _ => False) w w') => wrong_ct (hs.kept q)
  have cr := fun w' (q : Kept (fun _ => False) w w') => contR_ct (ho.kept q)
  unfold FW at cr
  generalize hmt : mayT x = m1 at mo HOK
  generalize hml : mayB ls = m2 at wc HOK
  generalize hma : ts.all mayB = m3 at cr HOK
  go_step3
  go_wp2_with (first
    | (with_reducible refine wpl_load 25 _ rfl rfl ?_ ldB ?_
       · rfl
       simp only [Act.put, List.getElem_toArray, List.getElem_cons_zero, List.getElem_cons_succ, List.setIfInBounds_toArray, List.set_cons_zero, List.set_cons_succ])
    | (with_reducible refine wpl_bslice 54 _ _ rfl rfl ?_ bs ?_
       · (go_simp <;> rfl)
       simp only [Act.put, List.getElem_toArray, List.getElem_cons_zero, List.getElem_cons_succ, List.setIfInBounds_toArray, List.set_cons_zero, List.set_cons_succ]))
  refine mo.mono ?_
  rintro e W3 ⟨rfl, k3⟩
  have K3 := k2.trans k3
  cases m1 with
  | false =>
    have HF : Hid (okI x ls ts = false) := by unfold Hid; rw [HOK.out]; rfl
    clear mo wc cr bs ldB
    go_wp2_with fail
    simp only [Exit.noGoto_ret]
    go_ret2
    exact ⟨.inl ⟨HF.out, rfl⟩, K3⟩
  | true =>
    clear mo bs ldB
    go_wp2_with fail
    refine (wc _ K3).mono ?_
    rintro e W4 ⟨rfl, k4⟩
    have K4 := K3.trans k4
    cases m2 with
    | false =>
      have HF : Hid (okI x ls ts = false) := by unfold Hid; rw [HOK.out]; rfl
      clear wc cr
      go_wp2_with fail
      simp only [Exit.noGoto_ret]
      go_ret2
      exact ⟨.inl ⟨HF.out, rfl⟩, K4⟩
    | true =>
      clear wc
      go_wp2_with fail
      refine (cr _ K4).mono ?_
      rintro e W5 ⟨rfl, k5⟩
      have K5 := K4.trans k5
      cases m3 with
      | false =>
        have HF : Hid (okI x ls ts = false) := by unfold Hid; rw [HOK.out]; rfl
        clear cr
        go_wp2_with fail
        simp only [Exit.noGoto_ret]
        go_ret2
        exact ⟨.inl ⟨HF.out, rfl⟩, K5⟩
      | true =>
        clear cr
        have K25 := (k3.trans k4).trans k5
        have e1' := e1 _ K25
        by_cases hlen : ts.length = x.deps.length
        · have HT : okI x ls ts = true := by rw [HOK.out, beq_iff_eq.2 hlen]; rfl
          obtain ⟨hdo, _, h5, hnd, hnm, hmy⟩ := okI_deps HT
          have HD := Lib.hid (And.intro HT (And.intro hdo hnd))
          have ilen : ((ts.length : Int) != (x.deps.length : Int)) = false := by rw [hlen]; simp
          have uc : Calls Tryd.prog 27 #[.slice a3 ls.length c3, .string ⟨#[115, 114, 99]⟩] W5 (fun e w' => UnderOut ls srcS w' e ∧ Kept (fun _ => False) W5 w') := under_out (hs.kept K5) srcS (by decide)
          have hmap := underC_zero (l := ls) (d := srcS)
          rw [hlen] at ho
          have hzl : (depsZ x ts).length = x.deps.length := by unfold depsZ; rw [List.length_zip, hlen, Nat.min_self]
          have hzat : ∀ k d l, x.deps[k]? = some d → ts[k]? = some l → (depsZ x ts)[k]? = some (d, l) := fun k d l hd hl => by unfold depsZ; rw [List.getElem?_zip_eq_some]; exact ⟨hd, hl⟩
          have HZ := Lib.hid (And.intro hzl (And.intro hlen hmap))
          clear HOK HT hdo hnd hma hml hmt hlen hzl hmap
          go_wp2_with fail
          refine uc.mono ?_
          rintro e W6 ⟨hu, k6⟩
          have K6 := K5.trans k6
          have e16 := e1 _ (K25.trans k6)
          clear uc k1 k2 k3 k4 k5 K3 K4 kb hg e1 e1' hz1 K25
          rcases hu with ⟨hcu, rfl⟩ | ⟨hcu, v6, rfl, ht6⟩
          · have HN : Hid (insO ls (depsZ x ts) = none) := by unfold Hid insO; rw [if_pos hcu]
            generalize underC ls srcS = cc at hcu
            have ecc : ((cc : Int) != 0) = true := by simp; omega
            go_wp2_with fail
            go_step3
            go_wp2_with fail
            by_cases h0 : x.deps.length = 0
            · have i0 : ¬ ((0 : Int) < (x.deps.length : Int)) := by omega
              refine wp_loop_rounds 1 ?_
              rw [rounds_succ]
              go_wp2_with fail
              go_ret2
              exact ⟨.inr ⟨HD.out.1, .inl ⟨HN.out, rfl⟩⟩, K6⟩
            · have i0 : (0 : Int) < (x.deps.length : Int) := by omega
              have n0 : 0 < x.deps.length := by omega
              have hd0 : x.deps[0]? = some x.deps[0] := List.getElem?_eq_getElem n0
              obtain ⟨_, b, o, rfl, hb, hcell⟩ := (h.deps.kept K6).elem hd0
              rw [Nat.add_zero] at hcell
              refine wp_loop_rounds 1 ?_
              rw [rounds_succ]
              go_wp2_with fail
              simp only [Exit.noGoto_ret]
              go_ret2
              exact ⟨.inr ⟨HD.out.1, .inl ⟨HN.out, rfl⟩⟩, K6⟩
          · obtain ⟨a6, c6, rfl⟩ := ht6.slc
            have HI : Hid (insO ls (depsZ x ts) = foldI ((depsZ x ts).drop 0) (ls.map (upF srcS)) ∧ mayB (ls.map (upF srcS)) = true) := by
              unfold Hid insO
              rw [if_neg (by rw [hcu]; simp), List.drop_zero]
              exact ⟨rfl, (underC_zero.1 hcu).2.2⟩
            clear hcu
            generalize ls.map (upF srcS) = cur at ht6 HI
            go_wp2_with fail
            go_step3
            go_wp2_with fail
            go_loopg [9, 10, 44] x.deps.length (fun gk s9 s10 s44 wr => ∃ k : Nat, gk = x.deps.length - k ∧ k ≤ x.deps.length ∧ s44 = .int .i64 k ∧ Kept (fun _ => False) w wr ∧
              ((∃ (cur : List FileE) (a : Option Addr) (c : Nat), s9 = .slice a cur.length c ∧ s10 = .int .i64 0 ∧ TreeAt wr (.slice a cur.length c) cur ∧ Hid (insO ls (depsZ x ts) = foldI ((depsZ x ts).drop k) cur ∧ mayB cur = true)) ∨
               (∃ (cc : Nat) (a : Option Addr) (n c : Nat), cc ≠ 0 ∧ s9 = .slice a n c ∧ s10 = .int .i64 cc ∧ Hid (insO ls (depsZ x ts) = none))))
            case atStart => exact ⟨0, by omega, by omega, rfl, K6, .inl ⟨_, _, _, rfl, rfl, ht6, HI⟩⟩
            case round =>
              obtain ⟨k, rfl, hk, rfl, hkr, hst⟩ := hrel
              clear ht6 HI e16
              rcases hst with ⟨cur, a9, c9, rfl, rfl, ht9, HI⟩ | ⟨cc, a9, n9, c9, hcc, rfl, rfl, HN⟩
              · by_cases hlt : k < x.deps.length
                · have hd0 : x.deps[k]? = some x.deps[k] := List.getElem?_eq_getElem hlt
                  have hlk : k < ts.length := by rw [HZ.out.2.1]; exact hlt
                  have hl0 : ts[k]? = some ts[k] := List.getElem?_eq_getElem hlk
                  have hz0 := hzat k _ _ hd0 hl0
                  generalize x.deps[k] = d at hd0 hz0
                  generalize ts[k] = l at hl0 hz0
                  have hnd := hnm d (List.mem_of_getElem? hd0)
                  have hml := hmy l (List.mem_of_getElem? hl0)
                  have hzk : k < (depsZ x ts).length := by rw [HZ.out.1]; exact hlt
                  have hdr : (depsZ x ts).drop k = (d, l) :: (depsZ x ts).drop (k + 1) := by
                    rw [List.drop_eq_getElem_cons hzk]
                    congr 1
                    rw [List.getElem?_eq_getElem hzk] at hz0
                    injection hz0
                  obtain ⟨hI1, hI2⟩ := HI.out
                  rw [hdr] at hI1
                  unfold foldI at hI1
                  have hsz : (inS d).size ≤ maxLen := by
                    have := pathB_size (in_path hnd)
                    simp only [maxLen]; omega
                  have hd10 := (name_path hnd).2
                  have hcat : (⟨#[105, 110, 47]⟩ : ByteArray).size + d.size ≤ 9223372036854775807 := by
                    have : (⟨#[105, 110, 47]⟩ : ByteArray).size = 3 := rfl
                    omega
                  have hcat2 : 3 + d.size ≤ 9223372036854775807 := by omega
                  obtain ⟨_, b, o, rfl, hb, hcell⟩ := (h.deps.kept hkr).elem hd0
                  obtain ⟨b2, o2, v2, rfl, hb2, hcell2, htl⟩ := (ho.kept hkr).elem hl0
                  obtain ⟨a8, c8, rfl⟩ := htl.slc
                  have uc : Calls Tryd.prog 27 #[.slice a8 l.length c8, .string (⟨#[105, 110, 47]⟩ ++ d)] wr (fun e w' => UnderOut l (inS d) w' e ∧ Kept (fun _ => False) wr w') := under_out htl (inS d) hsz
                  have H1 := Lib.hid hI1
                  clear hI1 hdr hz0 hd0 hl0 HI hzat hnm hmy hnd hsz
                  go_wp2_with fail
                  refine uc.mono ?_
                  rintro e W7 ⟨hu, k7⟩
                  have K7 := hkr.trans k7
                  clear uc
                  rcases hu with ⟨hcu, rfl⟩ | ⟨hcu, v7, rfl, ht7⟩
                  · have HN : Hid (insO ls (depsZ x ts) = none) := by unfold Hid; rw [H1.out, if_pos hcu]
                    generalize underC l (inS d) = cc at hcu
                    have ecc : ((cc : Int) == 0) = false := by simp; omega
                    clear H1
                    go_wp2_with fail
                    go_roundg (x.deps.length - (k + 1))
                    case rel => exact ⟨k + 1, rfl, by omega, by go_num, K7, .inr ⟨cc, _, _, _, hcu, rfl, rfl, HN⟩⟩
                    case measure => omega
                  · obtain ⟨a7, c7, rfl⟩ := ht7.slc
                    have HU : Hid (mayB (l.map (upF (inS d))) = true) := (underC_zero.1 hcu).2.2
                    have H2 : Hid (insO ls (depsZ x ts) = if joinC cur (l.map (upF (inS d))) ≠ 0 then none else foldI ((depsZ x ts).drop (k + 1)) (joinO cur (l.map (upF (inS d))))) := by unfold Hid; rw [H1.out, if_neg (by rw [hcu]; simp)]
                    clear H1 hcu
                    have jc := joined_ct (ht9.kept k7) ht7
                    generalize l.map (upF (inS d)) = u at ht7 HU H2 jc
                    go_wp2_with fail
                    refine jc.mono ?_
                    rintro e W8 ⟨hj, k8⟩
                    have K8 := K7.trans k8
                    clear jc
                    rcases hj with ⟨hcj, rfl⟩ | ⟨hcj, v8, rfl, ht8⟩
                    · have HN : Hid (insO ls (depsZ x ts) = none) := by unfold Hid; rw [H2.out, if_pos hcj]
                      generalize joinC cur u = cc at hcj
                      clear H2
                      go_wp2_with fail
                      go_roundg (x.deps.length - (k + 1))
                      case rel => exact ⟨k + 1, rfl, by omega, by go_num, K8, .inr ⟨cc, _, _, _, hcj, rfl, rfl, HN⟩⟩
                      case measure => omega
                    · obtain ⟨a8', c8', rfl⟩ := ht8.slc
                      have HI : Hid (insO ls (depsZ x ts) = foldI ((depsZ x ts).drop (k + 1)) (joinO cur u) ∧ mayB (joinO cur u) = true) := by
                        unfold Hid
                        rw [H2.out, if_neg (by rw [hcj]; simp)]
                        exact ⟨rfl, (joinC_zero hcj).may⟩
                      clear H2 hcj
                      generalize joinO cur u = cur2 at ht8 HI
                      go_wp2_with fail
                      go_roundg (x.deps.length - (k + 1))
                      case rel => exact ⟨k + 1, rfl, by omega, by go_num, K8, .inl ⟨cur2, _, _, rfl, rfl, ht8, HI⟩⟩
                      case measure => omega
                · obtain rfl : k = x.deps.length := by omega
                  have hI := HI.out.1
                  rw [List.drop_of_length_le (by rw [HZ.out.1]; exact Nat.le_refl _)] at hI
                  have HS : Hid (insO ls (depsZ x ts) = some cur) := hI
                  clear hI HI
                  go_wp2_with fail
                  simp only [Exit.noGoto_ret]
                  go_ret2
                  exact ⟨.inr ⟨HD.out.1, .inr ⟨cur, _, HS.out, rfl, ht9⟩⟩, hkr⟩
              · have ecc : ((cc : Int) != 0) = true := by simp; omega
                by_cases hlt : k < x.deps.length
                · have hd0 : x.deps[k]? = some x.deps[k] := List.getElem?_eq_getElem hlt
                  obtain ⟨_, b, o, rfl, hb, hcell⟩ := (h.deps.kept hkr).elem hd0
                  clear hd0
                  go_wp2_with fail
                  simp only [Exit.noGoto_ret]
                  go_ret2
                  exact ⟨.inr ⟨HD.out.1, .inl ⟨HN.out, rfl⟩⟩, hkr⟩
                · obtain rfl : k = x.deps.length := by omega
                  go_wp2_with fail
                  simp only [Exit.noGoto_ret]
                  go_ret2
                  exact ⟨.inr ⟨HD.out.1, .inl ⟨HN.out, rfl⟩⟩, hkr⟩
        · have HF : Hid (okI x ls ts = false) := by unfold Hid; rw [HOK.out, beq_false_of_ne hlen]; rfl
          have ilen : ((ts.length : Int) != (x.deps.length : Int)) = true := by simp; omega
          go_wp2_with fail
          simp only [Exit.noGoto_ret]
          go_ret2
          exact ⟨.inl ⟨HF.out, rfl⟩, K5⟩
end Go.Proofs.YtfohljljoalmoaaDoor
