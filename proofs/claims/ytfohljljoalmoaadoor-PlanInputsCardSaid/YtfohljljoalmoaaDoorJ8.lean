/- The texts JX, JY, JZ, J0, J1, J2 in one. -/
import Derived.Test.YtfohljljoalmoaaDoorJG
import Derived.Test.YtfohljljoalmoaaDoorWQ
import Derived.Test.YtfohljljoalmoaaDoorJW
import Derived.Deep.DeepCutAuto
import Derived.Test.YtfohljljoalmoaaDoorJQ
import Derived.Test.YtfohljljoalmoaaDoorJF
import Derived.Test.YtfohljljoalmoaaDoorTO
import Derived.Test.YtfohljljoalmoaaDoorUF
import Derived.Laws.ResultCell
namespace Go.Proofs.YtfohljljoalmoaaDoor
/- plan.Inputs: what it tells is in memory of its own. -/
open Go.RowKit
set_option maxRecDepth 100000
set_option linter.unusedSimpArgs false
set_option linter.unusedVariables false

def UnderOutS (base : Nat) (l : List FileE) (d : ByteArray) (w : World) (e : Ending) : Prop :=
  (underC l d ≠ 0 ∧ e = .returned (.tuple #[.slice none 0 0, .int .i64 (underC l d)])) ∨ (underC l d = 0 ∧ ∃ v', e = .returned (.tuple #[v', .int .i64 0]) ∧ TreeAt w v' (l.map (upF d)) ∧ OwnT base w v' (l.map (upF d)).length)
theorem under_outS {w : World} {v : Value} {l : List FileE} (h : TreeAt w v l) (hm : mayB l = true) {d : ByteArray} (hd : pathB d = true) :
    Calls Tryd.prog 27 #[v, .string d] w fun e w' => UnderOutS w.heap.size l d w' e ∧ Kept (fun _ => False) w w' := by
  refine (under_ctS h hm hd).mono fun e w' ⟨h1, h2⟩ => ⟨?_, h2⟩
  unfold UnderOutS underC
  rw [if_neg (by rw [hm, hd]; simp)]
  rcases h1 with ⟨q, v', he, ht, ho⟩ | ⟨q, he⟩
  · rw [if_neg (by rw [q]; simp)]
    exact .inr ⟨rfl, v', he, ht, by rw [List.length_map]; exact ho⟩
  · rw [if_pos q]
    exact .inl ⟨by omega, he⟩
def InsOutS (base : Nat) (x : TgtE) (ls : List FileE) (ts : List (List FileE)) (w : World) (e : Ending) : Prop :=
  (okI x ls ts = false ∧ e = .returned (.tuple #[.slice none 0 0, .int .i64 2])) ∨
  (okI x ls ts = true ∧ ((insO ls (depsZ x ts) = none ∧ e = .returned (.tuple #[.slice none 0 0, .int .i64 8])) ∨
    ∃ o v', insO ls (depsZ x ts) = some o ∧ e = .returned (.tuple #[v', .int .i64 0]) ∧ TreeAt w v' o ∧ OwnT base w v' o.length))
set_option maxRecDepth 100000 in
set_option maxHeartbeats 4000000 in
theorem inputs_ctS {w : World} (hT : FldTab w) {x : TgtE} {vd vp vs vo : Value} {ls : List FileE} {ts : List (List FileE)} (h : TgtAt w x vd vp) (hs : TreeAt w vs ls) (ho : TreesAt w vo ts) :
    Calls Tryd.prog 9 #[.agg (tgtC x vd vp), vs, vo] w fun e w' => InsOutS w.heap.size x ls ts w' e ∧ Kept (fun _ => False) w w' := by
  obtain ⟨a1, c1, a2, c2, rfl, rfl, hc1, hc2, hm1⟩ := h.words
  obtain ⟨a3, c3, rfl⟩ := hs.slc
  obtain ⟨a4, c4, rfl, hc4, hm4⟩ := ho.slc
  simp only [maxLen] at hm1 hm4
  unfold tgtC
  have k1 : Kept (fun _ => False) w (w.alloc (.cells #[.string x.name, .slice a1 x.deps.length c1, .int .i64 x.fuel, .slice a2 x.prog.length c2] 25)) := (Kept.refl _ w).alloc _
  have hb0 := heap_last w (.cells #[.string x.name, .slice a1 x.deps.length c1, .int .i64 x.fuel, .slice a2 x.prog.length c2] 25)
  have ldB : (Instr.loadAt 25 (.pointer (some ⟨w.heap.size, 0, none⟩))).run Tryd.prog (w.alloc (.cells #[.string x.name, .slice a1 x.deps.length c1, .int .i64 x.fuel, .slice a2 x.prog.length c2] 25)) = .ok (.agg #[.string x.name, .slice a1 x.deps.length c1, .int .i64 x.fuel, .slice a2 x.prog.length c2]) _ := load_row Tryd.underlying25 rfl hb0 (by kernel_rfl)
  go_enter Tryd.func9, Tryd.ntmps9
  go_upto_region 2 with (first
    | (with_reducible refine wpl_load 25 _ rfl rfl ?_ ldB ?_
       · rfl
       simp only [Act.put, List.getElem_toArray, List.getElem_cons_zero, List.getElem_cons_succ, List.setIfInBounds_toArray, List.set_cons_zero, List.set_cons_succ]))
  generalize w.alloc (.cells #[.string x.name, .slice a1 x.deps.length c1, .int .i64 x.fuel, .slice a2 x.prog.length c2] 25) = W1 at k1 hb0 ldB ⊢
  generalize hBe : w.heap.size = B at hb0 ldB ⊢
  have HBE := Lib.hid hBe
  clear hBe
  have bs := bslice_tg x.name a1 a2 x.deps.length c1 x.prog.length c2 x.fuel W1
  have hz1 := (Array.getElem?_eq_some_iff.1 hb0).1
  have k2 : Kept (fun _ => False) w (W1.alloc (.cells #[.string x.name, .slice a1 x.deps.length c1, .int .i64 x.fuel, .slice a2 x.prog.length c2] 25)) := k1.alloc _
  have hg := heap_last W1 (.cells #[.string x.name, .slice a1 x.deps.length c1, .int .i64 x.fuel, .slice a2 x.prog.length c2] 25)
  have kb : Kept (fun _ => False) W1 (W1.alloc (.cells #[.string x.name, .slice a1 x.deps.length c1, .int .i64 x.fuel, .slice a2 x.prog.length c2] 25)) := (Kept.refl _ W1).alloc _
  generalize W1.alloc (.cells #[.string x.name, .slice a1 x.deps.length c1, .int .i64 x.fuel, .slice a2 x.prog.length c2] 25) = W2 at bs k2 hg kb
  generalize W1.heap.size = G at bs hg
  have e1 : ∀ w', Kept (fun _ => False) W2 w' → w'.cell? ⟨B, 1, none⟩ = some (.slice a1 x.deps.length c1) := fun w' q => by rw [(kb.trans q).cell (p := ⟨B, 1, none⟩) hz1 not_false, cell_of_row _ _ _ _ _ _ hb0]; rfl
  have mo := may_one_ct (hT.kept k2) (h.kept k2) hg
  have hok : okI x ls ts = (mayT x && mayB ls && ts.all mayB && (ts.length == x.deps.length)) := rfl
  have HOK := Lib.hid hok
  clear hok hb0
  have wc := fun w' (q : Kept (fun _ => False) w w') => wrong_ct (hs.kept q)
  have cr := fun w' (q : Kept (fun _ => False) w w') => contR_ct (ho.kept q)
  unfold FW at cr
  generalize hmt : mayT x = m1 at mo HOK
  generalize hml : mayB ls = m2 at wc HOK
  generalize hma : ts.all mayB = m3 at cr HOK
  go_step3
  go_wp2_with (first
    | (with_reducible refine wpl_load 25 _ rfl rfl ?_ ldB ?_
       · rfl
       simp only [Act.put, List.getElem_toArray, List.getElem_cons_zero, List.getElem_cons_succ, List.setIfInBounds_toArray, List.set_cons_zero, List.set_cons_succ])
    | (with_reducible refine wpl_bslice 54 _ _ rfl rfl ?_ bs ?_
       · (go_simp <;> rfl)
       simp only [Act.put, List.getElem_toArray, List.getElem_cons_zero, List.getElem_cons_succ, List.setIfInBounds_toArray, List.set_cons_zero, List.set_cons_succ]))
  refine mo.mono ?_
  rintro e W3 ⟨rfl, k3⟩
  have K3 := k2.trans k3
  cases m1 with
  | false =>
    have HF : Hid (okI x ls ts = false) := by unfold Hid; rw [HOK.out]; rfl
    clear mo wc cr bs ldB
    go_wp2_with fail
    simp only [Exit.noGoto_ret]
    go_ret2
    exact ⟨.inl ⟨HF.out, rfl⟩, K3⟩
  | true =>
    clear mo bs ldB
    go_wp2_with fail
    refine (wc _ K3).mono ?_
    rintro e W4 ⟨rfl, k4⟩
    have K4 := K3.trans k4
    cases m2 with
    | false =>
      have HF : Hid (okI x ls ts = false) := by unfold Hid; rw [HOK.out]; rfl
      clear wc cr
      go_wp2_with fail
      simp only [Exit.noGoto_ret]
      go_ret2
      exact ⟨.inl ⟨HF.out, rfl⟩, K4⟩
    | true =>
      clear wc
      go_wp2_with fail
      refine (cr _ K4).mono ?_
      rintro e W5 ⟨rfl, k5⟩
      have K5 := K4.trans k5
      cases m3 with
      | false =>
        have HF : Hid (okI x ls ts = false) := by unfold Hid; rw [HOK.out]; rfl
        clear cr
        go_wp2_with fail
        simp only [Exit.noGoto_ret]
        go_ret2
        exact ⟨.inl ⟨HF.out, rfl⟩, K5⟩
      | true =>
        clear cr
        have K25 := (k3.trans k4).trans k5
        have e1' := e1 _ K25
        by_cases hlen : ts.length = x.deps.length
        · have HT : okI x ls ts = true := by rw [HOK.out, beq_iff_eq.2 hlen]; rfl
          obtain ⟨hdo, _, h5, hnd, hnm, hmy⟩ := okI_deps HT
          have HD := Lib.hid (And.intro HT (And.intro hdo hnd))
          have ilen : ((ts.length : Int) != (x.deps.length : Int)) = false := by rw [hlen]; simp
          have uc : Calls Tryd.prog 27 #[.slice a3 ls.length c3, .string ⟨#[115, 114, 99]⟩] W5 (fun e w' => UnderOutS W5.heap.size ls srcS w' e ∧ Kept (fun _ => False) W5 w') := under_outS (hs.kept K5) hml src_path
          have hmap := underC_zero (l := ls) (d := srcS)
          rw [hlen] at ho
          have hzl : (depsZ x ts).length = x.deps.length := by unfold depsZ; rw [List.length_zip, hlen, Nat.min_self]
          have hzat : ∀ k d l, x.deps[k]? = some d → ts[k]? = some l → (depsZ x ts)[k]? = some (d, l) := fun k d l hd hl => by unfold depsZ; rw [List.getElem?_zip_eq_some]; exact ⟨hd, hl⟩
          have HZ := Lib.hid (And.intro hzl (And.intro hlen hmap))
          clear HOK HT hdo hnd hma hml hmt hlen hzl hmap
          go_wp2_with fail
          refine uc.mono ?_
          rintro e W6 ⟨hu, k6⟩
          have K6 := K5.trans k6
          have e16 := e1 _ (K25.trans k6)
          clear uc k1 k2 k3 k4 k5 K3 K4 kb hg e1 e1' hz1 K25
          have hz56 : B ≤ W5.heap.size := by have := K5.size; have := HBE.out; omega
          rcases hu with ⟨hcu, rfl⟩ | ⟨hcu, v6, rfl, ht6, ho6⟩
          · have HN : Hid (insO ls (depsZ x ts) = none) := by unfold Hid insO; rw [if_pos hcu]
            generalize underC ls srcS = cc at hcu
            have ecc : ((cc : Int) != 0) = true := by simp; omega
            go_wp2_with fail
            go_step3
            go_wp2_with fail
            by_cases h0 : x.deps.length = 0
            · have i0 : ¬ ((0 : Int) < (x.deps.length : Int)) := by omega
              refine wp_loop_rounds 1 ?_
              rw [rounds_succ]
              go_wp2_with fail
              go_ret2
              exact ⟨.inr ⟨HD.out.1, .inl ⟨HN.out, rfl⟩⟩, K6⟩
            · have i0 : (0 : Int) < (x.deps.length : Int) := by omega
              have n0 : 0 < x.deps.length := by omega
              have hd0 : x.deps[0]? = some x.deps[0] := List.getElem?_eq_getElem n0
              obtain ⟨_, b, o, rfl, hb, hcell⟩ := (h.deps.kept K6).elem hd0
              rw [Nat.add_zero] at hcell
              refine wp_loop_rounds 1 ?_
              rw [rounds_succ]
              go_wp2_with fail
              simp only [Exit.noGoto_ret]
              go_ret2
              exact ⟨.inr ⟨HD.out.1, .inl ⟨HN.out, rfl⟩⟩, K6⟩
          · obtain ⟨a6, c6, rfl⟩ := ht6.slc
            have HI : Hid (insO ls (depsZ x ts) = foldI ((depsZ x ts).drop 0) (ls.map (upF srcS)) ∧ mayB (ls.map (upF srcS)) = true) := by
              unfold Hid insO
              rw [if_neg (by rw [hcu]; simp), List.drop_zero]
              exact ⟨rfl, (underC_zero.1 hcu).2.2⟩
            clear hcu
            generalize ls.map (upF srcS) = cur at ht6 ho6 HI
            go_wp2_with fail
            go_step3
            go_wp2_with fail
            go_loopg [9, 10, 44] x.deps.length (fun gk s9 s10 s44 wr => ∃ k : Nat, gk = x.deps.length - k ∧ k ≤ x.deps.length ∧ s44 = .int .i64 k ∧ Kept (fun _ => False) w wr ∧
              ((∃ (cur : List FileE) (a : Option Addr) (c : Nat), s9 = .slice a cur.length c ∧ s10 = .int .i64 0 ∧ TreeAt wr (.slice a cur.length c) cur ∧ OwnT B wr (.slice a cur.length c) cur.length ∧ Hid (insO ls (depsZ x ts) = foldI ((depsZ x ts).drop k) cur ∧ mayB cur = true)) ∨
               (∃ (cc : Nat) (a : Option Addr) (n c : Nat), cc ≠ 0 ∧ s9 = .slice a n c ∧ s10 = .int .i64 cc ∧ Hid (insO ls (depsZ x ts) = none))))
            case atStart => exact ⟨0, by omega, by omega, rfl, K6, .inl ⟨_, _, _, rfl, rfl, ht6, ho6.low hz56, HI⟩⟩
            case round =>
              obtain ⟨k, rfl, hk, rfl, hkr, hst⟩ := hrel
              clear ht6 ho6 HI e16
              rcases hst with ⟨cur, a9, c9, rfl, rfl, ht9, ho9, HI⟩ | ⟨cc, a9, n9, c9, hcc, rfl, rfl, HN⟩
              · by_cases hlt : k < x.deps.length
                · have hd0 : x.deps[k]? = some x.deps[k] := List.getElem?_eq_getElem hlt
                  have hlk : k < ts.length := by rw [HZ.out.2.1]; exact hlt
                  have hl0 : ts[k]? = some ts[k] := List.getElem?_eq_getElem hlk
                  have hz0 := hzat k _ _ hd0 hl0
                  generalize x.deps[k] = d at hd0 hz0
                  generalize ts[k] = l at hl0 hz0
                  have hnd := hnm d (List.mem_of_getElem? hd0)
                  have hml := hmy l (List.mem_of_getElem? hl0)
                  have hzk : k < (depsZ x ts).length := by rw [HZ.out.1]; exact hlt
                  have hdr : (depsZ x ts).drop k = (d, l) :: (depsZ x ts).drop (k + 1) := by
                    rw [List.drop_eq_getElem_cons hzk]
                    congr 1
                    rw [List.getElem?_eq_getElem hzk] at hz0
                    injection hz0
                  obtain ⟨hI1, hI2⟩ := HI.out
                  rw [hdr] at hI1
                  unfold foldI at hI1
                  have hsz : (inS d).size ≤ maxLen := by
                    have := pathB_size (in_path hnd)
                    simp only [maxLen]; omega
                  have hd10 := (name_path hnd).2
                  have hcat : (⟨#[105, 110, 47]⟩ : ByteArray).size + d.size ≤ 9223372036854775807 := by
                    have : (⟨#[105, 110, 47]⟩ : ByteArray).size = 3 := rfl
                    omega
                  have hcat2 : 3 + d.size ≤ 9223372036854775807 := by omega
                  obtain ⟨_, b, o, rfl, hb, hcell⟩ := (h.deps.kept hkr).elem hd0
                  obtain ⟨b2, o2, v2, rfl, hb2, hcell2, htl⟩ := (ho.kept hkr).elem hl0
                  obtain ⟨a8, c8, rfl⟩ := htl.slc
                  have uc : Calls Tryd.prog 27 #[.slice a8 l.length c8, .string (⟨#[105, 110, 47]⟩ ++ d)] wr (fun e w' => UnderOutS wr.heap.size l (inS d) w' e ∧ Kept (fun _ => False) wr w') := under_outS htl hml (in_path hnd)
                  have H1 := Lib.hid hI1
                  clear hI1 hdr hz0 hd0 hl0 HI hzat hnm hmy hnd hsz
                  go_wp2_with fail
                  refine uc.mono ?_
                  rintro e W7 ⟨hu, k7⟩
                  have K7 := hkr.trans k7
                  clear uc
                  rcases hu with ⟨hcu, rfl⟩ | ⟨hcu, v7, rfl, ht7, _⟩
                  · have HN : Hid (insO ls (depsZ x ts) = none) := by unfold Hid; rw [H1.out, if_pos hcu]
                    generalize underC l (inS d) = cc at hcu
                    have ecc : ((cc : Int) == 0) = false := by simp; omega
                    clear H1
                    go_wp2_with fail
                    go_roundg (x.deps.length - (k + 1))
                    case rel => exact ⟨k + 1, rfl, by omega, by go_num, K7, .inr ⟨cc, _, _, _, hcu, rfl, rfl, HN⟩⟩
                    case measure => omega
                  · obtain ⟨a7, c7, rfl⟩ := ht7.slc
                    have HU : Hid (mayB (l.map (upF (inS d))) = true) := (underC_zero.1 hcu).2.2
                    have H2 : Hid (insO ls (depsZ x ts) = if joinC cur (l.map (upF (inS d))) ≠ 0 then none else foldI ((depsZ x ts).drop (k + 1)) (joinO cur (l.map (upF (inS d))))) := by unfold Hid; rw [H1.out, if_neg (by rw [hcu]; simp)]
                    clear H1 hcu
                    have jc := joined_ctS (ht9.kept k7) ht7
                    have hzj : B ≤ W7.heap.size := by have := K7.size; have := HBE.out; omega
                    generalize l.map (upF (inS d)) = u at ht7 HU H2 jc
                    go_wp2_with fail
                    refine jc.mono ?_
                    rintro e W8 ⟨hj, k8⟩
                    have K8 := K7.trans k8
                    clear jc
                    rcases hj with ⟨hcj, rfl⟩ | ⟨hcj, v8, rfl, ht8, ho8⟩
                    · have HN : Hid (insO ls (depsZ x ts) = none) := by unfold Hid; rw [H2.out, if_pos hcj]
                      generalize joinC cur u = cc at hcj
                      clear H2
                      go_wp2_with fail
                      go_roundg (x.deps.length - (k + 1))
                      case rel => exact ⟨k + 1, rfl, by omega, by go_num, K8, .inr ⟨cc, _, _, _, hcj, rfl, rfl, HN⟩⟩
                      case measure => omega
                    · obtain ⟨a8', c8', rfl⟩ := ht8.slc
                      have HI : Hid (insO ls (depsZ x ts) = foldI ((depsZ x ts).drop (k + 1)) (joinO cur u) ∧ mayB (joinO cur u) = true) := by
                        unfold Hid
                        rw [H2.out, if_neg (by rw [hcj]; simp)]
                        exact ⟨rfl, (joinC_zero hcj).may⟩
                      clear H2 hcj
                      generalize joinO cur u = cur2 at ht8 ho8 HI
                      go_wp2_with fail
                      go_roundg (x.deps.length - (k + 1))
                      case rel => exact ⟨k + 1, rfl, by omega, by go_num, K8, .inl ⟨cur2, _, _, rfl, rfl, ht8, ho8.low hzj, HI⟩⟩
                      case measure => omega
                · obtain rfl : k = x.deps.length := by omega
                  have hI := HI.out.1
                  rw [List.drop_of_length_le (by rw [HZ.out.1]; exact Nat.le_refl _)] at hI
                  have HS : Hid (insO ls (depsZ x ts) = some cur) := hI
                  clear hI HI
                  go_wp2_with fail
                  simp only [Exit.noGoto_ret]
                  go_ret2
                  exact ⟨.inr ⟨HD.out.1, .inr ⟨cur, _, HS.out, rfl, ht9, ho9.low (Nat.le_of_eq HBE.out)⟩⟩, hkr⟩
              · have ecc : ((cc : Int) != 0) = true := by simp; omega
                by_cases hlt : k < x.deps.length
                · have hd0 : x.deps[k]? = some x.deps[k] := List.getElem?_eq_getElem hlt
                  obtain ⟨_, b, o, rfl, hb, hcell⟩ := (h.deps.kept hkr).elem hd0
                  clear hd0
                  go_wp2_with fail
                  simp only [Exit.noGoto_ret]
                  go_ret2
                  exact ⟨.inr ⟨HD.out.1, .inl ⟨HN.out, rfl⟩⟩, hkr⟩
                · obtain rfl : k = x.deps.length := by omega
                  go_wp2_with fail
                  simp only [Exit.noGoto_ret]
                  go_ret2
                  exact ⟨.inr ⟨HD.out.1, .inl ⟨HN.out, rfl⟩⟩, hkr⟩
        · have HF : Hid (okI x ls ts = false) := by unfold Hid; rw [HOK.out, beq_false_of_ne hlen]; rfl
          have ilen : ((ts.length : Int) != (x.deps.length : Int)) = true := by simp; omega
          go_wp2_with fail
          simp only [Exit.noGoto_ret]
          go_ret2
          exact ⟨.inl ⟨HF.out, rfl⟩, K5⟩

/- The document's Inputs. -/

theorem okI_eq (x : TgtE) (ls : List FileE) (ts : List (List FileE)) : okI x ls ts = ((mayT x && mayB ls && (ts.length == x.deps.length)) && ts.all mayB) := by
  unfold okI
  cases mayT x <;> cases mayB ls <;> cases ts.all mayB <;> cases (ts.length == x.deps.length) <;> rfl

set_option maxRecDepth 100000 in
set_option maxHeartbeats 8000000 in
theorem rinputs_ct {w : World} {x : TgtE} {vd vp vs vo : Value} {ls : List FileE} {ts : List (List FileE)} (h : TgtAt w x vd vp) (hs : TreeAt w vs ls) (ho : TreesAt w vo ts) :
    Calls Tryd.prog 12 #[.agg (tgtC x vd vp), vs, vo] w fun e w' => InsOut x ls ts w' e ∧ Kept (fun _ => False) w w' := by
  obtain ⟨a1, c1, a2, c2, rfl, rfl, hc1, hc2, hm1⟩ := h.words
  obtain ⟨a3, c3, rfl⟩ := hs.slc
  obtain ⟨a4, c4, rfl, hc4, hm4⟩ := ho.slc
  simp only [maxLen] at hm1 hm4
  unfold tgtC
  have k1 : Kept (fun _ => False) w (w.alloc (.cells #[.string x.name, .slice a1 x.deps.length c1, .int .i64 x.fuel, .slice a2 x.prog.length c2] 25)) := (Kept.refl _ w).alloc _
  have hb0 := heap_last w (.cells #[.string x.name, .slice a1 x.deps.length c1, .int .i64 x.fuel, .slice a2 x.prog.length c2] 25)
  have ldB : (Instr.loadAt 25 (.pointer (some ⟨w.heap.size, 0, none⟩))).run Tryd.prog (w.alloc (.cells #[.string x.name, .slice a1 x.deps.length c1, .int .i64 x.fuel, .slice a2 x.prog.length c2] 25)) = .ok (.agg #[.string x.name, .slice a1 x.deps.length c1, .int .i64 x.fuel, .slice a2 x.prog.length c2]) _ := load_row Tryd.underlying25 rfl hb0 (by kernel_rfl)
  go_enter Tryd.func12, Tryd.ntmps12
  go_upto_region 1 with fail
  generalize w.alloc (.cells #[.string x.name, .slice a1 x.deps.length c1, .int .i64 x.fuel, .slice a2 x.prog.length c2] 25) = W1 at k1 hb0 ldB ⊢
  generalize w.heap.size = B at hb0 ldB ⊢
  have hz1 := (Array.getElem?_eq_some_iff.1 hb0).1
  have hcB : ∀ w', Kept (fun _ => False) W1 w' → w'.cell? ⟨B, 1, none⟩ = some (.slice a1 x.deps.length c1) := fun w' q => by rw [q.cell (p := ⟨B, 1, none⟩) hz1 not_false, cell_of_row _ _ _ _ _ _ hb0]; rfl
  obtain ⟨ok0, hok0⟩ : ∃ ok0, (mayT x && mayB ls && (ts.length == x.deps.length)) = ok0 := ⟨_, rfl⟩
  have HOK := Lib.hid hok0
  clear hok0
  go_cut [8] (fun s8 wx => s8 = .bool ok0 ∧ Kept (fun _ => False) W1 wx)
  case first =>
    have bs := bslice_tg x.name a1 a2 x.deps.length c1 x.prog.length c2 x.fuel W1
    have k12 : Kept (fun _ => False) W1 (W1.alloc (.cells #[.string x.name, .slice a1 x.deps.length c1, .int .i64 x.fuel, .slice a2 x.prog.length c2] 25)) := (Kept.refl _ W1).alloc _
    have hg := heap_last W1 (.cells #[.string x.name, .slice a1 x.deps.length c1, .int .i64 x.fuel, .slice a2 x.prog.length c2] 25)
    generalize W1.alloc (.cells #[.string x.name, .slice a1 x.deps.length c1, .int .i64 x.fuel, .slice a2 x.prog.length c2] 25) = W2 at bs k12 hg
    generalize W1.heap.size = G at bs hg
    have mo := rmay_one_ct (h.kept (k1.trans k12)) hg
    have wc := fun w' (q : Kept (fun _ => False) w w') => rMay_ct (hs.kept q)
    generalize mayT x = m1 at mo HOK
    generalize mayB ls = m2 at wc HOK
    go_wp2_with (first
      | (with_reducible refine wpl_load 25 _ rfl rfl ?_ ldB ?_
         · rfl
         simp only [Act.put, List.getElem_toArray, List.getElem_cons_zero, List.getElem_cons_succ, List.setIfInBounds_toArray, List.set_cons_zero, List.set_cons_succ])
      | (with_reducible refine wpl_bslice 54 _ _ rfl rfl ?_ bs ?_
         · (go_simp <;> rfl)
         simp only [Act.put, List.getElem_toArray, List.getElem_cons_zero, List.getElem_cons_succ, List.setIfInBounds_toArray, List.set_cons_zero, List.set_cons_succ]))
    refine mo.mono ?_
    rintro e W3 ⟨rfl, k3⟩
    have K3 := k12.trans k3
    clear mo bs ldB
    cases m1 with
    | false =>
      go_wp2_with fail
      go_meet
      exact ⟨by rw [← HOK.out]; rfl, K3⟩
    | true =>
      go_wp2_with fail
      refine (wc _ (k1.trans K3)).mono ?_
      rintro e W4 ⟨rfl, k4⟩
      have K4 := K3.trans k4
      have e14 := hcB W4 K4
      clear wc
      cases m2 with
      | false =>
        go_wp2_with fail
        go_meet
        exact ⟨by rw [← HOK.out]; rfl, K4⟩
      | true =>
        by_cases hlen : ts.length = x.deps.length
        · have il : ((ts.length : Int) == (x.deps.length : Int)) = true := by rw [hlen]; simp
          have HO2 : Hid (ok0 = true) := by unfold Hid; rw [← HOK.out, beq_iff_eq.2 hlen]; rfl
          clear hlen HOK
          go_wp2_with fail
          go_meet
          exact ⟨by rw [HO2.out], K4⟩
        · have il : ((ts.length : Int) == (x.deps.length : Int)) = false := beq_eq_false_iff_ne.2 (by omega)
          have HO2 : Hid (ok0 = false) := by unfold Hid; rw [← HOK.out, beq_false_of_ne hlen]; rfl
          clear hlen HOK
          go_wp2_with fail
          go_meet
          exact ⟨by rw [HO2.out], K4⟩
  case rest =>
    obtain ⟨rfl, hkc⟩ := hcut
    obtain ⟨V, hV⟩ : ∃ V : World, V = wc := ⟨_, rfl⟩
    subst hV
    have hkV := k1.trans hkc
    clear ldB hb0
    go_wp2_with fail
    go_loopg [8, 9] ts.length (fun gk s8 s9 wr => ∃ k : Nat, gk = ts.length - k ∧ k ≤ ts.length ∧ s9 = .int .i64 k ∧ s8 = .bool (ok0 && (ts.take k).all mayB) ∧ Kept (fun _ => False) w wr ∧ Kept (fun _ => False) W1 wr)
    case atStart => exact ⟨0, by omega, by omega, rfl, by simp, hkV, hkc⟩
    case round =>
      obtain ⟨k, rfl, hk, rfl, rfl, hkr, hk1r⟩ := hrel
      by_cases hlt : k < ts.length
      · have hf : ts[k]? = some ts[k] := List.getElem?_eq_getElem hlt
        have htk : ts.take (k + 1) = ts.take k ++ [ts[k]] := List.take_succ_eq_append_getElem hlt
        generalize ts[k] = l at hf htk
        have HN : Hid ((ok0 && (ts.take k).all mayB && mayB l) = (ok0 && (ts.take (k + 1)).all mayB)) := by unfold Hid; rw [htk, List.all_append, Bool.and_assoc]; simp
        generalize (ok0 && (ts.take k).all mayB) = o1 at HN ⊢
        obtain ⟨b, o, v, rfl, hb, hcell, ht⟩ := (ho.kept hkr).elem hf
        have mc := rMay_ct ht
        obtain ⟨a8, c8, rfl⟩ := ht.slc
        clear hf htk
        cases o1 with
        | false =>
          go_wp2_with fail
          go_roundg (ts.length - (k + 1))
          case rel => exact ⟨k + 1, rfl, by omega, by go_num, by rw [← HN.out]; rfl, hkr, hk1r⟩
          case measure => omega
        | true =>
          generalize mayB l = ml at mc HN
          go_wp2_with fail
          refine mc.mono ?_
          rintro e W7 ⟨rfl, k7⟩
          clear mc
          go_wp2_with fail
          go_roundg (ts.length - (k + 1))
          case rel => exact ⟨k + 1, rfl, by omega, by go_num, by rw [← HN.out]; cases ml <;> rfl, hkr.trans k7, hk1r.trans k7⟩
          case measure => omega
      · obtain rfl : k = ts.length := by omega
        have HE : Hid ((ok0 && (ts.take ts.length).all mayB) = okI x ls ts) := by unfold Hid; rw [List.take_length, okI_eq, HOK.out]
        generalize (ok0 && (ts.take ts.length).all mayB) = o1 at HE ⊢
        cases o1 with
        | false =>
          go_wp2_with fail
          go_ret2
          exact ⟨.inl ⟨HE.out.symm, rfl⟩, hkr⟩
        | true =>
          obtain ⟨hdo, hlen, h5, hnd, hnm, hmy⟩ := okI_deps HE.out.symm
          have HD := Lib.hid (And.intro HE.out.symm (And.intro hdo hnd))
          have hmap := underC_zero (l := ls) (d := srcS)
          have hls := hdo.src
          have hzl : (depsZ x ts).length = x.deps.length := by unfold depsZ; rw [List.length_zip, hlen, Nat.min_self]
          have hzat : ∀ k d l, x.deps[k]? = some d → ts[k]? = some l → (depsZ x ts)[k]? = some (d, l) := fun k d l hd hl => by unfold depsZ; rw [List.getElem?_zip_eq_some]; exact ⟨hd, hl⟩
          have HZ := Lib.hid (And.intro hzl (And.intro hlen hmap))
          have uc : Calls Tryd.prog 30 #[.slice a3 ls.length c3, .string ⟨#[115, 114, 99]⟩] wr (fun e w' => TreeOut (underC ls srcS) (ls.map (upF srcS)) w' e ∧ Kept (fun _ => False) wr w') := rUnder_ct (hs.kept hkr) srcS (by decide)
          clear hdo hnd hzl hmap HE hls hlen
          go_wp2_with fail
          refine uc.mono ?_
          rintro e W6 ⟨hu, k6⟩
          have K6 := hkr.trans k6
          clear uc
          rcases hu with ⟨hcu, rfl⟩ | ⟨hcu, v6, rfl, ht6⟩
          · have HN : Hid (insO ls (depsZ x ts) = none) := by unfold Hid insO; rw [if_pos hcu]
            generalize underC ls srcS = cc at hcu
            have ecc : ((cc : Int) != 0) = true := by simp; omega
            have ecf : ((cc : Int) == 0) = false := by simp; omega
            go_wp2_with fail
            refine wp_loop_rounds 1 ?_
            rw [rounds_succ]
            by_cases h0 : ts.length = 0
            · have i0 : ¬ ((0 : Int) < (ts.length : Int)) := by omega
              clear h0
              go_wp2_with fail
              go_ret2
              exact ⟨.inr ⟨HD.out.1, .inl ⟨HN.out, rfl⟩⟩, K6⟩
            · have i0 : (0 : Int) < (ts.length : Int) := by omega
              go_wp2_with fail
              go_ret2
              exact ⟨.inr ⟨HD.out.1, .inl ⟨HN.out, rfl⟩⟩, K6⟩
          · obtain ⟨a6, c6, rfl⟩ := ht6.slc
            have HI : Hid (insO ls (depsZ x ts) = foldI ((depsZ x ts).drop 0) (ls.map (upF srcS)) ∧ mayB (ls.map (upF srcS)) = true) := by
              unfold Hid insO
              rw [if_neg (by rw [hcu]; simp), List.drop_zero]
              exact ⟨rfl, (underC_zero.1 hcu).2.2⟩
            clear hcu
            generalize ls.map (upF srcS) = cur at ht6 HI
            go_wp2_with fail
            go_loopg [10, 11, 12] ts.length (fun gk s10 s11 s12 wr => ∃ k : Nat, gk = ts.length - k ∧ k ≤ ts.length ∧ s12 = .int .i64 k ∧ Kept (fun _ => False) w wr ∧ Kept (fun _ => False) W1 wr ∧
              ((∃ (cur : List FileE) (a : Option Addr) (c : Nat), s10 = .slice a cur.length c ∧ s11 = .int .i64 0 ∧ TreeAt wr (.slice a cur.length c) cur ∧ Hid (insO ls (depsZ x ts) = foldI ((depsZ x ts).drop k) cur ∧ mayB cur = true)) ∨
               (∃ (cc : Nat) (a : Option Addr) (n c : Nat), cc ≠ 0 ∧ s10 = .slice a n c ∧ s11 = .int .i64 cc ∧ Hid (insO ls (depsZ x ts) = none))))
            case atStart => exact ⟨0, by omega, by omega, rfl, K6, hk1r.trans k6, .inl ⟨_, _, _, rfl, rfl, ht6, HI⟩⟩
            case round =>
              obtain ⟨k, rfl, hk, rfl, hkr, hk1r, hst⟩ := hrel
              clear ht6 HI K6
              rcases hst with ⟨cur, a9, c9, rfl, rfl, ht9, HI⟩ | ⟨cc, a9, n9, c9, hcc, rfl, rfl, HN⟩
              · by_cases hlt : k < ts.length
                · have hlk : k < x.deps.length := by rw [← HZ.out.2.1]; exact hlt
                  have hd0 : x.deps[k]? = some x.deps[k] := List.getElem?_eq_getElem hlk
                  have hl0 : ts[k]? = some ts[k] := List.getElem?_eq_getElem hlt
                  have hz0 := hzat k _ _ hd0 hl0
                  generalize x.deps[k] = d at hd0 hz0
                  generalize ts[k] = l at hl0 hz0
                  have hnd := hnm d (List.mem_of_getElem? hd0)
                  have hml := hmy l (List.mem_of_getElem? hl0)
                  have hzk : k < (depsZ x ts).length := by rw [HZ.out.1]; exact hlk
                  have hdr : (depsZ x ts).drop k = (d, l) :: (depsZ x ts).drop (k + 1) := by
                    rw [List.drop_eq_getElem_cons hzk]
                    congr 1
                    rw [List.getElem?_eq_getElem hzk] at hz0
                    injection hz0
                  obtain ⟨hI1, hI2⟩ := HI.out
                  rw [hdr] at hI1
                  unfold foldI at hI1
                  have hsz : (inS d).size ≤ maxLen := by
                    have := pathB_size (in_path hnd)
                    simp only [maxLen]; omega
                  have hd10 := (name_path hnd).2
                  have hcat2 : (9223372036854775807 < 3 + d.size) = False := by simp; omega
                  obtain ⟨_, b, q, rfl, hb, hcell⟩ := h.deps.elem hd0
                  obtain ⟨b2, q2, v2, rfl, hb2, hcell2, htl⟩ := ho.elem hl0
                  obtain ⟨a8, c8, rfl⟩ := htl.slc
                  obtain ⟨sd, hsd⟩ : ∃ sd, (⟨#[105, 110, 47]⟩ : ByteArray) ++ d = sd := ⟨_, rfl⟩
                  have hin : inS d = sd := hsd
                  rw [hin] at hI1 hsz
                  have cB := fun w' (z : Kept (fun _ => False) wr w') => hcB w' (hk1r.trans z)
                  have cS : ∀ w', Kept (fun _ => False) wr w' → w'.cell? ⟨b, q + k, none⟩ = some (.string d) := fun w' z => by rw [(hkr.trans z).cell (p := ⟨b, q + k, none⟩) hb not_false]; exact hcell
                  have cT : ∀ w', Kept (fun _ => False) wr w' → w'.cell? ⟨b2, q2 + k, none⟩ = some (.slice a8 l.length c8) := fun w' z => by rw [(hkr.trans z).cell (p := ⟨b2, q2 + k, none⟩) hb2 not_false]; exact hcell2
                  have uc := fun w' (z : Kept (fun _ => False) wr w') => rUnder_ct (htl.kept (hkr.trans z)) sd hsz
                  have ikd : (k : Int) < (x.deps.length : Int) := by omega
                  have ikt : (k : Int) < (ts.length : Int) := by omega
                  have H1 := Lib.hid hI1
                  clear hI1 hdr hz0 hd0 hl0 HI hzat hnm hmy hnd hsz hin hcell hcell2
                  go_wp2_with fail
                  refine wp_region_held_drew (S := (Kept (fun _ => False) wr)) (by kernel_rfl) ((Kept.refl _ wr).drew) (fun hHeld => ?_)
                  refine held_q (v := ?_) (i := 0) rfl (by kernel_rfl) (by kernel_rfl) (by kernel_rfl) (fun _ _ _ h => h) (by rfl) hHeld ?_ ?_
                  rotate_left
                  · (intro w' hS'; go_simp <;> (with_reducible rfl))
                  simp only [Act.put, List.getElem_toArray, List.getElem_cons_zero, List.getElem_cons_succ, List.setIfInBounds_toArray, List.set_cons_zero, List.set_cons_succ]
                  refine held_q (v := ?_) (i := 1) rfl (by kernel_rfl) (by kernel_rfl) (by kernel_rfl) (fun _ _ _ h => h) (by rfl) hHeld ?_ ?_
                  rotate_left
                  · (intro w' hS'; go_simp <;> (with_reducible rfl))
                  simp only [Act.put, List.getElem_toArray, List.getElem_cons_zero, List.getElem_cons_succ, List.setIfInBounds_toArray, List.set_cons_zero, List.set_cons_succ]
                  refine held_q (v := ?_) (i := 2) rfl (by kernel_rfl) (by kernel_rfl) (by kernel_rfl) (fun _ _ _ h => h) (by rfl) hHeld ?_ ?_
                  rotate_left
                  · (intro w' hS'; go_simp <;> (with_reducible rfl))
                  simp only [Act.put, List.getElem_toArray, List.getElem_cons_zero, List.getElem_cons_succ, List.setIfInBounds_toArray, List.set_cons_zero, List.set_cons_succ]
                  refine held_q (v := ?_) (i := 3) rfl (by kernel_rfl) (by kernel_rfl) (by kernel_rfl) (fun _ _ _ h => h) (by rfl) hHeld ?_ ?_
                  rotate_left
                  · (intro w' hS'; go_simp <;> (with_reducible rfl))
                  simp only [Act.put, List.getElem_toArray, List.getElem_cons_zero, List.getElem_cons_succ, List.setIfInBounds_toArray, List.set_cons_zero, List.set_cons_succ]
                  refine held_q (v := ?_) (i := 4) rfl (by kernel_rfl) (by kernel_rfl) (by kernel_rfl) (fun _ _ _ h => h) (by rfl) hHeld ?_ ?_
                  rotate_left
                  · (intro w' hS'; go_simp <;> (with_reducible rfl))
                  simp only [Act.put, List.getElem_toArray, List.getElem_cons_zero, List.getElem_cons_succ, List.setIfInBounds_toArray, List.set_cons_zero, List.set_cons_succ]
                  refine held_q (v := ?_) (i := 5) rfl (by kernel_rfl) (by kernel_rfl) (by kernel_rfl) (fun _ _ _ h => h) (by rfl) hHeld ?_ ?_
                  rotate_left
                  · (intro w' hS'; go_simp <;> (with_reducible rfl))
                  simp only [Act.put, List.getElem_toArray, List.getElem_cons_zero, List.getElem_cons_succ, List.setIfInBounds_toArray, List.set_cons_zero, List.set_cons_succ]
                  refine held_q (v := ?_) (i := 6) rfl (by kernel_rfl) (by kernel_rfl) (by kernel_rfl) (fun _ _ _ h => h) (by rfl) hHeld ?_ ?_
                  rotate_left
                  · (intro w' hS'; go_simp <;> (with_reducible rfl))
                  simp only [Act.put, List.getElem_toArray, List.getElem_cons_zero, List.getElem_cons_succ, List.setIfInBounds_toArray, List.set_cons_zero, List.set_cons_succ]
                  refine held_q (v := ?_) (i := 7) rfl (by kernel_rfl) (by kernel_rfl) (by kernel_rfl) (fun _ _ _ h => h) (by rfl) hHeld ?_ ?_
                  rotate_left
                  · (intro w' hS'; go_simp <;> (with_reducible rfl))
                  simp only [Act.put, List.getElem_toArray, List.getElem_cons_zero, List.getElem_cons_succ, List.setIfInBounds_toArray, List.set_cons_zero, List.set_cons_succ]
                  refine held_q (v := ?_) (i := 8) rfl (by kernel_rfl) (by kernel_rfl) (by kernel_rfl) (fun _ _ _ h => h) (by rfl) hHeld ?_ ?_
                  rotate_left
                  · (intro w' hS'; go_simp <;> (with_reducible rfl))
                  simp only [Act.put, List.getElem_toArray, List.getElem_cons_zero, List.getElem_cons_succ, List.setIfInBounds_toArray, List.set_cons_zero, List.set_cons_succ]
                  refine held_q (v := ?_) (i := 9) rfl (by kernel_rfl) (by kernel_rfl) (by kernel_rfl) (fun _ _ _ h => h) (by rfl) hHeld ?_ ?_
                  rotate_left
                  · (intro w' hS'; go_simp <;> (with_reducible rfl))
                  simp only [Act.put, List.getElem_toArray, List.getElem_cons_zero, List.getElem_cons_succ, List.setIfInBounds_toArray, List.set_cons_zero, List.set_cons_succ]
                  refine held_c (i := 10) (f := 30) (args := #[.slice a8 l.length c8, .string sd]) (by kernel_rfl) rfl (by rfl) ?_ (uc _ hHeld) ?_
                  · (go_simp <;> rfl)
                  rintro e W7 ⟨hu, k7⟩
                  have hHeld := hHeld.trans k7
                  clear uc cB cS cT
                  rcases hu with ⟨hcu, rfl⟩ | ⟨hcu, v7, rfl, ht7⟩
                  · have HN : Hid (insO ls (depsZ x ts) = none) := by unfold Hid; rw [H1.out, if_pos hcu]
                    generalize underC l sd = cc at hcu
                    have ecc : ((cc : Int) != 0) = true := by simp; omega
                    refine ⟨_, rfl, hHeld, ?_⟩
                    simp only [Act.put, List.getElem_toArray, List.getElem_cons_zero, List.getElem_cons_succ, List.setIfInBounds_toArray, List.set_cons_zero, List.set_cons_succ]
                    refine held_q (v := ?_) (i := 11) rfl (by kernel_rfl) (by kernel_rfl) (by kernel_rfl) (fun _ _ _ h => h) (by rfl) hHeld ?_ ?_
                    rotate_left
                    · (intro w' hS'; go_simp <;> (with_reducible rfl))
                    simp only [Act.put, List.getElem_toArray, List.getElem_cons_zero, List.getElem_cons_succ, List.setIfInBounds_toArray, List.set_cons_zero, List.set_cons_succ]
                    refine held_q (v := ?_) (i := 12) rfl (by kernel_rfl) (by kernel_rfl) (by kernel_rfl) (fun _ _ _ h => h) (by rfl) hHeld ?_ ?_
                    rotate_left
                    · (intro w' hS'; go_simp <;> (with_reducible rfl))
                    simp only [Act.put, List.getElem_toArray, List.getElem_cons_zero, List.getElem_cons_succ, List.setIfInBounds_toArray, List.set_cons_zero, List.set_cons_succ]
                    refine held_q (v := ?_) (i := 13) rfl (by kernel_rfl) (by kernel_rfl) (by kernel_rfl) (fun _ _ _ h => h) (by rfl) hHeld ?_ ?_
                    rotate_left
                    · (intro w' hS'; go_simp <;> (with_reducible rfl))
                    simp only [Act.put, List.getElem_toArray, List.getElem_cons_zero, List.getElem_cons_succ, List.setIfInBounds_toArray, List.set_cons_zero, List.set_cons_succ]
                    refine held_q (v := ?_) (i := 14) rfl (by kernel_rfl) (by kernel_rfl) (by kernel_rfl) (fun _ _ _ h => h) (by rfl) hHeld ?_ ?_
                    rotate_left
                    · (intro w' hS'; go_simp <;> (with_reducible rfl))
                    simp only [Act.put, List.getElem_toArray, List.getElem_cons_zero, List.getElem_cons_succ, List.setIfInBounds_toArray, List.set_cons_zero, List.set_cons_succ]
                    refine held_q (v := ?_) (i := 15) rfl (by kernel_rfl) (by kernel_rfl) (by kernel_rfl) (fun _ _ _ h => h) (by rfl) hHeld ?_ ?_
                    rotate_left
                    · (intro w' hS'; go_simp <;> (with_reducible rfl))
                    simp only [Act.put, List.getElem_toArray, List.getElem_cons_zero, List.getElem_cons_succ, List.setIfInBounds_toArray, List.set_cons_zero, List.set_cons_succ]
                    refine wpAnyH_done (by kernel_rfl) ?_ _
                    clear H1
                    go_wp2_with fail
                    go_ret2
                    exact ⟨.inr ⟨HD.out.1, .inl ⟨HN.out, rfl⟩⟩, hkr.trans hHeld⟩
                  · obtain ⟨a7, c7, rfl⟩ := ht7.slc
                    have H2 : Hid (insO ls (depsZ x ts) = if joinC cur (l.map (upF sd)) ≠ 0 then none else foldI ((depsZ x ts).drop (k + 1)) (joinO cur (l.map (upF sd)))) := by unfold Hid; rw [H1.out, if_neg (by rw [hcu]; simp)]
                    refine ⟨_, rfl, hHeld, ?_⟩
                    simp only [Act.put, List.getElem_toArray, List.getElem_cons_zero, List.getElem_cons_succ, List.setIfInBounds_toArray, List.set_cons_zero, List.set_cons_succ]
                    have jc := rJoin_ct (ht9.kept hHeld) ht7
                    clear H1 hcu
                    generalize l.map (upF sd) = u at ht7 H2 jc ⊢
                    refine held_q (v := ?_) (i := 11) rfl (by kernel_rfl) (by kernel_rfl) (by kernel_rfl) (fun _ _ _ h => h) (by rfl) hHeld ?_ ?_
                    rotate_left
                    · (intro w' hS'; go_simp <;> (with_reducible rfl))
                    simp only [Act.put, List.getElem_toArray, List.getElem_cons_zero, List.getElem_cons_succ, List.setIfInBounds_toArray, List.set_cons_zero, List.set_cons_succ]
                    refine held_q (v := ?_) (i := 12) rfl (by kernel_rfl) (by kernel_rfl) (by kernel_rfl) (fun _ _ _ h => h) (by rfl) hHeld ?_ ?_
                    rotate_left
                    · (intro w' hS'; go_simp <;> (with_reducible rfl))
                    simp only [Act.put, List.getElem_toArray, List.getElem_cons_zero, List.getElem_cons_succ, List.setIfInBounds_toArray, List.set_cons_zero, List.set_cons_succ]
                    refine held_q (v := ?_) (i := 13) rfl (by kernel_rfl) (by kernel_rfl) (by kernel_rfl) (fun _ _ _ h => h) (by rfl) hHeld ?_ ?_
                    rotate_left
                    · (intro w' hS'; go_simp <;> (with_reducible rfl))
                    simp only [Act.put, List.getElem_toArray, List.getElem_cons_zero, List.getElem_cons_succ, List.setIfInBounds_toArray, List.set_cons_zero, List.set_cons_succ]
                    refine held_q (v := ?_) (i := 14) rfl (by kernel_rfl) (by kernel_rfl) (by kernel_rfl) (fun _ _ _ h => h) (by rfl) hHeld ?_ ?_
                    rotate_left
                    · (intro w' hS'; go_simp <;> (with_reducible rfl))
                    simp only [Act.put, List.getElem_toArray, List.getElem_cons_zero, List.getElem_cons_succ, List.setIfInBounds_toArray, List.set_cons_zero, List.set_cons_succ]
                    refine held_q (v := ?_) (i := 15) rfl (by kernel_rfl) (by kernel_rfl) (by kernel_rfl) (fun _ _ _ h => h) (by rfl) hHeld ?_ ?_
                    rotate_left
                    · (intro w' hS'; go_simp <;> (with_reducible rfl))
                    simp only [Act.put, List.getElem_toArray, List.getElem_cons_zero, List.getElem_cons_succ, List.setIfInBounds_toArray, List.set_cons_zero, List.set_cons_succ]
                    refine wpAnyH_done (by kernel_rfl) ?_ _
                    go_wp2_with fail
                    refine jc.mono ?_
                    rintro e W8 ⟨hj, k8⟩
                    have K8 := hHeld.trans k8
                    clear jc
                    rcases hj with ⟨hcj, rfl⟩ | ⟨hcj, v8, rfl, ht8⟩
                    · have HN : Hid (insO ls (depsZ x ts) = none) := by unfold Hid; rw [H2.out, if_pos hcj]
                      generalize joinC cur u = cc at hcj
                      clear H2
                      go_wp2_with fail
                      go_roundg (ts.length - (k + 1))
                      case rel => exact ⟨k + 1, rfl, by omega, by go_num, hkr.trans K8, hk1r.trans K8, .inr ⟨cc, _, _, _, hcj, rfl, rfl, HN⟩⟩
                      case measure => omega
                    · obtain ⟨a8', c8', rfl⟩ := ht8.slc
                      have HI : Hid (insO ls (depsZ x ts) = foldI ((depsZ x ts).drop (k + 1)) (joinO cur u) ∧ mayB (joinO cur u) = true) := by
                        unfold Hid
                        rw [H2.out, if_neg (by rw [hcj]; simp)]
                        exact ⟨rfl, (joinC_zero hcj).may⟩
                      clear H2 hcj
                      generalize joinO cur u = cur2 at ht8 HI
                      go_wp2_with fail
                      go_roundg (ts.length - (k + 1))
                      case rel => exact ⟨k + 1, rfl, by omega, by go_num, hkr.trans K8, hk1r.trans K8, .inl ⟨cur2, _, _, rfl, rfl, ht8, HI⟩⟩
                      case measure => omega
                · obtain rfl : k = ts.length := by omega
                  have hI := HI.out.1
                  rw [List.drop_of_length_le (by rw [HZ.out.1, ← HZ.out.2.1]; exact Nat.le_refl _)] at hI
                  have HS : Hid (insO ls (depsZ x ts) = some cur) := hI
                  clear hI HI
                  go_wp2_with fail
                  go_ret2
                  exact ⟨.inr ⟨HD.out.1, .inr ⟨cur, _, HS.out, rfl, ht9⟩⟩, hkr⟩
              · have ecc : ((cc : Int) != 0) = true := by simp; omega
                have ecf : ((cc : Int) == 0) = false := by simp; omega
                by_cases hlt : k < ts.length
                · have ikt : (k : Int) < (ts.length : Int) := by omega
                  go_wp2_with fail
                  go_ret2
                  exact ⟨.inr ⟨HD.out.1, .inl ⟨HN.out, rfl⟩⟩, hkr⟩
                · obtain rfl : k = ts.length := by omega
                  go_wp2_with fail
                  go_ret2
                  exact ⟨.inr ⟨HD.out.1, .inl ⟨HN.out, rfl⟩⟩, hkr⟩

/- slices.Clone of a program; programs alike or not. -/

theorem flat_get {α : Type} {z : Nat} : ∀ {cs : List (List α)} {j : Nat} {r : List α}, (∀ x ∈ cs, x.length = z) → cs[j]? = some r → ∀ i, i < z → cs.flatten[j * z + i]? = r[i]?
  | [], j, r, _, h, _, _ => by simp at h
  | x :: cs, 0, r, hz, h, i, hi => by
    simp only [List.getElem?_cons_zero, Option.some.injEq] at h
    subst h
    have := hz x (List.mem_cons_self ..)
    rw [List.flatten_cons, List.getElem?_append_left (by omega), Nat.zero_mul, Nat.zero_add]
  | x :: cs, j + 1, r, hz, h, i, hi => by
    simp only [List.getElem?_cons_succ] at h
    have h1 := hz x (List.mem_cons_self ..)
    have ih := flat_get (fun y hy => hz y (List.mem_cons_of_mem _ hy)) h i hi
    rw [List.flatten_cons, List.getElem?_append_right (by rw [h1, Nat.succ_mul]; omega), ← ih, h1]
    congr 1
    rw [Nat.succ_mul]; omega
theorem flat_len {α : Type} {z : Nat} : ∀ {cs : List (List α)}, (∀ x ∈ cs, x.length = z) → cs.flatten.length = cs.length * z
  | [], _ => by simp
  | x :: cs, h => by
    rw [List.flatten_cons, List.length_append, h x (List.mem_cons_self ..), flat_len (fun y hy => h y (List.mem_cons_of_mem _ hy)), List.length_cons, Nat.succ_mul]; omega
theorem flat_range {w : World} {b z : Nat} (hz0 : 0 < z) {cs : List (List Value)} {o : Nat} (hz : ∀ x ∈ cs, x.length = z) (h : ∀ (j : Nat) xs, cs[j]? = some xs → w.rangeAt b (o + j * z) xs) : w.rangeAt b o cs.flatten := by
  intro i u hu
  have hi := (List.getElem?_eq_some_iff.1 hu).1
  rw [flat_len hz] at hi
  have hj : i / z < cs.length := Nat.div_lt_of_lt_mul (by rw [Nat.mul_comm]; exact hi)
  have hr : cs[i / z]? = some cs[i / z] := List.getElem?_eq_getElem hj
  have hm : i % z < z := Nat.mod_lt _ hz0
  have hd : i / z * z + i % z = i := by rw [Nat.mul_comm]; exact Nat.div_add_mod i z
  have hg := flat_get hz hr (i % z) hm
  rw [hd, hu] at hg
  have := h _ _ hr (i % z) u hg.symm
  rw [← this]
  congr 2
  omega
theorem RowAt.ownZ {w : World} {base : Nat} {t : TypeId} {v : Value} {n z : Nat} {cs : List (List Value)} (h : w.ownsRow base t z v n cs.flatten) (hz : ∀ x ∈ cs, x.length = z) (hl : cs.length = n) (hm : n ≤ maxLen) : RowAt w z v cs := by
  subst hl
  rcases h.2 with ⟨rfl, h0⟩ | ⟨g, cap, cur, rfl, hb, hg, h1, h2, h3⟩
  · rw [List.eq_nil_of_length_eq_zero h0]; exact RowAt.nil _ _ _
  · refine ⟨some ⟨g, 0, none⟩, cap, rfl, h1, hm, fun _ => ⟨g, 0, rfl, (Array.getElem?_eq_some_iff.1 hg).1, fun j xs hj i u hu => ?_⟩⟩
    have hi : i < z := by have := (List.getElem?_eq_some_iff.1 hu).1; rw [hz xs (List.mem_of_getElem? hj)] at this; exact this
    have hf := flat_get hz hj i hi
    rw [hu] at hf
    have hjl := (List.getElem?_eq_some_iff.1 hf).1
    rw [cell_of_row _ _ _ _ _ _ hg, Nat.zero_add]
    rw [← h3.2] at hf hjl
    rw [List.length_take] at hjl
    rw [List.getElem?_take_of_lt (by omega)] at hf
    simpa using hf
theorem insC_z (p : List InsE) : ∀ x ∈ p.map insC, x.length = 6 := fun x hx => by
  obtain ⟨y, _, rfl⟩ := List.mem_map.1 hx
  rfl
def insCs (p : List InsE) : List Value := (p.map insC).flatten
theorem insCs_len (p : List InsE) : (insCs p).length = p.length * 6 := by unfold insCs; rw [flat_len (insC_z p), List.length_map]
theorem insCs_one (p : List InsE) : ∀ u ∈ insCs p, u.oneCell' = true := fun u hu => by
  unfold insCs at hu
  obtain ⟨l, hl, hu⟩ := List.mem_flatten.1 hu
  obtain ⟨y, _, rfl⟩ := List.mem_map.1 hl
  unfold insC at hu
  simp only [List.mem_cons, List.not_mem_nil, or_false] at hu
  rcases hu with rfl | rfl | rfl | rfl | rfl | rfl <;> rfl
theorem bslice_i0 (w : World) : (Instr.buildSlice 23 0 #[]).run Tryd.prog w = .ok (.slice (some ⟨w.heap.size, 0, none⟩) 0 0) (w.alloc (.cells #[] 48)) := by kernel_rfl
theorem eq_nilI (w : World) (a : Option Addr) (n c n' c' : Nat) : (binOp .eql 23 (.slice a n c) (.slice none n' c')).run Tryd.prog w = .ok (.bool a.isNone) w := Lib.run_eql_slice_nil w _ _ a n c n' c' Tryd.underlying23
/-- A program of the call's own. -/
def OwnI (base : Nat) (w : World) (v : Value) (p : List InsE) : Prop := w.ownsRow base 48 6 v p.length (insCs p) ∧ ∀ x ∈ p, x.Fits
theorem OwnI.at {base : Nat} {w : World} {v : Value} {p : List InsE} (h : OwnI base w v p) (hm : p.length ≤ maxLen) : ProgAt w v p := ⟨RowAt.ownZ h.1 (insC_z p) (by rw [List.length_map]) hm, h.2⟩
theorem OwnI.kept {base : Nat} {w w' : World} {v : Value} {p : List InsE} (h : OwnI base w v p) (hk : Kept (fun _ => False) w w') : OwnI base w' v p := ⟨row_kept h.1 hk, h.2⟩
set_option maxHeartbeats 2000000 in
theorem cloneI_ct {w : World} {v : Value} {p : List InsE} (h : ProgAt w v p) (hl : p.length ≤ 1000) :
    Calls Tryd.prog 32 #[v] w fun e w' => ∃ v', e = .returned v' ∧ OwnI w.heap.size w' v' p ∧ Kept (fun _ => False) w w' := by
  obtain ⟨a, c, rfl, hc, hm⟩ := h.slc
  have q25 := eq_nilI
  cases a with
  | none =>
    have hp0 : p = [] := by
      apply Classical.byContradiction; intro hh
      have hlt : 0 < p.length := List.length_pos_iff.2 hh
      obtain ⟨_, b, o, e, _⟩ := h.elem (List.getElem?_eq_getElem hlt)
      cases e
    subst hp0
    go_enter Tryd.func32, Tryd.ntmps32
    go_wp2_with fail
    go_ret
    exact ⟨_, rfl, ⟨World.ownsRow_nil _ _ _ _, fun x hx => by simp at hx⟩, Kept.refl _ _⟩
  | some ad =>
    have bs := bslice_i0 w
    have k1 : Kept (fun _ => False) w (w.alloc (.cells #[] 48)) := (Kept.refl _ w).alloc _
    have ho : (w.alloc (.cells #[] 48)).ownsRow w.heap.size 48 6 (.slice (some ⟨w.heap.size, 0, none⟩) 0 0) 0 [] := World.ownsRow_made w #[] 0 (Nat.le_refl _) (Nat.zero_le _) rfl
    have hk := h.kept k1
    generalize w.alloc (.cells #[] 48) = W at bs k1 ho hk
    have hnews : ∀ j u, (insCs p)[j]? = some u → W.cell? (ad.add j) = some u := fun j u hu => by
      have hne : p ≠ [] := fun e => by subst e; simp [insCs] at hu
      obtain ⟨a', c', e, _, _, h3⟩ := hk.1
      injection e with e1 _ _
      subst e1
      obtain ⟨b, o, e, hb, hr⟩ := h3 (by simpa using hne)
      injection e with e
      subst e
      rw [Addr.add_mid]
      exact flat_range (by omega) (insC_z p) hr j u hu
    obtain ⟨i, hi⟩ : ∃ i, Tryd.prog.info? 48 = some i := ⟨_, rfl⟩
    obtain ⟨z, hz⟩ : ∃ z, i.zero = some z := by injection hi with hi; subst hi; exact ⟨_, rfl⟩
    have hs : i.size = 6 := by injection hi with hi; subst hi; rfl
    have hzs : z.cells.size = 6 := by injection hi with hi; subst hi; injection hz with hz; subst hz; rfl
    have hby : i.bytes ≤ 72 := by injection hi with hi; subst hi; decide
    obtain ⟨v', w', ap, ho', hg', _⟩ := run_append_own (P := Tryd.prog) W w.heap.size 23 23 48 i z 6 i.bytes Tryd.underlying23 hi hz hs rfl hzs (by omega) _ 0 [] ho ad p.length c (insCs p) (insCs_len p) hnews (insCs_one p) (by simp only [maxLen]; omega)
      (by have : (0 + p.length) * i.bytes ≤ 1000 * 72 := Nat.mul_le_mul (by omega) hby; omega) k1.size
    have k2 : Kept (fun _ => False) w w' := grown_kept k1 hg' (fun k e => by have e : some w.heap.size = some k := e; injection e with e; omega)
    obtain ⟨a', c', hv'⟩ := row_form ho'
    subst hv'
    rw [Nat.zero_add, List.nil_append] at ho'
    go_enter Tryd.func32, Tryd.ntmps32
    go_wp2_with (first
      | (with_reducible refine wpl_bslice 23 _ _ rfl rfl ?_ bs ?_
         · (go_simp <;> rfl)
         simp only [Act.put, List.getElem_toArray, List.getElem_cons_zero, List.getElem_cons_succ, List.setIfInBounds_toArray, List.set_cons_zero, List.set_cons_succ])
      | (with_reducible refine wpl_append 23 _ _ rfl rfl ?_ ?_ ap ?_
         · rfl
         · rfl
         simp only [Act.put, List.getElem_toArray, List.getElem_cons_zero, List.getElem_cons_succ, List.setIfInBounds_toArray, List.set_cons_zero, List.set_cons_succ]))
    go_ret
    exact ⟨_, rfl, ⟨by simpa using ho', h.2⟩, k2⟩

/- Programs alike or not. -/

def eqI (x y : InsE) : Bool := ((x.op : Int) == (y.op : Int)) && (x.a.toList == y.a.toList) && (x.b.toList == y.b.toList) && (x.c.toList == y.c.toList) && (x.n == y.n) && (x.m == y.m)
theorem eqI_rfl (x : InsE) : eqI x x = true := by unfold eqI; simp
theorem neq_ins (x y : InsE) (w : World) : (binOp .neq 48 (.agg (insC x).toArray) (.agg (insC y).toArray)).run Tryd.prog w = .ok (.bool (!eqI x y)) w := by
  unfold insC eqI
  go_simp
  repeat' split
  all_goals simp_all
theorem exec_bin {P : Program} {o : Oper} {a : Act} {w : World} {p q v : Value} (b : BinOp) (t t2 : TypeId) (x y : Operand) (ho : o.op = .binOp b t x y t2) (hx : a.eval x = p) (hy : a.eval y = q) (hg : (eqGuard b t x y p q).run P w = .ok () w) (h : (binOp b t p q).run P w = .ok v w) : (execOp a.eval o).run P w = .ok (.value v) w := by
  unfold execOp; simp only [ho, hx, hy, Sem.run_bind, hg, h, Result.andThen_ok]; rfl
def alikeAt (p q : List InsE) (i : Nat) : Bool := match p[i]?, q[i]? with
  | some x, some y => eqI x y
  | _, _ => true
def sameP (p q : List InsE) : Bool := (p.length == q.length) && allTo (alikeAt p q) p.length
theorem sameP_rfl (p : List InsE) : sameP p p = true := by
  unfold sameP
  rw [Bool.and_eq_true, allTo_iff]
  refine ⟨by simp, fun i hi => ?_⟩
  unfold alikeAt
  rw [List.getElem?_eq_getElem hi]
  exact eqI_rfl _
set_option maxRecDepth 100000 in
set_option maxHeartbeats 4000000 in
theorem rsameP_ct {w : World} {v v2 : Value} {p q : List InsE} (h : ProgAt w v p) (h2 : ProgAt w v2 q) :
    Calls Tryd.prog 14 #[v, v2] w fun e w' => e = .returned (.bool (sameP p q)) ∧ Kept (fun _ => False) w w' := by
  obtain ⟨a, c, rfl, hc, hm⟩ := h.slc
  obtain ⟨a2, c2, rfl, hc2, hm2⟩ := h2.slc
  simp only [maxLen] at hm hm2
  by_cases hlen : p.length = q.length
  · have hs : sameP p q = allTo (alikeAt p q) p.length := by unfold sameP; rw [beq_iff_eq.2 hlen]; rfl
    have HS := Lib.hid hs
    have HL := Lib.hid hlen
    have il : ((p.length : Int) != (q.length : Int)) = false := by rw [hlen]; simp
    clear hs hlen
    go_enter Tryd.func14, Tryd.ntmps14
    go_wp2_with fail
    go_loopg [5] p.length (fun gk i wr => ∃ k : Nat, gk = p.length - k ∧ k ≤ p.length ∧ i = .int .i64 k ∧ Hid (allTo (alikeAt p q) k = true) ∧ Kept (fun _ => False) w wr)
    case atStart => exact ⟨0, by omega, by omega, rfl, rfl, Kept.refl _ _⟩
    case round =>
      obtain ⟨k, rfl, hk, rfl, HA, hkr⟩ := hrel
      by_cases hlt : k < p.length
      · have hlq : k < q.length := by rw [← HL.out]; exact hlt
        have hf : p[k]? = some p[k] := List.getElem?_eq_getElem hlt
        have hf2 : q[k]? = some q[k] := List.getElem?_eq_getElem hlq
        generalize p[k] = x at hf
        generalize q[k] = y at hf2
        have hat : alikeAt p q k = eqI x y := by unfold alikeAt; rw [hf, hf2]
        obtain ⟨b, o, rfl, hb, hr⟩ := (h.1.kept hkr).elem (j := k) (xs := insC x) (by rw [List.getElem?_map, hf]; rfl)
        obtain ⟨b2, o2, rfl, hb2, hr2⟩ := (h2.1.kept hkr).elem (j := k) (xs := insC y) (by rw [List.getElem?_map, hf2]; rfl)
        have l1 := fun w' (z : Kept (fun _ => False) wr w') => load_ins (rangeAt_stay z hb not_false hr)
        have l2 := fun w' (z : Kept (fun _ => False) wr w') => load_ins (rangeAt_stay z hb2 not_false hr2)
        have ikq : (k : Int) < (q.length : Int) := by omega
        have HNO : Hid (alikeAt p q k = false → sameP p q = false) := fun e => by rw [HS.out, allTo_no e hlt]
        have HYES : Hid (alikeAt p q k = true → allTo (alikeAt p q) (k + 1) = true) := fun e => by
          show (allTo (alikeAt p q) k && alikeAt p q k) = true
          rw [HA.out, e]; rfl
        have HAT := Lib.hid hat
        clear hat hf hf2 hr hr2
        have nq := fun w' => neq_ins x y w'
        generalize eqI x y = eb at nq HAT
        go_wp2_with fail
        refine wp_region_held_drew (S := (Kept (fun _ => False) wr)) (by kernel_rfl) ((Kept.refl _ wr).drew) (fun hHeld => ?_)
        refine held_q (v := ?_) (i := 0) rfl (by kernel_rfl) (by kernel_rfl) (by kernel_rfl) (fun _ _ _ h => h) (by rfl) hHeld ?_ ?_
        rotate_left
        · (intro w' hS'; go_simp <;> (with_reducible rfl))
        simp only [Act.put, List.getElem_toArray, List.getElem_cons_zero, List.getElem_cons_succ, List.setIfInBounds_toArray, List.set_cons_zero, List.set_cons_succ]
        refine held_q (v := ?_) (i := 1) rfl (by kernel_rfl) (by kernel_rfl) (by kernel_rfl) (fun _ _ _ h => h) (by rfl) hHeld ?_ ?_
        rotate_left
        · (intro w' hS'; go_simp <;> (with_reducible rfl))
        simp only [Act.put, List.getElem_toArray, List.getElem_cons_zero, List.getElem_cons_succ, List.setIfInBounds_toArray, List.set_cons_zero, List.set_cons_succ]
        refine held_q (v := ?_) (i := 2) rfl (by kernel_rfl) (by kernel_rfl) (by kernel_rfl) (fun _ _ _ h => h) (by rfl) hHeld ?_ ?_
        rotate_left
        · (intro w' hS'; go_simp <;> (with_reducible rfl))
        simp only [Act.put, List.getElem_toArray, List.getElem_cons_zero, List.getElem_cons_succ, List.setIfInBounds_toArray, List.set_cons_zero, List.set_cons_succ]
        refine held_q (i := 3) rfl (by kernel_rfl) (by kernel_rfl) (by kernel_rfl) (fun _ _ _ h => h) (by rfl) hHeld (fun w' hS' => exec_load 48 _ rfl rfl (l1 w' hS')) ?_
        simp only [Act.put, List.getElem_toArray, List.getElem_cons_zero, List.getElem_cons_succ, List.setIfInBounds_toArray, List.set_cons_zero, List.set_cons_succ]
        refine held_q (v := ?_) (i := 4) rfl (by kernel_rfl) (by kernel_rfl) (by kernel_rfl) (fun _ _ _ h => h) (by rfl) hHeld ?_ ?_
        rotate_left
        · (intro w' hS'; go_simp <;> (with_reducible rfl))
        simp only [Act.put, List.getElem_toArray, List.getElem_cons_zero, List.getElem_cons_succ, List.setIfInBounds_toArray, List.set_cons_zero, List.set_cons_succ]
        refine held_q (v := ?_) (i := 5) rfl (by kernel_rfl) (by kernel_rfl) (by kernel_rfl) (fun _ _ _ h => h) (by rfl) hHeld ?_ ?_
        rotate_left
        · (intro w' hS'; go_simp <;> (with_reducible rfl))
        simp only [Act.put, List.getElem_toArray, List.getElem_cons_zero, List.getElem_cons_succ, List.setIfInBounds_toArray, List.set_cons_zero, List.set_cons_succ]
        refine held_q (v := ?_) (i := 6) rfl (by kernel_rfl) (by kernel_rfl) (by kernel_rfl) (fun _ _ _ h => h) (by rfl) hHeld ?_ ?_
        rotate_left
        · (intro w' hS'; go_simp <;> (with_reducible rfl))
        simp only [Act.put, List.getElem_toArray, List.getElem_cons_zero, List.getElem_cons_succ, List.setIfInBounds_toArray, List.set_cons_zero, List.set_cons_succ]
        refine held_q (i := 7) rfl (by kernel_rfl) (by kernel_rfl) (by kernel_rfl) (fun _ _ _ h => h) (by rfl) hHeld (fun w' hS' => exec_load 48 _ rfl rfl (l2 w' hS')) ?_
        simp only [Act.put, List.getElem_toArray, List.getElem_cons_zero, List.getElem_cons_succ, List.setIfInBounds_toArray, List.set_cons_zero, List.set_cons_succ]
        refine held_q (i := 8) rfl (by kernel_rfl) (by kernel_rfl) (by kernel_rfl) (fun _ _ _ h => h) (by rfl) hHeld (fun w' hS' => exec_bin .neq _ _ _ _ rfl rfl rfl (by kernel_rfl) (nq w')) ?_
        simp only [Act.put, List.getElem_toArray, List.getElem_cons_zero, List.getElem_cons_succ, List.setIfInBounds_toArray, List.set_cons_zero, List.set_cons_succ]
        refine wpAnyH_done (by kernel_rfl) ?_ _
        clear nq
        cases eb with
        | true =>
          have HT := Lib.hid (HYES.out HAT.out)
          clear HNO HYES
          go_wp2_with fail
          go_roundg (p.length - (k + 1))
          case rel => exact ⟨k + 1, rfl, by omega, by go_num, HT.out, hkr.trans hHeld⟩
          case measure => omega
        | false =>
          have HX := Lib.hid (HNO.out HAT.out)
          clear HNO HYES
          go_wp2_with fail
          go_ret
          exact ⟨by rw [HX.out]; rfl, hkr.trans hHeld⟩
      · obtain rfl : k = p.length := by omega
        have HX : Hid (sameP p q = true) := by unfold Hid; rw [HS.out, HA.out]
        go_wp2_with fail
        go_ret
        exact ⟨by rw [HX.out]; rfl, hkr⟩
  · have HX : Hid (sameP p q = false) := by unfold Hid sameP; rw [beq_false_of_ne hlen]; rfl
    have il : ((p.length : Int) != (q.length : Int)) = true := by simp; omega
    clear hlen
    go_enter Tryd.func14, Tryd.ntmps14
    go_wp2_with fail
    go_ret
    exact ⟨by rw [HX.out]; rfl, Kept.refl _ _⟩
set_option maxRecDepth 100000 in
set_option maxHeartbeats 4000000 in
theorem equalI_ct {w : World} {v v2 : Value} {p q : List InsE} (h : ProgAt w v p) (h2 : ProgAt w v2 q) :
    Calls Tryd.prog 60 #[v, v2] w fun e w' => e = .returned (.bool (sameP p q)) ∧ Kept (fun _ => False) w w' := by
  obtain ⟨a, c, rfl, hc, hm⟩ := h.slc
  obtain ⟨a2, c2, rfl, hc2, hm2⟩ := h2.slc
  simp only [maxLen] at hm hm2
  by_cases hlen : p.length = q.length
  · have hs : sameP p q = allTo (alikeAt p q) p.length := by unfold sameP; rw [beq_iff_eq.2 hlen]; rfl
    have HS := Lib.hid hs
    have HL := Lib.hid hlen
    have il : ((p.length : Int) != (q.length : Int)) = false := by rw [hlen]; simp
    clear hs hlen
    go_enter Tryd.func60, Tryd.ntmps60
    go_wp2_with fail
    go_loopg [13] p.length (fun gk i wr => ∃ k : Nat, gk = p.length - k ∧ k ≤ p.length ∧ i = .int .i64 k ∧ Hid (allTo (alikeAt p q) k = true) ∧ Kept (fun _ => False) w wr)
    case atStart => exact ⟨0, by omega, by omega, rfl, rfl, Kept.refl _ _⟩
    case round =>
      obtain ⟨k, rfl, hk, rfl, HA, hkr⟩ := hrel
      by_cases hlt : k < p.length
      · have hlq : k < q.length := by rw [← HL.out]; exact hlt
        have hf : p[k]? = some p[k] := List.getElem?_eq_getElem hlt
        have hf2 : q[k]? = some q[k] := List.getElem?_eq_getElem hlq
        generalize p[k] = x at hf
        generalize q[k] = y at hf2
        have hat : alikeAt p q k = eqI x y := by unfold alikeAt; rw [hf, hf2]
        obtain ⟨b, o, rfl, hb, hr⟩ := (h.1.kept hkr).elem (j := k) (xs := insC x) (by rw [List.getElem?_map, hf]; rfl)
        obtain ⟨b2, o2, rfl, hb2, hr2⟩ := (h2.1.kept hkr).elem (j := k) (xs := insC y) (by rw [List.getElem?_map, hf2]; rfl)
        have l1 := fun w' (z : Kept (fun _ => False) wr w') => load_ins (rangeAt_stay z hb not_false hr)
        have l2 := fun w' (z : Kept (fun _ => False) wr w') => load_ins (rangeAt_stay z hb2 not_false hr2)
        have ikq : (k : Int) < (q.length : Int) := by omega
        have HNO : Hid (alikeAt p q k = false → sameP p q = false) := fun e => by rw [HS.out, allTo_no e hlt]
        have HYES : Hid (alikeAt p q k = true → allTo (alikeAt p q) (k + 1) = true) := fun e => by
          show (allTo (alikeAt p q) k && alikeAt p q k) = true
          rw [HA.out, e]; rfl
        have HAT := Lib.hid hat
        clear hat hf hf2 hr hr2
        have nq := fun w' => neq_ins x y w'
        generalize eqI x y = eb at nq HAT
        go_wp2_with fail
        refine wp_region_held_drew (S := (Kept (fun _ => False) wr)) (by kernel_rfl) ((Kept.refl _ wr).drew) (fun hHeld => ?_)
        refine held_q (v := ?_) (i := 0) rfl (by kernel_rfl) (by kernel_rfl) (by kernel_rfl) (fun _ _ _ h => h) (by rfl) hHeld ?_ ?_
        rotate_left
        · (intro w' hS'; go_simp <;> (with_reducible rfl))
        simp only [Act.put, List.getElem_toArray, List.getElem_cons_zero, List.getElem_cons_succ, List.setIfInBounds_toArray, List.set_cons_zero, List.set_cons_succ]
        refine held_q (v := ?_) (i := 1) rfl (by kernel_rfl) (by kernel_rfl) (by kernel_rfl) (fun _ _ _ h => h) (by rfl) hHeld ?_ ?_
        rotate_left
        · (intro w' hS'; go_simp <;> (with_reducible rfl))
        simp only [Act.put, List.getElem_toArray, List.getElem_cons_zero, List.getElem_cons_succ, List.setIfInBounds_toArray, List.set_cons_zero, List.set_cons_succ]
        refine held_q (v := ?_) (i := 2) rfl (by kernel_rfl) (by kernel_rfl) (by kernel_rfl) (fun _ _ _ h => h) (by rfl) hHeld ?_ ?_
        rotate_left
        · (intro w' hS'; go_simp <;> (with_reducible rfl))
        simp only [Act.put, List.getElem_toArray, List.getElem_cons_zero, List.getElem_cons_succ, List.setIfInBounds_toArray, List.set_cons_zero, List.set_cons_succ]
        refine held_q (i := 3) rfl (by kernel_rfl) (by kernel_rfl) (by kernel_rfl) (fun _ _ _ h => h) (by rfl) hHeld (fun w' hS' => exec_load 48 _ rfl rfl (l1 w' hS')) ?_
        simp only [Act.put, List.getElem_toArray, List.getElem_cons_zero, List.getElem_cons_succ, List.setIfInBounds_toArray, List.set_cons_zero, List.set_cons_succ]
        refine held_q (v := ?_) (i := 4) rfl (by kernel_rfl) (by kernel_rfl) (by kernel_rfl) (fun _ _ _ h => h) (by rfl) hHeld ?_ ?_
        rotate_left
        · (intro w' hS'; go_simp <;> (with_reducible rfl))
        simp only [Act.put, List.getElem_toArray, List.getElem_cons_zero, List.getElem_cons_succ, List.setIfInBounds_toArray, List.set_cons_zero, List.set_cons_succ]
        refine held_q (v := ?_) (i := 5) rfl (by kernel_rfl) (by kernel_rfl) (by kernel_rfl) (fun _ _ _ h => h) (by rfl) hHeld ?_ ?_
        rotate_left
        · (intro w' hS'; go_simp <;> (with_reducible rfl))
        simp only [Act.put, List.getElem_toArray, List.getElem_cons_zero, List.getElem_cons_succ, List.setIfInBounds_toArray, List.set_cons_zero, List.set_cons_succ]
        refine held_q (v := ?_) (i := 6) rfl (by kernel_rfl) (by kernel_rfl) (by kernel_rfl) (fun _ _ _ h => h) (by rfl) hHeld ?_ ?_
        rotate_left
        · (intro w' hS'; go_simp <;> (with_reducible rfl))
        simp only [Act.put, List.getElem_toArray, List.getElem_cons_zero, List.getElem_cons_succ, List.setIfInBounds_toArray, List.set_cons_zero, List.set_cons_succ]
        refine held_q (i := 7) rfl (by kernel_rfl) (by kernel_rfl) (by kernel_rfl) (fun _ _ _ h => h) (by rfl) hHeld (fun w' hS' => exec_load 48 _ rfl rfl (l2 w' hS')) ?_
        simp only [Act.put, List.getElem_toArray, List.getElem_cons_zero, List.getElem_cons_succ, List.setIfInBounds_toArray, List.set_cons_zero, List.set_cons_succ]
        refine held_q (i := 8) rfl (by kernel_rfl) (by kernel_rfl) (by kernel_rfl) (fun _ _ _ h => h) (by rfl) hHeld (fun w' hS' => exec_bin .neq _ _ _ _ rfl rfl rfl (by kernel_rfl) (nq w')) ?_
        simp only [Act.put, List.getElem_toArray, List.getElem_cons_zero, List.getElem_cons_succ, List.setIfInBounds_toArray, List.set_cons_zero, List.set_cons_succ]
        refine wpAnyH_done (by kernel_rfl) ?_ _
        clear nq
        cases eb with
        | true =>
          have HT := Lib.hid (HYES.out HAT.out)
          clear HNO HYES
          go_wp2_with fail
          go_roundg (p.length - (k + 1))
          case rel => exact ⟨k + 1, rfl, by omega, by go_num, HT.out, hkr.trans hHeld⟩
          case measure => omega
        | false =>
          have HX := Lib.hid (HNO.out HAT.out)
          clear HNO HYES
          go_wp2_with fail
          go_ret
          exact ⟨by rw [HX.out]; rfl, hkr.trans hHeld⟩
      · obtain rfl : k = p.length := by omega
        have HX : Hid (sameP p q = true) := by unfold Hid; rw [HS.out, HA.out]
        go_wp2_with fail
        go_ret
        exact ⟨by rw [HX.out]; rfl, hkr⟩
  · have HX : Hid (sameP p q = false) := by unfold Hid sameP; rw [beq_false_of_ne hlen]; rfl
    have il : ((p.length : Int) != (q.length : Int)) = true := by simp; omega
    clear hlen
    go_enter Tryd.func60, Tryd.ntmps60
    go_wp2_with fail
    go_ret
    exact ⟨by rw [HX.out]; rfl, Kept.refl _ _⟩
theorem psame_ct {w : World} {v v2 : Value} {p q : List InsE} (h : ProgAt w v p) (h2 : ProgAt w v2 q) :
    Calls Tryd.prog 33 #[v, v2] w fun e w' => e = .returned (.bool (sameP p q)) ∧ Kept (fun _ => False) w w' := by
  have ec := equalI_ct h h2
  obtain ⟨a, c, rfl, hc, hm⟩ := h.slc
  obtain ⟨a2, c2, rfl, hc2, hm2⟩ := h2.slc
  go_enter Tryd.func33, Tryd.ntmps33
  go_wp2_with fail
  refine ec.mono ?_
  rintro e W ⟨rfl, k1⟩
  clear ec
  go_wp2_with fail
  go_ret
  exact ⟨rfl, k1⟩

/- Actions alike or not. -/

theorem sameB_len {l m : List FileE} (h : l.length ≠ m.length) : sameB l m = false := by
  unfold sameB
  rw [beq_false_of_ne h]; rfl
set_option maxRecDepth 100000 in
theorem same_any {w : World} {va vb : Value} {la lb : List FileE} (ha : TreeAt w va la) (hb : TreeAt w vb lb) (hl : la.length ≤ 100000) :
    Calls Tryd.prog 18 #[va, vb] w fun e w' => e = .returned (.bool (sameB la lb)) ∧ Kept (fun _ => False) w w' := by
  by_cases hn : la.length = lb.length
  · exact same_ct ha hb hl (by omega)
  · have HX := Lib.hid (sameB_len hn)
    obtain ⟨a, c, rfl⟩ := ha.slc
    obtain ⟨a2, c2, rfl⟩ := hb.slc
    have il : ((la.length : Int) != (lb.length : Int)) = true := by simp; omega
    clear hn
    go_enter Tryd.func18, Tryd.ntmps18
    go_wp2
    all_goals
      go_ret
      exact ⟨by rw [HX.out]; rfl, Kept.refl _ _⟩
def actC (vp vt : Value) (f : Int) : Array Value := #[vp, vt, .int .i64 f]
set_option maxRecDepth 100000 in
set_option maxHeartbeats 4000000 in
theorem plsame_ct {w : World} {vp vq vt vu : Value} {p q : List InsE} {l m : List FileE} {f g : Int} (hp : ProgAt w vp p) (hq : ProgAt w vq q) (ht : TreeAt w vt l) (hu : TreeAt w vu m) (hl : l.length ≤ 100000) :
    Calls Tryd.prog 16 #[.agg (actC vp vt f), .agg (actC vq vu g)] w fun e w' => e = .returned (.bool (sameP p q && sameB l m && (f == g))) ∧ Kept (fun _ => False) w w' := by
  obtain ⟨a1, c1, rfl, _⟩ := hp.slc
  obtain ⟨a2, c2, rfl, _⟩ := hq.slc
  obtain ⟨a3, c3, rfl⟩ := ht.slc
  obtain ⟨a4, c4, rfl⟩ := hu.slc
  unfold actC
  have k1 : Kept (fun _ => False) w (w.alloc (.cells #[.slice a1 p.length c1, .slice a3 l.length c3, .int .i64 f] 39)) := (Kept.refl _ w).alloc _
  have h1 := heap_last w (.cells #[.slice a1 p.length c1, .slice a3 l.length c3, .int .i64 f] 39)
  go_enter Tryd.func16, Tryd.ntmps16
  go_upto_region 1 with fail
  have k2 : Kept (fun _ => False) (w.alloc (.cells #[.slice a1 p.length c1, .slice a3 l.length c3, .int .i64 f] 39)) ((w.alloc (.cells #[.slice a1 p.length c1, .slice a3 l.length c3, .int .i64 f] 39)).alloc (.cells #[.slice a2 q.length c2, .slice a4 m.length c4, .int .i64 g] 39)) := (Kept.refl _ _).alloc _
  have h2 := heap_last (w.alloc (.cells #[.slice a1 p.length c1, .slice a3 l.length c3, .int .i64 f] 39)) (.cells #[.slice a2 q.length c2, .slice a4 m.length c4, .int .i64 g] 39)
  have hsz : (w.alloc (.cells #[.slice a1 p.length c1, .slice a3 l.length c3, .int .i64 f] 39)).heap.size = w.heap.size + 1 := by simp
  have K := k1.trans k2
  have h1' : ((w.alloc (.cells #[.slice a1 p.length c1, .slice a3 l.length c3, .int .i64 f] 39)).alloc (.cells #[.slice a2 q.length c2, .slice a4 m.length c4, .int .i64 g] 39)).heap[w.heap.size]? = some (.cells #[.slice a1 p.length c1, .slice a3 l.length c3, .int .i64 f] 39) := by rw [k2.block _ (by omega) not_false]; exact h1
  rw [hsz] at h2
  clear hsz h1 k1 k2
  generalize (w.alloc (.cells #[.slice a1 p.length c1, .slice a3 l.length c3, .int .i64 f] 39)).alloc (.cells #[.slice a2 q.length c2, .slice a4 m.length c4, .int .i64 g] 39) = W at h1' h2 K ⊢
  generalize w.heap.size = B at h1' h2 ⊢
  have z1 := (Array.getElem?_eq_some_iff.1 h1').1
  have z2 := (Array.getElem?_eq_some_iff.1 h2).1
  have cA : ∀ w', Kept (fun _ => False) W w' → ∀ (j : Nat), w'.cell? ⟨B, j, none⟩ = #[Value.slice a1 p.length c1, .slice a3 l.length c3, .int .i64 f][j]? := fun w' z j => by rw [z.cell (p := ⟨B, j, none⟩) z1 not_false, cell_of_row _ _ _ _ _ _ h1']
  have cB : ∀ w', Kept (fun _ => False) W w' → ∀ (j : Nat), w'.cell? ⟨B + 1, j, none⟩ = #[Value.slice a2 q.length c2, .slice a4 m.length c4, .int .i64 g][j]? := fun w' z j => by rw [z.cell (p := ⟨B + 1, j, none⟩) z2 not_false, cell_of_row _ _ _ _ _ _ h2]
  have HA := Lib.hid (And.intro cA cB)
  have e0 : W.cell? ⟨B, 0, none⟩ = some (.slice a1 p.length c1) := cA W (Kept.refl _ _) 0
  have e1 : W.cell? ⟨B + 1, 0, none⟩ = some (.slice a2 q.length c2) := cB W (Kept.refl _ _) 0
  clear cA cB h1' h2 z1 z2
  have pc := psame_ct (hp.kept K) (hq.kept K)
  generalize hpb : sameP p q = pb at pc
  have HPB := Lib.hid hpb
  clear hpb
  go_wp2_with fail
  refine pc.mono ?_
  rintro e W2 ⟨rfl, k2⟩
  have K2 := K.trans k2
  clear pc
  cases pb with
  | false =>
    go_wp2_with fail
    go_ret
    exact ⟨by rw [HPB.out]; rfl, K2⟩
  | true =>
    have e2 : W2.cell? ⟨B, 1, none⟩ = some (.slice a3 l.length c3) := HA.out.1 W2 k2 1
    have e3 : W2.cell? ⟨B + 1, 1, none⟩ = some (.slice a4 m.length c4) := HA.out.2 W2 k2 1
    have tc := same_any (ht.kept K2) (hu.kept K2) hl
    generalize htb : sameB l m = tb at tc
    have HTB := Lib.hid htb
    clear htb
    go_wp2_with fail
    refine tc.mono ?_
    rintro e W3 ⟨rfl, k3⟩
    have K3 := K2.trans k3
    clear tc
    cases tb with
    | false =>
      go_wp2_with fail
      go_ret
      exact ⟨by rw [HPB.out, HTB.out]; rfl, K3⟩
    | true =>
      have e4 : W3.cell? ⟨B, 2, none⟩ = some (.int .i64 f) := HA.out.1 W3 (k2.trans k3) 2
      have e5 : W3.cell? ⟨B + 1, 2, none⟩ = some (.int .i64 g) := HA.out.2 W3 (k2.trans k3) 2
      go_wp2_with fail
      go_ret
      exact ⟨by rw [HPB.out, HTB.out]; rfl, K3⟩
set_option maxRecDepth 100000 in
set_option maxHeartbeats 4000000 in
theorem rsame16_ct {w : World} {vp vq vt vu : Value} {p q : List InsE} {l m : List FileE} {f g : Int} (hp : ProgAt w vp p) (hq : ProgAt w vq q) (ht : TreeAt w vt l) (hu : TreeAt w vu m) :
    Calls Tryd.prog 15 #[.agg (actC vp vt f), .agg (actC vq vu g)] w fun e w' => e = .returned (.bool (sameP p q && sameB l m && (f == g))) ∧ Kept (fun _ => False) w w' := by
  obtain ⟨a1, c1, rfl, _⟩ := hp.slc
  obtain ⟨a2, c2, rfl, _⟩ := hq.slc
  obtain ⟨a3, c3, rfl⟩ := ht.slc
  obtain ⟨a4, c4, rfl⟩ := hu.slc
  unfold actC
  have k1 : Kept (fun _ => False) w (w.alloc (.cells #[.slice a1 p.length c1, .slice a3 l.length c3, .int .i64 f] 39)) := (Kept.refl _ w).alloc _
  have h1 := heap_last w (.cells #[.slice a1 p.length c1, .slice a3 l.length c3, .int .i64 f] 39)
  go_enter Tryd.func15, Tryd.ntmps15
  go_upto_region 1 with fail
  have k2 : Kept (fun _ => False) (w.alloc (.cells #[.slice a1 p.length c1, .slice a3 l.length c3, .int .i64 f] 39)) ((w.alloc (.cells #[.slice a1 p.length c1, .slice a3 l.length c3, .int .i64 f] 39)).alloc (.cells #[.slice a2 q.length c2, .slice a4 m.length c4, .int .i64 g] 39)) := (Kept.refl _ _).alloc _
  have h2 := heap_last (w.alloc (.cells #[.slice a1 p.length c1, .slice a3 l.length c3, .int .i64 f] 39)) (.cells #[.slice a2 q.length c2, .slice a4 m.length c4, .int .i64 g] 39)
  have hsz : (w.alloc (.cells #[.slice a1 p.length c1, .slice a3 l.length c3, .int .i64 f] 39)).heap.size = w.heap.size + 1 := by simp
  have K := k1.trans k2
  have h1' : ((w.alloc (.cells #[.slice a1 p.length c1, .slice a3 l.length c3, .int .i64 f] 39)).alloc (.cells #[.slice a2 q.length c2, .slice a4 m.length c4, .int .i64 g] 39)).heap[w.heap.size]? = some (.cells #[.slice a1 p.length c1, .slice a3 l.length c3, .int .i64 f] 39) := by rw [k2.block _ (by omega) not_false]; exact h1
  rw [hsz] at h2
  clear hsz h1 k1 k2
  generalize (w.alloc (.cells #[.slice a1 p.length c1, .slice a3 l.length c3, .int .i64 f] 39)).alloc (.cells #[.slice a2 q.length c2, .slice a4 m.length c4, .int .i64 g] 39) = W at h1' h2 K ⊢
  generalize w.heap.size = B at h1' h2 ⊢
  have z1 := (Array.getElem?_eq_some_iff.1 h1').1
  have z2 := (Array.getElem?_eq_some_iff.1 h2).1
  have cA : ∀ w', Kept (fun _ => False) W w' → ∀ (j : Nat), w'.cell? ⟨B, j, none⟩ = #[Value.slice a1 p.length c1, .slice a3 l.length c3, .int .i64 f][j]? := fun w' z j => by rw [z.cell (p := ⟨B, j, none⟩) z1 not_false, cell_of_row _ _ _ _ _ _ h1']
  have cB : ∀ w', Kept (fun _ => False) W w' → ∀ (j : Nat), w'.cell? ⟨B + 1, j, none⟩ = #[Value.slice a2 q.length c2, .slice a4 m.length c4, .int .i64 g][j]? := fun w' z j => by rw [z.cell (p := ⟨B + 1, j, none⟩) z2 not_false, cell_of_row _ _ _ _ _ _ h2]
  have HA := Lib.hid (And.intro cA cB)
  have e0 : W.cell? ⟨B, 0, none⟩ = some (.slice a1 p.length c1) := cA W (Kept.refl _ _) 0
  have e1 : W.cell? ⟨B + 1, 0, none⟩ = some (.slice a2 q.length c2) := cB W (Kept.refl _ _) 0
  clear cA cB h1' h2 z1 z2
  have pc := rsameP_ct (hp.kept K) (hq.kept K)
  generalize hpb : sameP p q = pb at pc
  have HPB := Lib.hid hpb
  clear hpb
  go_wp2_with fail
  refine pc.mono ?_
  rintro e W2 ⟨rfl, k2⟩
  have K2 := K.trans k2
  clear pc
  cases pb with
  | false =>
    go_wp2_with fail
    go_ret
    exact ⟨by rw [HPB.out]; rfl, K2⟩
  | true =>
    have e2 : W2.cell? ⟨B, 1, none⟩ = some (.slice a3 l.length c3) := HA.out.1 W2 k2 1
    have e3 : W2.cell? ⟨B + 1, 1, none⟩ = some (.slice a4 m.length c4) := HA.out.2 W2 k2 1
    have tc := rSame_ct (ht.kept K2) (hu.kept K2)
    generalize htb : sameB l m = tb at tc
    have HTB := Lib.hid htb
    clear htb
    go_wp2_with fail
    refine tc.mono ?_
    rintro e W3 ⟨rfl, k3⟩
    have K3 := K2.trans k3
    clear tc
    cases tb with
    | false =>
      go_wp2_with fail
      go_ret
      exact ⟨by rw [HPB.out, HTB.out]; rfl, K3⟩
    | true =>
      have e4 : W3.cell? ⟨B, 2, none⟩ = some (.int .i64 f) := HA.out.1 W3 (k2.trans k3) 2
      have e5 : W3.cell? ⟨B + 1, 2, none⟩ = some (.int .i64 g) := HA.out.2 W3 (k2.trans k3) 2
      go_wp2_with fail
      go_ret
      exact ⟨by rw [HPB.out, HTB.out]; rfl, K3⟩

/- plan.Action. -/

theorem rangeAt_S {S : Nat → Prop} {w w' : World} {b o : Nat} {xs : List Value} (hk : Kept S w w') (hb : b < w.heap.size) (hS : ¬ S b) (h : w.rangeAt b o xs) : w'.rangeAt b o xs := fun j v hv => (hk.cell (p := ⟨b, o + j, none⟩) hb hS).trans (h j v hv)
theorem row_lowI {w : World} {base b2 : Nat} {t : TypeId} {z : Nat} {v : Value} {n : Nat} {xs : List Value} (h : w.ownsRow base t z v n xs) (hb : b2 ≤ base) : w.ownsRow b2 t z v n xs := by
  refine ⟨h.1, ?_⟩
  rcases h.2 with h0 | ⟨g, cap, cur, e, hg, r⟩
  · exact .inl h0
  · exact .inr ⟨g, cap, cur, e, Nat.le_trans hb hg, r⟩
theorem by_S {S : Nat → Prop} {w w' : World} {base m : Nat} {x : Value} {l : List UInt8} (h : OwnBy base w x m) (ht : ByAt w x l) (hk : Kept S w w') (hS : ∀ k c, base ≤ k → w.heap[k]? = some (.cells c 5 (0, 0)) → ¬ S k) : ByAt w' x l := by
  obtain ⟨ys, ho⟩ := h
  obtain ⟨a, cap, rfl, h2, h3⟩ := ht
  refine ⟨a, cap, rfl, h2, fun hne => ?_⟩
  obtain ⟨b, o, rfl, hb, hr⟩ := h3 hne
  obtain ⟨hbase, c, hc⟩ := own_type ho rfl
  exact ⟨b, o, rfl, Nat.lt_of_lt_of_le hb hk.size, rangeAt_S hk hb (hS b c hbase hc) hr⟩
theorem prs_snd : ∀ {ps : List (ByteArray × Value)} {j : Nat} {p : ByteArray × Value}, ps[j]? = some p → (prs ps)[j * 2 + 1]? = some p.2
  | [], j, p, h => by simp at h
  | q :: ps, 0, p, h => by
    simp only [List.getElem?_cons_zero, Option.some.injEq] at h
    subst h
    rfl
  | q :: ps, j + 1, p, h => by
    simp only [List.getElem?_cons_succ] at h
    have := prs_snd h
    rw [show (j + 1) * 2 + 1 = (j * 2 + 1) + 1 + 1 by omega]
    exact this
/-- A tree of the call's own stays where blocks of other kinds, or older ones, turn. -/
theorem tree_S {S : Nat → Prop} {w w' : World} {base n : Nat} {v : Value} {l : List FileE} (h : OwnT base w v n) (hn : n = l.length) (ht : TreeAt w v l) (hk : Kept S w w') (hS : ∀ k c, base ≤ k → w.heap[k]? = some (.cells c 5 (0, 0)) ∨ w.heap[k]? = some (.cells c 46 (0, 0)) → ¬ S k) : TreeAt w' v l := by
  subst hn
  obtain ⟨ps, hl, ho, hp⟩ := h
  obtain ⟨a, cap, rfl, h2, h3⟩ := ht
  refine ⟨a, cap, rfl, h2, fun hne => ?_⟩
  obtain ⟨b, o, rfl, hb, hr⟩ := h3 hne
  obtain ⟨hbase, cc, hcc⟩ := own_type ho rfl
  have hnS : ¬ S b := hS b cc hbase (.inr hcc)
  refine ⟨b, o, rfl, Nat.lt_of_lt_of_le hb hk.size, fun j f hf => ?_⟩
  obtain ⟨hs, x, hx, hby⟩ := hr j f hf
  refine ⟨hs, x, rangeAt_S hk hb hnS hx, ?_⟩
  have hjl : j < ps.length := by have := (List.getElem?_eq_some_iff.1 hf).1; omega
  have hpj := List.getElem?_eq_getElem hjl
  have hsn := prs_snd hpj
  rcases ho.2 with ⟨e, _⟩ | ⟨g, cap', cur, e, _, hg, h1, hc, q3⟩
  · injection e with e; cases e
  · injection e with e1 _ e2
    injection e1 with e1
    injection e1 with e1 eo _
    subst e1; subst eo
    have hcx := hx 1 x rfl
    rw [cell_of_row _ _ _ _ _ _ hg] at hcx
    rw [← q3.2] at hsn
    have hlt := (List.getElem?_eq_some_iff.1 hsn).1
    rw [List.length_take] at hlt
    rw [List.getElem?_take_of_lt (by omega)] at hsn
    have : x = (ps[j]).2 := by
      have e : cur[j * 2 + 1]? = some (ps[j]).2 := by simpa using hsn
      rw [show 0 + j * 2 + 1 = j * 2 + 1 by omega, e] at hcx
      injection hcx with hcx
      exact hcx.symm
    rw [this] at hby ⊢
    obtain ⟨m, hob⟩ := hp _ (List.getElem_mem hjl)
    exact by_S hob hby hk (fun k c h1 h2 => hS k c h1 (.inl h2))
def ActOut (base : Nat) (x : TgtE) (ls : List FileE) (ts : List (List FileE)) (w : World) (e : Ending) : Prop :=
  (okI x ls ts = false ∧ e = .returned (.tuple #[.agg (actC (.slice none 0 0) (.slice none 0 0) 0), .int .i64 2])) ∨
  (okI x ls ts = true ∧ ((insO ls (depsZ x ts) = none ∧ e = .returned (.tuple #[.agg (actC (.slice none 0 0) (.slice none 0 0) 0), .int .i64 8])) ∨
    ∃ o vp' vt', insO ls (depsZ x ts) = some o ∧ e = .returned (.tuple #[.agg (actC vp' vt' x.fuel), .int .i64 0]) ∧ OwnI base w vp' x.prog ∧ TreeAt w vt' o))
theorem results_cell2 {P : Program} {fn : Func} {p u : Tmp} {ty : TypeId} (h : fn.results = #[.cell p ty, .tmp u]) (tmps : Array Value) (w : World) {g : Nat} {t : TypeId} {cs : Array Value} {fr : Nat × Nat} {d : TypeDesc}
    (hp : tmps.getD p undef = .pointer (some ⟨g, 0, none⟩)) (hg : w.heap[g]? = some (.cells cs t fr))
    (hu : P.underlying ty = some d) (hd : (match d with | .struct _ | .array _ _ => true | _ => false) = true) (hi : (P.info? ty).map (·.size) = some cs.size) :
    (results fn tmps).run P w = .ok (.tuple #[.agg cs, tmps.getD u undef]) w := by
  rw [results_cell_tmp h, hp]
  simp [asAddr, run_loadVar_row w g t ty cs fr d hg hu hd hi, Result.andThen]
theorem bd_a0 (w : World) : (Instr.build 39 #[]).run Tryd.prog w = .ok (.agg #[.slice none 0 0, .slice none 0 0, .int .i64 0]) w := by kernel_rfl
theorem bd_a (a1 a2 : Option Addr) (n1 c1 n2 c2 : Nat) (f : Int) (w : World) : (Instr.build 39 #[(0, .slice a1 n1 c1), (1, .slice a2 n2 c2), (2, .int .i64 f)]).run Tryd.prog w = .ok (.agg #[.slice a1 n1 c1, .slice a2 n2 c2, .int .i64 f]) w := by kernel_rfl

theorem zero_a (w : World) : (zeroValue 39).run Tryd.prog w = .ok (.agg #[.slice none 0 0, .slice none 0 0, .int .i64 0]) w := by kernel_rfl
set_option maxRecDepth 100000 in
set_option maxHeartbeats 8000000 in
theorem action_ct {w : World} (hT : FldTab w) {x : TgtE} {vd vp vs vo : Value} {ls : List FileE} {ts : List (List FileE)} (h : TgtAt w x vd vp) (hs : TreeAt w vs ls) (ho : TreesAt w vo ts) :
    Calls Tryd.prog 13 #[.agg (tgtC x vd vp), vs, vo] w fun e w' => ActOut w.heap.size x ls ts w' e ∧ Kept (fun _ => False) w w' := by
  obtain ⟨a1, c1, a2, c2, rfl, rfl, hc1, hc2, hm1⟩ := h.words
  obtain ⟨a3, c3, rfl⟩ := hs.slc
  obtain ⟨a4, c4, rfl, hc4, hm4⟩ := ho.slc
  simp only [maxLen] at hm1 hm4
  unfold tgtC
  have k1 : Kept (fun _ => False) w (w.alloc (.cells #[.string x.name, .slice a1 x.deps.length c1, .int .i64 x.fuel, .slice a2 x.prog.length c2] 25)) := (Kept.refl _ w).alloc _
  have hb0 := heap_last w (.cells #[.string x.name, .slice a1 x.deps.length c1, .int .i64 x.fuel, .slice a2 x.prog.length c2] 25)
  have za := zero_a
  go_enter Tryd.func13, Tryd.ntmps13
  go_upto_region 1 with (first
    | (with_reducible refine wpl_alloc 39 rfl rfl (za _) ?_
       simp only [World.size_alloc, Act.put, List.getElem_toArray, List.getElem_cons_zero, List.getElem_cons_succ, List.setIfInBounds_toArray, List.set_cons_zero, List.set_cons_succ]))
  have k2 : Kept (fun _ => False) (w.alloc (.cells #[.string x.name, .slice a1 x.deps.length c1, .int .i64 x.fuel, .slice a2 x.prog.length c2] 25)) ((w.alloc (.cells #[.string x.name, .slice a1 x.deps.length c1, .int .i64 x.fuel, .slice a2 x.prog.length c2] 25)).alloc (.cells #[.slice none 0 0, .slice none 0 0, .int .i64 0] 39)) := (Kept.refl _ _).alloc _
  have hr0 := heap_last (w.alloc (.cells #[.string x.name, .slice a1 x.deps.length c1, .int .i64 x.fuel, .slice a2 x.prog.length c2] 25)) (.cells #[.slice none 0 0, .slice none 0 0, .int .i64 0] 39)
  have hsz : (w.alloc (.cells #[.string x.name, .slice a1 x.deps.length c1, .int .i64 x.fuel, .slice a2 x.prog.length c2] 25)).heap.size = w.heap.size + 1 := by simp
  have hz1 := (Array.getElem?_eq_some_iff.1 hb0).1
  have hb1 : ((w.alloc (.cells #[.string x.name, .slice a1 x.deps.length c1, .int .i64 x.fuel, .slice a2 x.prog.length c2] 25)).alloc (.cells #[.slice none 0 0, .slice none 0 0, .int .i64 0] 39)).heap[w.heap.size]? = some (.cells #[.string x.name, .slice a1 x.deps.length c1, .int .i64 x.fuel, .slice a2 x.prog.length c2] 25) := by rw [k2.block _ hz1 not_false]; exact hb0
  have K := k1.trans k2
  rw [hsz] at hr0
  clear hb0 k1 k2 hsz hz1 za
  generalize (w.alloc (.cells #[.string x.name, .slice a1 x.deps.length c1, .int .i64 x.fuel, .slice a2 x.prog.length c2] 25)).alloc (.cells #[.slice none 0 0, .slice none 0 0, .int .i64 0] 39) = W at hb1 hr0 K ⊢
  generalize hBe : w.heap.size = B at hb1 hr0 ⊢
  have HBE := Lib.hid hBe
  clear hBe
  have zB := (Array.getElem?_eq_some_iff.1 hb1).1
  have zR := (Array.getElem?_eq_some_iff.1 hr0).1
  have ld1 : (Instr.loadAt 25 (.pointer (some ⟨B, 0, none⟩))).run Tryd.prog W = .ok (.agg #[.string x.name, .slice a1 x.deps.length c1, .int .i64 x.fuel, .slice a2 x.prog.length c2]) W := load_row Tryd.underlying25 rfl hb1 (by kernel_rfl)
  have ic := inputs_ctS (hT.kept K) (h.kept K) (hs.kept K) (ho.kept K)
  unfold tgtC at ic
  go_wp2_with (first
    | (with_reducible refine wpl_load 25 _ rfl rfl ?_ ld1 ?_
       · rfl
       simp only [Act.put, List.getElem_toArray, List.getElem_cons_zero, List.getElem_cons_succ, List.setIfInBounds_toArray, List.set_cons_zero, List.set_cons_succ]))
  refine ic.mono ?_
  rintro e W3 ⟨hi, k3⟩
  have K3 := K.trans k3
  have hR3 : W3.heap[B + 1]? = some (.cells #[.slice none 0 0, .slice none 0 0, .int .i64 0] 39) := by rw [k3.block _ zR not_false]; exact hr0
  have hB3 : W3.heap[B]? = some (.cells #[.string x.name, .slice a1 x.deps.length c1, .int .i64 x.fuel, .slice a2 x.prog.length c2] 25) := by rw [k3.block _ zB not_false]; exact hb1
  have zB3 := (Array.getElem?_eq_some_iff.1 hB3).1
  have zR3 := (Array.getElem?_eq_some_iff.1 hR3).1
  clear ic ld1 hb1 hr0 zB
  have b0 := bd_a0 W3
  have st0 := store_row (P := Tryd.prog) (ty := 39) (c' := #[.slice none 0 0, .slice none 0 0, .int .i64 0]) hR3 (by kernel_rfl) rfl (by simp [Value.oneCell'])
  have kst : Kept (fun _ => False) w (W3.setRow (B + 1) #[.slice none 0 0, .slice none 0 0, .int .i64 0]) := K3.setRow (fun q => by have := HBE.out; omega) _
  have hst := setRow_heap W3 (B + 1) #[.slice none 0 0, .slice none 0 0, .int .i64 0] #[.slice none 0 0, .slice none 0 0, .int .i64 0] _ _ hR3
  rcases hi with ⟨hok, rfl⟩ | ⟨hok, ⟨hn, rfl⟩ | ⟨o, v', hio, rfl, hto, ho5⟩⟩
  · have HO := Lib.hid hok
    clear hok
    go_wp2_with (first
      | (with_reducible refine wpl_build 39 _ rfl rfl ?_ b0 ?_
         · (go_simp <;> rfl)
         simp only [Act.put, List.getElem_toArray, List.getElem_cons_zero, List.getElem_cons_succ, List.setIfInBounds_toArray, List.set_cons_zero, List.set_cons_succ])
      | (with_reducible refine wpl_store 39 _ _ rfl rfl ?_ ?_ st0 ?_
         · rfl
         · rfl
         simp only [Act.put, List.getElem_toArray, List.getElem_cons_zero, List.getElem_cons_succ, List.setIfInBounds_toArray, List.set_cons_zero, List.set_cons_succ]))
    refine bodyPost_ret (results_cell2 rfl _ _ (by rfl) hst Tryd.underlying39 rfl (by kernel_rfl)) rfl ?_
    exact ⟨.inl ⟨HO.out, rfl⟩, kst⟩
  · have HO := Lib.hid (And.intro hok hn)
    clear hok hn
    go_wp2_with (first
      | (with_reducible refine wpl_build 39 _ rfl rfl ?_ b0 ?_
         · (go_simp <;> rfl)
         simp only [Act.put, List.getElem_toArray, List.getElem_cons_zero, List.getElem_cons_succ, List.setIfInBounds_toArray, List.set_cons_zero, List.set_cons_succ])
      | (with_reducible refine wpl_store 39 _ _ rfl rfl ?_ ?_ st0 ?_
         · rfl
         · rfl
         simp only [Act.put, List.getElem_toArray, List.getElem_cons_zero, List.getElem_cons_succ, List.setIfInBounds_toArray, List.set_cons_zero, List.set_cons_succ]))
    refine bodyPost_ret (results_cell2 rfl _ _ (by rfl) hst Tryd.underlying39 rfl (by kernel_rfl)) rfl ?_
    exact ⟨.inr ⟨HO.out.1, .inl ⟨HO.out.2, rfl⟩⟩, kst⟩
  · obtain ⟨a5, c5, rfl⟩ := hto.slc
    have HO := Lib.hid (And.intro hok hio)
    have hp30 : x.prog.length ≤ 1000 := by
      unfold okI mayT bodyB at hok
      simp only [Bool.and_eq_true] at hok
      have := hok.1.1.1.2.2
      rw [progB_eq, Bool.and_eq_true, decide_eq_true_eq] at this
      omega
    have cI : ∀ w', Kept (fun i => i = B + 1) W3 w' → ∀ (j : Nat), w'.cell? ⟨B, j, none⟩ = #[Value.string x.name, .slice a1 x.deps.length c1, .int .i64 x.fuel, .slice a2 x.prog.length c2][j]? := fun w' q j => by rw [q.cell (p := ⟨B, j, none⟩) zB3 (fun e => by have e : B = B + 1 := e; omega), cell_of_row _ _ _ _ _ _ hB3]
    have e3 : ∀ w', Kept (fun i => i = B + 1) W3 w' → w'.cell? ⟨B, 3, none⟩ = some (.slice a2 x.prog.length c2) := fun w' q => cI w' q 3
    have e2 : ∀ w', Kept (fun i => i = B + 1) W3 w' → w'.cell? ⟨B, 2, none⟩ = some (.int .i64 x.fuel) := fun w' q => cI w' q 2
    have cl := cloneI_ct ((h.prog.kept K3).kept ((Kept.refl (fun _ => False) W3).drew)) hp30
    clear hok hio cI b0 st0 hst kst
    go_wp2_with fail
    refine wp_region_held_drew (S := (Kept (fun i => i = B + 1) W3)) (by kernel_rfl) ((Kept.refl _ W3).drew) (fun hHeld => ?_)
    refine held_q (v := ?_) (i := 0) rfl (by kernel_rfl) (by kernel_rfl) (by kernel_rfl) (fun _ _ _ h => h) (by rfl) hHeld ?_ ?_
    rotate_left
    · (intro w' hS'; go_simp <;> (with_reducible rfl))
    simp only [Act.put, List.getElem_toArray, List.getElem_cons_zero, List.getElem_cons_succ, List.setIfInBounds_toArray, List.set_cons_zero, List.set_cons_succ]
    refine held_q (v := ?_) (i := 1) rfl (by kernel_rfl) (by kernel_rfl) (by kernel_rfl) (fun _ _ _ h => h) (by rfl) hHeld ?_ ?_
    rotate_left
    · (intro w' hS'; go_simp <;> (with_reducible rfl))
    simp only [Act.put, List.getElem_toArray, List.getElem_cons_zero, List.getElem_cons_succ, List.setIfInBounds_toArray, List.set_cons_zero, List.set_cons_succ]
    refine held_q (v := ?_) (i := 3) rfl (by kernel_rfl) (by kernel_rfl) (by kernel_rfl) (fun _ _ _ h => h) (by rfl) hHeld ?_ ?_
    rotate_left
    · (intro w' hS'; go_simp <;> (with_reducible rfl))
    simp only [Act.put, List.getElem_toArray, List.getElem_cons_zero, List.getElem_cons_succ, List.setIfInBounds_toArray, List.set_cons_zero, List.set_cons_succ]
    refine held_q (v := ?_) (i := 4) rfl (by kernel_rfl) (by kernel_rfl) (by kernel_rfl) (fun _ _ _ h => h) (by rfl) hHeld ?_ ?_
    rotate_left
    · (intro w' hS'; go_simp <;> (with_reducible rfl))
    simp only [Act.put, List.getElem_toArray, List.getElem_cons_zero, List.getElem_cons_succ, List.setIfInBounds_toArray, List.set_cons_zero, List.set_cons_succ]
    refine held_q (v := ?_) (i := 5) rfl (by kernel_rfl) (by kernel_rfl) (by kernel_rfl) (fun _ _ _ h => h) (by rfl) hHeld ?_ ?_
    rotate_left
    · (intro w' hS'; go_simp <;> (with_reducible rfl))
    simp only [Act.put, List.getElem_toArray, List.getElem_cons_zero, List.getElem_cons_succ, List.setIfInBounds_toArray, List.set_cons_zero, List.set_cons_succ]
    refine held_c (i := 2) (f := 32) (args := #[.slice a2 x.prog.length c2]) (by kernel_rfl) rfl (by rfl) ?_ cl ?_
    · (go_simp <;> rfl)
    rintro e W4 ⟨v4, rfl, ho4, k4⟩
    have hHeld := hHeld.trans (k4.mono (fun _ _ q => q.elim))
    have k34 : Kept (fun _ => False) W3 W4 := ((Kept.refl _ W3).drew).trans k4
    refine ⟨_, rfl, hHeld, ?_⟩
    simp only [Act.put, List.getElem_toArray, List.getElem_cons_zero, List.getElem_cons_succ, List.setIfInBounds_toArray, List.set_cons_zero, List.set_cons_succ]
    obtain ⟨a6, c6, rfl⟩ := row_form ho4.1
    have hR4 : W4.heap[B + 1]? = some (.cells #[.slice none 0 0, .slice none 0 0, .int .i64 0] 39) := by rw [k34.block _ zR3 not_false]; exact hR3
    have bd := fun w' => bd_a a6 a5 x.prog.length c6 o.length c5 x.fuel w'
    have st := store_row (P := Tryd.prog) (ty := 39) (c' := #[.slice a6 x.prog.length c6, .slice a5 o.length c5, .int .i64 x.fuel]) hR4 (by kernel_rfl) rfl (by simp [Value.oneCell'])
    refine held_q (i := 6) rfl (by kernel_rfl) (by kernel_rfl) (by kernel_rfl) (fun _ _ _ h => h) (by rfl) hHeld (fun w' hS' => exec_build 39 _ rfl (by go_simp <;> rfl) (bd w')) ?_
    simp only [Act.put, List.getElem_toArray, List.getElem_cons_zero, List.getElem_cons_succ, List.setIfInBounds_toArray, List.set_cons_zero, List.set_cons_succ]
    refine held_s (i := 7) (w1 := W4.setRow (B + 1) #[.slice a6 x.prog.length c6, .slice a5 o.length c5, .int .i64 x.fuel]) (by kernel_rfl) rfl (by rfl) ?_ ?_ (fun hHeld => ?_)
    · refine exec_store (p := .pointer (some ⟨B + 1, 0, none⟩)) (q := .agg #[.slice a6 x.prog.length c6, .slice a5 o.length c5, .int .i64 x.fuel]) 39 (.tmp 6) (.tmp 27) ?_ ?_ ?_ ?_
      · rfl
      · rfl
      · rfl
      · exact st
    · exact hHeld.setRow (fun _ => rfl) _
    simp only [Act.put, List.getElem_toArray, List.getElem_cons_zero, List.getElem_cons_succ, List.setIfInBounds_toArray, List.set_cons_zero, List.set_cons_succ]
    refine held_q (v := ?_) (i := 8) rfl (by kernel_rfl) (by kernel_rfl) (by kernel_rfl) (fun _ _ _ h => h) (by rfl) hHeld ?_ ?_
    rotate_left
    · (intro w' hS'; go_simp <;> (with_reducible rfl))
    simp only [Act.put, List.getElem_toArray, List.getElem_cons_zero, List.getElem_cons_succ, List.setIfInBounds_toArray, List.set_cons_zero, List.set_cons_succ]
    refine wpAnyH_done (by kernel_rfl) ?_ _
    have hst := setRow_heap W4 (B + 1) #[.slice none 0 0, .slice none 0 0, .int .i64 0] #[.slice a6 x.prog.length c6, .slice a5 o.length c5, .int .i64 x.fuel] _ _ hR4
    have kR : Kept (fun i => i = B + 1) W4 (W4.setRow (B + 1) #[.slice a6 x.prog.length c6, .slice a5 o.length c5, .int .i64 x.fuel]) := Kept.setRow (Kept.refl (fun i => i = B + 1) W4) (fun _ => rfl) _
    have kw : Kept (fun _ => False) w (W4.setRow (B + 1) #[.slice a6 x.prog.length c6, .slice a5 o.length c5, .int .i64 x.fuel]) := (K3.trans k34).setRow (fun q => by have := HBE.out; omega) _
    generalize W4.setRow (B + 1) #[.slice a6 x.prog.length c6, .slice a5 o.length c5, .int .i64 x.fuel] = W5 at hst kR kw hHeld ⊢
    go_wp2_with fail
    refine bodyPost_ret (results_cell2 rfl _ _ (by rfl) hst Tryd.underlying39 rfl (by kernel_rfl)) rfl ?_
    refine ⟨.inr ⟨HO.out.1, .inr ⟨o, _, _, HO.out.2, rfl, ?_, ?_⟩⟩, kw⟩
    · refine ⟨row_lowI (row_stay ho4.1 kR (fun i hi e => ?_)) ?_, ho4.2⟩
      · have := (own_type ho4.1 hi).1
        have hs : W3.drew.heap.size = W3.heap.size := rfl
        omega
      · have := K3.size
        exact this
    · exact tree_S ho5 rfl hto hHeld (fun k _ h1 _ e => by omega)

end Go.Proofs.YtfohljljoalmoaaDoor
