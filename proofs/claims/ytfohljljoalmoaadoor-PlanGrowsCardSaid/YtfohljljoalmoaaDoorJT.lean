/- The texts JB, JR, JL, JM, JS in one. -/
import Derived.Test.YtfohljljoalmoaaDoorJA
import Derived.Test.YtfohljljoalmoaaDoorWG
import Derived.Test.YtfohljljoalmoaaDoorJJ
import Derived.Test.YtfohljljoalmoaaDoorJE
import Derived.Test.YtfohljljoalmoaaDoorJG
import Derived.Test.YtfohljljoalmoaaDoorUH
import Derived.Test.YtfohljljoalmoaaDoorCards
import Derived.Test.YtfohljljoalmoaaDoorTie
import Derived.Deep.DeepHandedRow
import Derived.Lib.LaidU8
import Derived.Lib.LaidU8T
namespace Go.Proofs.YtfohljljoalmoaaDoor
/- A file more among the sources: plain. -/
open Go.RowKit
set_option maxRecDepth 100000
set_option linter.unusedSimpArgs false
set_option linter.unusedVariables false

def dropF (s : ByteArray) (l : List FileE) : List FileE := l.filter fun g => !eqB g.path s
theorem eqB_no {a b : ByteArray} (h : a ≠ b) : eqB a b = false := by rw [Bool.eq_false_iff]; exact fun e => h (eqB_iff.1 e)
theorem with_form {l : List FileE} (h : l.Pairwise ltF) (s : ByteArray) (b : List UInt8) : (withL l s b).Pairwise ltF ∧ (withL l s b).Perm (⟨s, b⟩ :: dropF s l) := by
  rw [← put_with h, put_form]
  show (l.takeWhile (fun g => ltB g.path s) ++ ⟨s, b⟩ :: (l.dropWhile fun g => ltB g.path s).filter (fun g => !eqB g.path s)).Pairwise ltF ∧ _
  constructor
  · rw [List.pairwise_append]
    refine ⟨strict_sub h (List.takeWhile_sublist _), List.pairwise_cons.2 ⟨fun g hg => ?_, strict_sub h ((List.filter_sublist ..).trans (List.dropWhile_sublist _))⟩, fun a ha g hg => ?_⟩
    · obtain ⟨h0, hne⟩ := List.mem_filter.1 hg
      have h1 := drop_ge h g h0
      show ltB s g.path = true
      cases h2 : ltB s g.path with
      | true => rfl
      | false => rw [eqB_iff.2 (ltB_tri h1 h2)] at hne; cases hne
    · have h1 := take_lt a ha
      rcases List.mem_cons.1 hg with rfl | hg
      · exact h1
      · obtain ⟨h0, hne⟩ := List.mem_filter.1 hg
        have h3 := drop_ge h g h0
        show ltB a.path g.path = true
        cases h2 : ltB s g.path with
        | true => exact ltB_trans h1 h2
        | false => rw [eqB_iff.2 (ltB_tri h3 h2)] at hne; cases hne
  · refine List.perm_middle.trans (List.Perm.cons _ ?_)
    have ht : (l.takeWhile fun g => ltB g.path s).filter (fun g => !eqB g.path s) = l.takeWhile fun g => ltB g.path s := by
      rw [List.filter_eq_self]
      intro g hg
      have := take_lt g hg
      rw [eqB_no (fun e => by rw [e, ltB_irrefl] at this; cases this)]; rfl
    unfold dropF
    conv => rhs; rw [← List.takeWhile_append_dropWhile (p := fun g : FileE => ltB g.path s) (l := l)]
    rw [List.filter_append, ht]
theorem slashed_inj {d p q : ByteArray} (h : slashed d p = slashed d q) : p = q := by
  have h2 := congrArg (fun s : ByteArray => s.data.toList) h
  simp only [slashed_data] at h2
  have h3 := List.append_cancel_left h2
  injection h3 with _ h3
  exact ba_ext (by rw [data_toList, data_toList]; exact h3)
theorem eqB_slashed (d p q : ByteArray) : eqB (slashed d p) (slashed d q) = eqB p q := by
  by_cases e : p = q
  · subst e; rw [eqB_iff.2 rfl, eqB_iff.2 rfl]
  · rw [eqB_no e, eqB_no (fun h => e (slashed_inj h))]
theorem drop_up (d p : ByteArray) (l : List FileE) : dropF (slashed d p) (l.map (upF d)) = (dropF p l).map (upF d) := by
  unfold dropF
  rw [List.filter_map]
  congr 1
  apply List.filter_congr
  intro f _
  show (!eqB (slashed d f.path) (slashed d p)) = _
  rw [eqB_slashed]
theorem drop_flat (p : ByteArray) (ds : List Dep) : dropF (slashed srcS p) (ds.flatMap depF) = ds.flatMap depF := by
  unfold dropF
  rw [List.filter_eq_self]
  intro f hf
  obtain ⟨x, _, hf⟩ := List.mem_flatMap.1 hf
  obtain ⟨g, _, rfl⟩ := List.mem_map.1 hf
  rw [eqB_no (fun e => ?_)]
  · rfl
  · have e2 := congrArg (fun s : ByteArray => s.data.toList) e
    have e2 : (slashed (inS x.1) g.path).data.toList = (slashed srcS p).data.toList := e2
    rw [slashed_data, slashed_data, inS_data] at e2
    have : (105 : UInt8) = 115 := by injection e2
    exact absurd this (by decide)
/-- One more among the sources is one more among the inputs. -/
theorem ins_with {ls : List FileE} {ds : List Dep} {t u : List FileE} {p : ByteArray} {b : List UInt8} (h : DepsOk ls ds) (hm : mayB (withL ls p b) = true) (ht : insO ls ds = some t) (hu : insO (withL ls p b) ds = some u) :
    pathB (slashed srcS p) = true ∧ mayB (withL t (slashed srcS p) b) = true ∧ withL t (slashed srcS p) b = u := by
  obtain ⟨t1, t2⟩ := (insO_iff h).1 ht
  obtain ⟨u1, u2⟩ := (insO_iff ⟨hm, h.dep⟩).1 hu
  obtain ⟨_, m2⟩ := with_form (mayB_iff.1 h.src).2.2.1 p b
  obtain ⟨w1, w2⟩ := with_form (mayB_iff.1 t1).2.2.1 (slashed srcS p) b
  have hp : (withL t (slashed srcS p) b).Perm u := by
    refine w2.trans (.trans ?_ u2.symm)
    unfold allF
    refine .trans ?_ ((m2.map (upF srcS)).symm.append_right _)
    rw [List.map_cons, List.cons_append]
    refine List.Perm.cons _ ?_
    refine .trans (t2.filter _) ?_
    show (dropF (slashed srcS p) (allF ls ds)).Perm _
    unfold allF dropF
    rw [List.filter_append]
    show (dropF (slashed srcS p) _ ++ dropF (slashed srcS p) _).Perm _
    rw [drop_up, drop_flat]
    exact List.Perm.refl _
  have he : withL t (slashed srcS p) b = u := (sorted_eq (mayB_iff.1 u1).2.2.1 (lt_le w1) hp).2
  refine ⟨?_, by rw [he]; exact u1, he⟩
  have hx : (⟨slashed srcS p, b⟩ : FileE) ∈ u := hp.mem_iff.1 (with_has _ _ _)
  exact ((mayB_iff.1 u1).2.1 _ hx).1

/- PlanGrows' walk. -/


theorem src_slashed (p : ByteArray) : (⟨#[115, 114, 99, 47]⟩ : ByteArray) ++ p = slashed srcS p := by
  apply ba_ext
  rw [slashed_list, data_toList, data_toList, data_toList, ByteArray.data_append, Array.toList_append]; rfl
/-- What an Inputs answers to changed sources: the sources are a tree, so nothing but ErrFull is new. -/
theorem ok_more {x : TgtE} {ls more : List FileE} {ts : List (List FileE)} (h : okI x ls ts = true) (hm : mayB more = true) : okI x more ts = true := by
  unfold okI at *
  simp only [Bool.and_eq_true] at h ⊢
  exact ⟨⟨⟨h.1.1.1, hm⟩, h.1.2⟩, h.2⟩
set_option maxRecDepth 100000 in
set_option maxHeartbeats 8000000 in
theorem grows_law {w : World} (hT : FldTab w) {x : TgtE} {vd vp vs vo vb : Value} {ls : List FileE} {ts : List (List FileE)} {bs : List UInt8} (h : TgtAt w x vd vp) (hs : TreeAt w vs ls) (ho : TreesAt w vo ts) (p : ByteArray) (hp : p.size ≤ maxLen) (hbb : ByAt w vb bs) :
    Calls Tryd.prog 6 #[.agg (tgtC x vd vp), vs, vo, .string p, vb] w fun e w' => e = .returned (.bool true) ∧ Kept (fun _ => False) w w' := by
  obtain ⟨a7, c7, rfl⟩ := hbb.slc
  obtain ⟨a1, c1, a2, c2, rfl, rfl, hc1, hc2, hm1⟩ := h.words
  obtain ⟨a3, c3, rfl⟩ := hs.slc
  obtain ⟨a4, c4, rfl, hc4, hm4⟩ := ho.slc
  simp only [maxLen] at hm1 hm4
  unfold tgtC
  have k1 : Kept (fun _ => False) w (w.alloc (.cells #[.string x.name, .slice a1 x.deps.length c1, .int .i64 x.fuel, .slice a2 x.prog.length c2] 25)) := (Kept.refl _ w).alloc _
  have hb0 := heap_last w (.cells #[.string x.name, .slice a1 x.deps.length c1, .int .i64 x.fuel, .slice a2 x.prog.length c2] 25)
  go_enter Tryd.func6, Tryd.ntmps6
  go_upto_region 1 with fail
  generalize w.alloc (.cells #[.string x.name, .slice a1 x.deps.length c1, .int .i64 x.fuel, .slice a2 x.prog.length c2] 25) = W1 at k1 hb0 ⊢
  have hzB := (Array.getElem?_eq_some_iff.1 hb0).1
  have hBw : w.heap.size = w.heap.size := rfl
  generalize hBe : w.heap.size = B at hb0 hzB ⊢
  have hbW : ∀ w', Kept (fun _ => False) W1 w' → w'.heap[B]? = some (.cells #[.string x.name, .slice a1 x.deps.length c1, .int .i64 x.fuel, .slice a2 x.prog.length c2] 25) := fun w' q => by rw [q.block _ hzB not_false]; exact hb0
  have ldB : ∀ w', Kept (fun _ => False) W1 w' → (Instr.loadAt 25 (.pointer (some ⟨B, 0, none⟩))).run Tryd.prog w' = .ok (.agg #[.string x.name, .slice a1 x.deps.length c1, .int .i64 x.fuel, .slice a2 x.prog.length c2]) w' := fun w' q => load_row Tryd.underlying25 rfl (hbW w' q) (by kernel_rfl)
  have ld1 := ldB W1 (Kept.refl _ _)
  have gc := great16_ct (h.kept k1) (hs.kept k1) (ho.kept k1)
  unfold tgtC at gc
  clear hBw hBe
  go_wp2_with (first
    | (with_reducible refine wpl_load 25 _ rfl rfl ?_ ld1 ?_
       · rfl
       simp only [Act.put, List.getElem_toArray, List.getElem_cons_zero, List.getElem_cons_succ, List.setIfInBounds_toArray, List.set_cons_zero, List.set_cons_succ]))
  refine gc.mono ?_
  rintro e W2 ⟨⟨q, rfl⟩, k2⟩
  have K2 := k1.trans k2
  clear gc ld1
  cases q with
  | true =>
    go_wp2_with fail
    refine (known16_ct (hT.kept (K2))).mono ?_
    rintro e Wk ⟨rfl, kk⟩
    go_wp2_with fail
    go_ret
    exact ⟨rfl, (K2).trans kk⟩
  | false =>
    by_cases h100 : p.size > 100
    · have i100 : (100 : Int) < (p.size : Int) := by omega
      go_wp2_with fail
      refine (known16_ct (hT.kept (K2))).mono ?_
      rintro e Wk ⟨rfl, kk⟩
      go_wp2_with fail
      go_ret
      exact ⟨rfl, (K2).trans kk⟩
    have i100 : ¬ (100 : Int) < (p.size : Int) := by omega
    by_cases h1000 : bs.length > 1000
    · have i1000 : (1000 : Int) < (bs.length : Int) := by omega
      go_wp2_with fail
      refine (known16_ct (hT.kept (K2))).mono ?_
      rintro e Wk ⟨rfl, kk⟩
      go_wp2_with fail
      go_ret
      exact ⟨rfl, (K2).trans kk⟩
    have i1000 : ¬ (1000 : Int) < (bs.length : Int) := by omega
    go_wp2_with fail
    refine (with_ct (hs.kept K2) p hp (hbb.kept K2)).mono ?_
    rintro e W3 ⟨hw, k3⟩
    have K3 := K2.trans k3
    have ic := inputs_ct (hT.kept K3) (h.kept K3) (hs.kept K3) (ho.kept K3)
    unfold tgtC at ic
    have ld3 := ldB W3 (k2.trans k3)
    obtain ⟨a8, n8, c8, er, he, hmore⟩ : ∃ (a : Option Addr) (n c : Nat) (er : Nat), e = .returned (.tuple #[.slice a n c, .int .i64 er]) ∧ (er = 0 → mayB (withL ls p bs) = true ∧ TreeAt W3 (.slice a n c) (withL ls p bs)) ∧ (er ≠ 0 → TreeAt W3 (.slice a n c) []) := by
      rcases hw with ⟨_, he⟩ | ⟨_, _, he⟩ | ⟨_, hm, v, he, ht⟩
      · exact ⟨none, 0, 0, 2, he, (fun q => by cases q), fun _ => TreeAt.nil _ _⟩
      · exact ⟨none, 0, 0, 8, he, (fun q => by cases q), fun _ => TreeAt.nil _ _⟩
      · obtain ⟨a, c, rfl⟩ := ht.slc
        exact ⟨a, _, c, 0, he, (fun _ => ⟨hm, ht⟩), fun q => absurd rfl q⟩
    subst he
    clear hw
    go_wp2_with (first
      | (with_reducible refine wpl_load 25 _ rfl rfl ?_ ld3 ?_
         · rfl
         simp only [Act.put, List.getElem_toArray, List.getElem_cons_zero, List.getElem_cons_succ, List.setIfInBounds_toArray, List.set_cons_zero, List.set_cons_succ]))
    refine ic.mono ?_
    rintro e W4 ⟨hi, k4⟩
    have K4 := K3.trans k4
    clear ic ld3
    have HI := Lib.hid hi
    obtain ⟨a9, n9, c9, e9, rfl⟩ : ∃ (a : Option Addr) (n c e9 : Nat), e = .returned (.tuple #[.slice a n c, .int .i64 e9]) := by
      rcases hi with ⟨_, he⟩ | ⟨_, ⟨_, he⟩ | ⟨o, v', _, he, ht⟩⟩
      · exact ⟨none, 0, 0, 2, he⟩
      · exact ⟨none, 0, 0, 8, he⟩
      · obtain ⟨a, c, rfl⟩ := ht.slc
        exact ⟨a, _, c, 0, he⟩
    have ld4 := ldB W4 ((k2.trans k3).trans k4)
    obtain ⟨lm, hlm⟩ : ∃ lm, TreeAt W4 (.slice a8 n8 c8) lm ∧ (er = 0 → mayB (withL ls p bs) = true ∧ lm = withL ls p bs) := by
      by_cases q : er = 0
      · exact ⟨_, (hmore.1 q).2.kept k4, fun _ => ⟨(hmore.1 q).1, rfl⟩⟩
      · exact ⟨[], (hmore.2 q).kept k4, fun q' => absurd q' q⟩
    have ic := inputs_ct (hT.kept K4) (h.kept K4) hlm.1 (ho.kept K4)
    unfold tgtC at ic
    clear hi hmore
    go_wp2_with (first
      | (with_reducible refine wpl_load 25 _ rfl rfl ?_ ld4 ?_
         · rfl
         simp only [Act.put, List.getElem_toArray, List.getElem_cons_zero, List.getElem_cons_succ, List.setIfInBounds_toArray, List.set_cons_zero, List.set_cons_succ]))
    refine ic.mono ?_
    rintro e W5 ⟨hi2, k5⟩
    have K5 := K4.trans k5
    clear ic ld4
    have HJ := Lib.hid hi2
    obtain ⟨a10, n10, c10, e10, rfl⟩ : ∃ (a : Option Addr) (n c e9 : Nat), e = .returned (.tuple #[.slice a n c, .int .i64 e9]) := by
      rcases hi2 with ⟨_, he⟩ | ⟨_, ⟨_, he⟩ | ⟨o, v', _, he, ht⟩⟩
      · exact ⟨none, 0, 0, 2, he⟩
      · exact ⟨none, 0, 0, 8, he⟩
      · obtain ⟨a, c, rfl⟩ := ht.slc
        exact ⟨a, _, c, 0, he⟩
    have HLM := Lib.hid hlm.2
    clear hi2 hlm
    by_cases q1 : er = 0
    · subst q1
      by_cases q2 : e9 = 0
      · subst q2
        obtain ⟨o, hok, hio, hto⟩ : ∃ o, okI x ls ts = true ∧ insO ls (depsZ x ts) = some o ∧ TreeAt W4 (.slice a9 n9 c9) o := by
          rcases HI.out with ⟨_, he⟩ | ⟨hok, ⟨_, he⟩ | ⟨o, v', hio, he, ht⟩⟩
          · injection he with he; injection he with he; simp at he
          · injection he with he; injection he with he; simp at he
          · injection he with he; injection he with he; simp at he; exact ⟨o, hok, hio, he ▸ ht⟩
        obtain ⟨hmm, hle⟩ := HLM.out rfl
        have hok2 := ok_more hok hmm
        by_cases q3 : e10 = 0
        · subst q3
          obtain ⟨u, hiu, htu⟩ : ∃ u, insO lm (depsZ x ts) = some u ∧ TreeAt W5 (.slice a10 n10 c10) u := by
            rcases HJ.out with ⟨_, he⟩ | ⟨_, ⟨_, he⟩ | ⟨o, v', hio, he, ht⟩⟩
            · injection he with he; injection he with he; simp at he
            · injection he with he; injection he with he; simp at he
            · injection he with he; injection he with he; simp at he; exact ⟨o, hio, he ▸ ht⟩
          rw [hle] at hiu
          obtain ⟨g1, g2, g3⟩ := ins_with (okI_deps hok).1 hmm hio hiu
          have hmo := ((insO_iff (okI_deps hok).1).1 hio).1
          obtain ⟨sd, hsd⟩ : ∃ sd, (⟨#[115, 114, 99, 47]⟩ : ByteArray) ++ p = sd := ⟨_, rfl⟩
          rw [← src_slashed p, hsd] at g1 g2 g3
          have hsz := pathB_size g1
          have hcat2 : (9223372036854775807 < 4 + p.size) = False := by simp; omega
          have wc := with_ct (hto.kept k5) sd (by simp only [maxLen]; omega) (hbb.kept K5)
          have HG := Lib.hid (And.intro g1 (And.intro g2 (And.intro g3 hmo)))
          have HTU := Lib.hid htu
          clear g1 g2 g3 hmo hio hiu hok hok2 hmm hle HI HJ HLM hto htu
          go_wp2_with fail
          refine wc.mono ?_
          rintro e W6 ⟨hw, k6⟩
          have K6 := K5.trans k6
          clear wc
          obtain ⟨v6, rfl, ht6⟩ : ∃ v, e = .returned (.tuple #[v, .int .i64 0]) ∧ TreeAt W6 v u := by
            obtain ⟨g1, g2, g3, g4⟩ := HG.out
            rcases hw with ⟨q, _⟩ | ⟨_, q, _⟩ | ⟨_, _, v, he, ht⟩
            · rw [g4, g1] at q; cases q
            · rw [g2] at q; cases q
            · rw [g3] at ht; exact ⟨v, he, ht⟩
          obtain ⟨a11, c11, rfl⟩ := ht6.slc
          have sc := rSame_ct (HTU.out.kept k6) ht6
          rw [sameB_rfl] at sc
          go_wp2_with fail
          refine sc.mono ?_
          rintro e W7 ⟨rfl, k7⟩
          clear sc
          go_wp2_with fail
          refine (known16_ct (hT.kept (K6.trans k7))).mono ?_
          rintro e Wk ⟨rfl, kk⟩
          go_wp2_with fail
          go_ret
          exact ⟨rfl, (K6.trans k7).trans kk⟩
        · have he8 : e10 = 8 := by
            rcases HJ.out with ⟨hno, _⟩ | ⟨_, ⟨_, he⟩ | ⟨o, v', _, he, ht⟩⟩
            · rw [hle, hok2] at hno; cases hno
            · injection he with he; injection he with he; simp at he; omega
            · injection he with he; injection he with he; simp at he; omega
          subst he8
          clear HI HJ HLM hok hok2 hio hto hmm hle
          go_wp2_with fail
          refine (known16_ct (hT.kept (K5))).mono ?_
          rintro e Wk ⟨rfl, kk⟩
          go_wp2_with fail
          go_ret
          exact ⟨rfl, (K5).trans kk⟩
      · have i9 : ((e9 : Int) != 0) = true := by simp; omega
        clear HI HJ HLM
        go_wp2_with fail
        refine (known16_ct (hT.kept (K5))).mono ?_
        rintro e Wk ⟨rfl, kk⟩
        go_wp2_with fail
        go_ret
        exact ⟨rfl, (K5).trans kk⟩
    · have ier : ((er : Int) != 0) = true := by simp; omega
      clear HI HJ HLM
      by_cases q9 : e9 = 0
      · subst q9
        go_wp2_with fail
        refine (known16_ct (hT.kept (K5))).mono ?_
        rintro e Wk ⟨rfl, kk⟩
        go_wp2_with fail
        go_ret
        exact ⟨rfl, (K5).trans kk⟩
      · have i9 : ((e9 : Int) != 0) = true := by simp; omega
        go_wp2_with fail
        refine (known16_ct (hT.kept (K5))).mono ?_
        rintro e Wk ⟨rfl, kk⟩
        go_wp2_with fail
        go_ret
        exact ⟨rfl, (K5).trans kk⟩

/- Targets and rows of trees as arguments; the tables as the rows list them. -/
open Go.ChangeShapes Go.WideShapes Go.ChangeAt Go.RowKit

theorem rows_pick {α : Type} {f : α → List Value} {p : α → Prop} : ∀ (rows : List (List Value)), (∀ r ∈ rows, ∃ s, r = f s ∧ p s) → ∃ ss : List α, rows = ss.map f ∧ ∀ s ∈ ss, p s
  | [], _ => ⟨[], rfl, fun s hs => by simp at hs⟩
  | r :: rows, h => by
    obtain ⟨s, hs, hp⟩ := h r (List.mem_cons_self ..)
    obtain ⟨ss, e, hss⟩ := rows_pick rows (fun r hr => h r (List.mem_cons_of_mem _ hr))
    refine ⟨s :: ss, by rw [hs, e, List.map_cons], fun y hy => ?_⟩
    rcases List.mem_cons.1 hy with rfl | hy
    · exact hp
    · exact hss y hy
section
variable {H : Type} {enc : TypeId × Value → H} {w : World} {base : Nat} {spare : Nat → Bool} {held : Bool}
theorem row_open {ts e : TypeId} {z : Nat} (ht : Tryd.prog.underlying ts = some (.slice e)) (hcc : Tryd.prog.cellsOf e = z) (hz : 0 < z) {Q : List Value → Prop}
    (hq : ∀ (m : Nat) (cs : List Value) (x : DataW H × List MemPlace), DataW.trod enc Tryd.prog w base spare held m e cs = some x → cs.length = z → Q cs)
    {fuel : Nat} {cs : List Value} {x : DataW H × List MemPlace} (h : DataW.trod enc Tryd.prog w base spare held fuel ts cs = some x) :
    ∃ (v : Value) (rows : List (List Value)), cs = [v] ∧ RowAt w z v rows ∧ ∀ r ∈ rows, Q r := by
  rcases DataW.trod_slice ht h with ⟨rfl, _⟩ | ⟨a, len, cap, elems, rest, m, _, rfl, _, hb, hl, hm, hlen, hel, _, _⟩
  · exact ⟨_, [], rfl, RowAt.nil w z 0, fun r hr => by simp at hr⟩
  · have hsp : 0 < len → a.spot = none := fun h0 => by
      have h1 := hel 0 h0
      rw [hcc, List.getElem?_eq_getElem (by omega)] at h1
      obtain ⟨c, hc, ht⟩ := Option.bind_eq_some_iff.1 h1
      obtain ⟨_, hl1, hc3⟩ := World.cells?_some hc
      have h2 := hc3 0 (by omega)
      rw [List.getElem?_eq_getElem (by omega)] at h2
      have ha : (a.add (0 * z)).add 0 = a := by simp [Addr.add]
      rw [ha] at h2
      exact World.cell?_spot h2
    have key : ∀ i, ∃ f : List Value, i < len → ∃ b q, a = ⟨b, q, none⟩ ∧ b < w.heap.size ∧ w.rangeAt b (q + i * z) f ∧ Q f := fun i => by
      by_cases hi : i < len
      · have h1 := hel i hi
        rw [hcc, List.getElem?_eq_getElem (by omega)] at h1
        obtain ⟨c, hc, ht⟩ := Option.bind_eq_some_iff.1 h1
        have hzz := World.cells?_block hc hz
        obtain ⟨hc1, hc2, hc3⟩ := World.cells?_some hc
        refine ⟨c, fun _ => ?_⟩
        obtain ⟨b, q, s⟩ := a
        have : s = none := hsp (by omega)
        subst this
        refine ⟨b, q, rfl, by simpa [block_add] using hzz, fun j v hv => ?_, hq _ _ _ ht hc2⟩
        have hj : j < z := by have := (List.getElem?_eq_some_iff.1 hv).1; omega
        have := hc3 j hj
        rw [Addr.add_mid, Addr.add_mid] at this
        rw [this, hv]
      · exact ⟨[], fun h => absurd h hi⟩
    obtain ⟨f, hf⟩ := Classical.axiomOfChoice key
    have hlen2 : ((List.range len).map f).length = len := by simp
    refine ⟨_, (List.range len).map f, rfl, ⟨some a, cap, by rw [hlen2], by rw [hlen2]; exact hl, by rw [hlen2]; omega, fun hne => ?_⟩, fun r hr => ?_⟩
    · have h0 : 0 < len := by
        rcases Nat.eq_zero_or_pos len with h0 | h0
        · exact absurd (by rw [h0]; rfl) hne
        · exact h0
      obtain ⟨b, q, ha, hzz, _⟩ := hf 0 h0
      refine ⟨b, q, by rw [ha], hzz, fun i g hg => ?_⟩
      have hi : i < len := by have := (List.getElem?_eq_some_iff.1 hg).1; rw [hlen2] at this; exact this
      obtain ⟨b', q', ha', _, hr, _⟩ := hf i hi
      rw [ha] at ha'
      injection ha' with e1 e2
      subst e1; subst e2
      have hge : f i = g := by
        rw [List.getElem?_map, List.getElem?_range hi] at hg
        simpa using hg
      subst hge
      exact hr
    · obtain ⟨i, hi, rfl⟩ := List.mem_map.1 hr
      exact (hf i (by simpa using hi)).choose_spec.choose_spec.2.2.2
theorem deps_open {fuel : Nat} {cs : List Value} {x : DataW H × List MemPlace} (h : DataW.trod enc Tryd.prog w base spare held fuel 22 cs = some x) :
    ∃ (v : Value) (ds : List ByteArray), cs = [v] ∧ DepsAt w v ds := by
  obtain ⟨v, rows, e, hr, hq⟩ := row_open (z := 1) (Q := fun cs => ∃ s : ByteArray, cs = [Value.string s] ∧ s.size ≤ maxLen) Tryd.underlying22 (by kernel_rfl) (by omega)
    (fun m cs x ht _ => by obtain ⟨s, h1, _, h2⟩ := DataW.trod_string Tryd.underlying9 ht; exact ⟨s, h1, h2⟩) h
  obtain ⟨ds, rfl, hp⟩ := rows_pick (f := fun s : ByteArray => [Value.string s]) rows hq
  exact ⟨v, ds, e, hr, hp⟩
theorem i64_wf {n : Int} (h : (Lit.int .i64 n).wf = true) : -9223372036854775808 ≤ n ∧ n ≤ 9223372036854775807 := by
  simp only [Lit.wf, Bool.and_eq_true, decide_eq_true_eq] at h
  have h1 : -(2 ^ 63) ≤ n := h.1
  have h2 : n ≤ 2 ^ 63 - 1 := h.2
  omega
theorem one_cell {α : Type} {cs : List α} {i : Nat} (h : i < cs.length) : (cs.drop i).take 1 = [cs[i]] := by rw [List.drop_eq_getElem_cons h]; rfl
theorem ins_cells {fuel : Nat} {cs : List Value} {x : DataW H × List MemPlace} (h : DataW.trod enc Tryd.prog w base spare held fuel 48 cs = some x) :
    ∃ y : InsE, cs = insC y ∧ y.Fits := by
  have hcc : Tryd.prog.cellsOf 48 = 6 := by kernel_rfl
  have hcs : Tryd.prog.cellsOf 9 = 1 := by kernel_rfl
  have hcb : Tryd.prog.cellsOf 5 = 1 := by kernel_rfl
  have hci : Tryd.prog.cellsOf 3 = 1 := by kernel_rfl
  obtain ⟨xs, m, _, _, hlen, hxl, hg⟩ := DataW.trod_struct Tryd.underlying48 h
  rw [hcc] at hlen
  have hx6 : xs.length = 6 := hxl
  have g0 : DataW.trod enc Tryd.prog w base spare held m 5 ((cs.drop 0).take (Tryd.prog.cellsOf 5)) = xs[0]? := hg 0 _ rfl
  have g1 : DataW.trod enc Tryd.prog w base spare held m 9 ((cs.drop 1).take (Tryd.prog.cellsOf 9)) = xs[1]? := hg 1 _ rfl
  have g2 : DataW.trod enc Tryd.prog w base spare held m 9 ((cs.drop 2).take (Tryd.prog.cellsOf 9)) = xs[2]? := hg 2 _ rfl
  have g3 : DataW.trod enc Tryd.prog w base spare held m 9 ((cs.drop 3).take (Tryd.prog.cellsOf 9)) = xs[3]? := hg 3 _ rfl
  have g4 : DataW.trod enc Tryd.prog w base spare held m 3 ((cs.drop 4).take (Tryd.prog.cellsOf 3)) = xs[4]? := hg 4 _ rfl
  have g5 : DataW.trod enc Tryd.prog w base spare held m 3 ((cs.drop 5).take (Tryd.prog.cellsOf 3)) = xs[5]? := hg 5 _ rfl
  rw [hcb, one_cell (by omega)] at g0
  rw [hcs, one_cell (by omega), List.getElem?_eq_getElem (by omega)] at g1 g2 g3
  rw [hci, one_cell (by omega)] at g4 g5
  obtain ⟨k, e0, w0⟩ := one_of_int Tryd.underlying5 (by rw [List.getElem?_eq_getElem (by omega)]; rfl) g0
  obtain ⟨s1, e1, _, w1⟩ := DataW.trod_string Tryd.underlying9 g1
  obtain ⟨s2, e2, _, w2⟩ := DataW.trod_string Tryd.underlying9 g2
  obtain ⟨s3, e3, _, w3⟩ := DataW.trod_string Tryd.underlying9 g3
  obtain ⟨n, e4, w4⟩ := one_of_int Tryd.underlying3 (by rw [List.getElem?_eq_getElem (by omega)]; rfl) g4
  obtain ⟨o, e5, w5⟩ := one_of_int Tryd.underlying3 (by rw [List.getElem?_eq_getElem (by omega)]; rfl) g5
  obtain ⟨h0, h256⟩ := u8_of_wf w0
  simp only [List.cons.injEq, and_true] at e0 e1 e2 e3 e4 e5
  refine ⟨⟨k.toNat, s1, s2, s3, n, o⟩, ?_, ⟨by show k.toNat < 256; omega, w1, w2, w3, i64_wf w4, i64_wf w5⟩⟩
  apply List.ext_getElem
  · rw [hlen]; rfl
  · intro i h1 h2
    rw [hlen] at h1
    match i, h1 with
    | 0, _ => rw [e0]; show Value.int .u8 k = .int .u8 (k.toNat : Int); rw [Int.toNat_of_nonneg h0]
    | 1, _ => exact e1
    | 2, _ => exact e2
    | 3, _ => exact e3
    | 4, _ => exact e4
    | 5, _ => exact e5
theorem prog_open {fuel : Nat} {cs : List Value} {x : DataW H × List MemPlace} (h : DataW.trod enc Tryd.prog w base spare held fuel 23 cs = some x) :
    ∃ (v : Value) (p : List InsE), cs = [v] ∧ ProgAt w v p := by
  obtain ⟨v, rows, e, hr, hq⟩ := row_open (z := 6) (Q := fun cs => ∃ y : InsE, cs = insC y ∧ y.Fits) Tryd.underlying23 (by kernel_rfl) (by omega) (fun m cs x ht _ => ins_cells ht) h
  obtain ⟨p, rfl, hp⟩ := rows_pick (f := insC) rows hq
  exact ⟨v, p, e, hr, hp⟩
theorem trees_open {fuel : Nat} {cs : List Value} {x : DataW H × List MemPlace} (h : DataW.trod enc Tryd.prog w base spare held fuel 28 cs = some x) :
    ∃ (v : Value) (ts : List (List FileE)), cs = [v] ∧ TreesAt w v ts := by
  obtain ⟨v, rows, e, hr, hq⟩ := row_open (z := 1) (Q := fun cs => ∃ s : Value × List FileE, cs = [s.1] ∧ TreeAt w s.1 s.2) Tryd.underlying28 (by kernel_rfl) (by omega)
    (fun m cs x ht _ => by obtain ⟨v, l, h1, h2⟩ := tree_open ht; exact ⟨(v, l), h1, h2⟩) h
  obtain ⟨ps, rfl, hp⟩ := rows_pick (f := fun s : Value × List FileE => [s.1]) rows hq
  refine ⟨v, ps.map (·.2), e, ps.map (·.1), by rw [List.length_map, List.length_map], by rw [List.map_map]; exact hr, fun j l hl => ?_⟩
  rw [List.getElem?_map] at hl
  cases hj : ps[j]? with
  | none => rw [hj] at hl; cases hl
  | some q =>
    rw [hj] at hl
    simp only [Option.map_some, Option.some.injEq] at hl
    subst hl
    exact ⟨q.1, by rw [List.getElem?_map, hj]; rfl, hp q (List.mem_of_getElem? hj)⟩
theorem tgt_cells {fuel : Nat} {cs : List Value} {x : DataW H × List MemPlace} (h : DataW.trod enc Tryd.prog w base spare held fuel 25 cs = some x) :
    ∃ (y : TgtE) (vd vp : Value), cs = (tgtC y vd vp).toList ∧ TgtAt w y vd vp := by
  have hcc : Tryd.prog.cellsOf 25 = 4 := by kernel_rfl
  have hcs : Tryd.prog.cellsOf 9 = 1 := by kernel_rfl
  have hcd : Tryd.prog.cellsOf 22 = 1 := by kernel_rfl
  have hci : Tryd.prog.cellsOf 3 = 1 := by kernel_rfl
  have hcp : Tryd.prog.cellsOf 23 = 1 := by kernel_rfl
  obtain ⟨xs, m, _, _, hlen, hxl, hg⟩ := DataW.trod_struct Tryd.underlying25 h
  rw [hcc] at hlen
  have hx4 : xs.length = 4 := hxl
  have g0 : DataW.trod enc Tryd.prog w base spare held m 9 ((cs.drop 0).take (Tryd.prog.cellsOf 9)) = xs[0]? := hg 0 _ rfl
  have g1 : DataW.trod enc Tryd.prog w base spare held m 22 ((cs.drop 1).take (Tryd.prog.cellsOf 22)) = xs[1]? := hg 1 _ rfl
  have g2 : DataW.trod enc Tryd.prog w base spare held m 3 ((cs.drop 2).take (Tryd.prog.cellsOf 3)) = xs[2]? := hg 2 _ rfl
  have g3 : DataW.trod enc Tryd.prog w base spare held m 23 ((cs.drop 3).take (Tryd.prog.cellsOf 23)) = xs[3]? := hg 3 _ rfl
  rw [hcs, one_cell (by omega), List.getElem?_eq_getElem (by omega)] at g0
  rw [hcd, one_cell (by omega), List.getElem?_eq_getElem (by omega)] at g1
  rw [hci, one_cell (by omega)] at g2
  rw [hcp, one_cell (by omega), List.getElem?_eq_getElem (by omega)] at g3
  obtain ⟨s, e0, _, w0⟩ := DataW.trod_string Tryd.underlying9 g0
  obtain ⟨vd, ds, e1, hd⟩ := deps_open g1
  obtain ⟨n, e2, w2⟩ := one_of_int Tryd.underlying3 (by rw [List.getElem?_eq_getElem (by omega)]; rfl) g2
  obtain ⟨vp, p, e3, hp⟩ := prog_open g3
  simp only [List.cons.injEq, and_true] at e0 e1 e2 e3
  refine ⟨⟨s, ds, n, p⟩, vd, vp, ?_, ⟨w0, hd, hp⟩⟩
  apply List.ext_getElem
  · rw [hlen]; rfl
  · intro i h1 h2
    rw [hlen] at h1
    match i, h1 with
    | 0, _ => exact e0
    | 1, _ => exact e1
    | 2, _ => exact e2
    | 3, _ => exact e3
end
theorem gFld : Tryd.prog.globalNamed "murmuration/program.fields" = some 0 := by kernel_rfl
theorem gFldT : (Tryd.prog.globals[0]?).map (·.type) = some 111 := by kernel_rfl
theorem laid_flds {W : World} (h : Lib.VarReads Tryd.prog W "murmuration/program.fields" Rows.laid_murmuration_program_fields) : FldTab W := by
  obtain ⟨g, t, cs, fuel, p, h1, h2, h3, h4⟩ := h
  rw [gFld] at h1
  injection h1 with h1
  subst h1
  rw [gFldT] at h2
  injection h2 with h2
  subst h2
  unfold World.var? at h3
  rw [gFld] at h3
  simp only [Option.bind_some] at h3
  cases hb : W.heap[0]? with
  | none => rw [hb] at h3; cases h3
  | some o =>
    rw [hb] at h3
    cases o with
    | cells C T fr =>
      simp only [Option.some.injEq] at h3
      subst h3
      have hcs : Tryd.prog.cellsOf 9 = 1 := by kernel_rfl
      have hcc : Tryd.prog.cellsOf 111 = 12 := by kernel_rfl
      obtain ⟨xs, m, _, hx, hlen, hxl, hg⟩ := DataW.trod_array Tryd.underlying111 h4
      rw [hcc] at hlen
      refine ⟨(Array.getElem?_eq_some_iff.1 hb).1, fun k hk => ?_⟩
      have hgk := hg k hk
      rw [hcs, Nat.mul_one, one_cell (by omega), List.getElem?_eq_getElem (by omega)] at hgk
      obtain ⟨s, e1, e2, _⟩ := DataW.trod_string Tryd.underlying9 hgk
      simp only [List.cons.injEq, and_true] at e1
      have hd : (Rows.laid_murmuration_program_fields : DataW Unit) = .agg (xs.map (·.1)) := congrArg Prod.fst hx
      have hl : FLDS.map (fun l => (DataW.lit (.string l) : DataW Unit)) = xs.map (·.1) := by
        have : (Rows.laid_murmuration_program_fields : DataW Unit) = .agg (FLDS.map (fun l => (DataW.lit (.string l) : DataW Unit))) := rfl
        rw [this] at hd
        injection hd
      have hk2 := congrArg (fun l : List (DataW Unit) => l[k]?) hl
      simp only [List.getElem?_map] at hk2
      rw [List.getElem?_eq_getElem (show k < xs.length by omega)] at hk2
      have hfl : k < FLDS.length := hk
      rw [List.getElem?_eq_getElem hfl] at hk2
      simp only [Option.map_some, Option.some.injEq] at hk2
      rw [e2] at hk2
      simp only [DataW.lit.injEq, Lit.string.injEq] at hk2
      rw [cell_of_row _ _ _ _ _ _ hb]
      have hs : s = fld k := by
        apply ba_ext
        rw [data_toList, data_toList, ← hk2]
        unfold fld fldL
        rw [List.getD_eq_getElem?_getD, List.getElem?_eq_getElem hfl]; rfl
      rw [← hs, ← e1]
      have hC : k < C.size := by simpa using (show k < C.toList.length by omega)
      rw [Array.getElem?_eq_getElem hC]; simp
    | _ => cases h3

/- The tables of the plan's rows; a world for the witness. -/

def laidP : List (String × DataW Unit) := [("unicode/utf8.acceptRanges", Rows.laid_unicode_utf8_acceptRanges), ("murmuration/program.fields", Rows.laid_murmuration_program_fields), ("unicode/utf8.first", Rows.laid_unicode_utf8_first)]
theorem flds_of {W : World} (h : laidMetH Tryd.prog laidP W) : FldTab W := by
  have h' : laidMet Tryd.prog laidP W := h
  exact laid_flds (Lib.laidMet.reads h' (n := "murmuration/program.fields") (d := Rows.laid_murmuration_program_fields) (by unfold laidP; simp))
def layFirst : Obj → Obj
  | .cells _ t frozen => .cells (Lib.firstTab.map fun z => Value.int .u8 z).toArray t frozen
  | o => o
def layAcc : Obj → Obj
  | .cells _ t frozen => .cells ((List.range 16).flatMap fun i => [Value.int .u8 (Lib.accLo i), Value.int .u8 (Lib.accHi i)]).toArray t frozen
  | o => o
def layFld : Obj → Obj
  | .cells _ t frozen => .cells (FLDS.map fun l => Value.string ⟨l.toArray⟩).toArray t frozen
  | o => o
noncomputable def laidHeap (os : Os) : Array Obj := Array.modify (Array.modify (Array.modify (World.holding Tryd.prog os ⟨#[], #[], []⟩).heap 1 layFirst) 2 layAcc) 0 layFld
/-- A world for the witness: the settled one, the tables holding what the text lays. -/
noncomputable def laidWorld (os : Os) : World := { World.holding Tryd.prog os ⟨#[], #[], []⟩ with heap := laidHeap os }

/- 'Rows.PlanGrowsCardSaid': a file more among the sources is a file more among the inputs, and changes no other one; whatever the target, the trees, the path and the bytes. The library's and the program's tables listed start as their text lays them (the card ties them). No other condition. -/
open Go.ChangeShapes Go.WideShapes Go.ChangeAt Go.ChangeMaps Go.RowKit

theorem laid_pgrows : Rows.planGrowsRow.laid = laidP := by kernel_rfl
set_option maxRecDepth 100000 in
theorem pgrows_contract (H : Type) (enc : TypeId × Value → H) (W : World) (base : Nat) (args : Array Value) (ds gs : List (DataW H)) (before : List MemPlace)
    (hval : ∀ (j : Nat) t v, Tryd.f6.params[j]? = some t → args[j]? = some v → Value.okWide Tryd.prog W .any base t v)
    (hW : DataW.Whole enc Tryd.prog Tryd.f6.params.toList Rows.planGrowsSpec.vars false W args.toList ds gs before) (hL : laidMetH Tryd.prog Rows.planGrowsRow.laid W) :
    Calls Tryd.prog 6 args W fun e W' => ∃ v, e = .returned v ∧ Rows.planGrowsSpec.post enc Tryd.prog Tryd.f6 false true false false W args v W' := by
  rw [laid_pgrows] at hL
  have hT := flds_of hL
  have hW' := hW
  obtain ⟨p, q, hA0, hV, rfl, hfz, hnd⟩ := hW
  have hA : DataW.TrodAll enc Tryd.prog W 0 (fun _ => true) true Tryd.f6.params.toList args.toList ds p := hA0
  rw [Tryd.params6] at hA hval
  obtain ⟨v0, vs0, d0, ds0, p0, q0, hargs, rfl, rfl, h0, r0⟩ := trodAll_cons hA
  obtain ⟨v1, vs1, d1, ds1, p1, q1, rfl, rfl, rfl, h1, r1⟩ := trodAll_cons r0
  obtain ⟨v2, vs2, d2, ds2, p2, q2, rfl, rfl, rfl, h2, r2⟩ := trodAll_cons r1
  obtain ⟨v3, vs3, d3, ds3, p3, q3, rfl, rfl, rfl, h3, r3⟩ := trodAll_cons r2
  obtain ⟨v4, vs4, d4, ds4, p4, q4, rfl, rfl, rfl, h4, r4⟩ := trodAll_cons r3
  obtain ⟨rfl, rfl, rfl⟩ := trodAll_nil r4
  obtain rfl : args = #[v0, v1, v2, v3, v4] := by cases args; simp_all
  obtain ⟨rfl, rfl⟩ := trodVars_none hV
  have k0 := h0
  have lt0 : ∀ x ∈ p0, x.block < W.heap.size := by obtain ⟨m, hm⟩ := k0; exact DataW.trod_lt m _ _ _ hm
  obtain ⟨C0, rfl, hC0⟩ := okWide_struct Tryd.underlying25 (hval 0 25 v0 rfl rfl)
  obtain ⟨y0, vd0, vp0, rfl, hb0⟩ : ∃ (y : TgtE) (vd vp : Value), C0 = tgtC y vd vp ∧ TgtAt W y vd vp := by
    obtain ⟨fuel, hf⟩ := k0
    obtain ⟨y, vd, vp, e, ht⟩ := tgt_cells hf
    exact ⟨y, vd, vp, Array.toList_inj.1 e, ht⟩
  have k1 := h1
  have lt1 : ∀ x ∈ p1, x.block < W.heap.size := by obtain ⟨m, hm⟩ := k1; exact DataW.trod_lt m _ _ _ hm
  obtain ⟨l1, hb1⟩ : ∃ l : List FileE, TreeAt W v1 l := by
    obtain ⟨fuel, hf⟩ := k1
    obtain ⟨a, n, cap, rfl⟩ := okWide_slice Tryd.underlying27 (hval 1 27 v1 rfl rfl)
    obtain ⟨v, l, e, ho⟩ := tree_open hf
    have e : [Value.slice a n cap] = [v] := e
    injection e with e
    exact ⟨l, e ▸ ho⟩
  have k2 := h2
  have lt2 : ∀ x ∈ p2, x.block < W.heap.size := by obtain ⟨m, hm⟩ := k2; exact DataW.trod_lt m _ _ _ hm
  obtain ⟨l2, hb2⟩ : ∃ l : List (List FileE), TreesAt W v2 l := by
    obtain ⟨fuel, hf⟩ := k2
    obtain ⟨a, n, cap, rfl⟩ := okWide_slice Tryd.underlying28 (hval 2 28 v2 rfl rfl)
    obtain ⟨v, l, e, ho⟩ := trees_open hf
    have e : [Value.slice a n cap] = [v] := e
    injection e with e
    exact ⟨l, e ▸ ho⟩
  obtain ⟨s3, rfl, rfl, rfl, w3⟩ := open_string Tryd.underlying9 (hval 3 9 v3 rfl rfl) h3
  have k4 := h4
  have lt4 : ∀ x ∈ p4, x.block < W.heap.size := by obtain ⟨m, hm⟩ := k4; exact DataW.trod_lt m _ _ _ hm
  obtain ⟨l4, hb4⟩ : ∃ l : List UInt8, ByAt W v4 l := by
    obtain ⟨fuel, hf⟩ := k4
    obtain ⟨a, n, cap, rfl⟩ := okWide_slice Tryd.underlying44 (hval 4 44 v4 rfl rfl)
    obtain ⟨v, l, e, ho⟩ := bytes_open hf
    have e : [Value.slice a n cap] = [v] := e
    injection e with e
    exact ⟨l, e ▸ ho.1⟩
  clear hA0
  refine (grows_law hT hb0 hb1 hb2 s3 w3 hb4).mono fun e W' ⟨he, hk⟩ => ?_
  subst he
  have bel : Below W.heap.size W W' := hk.below (Nat.le_refl _) (fun _ q => q.elim)
  exact ⟨_, rfl, _, _, _, [], _, [], hW', trodAll_mk1 (shut_bool Tryd.underlying4 _), (trodAll_cons_mk (Below.trod Tryd.laidOut (by kernel_rfl) (of_decide_eq_true (by kernel_rfl)) k0 bel lt0) (trodAll_cons_mk (Below.trod Tryd.laidOut (by kernel_rfl) (of_decide_eq_true (by kernel_rfl)) k1 bel lt1) (trodAll_cons_mk (Below.trod Tryd.laidOut (by kernel_rfl) (of_decide_eq_true (by kernel_rfl)) k2 bel lt2) (trodAll_cons_mk (shut_string Tryd.underlying9 w3) (trodAll_cons_mk (Below.trod Tryd.laidOut (by kernel_rfl) (of_decide_eq_true (by kernel_rfl)) k4 bel lt4) trodAll_mk0))))), rfl, bel.frame _, fun h => by cases h⟩
theorem pgrows_met (os : Os) : laidMet Tryd.prog Rows.planGrowsRow.laid ((laidWorld os).forCall (fun _ _ => 0) ⟨#[], #[.agg #[.string ⟨#[]⟩, .slice none 0 0, .int .i64 0, .slice none 0 0], .slice none 0 0, .slice none 0 0, .string ⟨#[]⟩, .slice none 0 0], []⟩).memory :=
  laidMet_of_run' 8 (by kernel_rfl) (by kernel_rfl)
theorem pgrows_reads (os : Os) {H : Type} (enc : TypeId × Value → H) : ∃ places, DataW.whole enc Tryd.prog ((laidWorld os).forCall (fun _ _ => 0) ⟨#[], #[.agg #[.string ⟨#[]⟩, .slice none 0 0, .int .i64 0, .slice none 0 0], .slice none 0 0, .slice none 0 0, .string ⟨#[]⟩, .slice none 0 0], []⟩).memory Tryd.f6.params.toList Rows.planGrowsSpec.vars false (#[.agg #[.string ⟨#[]⟩, .slice none 0 0, .int .i64 0, .slice none 0 0], .slice none 0 0, .slice none 0 0, .string ⟨#[]⟩, .slice none 0 0] : Array Value).toList 8 = some ([.agg [.lit (.string []), .nil, .lit (.int .i64 0), .nil], .nil, .nil, .lit (.string []), .nil], [], places) :=
  ⟨[], by kernel_rfl⟩
theorem pgrows_lifted (os : Os) (started : os.Started) (H : Type) (enc : TypeId × Value → H) (F : Stop.Interp) :
    ReturnsInHanded {} Tryd.checked os 6 .any ((OpenSpec.ofChange Rows.planGrowsSpec).preRow enc Tryd.prog Tryd.f6 Rows.planGrowsRow.domain false Rows.planGrowsRow.laid) (((OpenSpec.ofChange Rows.planGrowsSpec).at F).post enc Tryd.prog Tryd.f6 false true false false) := by
  obtain ⟨places, hx⟩ := pgrows_reads os enc
  refine returnsInHanded_of_row (C := Tryd.checked) (s := OpenSpec.ofChange Rows.planGrowsSpec) Tryd.own started (by kernel_rfl) Tryd.func6
    (witness_row_at (enc := enc) (C := Tryd.checked) false (laidWorld os) #[.agg #[.string ⟨#[]⟩, .slice none 0 0, .int .i64 0, .slice none 0 0], .slice none 0 0, .slice none 0 0, .string ⟨#[]⟩, .slice none 0 0] rfl (by kernel_rfl) (by kernel_rfl) (by kernel_rfl)
      (OpenSpec.preRow_of_cond 8 hx (by kernel_rfl) (fun k hk => by cases hk) (by kernel_rfl) (pgrows_met os))) ?_
  intro W base args ds gs before hval hW _ _ _ hL _ _
  exact pgrows_contract H enc W base args ds gs before hval hW hL
theorem pgrows_said : Rows.PlanGrowsSaid :=
  OpenClaim.holds_of_cond 6 Tryd.f6 rfl rfl rfl rfl rfl rfl rfl ⟨rfl, rfl, rfl, rfl, rfl⟩ rfl rfl rfl rfl rfl (by kernel_rfl) Tryd.func6 (by kernel_rfl)
    (of_decide_eq_true (by kernel_rfl)) (by unfold Func.isWrapper; first | (rw [if_pos (by decide +kernel)]; kernel_rfl) | (rw [if_neg (by decide +kernel)]; exact ⟨rfl, rfl⟩))
    (fun os started H enc _ F => by rw [OpenClaim.pre_eq_preRow]; exact pgrows_lifted os started H enc F)
theorem pgrows_plain (f : FuncId) (fn : Func) (hf : Tryd.pinned.checked.prog.funcNamed "murmuration/murmurationlaw16.PlanGrows" = some f) (hfn : Tryd.pinned.checked.prog.funcs[f]? = some fn) :
    false = Tryd.pinned.checked.prog.looks [] ∧ ∀ (j : Nat) t, fn.params[j]? = some t → Tryd.pinned.checked.prog.wantsStandIn t = false := by
  obtain rfl : f = 6 := Option.some.inj ((show Tryd.prog.funcNamed "murmuration/murmurationlaw16.PlanGrows" = some 6 by kernel_rfl).symm.trans hf) |>.symm
  obtain rfl : fn = Tryd.f6 := (Option.some.inj (Tryd.func6.symm.trans hfn)).symm
  refine ⟨by kernel_rfl, fun j t ht => ?_⟩
  rw [Tryd.params6] at ht
  have hm : t = 25 ∨ t = 27 ∨ t = 28 ∨ t = 9 ∨ t = 44 := by simpa using Array.mem_of_getElem? ht
  rcases hm with rfl | rfl | rfl | rfl | rfl
  · exact (show Tryd.prog.wantsStandIn 25 = false by kernel_rfl)
  · exact (show Tryd.prog.wantsStandIn 27 = false by kernel_rfl)
  · exact (show Tryd.prog.wantsStandIn 28 = false by kernel_rfl)
  · exact (show Tryd.prog.wantsStandIn 9 = false by kernel_rfl)
  · exact (show Tryd.prog.wantsStandIn 44 = false by kernel_rfl)
theorem planGrows_card : Rows.PlanGrowsCardSaid :=
  Claim7.holds_tied_plain_at .later [] _ _ _ _ pgrows_said (fun _ h => by cases h) (by kernel_rfl) (fun _ h => by cases h) planGrows_row_tie rfl ⟨rfl, rfl⟩ (by kernel_rfl) rfl pgrows_plain (by kernel_rfl)
#print axioms planGrows_card

end Go.Proofs.YtfohljljoalmoaaDoor
