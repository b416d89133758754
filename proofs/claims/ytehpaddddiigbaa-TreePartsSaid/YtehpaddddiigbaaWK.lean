/- The document's Join. -/
import Derived.Test.YtehpaddddiigbaaWI
import Derived.Test.YtehpaddddiigbaaVM
namespace Go.Proofs.Ytehpaddddiigbaa
open Go.RowKit
set_option linter.unusedSimpArgs false
set_option linter.unusedVariables false

theorem joinC_dup {l m : List FileE} (h1 : mayB l = true) (h2 : mayB m = true) {f g : FileE} (hf : f ∈ l) (hg : g ∈ m) (he : f.path = g.path) : joinC l m = 7 := by
  unfold joinC
  rw [if_neg (by rw [h1, h2]; simp)]
  have hd : dupTo (joinO l m) (joinO l m).length = true := by
    cases hd : dupTo (joinO l m) (joinO l m).length with
    | true => rfl
    | false =>
      have hs := strict_of (joinO_sorted l m) hd
      have hn := nodup_of hs
      have hn2 := ((joinO_perm l m).map FileE.path).nodup_iff.1 hn
      rw [List.map_append] at hn2
      have := (List.nodup_append.1 hn2).2.2 f.path (List.mem_map_of_mem hf) g.path (List.mem_map_of_mem hg)
      exact absurd he this
  rw [if_pos hd]
theorem joinC_new {l m o : List FileE} (h1 : mayB l = true) (h2 : mayB m = true) (ho : o.Pairwise ltF) (hp : o.Perm (l ++ m)) : joinO l m = o ∧ joinC l m = if mayB o = false then 8 else 0 := by
  obtain ⟨hd, he⟩ := sorted_eq ho (joinO_sorted l m) ((joinO_perm l m).trans hp.symm)
  refine ⟨he, ?_⟩
  unfold joinC
  rw [if_neg (by rw [h1, h2]; simp), if_neg (by rw [hd]; simp), he]
set_option maxRecDepth 100000 in
set_option maxHeartbeats 4000000 in
theorem rJoin_ct {w : World} {va vb : Value} {la lb : List FileE} (ha : TreeAt w va la) (hb : TreeAt w vb lb) :
    Calls Try.prog 31 #[va, vb] w fun e w' => TreeOut (joinC la lb) (joinO la lb) w' e ∧ Kept (fun _ => False) w w' := by
  have mc := rMay_ct ha
  have md := fun w' (k : Kept (fun _ => False) w w') => rMay_ct (hb.kept k)
  obtain ⟨a, c, hv⟩ := ha.slc
  subst hv
  obtain ⟨a2, c2, hv2⟩ := hb.slc
  subst hv2
  cases hm : mayB la with
  | false =>
    have hc : joinC la lb = 2 := by unfold joinC; rw [hm]; simp
    rw [hm] at mc
    rw [hc]
    clear hc hm
    go_enter Try.func31, Try.ntmps31
    go_wp2_with fail
    refine (mc).mono ?_
    rintro e W ⟨rfl, k1⟩
    go_wp2_with fail
    go_ret2
    exact ⟨.inl ⟨by omega, rfl⟩, k1⟩
  | true =>
    rw [hm] at mc
    cases hm2 : mayB lb with
    | false =>
      have hc : joinC la lb = 2 := by unfold joinC; rw [hm2]; simp
      rw [hm2] at md
      rw [hc]
      clear hc hm hm2
      go_enter Try.func31, Try.ntmps31
      go_wp2_with fail
      refine (mc).mono ?_
      rintro e W ⟨rfl, k1⟩
      go_wp2_with fail
      refine (md _ k1).mono ?_
      rintro e W2 ⟨rfl, k2⟩
      go_wp2_with fail
      go_ret2
      exact ⟨.inl ⟨by omega, rfl⟩, k1.trans k2⟩
    | true =>
      rw [hm2] at md
      have hla := (mayIs hm).len
      have hlb := (mayIs hm2).len
      have HM := Lib.hid (And.intro hm hm2)
      obtain ⟨cz, hcz⟩ : ∃ cz, cz = joinC la lb := ⟨_, rfl⟩
      obtain ⟨oz, hoz⟩ : ∃ oz, oz = joinO la lb := ⟨_, rfl⟩
      rw [← hcz, ← hoz]
      have HCZ := Lib.hid (And.intro hcz hoz)
      clear hm hm2 hcz hoz
      go_enter Try.func31, Try.ntmps31
      go_wp2_with fail
      refine (mc).mono ?_
      rintro e W ⟨rfl, k1⟩
      go_wp2_with fail
      refine (md _ k1).mono ?_
      rintro e W2 ⟨rfl, k2⟩
      have k12 := k1.trans k2
      clear mc md k1 k2
      have bs := bslice_f0 W2
      have k3 : Kept (fun _ => False) w (W2.alloc (.cells #[] 43)) := k12.alloc _
      have ho : (W2.alloc (.cells #[] 43)).ownsRow W2.heap.size 43 2 (.slice (some ⟨W2.heap.size, 0, none⟩) 0 0) 0 (prs []) := World.ownsRow_made W2 #[] 0 (Nat.le_refl _) (Nat.zero_le _) rfl
      have hz3 : W2.heap.size ≤ (W2.alloc (.cells #[] 43)).heap.size := by simp
      generalize W2.alloc (.cells #[] 43) = W3 at bs k3 ho hz3
      obtain ⟨v4, W4, qs, ap, ho4, hpa, gr⟩ := app_tree2 ho ha k3 (by omega) hz3 27
      have k4 : Kept (fun _ => False) w W4 := grown_kept k3 gr (fun k e => by have := (World.ownsRow.lt ho k e).1; exact Nat.le_trans k12.size this)
      rw [Nat.zero_add, List.nil_append] at ho4
      have ht4 : TreeAt W4 v4 la := TreeAt.of_row ho4 (hpa.kept k4)
      obtain ⟨a4, c4, hv4⟩ := ht4.slc
      subst hv4
      clear ho ho4 hpa gr k3
      generalize W2.heap.size = B2 at bs ap
      go_wp2_with (first
        | (with_reducible refine wpl_bslice 27 _ _ rfl rfl ?_ bs ?_
           · (go_simp <;> rfl)
           simp only [Act.put, List.getElem_toArray, List.getElem_cons_zero, List.getElem_cons_succ, List.setIfInBounds_toArray, List.set_cons_zero, List.set_cons_succ])
        | (refine wpl_val rfl (exec_append2 27 27 _ _ rfl rfl rfl ap) ?_))
      clear bs ap
      go_loopw [7] (fun si wr => ∃ k : Nat, k ≤ lb.length ∧ si = .int .i64 k ∧ Hid (∀ g ∈ lb.take k, ∀ f ∈ la, f.path ≠ g.path) ∧ Kept (fun _ => False) W4 wr) (fun si _ => lb.length - (intOf si).toNat)
      case atStart => exact ⟨0, by omega, rfl, (fun g hg => by simp at hg : ∀ g ∈ lb.take 0, ∀ f ∈ la, f.path ≠ g.path), Kept.refl _ _⟩
      case round =>
        obtain ⟨k, hk, rfl, HN, hkr⟩ := hrel
        by_cases hlt : k < lb.length
        · have hga := List.getElem?_eq_getElem hlt
          have htk : lb.take (k + 1) = lb.take k ++ [lb[k]] := List.take_succ_eq_append_getElem hlt
          generalize lb[k] = g at hga htk
          obtain ⟨hgs, b1, o1, y, rfl, hbl, hrx, hBg⟩ := hb.file hga
          have q0 : wr.cell? ⟨b1, o1 + k * 2, none⟩ = some (.string g.path) := ((k4.trans hkr).cell (p := ⟨b1, o1 + k * 2, none⟩) hbl not_false).trans (hrx 0 _ rfl)
          have HG := Lib.hid (And.intro hga htk)
          clear hrx hBg hga htk
          go_wp2_with fail
          refine (rFind_ct (ha.kept (k4.trans hkr)) g.path).mono ?_
          rintro e W5 ⟨z, rfl, hz, k5⟩
          rcases hz with ⟨i, f, rfl, hf, hfg⟩ | ⟨rfl, hz⟩
          · have hc7 := joinC_dup HM.out.1 HM.out.2 (List.mem_of_getElem? hf) (List.mem_of_getElem? HG.out.1) hfg
            have HC7 := Lib.hid (HCZ.out.1.trans hc7)
            have d1 : decide ((0 : Int) ≤ (i : Int)) = true := decide_eq_true (by omega)
            clear hf hfg hc7
            go_wp2_with fail
            go_ret2
            exact ⟨.inl ⟨by rw [HC7.out]; omega, by rw [HC7.out]; rfl⟩, (k4.trans hkr).trans k5⟩
          · have HN2 : Hid (∀ x ∈ lb.take (k + 1), ∀ f ∈ la, f.path ≠ x.path) := by
              intro x hx f hf
              rw [HG.out.2] at hx
              rcases List.mem_append.1 hx with q | q
              · exact HN.out x q f hf
              · simp at q; subst q; exact hz f hf
            clear hz
            go_wp2_with fail
            go_roundw
            case rel => exact ⟨k + 1, by omega, by go_num, HN2, hkr.trans k5⟩
            case measure => simp [intOf]; omega
        · obtain rfl : k = lb.length := by omega
          have HNN : Hid (∀ g ∈ lb, ∀ f ∈ la, f.path ≠ g.path) := by have := HN.out; rw [List.take_length] at this; exact this
          clear HN
          have k5 := k4.trans hkr
          have ht5 := ht4.kept hkr
          generalize wr = W5 at k5 ht5 ⊢
          clear ht4 hkr
          go_wp2_with fail
          go_loopw [6, 8] (fun so si wr => ∃ (k : Nat) (o : List FileE), k ≤ lb.length ∧ si = .int .i64 k ∧ (∃ aa cc, so = .slice aa o.length cc) ∧ o.length ≤ 16 + k ∧ Hid (TreeAt wr so o ∧ o.Pairwise ltF ∧ o.Perm (la ++ lb.take k)) ∧ Kept (fun _ => False) W5 wr) (fun _ si _ => lb.length - (intOf si).toNat)
          case atStart => exact ⟨0, la, by omega, rfl, ⟨_, _, rfl⟩, by omega, ⟨ht5, (mayB_iff.1 HM.out.1).2.2.1, by simp⟩, Kept.refl _ _⟩
          case round =>
            obtain ⟨k, o, hk, rfl, ⟨aa, cc, rfl⟩, hol, HO, hkr⟩ := hrel
            by_cases hlt : k < lb.length
            · have hga := List.getElem?_eq_getElem hlt
              have htk : lb.take (k + 1) = lb.take k ++ [lb[k]] := List.take_succ_eq_append_getElem hlt
              have hnew : ∀ x ∈ o, x.path ≠ lb[k].path := by
                intro x hx
                rcases List.mem_append.1 (HO.out.2.2.mem_iff.1 hx) with q | q
                · exact HNN.out _ (List.getElem_mem hlt) x q
                · obtain ⟨i, hi, rfl⟩ := List.getElem_of_mem q
                  have hi' : i < k := by rw [List.length_take] at hi; omega
                  rw [List.getElem_take]
                  have := (List.pairwise_iff_getElem.1 (mayB_iff.1 HM.out.2).2.2.1) i k (by omega) hlt hi'
                  intro e
                  unfold ltF at this
                  rw [e, ltB_irrefl] at this; cases this
              generalize lb[k] = g at hga htk hnew
              obtain ⟨hgs, b1, o1, y, rfl, hbl, hrx, hBg⟩ := hb.file hga
              obtain ⟨ag, cg, rfl⟩ := hBg.slc
              have ldg := load_file (rangeAt_stay (k5.trans hkr) hbl not_false hrx)
              have pc := rPut_ct HO.out.1 hgs (hBg.kept (k5.trans hkr)) (by omega)
              obtain ⟨p1, p2⟩ := put_new (f := g) HO.out.2.1 hnew
              have hge : (⟨g.path, g.bytes⟩ : FileE) = g := rfl
              rw [hge] at pc
              have HP : Hid ((putL o g).Pairwise ltF ∧ (putL o g).Perm (la ++ lb.take (k + 1)) ∧ (putL o g).length = o.length + 1) := ⟨p1, by
                rw [htk, ← List.append_assoc]
                exact p2.trans ((HO.out.2.2.cons g).trans (List.perm_append_singleton g _).symm), by rw [p2.length_eq]; rfl⟩
              clear hrx hBg hga htk hnew p1 p2 hge
              generalize putL o g = o2 at pc HP
              go_wp2_with (first
                | (with_reducible refine wpl_load 43 _ rfl rfl ?_ ldg ?_
                   · rfl
                   simp only [Act.put, List.getElem_toArray, List.getElem_cons_zero, List.getElem_cons_succ, List.setIfInBounds_toArray, List.set_cons_zero, List.set_cons_succ]))
              refine pc.mono ?_
              rintro e W6 ⟨v6, rfl, h6, k6⟩
              obtain ⟨a6, c6, hv6⟩ := h6.slc
              subst hv6
              have h6 := Lib.hid h6
              clear pc ldg
              go_wp2_with fail
              go_roundw
              case rel => exact ⟨k + 1, o2, by omega, by go_num, ⟨_, _, rfl⟩, by have := HP.out.2.2; omega, ⟨h6.out, HP.out.1, HP.out.2.1⟩, hkr.trans k6⟩
              case measure => simp [intOf]; omega
            · obtain rfl : k = lb.length := by omega
              have hOO := HO.out
              rw [List.take_length] at hOO
              obtain ⟨j1, j2⟩ := joinC_new HM.out.1 HM.out.2 hOO.2.1 hOO.2.2
              have md := rMade_ct hOO.1
              have HJ := Lib.hid (And.intro j1 j2)
              have HT := Lib.hid hOO.1
              clear hOO HO j1 j2
              go_wp2_with fail
              refine md.mono ?_
              rintro e W7 ⟨hr, k7⟩
              rcases hr with ⟨hm, rfl⟩ | ⟨hm, rfl⟩
              · go_wp2_with fail
                go_ret2
                exact ⟨.inr ⟨by rw [HCZ.out.1, HJ.out.2, hm]; rfl, _, rfl, by rw [HCZ.out.2, HJ.out.1]; exact HT.out.kept k7⟩, (k5.trans hkr).trans k7⟩
              · go_wp2_with fail
                go_ret2
                exact ⟨.inl ⟨by rw [HCZ.out.1, HJ.out.2, hm]; simp, by rw [HCZ.out.1, HJ.out.2, hm]; rfl⟩, (k5.trans hkr).trans k7⟩
end Go.Proofs.Ytehpaddddiigbaa
