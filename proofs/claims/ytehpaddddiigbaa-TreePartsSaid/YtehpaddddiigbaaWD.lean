/- Join: in memory of its own. -/
import Derived.Test.YtehpaddddiigbaaWB
import Derived.Test.YtehpaddddiigbaaVM
namespace Go.Proofs.Ytehpaddddiigbaa
open Go.RowKit
set_option linter.unusedSimpArgs false
set_option linter.unusedVariables false

def JoinIsS (base : Nat) (l m : List FileE) (w : World) (e : Ending) : Prop :=
  ((mayB l && mayB m) = false ∧ e = .returned (.tuple #[.slice none 0 0, .int .i64 2])) ∨
  ((mayB l && mayB m) = true ∧ ∃ o : List FileE, o.Perm (l ++ m) ∧ o.Pairwise leF ∧
    ((dupTo o o.length = true ∧ e = .returned (.tuple #[.slice none 0 0, .int .i64 7])) ∨
     (dupTo o o.length = false ∧ mayB o = false ∧ e = .returned (.tuple #[.slice none 0 0, .int .i64 8])) ∨
     (dupTo o o.length = false ∧ mayB o = true ∧ ∃ v', e = .returned (.tuple #[v', .int .i64 0]) ∧ TreeAt w v' o ∧ OwnT base w v' o.length)))

set_option maxRecDepth 100000 in
set_option maxHeartbeats 4000000 in
theorem join_ctS {w : World} {va vb : Value} {la lb : List FileE} (ha : TreeAt w va la) (hb : TreeAt w vb lb) :
    Calls Try.prog 24 #[va, vb] w fun e w' => JoinIsS w.heap.size la lb w' e ∧ Kept (fun _ => False) w w' := by
  have mc := may_ct ha
  have md := fun w' (k : Kept (fun _ => False) w w') => may_ct (hb.kept k)
  cases hm : mayB la with
  | false =>
    rw [hm] at mc
    obtain ⟨a, c, hv⟩ := ha.slc
    subst hv
    obtain ⟨a2, c2, hx⟩ := hb.slc
    subst hx
    go_enter Try.func24, Try.ntmps24
    go_wp2_with fail
    refine (mc).mono ?_
    rintro e W ⟨rfl, k1⟩
    go_wp2_with fail
    go_ret2
    exact ⟨.inl ⟨by rw [hm]; rfl, rfl⟩, k1⟩
  | true =>
    rw [hm] at mc
    cases hm2 : mayB lb with
    | false =>
      rw [hm2] at md
      obtain ⟨a, c, hv⟩ := ha.slc
      subst hv
      obtain ⟨a2, c2, hx⟩ := hb.slc
      subst hx
      have HM := Lib.hid hm2
      clear hm hm2
      go_enter Try.func24, Try.ntmps24
      go_wp2_with fail
      refine (mc).mono ?_
      rintro e W ⟨rfl, k1⟩
      go_wp2_with fail
      refine (md _ k1).mono ?_
      rintro e W2 ⟨rfl, k2⟩
      go_wp2_with fail
      go_ret2
      exact ⟨.inl ⟨by rw [HM.out, Bool.and_false], rfl⟩, k1.trans k2⟩
    | true =>
      rw [hm2] at md
      have hla := (mayIs hm).len
      have hlb := (mayIs hm2).len
      have HMM : Hid ((mayB la && mayB lb) = true) := by unfold Hid; rw [hm, hm2]; rfl
      obtain ⟨a, c, hv⟩ := ha.slc
      subst hv
      obtain ⟨a2, c2, hx⟩ := hb.slc
      subst hx
      clear hm hm2
      go_enter Try.func24, Try.ntmps24
      go_wp2_with fail
      refine (mc).mono ?_
      rintro e W ⟨rfl, k1⟩
      go_wp2_with fail
      refine (md _ k1).mono ?_
      rintro e W2 ⟨rfl, k2⟩
      have k12 := k1.trans k2
      clear mc md k1 k2
      have bs := bslice_t2 a a2 la.length c lb.length c2 W2
      have hgb := heap_last W2 (.cells #[.slice a la.length c, .slice a2 lb.length c2] 27)
      have k3 : Kept (fun _ => False) w (W2.alloc (.cells #[.slice a la.length c, .slice a2 lb.length c2] 27)) := k12.alloc _
      generalize W2.alloc (.cells #[.slice a la.length c, .slice a2 lb.length c2] 27) = W3 at bs hgb k3
      have cc := concat_ct (ha.kept k3) (hb.kept k3) (by omega) (by omega) hgb
      generalize W2.heap.size = gb at bs cc hgb
      go_wp2_with (first
        | (with_reducible refine wpl_bslice 50 _ _ rfl rfl ?_ bs ?_
           · (go_simp <;> rfl)
           simp only [Act.put, List.getElem_toArray, List.getElem_cons_zero, List.getElem_cons_succ, List.setIfInBounds_toArray, List.set_cons_zero, List.set_cons_succ]))
      refine cc.mono ?_
      rintro e W4 ⟨v4, ps, rfl, ho, hps, k34⟩
      have k4 := k3.trans k34
      have hpl : ps.length ≤ 32 := by have := hps.1; rw [List.length_append] at this; omega
      have sc := sort_ct ho hps.one (by omega)
      obtain ⟨a4, c4, hv4⟩ := row_form ho
      subst hv4
      unfold FJ at sc
      clear cc bs hgb
      go_wp2_with fail
      refine sc.mono ?_
      rintro e W5 ⟨rfl, ⟨qs, ho5, hperm, hsrt⟩, k45⟩
      have k35 : Kept (fun _ => False) W3 W5 := k34.trans' k45 (fun k hk q => by omega)
      have k5 := k3.trans k35
      obtain ⟨o, hop, hpo⟩ := PairsAt.perm hperm hps
      have hso := sorted_paths hpo hsrt
      have hql : qs.length = ps.length := hperm.length_eq
      have hol : o.length = ps.length := by have := hpo.1; omega
      have ht5 : TreeAt W5 (.slice a4 ps.length c4) o := TreeAt.of_row ho5 (hpo.kept k35)
      rw [← hol] at ht5
      have HP := Lib.hid (And.intro hop hso)
      have hol32 : o.length ≤ 32 := by omega
      rw [← hol]
      clear sc ho ho5 hperm hsrt hpo hps hop hso hql k45
      have HOL := Lib.hid hol
      clear hol
      go_wp2_with fail
      go_loopw [24] (fun i wr => ∃ k : Nat, k ≤ o.length ∧ i = .int .i64 k ∧ dupTo o k = false ∧ Kept (fun _ => False) W5 wr) (fun i _ => o.length - (intOf i).toNat)
      case atStart => exact ⟨0, by omega, rfl, rfl, Kept.refl _ _⟩
      case round =>
        obtain ⟨k, hk, rfl, hdk, hkr⟩ := hrel
        have DK := Lib.hid hdk
        clear hdk
        by_cases hlt : k < o.length
        · have hf : o[k]? = some o[k] := List.getElem?_eq_getElem hlt
          generalize o[k] = f at hf
          obtain ⟨hps, b, q, x, rfl, hbl, hrx, hB⟩ := (ht5.kept hkr).file hf
          have q0 : ∀ w', Kept (fun _ => False) wr w' → w'.cell? ⟨b, q + k * 2, none⟩ = some (.string f.path) := fun w' z => (z.cell (p := ⟨b, q + k * 2, none⟩) hbl not_false).trans (hrx 0 _ rfl)
          cases k with
          | zero =>
            clear hrx hB hf
            go_wp2_with fail
            refine wp_region_held_drew (S := (Kept (fun _ => False) wr)) (by kernel_rfl) ((Kept.refl _ wr).drew) (fun hHeld => ?_)
            refine held_q (v := ?_) (i := 0) rfl (by kernel_rfl) (by kernel_rfl) (by kernel_rfl) (fun _ _ _ h => h) (by rfl) hHeld ?_ ?_
            rotate_left
            · (intro w' hS'; go_simp <;> (with_reducible rfl))
            simp only [Act.put, List.getElem_toArray, List.getElem_cons_zero, List.getElem_cons_succ, List.setIfInBounds_toArray, List.set_cons_zero, List.set_cons_succ]
            refine held_q (v := ?_) (i := 1) rfl (by kernel_rfl) (by kernel_rfl) (by kernel_rfl) (fun _ _ _ h => h) (by rfl) hHeld ?_ ?_
            rotate_left
            · (intro w' hS'; go_simp <;> (with_reducible rfl))
            simp only [Act.put, List.getElem_toArray, List.getElem_cons_zero, List.getElem_cons_succ, List.setIfInBounds_toArray, List.set_cons_zero, List.set_cons_succ]
            refine held_q (v := ?_) (i := 2) rfl (by kernel_rfl) (by kernel_rfl) (by kernel_rfl) (fun _ _ _ h => h) (by rfl) hHeld ?_ ?_
            rotate_left
            · (intro w' hS'; go_simp <;> (with_reducible rfl))
            simp only [Act.put, List.getElem_toArray, List.getElem_cons_zero, List.getElem_cons_succ, List.setIfInBounds_toArray, List.set_cons_zero, List.set_cons_succ]
            refine held_no (i := 3) rfl (by kernel_rfl) (by kernel_rfl) (by kernel_rfl) (fun _ _ _ h => h) (by rfl) hHeld ?_
            simp only [Act.put, List.getElem_toArray, List.getElem_cons_zero, List.getElem_cons_succ, List.setIfInBounds_toArray, List.set_cons_zero, List.set_cons_succ]
            refine held_no (i := 4) rfl (by kernel_rfl) (by kernel_rfl) (by kernel_rfl) (fun _ _ _ h => h) (by rfl) hHeld ?_
            simp only [Act.put, List.getElem_toArray, List.getElem_cons_zero, List.getElem_cons_succ, List.setIfInBounds_toArray, List.set_cons_zero, List.set_cons_succ]
            refine held_no (i := 5) rfl (by kernel_rfl) (by kernel_rfl) (by kernel_rfl) (fun _ _ _ h => h) (by rfl) hHeld ?_
            simp only [Act.put, List.getElem_toArray, List.getElem_cons_zero, List.getElem_cons_succ, List.setIfInBounds_toArray, List.set_cons_zero, List.set_cons_succ]
            refine held_no (i := 6) rfl (by kernel_rfl) (by kernel_rfl) (by kernel_rfl) (fun _ _ _ h => h) (by rfl) hHeld ?_
            simp only [Act.put, List.getElem_toArray, List.getElem_cons_zero, List.getElem_cons_succ, List.setIfInBounds_toArray, List.set_cons_zero, List.set_cons_succ]
            refine held_no (i := 7) rfl (by kernel_rfl) (by kernel_rfl) (by kernel_rfl) (fun _ _ _ h => h) (by rfl) hHeld ?_
            simp only [Act.put, List.getElem_toArray, List.getElem_cons_zero, List.getElem_cons_succ, List.setIfInBounds_toArray, List.set_cons_zero, List.set_cons_succ]
            refine held_no (i := 8) rfl (by kernel_rfl) (by kernel_rfl) (by kernel_rfl) (fun _ _ _ h => h) (by rfl) hHeld ?_
            simp only [Act.put, List.getElem_toArray, List.getElem_cons_zero, List.getElem_cons_succ, List.setIfInBounds_toArray, List.set_cons_zero, List.set_cons_succ]
            refine held_no (i := 9) rfl (by kernel_rfl) (by kernel_rfl) (by kernel_rfl) (fun _ _ _ h => h) (by rfl) hHeld ?_
            simp only [Act.put, List.getElem_toArray, List.getElem_cons_zero, List.getElem_cons_succ, List.setIfInBounds_toArray, List.set_cons_zero, List.set_cons_succ]
            refine held_no (i := 10) rfl (by kernel_rfl) (by kernel_rfl) (by kernel_rfl) (fun _ _ _ h => h) (by rfl) hHeld ?_
            simp only [Act.put, List.getElem_toArray, List.getElem_cons_zero, List.getElem_cons_succ, List.setIfInBounds_toArray, List.set_cons_zero, List.set_cons_succ]
            refine held_no (i := 11) rfl (by kernel_rfl) (by kernel_rfl) (by kernel_rfl) (fun _ _ _ h => h) (by rfl) hHeld ?_
            simp only [Act.put, List.getElem_toArray, List.getElem_cons_zero, List.getElem_cons_succ, List.setIfInBounds_toArray, List.set_cons_zero, List.set_cons_succ]
            refine held_no (i := 12) rfl (by kernel_rfl) (by kernel_rfl) (by kernel_rfl) (fun _ _ _ h => h) (by rfl) hHeld ?_
            simp only [Act.put, List.getElem_toArray, List.getElem_cons_zero, List.getElem_cons_succ, List.setIfInBounds_toArray, List.set_cons_zero, List.set_cons_succ]
            refine held_no (i := 13) rfl (by kernel_rfl) (by kernel_rfl) (by kernel_rfl) (fun _ _ _ h => h) (by rfl) hHeld ?_
            simp only [Act.put, List.getElem_toArray, List.getElem_cons_zero, List.getElem_cons_succ, List.setIfInBounds_toArray, List.set_cons_zero, List.set_cons_succ]
            refine held_no (i := 14) rfl (by kernel_rfl) (by kernel_rfl) (by kernel_rfl) (fun _ _ _ h => h) (by rfl) hHeld ?_
            simp only [Act.put, List.getElem_toArray, List.getElem_cons_zero, List.getElem_cons_succ, List.setIfInBounds_toArray, List.set_cons_zero, List.set_cons_succ]
            refine held_q (v := ?_) (i := 15) rfl (by kernel_rfl) (by kernel_rfl) (by kernel_rfl) (fun _ _ _ h => h) (by rfl) hHeld ?_ ?_
            rotate_left
            · (intro w' hS'; go_simp <;> (with_reducible rfl))
            simp only [Act.put, List.getElem_toArray, List.getElem_cons_zero, List.getElem_cons_succ, List.setIfInBounds_toArray, List.set_cons_zero, List.set_cons_succ]
            refine wpAnyH_done (by kernel_rfl) ?_ _
            go_wp2_with fail
            go_roundw
            case rel => exact ⟨0 + 1, by omega, by go_num, rfl, hkr.trans hHeld⟩
            case measure => simp [intOf]; omega
          | succ j =>
            have hg : o[j]? = some o[j] := List.getElem?_eq_getElem (by omega)
            generalize o[j] = g at hg
            obtain ⟨_, b', q', x', e', _, hrx', _⟩ := (ht5.kept hkr).file hg
            injection e' with e'
            injection e' with e1 e2 _
            subst e1
            subst e2
            have q1 : ∀ w', Kept (fun _ => False) wr w' → w'.cell? ⟨b, q + j * 2, none⟩ = some (.string g.path) := fun w' z => (z.cell (p := ⟨b, q + j * 2, none⟩) hbl not_false).trans (hrx' 0 _ rfl)
            have hda : dupAt o (j + 1) = (g.path.toList == f.path.toList) := by simp only [dupAt, hg, hf]; rfl
            have wj : IntKind.i64.wrap (j : Int) = (j : Int) := IntWalk.i64_in _ (by omega)
            have jl : (j : Int) < (o.length : Int) := by omega
            have jl1 : (j : Int) + 1 < (o.length : Int) := by omega
            have j0 : (0 : Int) < (j : Int) + 1 := by omega
            have j00 : (0 : Int) ≤ (j : Int) + 1 := by omega
            have jn : j + 1 < o.length := hlt
            have jn2 : j < o.length := by omega
            have HD := Lib.hid hda
            clear hrx hB hf hg hrx' hda
            generalize hpe : (g.path.toList == f.path.toList) = pe at HD
            have HN : Hid (dupTo o (j + 1 + 1) = pe) := by
              unfold Hid
              conv => lhs; unfold dupTo
              rw [DK.out, HD.out]; simp
            cases pe with
            | false =>
              go_wp2_with fail
              refine wp_region_held_drew (S := (Kept (fun _ => False) wr)) (by kernel_rfl) ((Kept.refl _ wr).drew) (fun hHeld => ?_)
              refine held_q (v := ?_) (i := 0) rfl (by kernel_rfl) (by kernel_rfl) (by kernel_rfl) (fun _ _ _ h => h) (by rfl) hHeld ?_ ?_
              rotate_left
              · (intro w' hS'; go_simp <;> (with_reducible rfl))
              simp only [Act.put, List.getElem_toArray, List.getElem_cons_zero, List.getElem_cons_succ, List.setIfInBounds_toArray, List.set_cons_zero, List.set_cons_succ]
              refine held_q (v := ?_) (i := 1) rfl (by kernel_rfl) (by kernel_rfl) (by kernel_rfl) (fun _ _ _ h => h) (by rfl) hHeld ?_ ?_
              rotate_left
              · (intro w' hS'; go_simp <;> (with_reducible rfl))
              simp only [Act.put, List.getElem_toArray, List.getElem_cons_zero, List.getElem_cons_succ, List.setIfInBounds_toArray, List.set_cons_zero, List.set_cons_succ]
              refine held_q (v := ?_) (i := 2) rfl (by kernel_rfl) (by kernel_rfl) (by kernel_rfl) (fun _ _ _ h => h) (by rfl) hHeld ?_ ?_
              rotate_left
              · (intro w' hS'; go_simp <;> (with_reducible rfl))
              simp only [Act.put, List.getElem_toArray, List.getElem_cons_zero, List.getElem_cons_succ, List.setIfInBounds_toArray, List.set_cons_zero, List.set_cons_succ]
              refine held_q (v := ?_) (i := 3) rfl (by kernel_rfl) (by kernel_rfl) (by kernel_rfl) (fun _ _ _ h => h) (by rfl) hHeld ?_ ?_
              rotate_left
              · (intro w' hS'; go_simp <;> (with_reducible rfl))
              simp only [Act.put, List.getElem_toArray, List.getElem_cons_zero, List.getElem_cons_succ, List.setIfInBounds_toArray, List.set_cons_zero, List.set_cons_succ]
              refine held_q (v := ?_) (i := 4) rfl (by kernel_rfl) (by kernel_rfl) (by kernel_rfl) (fun _ _ _ h => h) (by rfl) hHeld ?_ ?_
              rotate_left
              · (intro w' hS'; go_simp <;> (with_reducible rfl))
              simp only [Act.put, List.getElem_toArray, List.getElem_cons_zero, List.getElem_cons_succ, List.setIfInBounds_toArray, List.set_cons_zero, List.set_cons_succ]
              refine held_q (v := ?_) (i := 5) rfl (by kernel_rfl) (by kernel_rfl) (by kernel_rfl) (fun _ _ _ h => h) (by rfl) hHeld ?_ ?_
              rotate_left
              · (intro w' hS'; go_simp <;> (with_reducible rfl))
              simp only [Act.put, List.getElem_toArray, List.getElem_cons_zero, List.getElem_cons_succ, List.setIfInBounds_toArray, List.set_cons_zero, List.set_cons_succ]
              refine held_q (v := ?_) (i := 6) rfl (by kernel_rfl) (by kernel_rfl) (by kernel_rfl) (fun _ _ _ h => h) (by rfl) hHeld ?_ ?_
              rotate_left
              · (intro w' hS'; go_simp <;> (with_reducible rfl))
              simp only [Act.put, List.getElem_toArray, List.getElem_cons_zero, List.getElem_cons_succ, List.setIfInBounds_toArray, List.set_cons_zero, List.set_cons_succ]
              refine held_q (v := ?_) (i := 7) rfl (by kernel_rfl) (by kernel_rfl) (by kernel_rfl) (fun _ _ _ h => h) (by rfl) hHeld ?_ ?_
              rotate_left
              · (intro w' hS'; go_simp <;> (with_reducible rfl))
              simp only [Act.put, List.getElem_toArray, List.getElem_cons_zero, List.getElem_cons_succ, List.setIfInBounds_toArray, List.set_cons_zero, List.set_cons_succ]
              refine held_q (v := ?_) (i := 8) rfl (by kernel_rfl) (by kernel_rfl) (by kernel_rfl) (fun _ _ _ h => h) (by rfl) hHeld ?_ ?_
              rotate_left
              · (intro w' hS'; go_simp <;> (with_reducible rfl))
              simp only [Act.put, List.getElem_toArray, List.getElem_cons_zero, List.getElem_cons_succ, List.setIfInBounds_toArray, List.set_cons_zero, List.set_cons_succ]
              refine held_q (v := ?_) (i := 9) rfl (by kernel_rfl) (by kernel_rfl) (by kernel_rfl) (fun _ _ _ h => h) (by rfl) hHeld ?_ ?_
              rotate_left
              · (intro w' hS'; go_simp <;> (with_reducible rfl))
              simp only [Act.put, List.getElem_toArray, List.getElem_cons_zero, List.getElem_cons_succ, List.setIfInBounds_toArray, List.set_cons_zero, List.set_cons_succ]
              refine held_q (v := ?_) (i := 10) rfl (by kernel_rfl) (by kernel_rfl) (by kernel_rfl) (fun _ _ _ h => h) (by rfl) hHeld ?_ ?_
              rotate_left
              · (intro w' hS'; go_simp <;> (with_reducible rfl))
              simp only [Act.put, List.getElem_toArray, List.getElem_cons_zero, List.getElem_cons_succ, List.setIfInBounds_toArray, List.set_cons_zero, List.set_cons_succ]
              refine held_q (v := ?_) (i := 11) rfl (by kernel_rfl) (by kernel_rfl) (by kernel_rfl) (fun _ _ _ h => h) (by rfl) hHeld ?_ ?_
              rotate_left
              · (intro w' hS'; go_simp <;> (with_reducible rfl))
              simp only [Act.put, List.getElem_toArray, List.getElem_cons_zero, List.getElem_cons_succ, List.setIfInBounds_toArray, List.set_cons_zero, List.set_cons_succ]
              refine held_q (v := ?_) (i := 12) rfl (by kernel_rfl) (by kernel_rfl) (by kernel_rfl) (fun _ _ _ h => h) (by rfl) hHeld ?_ ?_
              rotate_left
              · (intro w' hS'; go_simp <;> (with_reducible rfl))
              simp only [Act.put, List.getElem_toArray, List.getElem_cons_zero, List.getElem_cons_succ, List.setIfInBounds_toArray, List.set_cons_zero, List.set_cons_succ]
              refine held_q (v := ?_) (i := 13) rfl (by kernel_rfl) (by kernel_rfl) (by kernel_rfl) (fun _ _ _ h => h) (by rfl) hHeld ?_ ?_
              rotate_left
              · (intro w' hS'; go_simp <;> (with_reducible rfl))
              simp only [Act.put, List.getElem_toArray, List.getElem_cons_zero, List.getElem_cons_succ, List.setIfInBounds_toArray, List.set_cons_zero, List.set_cons_succ]
              refine held_q (v := ?_) (i := 14) rfl (by kernel_rfl) (by kernel_rfl) (by kernel_rfl) (fun _ _ _ h => h) (by rfl) hHeld ?_ ?_
              rotate_left
              · (intro w' hS'; go_simp <;> (with_reducible rfl))
              simp only [Act.put, List.getElem_toArray, List.getElem_cons_zero, List.getElem_cons_succ, List.setIfInBounds_toArray, List.set_cons_zero, List.set_cons_succ]
              refine held_q (v := ?_) (i := 15) rfl (by kernel_rfl) (by kernel_rfl) (by kernel_rfl) (fun _ _ _ h => h) (by rfl) hHeld ?_ ?_
              rotate_left
              · (intro w' hS'; go_simp <;> (with_reducible rfl))
              simp only [Act.put, List.getElem_toArray, List.getElem_cons_zero, List.getElem_cons_succ, List.setIfInBounds_toArray, List.set_cons_zero, List.set_cons_succ]
              refine wpAnyH_done (by kernel_rfl) ?_ _
              go_wp2_with fail
              go_roundw
              case rel => exact ⟨j + 1 + 1, by omega, by go_num, HN.out, hkr.trans hHeld⟩
              case measure => simp [intOf]; omega
            | true =>
              have HY := Lib.hid (dupTo_yes HD.out o.length hlt)
              go_wp2_with fail
              refine wp_region_held_drew (S := (Kept (fun _ => False) wr)) (by kernel_rfl) ((Kept.refl _ wr).drew) (fun hHeld => ?_)
              refine held_q (v := ?_) (i := 0) rfl (by kernel_rfl) (by kernel_rfl) (by kernel_rfl) (fun _ _ _ h => h) (by rfl) hHeld ?_ ?_
              rotate_left
              · (intro w' hS'; go_simp <;> (with_reducible rfl))
              simp only [Act.put, List.getElem_toArray, List.getElem_cons_zero, List.getElem_cons_succ, List.setIfInBounds_toArray, List.set_cons_zero, List.set_cons_succ]
              refine held_q (v := ?_) (i := 1) rfl (by kernel_rfl) (by kernel_rfl) (by kernel_rfl) (fun _ _ _ h => h) (by rfl) hHeld ?_ ?_
              rotate_left
              · (intro w' hS'; go_simp <;> (with_reducible rfl))
              simp only [Act.put, List.getElem_toArray, List.getElem_cons_zero, List.getElem_cons_succ, List.setIfInBounds_toArray, List.set_cons_zero, List.set_cons_succ]
              refine held_q (v := ?_) (i := 2) rfl (by kernel_rfl) (by kernel_rfl) (by kernel_rfl) (fun _ _ _ h => h) (by rfl) hHeld ?_ ?_
              rotate_left
              · (intro w' hS'; go_simp <;> (with_reducible rfl))
              simp only [Act.put, List.getElem_toArray, List.getElem_cons_zero, List.getElem_cons_succ, List.setIfInBounds_toArray, List.set_cons_zero, List.set_cons_succ]
              refine held_q (v := ?_) (i := 3) rfl (by kernel_rfl) (by kernel_rfl) (by kernel_rfl) (fun _ _ _ h => h) (by rfl) hHeld ?_ ?_
              rotate_left
              · (intro w' hS'; go_simp <;> (with_reducible rfl))
              simp only [Act.put, List.getElem_toArray, List.getElem_cons_zero, List.getElem_cons_succ, List.setIfInBounds_toArray, List.set_cons_zero, List.set_cons_succ]
              refine held_q (v := ?_) (i := 4) rfl (by kernel_rfl) (by kernel_rfl) (by kernel_rfl) (fun _ _ _ h => h) (by rfl) hHeld ?_ ?_
              rotate_left
              · (intro w' hS'; go_simp <;> (with_reducible rfl))
              simp only [Act.put, List.getElem_toArray, List.getElem_cons_zero, List.getElem_cons_succ, List.setIfInBounds_toArray, List.set_cons_zero, List.set_cons_succ]
              refine held_q (v := ?_) (i := 5) rfl (by kernel_rfl) (by kernel_rfl) (by kernel_rfl) (fun _ _ _ h => h) (by rfl) hHeld ?_ ?_
              rotate_left
              · (intro w' hS'; go_simp <;> (with_reducible rfl))
              simp only [Act.put, List.getElem_toArray, List.getElem_cons_zero, List.getElem_cons_succ, List.setIfInBounds_toArray, List.set_cons_zero, List.set_cons_succ]
              refine held_q (v := ?_) (i := 6) rfl (by kernel_rfl) (by kernel_rfl) (by kernel_rfl) (fun _ _ _ h => h) (by rfl) hHeld ?_ ?_
              rotate_left
              · (intro w' hS'; go_simp <;> (with_reducible rfl))
              simp only [Act.put, List.getElem_toArray, List.getElem_cons_zero, List.getElem_cons_succ, List.setIfInBounds_toArray, List.set_cons_zero, List.set_cons_succ]
              refine held_q (v := ?_) (i := 7) rfl (by kernel_rfl) (by kernel_rfl) (by kernel_rfl) (fun _ _ _ h => h) (by rfl) hHeld ?_ ?_
              rotate_left
              · (intro w' hS'; go_simp <;> (with_reducible rfl))
              simp only [Act.put, List.getElem_toArray, List.getElem_cons_zero, List.getElem_cons_succ, List.setIfInBounds_toArray, List.set_cons_zero, List.set_cons_succ]
              refine held_q (v := ?_) (i := 8) rfl (by kernel_rfl) (by kernel_rfl) (by kernel_rfl) (fun _ _ _ h => h) (by rfl) hHeld ?_ ?_
              rotate_left
              · (intro w' hS'; go_simp <;> (with_reducible rfl))
              simp only [Act.put, List.getElem_toArray, List.getElem_cons_zero, List.getElem_cons_succ, List.setIfInBounds_toArray, List.set_cons_zero, List.set_cons_succ]
              refine held_q (v := ?_) (i := 9) rfl (by kernel_rfl) (by kernel_rfl) (by kernel_rfl) (fun _ _ _ h => h) (by rfl) hHeld ?_ ?_
              rotate_left
              · (intro w' hS'; go_simp <;> (with_reducible rfl))
              simp only [Act.put, List.getElem_toArray, List.getElem_cons_zero, List.getElem_cons_succ, List.setIfInBounds_toArray, List.set_cons_zero, List.set_cons_succ]
              refine held_q (v := ?_) (i := 10) rfl (by kernel_rfl) (by kernel_rfl) (by kernel_rfl) (fun _ _ _ h => h) (by rfl) hHeld ?_ ?_
              rotate_left
              · (intro w' hS'; go_simp <;> (with_reducible rfl))
              simp only [Act.put, List.getElem_toArray, List.getElem_cons_zero, List.getElem_cons_succ, List.setIfInBounds_toArray, List.set_cons_zero, List.set_cons_succ]
              refine held_q (v := ?_) (i := 11) rfl (by kernel_rfl) (by kernel_rfl) (by kernel_rfl) (fun _ _ _ h => h) (by rfl) hHeld ?_ ?_
              rotate_left
              · (intro w' hS'; go_simp <;> (with_reducible rfl))
              simp only [Act.put, List.getElem_toArray, List.getElem_cons_zero, List.getElem_cons_succ, List.setIfInBounds_toArray, List.set_cons_zero, List.set_cons_succ]
              refine held_q (v := ?_) (i := 12) rfl (by kernel_rfl) (by kernel_rfl) (by kernel_rfl) (fun _ _ _ h => h) (by rfl) hHeld ?_ ?_
              rotate_left
              · (intro w' hS'; go_simp <;> (with_reducible rfl))
              simp only [Act.put, List.getElem_toArray, List.getElem_cons_zero, List.getElem_cons_succ, List.setIfInBounds_toArray, List.set_cons_zero, List.set_cons_succ]
              refine held_q (v := ?_) (i := 13) rfl (by kernel_rfl) (by kernel_rfl) (by kernel_rfl) (fun _ _ _ h => h) (by rfl) hHeld ?_ ?_
              rotate_left
              · (intro w' hS'; go_simp <;> (with_reducible rfl))
              simp only [Act.put, List.getElem_toArray, List.getElem_cons_zero, List.getElem_cons_succ, List.setIfInBounds_toArray, List.set_cons_zero, List.set_cons_succ]
              refine held_q (v := ?_) (i := 14) rfl (by kernel_rfl) (by kernel_rfl) (by kernel_rfl) (fun _ _ _ h => h) (by rfl) hHeld ?_ ?_
              rotate_left
              · (intro w' hS'; go_simp <;> (with_reducible rfl))
              simp only [Act.put, List.getElem_toArray, List.getElem_cons_zero, List.getElem_cons_succ, List.setIfInBounds_toArray, List.set_cons_zero, List.set_cons_succ]
              refine held_q (v := ?_) (i := 15) rfl (by kernel_rfl) (by kernel_rfl) (by kernel_rfl) (fun _ _ _ h => h) (by rfl) hHeld ?_ ?_
              rotate_left
              · (intro w' hS'; go_simp <;> (with_reducible rfl))
              simp only [Act.put, List.getElem_toArray, List.getElem_cons_zero, List.getElem_cons_succ, List.setIfInBounds_toArray, List.set_cons_zero, List.set_cons_succ]
              refine wpAnyH_done (by kernel_rfl) ?_ _
              go_wp2_with fail
              go_ret2
              exact ⟨.inr ⟨HMM.out, o, HP.out.1, HP.out.2, .inl ⟨HY.out, rfl⟩⟩, (k5.trans hkr).trans hHeld⟩
        · obtain rfl : k = o.length := by omega
          have ma := made_anyS (ht5.kept hkr)
          go_wp2_with fail
          refine ma.mono ?_
          rintro e W7 ⟨hr, k7⟩
          rcases hr with ⟨hm2, v', rfl, h7, hO7⟩ | ⟨hm2, rfl⟩
          · obtain ⟨a7, c7, hv7⟩ := h7.slc
            subst hv7
            go_wp2_with fail
            go_ret2
            exact ⟨.inr ⟨HMM.out, o, HP.out.1, HP.out.2, .inr (.inr ⟨DK.out, hm2, _, rfl, h7, hO7.low (k5.trans hkr).size⟩)⟩, (k5.trans hkr).trans k7⟩
          · go_wp2_with fail
            go_ret2
            exact ⟨.inr ⟨HMM.out, o, HP.out.1, HP.out.2, .inr (.inl ⟨DK.out, hm2, rfl⟩)⟩, (k5.trans hkr).trans k7⟩

def JoinOutS (base : Nat) (l m : List FileE) (w : World) (e : Ending) : Prop :=
  (joinC l m ≠ 0 ∧ e = .returned (.tuple #[.slice none 0 0, .int .i64 (joinC l m)])) ∨ (joinC l m = 0 ∧ ∃ v', e = .returned (.tuple #[v', .int .i64 0]) ∧ TreeAt w v' (joinO l m) ∧ OwnT base w v' (joinO l m).length)
theorem join_outS {base : Nat} {l m : List FileE} {w : World} {e : Ending} (h : JoinIsS base l m w e) : JoinOutS base l m w e := by
  rcases h with ⟨h1, he⟩ | ⟨h1, o, hp, hs, h2⟩
  · rcases join_out (.inl ⟨h1, he⟩ : JoinIs l m w e) with q | ⟨q, v', e1, _⟩
    · exact .inl q
    · rw [he] at e1; injection e1 with e1; injection e1 with e1; simp at e1
  · rcases h2 with ⟨h3, he⟩ | ⟨h3, h4, he⟩ | ⟨h3, h4, v', he, ht, hO⟩
    · rcases join_out (.inr ⟨h1, o, hp, hs, .inl ⟨h3, he⟩⟩ : JoinIs l m w e) with q | ⟨q, v', e1, _⟩
      · exact .inl q
      · rw [he] at e1; injection e1 with e1; injection e1 with e1; simp at e1
    · rcases join_out (.inr ⟨h1, o, hp, hs, .inr (.inl ⟨h3, h4, he⟩)⟩ : JoinIs l m w e) with q | ⟨q, v', e1, _⟩
      · exact .inl q
      · rw [he] at e1; injection e1 with e1; injection e1 with e1; simp at e1
    · obtain ⟨hd, he2⟩ := sorted_eq (strict_of hs h3) (joinO_sorted l m) ((joinO_perm l m).trans hp.symm)
      rcases join_out (.inr ⟨h1, o, hp, hs, .inr (.inr ⟨h3, h4, v', he, ht⟩)⟩ : JoinIs l m w e) with ⟨q, e1⟩ | ⟨q, v2, e1, t1⟩
      · have h1' := h1
        rw [Bool.and_eq_true] at h1'
        exact absurd (joined_c ⟨h1'.1, h1'.2, h4, hp⟩).1 q
      · refine .inr ⟨q, v', he, ?_, ?_⟩
        · rw [he2]; exact ht
        · rw [he2]; exact hO
theorem joined_ctS {w : World} {va vb : Value} {la lb : List FileE} (ha : TreeAt w va la) (hb : TreeAt w vb lb) :
    Calls Try.prog 24 #[va, vb] w fun e w' => JoinOutS w.heap.size la lb w' e ∧ Kept (fun _ => False) w w' :=
  (join_ctS ha hb).mono fun _ _ ⟨h1, h2⟩ => ⟨join_outS h1, h2⟩
end Go.Proofs.Ytehpaddddiigbaa
