/- The sort of a row of files; Join. -/
import Derived.Test.YtfohljljoalmoaaDoorVJ
namespace Go.Proofs.YtfohljljoalmoaaDoor
open Go.RowKit Go.Sort
set_option maxRecDepth 100000
set_option linter.unusedSimpArgs false
set_option linter.unusedVariables false

theorem prs_mem {ps : List (ByteArray × Value)} {p : ByteArray × Value} (h : p ∈ ps) : p.2 ∈ prs ps := by
  unfold prs
  rw [List.mem_flatMap]
  exact ⟨p, h, by simp⟩
def rowE (ps : List (ByteArray × Value)) (h : ∀ p ∈ ps, p.2.oneCell' = true) : Array E := (ps.pmap Subtype.mk h).toArray
theorem rowE_eps (ps : List (ByteArray × Value)) (h : ∀ p ∈ ps, p.2.oneCell' = true) : eps (rowE ps h) = ps := by
  unfold eps rowE
  rw [List.toList_toArray, List.map_pmap]
  simp
theorem rowE_size (ps : List (ByteArray × Value)) (h : ∀ p ∈ ps, p.2.oneCell' = true) : (rowE ps h).size = ps.length := by simp [rowE]
def leP (x y : ByteArray × Value) : Prop := ltB y.1 x.1 = false
set_option maxHeartbeats 1000000 in
theorem sort_ct {w : World} {base : Nat} {v : Value} {ps : List (ByteArray × Value)} (ho : w.ownsRow base 46 2 v ps.length (prs ps)) (h1 : ∀ u ∈ prs ps, u.oneCell' = true) (hn : ps.length ≤ 39) :
    Calls Tryd.prog 51 #[v, FJ] w fun e w' => e = .returned (.tuple #[]) ∧ (∃ qs, w'.ownsRow base 46 2 v ps.length (prs qs) ∧ qs.Perm ps ∧ qs.Pairwise leP) ∧ Kept (fun k => base ≤ k) w w' := by
  rcases ho.2 with ⟨hv, h0⟩ | ⟨g, cap, cur, hv, hb, _⟩
  · subst hv
    obtain rfl : ps = [] := List.eq_nil_of_length_eq_zero h0
    have sc := stable0_ct none 0 w
    unfold FJ at sc ⊢
    go_enter Tryd.func51, Tryd.ntmps51
    go_wp2_with fail
    refine sc.mono ?_
    rintro e W ⟨rfl, hW⟩
    subst hW
    go_wp2_with fail
    go_end0
    exact ⟨rfl, ⟨[], World.ownsRow_nil _ _ _ _, List.Perm.refl _, List.Pairwise.nil⟩, Kept.refl _ _⟩
  · subst hv
    have he := rowE_eps ps (fun p hp => h1 _ (prs_mem hp))
    have hz := rowE_size ps (fun p hp => h1 _ (prs_mem hp))
    generalize rowE ps (fun p hp => h1 _ (prs_mem hp)) = d at he hz
    have hS : SF w base g cap d w := by
      refine ⟨?_, Kept.refl _ _⟩
      rw [he, hz]; exact ho
    have sc := stable_ct hS (by omega)
    rw [hz] at sc
    have HZ := Lib.hid (And.intro he hz)
    clear hS ho h1 he hz
    generalize ps.length = n at *
    unfold FJ at sc ⊢
    go_enter Tryd.func51, Tryd.ntmps51
    go_wp2_with fail
    refine sc.mono ?_
    rintro e W ⟨rfl, D, hS, hp, hs⟩
    have HS := Lib.hid (And.intro hS (And.intro hp hs))
    clear hS hp hs sc
    go_wp2_with fail
    go_end0
    obtain ⟨hS, hp, hs⟩ := HS.out
    obtain ⟨he, hz⟩ := HZ.out
    have hDz : D.size = n := hp.1.trans hz
    refine ⟨rfl, ⟨eps D, ?_, ?_, ?_⟩, hS.2.mono (fun k _ q => by subst q; exact hb)⟩
    · have := hS.1; rw [hDz] at this; exact this
    · have h2 := hp.2.2
      rw [← hz] at h2
      have e1 : D.extract 0 d.size = D := by rw [← hp.1]; simp
      have e2 : d.extract 0 d.size = d := by simp
      rw [e1, e2] at h2
      rw [← he]
      exact h2.map _
    · unfold eps
      rw [List.pairwise_map, List.pairwise_iff_getElem]
      intro i j hi hj hij
      have := hs i j (by omega) hij (by rw [← hDz]; simpa using hj)
      have hi' : i < D.size := by simpa using hi
      have hj' : j < D.size := by simpa using hj
      rw [getElem!_pos D i hi', getElem!_pos D j hj'] at this
      simpa [leP, ltE] using this

theorem PairsAt.cons {w : World} {p : ByteArray × Value} {ps : List (ByteArray × Value)} {f : FileE} {l : List FileE} : PairsAt w (p :: ps) (f :: l) ↔ (f.path.size ≤ maxLen ∧ p.1 = f.path ∧ ByAt w p.2 f.bytes) ∧ PairsAt w ps l := by
  constructor
  · intro h
    obtain ⟨h1, x, h2, h3⟩ := h.2 0 f rfl
    simp at h2
    refine ⟨⟨h1, by rw [h2], by rw [h2]; exact h3⟩, by have := h.1; simpa using this, fun j g hg => ?_⟩
    obtain ⟨q1, y, q2, q3⟩ := h.2 (j + 1) g hg
    exact ⟨q1, y, q2, q3⟩
  · rintro ⟨⟨h1, h2, h3⟩, h4, h5⟩
    refine ⟨by simp [h4], fun j g hg => ?_⟩
    match j, hg with
    | 0, hg => simp at hg; subst hg; exact ⟨h1, p.2, by simp [← h2], h3⟩
    | j + 1, hg => exact h5 j g hg
theorem PairsAt.perm {w : World} {ps qs : List (ByteArray × Value)} (hp : qs.Perm ps) : ∀ {l : List FileE}, PairsAt w ps l → ∃ o : List FileE, o.Perm l ∧ PairsAt w qs o := by
  induction hp with
  | nil => exact fun {l} h => ⟨l, List.Perm.refl _, h⟩
  | @cons x l1 l2 _ ih =>
    intro l h
    cases l with
    | nil => exact absurd h.1 (by simp)
    | cons f l =>
      obtain ⟨h1, h2⟩ := PairsAt.cons.1 h
      obtain ⟨o, ho, hp⟩ := ih h2
      exact ⟨f :: o, ho.cons f, PairsAt.cons.2 ⟨h1, hp⟩⟩
  | swap x y l1 =>
    intro l h
    match l, h with
    | [], h => exact absurd h.1 (by simp)
    | [f], h => exact absurd h.1 (by simp)
    | f :: g :: l, h =>
      obtain ⟨h1, h2⟩ := PairsAt.cons.1 h
      obtain ⟨h3, h4⟩ := PairsAt.cons.1 h2
      exact ⟨g :: f :: l, List.Perm.swap f g l, PairsAt.cons.2 ⟨h3, PairsAt.cons.2 ⟨h1, h4⟩⟩⟩
  | trans _ _ ih1 ih2 =>
    intro l h
    obtain ⟨o, ho, hp⟩ := ih2 h
    obtain ⟨o2, ho2, hp2⟩ := ih1 hp
    exact ⟨o2, ho2.trans ho, hp2⟩
theorem PairsAt.paths {w : World} {ps : List (ByteArray × Value)} {l : List FileE} (h : PairsAt w ps l) : ps.map (·.1) = l.map (·.path) := by
  apply List.ext_getElem?
  intro i
  rw [List.getElem?_map, List.getElem?_map]
  cases hf : l[i]? with
  | none =>
    have := List.getElem?_eq_none_iff.1 hf
    rw [List.getElem?_eq_none (by have := h.1; omega)]; rfl
  | some f =>
    obtain ⟨_, x, h2, _⟩ := h.2 i f hf
    rw [h2]; rfl
def leF (f g : FileE) : Prop := ltB g.path f.path = false
theorem sorted_paths {w : World} {ps : List (ByteArray × Value)} {l : List FileE} (h : PairsAt w ps l) (hs : ps.Pairwise leP) : l.Pairwise leF := by
  have : (ps.map (·.1)).Pairwise (fun x y => ltB y x = false) := List.pairwise_map.2 hs
  rw [h.paths] at this
  have h2 := (List.pairwise_map (f := FileE.path)).1 this
  exact h2
/-- Are two neighbours of the first k one path's? -/
def dupAt (o : List FileE) : Nat → Bool
  | 0 => false
  | i + 1 => match o[i]?, o[i + 1]? with
    | some f, some g => eqB f.path g.path
    | _, _ => false
def dupTo (o : List FileE) : Nat → Bool
  | 0 => false
  | k + 1 => dupTo o k || dupAt o k
theorem dupTo_yes {o : List FileE} {i : Nat} (h : dupAt o i = true) : ∀ k, i < k → dupTo o k = true
  | 0, h0 => by omega
  | k + 1, h0 => by
    unfold dupTo
    by_cases e : i = k
    · subst e; rw [h]; simp
    · rw [dupTo_yes h k (by omega)]; rfl
/-- What Join gives. -/
def JoinIs (l m : List FileE) (w : World) (e : Ending) : Prop :=
  ((mayB l && mayB m) = false ∧ e = .returned (.tuple #[.slice none 0 0, .int .i64 2])) ∨
  ((mayB l && mayB m) = true ∧ ∃ o : List FileE, o.Perm (l ++ m) ∧ o.Pairwise leF ∧
    ((dupTo o o.length = true ∧ e = .returned (.tuple #[.slice none 0 0, .int .i64 7])) ∨
     (dupTo o o.length = false ∧ mayB o = false ∧ e = .returned (.tuple #[.slice none 0 0, .int .i64 8])) ∨
     (dupTo o o.length = false ∧ mayB o = true ∧ ∃ v', e = .returned (.tuple #[v', .int .i64 0]) ∧ TreeAt w v' o)))

theorem bslice_t2 (a b : Option Addr) (n c n' c' : Nat) (w : World) : (Instr.buildSlice 28 2 #[(0, .slice a n c), (1, .slice b n' c')]).run Tryd.prog w = .ok (.slice (some ⟨w.heap.size, 0, none⟩) 2 2) (w.alloc (.cells #[.slice a n c, .slice b n' c'] 27)) := by kernel_rfl
set_option maxRecDepth 100000 in
set_option maxHeartbeats 4000000 in
theorem join_ct {w : World} {va vb : Value} {la lb : List FileE} (ha : TreeAt w va la) (hb : TreeAt w vb lb) :
    Calls Tryd.prog 28 #[va, vb] w fun e w' => JoinIs la lb w' e ∧ Kept (fun _ => False) w w' := by
  have mc := may_ct ha
  have md := fun w' (k : Kept (fun _ => False) w w') => may_ct (hb.kept k)
  cases hm : mayB la with
  | false =>
    rw [hm] at mc
    obtain ⟨a, c, hv⟩ := ha.slc
    subst hv
    obtain ⟨a2, c2, hx⟩ := hb.slc
    subst hx
    go_enter Tryd.func28, Tryd.ntmps28
    go_wp2_with fail
    refine (mc).mono ?_
    rintro e W ⟨rfl, k1⟩
    go_wp2_with fail
    go_ret2
    exact ⟨.inl ⟨by rw [hm]; rfl, rfl⟩, k1⟩
  | true =>
    rw [hm] at mc
    cases hm2 : mayB lb with
    | false =>
      rw [hm2] at md
      obtain ⟨a, c, hv⟩ := ha.slc
      subst hv
      obtain ⟨a2, c2, hx⟩ := hb.slc
      subst hx
      have HM := Lib.hid hm2
      clear hm hm2
      go_enter Tryd.func28, Tryd.ntmps28
      go_wp2_with fail
      refine (mc).mono ?_
      rintro e W ⟨rfl, k1⟩
      go_wp2_with fail
      refine (md _ k1).mono ?_
      rintro e W2 ⟨rfl, k2⟩
      go_wp2_with fail
      go_ret2
      exact ⟨.inl ⟨by rw [HM.out, Bool.and_false], rfl⟩, k1.trans k2⟩
    | true =>
      rw [hm2] at md
      have hla := (mayIs hm).len
      have hlb := (mayIs hm2).len
      have HMM : Hid ((mayB la && mayB lb) = true) := by unfold Hid; rw [hm, hm2]; rfl
      obtain ⟨a, c, hv⟩ := ha.slc
      subst hv
      obtain ⟨a2, c2, hx⟩ := hb.slc
      subst hx
      clear hm hm2
      go_enter Tryd.func28, Tryd.ntmps28
      go_wp2_with fail
      refine (mc).mono ?_
      rintro e W ⟨rfl, k1⟩
      go_wp2_with fail
      refine (md _ k1).mono ?_
      rintro e W2 ⟨rfl, k2⟩
      have k12 := k1.trans k2
      clear mc md k1 k2
      have bs := bslice_t2 a a2 la.length c lb.length c2 W2
      have hgb := heap_last W2 (.cells #[.slice a la.length c, .slice a2 lb.length c2] 27)
      have k3 : Kept (fun _ => False) w (W2.alloc (.cells #[.slice a la.length c, .slice a2 lb.length c2] 27)) := k12.alloc _
      generalize W2.alloc (.cells #[.slice a la.length c, .slice a2 lb.length c2] 27) = W3 at bs hgb k3
      have cc := concat_ct (ha.kept k3) (hb.kept k3) (by omega) (by omega) hgb
      generalize W2.heap.size = gb at bs cc hgb
      go_wp2_with (first
        | (with_reducible refine wpl_bslice 28 _ _ rfl rfl ?_ bs ?_
           · (go_simp <;> rfl)
           simp only [Act.put, List.getElem_toArray, List.getElem_cons_zero, List.getElem_cons_succ, List.setIfInBounds_toArray, List.set_cons_zero, List.set_cons_succ]))
      refine cc.mono ?_
      rintro e W4 ⟨v4, ps, rfl, ho, hps, k34⟩
      have k4 := k3.trans k34
      have hpl : ps.length ≤ 32 := by have := hps.1; rw [List.length_append] at this; omega
      have sc := sort_ct ho hps.one (by omega)
      obtain ⟨a4, c4, hv4⟩ := row_form ho
      subst hv4
      unfold FJ at sc
      clear cc bs hgb
      go_wp2_with fail
      refine sc.mono ?_
      rintro e W5 ⟨rfl, ⟨qs, ho5, hperm, hsrt⟩, k45⟩
      have k35 : Kept (fun _ => False) W3 W5 := k34.trans' k45 (fun k hk q => by omega)
      have k5 := k3.trans k35
      obtain ⟨o, hop, hpo⟩ := PairsAt.perm hperm hps
      have hso := sorted_paths hpo hsrt
      have hql : qs.length = ps.length := hperm.length_eq
      have hol : o.length = ps.length := by have := hpo.1; omega
      have ht5 : TreeAt W5 (.slice a4 ps.length c4) o := TreeAt.of_row ho5 (hpo.kept k35)
      rw [← hol] at ht5
      have HP := Lib.hid (And.intro hop hso)
      have hol32 : o.length ≤ 32 := by omega
      rw [← hol]
      clear sc ho ho5 hperm hsrt hpo hps hop hso hql k45
      have HOL := Lib.hid hol
      clear hol
      go_wp2_with fail
      go_loopw [24] (fun i wr => ∃ k : Nat, k ≤ o.length ∧ i = .int .i64 k ∧ dupTo o k = false ∧ Kept (fun _ => False) W5 wr) (fun i _ => o.length - (intOf i).toNat)
      case atStart => exact ⟨0, by omega, rfl, rfl, Kept.refl _ _⟩
      case round =>
        obtain ⟨k, hk, rfl, hdk, hkr⟩ := hrel
        have DK := Lib.hid hdk
        clear hdk
        by_cases hlt : k < o.length
        · have hf : o[k]? = some o[k] := List.getElem?_eq_getElem hlt
          generalize o[k] = f at hf
          obtain ⟨hps, b, q, x, rfl, hbl, hrx, hB⟩ := (ht5.kept hkr).file hf
          have q0 : ∀ w', Kept (fun _ => False) wr w' → w'.cell? ⟨b, q + k * 2, none⟩ = some (.string f.path) := fun w' z => (z.cell (p := ⟨b, q + k * 2, none⟩) hbl not_false).trans (hrx 0 _ rfl)
          cases k with
          | zero =>
            clear hrx hB hf
            go_wp2_with fail
            refine wp_region_held_drew (S := (Kept (fun _ => False) wr)) (by kernel_rfl) ((Kept.refl _ wr).drew) (fun hHeld => ?_)
            refine held_q (v := ?_) (i := 0) rfl (by kernel_rfl) (by kernel_rfl) (by kernel_rfl) (fun _ _ _ h => h) (by rfl) hHeld ?_ ?_
            rotate_left
            · (intro w' hS'; go_simp <;> (with_reducible rfl))
            simp only [Act.put, List.getElem_toArray, List.getElem_cons_zero, List.getElem_cons_succ, List.setIfInBounds_toArray, List.set_cons_zero, List.set_cons_succ]
            refine held_q (v := ?_) (i := 1) rfl (by kernel_rfl) (by kernel_rfl) (by kernel_rfl) (fun _ _ _ h => h) (by rfl) hHeld ?_ ?_
            rotate_left
            · (intro w' hS'; go_simp <;> (with_reducible rfl))
            simp only [Act.put, List.getElem_toArray, List.getElem_cons_zero, List.getElem_cons_succ, List.setIfInBounds_toArray, List.set_cons_zero, List.set_cons_succ]
            refine held_q (v := ?_) (i := 2) rfl (by kernel_rfl) (by kernel_rfl) (by kernel_rfl) (fun _ _ _ h => h) (by rfl) hHeld ?_ ?_
            rotate_left
            · (intro w' hS'; go_simp <;> (with_reducible rfl))
            simp only [Act.put, List.getElem_toArray, List.getElem_cons_zero, List.getElem_cons_succ, List.setIfInBounds_toArray, List.set_cons_zero, List.set_cons_succ]
            refine held_no (i := 3) rfl (by kernel_rfl) (by kernel_rfl) (by kernel_rfl) (fun _ _ _ h => h) (by rfl) hHeld ?_
            simp only [Act.put, List.getElem_toArray, List.getElem_cons_zero, List.getElem_cons_succ, List.setIfInBounds_toArray, List.set_cons_zero, List.set_cons_succ]
            refine held_no (i := 4) rfl (by kernel_rfl) (by kernel_rfl) (by kernel_rfl) (fun _ _ _ h => h) (by rfl) hHeld ?_
            simp only [Act.put, List.getElem_toArray, List.getElem_cons_zero, List.getElem_cons_succ, List.setIfInBounds_toArray, List.set_cons_zero, List.set_cons_succ]
            refine held_no (i := 5) rfl (by kernel_rfl) (by kernel_rfl) (by kernel_rfl) (fun _ _ _ h => h) (by rfl) hHeld ?_
            simp only [Act.put, List.getElem_toArray, List.getElem_cons_zero, List.getElem_cons_succ, List.setIfInBounds_toArray, List.set_cons_zero, List.set_cons_succ]
            refine held_no (i := 6) rfl (by kernel_rfl) (by kernel_rfl) (by kernel_rfl) (fun _ _ _ h => h) (by rfl) hHeld ?_
            simp only [Act.put, List.getElem_toArray, List.getElem_cons_zero, List.getElem_cons_succ, List.setIfInBounds_toArray, List.set_cons_zero, List.set_cons_succ]
            refine held_no (i := 7) rfl (by kernel_rfl) (by kernel_rfl) (by kernel_rfl) (fun _ _ _ h => h) (by rfl) hHeld ?_
            simp only [Act.put, List.getElem_toArray, List.getElem_cons_zero, List.getElem_cons_succ, List.setIfInBounds_toArray, List.set_cons_zero, List.set_cons_succ]
            refine held_no (i := 8) rfl (by kernel_rfl) (by kernel_rfl) (by kernel_rfl) (fun _ _ _ h => h) (by rfl) hHeld ?_
            simp only [Act.put, List.getElem_toArray, List.getElem_cons_zero, List.getElem_cons_succ, List.setIfInBounds_toArray, List.set_cons_zero, List.set_cons_succ]
            refine held_no (i := 9) rfl (by kernel_rfl) (by kernel_rfl) (by kernel_rfl) (fun _ _ _ h => h) (by rfl) hHeld ?_
            simp only [Act.put, List.getElem_toArray, List.getElem_cons_zero, List.getElem_cons_succ, List.setIfInBounds_toArray, List.set_cons_zero, List.set_cons_succ]
            refine held_no (i := 10) rfl (by kernel_rfl) (by kernel_rfl) (by kernel_rfl) (fun _ _ _ h => h) (by rfl) hHeld ?_
            simp only [Act.put, List.getElem_toArray, List.getElem_cons_zero, List.getElem_cons_succ, List.setIfInBounds_toArray, List.set_cons_zero, List.set_cons_succ]
            refine held_no (i := 11) rfl (by kernel_rfl) (by kernel_rfl) (by kernel_rfl) (fun _ _ _ h => h) (by rfl) hHeld ?_
            simp only [Act.put, List.getElem_toArray, List.getElem_cons_zero, List.getElem_cons_succ, List.setIfInBounds_toArray, List.set_cons_zero, List.set_cons_succ]
            refine held_no (i := 12) rfl (by kernel_rfl) (by kernel_rfl) (by kernel_rfl) (fun _ _ _ h => h) (by rfl) hHeld ?_
            simp only [Act.put, List.getElem_toArray, List.getElem_cons_zero, List.getElem_cons_succ, List.setIfInBounds_toArray, List.set_cons_zero, List.set_cons_succ]
            refine held_no (i := 13) rfl (by kernel_rfl) (by kernel_rfl) (by kernel_rfl) (fun _ _ _ h => h) (by rfl) hHeld ?_
            simp only [Act.put, List.getElem_toArray, List.getElem_cons_zero, List.getElem_cons_succ, List.setIfInBounds_toArray, List.set_cons_zero, List.set_cons_succ]
            refine held_no (i := 14) rfl (by kernel_rfl) (by kernel_rfl) (by kernel_rfl) (fun _ _ _ h => h) (by rfl) hHeld ?_
            simp only [Act.put, List.getElem_toArray, List.getElem_cons_zero, List.getElem_cons_succ, List.setIfInBounds_toArray, List.set_cons_zero, List.set_cons_succ]
            refine held_q (v := ?_) (i := 15) rfl (by kernel_rfl) (by kernel_rfl) (by kernel_rfl) (fun _ _ _ h => h) (by rfl) hHeld ?_ ?_
            rotate_left
            · (intro w' hS'; go_simp <;> (with_reducible rfl))
            simp only [Act.put, List.getElem_toArray, List.getElem_cons_zero, List.getElem_cons_succ, List.setIfInBounds_toArray, List.set_cons_zero, List.set_cons_succ]
            refine wpAnyH_done (by kernel_rfl) ?_ _
            go_wp2_with fail
            go_roundw
            case rel => exact ⟨0 + 1, by omega, by go_num, rfl, hkr.trans hHeld⟩
            case measure => simp [intOf]; omega
          | succ j =>
            have hg : o[j]? = some o[j] := List.getElem?_eq_getElem (by omega)
            generalize o[j] = g at hg
            obtain ⟨_, b', q', x', e', _, hrx', _⟩ := (ht5.kept hkr).file hg
            injection e' with e'
            injection e' with e1 e2 _
            subst e1
            subst e2
            have q1 : ∀ w', Kept (fun _ => False) wr w' → w'.cell? ⟨b, q + j * 2, none⟩ = some (.string g.path) := fun w' z => (z.cell (p := ⟨b, q + j * 2, none⟩) hbl not_false).trans (hrx' 0 _ rfl)
            have hda : dupAt o (j + 1) = (g.path.toList == f.path.toList) := by simp only [dupAt, hg, hf]; rfl
            have wj : IntKind.i64.wrap (j : Int) = (j : Int) := IntWalk.i64_in _ (by omega)
            have jl : (j : Int) < (o.length : Int) := by omega
            have jl1 : (j : Int) + 1 < (o.length : Int) := by omega
            have j0 : (0 : Int) < (j : Int) + 1 := by omega
            have j00 : (0 : Int) ≤ (j : Int) + 1 := by omega
            have jn : j + 1 < o.length := hlt
            have jn2 : j < o.length := by omega
            have HD := Lib.hid hda
            clear hrx hB hf hg hrx' hda
            generalize hpe : (g.path.toList == f.path.toList) = pe at HD
            have HN : Hid (dupTo o (j + 1 + 1) = pe) := by
              unfold Hid
              conv => lhs; unfold dupTo
              rw [DK.out, HD.out]; simp
            cases pe with
            | false =>
              go_wp2_with fail
              refine wp_region_held_drew (S := (Kept (fun _ => False) wr)) (by kernel_rfl) ((Kept.refl _ wr).drew) (fun hHeld => ?_)
              refine held_q (v := ?_) (i := 0) rfl (by kernel_rfl) (by kernel_rfl) (by kernel_rfl) (fun _ _ _ h => h) (by rfl) hHeld ?_ ?_
              rotate_left
              · (intro w' hS'; go_simp <;> (with_reducible rfl))
              simp only [Act.put, List.getElem_toArray, List.getElem_cons_zero, List.getElem_cons_succ, List.setIfInBounds_toArray, List.set_cons_zero, List.set_cons_succ]
              refine held_q (v := ?_) (i := 1) rfl (by kernel_rfl) (by kernel_rfl) (by kernel_rfl) (fun _ _ _ h => h) (by rfl) hHeld ?_ ?_
              rotate_left
              · (intro w' hS'; go_simp <;> (with_reducible rfl))
              simp only [Act.put, List.getElem_toArray, List.getElem_cons_zero, List.getElem_cons_succ, List.setIfInBounds_toArray, List.set_cons_zero, List.set_cons_succ]
              refine held_q (v := ?_) (i := 2) rfl (by kernel_rfl) (by kernel_rfl) (by kernel_rfl) (fun _ _ _ h => h) (by rfl) hHeld ?_ ?_
              rotate_left
              · (intro w' hS'; go_simp <;> (with_reducible rfl))
              simp only [Act.put, List.getElem_toArray, List.getElem_cons_zero, List.getElem_cons_succ, List.setIfInBounds_toArray, List.set_cons_zero, List.set_cons_succ]
              refine held_q (v := ?_) (i := 3) rfl (by kernel_rfl) (by kernel_rfl) (by kernel_rfl) (fun _ _ _ h => h) (by rfl) hHeld ?_ ?_
              rotate_left
              · (intro w' hS'; go_simp <;> (with_reducible rfl))
              simp only [Act.put, List.getElem_toArray, List.getElem_cons_zero, List.getElem_cons_succ, List.setIfInBounds_toArray, List.set_cons_zero, List.set_cons_succ]
              refine held_q (v := ?_) (i := 4) rfl (by kernel_rfl) (by kernel_rfl) (by kernel_rfl) (fun _ _ _ h => h) (by rfl) hHeld ?_ ?_
              rotate_left
              · (intro w' hS'; go_simp <;> (with_reducible rfl))
              simp only [Act.put, List.getElem_toArray, List.getElem_cons_zero, List.getElem_cons_succ, List.setIfInBounds_toArray, List.set_cons_zero, List.set_cons_succ]
              refine held_q (v := ?_) (i := 5) rfl (by kernel_rfl) (by kernel_rfl) (by kernel_rfl) (fun _ _ _ h => h) (by rfl) hHeld ?_ ?_
              rotate_left
              · (intro w' hS'; go_simp <;> (with_reducible rfl))
              simp only [Act.put, List.getElem_toArray, List.getElem_cons_zero, List.getElem_cons_succ, List.setIfInBounds_toArray, List.set_cons_zero, List.set_cons_succ]
              refine held_q (v := ?_) (i := 6) rfl (by kernel_rfl) (by kernel_rfl) (by kernel_rfl) (fun _ _ _ h => h) (by rfl) hHeld ?_ ?_
              rotate_left
              · (intro w' hS'; go_simp <;> (with_reducible rfl))
              simp only [Act.put, List.getElem_toArray, List.getElem_cons_zero, List.getElem_cons_succ, List.setIfInBounds_toArray, List.set_cons_zero, List.set_cons_succ]
              refine held_q (v := ?_) (i := 7) rfl (by kernel_rfl) (by kernel_rfl) (by kernel_rfl) (fun _ _ _ h => h) (by rfl) hHeld ?_ ?_
              rotate_left
              · (intro w' hS'; go_simp <;> (with_reducible rfl))
              simp only [Act.put, List.getElem_toArray, List.getElem_cons_zero, List.getElem_cons_succ, List.setIfInBounds_toArray, List.set_cons_zero, List.set_cons_succ]
              refine held_q (v := ?_) (i := 8) rfl (by kernel_rfl) (by kernel_rfl) (by kernel_rfl) (fun _ _ _ h => h) (by rfl) hHeld ?_ ?_
              rotate_left
              · (intro w' hS'; go_simp <;> (with_reducible rfl))
              simp only [Act.put, List.getElem_toArray, List.getElem_cons_zero, List.getElem_cons_succ, List.setIfInBounds_toArray, List.set_cons_zero, List.set_cons_succ]
              refine held_q (v := ?_) (i := 9) rfl (by kernel_rfl) (by kernel_rfl) (by kernel_rfl) (fun _ _ _ h => h) (by rfl) hHeld ?_ ?_
              rotate_left
              · (intro w' hS'; go_simp <;> (with_reducible rfl))
              simp only [Act.put, List.getElem_toArray, List.getElem_cons_zero, List.getElem_cons_succ, List.setIfInBounds_toArray, List.set_cons_zero, List.set_cons_succ]
              refine held_q (v := ?_) (i := 10) rfl (by kernel_rfl) (by kernel_rfl) (by kernel_rfl) (fun _ _ _ h => h) (by rfl) hHeld ?_ ?_
              rotate_left
              · (intro w' hS'; go_simp <;> (with_reducible rfl))
              simp only [Act.put, List.getElem_toArray, List.getElem_cons_zero, List.getElem_cons_succ, List.setIfInBounds_toArray, List.set_cons_zero, List.set_cons_succ]
              refine held_q (v := ?_) (i := 11) rfl (by kernel_rfl) (by kernel_rfl) (by kernel_rfl) (fun _ _ _ h => h) (by rfl) hHeld ?_ ?_
              rotate_left
              · (intro w' hS'; go_simp <;> (with_reducible rfl))
              simp only [Act.put, List.getElem_toArray, List.getElem_cons_zero, List.getElem_cons_succ, List.setIfInBounds_toArray, List.set_cons_zero, List.set_cons_succ]
              refine held_q (v := ?_) (i := 12) rfl (by kernel_rfl) (by kernel_rfl) (by kernel_rfl) (fun _ _ _ h => h) (by rfl) hHeld ?_ ?_
              rotate_left
              · (intro w' hS'; go_simp <;> (with_reducible rfl))
              simp only [Act.put, List.getElem_toArray, List.getElem_cons_zero, List.getElem_cons_succ, List.setIfInBounds_toArray, List.set_cons_zero, List.set_cons_succ]
              refine held_q (v := ?_) (i := 13) rfl (by kernel_rfl) (by kernel_rfl) (by kernel_rfl) (fun _ _ _ h => h) (by rfl) hHeld ?_ ?_
              rotate_left
              · (intro w' hS'; go_simp <;> (with_reducible rfl))
              simp only [Act.put, List.getElem_toArray, List.getElem_cons_zero, List.getElem_cons_succ, List.setIfInBounds_toArray, List.set_cons_zero, List.set_cons_succ]
              refine held_q (v := ?_) (i := 14) rfl (by kernel_rfl) (by kernel_rfl) (by kernel_rfl) (fun _ _ _ h => h) (by rfl) hHeld ?_ ?_
              rotate_left
              · (intro w' hS'; go_simp <;> (with_reducible rfl))
              simp only [Act.put, List.getElem_toArray, List.getElem_cons_zero, List.getElem_cons_succ, List.setIfInBounds_toArray, List.set_cons_zero, List.set_cons_succ]
              refine held_q (v := ?_) (i := 15) rfl (by kernel_rfl) (by kernel_rfl) (by kernel_rfl) (fun _ _ _ h => h) (by rfl) hHeld ?_ ?_
              rotate_left
              · (intro w' hS'; go_simp <;> (with_reducible rfl))
              simp only [Act.put, List.getElem_toArray, List.getElem_cons_zero, List.getElem_cons_succ, List.setIfInBounds_toArray, List.set_cons_zero, List.set_cons_succ]
              refine wpAnyH_done (by kernel_rfl) ?_ _
              go_wp2_with fail
              go_roundw
              case rel => exact ⟨j + 1 + 1, by omega, by go_num, HN.out, hkr.trans hHeld⟩
              case measure => simp [intOf]; omega
            | true =>
              have HY := Lib.hid (dupTo_yes HD.out o.length hlt)
              go_wp2_with fail
              refine wp_region_held_drew (S := (Kept (fun _ => False) wr)) (by kernel_rfl) ((Kept.refl _ wr).drew) (fun hHeld => ?_)
              refine held_q (v := ?_) (i := 0) rfl (by kernel_rfl) (by kernel_rfl) (by kernel_rfl) (fun _ _ _ h => h) (by rfl) hHeld ?_ ?_
              rotate_left
              · (intro w' hS'; go_simp <;> (with_reducible rfl))
              simp only [Act.put, List.getElem_toArray, List.getElem_cons_zero, List.getElem_cons_succ, List.setIfInBounds_toArray, List.set_cons_zero, List.set_cons_succ]
              refine held_q (v := ?_) (i := 1) rfl (by kernel_rfl) (by kernel_rfl) (by kernel_rfl) (fun _ _ _ h => h) (by rfl) hHeld ?_ ?_
              rotate_left
              · (intro w' hS'; go_simp <;> (with_reducible rfl))
              simp only [Act.put, List.getElem_toArray, List.getElem_cons_zero, List.getElem_cons_succ, List.setIfInBounds_toArray, List.set_cons_zero, List.set_cons_succ]
              refine held_q (v := ?_) (i := 2) rfl (by kernel_rfl) (by kernel_rfl) (by kernel_rfl) (fun _ _ _ h => h) (by rfl) hHeld ?_ ?_
              rotate_left
              · (intro w' hS'; go_simp <;> (with_reducible rfl))
              simp only [Act.put, List.getElem_toArray, List.getElem_cons_zero, List.getElem_cons_succ, List.setIfInBounds_toArray, List.set_cons_zero, List.set_cons_succ]
              refine held_q (v := ?_) (i := 3) rfl (by kernel_rfl) (by kernel_rfl) (by kernel_rfl) (fun _ _ _ h => h) (by rfl) hHeld ?_ ?_
              rotate_left
              · (intro w' hS'; go_simp <;> (with_reducible rfl))
              simp only [Act.put, List.getElem_toArray, List.getElem_cons_zero, List.getElem_cons_succ, List.setIfInBounds_toArray, List.set_cons_zero, List.set_cons_succ]
              refine held_q (v := ?_) (i := 4) rfl (by kernel_rfl) (by kernel_rfl) (by kernel_rfl) (fun _ _ _ h => h) (by rfl) hHeld ?_ ?_
              rotate_left
              · (intro w' hS'; go_simp <;> (with_reducible rfl))
              simp only [Act.put, List.getElem_toArray, List.getElem_cons_zero, List.getElem_cons_succ, List.setIfInBounds_toArray, List.set_cons_zero, List.set_cons_succ]
              refine held_q (v := ?_) (i := 5) rfl (by kernel_rfl) (by kernel_rfl) (by kernel_rfl) (fun _ _ _ h => h) (by rfl) hHeld ?_ ?_
              rotate_left
              · (intro w' hS'; go_simp <;> (with_reducible rfl))
              simp only [Act.put, List.getElem_toArray, List.getElem_cons_zero, List.getElem_cons_succ, List.setIfInBounds_toArray, List.set_cons_zero, List.set_cons_succ]
              refine held_q (v := ?_) (i := 6) rfl (by kernel_rfl) (by kernel_rfl) (by kernel_rfl) (fun _ _ _ h => h) (by rfl) hHeld ?_ ?_
              rotate_left
              · (intro w' hS'; go_simp <;> (with_reducible rfl))
              simp only [Act.put, List.getElem_toArray, List.getElem_cons_zero, List.getElem_cons_succ, List.setIfInBounds_toArray, List.set_cons_zero, List.set_cons_succ]
              refine held_q (v := ?_) (i := 7) rfl (by kernel_rfl) (by kernel_rfl) (by kernel_rfl) (fun _ _ _ h => h) (by rfl) hHeld ?_ ?_
              rotate_left
              · (intro w' hS'; go_simp <;> (with_reducible rfl))
              simp only [Act.put, List.getElem_toArray, List.getElem_cons_zero, List.getElem_cons_succ, List.setIfInBounds_toArray, List.set_cons_zero, List.set_cons_succ]
              refine held_q (v := ?_) (i := 8) rfl (by kernel_rfl) (by kernel_rfl) (by kernel_rfl) (fun _ _ _ h => h) (by rfl) hHeld ?_ ?_
              rotate_left
              · (intro w' hS'; go_simp <;> (with_reducible rfl))
              simp only [Act.put, List.getElem_toArray, List.getElem_cons_zero, List.getElem_cons_succ, List.setIfInBounds_toArray, List.set_cons_zero, List.set_cons_succ]
              refine held_q (v := ?_) (i := 9) rfl (by kernel_rfl) (by kernel_rfl) (by kernel_rfl) (fun _ _ _ h => h) (by rfl) hHeld ?_ ?_
              rotate_left
              · (intro w' hS'; go_simp <;> (with_reducible rfl))
              simp only [Act.put, List.getElem_toArray, List.getElem_cons_zero, List.getElem_cons_succ, List.setIfInBounds_toArray, List.set_cons_zero, List.set_cons_succ]
              refine held_q (v := ?_) (i := 10) rfl (by kernel_rfl) (by kernel_rfl) (by kernel_rfl) (fun _ _ _ h => h) (by rfl) hHeld ?_ ?_
              rotate_left
              · (intro w' hS'; go_simp <;> (with_reducible rfl))
              simp only [Act.put, List.getElem_toArray, List.getElem_cons_zero, List.getElem_cons_succ, List.setIfInBounds_toArray, List.set_cons_zero, List.set_cons_succ]
              refine held_q (v := ?_) (i := 11) rfl (by kernel_rfl) (by kernel_rfl) (by kernel_rfl) (fun _ _ _ h => h) (by rfl) hHeld ?_ ?_
              rotate_left
              · (intro w' hS'; go_simp <;> (with_reducible rfl))
              simp only [Act.put, List.getElem_toArray, List.getElem_cons_zero, List.getElem_cons_succ, List.setIfInBounds_toArray, List.set_cons_zero, List.set_cons_succ]
              refine held_q (v := ?_) (i := 12) rfl (by kernel_rfl) (by kernel_rfl) (by kernel_rfl) (fun _ _ _ h => h) (by rfl) hHeld ?_ ?_
              rotate_left
              · (intro w' hS'; go_simp <;> (with_reducible rfl))
              simp only [Act.put, List.getElem_toArray, List.getElem_cons_zero, List.getElem_cons_succ, List.setIfInBounds_toArray, List.set_cons_zero, List.set_cons_succ]
              refine held_q (v := ?_) (i := 13) rfl (by kernel_rfl) (by kernel_rfl) (by kernel_rfl) (fun _ _ _ h => h) (by rfl) hHeld ?_ ?_
              rotate_left
              · (intro w' hS'; go_simp <;> (with_reducible rfl))
              simp only [Act.put, List.getElem_toArray, List.getElem_cons_zero, List.getElem_cons_succ, List.setIfInBounds_toArray, List.set_cons_zero, List.set_cons_succ]
              refine held_q (v := ?_) (i := 14) rfl (by kernel_rfl) (by kernel_rfl) (by kernel_rfl) (fun _ _ _ h => h) (by rfl) hHeld ?_ ?_
              rotate_left
              · (intro w' hS'; go_simp <;> (with_reducible rfl))
              simp only [Act.put, List.getElem_toArray, List.getElem_cons_zero, List.getElem_cons_succ, List.setIfInBounds_toArray, List.set_cons_zero, List.set_cons_succ]
              refine held_q (v := ?_) (i := 15) rfl (by kernel_rfl) (by kernel_rfl) (by kernel_rfl) (fun _ _ _ h => h) (by rfl) hHeld ?_ ?_
              rotate_left
              · (intro w' hS'; go_simp <;> (with_reducible rfl))
              simp only [Act.put, List.getElem_toArray, List.getElem_cons_zero, List.getElem_cons_succ, List.setIfInBounds_toArray, List.set_cons_zero, List.set_cons_succ]
              refine wpAnyH_done (by kernel_rfl) ?_ _
              go_wp2_with fail
              go_ret2
              exact ⟨.inr ⟨HMM.out, o, HP.out.1, HP.out.2, .inl ⟨HY.out, rfl⟩⟩, (k5.trans hkr).trans hHeld⟩
        · obtain rfl : k = o.length := by omega
          have ma := made_any (ht5.kept hkr)
          go_wp2_with fail
          refine ma.mono ?_
          rintro e W7 ⟨hr, k7⟩
          rcases hr with ⟨hm2, v', rfl, h7⟩ | ⟨hm2, rfl⟩
          · obtain ⟨a7, c7, hv7⟩ := h7.slc
            subst hv7
            go_wp2_with fail
            go_ret2
            exact ⟨.inr ⟨HMM.out, o, HP.out.1, HP.out.2, .inr (.inr ⟨DK.out, hm2, _, rfl, h7⟩)⟩, (k5.trans hkr).trans k7⟩
          · go_wp2_with fail
            go_ret2
            exact ⟨.inr ⟨HMM.out, o, HP.out.1, HP.out.2, .inr (.inl ⟨DK.out, hm2, rfl⟩)⟩, (k5.trans hkr).trans k7⟩
end Go.Proofs.YtfohljljoalmoaaDoor
