/- tree.Read, what it reads lying above what was there (TH's text with a base). -/
import Derived.Test.YthachckofghppaaDoorTH
namespace Go.Proofs.YthachckofghppaaDoor
open Go.RowKit
set_option maxRecDepth 100000
set_option linter.unusedSimpArgs false
set_option linter.unusedVariables false

theorem row_keepB {S : Nat → Prop} {w w' : World} {base : Nat} {t : TypeId} {z : Nat} {v : Value} {n : Nat} {xs : List Value} (h : w.ownsRow base t z v n xs) (hk : Kept S w w') (hS : ∀ k, v.ownBlock = some k → ¬ S k) : w'.ownsRow base t z v n xs := by
  refine ⟨h.1, ?_⟩
  rcases h.2 with h0 | ⟨g, cap, cur, rfl, hb, hg, hr⟩
  · exact .inl h0
  · exact .inr ⟨g, cap, cur, rfl, hb, by rw [hk.block g (Array.getElem?_eq_some_iff.1 hg).1 (hS g rfl)]; exact hg, hr⟩
/-- A tree at B or above: it stays though what lies below turns. -/
def TreeFar (B : Nat) (w : World) (x : Value) (fs : List FileE) : Prop := ∀ w', Kept (fun k => k < B) w w' → TreeAt w' x fs
/-- A row of files whose bytes lie in rows of their own, at B or above. -/
def PairsB (B : Nat) (w : World) (ps : List (ByteArray × Value)) (l : List FileE) : Prop := ps.length = l.length ∧ ∀ (j : Nat) f, l[j]? = some f → f.path.size ≤ maxLen ∧ ∃ x, ps[j]? = some (f.path, x) ∧ w.ownsRow B 5 1 x f.bytes.length (bv f.bytes)
theorem PairsB.at {B : Nat} {w : World} {ps : List (ByteArray × Value)} {l : List FileE} (h : PairsB B w ps l) : PairsAt w ps l :=
  ⟨h.1, fun j f hf => by obtain ⟨h1, x, h2, h3⟩ := h.2 j f hf; exact ⟨h1, x, h2, ByAt.own h3⟩⟩
theorem PairsB.kept {B : Nat} {w w' : World} {ps : List (ByteArray × Value)} {l : List FileE} (h : PairsB B w ps l) (hk : Kept (fun _ => False) w w') : PairsB B w' ps l :=
  ⟨h.1, fun j f hf => by obtain ⟨h1, x, h2, h3⟩ := h.2 j f hf; exact ⟨h1, x, h2, row_kept h3 hk⟩⟩
/-- A row of files grows: the bytes stay. -/
theorem PairsB.grown {B : Nat} {w w' : World} {ps : List (ByteArray × Value)} {l : List FileE} {base n : Nat} {v : Value} {xs : List Value} (h : PairsB B w ps l) (ho : w.ownsRow base 33 2 v n xs) (hg : w.grownBy w' v.ownBlock) : PairsB B w' ps l :=
  ⟨h.1, fun j f hf => by
    obtain ⟨h1, x, h2, h3⟩ := h.2 j f hf
    refine ⟨h1, x, h2, h3.kept hg ?_⟩
    rcases h3.2 with ⟨rfl, _⟩ | ⟨g, cap, cur, rfl, _, hgx, _⟩
    · exact .inl rfl
    · right
      intro e
      rcases ho.2 with ⟨rfl, _⟩ | ⟨g', cap', cur', rfl, _, hgo, _⟩
      · cases e
      · have e : some g = some g' := e
        injection e with e; subst e
        rw [hgx] at hgo; injection hgo with hgo; injection hgo with _ hgo; exact absurd hgo (by decide)⟩
theorem PairsB.snoc {B : Nat} {w : World} {ps : List (ByteArray × Value)} {l : List FileE} (h : PairsB B w ps l) {f : FileE} {x : Value} (hs : f.path.size ≤ maxLen) (hx : w.ownsRow B 5 1 x f.bytes.length (bv f.bytes)) : PairsB B w (ps ++ [(f.path, x)]) (l ++ [f]) := by
  refine ⟨by simp [h.1], fun j g hg => ?_⟩
  by_cases e : j < l.length
  · rw [List.getElem?_append_left e] at hg
    obtain ⟨h1, y, h2, h3⟩ := h.2 j g hg
    exact ⟨h1, y, by rw [List.getElem?_append_left (by rw [h.1]; exact e)]; exact h2, h3⟩
  · have hj := (List.getElem?_eq_some_iff.1 hg).1
    simp at hj
    obtain rfl : j = l.length := by omega
    rw [List.getElem?_append_right (Nat.le_refl _)] at hg
    simp at hg
    subst hg
    exact ⟨hs, x, by rw [List.getElem?_append_right (by rw [h.1]; exact Nat.le_refl _), h.1]; simp, hx⟩

theorem PairsB.keptS {B : Nat} {w w' : World} {ps : List (ByteArray × Value)} {l : List FileE} (h : PairsB B w ps l) (hk : Kept (fun k => k < B) w w') : PairsB B w' ps l :=
  ⟨h.1, fun j f hf => by obtain ⟨h1, x, h2, h3⟩ := h.2 j f hf; exact ⟨h1, x, h2, row_keepB h3 hk (fun k e hlt => absurd (World.ownsRow.lt h3 k e).1 (by omega))⟩⟩
theorem TreeFar.of_row {B base : Nat} {w : World} {x : Value} {ps : List (ByteArray × Value)} {l : List FileE} (ho : w.ownsRow base 33 2 x ps.length (prs ps)) (hB : B ≤ base) (hp : PairsB B w ps l) : TreeFar B w x l :=
  fun w' hk => TreeAt.of_row (row_keepB ho hk (fun k e hlt => absurd (World.ownsRow.lt ho k e).1 (by omega))) (hp.keptS hk).at
theorem TreeFar.kept {B : Nat} {w w' : World} {x : Value} {l : List FileE} (h : TreeFar B w x l) (hk : Kept (fun _ => False) w w') : TreeFar B w' x l :=
  fun w'' k => h w'' ((hk.mono (fun _ _ q => q.elim)).trans k)

/-- What Read hands back. -/
def ReadFar (B : Nat) (w : World) (res : Option (List FileE)) (e : Ending) (w' : World) : Prop := Kept (fun _ => False) w w' ∧ match res with
  | some fs => ∃ x, e = .returned (.tuple #[x, .int .i64 0]) ∧ TreeFar B w' x fs
  | none => e = .returned (.tuple #[.slice none 0 0, .int .i64 5])
theorem ReadFar.no {B : Nat} {w w' : World} {res : Option (List FileE)} (h : res = none) (hk : Kept (fun _ => False) w w') : ReadFar B w res (.returned (.tuple #[.slice none 0 0, .int .i64 5])) w' := by subst h; exact ⟨hk, rfl⟩
theorem ReadFar.yes {B : Nat} {w w' : World} {res : Option (List FileE)} {fs : List FileE} {x : Value} (h : res = some fs) (hk : Kept (fun _ => False) w w') (ht : TreeFar B w' x fs) : ReadFar B w res (.returned (.tuple #[x, .int .i64 0])) w' := by subst h; exact ⟨hk, x, rfl, ht⟩

set_option maxRecDepth 100000 in
set_option maxHeartbeats 4000000 in
theorem read_ctB {B : Nat} {w : World} {v : Value} {l : List UInt8} (h : ByC w v l) (hl : l.length ≤ 100000) (hB : B ≤ w.heap.size) :
    Calls Tryd.prog 48 #[v] w fun e w' => ReadFar B w (readS l) e w' := by
  have uc := uint_ct h (i := 0) (by omega) hl
  rw [List.drop_zero] at uc
  have bc := fun (w' : World) (q : Kept (fun _ => False) w w') (i : Nat) (hi : i ≤ l.length) => wireBytes_ct (h.kept q) hi hl (m := 40) (by omega)
  have bc2 := fun (w' : World) (q : Kept (fun _ => False) w w') (i : Nat) (hi : i ≤ l.length) => wireBytes_ct (h.kept q) hi hl (m := 2000) (by omega)
  generalize hres0 : readS l = res
  unfold readS at hres0
  cases hu : uintS l with
  | none =>
    rw [hu] at uc hres0
    dsimp only at uc hres0
    have HR := Lib.hid hres0.symm
    clear hres0
    obtain ⟨_, a, c, hv, _⟩ := h
    subst hv
    clear hu bc bc2
    go_enter Tryd.func48, Tryd.ntmps48
    go_wp2_with fail
    refine uc.mono ?_
    rintro e W ⟨rfl, x, hx, rfl⟩
    go_wp2_with fail
    go_ret2
    exact ReadFar.no HR.out (Kept.refl _ _)
  | some nk =>
    obtain ⟨n, k⟩ := nk
    obtain ⟨hk, hn8⟩ := uintS_le hu
    rw [hu] at uc hres0
    dsimp only at uc hres0
    rw [Nat.zero_add] at uc
    by_cases h16 : 16 < n
    · rw [if_pos h16] at hres0
      have HR := Lib.hid hres0.symm
      clear hres0
      have d16 : decide ((16 : Int) < (n : Int)) = true := decide_eq_true (by omega)
      have h16i : (16 : Int) < n := by omega
      obtain ⟨_, a, c, hv, _⟩ := h
      subst hv
      clear hu bc bc2
      go_enter Tryd.func48, Tryd.ntmps48
      go_wp2_with fail
      refine uc.mono ?_
      rintro e W ⟨rfl, rfl⟩
      go_wp2_with fail
      go_ret2
      exact ReadFar.no HR.out (Kept.refl _ _)
    rw [if_neg h16] at hres0
    have d16 : decide ((16 : Int) < (n : Int)) = false := decide_eq_false (by omega)
    have hcap := h.2
    obtain ⟨_, a, c, hv, _⟩ := h
    subst hv
    clear hu hcap
    have hres : finS l [] k n = res := by rw [← hres0]; unfold finS; rfl
    clear hres0
    go_enter Tryd.func48, Tryd.ntmps48
    go_wp2_with fail
    refine uc.mono ?_
    rintro e W ⟨hW, rfl⟩
    subst hW
    go_wp2_with fail
    go_loopw [5, 7, 25] (fun x5 x7 x25 wr => ∃ (q i : Nat) (ps : List (ByteArray × Value)) (fs0 : List FileE), q ≤ n ∧ x25 = .int .u64 q ∧ x5 = .int .i64 i ∧ i ≤ l.length ∧ wr.ownsRow W.heap.size 33 2 x7 ps.length (prs ps) ∧ PairsB B wr ps fs0 ∧ fs0.length = q ∧ Kept (fun _ => False) W wr ∧ finS l fs0 i (n - q) = res) (fun _ _ x25 _ => n - (intOf x25).toNat)
    case atStart => exact ⟨0, k, [], [], by omega, rfl, rfl, hk, World.ownsRow_nil _ _ _ _, ⟨rfl, fun j f hf => by simp at hf⟩, rfl, Kept.refl _ _, hres⟩
    case round =>
      obtain ⟨q, i, ps, fs0, hq, rfl, rfl, hi, ho, hp, hfl, hkr, hrs⟩ := hrel
      obtain ⟨ao, co, hvo⟩ := row_form ho
      subst hvo
      have HRS := Lib.hid hrs
      have hpl := hp.1
      have hps16 : ps.length ≤ 16 := by omega
      clear hrs hpl hres
      by_cases hlt : q < n
      · obtain ⟨m, hm⟩ : ∃ m, n - q = m + 1 := ⟨n - q - 1, by omega⟩
        have hqn : (q : Int) < n := by omega
        have b1 := bc wr hkr i hi
        cases hb1 : bytesS (l.drop i) 40 with
        | none =>
          rw [hb1] at b1
          dsimp only at b1
          have hr0 : res = none := by rw [← HRS.out, hm]; exact finS_none1 hb1
          have HR := Lib.hid hr0
          clear hb1 bc bc2 ho hp hr0
          go_wp2_with fail
          refine b1.mono ?_
          rintro e W1 ⟨k1, x, hx, rfl⟩
          go_wp2_with fail
          go_ret2
          exact ReadFar.no HR.out (hkr.trans k1)
        | some pk =>
          obtain ⟨p, k1⟩ := pk
          obtain ⟨hk1, hp40⟩ := bytesS_le hb1
          rw [List.length_drop] at hk1
          have hi1 : i + k1 ≤ l.length := by omega
          rw [hb1] at b1
          dsimp only at b1
          go_wp2_with fail
          refine b1.mono ?_
          rintro e W1 ⟨kw1, x1, rfl, ho1⟩
          have kk1 := hkr.trans kw1
          have b2 := bc2 W1 kk1 (i + k1) hi1
          obtain ⟨ax, cx, hx1⟩ := row_form ho1
          subst hx1
          have ho1' := own_base ho1 (Nat.le_trans hB hkr.size)
          obtain ⟨ij, hij⟩ : ∃ ij, i + k1 = ij := ⟨_, rfl⟩
          rw [hij] at b2 hi1
          cases hb2 : bytesS (l.drop ij) 2000 with
          | none =>
            rw [hb2] at b2
            dsimp only at b2
            have hr0 : res = none := by rw [← HRS.out, hm]; exact finS_none2 hb1 (by rw [hij]; exact hb2)
            have HR := Lib.hid hr0
            clear hb1 hb2 bc bc2 ho hp b1 ho1 ho1' hr0
            try rw [hij]
            go_wp2_with fail
            refine b2.mono ?_
            rintro e W2 ⟨k2, x, hx, rfl⟩
            go_wp2_with fail
            go_ret2
            exact ReadFar.no HR.out (kk1.trans k2)
          | some xk =>
            obtain ⟨xs, k2⟩ := xk
            obtain ⟨hk2, hx2000⟩ := bytesS_le hb2
            rw [List.length_drop] at hk2
            rw [hb2] at b2
            dsimp only at b2
            have hnext : finS l (fs0 ++ [⟨⟨p.toArray⟩, xs⟩]) (ij + k2) (n - (q + 1)) = res := by
              rw [← HRS.out, hm, finS_some hb1 (by rw [hij]; exact hb2), hij]
              congr 1; omega
            have HN := Lib.hid hnext
            clear hb1 hb2 bc bc2 b1 hnext hm
            try rw [hij]
            go_wp2_with fail
            refine b2.mono ?_
            rintro e W2 ⟨kw2, x2, rfl, ho2⟩
            have kk2 := kk1.trans kw2
            obtain ⟨ay, cy, hx2⟩ := row_form ho2
            subst hx2
            have ho2' := own_base ho2 (Nat.le_trans hB kk1.size)
            have cs := conv_str (ByAt.own (row_kept ho1' kw2))
            have hps40 : (⟨p.toArray⟩ : ByteArray).size = p.length := by simp [ByteArray.size]
            have bf := build_f ⟨p.toArray⟩ ay xs.length cy W2
            have bs := bslice_f1 ⟨p.toArray⟩ ay xs.length cy W2
            have k3 : Kept (fun _ => False) W2 (W2.alloc (.cells #[.string ⟨p.toArray⟩, .slice ay xs.length cy] 33)) := (Kept.refl _ W2).alloc _
            have hr3 := heap_last W2 (.cells #[.string ⟨p.toArray⟩, .slice ay xs.length cy] 33)
            generalize W2.alloc (.cells #[.string ⟨p.toArray⟩, .slice ay xs.length cy] 33) = W3 at bs k3 hr3
            have hoo := row_kept (row_kept (row_kept ho kw1) kw2) k3
            obtain ⟨v', w', ap, ho', hg'⟩ := app_files hoo (ad := ⟨W2.heap.size, 0, none⟩) (m := 1) (c := 1) (news := prs [((⟨p.toArray⟩ : ByteArray), Value.slice ay xs.length cy)]) rfl (fun j u hu => by
              rw [Addr.add_mid, Nat.zero_add, cell_of_row _ _ _ _ _ _ hr3]
              simpa [prs] using hu) (fun u hu => by simp [prs] at hu; rcases hu with rfl | rfl <;> rfl) (by omega) (Nat.le_trans kk2.size k3.size) 28 28 Tryd.underlying28
            have kk3 : Kept (fun _ => False) W w' := grown_kept (kk2.trans k3) hg' (fun k e => (World.ownsRow.lt hoo k e).1)
            have hp3 := (((hp.kept kw1).kept kw2).kept k3).snoc (f := ⟨⟨p.toArray⟩, xs⟩) (x := .slice ay xs.length cy) (by simp only [hps40, maxLen]; omega) (row_kept ho2' k3)
            have hp4 := hp3.grown hoo hg'
            rw [← prs_app] at ho'
            obtain ⟨a', c', hv'⟩ := row_form ho'
            subst hv'
            have HP4 := Lib.hid hp4
            have HO4 := Lib.hid ho'
            clear hp4 hp3 hp ho ho1 ho1' ho2 ho2' hoo hg' hr3 k3 ho' hps40
            have hik : ij + k2 ≤ l.length := by omega
            go_wp2_with (first
              | (with_reducible refine wpl_build 33 _ rfl rfl ?_ bf ?_
                 · (go_simp <;> rfl)
                 simp only [Act.put, List.getElem_toArray, List.getElem_cons_zero, List.getElem_cons_succ, List.setIfInBounds_toArray, List.set_cons_zero, List.set_cons_succ])
              | (with_reducible refine wpl_bslice 28 _ _ rfl rfl ?_ bs ?_
                 · (go_simp <;> rfl)
                 simp only [Act.put, List.getElem_toArray, List.getElem_cons_zero, List.getElem_cons_succ, List.setIfInBounds_toArray, List.set_cons_zero, List.set_cons_succ])
              | (refine wpl_val rfl (exec_append 28 _ _ rfl rfl rfl ap) ?_))
            go_roundw
            case rel => exact ⟨q + 1, ij + k2, _, _, by omega, by go_num, by simp, hik, by rw [List.length_append]; exact HO4.out, HP4.out, by rw [List.length_append, hfl]; rfl, kk3, HN.out⟩
            case measure => simp [intOf]; omega
      · obtain rfl : q = n := by omega
        have hrz : res = if i = l.length ∧ mayB fs0 = true then some fs0 else none := by
          rw [← HRS.out, Nat.sub_self, finS_zero]
        have HRZ := Lib.hid hrz
        have ht := TreeAt.of_row ho hp.at
        have htB := TreeFar.of_row ho hB hp
        have mc := may_ct ht
        clear hrz bc bc2 ho hp
        by_cases hil : i = l.length
        · have en : ((i : Int) != (l.length : Int)) = false := by rw [hil]; simp
          generalize hmb : mayB fs0 = mb at mc
          have HIL := Lib.hid hil
          have HMB := Lib.hid hmb
          clear hil hmb
          cases mb with
          | true =>
            go_wp2_with fail
            refine mc.mono ?_
            rintro e W5 ⟨rfl, k5⟩
            go_wp2_with fail
            go_ret2
            exact ReadFar.yes (by rw [HRZ.out, if_pos ⟨HIL.out, HMB.out⟩]) (hkr.trans k5) (htB.kept k5)
          | false =>
            go_wp2_with fail
            refine mc.mono ?_
            rintro e W5 ⟨rfl, k5⟩
            go_wp2_with fail
            go_ret2
            exact ReadFar.no (by rw [HRZ.out, if_neg (fun z => by rw [HMB.out] at z; cases z.2)]) (hkr.trans k5)
        · have en : ((i : Int) != (l.length : Int)) = true := by simp; omega
          have HIL := Lib.hid hil
          clear hil mc
          go_wp2_with fail
          go_ret2
          exact ReadFar.no (by rw [HRZ.out, if_neg (fun z => HIL.out z.1)]) hkr
end Go.Proofs.YthachckofghppaaDoor
