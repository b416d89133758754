/- The document's Find, put, made, With. -/
import Derived.Test.YtfohljljoalmoaaDoorUF
import Derived.Test.YtfohljljoalmoaaDoorTN
namespace Go.Proofs.YtfohljljoalmoaaDoor
open Go.RowKit
set_option maxRecDepth 100000
set_option linter.unusedSimpArgs false
set_option linter.unusedVariables false

def FindIs (l : List FileE) (s : ByteArray) (z : Int) : Prop := (∃ (i : Nat) (f : FileE), z = i ∧ l[i]? = some f ∧ f.path = s) ∨ (z = -1 ∧ ∀ f ∈ l, f.path ≠ s)
set_option maxRecDepth 100000 in
set_option maxHeartbeats 1000000 in
theorem rFind_ct {w : World} {v : Value} {l : List FileE} (h : TreeAt w v l) (s : ByteArray) :
    Calls Tryd.prog 58 #[v, .string s] w fun e w' => ∃ z, e = .returned (.int .i64 z) ∧ FindIs l s z ∧ Kept (fun _ => False) w w' := by
  obtain ⟨a, c, hv⟩ := h.slc
  subst hv
  have hml : l.length ≤ maxLen := by obtain ⟨_, _, _, h2, _⟩ := h; exact h2
  simp only [maxLen] at hml
  go_enter Tryd.func58, Tryd.ntmps58
  go_wp2_with fail
  go_loopw [5] (fun i wr => ∃ k : Nat, k ≤ l.length ∧ i = .int .i64 k ∧ Hid (∀ f ∈ l.take k, f.path ≠ s) ∧ Kept (fun _ => False) w wr) (fun i _ => l.length - (intOf i).toNat)
  case atStart => exact ⟨0, by omega, rfl, (fun f hf => by simp at hf : ∀ f ∈ l.take 0, f.path ≠ s), Kept.refl _ _⟩
  case round =>
    obtain ⟨k, hk, rfl, HN, hkr⟩ := hrel
    by_cases hlt : k < l.length
    · have hfa : l[k]? = some l[k] := List.getElem?_eq_getElem hlt
      have htk : l.take (k + 1) = l.take k ++ [l[k]] := List.take_succ_eq_append_getElem hlt
      generalize l[k] = f at hfa htk
      obtain ⟨_, b1, o1, x, rfl, hbl, hrx, hB⟩ := (h.kept hkr).file hfa
      have q0 : wr.cell? ⟨b1, o1 + k * 2, none⟩ = some (.string f.path) := hrx 0 _ rfl
      have HF := Lib.hid (And.intro hfa htk)
      clear hrx hB hfa htk
      generalize hpe : (f.path.toList == s.toList) = pe
      cases pe with
      | true =>
        have hfs : f.path = s := ba_ext (by simpa using hpe)
        have HFS := Lib.hid hfs
        clear hfs
        go_wp2_with fail
        go_ret
        exact ⟨k, rfl, .inl ⟨k, f, rfl, HF.out.1, HFS.out⟩, hkr⟩
      | false =>
        have HN2 : Hid (∀ g ∈ l.take (k + 1), g.path ≠ s) := by
          intro g hg
          rw [HF.out.2] at hg
          rcases List.mem_append.1 hg with q | q
          · exact HN.out g q
          · simp at q; subst q; intro e; rw [e] at hpe; simp at hpe
        go_wp2_with fail
        go_roundw
        case rel => exact ⟨k + 1, by omega, by go_num, HN2, hkr⟩
        case measure => simp [intOf]; omega
    · obtain rfl : k = l.length := by omega
      have HN2 : Hid (∀ g ∈ l, g.path ≠ s) := by have := HN.out; rw [List.take_length] at this; exact this
      go_wp2_with fail
      go_ret
      exact ⟨-1, rfl, .inr ⟨rfl, HN2.out⟩, hkr⟩

/-- What put makes. -/
def putGo (f : FileE) : List FileE → Bool → List FileE
  | [], d => if d then [] else [f]
  | g :: r, d => (if !d && !(ltB g.path f.path) then [f] else []) ++ ((if eqB g.path f.path then [] else [g]) ++ putGo f r (d || !(ltB g.path f.path)))
def putL (l : List FileE) (f : FileE) : List FileE := putGo f l false
theorem app_one {w w0 : World} {v : Value} {ps : List (ByteArray × Value)} (ho : w.ownsRow w0.heap.size 46 2 v ps.length (prs ps)) {gb : Nat} {p : ByteArray} {x : Value} {fr : Nat × Nat} (hg : w.heap[gb]? = some (.cells #[.string p, x] 46 fr)) (h1 : x.oneCell' = true) (hn : ps.length ≤ 100000) (hk : Kept (fun _ => False) w0 w) (ty : TypeId) :
    ∃ a' c' w', (Builtin.append_ #[27, 27] ty #[v, .slice (some ⟨gb, 0, none⟩) 1 1]).run Tryd.prog w = .ok (.slice a' (ps.length + 1) c') w' ∧ w'.ownsRow w0.heap.size 46 2 (.slice a' (ps.length + 1) c') (ps.length + 1) (prs (ps ++ [(p, x)])) ∧ Kept (fun _ => False) w0 w' := by
  obtain ⟨v', w', ap, ho', hg'⟩ := app_files ho (ad := ⟨gb, 0, none⟩) (m := 1) (c := 1) (news := [.string p, x]) rfl (fun j u hu => by
    rw [Addr.add_mid, Nat.zero_add, cell_of_row _ _ _ _ _ _ hg]; simpa using hu) (fun u hu => by simp at hu; rcases hu with rfl | rfl; rfl; exact h1) (by omega) hk.size 27 ty Tryd.underlying27
  obtain ⟨a', c', hv⟩ := row_form ho'
  subst hv
  exact ⟨a', c', w', ap, by rw [prs_app2]; exact ho', grown_kept hk hg' (fun k e => (World.ownsRow.lt ho k e).1)⟩

set_option maxRecDepth 100000 in
set_option maxHeartbeats 4000000 in
theorem rPut_ct {w : World} {v x : Value} {l : List FileE} (h : TreeAt w v l) {p : ByteArray} (hp : p.size ≤ maxLen) {b : List UInt8} (hx : ByAt w x b) (hl : l.length ≤ 1000) :
    Calls Tryd.prog 59 #[v, .agg #[.string p, x]] w fun e w' => ∃ v', e = .returned v' ∧ TreeAt w' v' (putL l ⟨p, b⟩) ∧ Kept (fun _ => False) w w' := by
  obtain ⟨a, c, hv⟩ := h.slc
  subst hv
  obtain ⟨ax, cx, hvx⟩ := hx.slc
  subst hvx
  have hbx := heap_last w (.cells #[.string p, .slice ax b.length cx] 46)
  have k0 : Kept (fun _ => False) w (w.alloc (.cells #[.string p, .slice ax b.length cx] 46)) := (Kept.refl _ w).alloc _
  go_enter Tryd.func59, Tryd.ntmps59
  go_wp2_with fail
  generalize w.alloc (.cells #[.string p, .slice ax b.length cx] 46) = W0 at hbx k0 ⊢
  have hbxl := (Array.getElem?_eq_some_iff.1 hbx).1
  generalize w.heap.size = bx at hbx hbxl ⊢
  go_loopw [5, 6, 7] (fun so sd si wr => ∃ (k : Nat) (ps : List (ByteArray × Value)) (o : List FileE) (d : Bool), k ≤ l.length ∧ si = .int .i64 k ∧ sd = .bool d ∧ (∃ aa cc, so = .slice aa ps.length cc) ∧ Hid (wr.ownsRow W0.heap.size 46 2 so ps.length (prs ps) ∧ PairsAt w ps o ∧ o ++ putGo ⟨p, b⟩ (l.drop k) d = putL l ⟨p, b⟩) ∧ ps.length ≤ 2 * k ∧ Kept (fun _ => False) W0 wr) (fun _ _ si _ => l.length - (intOf si).toNat)
  case atStart => exact ⟨0, [], [], false, by omega, rfl, rfl, ⟨none, 0, rfl⟩, ⟨World.ownsRow_nil _ _ _ _, ⟨rfl, fun j f hf => by simp at hf⟩, rfl⟩, by simp, Kept.refl _ _⟩
  case round =>
    obtain ⟨k, ps, o, d, hk, rfl, rfl, ⟨aa, cc, rfl⟩, HR, hpn, hkr⟩ := hrel
    have HBX : Hid (W0.cell? ⟨bx, 0, none⟩ = some (.string p)) := by unfold Hid; rw [cell_of_row _ _ _ _ _ _ hbx]; rfl
    have HBX0 := Lib.hid hbx
    clear hbx
    by_cases hlt : k < l.length
    · have hga := List.getElem?_eq_getElem hlt
      have hdr : l.drop k = l[k] :: l.drop (k + 1) := List.drop_eq_getElem_cons hlt
      generalize l[k] = g at hga hdr
      obtain ⟨hgs, b1, o1, y, rfl, hbl, hrx, hBg⟩ := h.file hga
      obtain ⟨ag, cg, rfl⟩ := hBg.slc
      have HRX := Lib.hid hrx
      have HG := Lib.hid (And.intro hgs hBg)
      have HDR := Lib.hid hdr
      clear hrx hgs hBg hga hdr
      have q1 : ∀ w', Kept (fun _ => False) wr w' → w'.cell? ⟨b1, o1 + k * 2, none⟩ = some (.string g.path) := fun w' q => (((k0.trans hkr).trans q).cell (p := ⟨b1, o1 + k * 2, none⟩) hbl not_false).trans (HRX.out 0 _ rfl)
      have q2 : ∀ w', Kept (fun _ => False) wr w' → w'.cell? ⟨bx, 0, none⟩ = some (.string p) := fun w' q => ((hkr.trans q).cell (p := ⟨bx, 0, none⟩) hbxl not_false).trans HBX.out
      cases d with
      | true =>
        go_wp2_with fail
        refine wp_region_held_drew (S := (Kept (fun _ => False) wr)) (by kernel_rfl) ((Kept.refl _ wr).drew) (fun hHeld => ?_)
        refine held_q (v := ?_) (i := 0) rfl (by kernel_rfl) (by kernel_rfl) (by kernel_rfl) (fun _ _ _ h => h) (by rfl) hHeld ?_ ?_
        rotate_left
        · (intro w' hS'; go_simp <;> (with_reducible rfl))
        simp only [Act.put, List.getElem_toArray, List.getElem_cons_zero, List.getElem_cons_succ, List.setIfInBounds_toArray, List.set_cons_zero, List.set_cons_succ]
        refine held_q (v := ?_) (i := 1) rfl (by kernel_rfl) (by kernel_rfl) (by kernel_rfl) (fun _ _ _ h => h) (by rfl) hHeld ?_ ?_
        rotate_left
        · (intro w' hS'; go_simp <;> (with_reducible rfl))
        simp only [Act.put, List.getElem_toArray, List.getElem_cons_zero, List.getElem_cons_succ, List.setIfInBounds_toArray, List.set_cons_zero, List.set_cons_succ]
        refine held_q (v := ?_) (i := 2) rfl (by kernel_rfl) (by kernel_rfl) (by kernel_rfl) (fun _ _ _ h => h) (by rfl) hHeld ?_ ?_
        rotate_left
        · (intro w' hS'; go_simp <;> (with_reducible rfl))
        simp only [Act.put, List.getElem_toArray, List.getElem_cons_zero, List.getElem_cons_succ, List.setIfInBounds_toArray, List.set_cons_zero, List.set_cons_succ]
        refine held_no (i := 3) rfl (by kernel_rfl) (by kernel_rfl) (by kernel_rfl) (fun _ _ _ h => h) (by rfl) hHeld ?_
        simp only [Act.put, List.getElem_toArray, List.getElem_cons_zero, List.getElem_cons_succ, List.setIfInBounds_toArray, List.set_cons_zero, List.set_cons_succ]
        refine held_no (i := 4) rfl (by kernel_rfl) (by kernel_rfl) (by kernel_rfl) (fun _ _ _ h => h) (by rfl) hHeld ?_
        simp only [Act.put, List.getElem_toArray, List.getElem_cons_zero, List.getElem_cons_succ, List.setIfInBounds_toArray, List.set_cons_zero, List.set_cons_succ]
        refine held_no (i := 5) rfl (by kernel_rfl) (by kernel_rfl) (by kernel_rfl) (fun _ _ _ h => h) (by rfl) hHeld ?_
        simp only [Act.put, List.getElem_toArray, List.getElem_cons_zero, List.getElem_cons_succ, List.setIfInBounds_toArray, List.set_cons_zero, List.set_cons_succ]
        refine held_no (i := 6) rfl (by kernel_rfl) (by kernel_rfl) (by kernel_rfl) (fun _ _ _ h => h) (by rfl) hHeld ?_
        simp only [Act.put, List.getElem_toArray, List.getElem_cons_zero, List.getElem_cons_succ, List.setIfInBounds_toArray, List.set_cons_zero, List.set_cons_succ]
        refine held_no (i := 7) rfl (by kernel_rfl) (by kernel_rfl) (by kernel_rfl) (fun _ _ _ h => h) (by rfl) hHeld ?_
        simp only [Act.put, List.getElem_toArray, List.getElem_cons_zero, List.getElem_cons_succ, List.setIfInBounds_toArray, List.set_cons_zero, List.set_cons_succ]
        refine held_no (i := 8) rfl (by kernel_rfl) (by kernel_rfl) (by kernel_rfl) (fun _ _ _ h => h) (by rfl) hHeld ?_
        simp only [Act.put, List.getElem_toArray, List.getElem_cons_zero, List.getElem_cons_succ, List.setIfInBounds_toArray, List.set_cons_zero, List.set_cons_succ]
        refine held_no (i := 9) rfl (by kernel_rfl) (by kernel_rfl) (by kernel_rfl) (fun _ _ _ h => h) (by rfl) hHeld ?_
        simp only [Act.put, List.getElem_toArray, List.getElem_cons_zero, List.getElem_cons_succ, List.setIfInBounds_toArray, List.set_cons_zero, List.set_cons_succ]
        refine held_no (i := 10) rfl (by kernel_rfl) (by kernel_rfl) (by kernel_rfl) (fun _ _ _ h => h) (by rfl) hHeld ?_
        simp only [Act.put, List.getElem_toArray, List.getElem_cons_zero, List.getElem_cons_succ, List.setIfInBounds_toArray, List.set_cons_zero, List.set_cons_succ]
        refine held_q (v := ?_) (i := 11) rfl (by kernel_rfl) (by kernel_rfl) (by kernel_rfl) (fun _ _ _ h => h) (by rfl) hHeld ?_ ?_
        rotate_left
        · (intro w' hS'; go_simp <;> (with_reducible rfl))
        simp only [Act.put, List.getElem_toArray, List.getElem_cons_zero, List.getElem_cons_succ, List.setIfInBounds_toArray, List.set_cons_zero, List.set_cons_succ]
        refine wpAnyH_done (by kernel_rfl) ?_ _
        have HA : Hid (wr.drew.ownsRow W0.heap.size 46 2 (.slice aa ps.length cc) ps.length (prs ps) ∧ PairsAt w ps o ∧ o ++ ((if eqB g.path p then [] else [g]) ++ putGo ⟨p, b⟩ (l.drop (k + 1)) true) = putL l ⟨p, b⟩) := ⟨row_kept HR.out.1 hHeld, HR.out.2.1, by
          have := HR.out.2.2
          rw [HDR.out] at this
          simpa [putGo] using this⟩
        have KWA := hkr.trans hHeld
        obtain ⟨psA, hpsA⟩ : ∃ psA, psA = ps := ⟨_, rfl⟩
        obtain ⟨oA, hoA⟩ : ∃ oA, oA = o := ⟨_, rfl⟩
        obtain ⟨aA, haA⟩ : ∃ aA, aA = aa := ⟨_, rfl⟩
        obtain ⟨cA, hcA⟩ : ∃ cA, cA = cc := ⟨_, rfl⟩
        rw [← hpsA, ← hoA, ← haA, ← hcA] at HA
        rw [← hpsA] at hpn ⊢
        rw [← haA, ← hcA]
        clear hpsA hoA haA hcA q1 q2 HR hHeld
        generalize wr.drew = WA at HA KWA ⊢
        have HAo := HA.out.1
        have qg : ∀ w', Kept (fun _ => False) WA w' → w'.cell? ⟨b1, o1 + k * 2, none⟩ = some (.string g.path) := fun w' q => (((k0.trans KWA).trans q).cell (p := ⟨b1, o1 + k * 2, none⟩) hbl not_false).trans (HRX.out 0 _ rfl)
        have qf : ∀ w', Kept (fun _ => False) WA w' → w'.cell? ⟨bx, 0, none⟩ = some (.string p) := fun w' q => ((KWA.trans q).cell (p := ⟨bx, 0, none⟩) hbxl not_false).trans HBX.out
        cases hpe : (g.path.toList == p.toList) with
        | true =>
          have npe : (g.path.toList != p.toList) = false := by rw [bne, hpe]; rfl
          have HE2 : Hid (WA.ownsRow W0.heap.size 46 2 (.slice aA psA.length cA) psA.length (prs psA) ∧ PairsAt w psA oA ∧ oA ++ putGo ⟨p, b⟩ (l.drop (k + 1)) true = putL l ⟨p, b⟩) := ⟨HA.out.1, HA.out.2.1, by have := HA.out.2.2; unfold eqB at this; rw [hpe] at this; simpa using this⟩
          clear HA HAo
          go_wp2_with fail
          refine wp_region_held_drew (S := (Kept (fun _ => False) WA)) (by kernel_rfl) ((Kept.refl _ WA).drew) (fun hHeld => ?_)
          refine held_q (v := ?_) (i := 0) rfl (by kernel_rfl) (by kernel_rfl) (by kernel_rfl) (fun _ _ _ h => h) (by rfl) hHeld ?_ ?_
          rotate_left
          · (intro w' hS'; go_simp <;> (with_reducible rfl))
          simp only [Act.put, List.getElem_toArray, List.getElem_cons_zero, List.getElem_cons_succ, List.setIfInBounds_toArray, List.set_cons_zero, List.set_cons_succ]
          refine held_q (v := ?_) (i := 1) rfl (by kernel_rfl) (by kernel_rfl) (by kernel_rfl) (fun _ _ _ h => h) (by rfl) hHeld ?_ ?_
          rotate_left
          · (intro w' hS'; go_simp <;> (with_reducible rfl))
          simp only [Act.put, List.getElem_toArray, List.getElem_cons_zero, List.getElem_cons_succ, List.setIfInBounds_toArray, List.set_cons_zero, List.set_cons_succ]
          refine held_q (v := ?_) (i := 2) rfl (by kernel_rfl) (by kernel_rfl) (by kernel_rfl) (fun _ _ _ h => h) (by rfl) hHeld ?_ ?_
          rotate_left
          · (intro w' hS'; go_simp <;> (with_reducible rfl))
          simp only [Act.put, List.getElem_toArray, List.getElem_cons_zero, List.getElem_cons_succ, List.setIfInBounds_toArray, List.set_cons_zero, List.set_cons_succ]
          refine held_q (v := ?_) (i := 3) rfl (by kernel_rfl) (by kernel_rfl) (by kernel_rfl) (fun _ _ _ h => h) (by rfl) hHeld ?_ ?_
          rotate_left
          · (intro w' hS'; go_simp <;> (with_reducible rfl))
          simp only [Act.put, List.getElem_toArray, List.getElem_cons_zero, List.getElem_cons_succ, List.setIfInBounds_toArray, List.set_cons_zero, List.set_cons_succ]
          refine held_q (v := ?_) (i := 4) rfl (by kernel_rfl) (by kernel_rfl) (by kernel_rfl) (fun _ _ _ h => h) (by rfl) hHeld ?_ ?_
          rotate_left
          · (intro w' hS'; go_simp <;> (with_reducible rfl))
          simp only [Act.put, List.getElem_toArray, List.getElem_cons_zero, List.getElem_cons_succ, List.setIfInBounds_toArray, List.set_cons_zero, List.set_cons_succ]
          refine held_q (v := ?_) (i := 5) rfl (by kernel_rfl) (by kernel_rfl) (by kernel_rfl) (fun _ _ _ h => h) (by rfl) hHeld ?_ ?_
          rotate_left
          · (intro w' hS'; go_simp <;> (with_reducible rfl))
          simp only [Act.put, List.getElem_toArray, List.getElem_cons_zero, List.getElem_cons_succ, List.setIfInBounds_toArray, List.set_cons_zero, List.set_cons_succ]
          refine held_q (v := ?_) (i := 6) rfl (by kernel_rfl) (by kernel_rfl) (by kernel_rfl) (fun _ _ _ h => h) (by rfl) hHeld ?_ ?_
          rotate_left
          · (intro w' hS'; go_simp <;> (with_reducible rfl))
          simp only [Act.put, List.getElem_toArray, List.getElem_cons_zero, List.getElem_cons_succ, List.setIfInBounds_toArray, List.set_cons_zero, List.set_cons_succ]
          refine held_q (v := ?_) (i := 7) rfl (by kernel_rfl) (by kernel_rfl) (by kernel_rfl) (fun _ _ _ h => h) (by rfl) hHeld ?_ ?_
          rotate_left
          · (intro w' hS'; go_simp <;> (with_reducible rfl))
          simp only [Act.put, List.getElem_toArray, List.getElem_cons_zero, List.getElem_cons_succ, List.setIfInBounds_toArray, List.set_cons_zero, List.set_cons_succ]
          refine wpAnyH_done (by kernel_rfl) ?_ _
          go_wp2_with fail
          go_roundw
          case rel => exact ⟨k + 1, psA, oA, true, by omega, by go_num, rfl, ⟨aA, cA, rfl⟩, ⟨row_kept HE2.out.1 hHeld, HE2.out.2⟩, by omega, KWA.trans hHeld⟩
          case measure => simp [intOf]; omega
        | false =>
          have npe : (g.path.toList != p.toList) = true := by rw [bne, hpe]; rfl
          have heq2 : oA ++ [g] ++ putGo ⟨p, b⟩ (l.drop (k + 1)) true = putL l ⟨p, b⟩ := by have := HA.out.2.2; unfold eqB at this; rw [hpe] at this; simpa using this
          have HE2 := Lib.hid heq2
          clear heq2
          have ldg := load_file (rangeAt_stay (k0.trans KWA).drew hbl not_false HRX.out)
          have kd : Kept (fun _ => False) W0 WA.drew := KWA.drew
          have hod := row_kept HA.out.1 (Kept.refl (fun _ => False) WA).drew
          have hpa := HA.out.2.1
          clear HA HAo
          go_wp2_with fail
          refine wp_region_held_drew (S := (Kept (fun _ => False) WA)) (by kernel_rfl) ((Kept.refl _ WA).drew) (fun hHeld => ?_)
          refine held_q (v := ?_) (i := 0) rfl (by kernel_rfl) (by kernel_rfl) (by kernel_rfl) (fun _ _ _ h => h) (by rfl) hHeld ?_ ?_
          rotate_left
          · (intro w' hS'; go_simp <;> (with_reducible rfl))
          simp only [Act.put, List.getElem_toArray, List.getElem_cons_zero, List.getElem_cons_succ, List.setIfInBounds_toArray, List.set_cons_zero, List.set_cons_succ]
          refine held_q (v := ?_) (i := 1) rfl (by kernel_rfl) (by kernel_rfl) (by kernel_rfl) (fun _ _ _ h => h) (by rfl) hHeld ?_ ?_
          rotate_left
          · (intro w' hS'; go_simp <;> (with_reducible rfl))
          simp only [Act.put, List.getElem_toArray, List.getElem_cons_zero, List.getElem_cons_succ, List.setIfInBounds_toArray, List.set_cons_zero, List.set_cons_succ]
          refine held_q (v := ?_) (i := 2) rfl (by kernel_rfl) (by kernel_rfl) (by kernel_rfl) (fun _ _ _ h => h) (by rfl) hHeld ?_ ?_
          rotate_left
          · (intro w' hS'; go_simp <;> (with_reducible rfl))
          simp only [Act.put, List.getElem_toArray, List.getElem_cons_zero, List.getElem_cons_succ, List.setIfInBounds_toArray, List.set_cons_zero, List.set_cons_succ]
          refine held_q (v := ?_) (i := 3) rfl (by kernel_rfl) (by kernel_rfl) (by kernel_rfl) (fun _ _ _ h => h) (by rfl) hHeld ?_ ?_
          rotate_left
          · (intro w' hS'; go_simp <;> (with_reducible rfl))
          simp only [Act.put, List.getElem_toArray, List.getElem_cons_zero, List.getElem_cons_succ, List.setIfInBounds_toArray, List.set_cons_zero, List.set_cons_succ]
          refine held_q (v := ?_) (i := 4) rfl (by kernel_rfl) (by kernel_rfl) (by kernel_rfl) (fun _ _ _ h => h) (by rfl) hHeld ?_ ?_
          rotate_left
          · (intro w' hS'; go_simp <;> (with_reducible rfl))
          simp only [Act.put, List.getElem_toArray, List.getElem_cons_zero, List.getElem_cons_succ, List.setIfInBounds_toArray, List.set_cons_zero, List.set_cons_succ]
          refine held_q (v := ?_) (i := 5) rfl (by kernel_rfl) (by kernel_rfl) (by kernel_rfl) (fun _ _ _ h => h) (by rfl) hHeld ?_ ?_
          rotate_left
          · (intro w' hS'; go_simp <;> (with_reducible rfl))
          simp only [Act.put, List.getElem_toArray, List.getElem_cons_zero, List.getElem_cons_succ, List.setIfInBounds_toArray, List.set_cons_zero, List.set_cons_succ]
          refine held_q (v := ?_) (i := 6) rfl (by kernel_rfl) (by kernel_rfl) (by kernel_rfl) (fun _ _ _ h => h) (by rfl) hHeld ?_ ?_
          rotate_left
          · (intro w' hS'; go_simp <;> (with_reducible rfl))
          simp only [Act.put, List.getElem_toArray, List.getElem_cons_zero, List.getElem_cons_succ, List.setIfInBounds_toArray, List.set_cons_zero, List.set_cons_succ]
          refine held_q (v := ?_) (i := 7) rfl (by kernel_rfl) (by kernel_rfl) (by kernel_rfl) (fun _ _ _ h => h) (by rfl) hHeld ?_ ?_
          rotate_left
          · (intro w' hS'; go_simp <;> (with_reducible rfl))
          simp only [Act.put, List.getElem_toArray, List.getElem_cons_zero, List.getElem_cons_succ, List.setIfInBounds_toArray, List.set_cons_zero, List.set_cons_succ]
          refine wpAnyH_done (by kernel_rfl) ?_ _
          generalize WA.drew = W5 at ldg kd hod hHeld ⊢
          have bs5 := bslice_f1 g.path ag g.bytes.length cg W5
          have hg6 := heap_last W5 (.cells #[.string g.path, .slice ag g.bytes.length cg] 46)
          have k6 : Kept (fun _ => False) W5 (W5.alloc (.cells #[.string g.path, .slice ag g.bytes.length cg] 46)) := (Kept.refl _ W5).alloc _
          generalize W5.alloc (.cells #[.string g.path, .slice ag g.bytes.length cg] 46) = W6 at bs5 hg6 k6
          obtain ⟨a7, c7, W7, ap7, ho7, k7⟩ := app_one (row_kept hod k6) hg6 rfl (by omega) (kd.trans k6) 27
          have hpa7 : PairsAt w (psA ++ [(g.path, .slice ag g.bytes.length cg)]) (oA ++ [g]) := hpa.snoc HG.out.1 HG.out.2
          have HF : Hid (W7.ownsRow W0.heap.size 46 2 (.slice a7 (psA.length + 1) c7) (psA.length + 1) (prs (psA ++ [(g.path, .slice ag g.bytes.length cg)])) ∧ PairsAt w (psA ++ [(g.path, .slice ag g.bytes.length cg)]) (oA ++ [g]) ∧ oA ++ [g] ++ putGo ⟨p, b⟩ (l.drop (k + 1)) true = putL l ⟨p, b⟩) := ⟨ho7, hpa7, HE2.out⟩
          clear ho7 hpa7 HE2 hpa hod hg6
          generalize W5.heap.size = B5 at bs5 ap7
          go_wp2_with (first
            | (with_reducible refine wpl_load 46 _ rfl rfl ?_ ldg ?_
               · rfl
               simp only [Act.put, List.getElem_toArray, List.getElem_cons_zero, List.getElem_cons_succ, List.setIfInBounds_toArray, List.set_cons_zero, List.set_cons_succ])
            | (with_reducible refine wpl_bslice 27 _ _ rfl rfl ?_ bs5 ?_
               · (go_simp <;> rfl)
               simp only [Act.put, List.getElem_toArray, List.getElem_cons_zero, List.getElem_cons_succ, List.setIfInBounds_toArray, List.set_cons_zero, List.set_cons_succ])
            | (refine wpl_val rfl (exec_append2 27 27 _ _ rfl rfl rfl ap7) ?_))
          go_roundw
          case rel => exact ⟨k + 1, psA ++ [(g.path, .slice ag g.bytes.length cg)], oA ++ [g], true, by omega, by go_num, rfl, ⟨a7, c7, by rw [List.length_append]; rfl⟩, by rw [List.length_append]; exact HF.out, by rw [List.length_append]; simp; omega, k7⟩
          case measure => simp [intOf]; omega
      | false =>
        generalize hbt : Op.bytesLess g.path.toList p.toList = bt
        have hlt2 : ltB g.path p = bt := hbt
        have HLT := Lib.hid hlt2
        clear hlt2
        cases bt with
        | true =>
          go_wp2_with fail
          refine wp_region_held_drew (S := (Kept (fun _ => False) wr)) (by kernel_rfl) ((Kept.refl _ wr).drew) (fun hHeld => ?_)
          refine held_q (v := ?_) (i := 0) rfl (by kernel_rfl) (by kernel_rfl) (by kernel_rfl) (fun _ _ _ h => h) (by rfl) hHeld ?_ ?_
          rotate_left
          · (intro w' hS'; go_simp <;> (with_reducible rfl))
          simp only [Act.put, List.getElem_toArray, List.getElem_cons_zero, List.getElem_cons_succ, List.setIfInBounds_toArray, List.set_cons_zero, List.set_cons_succ]
          refine held_q (v := ?_) (i := 1) rfl (by kernel_rfl) (by kernel_rfl) (by kernel_rfl) (fun _ _ _ h => h) (by rfl) hHeld ?_ ?_
          rotate_left
          · (intro w' hS'; go_simp <;> (with_reducible rfl))
          simp only [Act.put, List.getElem_toArray, List.getElem_cons_zero, List.getElem_cons_succ, List.setIfInBounds_toArray, List.set_cons_zero, List.set_cons_succ]
          refine held_q (v := ?_) (i := 2) rfl (by kernel_rfl) (by kernel_rfl) (by kernel_rfl) (fun _ _ _ h => h) (by rfl) hHeld ?_ ?_
          rotate_left
          · (intro w' hS'; go_simp <;> (with_reducible rfl))
          simp only [Act.put, List.getElem_toArray, List.getElem_cons_zero, List.getElem_cons_succ, List.setIfInBounds_toArray, List.set_cons_zero, List.set_cons_succ]
          refine held_q (v := ?_) (i := 3) rfl (by kernel_rfl) (by kernel_rfl) (by kernel_rfl) (fun _ _ _ h => h) (by rfl) hHeld ?_ ?_
          rotate_left
          · (intro w' hS'; go_simp <;> (with_reducible rfl))
          simp only [Act.put, List.getElem_toArray, List.getElem_cons_zero, List.getElem_cons_succ, List.setIfInBounds_toArray, List.set_cons_zero, List.set_cons_succ]
          refine held_q (v := ?_) (i := 4) rfl (by kernel_rfl) (by kernel_rfl) (by kernel_rfl) (fun _ _ _ h => h) (by rfl) hHeld ?_ ?_
          rotate_left
          · (intro w' hS'; go_simp <;> (with_reducible rfl))
          simp only [Act.put, List.getElem_toArray, List.getElem_cons_zero, List.getElem_cons_succ, List.setIfInBounds_toArray, List.set_cons_zero, List.set_cons_succ]
          refine held_q (v := ?_) (i := 5) rfl (by kernel_rfl) (by kernel_rfl) (by kernel_rfl) (fun _ _ _ h => h) (by rfl) hHeld ?_ ?_
          rotate_left
          · (intro w' hS'; go_simp <;> (with_reducible rfl))
          simp only [Act.put, List.getElem_toArray, List.getElem_cons_zero, List.getElem_cons_succ, List.setIfInBounds_toArray, List.set_cons_zero, List.set_cons_succ]
          refine held_q (v := ?_) (i := 6) rfl (by kernel_rfl) (by kernel_rfl) (by kernel_rfl) (fun _ _ _ h => h) (by rfl) hHeld ?_ ?_
          rotate_left
          · (intro w' hS'; go_simp <;> (with_reducible rfl))
          simp only [Act.put, List.getElem_toArray, List.getElem_cons_zero, List.getElem_cons_succ, List.setIfInBounds_toArray, List.set_cons_zero, List.set_cons_succ]
          refine held_q (v := ?_) (i := 7) rfl (by kernel_rfl) (by kernel_rfl) (by kernel_rfl) (fun _ _ _ h => h) (by rfl) hHeld ?_ ?_
          rotate_left
          · (intro w' hS'; go_simp <;> (with_reducible rfl))
          simp only [Act.put, List.getElem_toArray, List.getElem_cons_zero, List.getElem_cons_succ, List.setIfInBounds_toArray, List.set_cons_zero, List.set_cons_succ]
          refine held_q (v := ?_) (i := 8) rfl (by kernel_rfl) (by kernel_rfl) (by kernel_rfl) (fun _ _ _ h => h) (by rfl) hHeld ?_ ?_
          rotate_left
          · (intro w' hS'; go_simp <;> (with_reducible rfl))
          simp only [Act.put, List.getElem_toArray, List.getElem_cons_zero, List.getElem_cons_succ, List.setIfInBounds_toArray, List.set_cons_zero, List.set_cons_succ]
          refine held_q (v := ?_) (i := 9) rfl (by kernel_rfl) (by kernel_rfl) (by kernel_rfl) (fun _ _ _ h => h) (by rfl) hHeld ?_ ?_
          rotate_left
          · (intro w' hS'; go_simp <;> (with_reducible rfl))
          simp only [Act.put, List.getElem_toArray, List.getElem_cons_zero, List.getElem_cons_succ, List.setIfInBounds_toArray, List.set_cons_zero, List.set_cons_succ]
          refine held_q (v := ?_) (i := 10) rfl (by kernel_rfl) (by kernel_rfl) (by kernel_rfl) (fun _ _ _ h => h) (by rfl) hHeld ?_ ?_
          rotate_left
          · (intro w' hS'; go_simp <;> (with_reducible rfl))
          simp only [Act.put, List.getElem_toArray, List.getElem_cons_zero, List.getElem_cons_succ, List.setIfInBounds_toArray, List.set_cons_zero, List.set_cons_succ]
          refine held_q (v := ?_) (i := 11) rfl (by kernel_rfl) (by kernel_rfl) (by kernel_rfl) (fun _ _ _ h => h) (by rfl) hHeld ?_ ?_
          rotate_left
          · (intro w' hS'; go_simp <;> (with_reducible rfl))
          simp only [Act.put, List.getElem_toArray, List.getElem_cons_zero, List.getElem_cons_succ, List.setIfInBounds_toArray, List.set_cons_zero, List.set_cons_succ]
          refine wpAnyH_done (by kernel_rfl) ?_ _
          have HA : Hid (wr.drew.ownsRow W0.heap.size 46 2 (.slice aa ps.length cc) ps.length (prs ps) ∧ PairsAt w ps o ∧ o ++ ((if eqB g.path p then [] else [g]) ++ putGo ⟨p, b⟩ (l.drop (k + 1)) false) = putL l ⟨p, b⟩) := ⟨row_kept HR.out.1 hHeld, HR.out.2.1, by
            have := HR.out.2.2
            rw [HDR.out] at this
            simpa [putGo, HLT.out] using this⟩
          have KWA := hkr.trans hHeld
          obtain ⟨psA, hpsA⟩ : ∃ psA, psA = ps := ⟨_, rfl⟩
          obtain ⟨oA, hoA⟩ : ∃ oA, oA = o := ⟨_, rfl⟩
          obtain ⟨aA, haA⟩ : ∃ aA, aA = aa := ⟨_, rfl⟩
          obtain ⟨cA, hcA⟩ : ∃ cA, cA = cc := ⟨_, rfl⟩
          rw [← hpsA, ← hoA, ← haA, ← hcA] at HA
          rw [← hpsA] at hpn ⊢
          rw [← haA, ← hcA]
          clear hpsA hoA haA hcA q1 q2 HR hHeld hbt
          generalize wr.drew = WA at HA KWA ⊢
          have HAo := HA.out.1
          have qg : ∀ w', Kept (fun _ => False) WA w' → w'.cell? ⟨b1, o1 + k * 2, none⟩ = some (.string g.path) := fun w' q => (((k0.trans KWA).trans q).cell (p := ⟨b1, o1 + k * 2, none⟩) hbl not_false).trans (HRX.out 0 _ rfl)
          have qf : ∀ w', Kept (fun _ => False) WA w' → w'.cell? ⟨bx, 0, none⟩ = some (.string p) := fun w' q => ((KWA.trans q).cell (p := ⟨bx, 0, none⟩) hbxl not_false).trans HBX.out
          cases hpe : (g.path.toList == p.toList) with
          | true =>
            have npe : (g.path.toList != p.toList) = false := by rw [bne, hpe]; rfl
            have HE2 : Hid (WA.ownsRow W0.heap.size 46 2 (.slice aA psA.length cA) psA.length (prs psA) ∧ PairsAt w psA oA ∧ oA ++ putGo ⟨p, b⟩ (l.drop (k + 1)) false = putL l ⟨p, b⟩) := ⟨HA.out.1, HA.out.2.1, by have := HA.out.2.2; unfold eqB at this; rw [hpe] at this; simpa using this⟩
            clear HA HAo
            go_wp2_with fail
            refine wp_region_held_drew (S := (Kept (fun _ => False) WA)) (by kernel_rfl) ((Kept.refl _ WA).drew) (fun hHeld => ?_)
            refine held_q (v := ?_) (i := 0) rfl (by kernel_rfl) (by kernel_rfl) (by kernel_rfl) (fun _ _ _ h => h) (by rfl) hHeld ?_ ?_
            rotate_left
            · (intro w' hS'; go_simp <;> (with_reducible rfl))
            simp only [Act.put, List.getElem_toArray, List.getElem_cons_zero, List.getElem_cons_succ, List.setIfInBounds_toArray, List.set_cons_zero, List.set_cons_succ]
            refine held_q (v := ?_) (i := 1) rfl (by kernel_rfl) (by kernel_rfl) (by kernel_rfl) (fun _ _ _ h => h) (by rfl) hHeld ?_ ?_
            rotate_left
            · (intro w' hS'; go_simp <;> (with_reducible rfl))
            simp only [Act.put, List.getElem_toArray, List.getElem_cons_zero, List.getElem_cons_succ, List.setIfInBounds_toArray, List.set_cons_zero, List.set_cons_succ]
            refine held_q (v := ?_) (i := 2) rfl (by kernel_rfl) (by kernel_rfl) (by kernel_rfl) (fun _ _ _ h => h) (by rfl) hHeld ?_ ?_
            rotate_left
            · (intro w' hS'; go_simp <;> (with_reducible rfl))
            simp only [Act.put, List.getElem_toArray, List.getElem_cons_zero, List.getElem_cons_succ, List.setIfInBounds_toArray, List.set_cons_zero, List.set_cons_succ]
            refine held_q (v := ?_) (i := 3) rfl (by kernel_rfl) (by kernel_rfl) (by kernel_rfl) (fun _ _ _ h => h) (by rfl) hHeld ?_ ?_
            rotate_left
            · (intro w' hS'; go_simp <;> (with_reducible rfl))
            simp only [Act.put, List.getElem_toArray, List.getElem_cons_zero, List.getElem_cons_succ, List.setIfInBounds_toArray, List.set_cons_zero, List.set_cons_succ]
            refine held_q (v := ?_) (i := 4) rfl (by kernel_rfl) (by kernel_rfl) (by kernel_rfl) (fun _ _ _ h => h) (by rfl) hHeld ?_ ?_
            rotate_left
            · (intro w' hS'; go_simp <;> (with_reducible rfl))
            simp only [Act.put, List.getElem_toArray, List.getElem_cons_zero, List.getElem_cons_succ, List.setIfInBounds_toArray, List.set_cons_zero, List.set_cons_succ]
            refine held_q (v := ?_) (i := 5) rfl (by kernel_rfl) (by kernel_rfl) (by kernel_rfl) (fun _ _ _ h => h) (by rfl) hHeld ?_ ?_
            rotate_left
            · (intro w' hS'; go_simp <;> (with_reducible rfl))
            simp only [Act.put, List.getElem_toArray, List.getElem_cons_zero, List.getElem_cons_succ, List.setIfInBounds_toArray, List.set_cons_zero, List.set_cons_succ]
            refine held_q (v := ?_) (i := 6) rfl (by kernel_rfl) (by kernel_rfl) (by kernel_rfl) (fun _ _ _ h => h) (by rfl) hHeld ?_ ?_
            rotate_left
            · (intro w' hS'; go_simp <;> (with_reducible rfl))
            simp only [Act.put, List.getElem_toArray, List.getElem_cons_zero, List.getElem_cons_succ, List.setIfInBounds_toArray, List.set_cons_zero, List.set_cons_succ]
            refine held_q (v := ?_) (i := 7) rfl (by kernel_rfl) (by kernel_rfl) (by kernel_rfl) (fun _ _ _ h => h) (by rfl) hHeld ?_ ?_
            rotate_left
            · (intro w' hS'; go_simp <;> (with_reducible rfl))
            simp only [Act.put, List.getElem_toArray, List.getElem_cons_zero, List.getElem_cons_succ, List.setIfInBounds_toArray, List.set_cons_zero, List.set_cons_succ]
            refine wpAnyH_done (by kernel_rfl) ?_ _
            go_wp2_with fail
            go_roundw
            case rel => exact ⟨k + 1, psA, oA, false, by omega, by go_num, rfl, ⟨aA, cA, rfl⟩, ⟨row_kept HE2.out.1 hHeld, HE2.out.2⟩, by omega, KWA.trans hHeld⟩
            case measure => simp [intOf]; omega
          | false =>
            have npe : (g.path.toList != p.toList) = true := by rw [bne, hpe]; rfl
            have heq2 : oA ++ [g] ++ putGo ⟨p, b⟩ (l.drop (k + 1)) false = putL l ⟨p, b⟩ := by have := HA.out.2.2; unfold eqB at this; rw [hpe] at this; simpa using this
            have HE2 := Lib.hid heq2
            clear heq2
            have ldg := load_file (rangeAt_stay (k0.trans KWA).drew hbl not_false HRX.out)
            have kd : Kept (fun _ => False) W0 WA.drew := KWA.drew
            have hod := row_kept HA.out.1 (Kept.refl (fun _ => False) WA).drew
            have hpa := HA.out.2.1
            clear HA HAo
            go_wp2_with fail
            refine wp_region_held_drew (S := (Kept (fun _ => False) WA)) (by kernel_rfl) ((Kept.refl _ WA).drew) (fun hHeld => ?_)
            refine held_q (v := ?_) (i := 0) rfl (by kernel_rfl) (by kernel_rfl) (by kernel_rfl) (fun _ _ _ h => h) (by rfl) hHeld ?_ ?_
            rotate_left
            · (intro w' hS'; go_simp <;> (with_reducible rfl))
            simp only [Act.put, List.getElem_toArray, List.getElem_cons_zero, List.getElem_cons_succ, List.setIfInBounds_toArray, List.set_cons_zero, List.set_cons_succ]
            refine held_q (v := ?_) (i := 1) rfl (by kernel_rfl) (by kernel_rfl) (by kernel_rfl) (fun _ _ _ h => h) (by rfl) hHeld ?_ ?_
            rotate_left
            · (intro w' hS'; go_simp <;> (with_reducible rfl))
            simp only [Act.put, List.getElem_toArray, List.getElem_cons_zero, List.getElem_cons_succ, List.setIfInBounds_toArray, List.set_cons_zero, List.set_cons_succ]
            refine held_q (v := ?_) (i := 2) rfl (by kernel_rfl) (by kernel_rfl) (by kernel_rfl) (fun _ _ _ h => h) (by rfl) hHeld ?_ ?_
            rotate_left
            · (intro w' hS'; go_simp <;> (with_reducible rfl))
            simp only [Act.put, List.getElem_toArray, List.getElem_cons_zero, List.getElem_cons_succ, List.setIfInBounds_toArray, List.set_cons_zero, List.set_cons_succ]
            refine held_q (v := ?_) (i := 3) rfl (by kernel_rfl) (by kernel_rfl) (by kernel_rfl) (fun _ _ _ h => h) (by rfl) hHeld ?_ ?_
            rotate_left
            · (intro w' hS'; go_simp <;> (with_reducible rfl))
            simp only [Act.put, List.getElem_toArray, List.getElem_cons_zero, List.getElem_cons_succ, List.setIfInBounds_toArray, List.set_cons_zero, List.set_cons_succ]
            refine held_q (v := ?_) (i := 4) rfl (by kernel_rfl) (by kernel_rfl) (by kernel_rfl) (fun _ _ _ h => h) (by rfl) hHeld ?_ ?_
            rotate_left
            · (intro w' hS'; go_simp <;> (with_reducible rfl))
            simp only [Act.put, List.getElem_toArray, List.getElem_cons_zero, List.getElem_cons_succ, List.setIfInBounds_toArray, List.set_cons_zero, List.set_cons_succ]
            refine held_q (v := ?_) (i := 5) rfl (by kernel_rfl) (by kernel_rfl) (by kernel_rfl) (fun _ _ _ h => h) (by rfl) hHeld ?_ ?_
            rotate_left
            · (intro w' hS'; go_simp <;> (with_reducible rfl))
            simp only [Act.put, List.getElem_toArray, List.getElem_cons_zero, List.getElem_cons_succ, List.setIfInBounds_toArray, List.set_cons_zero, List.set_cons_succ]
            refine held_q (v := ?_) (i := 6) rfl (by kernel_rfl) (by kernel_rfl) (by kernel_rfl) (fun _ _ _ h => h) (by rfl) hHeld ?_ ?_
            rotate_left
            · (intro w' hS'; go_simp <;> (with_reducible rfl))
            simp only [Act.put, List.getElem_toArray, List.getElem_cons_zero, List.getElem_cons_succ, List.setIfInBounds_toArray, List.set_cons_zero, List.set_cons_succ]
            refine held_q (v := ?_) (i := 7) rfl (by kernel_rfl) (by kernel_rfl) (by kernel_rfl) (fun _ _ _ h => h) (by rfl) hHeld ?_ ?_
            rotate_left
            · (intro w' hS'; go_simp <;> (with_reducible rfl))
            simp only [Act.put, List.getElem_toArray, List.getElem_cons_zero, List.getElem_cons_succ, List.setIfInBounds_toArray, List.set_cons_zero, List.set_cons_succ]
            refine wpAnyH_done (by kernel_rfl) ?_ _
            generalize WA.drew = W5 at ldg kd hod hHeld ⊢
            have bs5 := bslice_f1 g.path ag g.bytes.length cg W5
            have hg6 := heap_last W5 (.cells #[.string g.path, .slice ag g.bytes.length cg] 46)
            have k6 : Kept (fun _ => False) W5 (W5.alloc (.cells #[.string g.path, .slice ag g.bytes.length cg] 46)) := (Kept.refl _ W5).alloc _
            generalize W5.alloc (.cells #[.string g.path, .slice ag g.bytes.length cg] 46) = W6 at bs5 hg6 k6
            obtain ⟨a7, c7, W7, ap7, ho7, k7⟩ := app_one (row_kept hod k6) hg6 rfl (by omega) (kd.trans k6) 27
            have hpa7 : PairsAt w (psA ++ [(g.path, .slice ag g.bytes.length cg)]) (oA ++ [g]) := hpa.snoc HG.out.1 HG.out.2
            have HF : Hid (W7.ownsRow W0.heap.size 46 2 (.slice a7 (psA.length + 1) c7) (psA.length + 1) (prs (psA ++ [(g.path, .slice ag g.bytes.length cg)])) ∧ PairsAt w (psA ++ [(g.path, .slice ag g.bytes.length cg)]) (oA ++ [g]) ∧ oA ++ [g] ++ putGo ⟨p, b⟩ (l.drop (k + 1)) false = putL l ⟨p, b⟩) := ⟨ho7, hpa7, HE2.out⟩
            clear ho7 hpa7 HE2 hpa hod hg6
            generalize W5.heap.size = B5 at bs5 ap7
            go_wp2_with (first
              | (with_reducible refine wpl_load 46 _ rfl rfl ?_ ldg ?_
                 · rfl
                 simp only [Act.put, List.getElem_toArray, List.getElem_cons_zero, List.getElem_cons_succ, List.setIfInBounds_toArray, List.set_cons_zero, List.set_cons_succ])
              | (with_reducible refine wpl_bslice 27 _ _ rfl rfl ?_ bs5 ?_
                 · (go_simp <;> rfl)
                 simp only [Act.put, List.getElem_toArray, List.getElem_cons_zero, List.getElem_cons_succ, List.setIfInBounds_toArray, List.set_cons_zero, List.set_cons_succ])
              | (refine wpl_val rfl (exec_append2 27 27 _ _ rfl rfl rfl ap7) ?_))
            go_roundw
            case rel => exact ⟨k + 1, psA ++ [(g.path, .slice ag g.bytes.length cg)], oA ++ [g], false, by omega, by go_num, rfl, ⟨a7, c7, by rw [List.length_append]; rfl⟩, by rw [List.length_append]; exact HF.out, by rw [List.length_append]; simp; omega, k7⟩
            case measure => simp [intOf]; omega
        | false =>
          go_wp2_with fail
          refine wp_region_held_drew (S := (Kept (fun _ => False) wr)) (by kernel_rfl) ((Kept.refl _ wr).drew) (fun hHeld => ?_)
          refine held_q (v := ?_) (i := 0) rfl (by kernel_rfl) (by kernel_rfl) (by kernel_rfl) (fun _ _ _ h => h) (by rfl) hHeld ?_ ?_
          rotate_left
          · (intro w' hS'; go_simp <;> (with_reducible rfl))
          simp only [Act.put, List.getElem_toArray, List.getElem_cons_zero, List.getElem_cons_succ, List.setIfInBounds_toArray, List.set_cons_zero, List.set_cons_succ]
          refine held_q (v := ?_) (i := 1) rfl (by kernel_rfl) (by kernel_rfl) (by kernel_rfl) (fun _ _ _ h => h) (by rfl) hHeld ?_ ?_
          rotate_left
          · (intro w' hS'; go_simp <;> (with_reducible rfl))
          simp only [Act.put, List.getElem_toArray, List.getElem_cons_zero, List.getElem_cons_succ, List.setIfInBounds_toArray, List.set_cons_zero, List.set_cons_succ]
          refine held_q (v := ?_) (i := 2) rfl (by kernel_rfl) (by kernel_rfl) (by kernel_rfl) (fun _ _ _ h => h) (by rfl) hHeld ?_ ?_
          rotate_left
          · (intro w' hS'; go_simp <;> (with_reducible rfl))
          simp only [Act.put, List.getElem_toArray, List.getElem_cons_zero, List.getElem_cons_succ, List.setIfInBounds_toArray, List.set_cons_zero, List.set_cons_succ]
          refine held_q (v := ?_) (i := 3) rfl (by kernel_rfl) (by kernel_rfl) (by kernel_rfl) (fun _ _ _ h => h) (by rfl) hHeld ?_ ?_
          rotate_left
          · (intro w' hS'; go_simp <;> (with_reducible rfl))
          simp only [Act.put, List.getElem_toArray, List.getElem_cons_zero, List.getElem_cons_succ, List.setIfInBounds_toArray, List.set_cons_zero, List.set_cons_succ]
          refine held_q (v := ?_) (i := 4) rfl (by kernel_rfl) (by kernel_rfl) (by kernel_rfl) (fun _ _ _ h => h) (by rfl) hHeld ?_ ?_
          rotate_left
          · (intro w' hS'; go_simp <;> (with_reducible rfl))
          simp only [Act.put, List.getElem_toArray, List.getElem_cons_zero, List.getElem_cons_succ, List.setIfInBounds_toArray, List.set_cons_zero, List.set_cons_succ]
          refine held_q (v := ?_) (i := 5) rfl (by kernel_rfl) (by kernel_rfl) (by kernel_rfl) (fun _ _ _ h => h) (by rfl) hHeld ?_ ?_
          rotate_left
          · (intro w' hS'; go_simp <;> (with_reducible rfl))
          simp only [Act.put, List.getElem_toArray, List.getElem_cons_zero, List.getElem_cons_succ, List.setIfInBounds_toArray, List.set_cons_zero, List.set_cons_succ]
          refine held_q (v := ?_) (i := 6) rfl (by kernel_rfl) (by kernel_rfl) (by kernel_rfl) (fun _ _ _ h => h) (by rfl) hHeld ?_ ?_
          rotate_left
          · (intro w' hS'; go_simp <;> (with_reducible rfl))
          simp only [Act.put, List.getElem_toArray, List.getElem_cons_zero, List.getElem_cons_succ, List.setIfInBounds_toArray, List.set_cons_zero, List.set_cons_succ]
          refine held_q (v := ?_) (i := 7) rfl (by kernel_rfl) (by kernel_rfl) (by kernel_rfl) (fun _ _ _ h => h) (by rfl) hHeld ?_ ?_
          rotate_left
          · (intro w' hS'; go_simp <;> (with_reducible rfl))
          simp only [Act.put, List.getElem_toArray, List.getElem_cons_zero, List.getElem_cons_succ, List.setIfInBounds_toArray, List.set_cons_zero, List.set_cons_succ]
          refine held_q (v := ?_) (i := 8) rfl (by kernel_rfl) (by kernel_rfl) (by kernel_rfl) (fun _ _ _ h => h) (by rfl) hHeld ?_ ?_
          rotate_left
          · (intro w' hS'; go_simp <;> (with_reducible rfl))
          simp only [Act.put, List.getElem_toArray, List.getElem_cons_zero, List.getElem_cons_succ, List.setIfInBounds_toArray, List.set_cons_zero, List.set_cons_succ]
          refine held_q (v := ?_) (i := 9) rfl (by kernel_rfl) (by kernel_rfl) (by kernel_rfl) (fun _ _ _ h => h) (by rfl) hHeld ?_ ?_
          rotate_left
          · (intro w' hS'; go_simp <;> (with_reducible rfl))
          simp only [Act.put, List.getElem_toArray, List.getElem_cons_zero, List.getElem_cons_succ, List.setIfInBounds_toArray, List.set_cons_zero, List.set_cons_succ]
          refine held_q (v := ?_) (i := 10) rfl (by kernel_rfl) (by kernel_rfl) (by kernel_rfl) (fun _ _ _ h => h) (by rfl) hHeld ?_ ?_
          rotate_left
          · (intro w' hS'; go_simp <;> (with_reducible rfl))
          simp only [Act.put, List.getElem_toArray, List.getElem_cons_zero, List.getElem_cons_succ, List.setIfInBounds_toArray, List.set_cons_zero, List.set_cons_succ]
          refine held_q (v := ?_) (i := 11) rfl (by kernel_rfl) (by kernel_rfl) (by kernel_rfl) (fun _ _ _ h => h) (by rfl) hHeld ?_ ?_
          rotate_left
          · (intro w' hS'; go_simp <;> (with_reducible rfl))
          simp only [Act.put, List.getElem_toArray, List.getElem_cons_zero, List.getElem_cons_succ, List.setIfInBounds_toArray, List.set_cons_zero, List.set_cons_succ]
          refine wpAnyH_done (by kernel_rfl) ?_ _
          have hod := row_kept HR.out.1 hHeld
          have hpa := HR.out.2.1
          have heq : o ++ [⟨p, b⟩] ++ ((if eqB g.path p then [] else [g]) ++ putGo ⟨p, b⟩ (l.drop (k + 1)) true) = putL l ⟨p, b⟩ := by
            have := HR.out.2.2
            rw [HDR.out] at this
            simpa [putGo, HLT.out] using this
          have HEQ := Lib.hid heq
          clear heq HR q1 q2 hbt
          have k1 := hkr.trans hHeld
          have kr1 := hHeld
          generalize wr.drew = W1 at hod hHeld k1 kr1 ⊢
          have ldf := load_row (P := Tryd.prog) (ty := 46) Tryd.underlying46 rfl ((k1.block bx hbxl not_false).trans HBX0.out) (by kernel_rfl)
          have bs1 := bslice_f1 p ax b.length cx W1
          have hg2 := heap_last W1 (.cells #[.string p, .slice ax b.length cx] 46)
          have k12 : Kept (fun _ => False) W1 (W1.alloc (.cells #[.string p, .slice ax b.length cx] 46)) := (Kept.refl _ W1).alloc _
          generalize W1.alloc (.cells #[.string p, .slice ax b.length cx] 46) = W2 at bs1 hg2 k12
          obtain ⟨aA, cA, WA, ap3, ho3, k3⟩ := app_one (row_kept hod k12) hg2 rfl (by omega) (k1.trans k12) 27
          have KWA := k3
          obtain ⟨psA, hpsA⟩ : ∃ psA, psA = ps ++ [(p, .slice ax b.length cx)] := ⟨_, rfl⟩
          have hpA : psA.length = ps.length + 1 := by rw [hpsA, List.length_append]; rfl
          obtain ⟨oA, hoA⟩ : ∃ oA, oA = o ++ [⟨p, b⟩] := ⟨_, rfl⟩
          have HA : Hid (WA.ownsRow W0.heap.size 46 2 (.slice aA psA.length cA) psA.length (prs psA) ∧ PairsAt w psA oA ∧ oA ++ ((if eqB g.path p then [] else [g]) ++ putGo ⟨p, b⟩ (l.drop (k + 1)) true) = putL l ⟨p, b⟩) := ⟨by rw [hpA, hpsA]; exact ho3, by rw [hpsA, hoA]; exact hpa.snoc (f := ⟨p, b⟩) hp hx, by rw [hoA]; exact HEQ.out⟩
          rw [← hpA] at ap3
          have hpn : psA.length ≤ 2 * k + 1 := by omega
          have HPA := Lib.hid hpA
          clear hpA hpsA hoA hpa hod ho3 HEQ hg2 hHeld kr1
          generalize W1.heap.size = B1 at bs1 ap3
          go_wp2_with (first
            | (with_reducible refine wpl_load 46 _ rfl rfl ?_ ldf ?_
               · rfl
               simp only [Act.put, List.getElem_toArray, List.getElem_cons_zero, List.getElem_cons_succ, List.setIfInBounds_toArray, List.set_cons_zero, List.set_cons_succ])
            | (with_reducible refine wpl_bslice 27 _ _ rfl rfl ?_ bs1 ?_
               · (go_simp <;> rfl)
               simp only [Act.put, List.getElem_toArray, List.getElem_cons_zero, List.getElem_cons_succ, List.setIfInBounds_toArray, List.set_cons_zero, List.set_cons_succ])
            | (refine wpl_val rfl (exec_append2 27 27 _ _ rfl rfl rfl ap3) ?_))
          have HAo := HA.out.1
          have qg : ∀ w', Kept (fun _ => False) WA w' → w'.cell? ⟨b1, o1 + k * 2, none⟩ = some (.string g.path) := fun w' q => (((k0.trans KWA).trans q).cell (p := ⟨b1, o1 + k * 2, none⟩) hbl not_false).trans (HRX.out 0 _ rfl)
          have qf : ∀ w', Kept (fun _ => False) WA w' → w'.cell? ⟨bx, 0, none⟩ = some (.string p) := fun w' q => ((KWA.trans q).cell (p := ⟨bx, 0, none⟩) hbxl not_false).trans HBX.out
          cases hpe : (g.path.toList == p.toList) with
          | true =>
            have npe : (g.path.toList != p.toList) = false := by rw [bne, hpe]; rfl
            have HE2 : Hid (WA.ownsRow W0.heap.size 46 2 (.slice aA psA.length cA) psA.length (prs psA) ∧ PairsAt w psA oA ∧ oA ++ putGo ⟨p, b⟩ (l.drop (k + 1)) true = putL l ⟨p, b⟩) := ⟨HA.out.1, HA.out.2.1, by have := HA.out.2.2; unfold eqB at this; rw [hpe] at this; simpa using this⟩
            clear HA HAo
            go_wp2_with fail
            refine wp_region_held_drew (S := (Kept (fun _ => False) WA)) (by kernel_rfl) ((Kept.refl _ WA).drew) (fun hHeld => ?_)
            refine held_q (v := ?_) (i := 0) rfl (by kernel_rfl) (by kernel_rfl) (by kernel_rfl) (fun _ _ _ h => h) (by rfl) hHeld ?_ ?_
            rotate_left
            · (intro w' hS'; go_simp <;> (with_reducible rfl))
            simp only [Act.put, List.getElem_toArray, List.getElem_cons_zero, List.getElem_cons_succ, List.setIfInBounds_toArray, List.set_cons_zero, List.set_cons_succ]
            refine held_q (v := ?_) (i := 1) rfl (by kernel_rfl) (by kernel_rfl) (by kernel_rfl) (fun _ _ _ h => h) (by rfl) hHeld ?_ ?_
            rotate_left
            · (intro w' hS'; go_simp <;> (with_reducible rfl))
            simp only [Act.put, List.getElem_toArray, List.getElem_cons_zero, List.getElem_cons_succ, List.setIfInBounds_toArray, List.set_cons_zero, List.set_cons_succ]
            refine held_q (v := ?_) (i := 2) rfl (by kernel_rfl) (by kernel_rfl) (by kernel_rfl) (fun _ _ _ h => h) (by rfl) hHeld ?_ ?_
            rotate_left
            · (intro w' hS'; go_simp <;> (with_reducible rfl))
            simp only [Act.put, List.getElem_toArray, List.getElem_cons_zero, List.getElem_cons_succ, List.setIfInBounds_toArray, List.set_cons_zero, List.set_cons_succ]
            refine held_q (v := ?_) (i := 3) rfl (by kernel_rfl) (by kernel_rfl) (by kernel_rfl) (fun _ _ _ h => h) (by rfl) hHeld ?_ ?_
            rotate_left
            · (intro w' hS'; go_simp <;> (with_reducible rfl))
            simp only [Act.put, List.getElem_toArray, List.getElem_cons_zero, List.getElem_cons_succ, List.setIfInBounds_toArray, List.set_cons_zero, List.set_cons_succ]
            refine held_q (v := ?_) (i := 4) rfl (by kernel_rfl) (by kernel_rfl) (by kernel_rfl) (fun _ _ _ h => h) (by rfl) hHeld ?_ ?_
            rotate_left
            · (intro w' hS'; go_simp <;> (with_reducible rfl))
            simp only [Act.put, List.getElem_toArray, List.getElem_cons_zero, List.getElem_cons_succ, List.setIfInBounds_toArray, List.set_cons_zero, List.set_cons_succ]
            refine held_q (v := ?_) (i := 5) rfl (by kernel_rfl) (by kernel_rfl) (by kernel_rfl) (fun _ _ _ h => h) (by rfl) hHeld ?_ ?_
            rotate_left
            · (intro w' hS'; go_simp <;> (with_reducible rfl))
            simp only [Act.put, List.getElem_toArray, List.getElem_cons_zero, List.getElem_cons_succ, List.setIfInBounds_toArray, List.set_cons_zero, List.set_cons_succ]
            refine held_q (v := ?_) (i := 6) rfl (by kernel_rfl) (by kernel_rfl) (by kernel_rfl) (fun _ _ _ h => h) (by rfl) hHeld ?_ ?_
            rotate_left
            · (intro w' hS'; go_simp <;> (with_reducible rfl))
            simp only [Act.put, List.getElem_toArray, List.getElem_cons_zero, List.getElem_cons_succ, List.setIfInBounds_toArray, List.set_cons_zero, List.set_cons_succ]
            refine held_q (v := ?_) (i := 7) rfl (by kernel_rfl) (by kernel_rfl) (by kernel_rfl) (fun _ _ _ h => h) (by rfl) hHeld ?_ ?_
            rotate_left
            · (intro w' hS'; go_simp <;> (with_reducible rfl))
            simp only [Act.put, List.getElem_toArray, List.getElem_cons_zero, List.getElem_cons_succ, List.setIfInBounds_toArray, List.set_cons_zero, List.set_cons_succ]
            refine wpAnyH_done (by kernel_rfl) ?_ _
            go_wp2_with fail
            go_roundw
            case rel => exact ⟨k + 1, psA, oA, true, by omega, by go_num, rfl, ⟨aA, cA, rfl⟩, ⟨row_kept HE2.out.1 hHeld, HE2.out.2⟩, by omega, KWA.trans hHeld⟩
            case measure => simp [intOf]; omega
          | false =>
            have npe : (g.path.toList != p.toList) = true := by rw [bne, hpe]; rfl
            have heq2 : oA ++ [g] ++ putGo ⟨p, b⟩ (l.drop (k + 1)) true = putL l ⟨p, b⟩ := by have := HA.out.2.2; unfold eqB at this; rw [hpe] at this; simpa using this
            have HE2 := Lib.hid heq2
            clear heq2
            have ldg := load_file (rangeAt_stay (k0.trans KWA).drew hbl not_false HRX.out)
            have kd : Kept (fun _ => False) W0 WA.drew := KWA.drew
            have hod := row_kept HA.out.1 (Kept.refl (fun _ => False) WA).drew
            have hpa := HA.out.2.1
            clear HA HAo
            go_wp2_with fail
            refine wp_region_held_drew (S := (Kept (fun _ => False) WA)) (by kernel_rfl) ((Kept.refl _ WA).drew) (fun hHeld => ?_)
            refine held_q (v := ?_) (i := 0) rfl (by kernel_rfl) (by kernel_rfl) (by kernel_rfl) (fun _ _ _ h => h) (by rfl) hHeld ?_ ?_
            rotate_left
            · (intro w' hS'; go_simp <;> (with_reducible rfl))
            simp only [Act.put, List.getElem_toArray, List.getElem_cons_zero, List.getElem_cons_succ, List.setIfInBounds_toArray, List.set_cons_zero, List.set_cons_succ]
            refine held_q (v := ?_) (i := 1) rfl (by kernel_rfl) (by kernel_rfl) (by kernel_rfl) (fun _ _ _ h => h) (by rfl) hHeld ?_ ?_
            rotate_left
            · (intro w' hS'; go_simp <;> (with_reducible rfl))
            simp only [Act.put, List.getElem_toArray, List.getElem_cons_zero, List.getElem_cons_succ, List.setIfInBounds_toArray, List.set_cons_zero, List.set_cons_succ]
            refine held_q (v := ?_) (i := 2) rfl (by kernel_rfl) (by kernel_rfl) (by kernel_rfl) (fun _ _ _ h => h) (by rfl) hHeld ?_ ?_
            rotate_left
            · (intro w' hS'; go_simp <;> (with_reducible rfl))
            simp only [Act.put, List.getElem_toArray, List.getElem_cons_zero, List.getElem_cons_succ, List.setIfInBounds_toArray, List.set_cons_zero, List.set_cons_succ]
            refine held_q (v := ?_) (i := 3) rfl (by kernel_rfl) (by kernel_rfl) (by kernel_rfl) (fun _ _ _ h => h) (by rfl) hHeld ?_ ?_
            rotate_left
            · (intro w' hS'; go_simp <;> (with_reducible rfl))
            simp only [Act.put, List.getElem_toArray, List.getElem_cons_zero, List.getElem_cons_succ, List.setIfInBounds_toArray, List.set_cons_zero, List.set_cons_succ]
            refine held_q (v := ?_) (i := 4) rfl (by kernel_rfl) (by kernel_rfl) (by kernel_rfl) (fun _ _ _ h => h) (by rfl) hHeld ?_ ?_
            rotate_left
            · (intro w' hS'; go_simp <;> (with_reducible rfl))
            simp only [Act.put, List.getElem_toArray, List.getElem_cons_zero, List.getElem_cons_succ, List.setIfInBounds_toArray, List.set_cons_zero, List.set_cons_succ]
            refine held_q (v := ?_) (i := 5) rfl (by kernel_rfl) (by kernel_rfl) (by kernel_rfl) (fun _ _ _ h => h) (by rfl) hHeld ?_ ?_
            rotate_left
            · (intro w' hS'; go_simp <;> (with_reducible rfl))
            simp only [Act.put, List.getElem_toArray, List.getElem_cons_zero, List.getElem_cons_succ, List.setIfInBounds_toArray, List.set_cons_zero, List.set_cons_succ]
            refine held_q (v := ?_) (i := 6) rfl (by kernel_rfl) (by kernel_rfl) (by kernel_rfl) (fun _ _ _ h => h) (by rfl) hHeld ?_ ?_
            rotate_left
            · (intro w' hS'; go_simp <;> (with_reducible rfl))
            simp only [Act.put, List.getElem_toArray, List.getElem_cons_zero, List.getElem_cons_succ, List.setIfInBounds_toArray, List.set_cons_zero, List.set_cons_succ]
            refine held_q (v := ?_) (i := 7) rfl (by kernel_rfl) (by kernel_rfl) (by kernel_rfl) (fun _ _ _ h => h) (by rfl) hHeld ?_ ?_
            rotate_left
            · (intro w' hS'; go_simp <;> (with_reducible rfl))
            simp only [Act.put, List.getElem_toArray, List.getElem_cons_zero, List.getElem_cons_succ, List.setIfInBounds_toArray, List.set_cons_zero, List.set_cons_succ]
            refine wpAnyH_done (by kernel_rfl) ?_ _
            generalize WA.drew = W5 at ldg kd hod hHeld ⊢
            have bs5 := bslice_f1 g.path ag g.bytes.length cg W5
            have hg6 := heap_last W5 (.cells #[.string g.path, .slice ag g.bytes.length cg] 46)
            have k6 : Kept (fun _ => False) W5 (W5.alloc (.cells #[.string g.path, .slice ag g.bytes.length cg] 46)) := (Kept.refl _ W5).alloc _
            generalize W5.alloc (.cells #[.string g.path, .slice ag g.bytes.length cg] 46) = W6 at bs5 hg6 k6
            obtain ⟨a7, c7, W7, ap7, ho7, k7⟩ := app_one (row_kept hod k6) hg6 rfl (by omega) (kd.trans k6) 27
            have hpa7 : PairsAt w (psA ++ [(g.path, .slice ag g.bytes.length cg)]) (oA ++ [g]) := hpa.snoc HG.out.1 HG.out.2
            have HF : Hid (W7.ownsRow W0.heap.size 46 2 (.slice a7 (psA.length + 1) c7) (psA.length + 1) (prs (psA ++ [(g.path, .slice ag g.bytes.length cg)])) ∧ PairsAt w (psA ++ [(g.path, .slice ag g.bytes.length cg)]) (oA ++ [g]) ∧ oA ++ [g] ++ putGo ⟨p, b⟩ (l.drop (k + 1)) true = putL l ⟨p, b⟩) := ⟨ho7, hpa7, HE2.out⟩
            clear ho7 hpa7 HE2 hpa hod hg6
            generalize W5.heap.size = B5 at bs5 ap7
            go_wp2_with (first
              | (with_reducible refine wpl_load 46 _ rfl rfl ?_ ldg ?_
                 · rfl
                 simp only [Act.put, List.getElem_toArray, List.getElem_cons_zero, List.getElem_cons_succ, List.setIfInBounds_toArray, List.set_cons_zero, List.set_cons_succ])
              | (with_reducible refine wpl_bslice 27 _ _ rfl rfl ?_ bs5 ?_
                 · (go_simp <;> rfl)
                 simp only [Act.put, List.getElem_toArray, List.getElem_cons_zero, List.getElem_cons_succ, List.setIfInBounds_toArray, List.set_cons_zero, List.set_cons_succ])
              | (refine wpl_val rfl (exec_append2 27 27 _ _ rfl rfl rfl ap7) ?_))
            go_roundw
            case rel => exact ⟨k + 1, psA ++ [(g.path, .slice ag g.bytes.length cg)], oA ++ [g], true, by omega, by go_num, rfl, ⟨a7, c7, by rw [List.length_append]; rfl⟩, by rw [List.length_append]; exact HF.out, by rw [List.length_append]; simp; omega, k7⟩
            case measure => simp [intOf]; omega
    · obtain rfl : k = l.length := by omega
      have hHR := HR.out
      rw [List.drop_length] at hHR
      obtain ⟨hoE, hpE, heE⟩ := hHR
      cases d with
      | true =>
        have heE : o = putL l ⟨p, b⟩ := by rw [← heE]; simp [putGo]
        have HT := Lib.hid (TreeAt.of_row hoE (hpE.kept (k0.trans hkr)))
        have HE3 := Lib.hid heE
        clear hoE hpE heE HR
        go_wp2_with fail
        go_ret
        exact ⟨_, rfl, by rw [← HE3.out]; exact HT.out, k0.trans hkr⟩
      | false =>
        have heE : o ++ [⟨p, b⟩] = putL l ⟨p, b⟩ := by rw [← heE]; simp [putGo]
        have ldf := load_row (P := Tryd.prog) (ty := 46) Tryd.underlying46 rfl ((hkr.block bx hbxl not_false).trans HBX0.out) (by kernel_rfl)
        have bs1 := bslice_f1 p ax b.length cx wr
        have hg2 := heap_last wr (.cells #[.string p, .slice ax b.length cx] 46)
        have k12 : Kept (fun _ => False) wr (wr.alloc (.cells #[.string p, .slice ax b.length cx] 46)) := (Kept.refl _ wr).alloc _
        generalize wr.alloc (.cells #[.string p, .slice ax b.length cx] 46) = W2 at bs1 hg2 k12
        obtain ⟨aA, cA, WA, ap3, ho3, k3⟩ := app_one (row_kept hoE k12) hg2 rfl (by omega) (hkr.trans k12) 27
        have HT := Lib.hid (TreeAt.of_row ho3 ((hpE.snoc (f := ⟨p, b⟩) hp hx).kept (k0.trans k3)))
        have HE3 := Lib.hid heE
        clear hoE hpE heE HR ho3 hg2
        generalize wr.heap.size = B1 at bs1 ap3
        go_wp2_with (first
          | (with_reducible refine wpl_load 46 _ rfl rfl ?_ ldf ?_
             · rfl
             simp only [Act.put, List.getElem_toArray, List.getElem_cons_zero, List.getElem_cons_succ, List.setIfInBounds_toArray, List.set_cons_zero, List.set_cons_succ])
          | (with_reducible refine wpl_bslice 27 _ _ rfl rfl ?_ bs1 ?_
             · (go_simp <;> rfl)
             simp only [Act.put, List.getElem_toArray, List.getElem_cons_zero, List.getElem_cons_succ, List.setIfInBounds_toArray, List.set_cons_zero, List.set_cons_succ])
          | (refine wpl_val rfl (exec_append2 27 27 _ _ rfl rfl rfl ap3) ?_))
        go_ret
        exact ⟨_, rfl, by rw [← HE3.out]; exact HT.out, k0.trans k3⟩
end Go.Proofs.YtfohljljoalmoaaDoor
