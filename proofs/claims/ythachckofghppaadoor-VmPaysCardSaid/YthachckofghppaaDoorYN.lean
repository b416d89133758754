/- vm.unpack. -/
import Derived.Test.YthachckofghppaaDoorYL
import Derived.Test.YthachckofghppaaDoorRF
import Derived.Test.YthachckofghppaaDoorTI
namespace Go.Proofs.YthachckofghppaaDoor
open Go.RowKit
set_option maxRecDepth 100000
set_option linter.unusedSimpArgs false
set_option linter.unusedVariables false

def putAll (F : Int) : VmS → List FileE → VR
  | s, [] => .go s
  | s, f :: r => match putV F s f.path f.bytes with
    | .go s' => putAll F s' r
    | .stop c u => .stop c u
def unpackV (F : Int) (s : VmS) (b : List UInt8) (d : ByteArray) : VR := match readS b with
  | none => .stop 5 s.us
  | some fs => if mayB (fs.map (upF d)) = true then putAll F s (fs.map (upF d)) else .stop 8 s.us
theorem VOut.stop {X : Nat} {F : Int} {w : World} {s : VmS} {r : VR} {c : Int} (h : r = .stop c s.us) (hr : RunAt w X F s) : VOut X F r (.panicked (STOPC c)) w := by
  subst h; exact ⟨rfl, s, hr, rfl⟩
set_option maxRecDepth 100000 in
set_option maxHeartbeats 4000000 in
theorem unpack_ct {w : World} {X : Nat} {F : Int} {s : VmS} (h : RunAt w X F s) {v : Value} {b : List UInt8} (hb : ByX X w v b) (hl : b.length ≤ 100000) {d : ByteArray} (hd : pathB d = true) :
    Calls Tryd.prog 30 #[.pointer (some ⟨X, 0, none⟩), v, .string d] w fun e w' => VOut X F (unpackV F s b d) e w' ∧ Kept (fun k => k = X) w w' := by
  obtain ⟨_, hx0, _⟩ := h.cells
  have hXw := (Array.getElem?_eq_some_iff.1 hx0).1
  clear hx0
  have rc := read_ctB hb.at hl (Nat.le_refl _)
  obtain ⟨a, c, hv⟩ := hb.at.1.slc
  subst hv
  generalize hrs : readS b = rs at rc
  cases rs with
  | none =>
    have HP : Hid (unpackV F s b d = .stop 5 s.us) := by unfold Hid unpackV; rw [hrs]
    clear hrs
    go_enter Tryd.func30, Tryd.ntmps30
    go_wp2_with fail
    refine rc.mono ?_
    rintro e W1 ⟨k1, rfl⟩
    go_wp2_with fail
    refine (must_no 5 _).mono ?_
    rintro e W2 ⟨rfl, hw⟩
    subst hw
    go_wp2_with fail
    exact ⟨rfl, VOut.stop HP.out (h.kept k1), k1.x⟩
  | some fs =>
    have hmf := (readS_raw hrs).2
    have hif := mayIs hmf
    cases hmu : mayB (fs.map (upF d)) with
    | false =>
      have HP : Hid (unpackV F s b d = .stop 8 s.us) := by unfold Hid unpackV; rw [hrs]; simp only [hmu]; rfl
      clear hrs
      go_enter Tryd.func30, Tryd.ntmps30
      go_wp2_with fail
      refine rc.mono ?_
      rintro e W1 ⟨k1, x, rfl, ht⟩
      have ht1 := ht W1 (Kept.refl _ _)
      obtain ⟨a1, c1, hx⟩ := ht1.slc
      subst hx
      have uc := under_ctS ht1 hmf hd
      rw [hmu] at uc
      clear rc
      go_wp2_with fail
      refine (must_yes 5 _).mono ?_
      rintro e W2 ⟨rfl, hw⟩
      subst hw
      go_wp2_with fail
      refine uc.mono ?_
      rintro e W3 ⟨hu, k3⟩
      have he : e = .returned (.tuple #[.slice none 0 0, .int .i64 8]) := by
        rcases hu with ⟨q, _⟩ | ⟨_, q⟩
        · cases q
        · exact q
      subst he
      clear hu uc
      go_wp2_with fail
      refine (must_no 8 _).mono ?_
      rintro e W4 ⟨rfl, hw⟩
      subst hw
      go_wp2_with fail
      exact ⟨rfl, VOut.stop HP.out (h.kept (k1.trans k3)), (k1.trans k3).x⟩
    | true =>
      have HP : Hid (unpackV F s b d = putAll F s (fs.map (upF d))) := by unfold Hid unpackV; rw [hrs]; simp only [hmu]; rfl
      clear hrs
      go_enter Tryd.func30, Tryd.ntmps30
      go_wp2_with fail
      refine rc.mono ?_
      rintro e W1 ⟨k1, x, rfl, ht⟩
      have ht1 := ht W1 (Kept.refl _ _)
      obtain ⟨a1, c1, hx⟩ := ht1.slc
      subst hx
      have uc := under_ctS ht1 hmf hd
      rw [hmu] at uc
      clear rc
      go_wp2_with fail
      refine (must_yes 5 _).mono ?_
      rintro e W2 ⟨rfl, hw⟩
      subst hw
      go_wp2_with fail
      refine uc.mono ?_
      rintro e W3 ⟨hu, k3⟩
      obtain ⟨v3, he, ht3, ho3⟩ : ∃ v', e = .returned (.tuple #[v', .int .i64 0]) ∧ TreeAt W3 v' (fs.map (upF d)) ∧ OwnT W2.heap.size W3 v' fs.length := by
        rcases hu with ⟨_, q⟩ | ⟨q, _⟩
        · exact q
        · cases q
      subst he
      have hiu := mayIs hmu
      have tx := TreeX.own (X := X) ht3 ho3 (by rw [List.length_map]) (Nat.lt_of_lt_of_le hXw k1.size)
      have k03 := k1.trans k3
      have hr3 := h.kept k03
      generalize fs.map (upF d) = u at ht3 HP hiu tx
      obtain ⟨a3, c3, hv3⟩ := ht3.slc
      subst hv3
      have hul := hiu.len
      clear hu uc hmu ho3 ht3
      go_wp2_with fail
      refine (must_yes 8 _).mono ?_
      rintro e W4 ⟨rfl, hw⟩
      subst hw
      go_wp2_with fail
      go_loopg [30] u.length (fun gk s30 wr => ∃ (k : Nat) (s' : VmS), gk = u.length - k ∧ k ≤ u.length ∧ s30 = .int .i64 k ∧ RunAt wr X F s' ∧ Hid (putAll F s' (u.drop k) = putAll F s u) ∧ Kept (fun k => k = X) W4 wr)
      case atStart => exact ⟨0, s, by omega, by omega, rfl, hr3, by unfold Hid; rw [List.drop_zero], Kept.refl _ _⟩
      case round =>
        obtain ⟨k, s', rfl, hk, rfl, hr, HA, hkr⟩ := hrel
        by_cases hlt : k < u.length
        · have hf : u[k]? = some u[k] := List.getElem?_eq_getElem hlt
          have hdk : u.drop k = u[k] :: u.drop (k + 1) := List.drop_eq_getElem_cons hlt
          have hfi := hiu.file u[k] (List.getElem_mem hlt)
          generalize u[k] = f at hf hdk hfi
          rw [hdk] at HA
          obtain ⟨hs, b2, o2, x2, rfl, hb2, hr2, hB2⟩ := (tx.kept hkr).file hf
          obtain ⟨xa, xc, hx2⟩ := (hB2 wr (Kept.refl _ _)).slc
          subst hx2
          have ld := load_file hr2
          have st := store_file (w := wr) (p := f.path) (a := xa) (n := f.bytes.length) (c := xc)
          have k5 : Kept (fun _ => False) wr (wr.alloc (.cells #[.string f.path, .slice xa f.bytes.length xc] 33)) := (Kept.refl _ wr).alloc _
          have hbx := heap_last wr (.cells #[.string f.path, .slice xa f.bytes.length xc] 33)
          clear hf hdk
          go_upto_region 7 with (first
            | (with_reducible refine wpl_load 33 _ rfl rfl ?_ ld ?_
               · rfl
               simp only [Act.put, List.getElem_toArray, List.getElem_cons_zero, List.getElem_cons_succ, List.setIfInBounds_toArray, List.set_cons_zero, List.set_cons_succ])
            | (with_reducible refine wpl_alloc 33 rfl rfl (zeroFile _) ?_
               simp only [World.size_alloc, Act.put, List.getElem_toArray, List.getElem_cons_zero, List.getElem_cons_succ, List.setIfInBounds_toArray, List.set_cons_zero, List.set_cons_succ])
            | (with_reducible refine wpl_store 33 _ _ rfl rfl ?_ ?_ st ?_
               · rfl
               · rfl
               simp only [Act.put, List.getElem_toArray, List.getElem_cons_zero, List.getElem_cons_succ, List.setIfInBounds_toArray, List.set_cons_zero, List.set_cons_succ]))
          clear ld st
          generalize wr.alloc (.cells #[.string f.path, .slice xa f.bytes.length xc] 33) = W5 at k5 hbx ⊢
          generalize wr.heap.size = G at hbx ⊢
          have cG0 : W5.cell? ⟨G, 0, none⟩ = some (.string f.path) := by rw [cell_of_row _ _ _ _ _ _ hbx]; rfl
          have cG1 : W5.cell? ⟨G, 1, none⟩ = some (.slice xa f.bytes.length xc) := by rw [cell_of_row _ _ _ _ _ _ hbx]; rfl
          have pc := put_ct (hr.kept k5) (p := f.path) (by have := hfi.2.1; simp only [maxLen]; omega) (hB2.kept k5.x) (by have := hfi.2.2; omega)
          have HQ : Hid (putAll F s' (f :: u.drop (k + 1)) = match putV F s' f.path f.bytes with | .go s'' => putAll F s'' (u.drop (k + 1)) | .stop c u => .stop c u) := rfl
          generalize putV F s' f.path f.bytes = R at pc HQ
          clear hbx
          go_wp2_with fail
          refine pc.mono ?_
          rintro e W6 ⟨hv6, k6⟩
          have kr6 := hkr.trans (k5.x.trans k6)
          clear pc cG0 cG1
          cases R with
          | stop c2 u2 =>
            obtain ⟨he, hr6⟩ := hv6
            obtain rfl : e = .panicked (STOPC c2) := he
            go_wp2_with fail
            refine ⟨rfl, ?_, k03.x.trans kr6⟩
            rw [HP.out, ← HA.out, HQ.out]
            exact ⟨rfl, hr6⟩
          | go s2 =>
            obtain ⟨rfl, hr6⟩ := hv6
            have HN : Hid (putAll F s2 (u.drop (k + 1)) = putAll F s u) := by unfold Hid; rw [← HA.out, HQ.out]
            clear HQ HA
            go_wp2_with fail
            go_roundg (u.length - (k + 1))
            case rel => exact ⟨k + 1, s2, rfl, by omega, by go_num, hr6, HN, kr6⟩
            case measure => omega
        · obtain rfl : k = u.length := by omega
          have hA := HA.out
          rw [List.drop_length] at hA
          have HZ : Hid (VR.go s' = putAll F s u) := hA
          clear HA hA
          go_wp2_with fail
          go_end0
          refine ⟨?_, k03.x.trans hkr⟩
          rw [HP.out, ← HZ.out]
          exact ⟨rfl, hr⟩
end Go.Proofs.YthachckofghppaaDoor
