/- vm.put. -/
import Derived.Test.YthachckofghppaaDoorYD
namespace Go.Proofs.YthachckofghppaaDoor
open Go.RowKit
set_option maxRecDepth 100000
set_option linter.unusedSimpArgs false
set_option linter.unusedVariables false

theorem TreeX.own {X base n : Nat} {w : World} {v : Value} {l : List FileE} (h : TreeAt w v l) (ho : OwnT base w v n) (hn : n = l.length) (hX : X < base) : TreeX X w v l := fun w' k => by
  subst hn
  obtain ⟨ps, hl, ho, hp⟩ := ho
  obtain ⟨a, cap, rfl, h2, h3⟩ := h
  refine ⟨a, cap, rfl, h2, fun hne => ?_⟩
  obtain ⟨b, o, rfl, hb, hr⟩ := h3 hne
  have hbase := (World.ownsRow.lt ho b rfl).1
  refine ⟨b, o, rfl, Nat.lt_of_lt_of_le hb k.size, fun j f hf => ?_⟩
  obtain ⟨hs, x, hx, hby⟩ := hr j f hf
  refine ⟨hs, x, fun i u hu => (k.cell (p := ⟨b, o + j * 2 + i, none⟩) hb (by show ¬ b = X; omega)).trans (hx i u hu), ?_⟩
  have hjl : j < ps.length := by have := (List.getElem?_eq_some_iff.1 hf).1; omega
  have hpj := List.getElem?_eq_getElem hjl
  have hsn := (prs_get ps j ps[j] hpj).2
  rcases ho.2 with ⟨e, _⟩ | ⟨g, cap', cur, e, _, hg, h1, hc, q3⟩
  · injection e with e; cases e
  · injection e with e1 _ e2
    injection e1 with e1
    injection e1 with e1 eo _
    subst e1; subst eo
    have hcx := hx 1 x rfl
    rw [cell_of_row _ _ _ _ _ _ hg] at hcx
    rw [← q3.2] at hsn
    have hlt := (List.getElem?_eq_some_iff.1 hsn).1
    rw [List.length_take] at hlt
    rw [List.getElem?_take_of_lt (by omega)] at hsn
    have hcx' : cur.toList[j * 2 + 1]? = some x := by
      have := hcx
      rw [show (0 + j * 2 + 1 : Nat) = j * 2 + 1 by omega] at this
      simpa using this
    rw [hsn] at hcx'
    injection hcx' with hcx'
    obtain ⟨m, hm⟩ := hp ps[j] (List.getElem_mem hjl)
    rw [hcx'] at hm
    have hmm : m = f.bytes.length := by
      obtain ⟨_, _, e1⟩ := hby.slc
      obtain ⟨_, _, e2⟩ := hm.slc
      rw [e1] at e2
      injection e2 with _ e2 _
      exact e2.symm
    subst hmm
    exact (ByX.own hby hm hX w' k).1
set_option maxHeartbeats 4000000 in
theorem put_ct {w : World} {X : Nat} {F : Int} {s : VmS} (h : RunAt w X F s) {p : ByteArray} (hp : p.size ≤ maxLen) {v : Value} {b : List UInt8} (hb : ByXA X w v b) (hl : b.length ≤ 100000) :
    Calls Tryd.prog 23 #[.pointer (some ⟨X, 0, none⟩), .string p, v] w fun e w' => VOut X F (putV F s p b) e w' ∧ Kept (fun k => k = X) w w' := by
  obtain ⟨a, c, hv⟩ := (hb w (Kept.refl _ _)).slc
  subst hv
  have pc := pay_ct h (n := (((b.length + 15) / 16 : Nat) : Int)) (by omega) (by omega)
  have hq : ((b.length : Int) + 15).tdiv 16 = (((b.length + 15) / 16 : Nat) : Int) := by
    rw [show (b.length : Int) + 15 = ((b.length + 15 : Nat) : Int) by omega, show (16 : Int) = ((16 : Nat) : Int) by rfl, Int.ofNat_tdiv]
  by_cases hle : s.us + (((b.length + 15) / 16 : Nat) : Int) ≤ F
  · have HP : Hid (putV F s p b = if (pathB p && mayB (withL s.fs p b)) = true then .go ⟨withL s.fs p b, s.pl, s.us + (((b.length + 15) / 16 : Nat) : Int)⟩ else .stop 8 (s.us + (((b.length + 15) / 16 : Nat) : Int))) := by unfold Hid putV payV; rw [if_pos hle]
    have hpv : payV F s (((b.length + 15) / 16 : Nat) : Int) = .go ⟨s.fs, s.pl, s.us + (((b.length + 15) / 16 : Nat) : Int)⟩ := by unfold payV; rw [if_pos hle]
    rw [hpv] at pc
    clear hpv
    have hn0 : (0 : Int) ≤ (((b.length + 15) / 16 : Nat) : Int) := by omega
    have hn1 : (((b.length + 15) / 16 : Nat) : Int) ≤ 100000 := by omega
    generalize (((b.length + 15) / 16 : Nat) : Int) = n at pc hq hle HP hn0 hn1
    go_enter Tryd.func23, Tryd.ntmps23
    go_wp2_with fail
    refine pc.mono ?_
    rintro e W2 ⟨⟨rfl, hr⟩, k2⟩
    obtain ⟨vf, hx, ht⟩ := hr.cells
    have hm := hr.may
    have hz := (Array.getElem?_eq_some_iff.1 hx).1
    have c0 : W2.cell? ⟨X, 0, none⟩ = some vf := by rw [cell_of_row _ _ _ _ _ _ hx]; rfl
    have wc := with_ctS ht.at p hp (hb _ k2)
    obtain ⟨a2, cc2, hvf⟩ := ht.at.slc
    subst hvf
    clear hx ht pc hq
    go_wp2_with fail
    refine wc.mono ?_
    rintro e W3 ⟨hw, k3⟩
    have hr3 := hr.kept k3
    have k23 := k2.trans k3.x
    rcases hw with ⟨h1, rfl⟩ | ⟨h1, h2, rfl⟩ | ⟨h1, h2, v3, rfl, ht3, ho3⟩
    · go_wp2_with fail
      refine (must_no 8 _).mono ?_
      rintro e W4 ⟨rfl, hw⟩
      subst hw
      go_wp2_with fail
      refine ⟨rfl, ?_, k23⟩
      have hm' : mayB s.fs = true := hm
      rw [show mayB s.fs = true from hm', Bool.true_and] at h1
      rw [HP.out, h1, Bool.false_and, if_neg (by simp)]
      exact ⟨rfl, _, hr3, rfl⟩
    · go_wp2_with fail
      refine (must_no 8 _).mono ?_
      rintro e W4 ⟨rfl, hw⟩
      subst hw
      go_wp2_with fail
      refine ⟨rfl, ?_, k23⟩
      rw [HP.out, h2, Bool.and_false, if_neg (by simp)]
      exact ⟨rfl, _, hr3, rfl⟩
    · obtain ⟨a3, cc3, hv3⟩ := ht3.slc
      subst hv3
      go_wp2_with fail
      refine (must_yes 8 _).mono ?_
      rintro e W4 ⟨rfl, hw⟩
      subst hw
      have hcells := hr3.cells
      obtain ⟨vg, hx3, _⟩ := hcells
      have c03 : W4.cell? ⟨X, 0, none⟩ = some vg := by rw [cell_of_row _ _ _ _ _ _ hx3]; rfl
      have fz : W4.frozen? ⟨X, 0, none⟩ = false := by simp [World.frozen?, hx3]
      have tx := TreeX.own (X := X) ht3 ho3 rfl hz
      clear hx3
      go_wp2_with fail
      go_end0
      refine ⟨?_, k23.setX rfl _ _⟩
      have hm' : mayB s.fs = true := hm
      rw [show mayB s.fs = true from hm', Bool.true_and] at h1
      rw [HP.out, h1, h2, if_pos (by rfl)]
      exact ⟨rfl, hr3.setF (s := ⟨s.fs, s.pl, s.us + n⟩) tx h2⟩
  · have HP : Hid (putV F s p b = .stop 71 s.us) := by unfold Hid putV payV; rw [if_neg hle]
    have hpv : payV F s (((b.length + 15) / 16 : Nat) : Int) = .stop 71 s.us := by unfold payV; rw [if_neg hle]
    rw [hpv] at pc
    clear hpv
    have hn0 : (0 : Int) ≤ (((b.length + 15) / 16 : Nat) : Int) := by omega
    have hn1 : (((b.length + 15) / 16 : Nat) : Int) ≤ 100000 := by omega
    generalize (((b.length + 15) / 16 : Nat) : Int) = n at pc hq hle HP hn0 hn1
    go_enter Tryd.func23, Tryd.ntmps23
    go_wp2_with fail
    refine pc.mono ?_
    rintro e W2 ⟨⟨he, hr⟩, k2⟩
    obtain rfl : e = .panicked (STOPC 71) := he
    go_wp2_with fail
    refine ⟨rfl, ?_, k2⟩
    rw [HP.out]
    exact ⟨rfl, hr⟩
end Go.Proofs.YthachckofghppaaDoor
