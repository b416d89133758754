/- What spoil does. -/
import Derived.Test.YtehpaddddiigbaaWC
namespace Go.Proofs.Ytehpaddddiigbaa
open Go.RowKit
set_option linter.unusedSimpArgs false
set_option linter.unusedVariables false

/-- Only bytes were written: what was a slice of own bytes is one still; blocks of other kinds are as they were. -/
structure Spared (w w' : World) : Prop where
  by' : ∀ b x m, OwnBy b w x m → OwnBy b w' x m
  tree : ∀ b v n, OwnT b w v n → OwnT b w' v n
  other : ∀ (g : Nat) (C : Array Value) (t : TypeId) (fr : Nat × Nat), w.heap[g]? = some (.cells C t fr) → t ≠ 5 → w'.heap[g]? = some (.cells C t fr)
theorem Spared.refl (w : World) : Spared w w := ⟨fun _ _ _ h => h, fun _ _ _ h => h, fun _ _ _ _ h _ => h⟩
theorem Spared.trans {a b c : World} (h : Spared a b) (k : Spared b c) : Spared a c := ⟨fun _ _ _ q => k.by' _ _ _ (h.by' _ _ _ q), fun _ _ _ q => k.tree _ _ _ (h.tree _ _ _ q), fun _ _ _ _ q r => k.other _ _ _ _ (h.other _ _ _ _ q r) r⟩
theorem Spared.poke {w : World} {g j : Nat} {C : Array Value} (hg : w.heap[g]? = some (.cells C 5 (0, 0))) (u : UInt8) : Spared w (w.setCell ⟨g, j, none⟩ (.int .u8 u.toNat)) :=
  ⟨fun _ _ _ h => h.poke hg u, fun _ _ _ h => h.poke hg u, fun g' C' t fr h ht => by
    rw [Below.heap_setCell _ _ _ _ (fun e => by
      have e : g' = g := e
      subst e
      rw [hg] at h
      injection h with h
      injection h with _ h _
      exact ht h.symm)]
    exact h⟩
theorem Spared.of_kept {w w' : World} (h : Kept (fun _ => False) w w') : Spared w w' :=
  ⟨fun _ _ _ q => q.kept h, fun _ _ _ q => q.kept h, fun g _ _ _ q _ => (h.block g (Array.getElem?_eq_some_iff.1 q).1 not_false).trans q⟩
/-- One byte of a slice of own bytes. -/
theorem OwnBy.at' {base : Nat} {w : World} {x : Value} {m : Nat} (h : OwnBy base w x m) {j : Nat} (hj : j < m) : ∃ g cap C, ∃ u : UInt8, x = .slice (some ⟨g, 0, none⟩) m cap ∧ base ≤ g ∧ w.heap[g]? = some (.cells C 5 (0, 0)) ∧ w.cell? ⟨g, j, none⟩ = some (.int .u8 u.toNat) ∧ w.frozen? ⟨g, j, none⟩ = false := by
  obtain ⟨l, h1, h2⟩ := h
  rcases h2 with ⟨_, h2⟩ | ⟨g, cap, cur, rfl, hb, hg, hn, hm, hs, ht⟩
  · omega
  · have hl : l.length = m := by rw [bv_len] at h1; omega
    refine ⟨g, cap, cur, l[j]'(by omega), rfl, hb, hg, ?_, by simp [World.frozen?, hg]⟩
    rw [cell_of_row _ _ _ _ _ _ hg]
    have : (bv l)[j]? = some (.int .u8 (l[j]'(by omega)).toNat) := by unfold bv; rw [List.getElem?_map, List.getElem?_eq_getElem (by omega)]; rfl
    rw [← ht, List.getElem?_take_of_lt (by omega)] at this
    simpa using this
theorem u8_next (u : UInt8) : ∃ v : UInt8, IntKind.u8.wrap ((u.toNat : Int) + 1) = (v.toNat : Int) := by
  refine ⟨u + 1, ?_⟩
  have h := u.toNat_lt
  rw [UInt8.toNat_add]
  show ((u.toNat : Int) + 1) % 256 = _
  have : (1 : UInt8).toNat = 1 := rfl
  rw [this]
  omega
set_option maxRecDepth 100000 in
set_option maxHeartbeats 2000000 in
theorem spoil_ct {w : World} {base n : Nat} {v : Value} (h : OwnT base w v n) (hn : n ≤ 1000000) :
    Calls Try.prog 32 #[v] w fun e w' => e = .returned (.tuple #[]) ∧ Kept (fun k => base ≤ k) w w' ∧ Spared w w' := by
  obtain ⟨ps, hps, ho, hB⟩ := h
  have hB := Lib.hid hB
  obtain ⟨a, c, hv⟩ := row_form ho
  subst hv
  go_enter Try.func32, Try.ntmps32
  go_wp2_with fail
  go_loopw [6] (fun i wr => ∃ k : Nat, k ≤ n ∧ i = .int .i64 k ∧ Kept (fun k => base ≤ k) w wr ∧ Spared w wr) (fun i _ => n - (intOf i).toNat)
  case atStart => exact ⟨0, by omega, rfl, Kept.refl _ _, Spared.refl _⟩
  case round =>
    obtain ⟨k, hk, rfl, hkr, hsr⟩ := hrel
    have HSR := Lib.hid hsr
    clear hsr
    by_cases hlt : k < n
    · obtain ⟨p, hp⟩ : ∃ p, ps[k]? = some p := ⟨_, List.getElem?_eq_getElem (by omega)⟩
      obtain ⟨m, hm⟩ := hB.out p (List.mem_of_getElem? hp)
      rcases ho.2 with ⟨_, h0⟩ | ⟨g, cap, cur, hv, hbg, hg, hnc, hcm, hcsz, htake⟩
      · omega
      injection hv with e1 _ e3
      subst e1
      subst e3
      obtain ⟨p1, p2⟩ := prs_get ps k p hp
      have c2 : cur[k * 2 + 1]? = some p.2 := by
        rw [← htake, List.getElem?_take_of_lt (by omega)] at p2
        simpa using p2
      have hq : ∀ w', Spared w w' → w'.cell? ⟨g, k * 2 + 1, none⟩ = some p.2 := fun w' q => by
        rw [cell_of_row _ _ _ _ _ _ (q.other g cur _ _ hg (by decide))]; exact c2
      have HQ := Lib.hid hq
      have HM := Lib.hid hm
      obtain ⟨xa, xc, hx⟩ := hm.slc
      have hml : m ≤ maxLen := by
        obtain ⟨l, _, h2⟩ := hm
        rcases h2 with ⟨_, h2⟩ | ⟨_, cap2, _, _, _, _, q1, q2, _⟩
        · omega
        · omega
      simp only [maxLen] at hml
      have q0 := hq wr HSR.out
      rw [hx] at q0
      clear hm hq p1 p2 c2 hg htake hcsz
      go_wp2_with fail
      have HKR := Lib.hid hkr
      clear hkr q0
      generalize wr = wr0 at HSR HKR ⊢
      go_loopw [15] (fun i wr => ∃ j : Nat, j ≤ m ∧ i = .int .i64 j ∧ Kept (fun k => base ≤ k) wr0 wr ∧ Hid (Spared wr0 wr)) (fun i _ => m - (intOf i).toNat)
      case atStart => exact ⟨0, by omega, rfl, Kept.refl _ _, Spared.refl _⟩
      case round =>
        obtain ⟨j, hj, rfl, hjr, HJ⟩ := hrel
        have HJR := Lib.hid hjr
        clear hjr
        by_cases hjl : j < m
        · have S := HSR.out.trans HJ.out
          obtain ⟨gb, cb, C, u, hxe, hbb, hgb, hcu, hfz⟩ := (S.by' _ _ _ HM.out).at' hjl
          obtain ⟨u2, hu2⟩ := u8_next u
          have q0 := HQ.out wr S
          rw [hxe] at q0
          have sp : Spared wr (wr.setCell ⟨gb, j, none⟩ (.int .u8 u2.toNat)) := Spared.poke hgb u2
          have kp : Kept (fun k => base ≤ k) wr (wr.setCell ⟨gb, j, none⟩ (.int .u8 u2.toNat)) := (Kept.refl (fun k => base ≤ k) wr).setCell (p := ⟨gb, j, none⟩) (fun _ => hbb) _
          have HS2 : Hid (Spared wr0 (wr.setCell ⟨gb, j, none⟩ (.int .u8 u2.toNat))) := HJ.out.trans sp
          have HK2 := Lib.hid (HJR.out.trans kp)
          clear S sp kp hgb hxe hx
          go_wp2_with fail
          go_roundw
          case rel => exact ⟨j + 1, by omega, by go_num, HK2.out, HS2⟩
          case measure => simp [intOf]; omega
        · obtain rfl : j = m := by omega
          go_wp2_with fail
          go_roundw
          case rel => exact ⟨k + 1, by omega, by go_num, HKR.out.trans HJR.out, HSR.out.trans HJ.out⟩
          case measure => simp [intOf]; omega
    · obtain rfl : k = n := by omega
      go_wp2_with fail
      go_end0
      exact ⟨rfl, hkr, HSR.out⟩
end Go.Proofs.Ytehpaddddiigbaa
