/- The document's IsPath. -/
import Derived.Test.YtfohljljoalmoaaDoorT4
namespace Go.Proofs.YtfohljljoalmoaaDoor
open Go.RowKit
set_option maxRecDepth 100000
set_option linter.unusedSimpArgs false
set_option linter.unusedVariables false

/-- The byte ahead of i. -/
def lastB (s : ByteArray) : Nat → Nat
  | 0 => 47
  | i + 1 => byt s i

set_option maxRecDepth 100000 in
set_option maxHeartbeats 4000000 in
theorem rIsPath_ct (s : ByteArray) (w : World) (hs : s.size ≤ maxLen) :
    Calls Tryd.prog 34 #[.string s] w fun e w' => e = .returned (.bool (pathB s)) ∧ w' = w := by
  unfold maxLen at hs
  by_cases c1 : s.size < 1
  · have hp : pathB s = false := by unfold pathB; simp; omega
    have HP := Lib.hid hp
    clear hp
    go_enter Tryd.func34, Tryd.ntmps34
    go_wp2_with fail
    go_ret
    exact ⟨by rw [HP.out] <;> rfl, rfl⟩
  by_cases c2 : 40 < s.size
  · have hp : pathB s = false := by unfold pathB; simp; omega
    have HP := Lib.hid hp
    clear hp
    go_enter Tryd.func34, Tryd.ntmps34
    go_wp2_with fail
    go_ret
    exact ⟨by rw [HP.out] <;> rfl, rfl⟩
  have hp : pathB s = (byt s (s.size - 1) != 47 && okPos s s.size 0 47) := by unfold pathB; rw [decide_eq_true (by omega), decide_eq_true (by omega)]; simp
  have HP := Lib.hid hp
  clear hp
  go_enter Tryd.func34, Tryd.ntmps34
  go_wp2_with fail
  go_loopw [3] (fun x wr => ∃ k : Nat, k ≤ s.size ∧ x = .int .i64 k ∧ okPos s s.size 0 47 = okPos s (s.size - k) k (lastB s k) ∧ (k = s.size → byt s (s.size - 1) ≠ 47) ∧ wr = w) (fun x _ => s.size - (intOf x).toNat)
  case atStart => exact ⟨0, by omega, rfl, rfl, fun h => by omega, rfl⟩
  case round =>
    obtain ⟨k, hk, rfl, hok, hlst, hw⟩ := hrel
    have hw' := hw.symm
    clear hw
    subst hw'
    have HK := Lib.hid hok
    have HL := Lib.hid hlst
    clear hok hlst
    by_cases hlt : k < s.size
    · have hsz : s.size - k = (s.size - (k + 1)) + 1 := by omega
      have HZ := Lib.hid hsz
      clear hsz
      have hR := byt_eq hlt
      have hRl := (s[k]'hlt).toNat_lt
      generalize hRR : (s[k]'hlt).toNat = R at hR hRl
      have bad : okC (lastB s k) R = false → Hid (pathB s = false) := fun h1 => by unfold Hid; rw [HP.out, HK.out, HZ.out, okPos_no (by rw [← hR]; exact h1)]; simp
      have good : okC (lastB s k) R = true → ¬ (k + 1 = s.size ∧ R = 47) → Hid (okPos s s.size 0 47 = okPos s (s.size - (k + 1)) (k + 1) (lastB s (k + 1)) ∧ (k + 1 = s.size → byt s (s.size - 1) ≠ 47)) := fun h1 h2 => by
        unfold Hid
        refine ⟨by rw [HK.out, HZ.out, okPos_yes (by rw [← hR]; exact h1)]; rfl, fun h3 h4 => h2 ⟨h3, ?_⟩⟩
        rw [hR, ← h4]; congr 1; omega
      have hi0 : (s[k]'hlt).toNat = R := hRR
      by_cases q47 : R = 47
      · subst q47
        cases k with
        | zero =>
          have HB := bad (by rfl)
          clear good bad hR
          go_wp2_with fail
          go_ret
          exact ⟨by rw [HB.out] <;> rfl, rfl⟩
        | succ m =>
          have wm : IntKind.i64.wrap ((m : Int) + 1 - 1) = m := by rw [IntWalk.i64_in _ (by omega)]; omega
          have wl : IntKind.i64.wrap ((s.size : Int) - 1) = ((s.size - 1 : Nat) : Int) := by rw [IntWalk.i64_in _ (by omega)]; omega
          have e0 : ((m : Int) + 1 == 0) = false := by simp; omega
          obtain ⟨z, hz⟩ : ∃ z : Nat, z = s.size - 1 := ⟨_, rfl⟩
          rw [← hz] at wl
          by_cases ce : m + 1 + 1 = s.size
          · have HB : Hid (pathB s = false) := by
              unfold Hid
              rw [HP.out]
              have : byt s (s.size - 1) = 47 := by rw [hR]; congr 1; omega
              rw [this]; rfl
            have ee : ((m : Int) + 1 == (z : Int)) = true := by simp; omega
            clear good bad hR hz ce
            go_wp2_with fail
            go_ret
            exact ⟨by rw [HB.out] <;> rfl, rfl⟩
          · have ee : ((m : Int) + 1 == (z : Int)) = false := by simp; omega
            have hm : m < s.size := by omega
            have hR2 := byt_eq hm
            have hb2 : lastB s (m + 1) = byt s m := rfl
            generalize hLL : (s[m]'hm).toNat = L at hR2
            by_cases cl : L = 47
            · subst cl
              have HB := bad (by rw [hb2, ← hR2]; rfl)
              clear good bad hR hz ce hR2 hb2
              go_wp2_with fail
              go_ret
              exact ⟨by rw [HB.out] <;> rfl, rfl⟩
            · have HG := good (by rw [hb2, ← hR2]; unfold okC; simp [cl]) (fun h => ce h.1)
              have el : ((L : Int) == 47) = false := by simp; omega
              clear good bad hR hz ce hR2 hb2 cl
              go_wp2_with fail
              go_roundw
              case rel => exact ⟨m + 1 + 1, by omega, by go_num, HG.out.1, HG.out.2, by trivial⟩
              case measure => simp [intOf]; omega
      · have e47 : ((R : Int) == 47) = false := by simp; omega
        by_cases hpl : plainC R = true
        · have HG := good (by unfold okC; rw [hpl]; rfl) (fun h => q47 h.2)
          have hcs : (97 ≤ R ∧ R ≤ 122) ∨ (48 ≤ R ∧ R ≤ 57) ∨ R = 46 ∨ R = 95 ∨ R = 45 := by
            unfold plainC at hpl; simp at hpl; omega
          clear good bad hR q47 hpl
          rcases hcs with ⟨h1, h2⟩ | ⟨h1, h2⟩ | rfl | rfl | rfl
          · have d1 : decide ((R : Int) < 97) = false := decide_eq_false (by omega)
            have d2 : decide ((122 : Int) < (R : Int)) = false := decide_eq_false (by omega)
            go_wp2_with fail
            go_roundw
            case rel => exact ⟨k + 1, by omega, by go_num, HG.out.1, HG.out.2, by trivial⟩
            case measure => simp [intOf]; omega
          · have d1 : decide ((R : Int) < 97) = true := decide_eq_true (by omega)
            have d2 : decide ((R : Int) < 48) = false := decide_eq_false (by omega)
            have d3 : decide ((57 : Int) < (R : Int)) = false := decide_eq_false (by omega)
            go_wp2_with fail
            go_roundw
            case rel => exact ⟨k + 1, by omega, by go_num, HG.out.1, HG.out.2, by trivial⟩
            case measure => simp [intOf]; omega
          all_goals
            go_wp2_with fail
            go_roundw
            case rel => exact ⟨k + 1, by omega, by go_num, HG.out.1, HG.out.2, by trivial⟩
            case measure => simp [intOf]; omega
        · have HB := bad (by unfold okC; rw [Bool.eq_false_iff.2 hpl]; simp [q47])
          have hn : (R < 97 ∨ 122 < R) ∧ (R < 48 ∨ 57 < R) ∧ R ≠ 46 ∧ R ≠ 95 ∧ R ≠ 45 := by
            unfold plainC at hpl; simp at hpl; omega
          have n46 : ((R : Int) != 46) = true := by simp; omega
          have n95 : ((R : Int) != 95) = true := by simp; omega
          have n45 : ((R : Int) != 45) = true := by simp; omega
          clear good bad hR q47 hpl
          obtain ⟨h1, h2, _⟩ := hn
          rcases h1 with h1 | h1
          · have d1 : decide ((R : Int) < 97) = true := decide_eq_true (by omega)
            rcases h2 with h2 | h2
            · have d2 : decide ((R : Int) < 48) = true := decide_eq_true (by omega)
              go_wp2_with fail
              go_ret
              exact ⟨by rw [HB.out] <;> rfl, rfl⟩
            · have d2 : decide ((R : Int) < 48) = false := decide_eq_false (by omega)
              have d3 : decide ((57 : Int) < (R : Int)) = true := decide_eq_true (by omega)
              go_wp2_with fail
              go_ret
              exact ⟨by rw [HB.out] <;> rfl, rfl⟩
          · have d1 : decide ((R : Int) < 97) = false := decide_eq_false (by omega)
            have d2 : decide ((122 : Int) < (R : Int)) = true := decide_eq_true (by omega)
            have d3 : decide ((R : Int) < 48) = false := decide_eq_false (by omega)
            have d4 : decide ((57 : Int) < (R : Int)) = true := decide_eq_true (by omega)
            go_wp2_with fail
            go_ret
            exact ⟨by rw [HB.out] <;> rfl, rfl⟩
    · obtain rfl : k = s.size := by omega
      have HF : Hid (pathB s = true) := by
        unfold Hid; rw [HP.out, HK.out, Nat.sub_self]
        have := HL.out rfl
        simp [okPos, this]
      clear HK HP
      go_wp2_with fail
      go_ret
      exact ⟨by rw [HF.out] <;> rfl, rfl⟩
end Go.Proofs.YtfohljljoalmoaaDoor
