/- CutPrefix, Below. -/
import Derived.Test.YthachckofghppaaDoorT9
namespace Go.Proofs.YthachckofghppaaDoor
open Go.RowKit
set_option maxRecDepth 100000
set_option linter.unusedSimpArgs false
set_option linter.unusedVariables false

def hasB (s p : ByteArray) : Bool := decide (p.size ≤ s.size) && ((s.extract 0 p.size).toList == p.toList)
set_option maxHeartbeats 1000000 in
theorem hasPrefix_ct (s p : ByteArray) (w : World) (hs : s.size ≤ 100000) (hp : p.size ≤ 100000) :
    Calls Tryd.prog 51 #[.string s, .string p] w fun e w' => e = .returned (.bool (hasB s p)) ∧ w' = w := by
  by_cases h : p.size ≤ s.size
  · have h' : (p.size : Int) ≤ (s.size : Int) := by omega
    have d1 : decide ((p.size : Int) ≤ (s.size : Int)) = true := decide_eq_true h'
    have e1 : hasB s p = ((s.extract 0 p.size).toList == p.toList) := by unfold hasB; rw [decide_eq_true h]; rfl
    have E1 := Lib.hid e1
    clear e1
    go_enter Tryd.func51, Tryd.ntmps51
    go_wp2_with fail
    go_ret
    exact ⟨by rw [E1.out] <;> rfl, rfl⟩
  · have d1 : decide ((p.size : Int) ≤ (s.size : Int)) = false := decide_eq_false (by omega)
    have e1 : hasB s p = false := by unfold hasB; rw [decide_eq_false h]; rfl
    have E1 := Lib.hid e1
    clear e1
    go_enter Tryd.func51, Tryd.ntmps51
    go_wp2_with fail
    go_ret
    exact ⟨by rw [E1.out] <;> rfl, rfl⟩
def cutV (s p : ByteArray) : Value := if hasB s p = true then .tuple #[.string (s.extract p.size s.size), .bool true] else .tuple #[.string s, .bool false]
set_option maxHeartbeats 1000000 in
theorem cutLite_ct (s p : ByteArray) (w : World) (hs : s.size ≤ 100000) (hp : p.size ≤ 100000) :
    Calls Tryd.prog 34 #[.string s, .string p] w fun e w' => e = .returned (cutV s p) ∧ w' = w := by
  have hc := hasPrefix_ct s p w hs hp
  unfold cutV
  cases hb : hasB s p with
  | true =>
    have h1 : p.size ≤ s.size := by unfold hasB at hb; rw [Bool.and_eq_true] at hb; simpa using hb.1
    have h' : (p.size : Int) ≤ (s.size : Int) := by omega
    rw [hb] at hc
    clear hb
    go_enter Tryd.func34, Tryd.ntmps34
    go_wp2_with fail
    refine hc.mono ?_
    rintro e W ⟨rfl, rfl⟩
    go_wp2_with fail
    go_ret2
    exact ⟨rfl, rfl⟩
  | false =>
    rw [hb] at hc
    clear hb
    go_enter Tryd.func34, Tryd.ntmps34
    go_wp2_with fail
    refine hc.mono ?_
    rintro e W ⟨rfl, rfl⟩
    go_wp2_with fail
    go_ret2
    exact ⟨rfl, rfl⟩
set_option maxHeartbeats 1000000 in
theorem cut_ct (s p : ByteArray) (w : World) (hs : s.size ≤ 100000) (hp : p.size ≤ 100000) :
    Calls Tryd.prog 19 #[.string s, .string p] w fun e w' => e = .returned (cutV s p) ∧ w' = w := by
  have hc := cutLite_ct s p w hs hp
  unfold cutV at *
  cases hb : hasB s p with
  | true =>
    rw [hb] at hc
    go_enter Tryd.func19, Tryd.ntmps19
    go_wp2_with fail
    refine hc.mono ?_
    rintro e W ⟨rfl, rfl⟩
    go_wp2_with fail
    go_ret2
    exact ⟨rfl, rfl⟩
  | false =>
    rw [hb] at hc
    go_enter Tryd.func19, Tryd.ntmps19
    go_wp2_with fail
    refine hc.mono ?_
    rintro e W ⟨rfl, rfl⟩
    go_wp2_with fail
    go_ret2
    exact ⟨rfl, rfl⟩
end Go.Proofs.YthachckofghppaaDoor
