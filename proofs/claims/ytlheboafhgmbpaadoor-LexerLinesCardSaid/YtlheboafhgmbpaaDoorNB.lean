/- LexerLines: the document's ctrl and quoted. -/
import Derived.Test.YtlheboafhgmbpaaDoorNA
namespace Go.Proofs.YtlheboafhgmbpaaDoor
open Go.RowKit
set_option maxRecDepth 100000
set_option linter.unusedSimpArgs false
set_option linter.unusedVariables false

set_option maxRecDepth 100000 in
theorem ctrl_ct (b : UInt8) (w : World) : Calls Tryd.prog 22 #[.int .u8 (b.toNat : Int)] w fun e w' => e = .returned (.bool (ctrlB b)) ∧ w' = w := by
  have l32 : (b < 32) ↔ b.toNat < 32 := by rw [UInt8.lt_iff_toNat_lt]; rfl
  have b127 : (b == 127) = decide (b.toNat = 127) := byte_eq b 127 (by omega)
  have hc : Hid (ctrlB b = (decide (b.toNat < 32) || decide (b.toNat = 127))) := by unfold Hid ctrlB; rw [b127]; simp [l32]
  clear l32 b127
  generalize b.toNat = c at hc
  go_enter Tryd.func22, Tryd.ntmps22
  by_cases h1 : c < 32
  · have d1 : decide ((c : Int) < 32) = true := decide_eq_true (by omega)
    have hR : Hid (ctrlB b = true) := by unfold Hid; rw [hc.out]; simp [h1]
    go_wp2_with fail
    go_ret
    exact ⟨by rw [hR.out]; rfl, rfl⟩
  have d1 : decide ((c : Int) < 32) = false := decide_eq_false (by omega)
  by_cases h2 : c = 127
  · have d2 : ((c : Int) == 127) = true := by simp [h2]
    have hR : Hid (ctrlB b = true) := by unfold Hid; rw [hc.out]; simp [h2]
    go_wp2_with fail
    go_ret
    exact ⟨by rw [hR.out]; rfl, rfl⟩
  · have d2 : ((c : Int) == 127) = false := by simp; omega
    have hR : Hid (ctrlB b = false) := by unfold Hid; rw [hc.out]; simp [h1, h2]
    go_wp2_with fail
    go_ret
    exact ⟨by rw [hR.out]; rfl, rfl⟩
theorem quotedB_cons (c : UInt8) (r : List UInt8) : quotedB (c :: r) =
    if c == 34 then (if afterB r then some ([], r) else none)
    else if c == 92 then (match r with
      | [] => none
      | d :: r' => if d == 110 then (quotedB r').map fun p => (10 :: p.1, p.2) else if d == 34 || d == 92 then (quotedB r').map fun p => (d :: p.1, p.2) else none)
    else if ctrlB c then none
    else (quotedB r).map fun p => (c :: p.1, p.2) := by
  cases r with
  | nil =>
    unfold quotedB afterB
    by_cases h : (c == 34) = true
    · simp [h]
    · simp [h, quotedB]
  | cons d r => rfl
theorem drop_byte {l : List UInt8} {i : Nat} (h : i < l.length) : l.drop i = l.getD i 0 :: l.drop (i + 1) := by
  rw [List.drop_eq_getElem_cons h, List.getD_eq_getElem?_getD, List.getElem?_eq_getElem h]; rfl
theorem bapp (x y : List UInt8) : ((⟨x.toArray⟩ : ByteArray) ++ (⟨y.toArray⟩ : ByteArray)) = ⟨(x ++ y).toArray⟩ := by
  apply ByteArray.ext
  show ((⟨x.toArray⟩ : ByteArray) ++ (⟨y.toArray⟩ : ByteArray)).data = _
  rw [ByteArray.data_append]
  simp
/-- What quoted hands back. -/
def QOut (l : List UInt8) (at_ : Nat) (x : Option (List UInt8 × List UInt8)) (e : Ending) : Prop := match x with
  | none => ∃ s n, e = .returned (.tuple #[.string s, .int .i64 n, .bool false])
  | some p => ∃ j : Nat, j ≤ l.length ∧ at_ < j ∧ p.2 = l.drop j ∧ e = .returned (.tuple #[.string ⟨p.1.toArray⟩, .int .i64 (j : Int), .bool true])
theorem QOut.no {l : List UInt8} {k : Nat} {x : Option (List UInt8 × List UInt8)} {s : ByteArray} {n : Int} (h : x = none) : QOut l k x (.returned (.tuple #[.string s, .int .i64 n, .bool false])) := by subst h; exact ⟨_, _, rfl⟩
theorem QOut.yes {l w : List UInt8} {k j : Nat} {x : Option (List UInt8 × List UInt8)} (h : x = some (w, l.drop j)) (hj : j ≤ l.length) (hk : k < j) : QOut l k x (.returned (.tuple #[.string ⟨w.toArray⟩, .int .i64 (j : Int), .bool true])) := by subst h; exact ⟨j, hj, hk, rfl, rfl⟩
def wordQ (wd : List UInt8) (x : Option (List UInt8 × List UInt8)) : Option (List UInt8 × List UInt8) := x.map fun p => (wd ++ p.1, p.2)
theorem wordQ_nil (x : Option (List UInt8 × List UInt8)) : wordQ [] x = x := by cases x <;> rfl
theorem wordQ_more (wd : List UInt8) (c : UInt8) (x : Option (List UInt8 × List UInt8)) : wordQ wd (x.map fun p => (c :: p.1, p.2)) = wordQ (wd ++ [c]) x := by cases x <;> simp [wordQ]
end Go.Proofs.YtlheboafhgmbpaaDoor
