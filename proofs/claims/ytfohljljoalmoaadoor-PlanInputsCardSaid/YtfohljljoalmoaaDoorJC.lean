/- parser.isName. -/
import Derived.Test.YtfohljljoalmoaaDoorJA
import Derived.Ground.NamesProg
import Derived.Shelf.Strings.SlTrimAscii
namespace Go.Proofs.YtfohljljoalmoaaDoor
open Go.RowKit
set_option maxRecDepth 100000
set_option linter.unusedSimpArgs false
set_option linter.unusedVariables false

def lays160_ren : Go.Shelf.Ren := ⟨fun | 160 => 79 | 232 => 89 | 231 => 88 | 227 => 90 | 234 => 92 | 233 => 91 | 236 => 94 | 235 => 93 | 228 => 97 | 271 => 100 | 151 => 99 | 197 => 98 | 120 => 104 | 152 => 103 | 260 => 102 | 137 => 105 | 119 => 106 | 224 => 107 | 225 => 108 | 217 => 109 | 266 => 110 | n => n, fun | 9 => 9 | 4 => 4 | 3 => 3 | 5 => 5 | 117 => 104 | 116 => 103 | 0 => 0 | 124 => 107 | 21 => 21 | 105 => 113 | 46 => 92 | 119 => 117 | 139 => 120 | 138 => 119 | n => n, fun | 3 => 1 | 4 => 2 | n => n⟩
theorem lays160 : Go.Proofs.Lays.n160 Tryd.prog lays160_ren := {
  mixed := by kernel_rfl
  f119 := Tryd.func106.trans (congrArg some (by kernel_rfl))
  f120 := Tryd.func104.trans (congrArg some (by kernel_rfl))
  f137 := Tryd.func105.trans (congrArg some (by kernel_rfl))
  f151 := Tryd.func99.trans (congrArg some (by kernel_rfl))
  f152 := Tryd.func103.trans (congrArg some (by kernel_rfl))
  f160 := Tryd.func79.trans (congrArg some (by kernel_rfl))
  f197 := Tryd.func98.trans (congrArg some (by kernel_rfl))
  f217 := Tryd.func109.trans (congrArg some (by kernel_rfl))
  f224 := Tryd.func107.trans (congrArg some (by kernel_rfl))
  f225 := Tryd.func108.trans (congrArg some (by kernel_rfl))
  f227 := Tryd.func90.trans (congrArg some (by kernel_rfl))
  f228 := Tryd.func97.trans (congrArg some (by kernel_rfl))
  f231 := Tryd.func88.trans (congrArg some (by kernel_rfl))
  f232 := Tryd.func89.trans (congrArg some (by kernel_rfl))
  f233 := Tryd.func91.trans (congrArg some (by kernel_rfl))
  f234 := Tryd.func92.trans (congrArg some (by kernel_rfl))
  f235 := Tryd.func93.trans (congrArg some (by kernel_rfl))
  f236 := Tryd.func94.trans (congrArg some (by kernel_rfl))
  f260 := Tryd.func102.trans (congrArg some (by kernel_rfl))
  f266 := Tryd.func110.trans (congrArg some (by kernel_rfl))
  f271 := Tryd.func100.trans (congrArg some (by kernel_rfl))
  t0 := Tryd.underlying0
  a0 := Tryd.isAgg0
  z0 := Tryd.sizeOf0
  v0 := Tryd.zeroValue0
  t3 := Tryd.underlying3
  a3 := Tryd.isAgg3
  z3 := Tryd.sizeOf3
  v3 := Tryd.zeroValue3
  t4 := Tryd.underlying4
  a4 := Tryd.isAgg4
  z4 := Tryd.sizeOf4
  v4 := Tryd.zeroValue4
  t5 := Tryd.underlying5
  a5 := Tryd.isAgg5
  z5 := Tryd.sizeOf5
  v5 := Tryd.zeroValue5
  t9 := Tryd.underlying9
  a9 := Tryd.isAgg9
  z9 := Tryd.sizeOf9
  v9 := Tryd.zeroValue9
  t21 := Tryd.underlying21
  a21 := Tryd.isAgg21
  z21 := Tryd.sizeOf21
  v21 := Tryd.zeroValue21
  t46 := Tryd.underlying92
  a46 := Tryd.isAgg92
  z46 := Tryd.sizeOf92
  v46 := Tryd.zeroValue92
  t105 := Tryd.underlying113
  a105 := Tryd.isAgg113
  z105 := Tryd.sizeOf113
  v105 := Tryd.zeroValue113
  t116 := Tryd.underlying103
  a116 := Tryd.isAgg103
  z116 := Tryd.sizeOf103
  t117 := Tryd.underlying104
  a117 := Tryd.isAgg104
  z117 := Tryd.sizeOf104
  v117 := Tryd.zeroValue104
  t119 := Tryd.underlying117
  a119 := Tryd.isAgg117
  z119 := Tryd.sizeOf117
  t124 := Tryd.underlying107
  a124 := Tryd.isAgg107
  z124 := Tryd.sizeOf107
  v124 := Tryd.zeroValue107
  t138 := Tryd.underlying119
  a138 := Tryd.isAgg119
  z138 := Tryd.sizeOf119
  v138 := Tryd.zeroValue119
  t139 := Tryd.underlying120
  a139 := Tryd.isAgg120
  z139 := Tryd.sizeOf120
  v139 := Tryd.zeroValue120
  g3 := by kernel_rfl
  g4 := by kernel_rfl }
theorem dropWhile_nil {p : UInt8 → Bool} : ∀ {l : List UInt8}, l.dropWhile p = [] ↔ ∀ x ∈ l, p x = true
  | [] => by simp
  | c :: l => by
    rw [List.dropWhile_cons]
    by_cases h : p c = true
    · rw [if_pos h, dropWhile_nil]
      simp [h]
    · rw [if_neg h]
      simp [h]
theorem trim_nil (l cs : List UInt8) : Lib.trimS l cs = [] ↔ l.all (fun c => cs.contains c) = true := by
  unfold Lib.trimS Lib.trimLeftS
  rw [dropWhile_nil, List.all_eq_true]
  unfold Lib.trimRightS
  constructor
  · intro h c hc
    have h2 : c ∈ l.reverse.takeWhile (fun c => cs.contains c) ++ l.reverse.dropWhile (fun c => cs.contains c) := by rw [List.takeWhile_append_dropWhile]; simpa using hc
    rcases List.mem_append.1 h2 with h3 | h3
    · have : ∀ (m : List UInt8), ∀ x ∈ m.takeWhile (fun c => cs.contains c), cs.contains x = true := fun m => by
        induction m with
        | nil => intro x hx; simp at hx
        | cons y m ih =>
          intro x hx
          rw [List.takeWhile_cons] at hx
          split at hx
          · rename_i hy
            rcases List.mem_cons.1 hx with rfl | hx
            · exact hy
            · exact ih x hx
          · simp at hx
      exact this _ c h3
    · exact h c (by simpa using h3)
  · intro h c hc
    refine h c ?_
    have := (List.dropWhile_sublist (fun c => cs.contains c) (l := l.reverse)).subset (by simpa using hc)
    simpa using this
theorem trim_ct (s : ByteArray) (w : World) (hs : s.size ≤ maxLen) :
    Calls Tryd.prog 79 #[.string s, .string NAMES] w fun e w' => e = .returned (.string ⟨(Lib.trimS s.data.toList NAMES.data.toList).toArray⟩) ∧ Kept (fun _ => False) w w' :=
  (Any.strings_Trim_laid lays160 (by kernel_rfl) s NAMES w (by unfold maxLen at hs; omega) (by decide) (ascii_of_all (by decide))).mono fun e w' ⟨h1, h2⟩ => ⟨h1, Kept.of_below h2 (Nat.le_refl _) _⟩
set_option maxRecDepth 100000 in
set_option maxHeartbeats 2000000 in
theorem isName_ct (s : ByteArray) (w : World) (hs : s.size ≤ maxLen) :
    Calls Tryd.prog 67 #[.string s] w fun e w' => e = .returned (.bool (nameB s)) ∧ Kept (fun _ => False) w w' := by
  have tc := trim_ct s w hs
  have e0 : nameB s = (decide (1 ≤ s.size) && decide (s.size ≤ 10) && decide (Lib.trimS s.data.toList NAMES.data.toList = [])) := by
    unfold nameB
    congr 1
    rw [Bool.eq_iff_iff, decide_eq_true_iff]
    exact (trim_nil _ _).symm
  generalize hr : Lib.trimS s.data.toList NAMES.data.toList = r at tc e0
  have E0 := Lib.hid e0
  clear e0 hr
  unfold NAMES at tc
  have er : (ByteArray.mk r.toArray).toList = r := by rw [data_toList]
  simp only [maxLen] at hs
  by_cases h1 : 1 ≤ s.size
  · by_cases h2 : s.size ≤ 10
    · have i1 : (1 : Int) ≤ (s.size : Int) := by omega
      have i2 : (s.size : Int) ≤ 10 := by omega
      go_enter Tryd.func67, Tryd.ntmps67
      go_wp2_with fail
      refine tc.mono ?_
      rintro e W ⟨rfl, hk⟩
      go_wp2_with fail
      go_ret
      exact ⟨by rw [E0.out, decide_eq_true h1, decide_eq_true h2]; cases r <;> simp, hk⟩
    · go_enter Tryd.func67, Tryd.ntmps67
      go_wp2_with fail
      go_ret
      exact ⟨by rw [E0.out, decide_eq_false h2]; simp, Kept.refl _ _⟩
  · go_enter Tryd.func67, Tryd.ntmps67
    go_wp2_with fail
    go_ret
    exact ⟨by rw [E0.out, decide_eq_false h1]; simp, Kept.refl _ _⟩
end Go.Proofs.YtfohljljoalmoaaDoor
