/- Paths, byte by byte; IsPath walked. -/
import Derived.Test.YthachckofghppaaDoorT0
import Derived.Laws.RangeAny
namespace Go.Proofs.YthachckofghppaaDoor
open Go.RowKit
set_option maxRecDepth 100000
set_option linter.unusedSimpArgs false
set_option linter.unusedVariables false

def plainC (c : Nat) : Bool := (decide (97 ≤ c) && decide (c ≤ 122)) || (decide (48 ≤ c) && decide (c ≤ 57)) || c == 46 || c == 95 || c == 45
def okC (last c : Nat) : Bool := plainC c || (c == 47 && last != 47)
/-- The i-th byte. -/
def byt (s : ByteArray) (i : Nat) : Nat := (s.data.toList.getD i 0).toNat
/-- Are f bytes from i on fine behind 'last'? -/
def okPos (s : ByteArray) : Nat → Nat → Nat → Bool
  | 0, _, _ => true
  | f + 1, i, last => okC last (byt s i) && okPos s f (i + 1) (byt s i)
def pathB (s : ByteArray) : Bool := decide (1 ≤ s.size) && decide (s.size ≤ 40) && byt s (s.size - 1) != 47 && okPos s s.size 0 47
theorem byt_eq {s : ByteArray} {i : Nat} (h : i < s.size) : (s[i]'h).toNat = byt s i := by
  unfold byt
  rw [List.getD_eq_getElem?_getD, List.getElem?_eq_getElem (by simpa using h)]
  rfl

theorem next_at {P : Program} (w : World) (s : ByteArray) (k : Nat) (h : k < s.size) : ∃ R wd : Nat, (∀ ty, (Instr.next (.pointer (some ⟨w.heap.size, 0, none⟩)) true ty).run P (w.iter s k) = .ok (.tuple #[.bool true, .int .i64 k, .int .i32 R]) (w.iter s (k + wd))) ∧ (R = byt s k ∧ wd = 1 ∧ R < 128 ∨ 128 ≤ R ∧ 128 ≤ byt s k) ∧ R ≤ 2147483647 := by
  by_cases ha : (s[k]'h).toNat < 128
  · exact ⟨_, 1, fun ty => run_next_ascii w s k ty h ha, .inl ⟨byt_eq h, rfl, ha⟩, by omega⟩
  · exact ⟨_, _, fun ty => run_next_any w s k ty h, .inr ⟨(decode_high s k h (by omega)).1, by rw [← byt_eq h]; omega⟩, decode_le s k⟩
theorem okPos_no {s : ByteArray} {f i last : Nat} (h : okC last (byt s i) = false) : okPos s (f + 1) i last = false := by simp [okPos, h]
theorem okPos_yes {s : ByteArray} {f i last : Nat} (h : okC last (byt s i) = true) : okPos s (f + 1) i last = okPos s f (i + 1) (byt s i) := by simp [okPos, h]
theorem Kept.iter (w : World) (s : ByteArray) (k : Nat) : Kept (fun _ => False) w (w.iter s k) := (Kept.refl _ w).alloc _

set_option maxRecDepth 100000 in
set_option maxHeartbeats 4000000 in
theorem isPath_ct (s : ByteArray) (w : World) (hs : s.size ≤ maxLen) :
    Calls Tryd.prog 16 #[.string s] w fun e w' => e = .returned (.bool (pathB s)) ∧ Kept (fun _ => False) w w' := by
  unfold maxLen at hs
  by_cases c1 : s.size < 1
  · have hp : pathB s = false := by unfold pathB; simp; omega
    have HP := Lib.hid hp
    clear hp
    go_enter Tryd.func16, Tryd.ntmps16
    go_wp2_with fail
    go_ret
    exact ⟨by rw [HP.out] <;> rfl, Kept.refl _ _⟩
  by_cases c2 : 40 < s.size
  · have hp : pathB s = false := by unfold pathB; simp; omega
    have HP := Lib.hid hp
    clear hp
    go_enter Tryd.func16, Tryd.ntmps16
    go_wp2_with fail
    go_ret
    exact ⟨by rw [HP.out] <;> rfl, Kept.refl _ _⟩
  have h1 : s.size - 1 < s.size := by omega
  by_cases c3 : byt s (s.size - 1) = 47
  · have hp : pathB s = false := by unfold pathB; simp [c3]
    have e1 : (s[s.size - 1]'h1).toNat = 47 := by rw [byt_eq h1, c3]
    have HP := Lib.hid hp
    clear hp c3
    go_enter Tryd.func16, Tryd.ntmps16
    go_wp2_with fail
    go_ret
    exact ⟨by rw [HP.out] <;> rfl, Kept.refl _ _⟩
  have e1 : ((s[s.size - 1]'h1).toNat : Int) ≠ 47 := by rw [byt_eq h1]; omega
  have e2 : (((s[s.size - 1]'h1).toNat : Int) == 47) = false := by simpa using e1
  have hp : pathB s = okPos s s.size 0 47 := by unfold pathB; simp [c3]; intro _; omega
  have HP := Lib.hid hp
  clear hp c3 e1
  go_enter Tryd.func16, Tryd.ntmps16
  go_wp2_with fail
  go_loopw [3] (fun x wr => ∃ k l : Nat, k ≤ s.size ∧ x = .int .i32 l ∧ okPos s s.size 0 47 = okPos s (s.size - k) k l ∧ wr = w.iter s k) (fun _ wr => s.size - wr.iterPos w.heap.size)
  case atStart => exact ⟨0, 47, by omega, rfl, rfl, rfl⟩
  case round =>
    obtain ⟨k, l, hk, rfl, hok, rfl⟩ := hrel
    have HK := Lib.hid hok
    clear hok
    by_cases hlt : k < s.size
    · obtain ⟨R, wd, hnx, hR, hR2⟩ := next_at (P := Tryd.prog) w s k hlt
      have hsz : s.size - k = (s.size - (k + 1)) + 1 := by omega
      have HZ := Lib.hid hsz
      clear hsz
      -- what the ways come to
      have good : okC l R = true → R < 128 → byt s k = R ∧ wd = 1 ∧ Hid (okPos s s.size 0 47 = okPos s (s.size - (k + 1)) (k + 1) R) := fun h1 h2 => by
        rcases hR with ⟨rfl, rfl, _⟩ | ⟨h3, _⟩
        · exact ⟨rfl, rfl, by unfold Hid; rw [HK.out, HZ.out, okPos_yes h1]⟩
        · omega
      have bad : okC l (byt s k) = false → Hid (pathB s = false) := fun h1 => by unfold Hid; rw [HP.out, HK.out, HZ.out, okPos_no h1]
      have big : 122 < R → 122 < byt s k := fun h => by rcases hR with ⟨rfl, _, _⟩ | ⟨_, h3⟩ <;> omega
      have sma : R ≤ 122 → byt s k = R := fun h => by rcases hR with ⟨rfl, _, _⟩ | ⟨h3, _⟩ <;> omega
      clear hR
      by_cases a1 : 97 ≤ R ∧ R ≤ 122
      · obtain ⟨a1x, a1y⟩ := a1
        obtain ⟨hb, rfl, HG⟩ := good (by unfold okC plainC; simp [a1x, a1y]) (by omega)
        clear good bad big sma hb
        go_wp2_with fail
        go_roundw
        case rel => exact ⟨k + 1, R, by omega, by go_num, HG.out, rfl⟩
        case measure => simp; omega
      by_cases a2 : 122 < R
      · have HB := bad (by have := big a2; unfold okC plainC; simp; omega)
        clear good bad big sma
        have d1 : decide ((R : Int) ≤ 122) = false := by simp; omega
        have d2 : decide ((R : Int) ≤ 57) = false := by simp; omega
        have b46 : ((R : Int) == 46) = false := by simp; omega
        have b95 : ((R : Int) == 95) = false := by simp; omega
        have b45 : ((R : Int) == 45) = false := by simp; omega
        have b47 : ((R : Int) != 47) = true := by simp; omega
        go_wp2_with fail
        go_ret
        exact ⟨by rw [HB.out] <;> rfl, Kept.iter _ _ _⟩
      by_cases a3 : 48 ≤ R ∧ R ≤ 57
      · obtain ⟨a3x, a3y⟩ := a3
        obtain ⟨hb, rfl, HG⟩ := good (by unfold okC plainC; simp [a3x, a3y]) (by omega)
        clear good bad big sma hb
        go_wp2_with fail
        go_roundw
        case rel => exact ⟨k + 1, R, by omega, by go_num, HG.out, rfl⟩
        case measure => simp; omega
      by_cases q46 : R = 46
      · subst q46
        obtain ⟨hb, rfl, HG⟩ := good (by rfl) (by omega)
        clear good bad big sma hb
        go_wp2_with fail
        go_roundw
        case rel => exact ⟨k + 1, 46, by omega, by go_num, HG.out, rfl⟩
        case measure => simp; omega
      by_cases q95 : R = 95
      · subst q95
        obtain ⟨hb, rfl, HG⟩ := good (by rfl) (by omega)
        clear good bad big sma hb
        go_wp2_with fail
        go_roundw
        case rel => exact ⟨k + 1, 95, by omega, by go_num, HG.out, rfl⟩
        case measure => simp; omega
      by_cases q45 : R = 45
      · subst q45
        obtain ⟨hb, rfl, HG⟩ := good (by rfl) (by omega)
        clear good bad big sma hb
        go_wp2_with fail
        go_roundw
        case rel => exact ⟨k + 1, 45, by omega, by go_num, HG.out, rfl⟩
        case measure => simp; omega
      have hbR := sma (by omega)
      by_cases q47 : R = 47
      · subst q47
        by_cases ql : l = 47
        · have HB := bad (by rw [hbR, ql]; rfl)
          subst ql
          clear good bad big sma hbR
          go_wp2_with fail
          go_ret
          exact ⟨by rw [HB.out] <;> rfl, Kept.iter _ _ _⟩
        · have bl : ((l : Int) == 47) = false := by simp; omega
          obtain ⟨hb, rfl, HG⟩ := good (by simp [okC, ql]) (by omega)
          clear good bad big sma hb hbR
          go_wp2_with fail
          go_roundw
          case rel => exact ⟨k + 1, 47, by omega, by go_num, HG.out, rfl⟩
          case measure => simp; omega
      have HB := bad (by rw [hbR]; unfold okC plainC; simp; omega)
      clear good bad big sma hbR
      have b46 : ((R : Int) == 46) = false := by simp; omega
      have b95 : ((R : Int) == 95) = false := by simp; omega
      have b45 : ((R : Int) == 45) = false := by simp; omega
      have b47 : ((R : Int) != 47) = true := by simp; omega
      by_cases r1 : R < 48
      · go_wp2_with fail
        go_ret
        exact ⟨by rw [HB.out] <;> rfl, Kept.iter _ _ _⟩
      · by_cases r2 : R < 97
        · have d2 : decide ((R : Int) ≤ 57) = false := by simp; omega
          go_wp2_with fail
          go_ret
          exact ⟨by rw [HB.out] <;> rfl, Kept.iter _ _ _⟩
        · omega
    · obtain rfl : k = s.size := by omega
      have hend := fun ty => run_next_end (P := Tryd.prog) w s s.size ty (Nat.lt_irrefl _)
      have HF : Hid (pathB s = true) := by unfold Hid; rw [HP.out, HK.out, Nat.sub_self]; rfl
      clear HK HP
      go_wp2_with fail
      go_ret
      exact ⟨by rw [HF.out] <;> rfl, Kept.iter _ _ _⟩
end Go.Proofs.YthachckofghppaaDoor
