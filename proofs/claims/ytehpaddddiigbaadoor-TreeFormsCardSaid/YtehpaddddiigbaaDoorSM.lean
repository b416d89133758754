/- The padded text; the document's padded. -/
import Derived.Test.YtehpaddddiigbaaDoorSL
namespace Go.Proofs.YtehpaddddiigbaaDoor
open Go.RowKit
set_option maxRecDepth 100000
set_option linter.unusedSimpArgs false
set_option linter.unusedVariables false

def zN (n : Nat) : Nat := (119 - n % 64) % 64
def pad0 (b : List UInt8) (j : Nat) : List UInt8 := b ++ [128] ++ List.replicate j 0
def be8 (m : Nat) : List UInt8 := (List.range 8).map fun k => UInt8.ofNat (m / 2 ^ (8 * (7 - k)))
def padL (b : List UInt8) : List UInt8 := pad0 b (zN b.length) ++ be8 (b.length * 8)
theorem pad0_len (b : List UInt8) (j : Nat) : (pad0 b j).length = b.length + 1 + j := by simp [pad0]; omega
theorem be8_len (m : Nat) : (be8 m).length = 8 := by simp [be8]
theorem padL_len (b : List UInt8) : (padL b).length = b.length + 9 + zN b.length := by
  unfold padL
  rw [List.length_append, pad0_len, be8_len]
  omega
theorem padL_mod (b : List UInt8) : (padL b).length % 64 = 0 := by rw [padL_len]; unfold zN; omega
theorem zN_lt (n : Nat) : zN n < 64 := Nat.mod_lt _ (by decide)
theorem zN_at {n j : Nat} (hj : j ≤ zN n) : (n + 1 + j) % 64 = 56 ↔ j = zN n := by unfold zN at *; omega
theorem pad0_succ (b : List UInt8) (j : Nat) : pad0 b j ++ [0] = pad0 b (j + 1) := by
  unfold pad0
  rw [List.append_assoc, show List.replicate j (0 : UInt8) ++ [0] = List.replicate (j + 1) 0 by rw [List.replicate_succ']]
theorem bslice_o1 (m : Int) (w : World) : (Instr.buildSlice 32 1 #[(0, .int .u8 m)]).run Tryd.prog w = .ok (.slice (some ⟨w.heap.size, 0, none⟩) 1 1) (w.alloc (.cells #[.int .u8 m] 5)) := by kernel_rfl
theorem byt_o1 {w : World} {g c : Nat} {b : UInt8} {t : TypeId} {fr : Nat × Nat} (h : w.heap[g]? = some (.cells #[.int .u8 b.toNat] t fr)) : ByAt w (.slice (some ⟨g, 0, none⟩) 1 c) [b] :=
  ⟨_, c, rfl, by simp [maxLen], fun _ => ⟨g, 0, rfl, (Array.getElem?_eq_some_iff.1 h).1, fun i u hu => by
    rw [cell_of_row _ _ _ _ _ _ h, ← hu]
    simp [bv]⟩⟩
/-- One byte is appended to a row of the call's own. -/
theorem push1 {w w0 : World} {base n : Nat} {v : Value} {xs : List UInt8} (h : w.ownsRow base 5 1 v n (bv xs)) (b : UInt8) {m : Int} (hm : m = (b.toNat : Int)) (hn : n + 1 ≤ 1000000) (hk : Kept (fun _ => False) w0 w) (hb : w0.heap.size ≤ base) (hb2 : base ≤ w.heap.size) (ty : TypeId) :
    ∃ a' c' W1 w', (Instr.buildSlice 32 1 #[(0, .int .u8 m)]).run Tryd.prog w = .ok (.slice (some ⟨w.heap.size, 0, none⟩) 1 1) W1 ∧
      (Builtin.append_ #[32, 32] ty #[v, .slice (some ⟨w.heap.size, 0, none⟩) 1 1]).run Tryd.prog W1 = .ok (.slice a' (n + 1) c') w' ∧
      w'.ownsRow base 5 1 (.slice a' (n + 1) c') (n + 1) (bv (xs ++ [b])) ∧ Kept (fun _ => False) w0 w' ∧ base ≤ w'.heap.size := by
  have k1 : Kept (fun _ => False) w (w.alloc (.cells #[.int .u8 m] 5)) := (Kept.refl _ w).alloc _
  have ho := row_keep h k1
  have hx : ByAt (w.alloc (.cells #[.int .u8 m] 5)) (.slice (some ⟨w.heap.size, 0, none⟩) 1 1) [b] := byt_o1 (by rw [heap_last, hm])
  obtain ⟨v', w', ap, ho', hg⟩ := app_by ho hx (by simpa using hn) (Nat.le_trans hb2 k1.size) ty
  rw [← bv_app] at ho'
  obtain ⟨a', c', rfl⟩ := row_form ho'
  exact ⟨a', c', _, w', bslice_o1 m w, ap, ho', grown_kept (hk.trans k1) hg (fun k e => Nat.le_trans hb (World.ownsRow.lt ho k e).1), Nat.le_trans (Nat.le_trans hb2 k1.size) hg.size⟩
theorem u8of (n : Nat) : ((UInt8.ofNat n).toNat : Int) = (n : Int) % 256 := by
  rw [UInt8.toNat_ofNat']; omega
set_option maxHeartbeats 4000000 in
theorem padded_ct {w : World} {v : Value} {b : List UInt8} (h : ByAt w v b) (hl : b.length ≤ 500000) :
    Calls Tryd.prog 70 #[v] w fun e w' => ∃ v', e = .returned v' ∧ w'.ownsRow w.heap.size 5 1 v' (padL b).length (bv (padL b)) ∧ Kept (fun _ => False) w w' := by
  obtain ⟨a0, c0, rfl⟩ := h.slc
  have k1 : Kept (fun _ => False) w (w.alloc (.cells #[] 5)) := (Kept.refl _ w).alloc _
  have ho : (w.alloc (.cells #[] 5)).ownsRow w.heap.size 5 1 (.slice (some ⟨w.heap.size, 0, none⟩) 0 0) 0 (bv []) := World.ownsRow_made w #[] 0 (Nat.le_refl _) (Nat.zero_le _) rfl
  have bs0 : (Instr.buildSlice 32 0 #[]).run Tryd.prog w = .ok (.slice (some ⟨w.heap.size, 0, none⟩) 0 0) (w.alloc (.cells #[] 5)) := by kernel_rfl
  obtain ⟨v1, W1, ap1, ho1, hg1⟩ := app_by ho (h.kept k1) (by omega) k1.size 32
  rw [← bv_app, List.nil_append, Nat.zero_add] at ho1
  have k2 := grown_kept k1 hg1 (fun k e => (World.ownsRow.lt ho k e).1)
  obtain ⟨a1, c1, rfl⟩ := row_form ho1
  obtain ⟨a2, c2, W2, W3, bs2, ap2, ho2, k3, hs3⟩ := push1 ho1 128 (m := 128) rfl (by omega) k2 (Nat.le_refl _) k2.size 32
  rw [show b ++ [128] = pad0 b 0 by simp [pad0]] at ho2
  have zl := zN_lt b.length
  go_enter Tryd.func70, Tryd.ntmps70
  go_wp2_with (first
    | (with_reducible refine wpl_bslice 32 _ _ rfl rfl ?_ bs0 ?_
       · (go_simp <;> rfl)
       simp only [Act.put, List.getElem_toArray, List.getElem_cons_zero, List.getElem_cons_succ, List.setIfInBounds_toArray, List.set_cons_zero, List.set_cons_succ])
    | (with_reducible refine wpl_bslice 32 _ _ rfl rfl ?_ bs2 ?_
       · (go_simp <;> rfl)
       simp only [Act.put, List.getElem_toArray, List.getElem_cons_zero, List.getElem_cons_succ, List.setIfInBounds_toArray, List.set_cons_zero, List.set_cons_succ])
    | (refine wpl_val rfl (exec_append 32 _ _ rfl rfl rfl ap1) ?_)
    | (refine wpl_val rfl (exec_append 32 _ _ rfl rfl rfl ap2) ?_))
  clear bs0 bs2 ap1 ap2 ho ho1 hg1 k1 k2 hs3
  go_loopw [3] (fun s wr => ∃ j n : Nat, j ≤ zN b.length ∧ Hid (n = b.length + 1 + j) ∧ wr.ownsRow w.heap.size 5 1 s n (bv (pad0 b j)) ∧ Kept (fun _ => False) w wr) (fun s wr => b.length + 65 - (match s with | .slice _ n _ => n | _ => 0))
  case atStart => exact ⟨0, b.length + 1, by omega, rfl, ho2, k3⟩
  case round =>
    clear ho2 k3
    obtain ⟨j, n, hj, HN, ho, hk⟩ := hrel
    obtain ⟨a, c, rfl⟩ := row_form ho
    have hnn := HN.out
    have hz := zN_at hj
    rw [← hnn] at hz
    have hnb : n ≤ 600000 := by omega
    by_cases hlt : j < zN b.length
    · have hm : ¬ n % 64 = 56 := by omega
      have hmi : ((n : Int) % 64 != 56) = true := by simp; omega
      obtain ⟨a1, c1, W1, W2, bs, ap, ho2, k2, hs2⟩ := push1 ho 0 (m := 0) rfl (by omega) hk (Nat.le_refl _) hk.size 32
      rw [pad0_succ] at ho2
      have HN2 : Hid (n + 1 = b.length + 1 + (j + 1)) := by unfold Hid; omega
      have hnz : b.length + 65 - (n + 1) < b.length + 65 - n := by omega
      have HZ := Lib.hid hnz
      clear hz hm hnn ho hk hnz
      go_wp2_with (first
        | (with_reducible refine wpl_bslice 32 _ _ rfl rfl ?_ bs ?_
           · (go_simp <;> rfl)
           simp only [Act.put, List.getElem_toArray, List.getElem_cons_zero, List.getElem_cons_succ, List.setIfInBounds_toArray, List.set_cons_zero, List.set_cons_succ])
        | (refine wpl_val rfl (exec_append 32 _ _ rfl rfl rfl ap) ?_))
      go_roundw
      case rel => exact ⟨j + 1, n + 1, by omega, HN2, ho2, k2⟩
      case measure => exact HZ.out
    · obtain rfl : j = zN b.length := by omega
      have hm : n % 64 = 56 := by omega
      have hmi : ((n : Int) % 64 != 56) = false := by simp; omega
      obtain ⟨m, hmm⟩ : ∃ m, m = b.length * 8 := ⟨_, rfl⟩
      have wm : IntKind.u64.wrap ((b.length : Int) * 8) = (m : Int) := by rw [IntWalk.u64_in _ (by omega)]; omega
      have hml : m ≤ 4000000 := by omega
      have hpl : padL b = pad0 b (zN b.length) ++ be8 m := by rw [hmm]; rfl
      have hml' : (b.length : Int) * 8 = (m : Int) := by omega
      have HP := Lib.hid hpl
      clear hz hm hnn hmm hpl
      go_wp2_with fail
      clear hml hml' wm
      go_loopw [3, 5] (fun s x wr => ∃ k : Nat, k ≤ 8 ∧ x = .int .i64 (7 - (k : Int)) ∧ (∃ n' : Nat, n' = n + k ∧ wr.ownsRow w.heap.size 5 1 s n' (bv (pad0 b (zN b.length) ++ (be8 m).take k))) ∧ Kept (fun _ => False) w wr) (fun _ x _ => (intOf x + 1).toNat)
      case atStart => exact ⟨0, by omega, rfl, ⟨n, rfl, by simpa using ho⟩, hk⟩
      case round =>
        clear hk ho
        obtain ⟨k, hk8, rfl, ⟨n', rfl, ho⟩, hk⟩ := hrel
        obtain ⟨a, c, rfl⟩ := row_form ho
        have hi9 : k = 0 ∨ k = 1 ∨ k = 2 ∨ k = 3 ∨ k = 4 ∨ k = 5 ∨ k = 6 ∨ k = 7 ∨ k = 8 := by omega
        rcases hi9 with rfl | rfl | rfl | rfl | rfl | rfl | rfl | rfl | rfl
        · have hk8 : (be8 m).take (0 + 1) = (be8 m).take 0 ++ [UInt8.ofNat (m / 72057594037927936)] := rfl
          rw [show (7 - ((0 : Nat) : Int)) = 7 from rfl]
          obtain ⟨a1, c1, W1, W2, bs, ap, ho2, k2, hs2⟩ := push1 ho (UInt8.ofNat (m / 72057594037927936)) (m := (m : Int) / 72057594037927936 % 256) (by rw [u8of]; omega) (by omega) hk (Nat.le_refl _) hk.size 32
          rw [List.append_assoc, ← hk8] at ho2
          have HO := Lib.hid ho2
          clear ho2 hk8 ho hk
          go_wp2_with (first
            | (with_reducible refine wpl_bslice 32 _ _ rfl rfl ?_ bs ?_
               · (go_simp <;> rfl)
               simp only [Act.put, List.getElem_toArray, List.getElem_cons_zero, List.getElem_cons_succ, List.setIfInBounds_toArray, List.set_cons_zero, List.set_cons_succ])
            | (refine wpl_val rfl (exec_append 32 _ _ rfl rfl rfl ap) ?_))
          go_roundw
          case rel => exact ⟨0 + 1, by omega, rfl, ⟨n + 0 + 1, rfl, HO.out⟩, k2⟩
          case measure => simp [intOf]
        · have hk8 : (be8 m).take (1 + 1) = (be8 m).take 1 ++ [UInt8.ofNat (m / 281474976710656)] := rfl
          rw [show (7 - ((1 : Nat) : Int)) = 6 from rfl]
          obtain ⟨a1, c1, W1, W2, bs, ap, ho2, k2, hs2⟩ := push1 ho (UInt8.ofNat (m / 281474976710656)) (m := (m : Int) / 281474976710656 % 256) (by rw [u8of]; omega) (by omega) hk (Nat.le_refl _) hk.size 32
          rw [List.append_assoc, ← hk8] at ho2
          have HO := Lib.hid ho2
          clear ho2 hk8 ho hk
          go_wp2_with (first
            | (with_reducible refine wpl_bslice 32 _ _ rfl rfl ?_ bs ?_
               · (go_simp <;> rfl)
               simp only [Act.put, List.getElem_toArray, List.getElem_cons_zero, List.getElem_cons_succ, List.setIfInBounds_toArray, List.set_cons_zero, List.set_cons_succ])
            | (refine wpl_val rfl (exec_append 32 _ _ rfl rfl rfl ap) ?_))
          go_roundw
          case rel => exact ⟨1 + 1, by omega, rfl, ⟨n + 1 + 1, rfl, HO.out⟩, k2⟩
          case measure => simp [intOf]
        · have hk8 : (be8 m).take (2 + 1) = (be8 m).take 2 ++ [UInt8.ofNat (m / 1099511627776)] := rfl
          rw [show (7 - ((2 : Nat) : Int)) = 5 from rfl]
          obtain ⟨a1, c1, W1, W2, bs, ap, ho2, k2, hs2⟩ := push1 ho (UInt8.ofNat (m / 1099511627776)) (m := (m : Int) / 1099511627776 % 256) (by rw [u8of]; omega) (by omega) hk (Nat.le_refl _) hk.size 32
          rw [List.append_assoc, ← hk8] at ho2
          have HO := Lib.hid ho2
          clear ho2 hk8 ho hk
          go_wp2_with (first
            | (with_reducible refine wpl_bslice 32 _ _ rfl rfl ?_ bs ?_
               · (go_simp <;> rfl)
               simp only [Act.put, List.getElem_toArray, List.getElem_cons_zero, List.getElem_cons_succ, List.setIfInBounds_toArray, List.set_cons_zero, List.set_cons_succ])
            | (refine wpl_val rfl (exec_append 32 _ _ rfl rfl rfl ap) ?_))
          go_roundw
          case rel => exact ⟨2 + 1, by omega, rfl, ⟨n + 2 + 1, rfl, HO.out⟩, k2⟩
          case measure => simp [intOf]
        · have hk8 : (be8 m).take (3 + 1) = (be8 m).take 3 ++ [UInt8.ofNat (m / 4294967296)] := rfl
          rw [show (7 - ((3 : Nat) : Int)) = 4 from rfl]
          obtain ⟨a1, c1, W1, W2, bs, ap, ho2, k2, hs2⟩ := push1 ho (UInt8.ofNat (m / 4294967296)) (m := (m : Int) / 4294967296 % 256) (by rw [u8of]; omega) (by omega) hk (Nat.le_refl _) hk.size 32
          rw [List.append_assoc, ← hk8] at ho2
          have HO := Lib.hid ho2
          clear ho2 hk8 ho hk
          go_wp2_with (first
            | (with_reducible refine wpl_bslice 32 _ _ rfl rfl ?_ bs ?_
               · (go_simp <;> rfl)
               simp only [Act.put, List.getElem_toArray, List.getElem_cons_zero, List.getElem_cons_succ, List.setIfInBounds_toArray, List.set_cons_zero, List.set_cons_succ])
            | (refine wpl_val rfl (exec_append 32 _ _ rfl rfl rfl ap) ?_))
          go_roundw
          case rel => exact ⟨3 + 1, by omega, rfl, ⟨n + 3 + 1, rfl, HO.out⟩, k2⟩
          case measure => simp [intOf]
        · have hk8 : (be8 m).take (4 + 1) = (be8 m).take 4 ++ [UInt8.ofNat (m / 16777216)] := rfl
          rw [show (7 - ((4 : Nat) : Int)) = 3 from rfl]
          obtain ⟨a1, c1, W1, W2, bs, ap, ho2, k2, hs2⟩ := push1 ho (UInt8.ofNat (m / 16777216)) (m := (m : Int) / 16777216 % 256) (by rw [u8of]; omega) (by omega) hk (Nat.le_refl _) hk.size 32
          rw [List.append_assoc, ← hk8] at ho2
          have HO := Lib.hid ho2
          clear ho2 hk8 ho hk
          go_wp2_with (first
            | (with_reducible refine wpl_bslice 32 _ _ rfl rfl ?_ bs ?_
               · (go_simp <;> rfl)
               simp only [Act.put, List.getElem_toArray, List.getElem_cons_zero, List.getElem_cons_succ, List.setIfInBounds_toArray, List.set_cons_zero, List.set_cons_succ])
            | (refine wpl_val rfl (exec_append 32 _ _ rfl rfl rfl ap) ?_))
          go_roundw
          case rel => exact ⟨4 + 1, by omega, rfl, ⟨n + 4 + 1, rfl, HO.out⟩, k2⟩
          case measure => simp [intOf]
        · have hk8 : (be8 m).take (5 + 1) = (be8 m).take 5 ++ [UInt8.ofNat (m / 65536)] := rfl
          rw [show (7 - ((5 : Nat) : Int)) = 2 from rfl]
          obtain ⟨a1, c1, W1, W2, bs, ap, ho2, k2, hs2⟩ := push1 ho (UInt8.ofNat (m / 65536)) (m := (m : Int) / 65536 % 256) (by rw [u8of]; omega) (by omega) hk (Nat.le_refl _) hk.size 32
          rw [List.append_assoc, ← hk8] at ho2
          have HO := Lib.hid ho2
          clear ho2 hk8 ho hk
          go_wp2_with (first
            | (with_reducible refine wpl_bslice 32 _ _ rfl rfl ?_ bs ?_
               · (go_simp <;> rfl)
               simp only [Act.put, List.getElem_toArray, List.getElem_cons_zero, List.getElem_cons_succ, List.setIfInBounds_toArray, List.set_cons_zero, List.set_cons_succ])
            | (refine wpl_val rfl (exec_append 32 _ _ rfl rfl rfl ap) ?_))
          go_roundw
          case rel => exact ⟨5 + 1, by omega, rfl, ⟨n + 5 + 1, rfl, HO.out⟩, k2⟩
          case measure => simp [intOf]
        · have hk8 : (be8 m).take (6 + 1) = (be8 m).take 6 ++ [UInt8.ofNat (m / 256)] := rfl
          rw [show (7 - ((6 : Nat) : Int)) = 1 from rfl]
          obtain ⟨a1, c1, W1, W2, bs, ap, ho2, k2, hs2⟩ := push1 ho (UInt8.ofNat (m / 256)) (m := (m : Int) / 256 % 256) (by rw [u8of]; omega) (by omega) hk (Nat.le_refl _) hk.size 32
          rw [List.append_assoc, ← hk8] at ho2
          have HO := Lib.hid ho2
          clear ho2 hk8 ho hk
          go_wp2_with (first
            | (with_reducible refine wpl_bslice 32 _ _ rfl rfl ?_ bs ?_
               · (go_simp <;> rfl)
               simp only [Act.put, List.getElem_toArray, List.getElem_cons_zero, List.getElem_cons_succ, List.setIfInBounds_toArray, List.set_cons_zero, List.set_cons_succ])
            | (refine wpl_val rfl (exec_append 32 _ _ rfl rfl rfl ap) ?_))
          go_roundw
          case rel => exact ⟨6 + 1, by omega, rfl, ⟨n + 6 + 1, rfl, HO.out⟩, k2⟩
          case measure => simp [intOf]
        · have hk8 : (be8 m).take (7 + 1) = (be8 m).take 7 ++ [UInt8.ofNat (m / 1)] := rfl
          rw [show (7 - ((7 : Nat) : Int)) = 0 from rfl]
          obtain ⟨a1, c1, W1, W2, bs, ap, ho2, k2, hs2⟩ := push1 ho (UInt8.ofNat (m / 1)) (m := (m : Int) / 1 % 256) (by rw [u8of]; omega) (by omega) hk (Nat.le_refl _) hk.size 32
          rw [List.append_assoc, ← hk8] at ho2
          have HO := Lib.hid ho2
          clear ho2 hk8 ho hk
          go_wp2_with (first
            | (with_reducible refine wpl_bslice 32 _ _ rfl rfl ?_ bs ?_
               · (go_simp <;> rfl)
               simp only [Act.put, List.getElem_toArray, List.getElem_cons_zero, List.getElem_cons_succ, List.setIfInBounds_toArray, List.set_cons_zero, List.set_cons_succ])
            | (refine wpl_val rfl (exec_append 32 _ _ rfl rfl rfl ap) ?_))
          go_roundw
          case rel => exact ⟨7 + 1, by omega, rfl, ⟨n + 7 + 1, rfl, HO.out⟩, k2⟩
          case measure => simp [intOf]
        · rw [show (7 - ((8 : Nat) : Int)) = -1 from rfl]
          have hf : (be8 m).take 8 = be8 m := List.take_of_length_le (Nat.le_of_eq (be8_len m))
          rw [hf, ← HP.out] at ho
          have hlen : n + 8 = (padL b).length := by rw [padL_len]; have := HN.out; omega
          have HF := Lib.hid (show w.heap.size = w.heap.size ∧ wr.ownsRow w.heap.size 5 1 (.slice a (n + 8) c) (padL b).length (bv (padL b)) from ⟨rfl, by rw [← hlen]; exact ho⟩)
          clear ho hf hlen
          go_wp2_with fail
          go_ret
          exact ⟨_, rfl, HF.out.2, hk⟩
