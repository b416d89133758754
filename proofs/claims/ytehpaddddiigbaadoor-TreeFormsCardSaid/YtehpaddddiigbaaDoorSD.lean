/- The document's digits. -/
import Derived.Test.YtehpaddddiigbaaDoorSC
namespace Go.Proofs.YtehpaddddiigbaaDoor
open Go.RowKit
set_option maxRecDepth 100000
set_option linter.unusedSimpArgs false
set_option linter.unusedVariables false

theorem digL_snoc : ∀ f n, digL (f + 1) n = digL f n ++ [n / BB ^ f % BB]
  | 0, n => by simp [digL]
  | f + 1, n => by
    show n % BB :: digL (f + 1) (n / BB) = n % BB :: digL f (n / BB) ++ _
    rw [digL_snoc f (n / BB), Nat.div_div_eq_div_mul, Nat.pow_succ, Nat.mul_comm BB]
    rfl
theorem dig_set {k n : Nat} (hk : k < 10) : (digL k n ++ List.replicate (10 - k) 0).set k (n / BB ^ k % BB) = digL (k + 1) n ++ List.replicate (10 - (k + 1)) 0 := by
  rw [List.set_append_right _ _ (by rw [digL_len]; omega), digL_len, Nat.sub_self, digL_snoc, show 10 - k = (10 - (k + 1)) + 1 by omega, List.replicate_succ, List.set_cons_zero, List.append_assoc]
  rfl
set_option maxHeartbeats 4000000 in
theorem digits_ct (n : Nat) (hn : n < 18446744073709551616) (w : World) :
    Calls Tryd.prog 66 #[.int .u64 n] w fun e w' => e = .returned ((Value.agg (List.toArray (kv .u64 (digL 4 n ++ [0, 0, 0, 0, 0, 0]))))) ∧ Kept (fun _ => False) w w' := by
  have z10' := zeroU10
  go_enter Tryd.func66, Tryd.ntmps66
  go_wp2_with (first
    | (with_reducible refine wpl_alloc 95 rfl rfl (z10' _) ?_
       simp only [World.size_alloc, Act.put, List.getElem_toArray, List.getElem_cons_zero, List.getElem_cons_succ, List.setIfInBounds_toArray, List.set_cons_zero, List.set_cons_succ]))
  have hs1 : (w.alloc (.cells (kv .u64 z10).toArray 95)).heap.size = w.heap.size + 1 := World.size_alloc _ _
  have h0 : Arr (w.alloc (.cells (kv .u64 z10).toArray 95)) w.heap.size 95 .u64 z10 := Arr.new rfl
  have k1 : Kept (fun _ => False) w (w.alloc (.cells (kv .u64 z10).toArray 95)) := (Kept.refl _ w).alloc _
  generalize w.alloc (.cells (kv .u64 z10).toArray 95) = W1 at h0 k1 hs1 ⊢
  have h2 : Arr (W1.alloc (.cells (kv .u64 z10).toArray 95)) W1.heap.size 95 .u64 z10 := Arr.new rfl
  have k2 : Kept (fun _ => False) W1 (W1.alloc (.cells (kv .u64 z10).toArray 95)) := (Kept.refl _ W1).alloc _
  have h1 := h0.stay k2 not_false
  have k12 := k1.trans k2
  generalize W1.alloc (.cells (kv .u64 z10).toArray 95) = W2 at h1 h2 k12 ⊢
  have hX : w.heap.size ≤ w.heap.size := Nat.le_refl _
  rw [hs1] at h2
  try rw [hs1]
  generalize hXe : w.heap.size = X at h1 h2 hX ⊢
  clear k1 k2 h0 hs1
  go_loopw [0, 4] (fun y x wr => ∃ k m : Nat, k ≤ 4 ∧ x = .int .i64 k ∧ y = .int .u64 m ∧ Hid (m = n / BB ^ k) ∧ m ≤ n ∧ Arr wr X 95 .u64 z10 ∧ Arr wr (X + 1) 95 .u64 (digL k n ++ List.replicate (10 - k) 0) ∧ Kept (fun _ => False) w wr) (fun _ x _ => 4 - (intOf x).toNat)
  case atStart => exact ⟨0, n, by omega, rfl, rfl, (by unfold Hid; simp), by omega, h1, h2, k12⟩
  case round =>
    obtain ⟨k, m, hk, rfl, rfl, HM, hmn, hr0, hr1, hkr⟩ := hrel
    by_cases hlt : k < 4
    · have hi4 : (k : Int) < 4 := by omega
      have hf := hr1.frozen k
      have hc := hr1.cell (j := k) (by rw [List.length_append, digL_len, List.length_replicate]; omega)
      have hs := hr1.set k (m % BB)
      rw [HM.out, dig_set (by omega), ← HM.out] at hs
      have e1 : ((m % BB : Nat) : Int) = (m : Int) % 65536 := by unfold BB; omega
      have e2 : ((m / BB : Nat) : Int) = (m : Int) / 65536 := by unfold BB; omega
      have ks : Kept (fun _ => False) w (wr.setCell ⟨X + 1, k, none⟩ (.int .u64 ((m % BB : Nat) : Int))) := hkr.setCell (p := ⟨X + 1, k, none⟩) (fun h => by have h : X + 1 < w.heap.size := h; omega) _
      have h0s : Arr (wr.setCell ⟨X + 1, k, none⟩ (.int .u64 ((m % BB : Nat) : Int))) X 95 .u64 z10 := hr0.stay (S := fun j => j = X + 1) ((Kept.refl (fun j => j = X + 1) wr).setCell (p := ⟨X + 1, k, none⟩) (fun _ => rfl) _) (by omega)
      have hm2 : Hid (m / BB = n / BB ^ (k + 1)) := by unfold Hid; rw [HM.out, Nat.div_div_eq_div_mul, Nat.pow_succ]
      have hm3 : m / BB ≤ n := Nat.le_trans (Nat.div_le_self _ _) hmn
      have HJ := Lib.hid (And.intro hm3 e2)
      rw [e1] at hs ks h0s
      generalize (digL k n ++ List.replicate (10 - k) 0).getD k 0 = v0 at hc
      clear hr1 hr0 e1 e2 hm3
      go_wp2_with fail
      go_roundw
      case rel => exact ⟨k + 1, m / BB, by omega, by go_num, by rw [HJ.out.2], hm2, HJ.out.1, h0s, hs, ks⟩
      case measure => simp [intOf]; omega
    · obtain rfl : k = 4 := by omega
      have l1 := ldU10 hr1 (by rw [List.length_append, digL_len]; rfl)
      have s1 := stU10 hr0 (m := digL 4 n ++ List.replicate 6 0) rfl (by rw [List.length_append, digL_len]; rfl)
      have p1 := hr0.put (digL 4 n ++ List.replicate 6 0)
      have kp : Kept (fun _ => False) w (wr.setRow X (kv .u64 (digL 4 n ++ List.replicate 6 0)).toArray) := hkr.setRow (fun h => absurd h (by omega)) _
      have l2 : (Instr.loadAt 95 (.pointer (some ⟨X, 0, none⟩))).run Tryd.prog (wr.setRow X (kv .u64 (digL 4 n ++ List.replicate 6 0)).toArray) = .ok ((Value.agg (List.toArray (kv .u64 (digL 4 n ++ List.replicate 6 0))))) (wr.setRow X (kv .u64 (digL 4 n ++ List.replicate 6 0)).toArray) := ldU10 p1 (by rw [List.length_append, digL_len]; rfl)
      rw [show (10 - 4 : Nat) = 6 from rfl] at *
      go_wp2_with (first
        | (with_reducible refine wpl_load 95 _ rfl rfl ?_ l1 ?_
           · rfl
           simp only [Act.put, List.getElem_toArray, List.getElem_cons_zero, List.getElem_cons_succ, List.setIfInBounds_toArray, List.set_cons_zero, List.set_cons_succ])
        | (with_reducible refine wpl_store 95 _ _ rfl rfl ?_ ?_ s1 ?_
           · rfl
           · rfl
           simp only [Act.put, List.getElem_toArray, List.getElem_cons_zero, List.getElem_cons_succ, List.setIfInBounds_toArray, List.set_cons_zero, List.set_cons_succ]))
      refine bodyPost_ret (results_cell_row rfl _ _ _ _ _ _ _ rfl p1 Tryd.underlying95 rfl (by rw [List.size_toArray, kv_len, List.length_append, digL_len]; kernel_rfl)) rfl ?_
      exact ⟨rfl, kp⟩
