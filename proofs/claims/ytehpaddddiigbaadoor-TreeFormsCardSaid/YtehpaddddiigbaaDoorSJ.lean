/- Words turned right: sha.right, ref01.turn. -/
import Derived.Test.YtehpaddddiigbaaDoorSI
namespace Go.Proofs.YtehpaddddiigbaaDoor
open Go.RowKit
set_option maxRecDepth 100000
set_option linter.unusedSimpArgs false
set_option linter.unusedVariables false

theorem rot_or (x : UInt32) (n : Nat) (h0 : 0 < n) (hn : n < 32) : bits .or .u32 ((x.toNat : Int) / 2 ^ n) ((x.toNat : Int) * 2 ^ (32 - n) % 4294967296) = ((rotr x n).toNat : Int) := by
  have e1 : ((x.toNat : Int) / 2 ^ n) = ((x.toNat / 2 ^ n : Nat) : Int) := by rw [Int.natCast_ediv, Int.natCast_pow]; rfl
  have e2 : ((x.toNat : Int) * 2 ^ (32 - n) % 4294967296) = ((x.toNat * 2 ^ (32 - n) % 4294967296 : Nat) : Int) := by
    rw [Int.natCast_emod, Int.natCast_mul, Int.natCast_pow]; rfl
  have h1 : x.toNat / 2 ^ n < 4294967296 := Nat.lt_of_le_of_lt (Nat.div_le_self _ _) (u_lt x)
  rw [e1, e2, u32_or_nat _ _ h1 (Nat.mod_lt _ (by decide)), rotr_nat x n h0 hn]
theorem or_comm32 (a b : Int) : bits .or .u32 a b = bits .or .u32 b a := by
  show IntKind.u32.wrap ((BitVec.ofInt 32 a ||| BitVec.ofInt 32 b).toNat : Int) = IntKind.u32.wrap ((BitVec.ofInt 32 b ||| BitVec.ofInt 32 a).toNat : Int)
  rw [BitVec.or_comm]
theorem rot_amount (n : Nat) (h0 : 0 < n) (hn : n < 32) : bits .and .u64 (IntKind.u64.wrap (-(n : Int))) 31 = ((32 - n : Nat) : Int) := by
  have e : IntKind.u64.wrap (-(n : Int)) = ((18446744073709551616 - n : Nat) : Int) := by rw [IntKind.wrap_u64]; omega
  have e31 : (31 : Int) = ((31 : Nat) : Int) := rfl
  rw [e, e31, u64_and_nat _ _ (by omega) (by omega), nat_mask5]
  omega
set_option maxHeartbeats 1000000 in
theorem right_ct (x : UInt32) (n : Nat) (h0 : 0 < n) (hn : n < 32) (w : World) :
    Calls Tryd.prog 74 #[.int .u32 (x.toNat : Int), .int .i64 (n : Int)] w fun e w' => e = .returned (.int .u32 ((rotr x n).toNat : Int)) ∧ w' = w := by
  have hra := rot_amount n h0 hn
  have hro := rot_or x n h0 hn
  obtain ⟨m, hm⟩ : ∃ m, 32 - n = m := ⟨_, rfl⟩
  rw [hm] at hra hro
  have hm1 : m ≤ 31 := by omega
  have hm0 : 1 ≤ m := by omega
  have hn32 : n = 32 - m := by omega
  rw [or_comm32] at hro
  have HR := Lib.hid hro
  have HN := Lib.hid hn32
  clear hm hro hn32
  go_enter Tryd.func74, Tryd.ntmps74
  go_wp2_with fail
  go_in
  go_wp2_with fail
  go_ret
  exact ⟨by rw [← HR.out, HN.out] <;> rfl, rfl⟩
set_option maxHeartbeats 1000000 in
theorem turn_ct (x : UInt32) (n : Nat) (h0 : 0 < n) (hn : n < 32) (w : World) :
    Calls Tryd.prog 73 #[.int .u32 (x.toNat : Int), .int .u64 (n : Int)] w fun e w' => e = .returned (.int .u32 ((rotr x n).toNat : Int)) ∧ w' = w := by
  have HR := Lib.hid (rot_or x n h0 hn)
  go_enter Tryd.func73, Tryd.ntmps73
  go_wp2_with fail
  go_ret
  exact ⟨by first | rfl | (rw [← HR.out] <;> rfl), rfl⟩
theorem right2 (x : UInt32) (w : World) : Calls Tryd.prog 74 #[.int .u32 (x.toNat : Int), .int .i64 2] w fun e w' => e = .returned (.int .u32 ((rotr x 2).toNat : Int)) ∧ w' = w := right_ct x 2 (by decide) (by decide) w
theorem turn2 (x : UInt32) (w : World) : Calls Tryd.prog 73 #[.int .u32 (x.toNat : Int), .int .u64 2] w fun e w' => e = .returned (.int .u32 ((rotr x 2).toNat : Int)) ∧ w' = w := turn_ct x 2 (by decide) (by decide) w
theorem right6 (x : UInt32) (w : World) : Calls Tryd.prog 74 #[.int .u32 (x.toNat : Int), .int .i64 6] w fun e w' => e = .returned (.int .u32 ((rotr x 6).toNat : Int)) ∧ w' = w := right_ct x 6 (by decide) (by decide) w
theorem turn6 (x : UInt32) (w : World) : Calls Tryd.prog 73 #[.int .u32 (x.toNat : Int), .int .u64 6] w fun e w' => e = .returned (.int .u32 ((rotr x 6).toNat : Int)) ∧ w' = w := turn_ct x 6 (by decide) (by decide) w
theorem right7 (x : UInt32) (w : World) : Calls Tryd.prog 74 #[.int .u32 (x.toNat : Int), .int .i64 7] w fun e w' => e = .returned (.int .u32 ((rotr x 7).toNat : Int)) ∧ w' = w := right_ct x 7 (by decide) (by decide) w
theorem turn7 (x : UInt32) (w : World) : Calls Tryd.prog 73 #[.int .u32 (x.toNat : Int), .int .u64 7] w fun e w' => e = .returned (.int .u32 ((rotr x 7).toNat : Int)) ∧ w' = w := turn_ct x 7 (by decide) (by decide) w
theorem right11 (x : UInt32) (w : World) : Calls Tryd.prog 74 #[.int .u32 (x.toNat : Int), .int .i64 11] w fun e w' => e = .returned (.int .u32 ((rotr x 11).toNat : Int)) ∧ w' = w := right_ct x 11 (by decide) (by decide) w
theorem turn11 (x : UInt32) (w : World) : Calls Tryd.prog 73 #[.int .u32 (x.toNat : Int), .int .u64 11] w fun e w' => e = .returned (.int .u32 ((rotr x 11).toNat : Int)) ∧ w' = w := turn_ct x 11 (by decide) (by decide) w
theorem right13 (x : UInt32) (w : World) : Calls Tryd.prog 74 #[.int .u32 (x.toNat : Int), .int .i64 13] w fun e w' => e = .returned (.int .u32 ((rotr x 13).toNat : Int)) ∧ w' = w := right_ct x 13 (by decide) (by decide) w
theorem turn13 (x : UInt32) (w : World) : Calls Tryd.prog 73 #[.int .u32 (x.toNat : Int), .int .u64 13] w fun e w' => e = .returned (.int .u32 ((rotr x 13).toNat : Int)) ∧ w' = w := turn_ct x 13 (by decide) (by decide) w
theorem right17 (x : UInt32) (w : World) : Calls Tryd.prog 74 #[.int .u32 (x.toNat : Int), .int .i64 17] w fun e w' => e = .returned (.int .u32 ((rotr x 17).toNat : Int)) ∧ w' = w := right_ct x 17 (by decide) (by decide) w
theorem turn17 (x : UInt32) (w : World) : Calls Tryd.prog 73 #[.int .u32 (x.toNat : Int), .int .u64 17] w fun e w' => e = .returned (.int .u32 ((rotr x 17).toNat : Int)) ∧ w' = w := turn_ct x 17 (by decide) (by decide) w
theorem right18 (x : UInt32) (w : World) : Calls Tryd.prog 74 #[.int .u32 (x.toNat : Int), .int .i64 18] w fun e w' => e = .returned (.int .u32 ((rotr x 18).toNat : Int)) ∧ w' = w := right_ct x 18 (by decide) (by decide) w
theorem turn18 (x : UInt32) (w : World) : Calls Tryd.prog 73 #[.int .u32 (x.toNat : Int), .int .u64 18] w fun e w' => e = .returned (.int .u32 ((rotr x 18).toNat : Int)) ∧ w' = w := turn_ct x 18 (by decide) (by decide) w
theorem right19 (x : UInt32) (w : World) : Calls Tryd.prog 74 #[.int .u32 (x.toNat : Int), .int .i64 19] w fun e w' => e = .returned (.int .u32 ((rotr x 19).toNat : Int)) ∧ w' = w := right_ct x 19 (by decide) (by decide) w
theorem turn19 (x : UInt32) (w : World) : Calls Tryd.prog 73 #[.int .u32 (x.toNat : Int), .int .u64 19] w fun e w' => e = .returned (.int .u32 ((rotr x 19).toNat : Int)) ∧ w' = w := turn_ct x 19 (by decide) (by decide) w
theorem right22 (x : UInt32) (w : World) : Calls Tryd.prog 74 #[.int .u32 (x.toNat : Int), .int .i64 22] w fun e w' => e = .returned (.int .u32 ((rotr x 22).toNat : Int)) ∧ w' = w := right_ct x 22 (by decide) (by decide) w
theorem turn22 (x : UInt32) (w : World) : Calls Tryd.prog 73 #[.int .u32 (x.toNat : Int), .int .u64 22] w fun e w' => e = .returned (.int .u32 ((rotr x 22).toNat : Int)) ∧ w' = w := turn_ct x 22 (by decide) (by decide) w
theorem right25 (x : UInt32) (w : World) : Calls Tryd.prog 74 #[.int .u32 (x.toNat : Int), .int .i64 25] w fun e w' => e = .returned (.int .u32 ((rotr x 25).toNat : Int)) ∧ w' = w := right_ct x 25 (by decide) (by decide) w
theorem turn25 (x : UInt32) (w : World) : Calls Tryd.prog 73 #[.int .u32 (x.toNat : Int), .int .u64 25] w fun e w' => e = .returned (.int .u32 ((rotr x 25).toNat : Int)) ∧ w' = w := turn_ct x 25 (by decide) (by decide) w
-- r_lit
