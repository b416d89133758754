/- The known case. -/
import Derived.Test.YtbaehaleigpijaaD0
namespace Go.Proofs.Ytbaehaleigpijaa
open Go.RowKit
set_option linter.unusedSimpArgs false
set_option linter.unusedVariables false

def dig (n : Int) : Array Value := #[.int .u8 n, .int .u8 0, .int .u8 0, .int .u8 0, .int .u8 0, .int .u8 0, .int .u8 0, .int .u8 0, .int .u8 0, .int .u8 0, .int .u8 0, .int .u8 0, .int .u8 0, .int .u8 0, .int .u8 0, .int .u8 0, .int .u8 0, .int .u8 0, .int .u8 0, .int .u8 0, .int .u8 0, .int .u8 0, .int .u8 0, .int .u8 0, .int .u8 0, .int .u8 0, .int .u8 0, .int .u8 0, .int .u8 0, .int .u8 0, .int .u8 0, .int .u8 0]
theorem dig_is {n : Int} (h : 0 ≤ n ∧ n < 256) : IsDig (dig n) := ⟨n :: List.replicate 31 0, rfl, by intro x hx; simp at hx; rcases hx with rfl | rfl; exact h; omega, rfl⟩
theorem build_dig (n : Int) (w : World) : (Instr.build 31 #[(0, .int .u8 n)]).run Try.prog w = .ok (.agg (dig n)) w := by kernel_rfl
def Z32 : Array Value := dig 0
theorem zeroDig (w : World) : (zeroValue 31).run Try.prog w = .ok (.agg Z32) w := by kernel_rfl
theorem build_clm3 (d n c : Int) (w : World) : (Instr.build 33 #[(0, .agg (dig d)), (1, .int .i64 n), (3, .int .u64 c)]).run Try.prog w = .ok (.agg (clm (dig d) n 0 c false)) w := by kernel_rfl
theorem plc_inj {D D' : Array Value} {n m : Int} (h : plc D n = plc D' m) : D = D' ∧ n = m := by
  injection h with h
  have h2 : (D ++ #[Value.int .i64 n]).toList = (D' ++ #[Value.int .i64 m]).toList := by rw [h]
  simp only [Array.toList_append] at h2
  obtain ⟨e1, e2⟩ := List.append_inj' h2 rfl
  refine ⟨Array.ext' e1, ?_⟩
  injection e2 with e3
  injection e3
theorem live_none {U : Value → Option Int} {D : Array Value} {now : Int} (h : ∀ n : Nat, n < 16 → alive U D now n = false) : live U D now = none := liveFrom_no 16 0 (fun j _ hj => h j (by omega))
theorem live_some {U : Value → Option Int} {D : Array Value} {now : Int} (k : Nat) (hk : k < 16) (h : ∀ n : Nat, n < k → alive U D now n = false) (hy : alive U D now k = true) : live U D now = some k := liveFrom_yes 16 0 k (by omega) (by omega) (fun j _ hj => h j hj) hy

def s0 : St := new0 3 7 5 20
theorem known1 : tryF s0 (dig 1) 0 = (some (clm (dig 1) 3 7 1 false), false, { s0 with count := 1, O := upd s0.O (.agg (dig 1)) (some (1, 0)) }) := by
  unfold tryF
  rw [show live s0.U (dig 1) 0 = none from live_none (fun n _ => rfl)]
  rfl
noncomputable def s1 : St := { s0 with count := 1, O := upd s0.O (.agg (dig 1)) (some (1, 0)) }
noncomputable def s2 : St := { s1 with L := upd s1.L (plc (dig 1) 1) (some (0, 1)), U := upd s1.U (plc (dig 1) 1) (some 23), O := upd s1.O (.agg (dig 1)) none }
theorem known2 : hearF s1 (dig 1) 1 0 1 false 3 = (some (clm (dig 1) 3 7 1 true), 0, s2) := by
  unfold hearF
  rw [if_neg (by simp [Fine, s1, s0, new0]), if_neg (by simp [oldB, s1, s0, new0]), if_neg (by simp)]
  rw [show s1.O (.agg (dig 1)) = some (1, 0) from upd_same _ _ _]
  dsimp only
  rw [if_pos (by simp [s1, s0, new0])]
  rfl
theorem alive2 (now : Int) (n : Nat) : alive s2.U (dig 1) now n = (decide (n = 1) && decide (now < 23)) := by
  unfold alive
  by_cases h : n = 1
  · subst h; rw [show s2.U (plc (dig 1) ((1 : Nat) : Int)) = some 23 from upd_same _ _ _]; simp
  · rw [show s2.U (plc (dig 1) (n : Int)) = none from (upd_other _ _ _ (fun e => h (by have := (plc_inj e).2; omega)))]; simp [h]
theorem known3 : tryF s2 (dig 1) 22 = (none, false, s2) := by
  unfold tryF
  rw [live_some 1 (by omega) (fun n hn => by rw [alive2]; simp; omega) (by rw [alive2]; rfl)]
noncomputable def s3 : St := { s2 with count := 2, O := upd s2.O (.agg (dig 1)) (some (2, 23)) }
theorem known4 : tryF s2 (dig 1) 23 = (some (clm (dig 1) 3 7 2 false), false, s3) := by
  unfold tryF
  rw [live_none (fun n hn => by rw [alive2]; simp)]
  rw [show s2.O (.agg (dig 1)) = none from upd_same _ _ _]
  rfl
theorem known5 : (tryF s3 (dig 1) 28).1 = none ∧ (tryF s3 (dig 1) 28).2.1 = true := by
  unfold tryF
  rw [show live s3.U (dig 1) 28 = none from live_none (fun n hn => by show alive s2.U (dig 1) 28 n = false; rw [alive2]; simp)]
  rw [show s3.O (.agg (dig 1)) = some (2, 23) from upd_same _ _ _]
  exact ⟨rfl, by simp [s3, s2, s1, s0, new0]⟩

theorem BkS.lt {w : World} {p : Pl} {s : St} (h : BkS w p s) : ∀ k, p.S k → k < w.heap.size := fun k hk => by
  rcases hk with rfl | rfl | rfl | rfl
  · exact Bk.lt h
  · exact MapIs.lt (Bk.o h)
  · exact MapIs.lt (Bk.l h)
  · exact MapIs.lt (Bk.u h)
end Go.Proofs.Ytbaehaleigpijaa
