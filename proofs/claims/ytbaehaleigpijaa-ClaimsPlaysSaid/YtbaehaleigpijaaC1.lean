/- Live. -/
import Derived.Test.YtbaehaleigpijaaC0
namespace Go.Proofs.Ytbaehaleigpijaa
open Go.RowKit
set_option linter.unusedSimpArgs false
set_option linter.unusedVariables false

/-- Is node n's lease of a key live? -/
def alive (U : Value → Option Int) (D : Array Value) (now : Int) (n : Nat) : Bool := match U (plc D n) with | some u => decide (now < u) | none => false
/-- The first live lease from n on, of f nodes. -/
def liveFrom (U : Value → Option Int) (D : Array Value) (now : Int) : Nat → Nat → Option Nat
  | 0, _ => none
  | f + 1, n => if alive U D now n then some n else liveFrom U D now f (n + 1)
def live (U : Value → Option Int) (D : Array Value) (now : Int) : Option Nat := liveFrom U D now 16 0
theorem liveFrom_yes {U : Value → Option Int} {D : Array Value} {now : Int} : ∀ (f n k : Nat), n ≤ k → k < n + f → (∀ j, n ≤ j → j < k → alive U D now j = false) → alive U D now k = true → liveFrom U D now f n = some k
  | 0, n, k, h1, h2, _, _ => by omega
  | f + 1, n, k, h1, h2, h3, h4 => by
    unfold liveFrom
    by_cases e : n = k
    · subst e; simp [h4]
    · rw [if_neg (by rw [h3 n (Nat.le_refl _) (by omega)]; simp)]
      exact liveFrom_yes f (n + 1) k (by omega) (by omega) (fun j hj => h3 j (by omega)) h4
theorem liveFrom_no {U : Value → Option Int} {D : Array Value} {now : Int} : ∀ (f n : Nat), (∀ j, n ≤ j → j < n + f → alive U D now j = false) → liveFrom U D now f n = none
  | 0, _, _ => rfl
  | f + 1, n, h3 => by
    unfold liveFrom
    rw [if_neg (by rw [h3 n (Nat.le_refl _) (by omega)]; simp)]
    exact liveFrom_no f (n + 1) (fun j hj hj' => h3 j (by omega) (by omega))
/-- What Live answers. -/
def liveV (o : Option Nat) : Value := .tuple #[.int .i64 ((o.getD 0 : Nat) : Int), .bool o.isSome]

theorem zeroE (w : World) : (zeroValue 3).run Try.prog w = .ok (.int .i64 0) w := by kernel_rfl
set_option maxHeartbeats 1000000 in
theorem live_any {B m1 m3 : Nat} {D : Array Value} (hD : IsDig D) (U : Value → Option Int) (now : Int) (w : World) (h5 : w.cell? ⟨B, 5, none⟩ = some (.map (some m1))) (h7 : w.cell? ⟨B, 7, none⟩ = some (.map (some m3)))
    (hU : MapIs Try.prog 68 w m3 (fun x => (U x).map (Value.int .i64))) :
    Calls Try.prog 18 #[.pointer (some ⟨B, 0, none⟩), .agg D, .int .i64 now] w fun e w' => e = .returned (liveV (live U D now)) ∧ Kept (fun _ => False) w w' := by
  have hB5 : B < w.heap.size := World.block_lt_of_cell? w _ h5
  have hl5 : ∀ o, (w.alloc o).cell? ⟨B, 5, none⟩ = some (.map (some m1)) := fun o => by rw [World.cell?_alloc_lt _ _ _ hB5]; exact h5
  have hl7 : ∀ o, (w.alloc o).cell? ⟨B, 7, none⟩ = some (.map (some m3)) := fun o => by rw [World.cell?_alloc_lt _ _ _ hB5]; exact h7
  have hb := build_plc hD
  go_enter Try.func18, Try.ntmps18
  go_wp2_with fail
  refine (none_some B m1 _ (hl5 _)).mono ?_
  rintro e w' ⟨rfl, rfl⟩
  go_wp2_with fail
  go_loopw [13] (fun n wr => ∃ k : Nat, k ≤ 16 ∧ n = .int .i64 k ∧ Drawn (w.alloc (.cells D 31)) wr ∧ ∀ j, j < k → alive U D now j = false) (fun n _ => 16 - (intOf n).toNat)
  case atStart => exact ⟨0, by omega, rfl, Drawn.refl _, by intro j hj; omega⟩
  case round =>
    obtain ⟨k, hk, rfl, hdr, hno⟩ := hrel
    have g7 : wr.cell? ⟨B, 7, none⟩ = some (.map (some m3)) := by rw [hdr.cell]; exact hl7 _
    have hld : ∀ q, (Instr.loadAt 31 (.pointer (some ⟨w.heap.size, 0, none⟩))).run Try.prog (wr.drewN q) = .ok (.agg D) (wr.drewN q) := fun q => load_dig hD (by rw [(hdr.drewN q).heap]; exact heap_last w _)
    by_cases hlt : k < 16
    · obtain ⟨uv, has, hlk, hal⟩ : ∃ (uv : Int) (has : Bool), (∀ q, (Instr.lookup 57 (.map (some m3)) (plc D k) true).run Try.prog (wr.drewN q) = .ok (.tuple #[.int .i64 uv, .bool has]) (wr.drewN q)) ∧ alive U D now k = (has && decide (now < uv)) := by
        refine ⟨(U (plc D k)).getD 0, (U (plc D k)).isSome, fun q => ?_, ?_⟩
        · obtain ⟨l, hl⟩ := hD.place (n := (k : Int)) (WalkArith.wf_i64 (by omega))
          have h := MapIs.look lawP Try.underlying57 (w := wr.drewN q) (hU.of_block (by rw [(hdr.drewN q).heap]; exact Below.heap_alloc _ _ _ hU.lt)) (zeroE _) hl true
          rw [h]
          cases U (plc D k) <;> rfl
        · unfold alive; cases U (plc D k) <;> simp
      have HA := Lib.hid hal
      clear hal
      cases has with
      | false =>
        go_wp2_with fail
        refine wp_region_quiet_lit (by kernel_rfl) (by kernel_rfl) ?_
        repeat (first
          | go_big_quiet_skip
          | (go_big_quiet_want
             first
               | (with_reducible refine quiet_load 31 _ rfl _ ?_ hld ?_
                  · rfl
                  go_simp
                  go_big_quiet_on)
               | (with_reducible refine quiet_build 68 _ rfl _ ?_ (hb k) ?_
                  · (go_simp <;> rfl)
                  go_simp
                  go_big_quiet_on)
               | (with_reducible refine quiet_lookup 57 _ _ _ rfl _ _ ?_ ?_ hlk ?_
                  · rfl
                  · rfl
                  go_simp
                  go_big_quiet_on)
               | (go_big_quiet_op; go_big_quiet_on)))
        refine wpQuiet_nil ?_
        intro _ hw'
        obtain ⟨nq, hw''⟩ := hw'
        subst hw''
        go_wp2_with fail
        go_roundw
        case rel => exact ⟨k + 1, by omega, by go_num, hdr.drewN _, fun j hj => by rcases Nat.lt_succ_iff_lt_or_eq.1 hj with h | h; exact hno j h; subst h; exact HA.out⟩
        case measure => simp [intOf]; omega
      | true =>
        by_cases hlu : now < uv
        · go_wp2_with fail
          refine wp_region_quiet_lit (by kernel_rfl) (by kernel_rfl) ?_
          repeat (first
            | go_big_quiet_skip
            | (go_big_quiet_want
               first
                 | (with_reducible refine quiet_load 31 _ rfl _ ?_ hld ?_
                    · rfl
                    go_simp
                    go_big_quiet_on)
                 | (with_reducible refine quiet_build 68 _ rfl _ ?_ (hb k) ?_
                    · (go_simp <;> rfl)
                    go_simp
                    go_big_quiet_on)
                 | (with_reducible refine quiet_lookup 57 _ _ _ rfl _ _ ?_ ?_ hlk ?_
                    · rfl
                    · rfl
                    go_simp
                    go_big_quiet_on)
                 | (go_big_quiet_op; go_big_quiet_on)))
          refine wpQuiet_nil ?_
          intro _ hw'
          obtain ⟨nq, hw''⟩ := hw'
          subst hw''
          go_wp2_with fail
          go_ret2
          refine ⟨?_, ?_⟩
          · have e : live U D now = some k := liveFrom_yes 16 0 k (by omega) (by omega) (fun j _ hj => hno j hj) (by rw [HA.out]; simpa using hlu)
            rw [e]; rfl
          · exact ((Kept.refl _ w).alloc _).trans (hdr.drewN _).kept
        · go_wp2_with fail
          refine wp_region_quiet_lit (by kernel_rfl) (by kernel_rfl) ?_
          repeat (first
            | go_big_quiet_skip
            | (go_big_quiet_want
               first
                 | (with_reducible refine quiet_load 31 _ rfl _ ?_ hld ?_
                    · rfl
                    go_simp
                    go_big_quiet_on)
                 | (with_reducible refine quiet_build 68 _ rfl _ ?_ (hb k) ?_
                    · (go_simp <;> rfl)
                    go_simp
                    go_big_quiet_on)
                 | (with_reducible refine quiet_lookup 57 _ _ _ rfl _ _ ?_ ?_ hlk ?_
                    · rfl
                    · rfl
                    go_simp
                    go_big_quiet_on)
                 | (go_big_quiet_op; go_big_quiet_on)))
          refine wpQuiet_nil ?_
          intro _ hw'
          obtain ⟨nq, hw''⟩ := hw'
          subst hw''
          go_wp2_with fail
          go_roundw
          case rel => exact ⟨k + 1, by omega, by go_num, hdr.drewN _, fun j hj => by rcases Nat.lt_succ_iff_lt_or_eq.1 hj with h | h; exact hno j h; subst h; rw [HA.out]; simpa using hlu⟩
          case measure => simp [intOf]; omega
    · have hk16 : 16 ≤ k := by omega
      go_wp2_with fail
      go_ret2
      refine ⟨?_, ?_⟩
      · have e : live U D now = none := liveFrom_no 16 0 (fun j _ hj => hno j (by omega))
        rw [e]; rfl
      · exact ((Kept.refl _ w).alloc _).trans hdr.kept
end Go.Proofs.Ytbaehaleigpijaa
