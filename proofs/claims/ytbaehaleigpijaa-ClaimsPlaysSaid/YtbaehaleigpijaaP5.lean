/- The document's New. -/
import Derived.Test.YtbaehaleigpijaaP4
namespace Go.Proofs.Ytbaehaleigpijaa
open Go.RowKit
set_option linter.unusedSimpArgs false
set_option linter.unusedVariables false
variable {b0 : Nat}

def RNew (id inc wait ttl : Int) (r : Bool) (w : World) (e : Ending) (w' : World) : Prop :=
  ∃ R : Nat, e = .returned (.tuple #[.pointer (some ⟨R, 0, none⟩), .bool r]) ∧ w.heap.size ≤ R ∧ Kept (fun _ => False) w w' ∧
    w'.heap[R]? = some (.cells #[.int .i64 id, .int .u64 inc, .int .i64 wait, .int .i64 ttl, .int .u64 0, .slice none 0 0, .slice none 0 0] 50 (0, 0))
theorem RNew.mk {id inc wait ttl : Int} {r : Bool} {w : World} : RNew id inc wait ttl r w (.returned (.tuple #[.pointer (some ⟨w.heap.size, 0, none⟩), .bool r]))
    (w.alloc (.cells #[.int .i64 id, .int .u64 inc, .int .i64 wait, .int .i64 ttl, .int .u64 0, .slice none 0 0, .slice none 0 0] 50)) :=
  ⟨_, rfl, Nat.le_refl _, (Kept.refl _ w).alloc _, heap_last w _⟩
set_option maxHeartbeats 1000000 in
theorem rnew_good (id inc wait ttl : Int) (w : World) (h : NewOk id inc wait ttl) :
    Calls Try.prog 8 #[.int .i64 id, .int .u64 inc, .int .i64 wait, .int .i64 ttl] w (RNew id inc wait ttl true w) := by
  obtain ⟨⟨a1, a2⟩, a3, ⟨a4, a5⟩, a6, a7⟩ := h
  go_enter Try.func8, Try.ntmps8
  go_wp2_with fail
  go_ret2
  exact RNew.mk
set_option maxHeartbeats 1000000 in
theorem rnew_bad (id inc wait ttl : Int) (w : World) (h : ¬ NewOk id inc wait ttl) :
    Calls Try.prog 8 #[.int .i64 id, .int .u64 inc, .int .i64 wait, .int .i64 ttl] w (RNew id inc wait ttl false w) := by
  unfold NewOk at h
  have H := Lib.hid h
  clear h
  by_cases c1 : 0 ≤ id
  · by_cases c2 : id < 16
    · by_cases c3 : inc ≤ 1099511627776
      · by_cases c4 : 0 ≤ wait
        · by_cases c5 : wait ≤ 1000000
          · by_cases c6 : 0 ≤ ttl
            · by_cases c7 : ttl ≤ 1000000
              · exact absurd ⟨⟨c1, c2⟩, c3, ⟨c4, c5⟩, c6, c7⟩ H.out
              · go_enter Try.func8, Try.ntmps8
                go_wp2_with fail
                go_ret2
                exact RNew.mk
            · go_enter Try.func8, Try.ntmps8
              go_wp2_with fail
              go_ret2
              exact RNew.mk
          · go_enter Try.func8, Try.ntmps8
            go_wp2_with fail
            go_ret2
            exact RNew.mk
        · go_enter Try.func8, Try.ntmps8
          go_wp2_with fail
          go_ret2
          exact RNew.mk
      · go_enter Try.func8, Try.ntmps8
        go_wp2_with fail
        go_ret2
        exact RNew.mk
    · go_enter Try.func8, Try.ntmps8
      go_wp2_with fail
      go_ret2
      exact RNew.mk
  · go_enter Try.func8, Try.ntmps8
    go_wp2_with fail
    go_ret2
    exact RNew.mk
theorem rnew_bk {id inc wait ttl : Int} {w' : World} {R : Nat} (hfar : b0 ≤ R) (h : w'.heap[R]? = some (.cells #[.int .i64 id, .int .u64 inc, .int .i64 wait, .int .i64 ttl, .int .u64 0, .slice none 0 0, .slice none 0 0] 50 (0, 0))) :
    RbS b0 w' R (new0 id inc wait ttl) [] [] (.slice none 0 0) (.slice none 0 0) :=
  { blk := h, own := World.ownsRow_nil _ _ _ _, oth := World.ownsRow_nil _ _ _ _, digO := (by intro e he; simp at he), digT := (by intro e he; simp at he), far := hfar }
end Go.Proofs.Ytbaehaleigpijaa
