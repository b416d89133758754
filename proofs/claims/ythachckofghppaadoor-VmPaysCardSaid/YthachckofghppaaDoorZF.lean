/- The texts YX, YY, YZ, ZA, ZB, ZC, ZD, ZE in one. -/
import Derived.Test.YthachckofghppaaDoorYP
import Derived.Test.YthachckofghppaaDoorYR
import Derived.Test.YthachckofghppaaDoorYS
import Derived.Test.YthachckofghppaaDoorYT
import Derived.Test.YthachckofghppaaDoorYU
import Derived.Test.YthachckofghppaaDoorYV
import Derived.Test.YthachckofghppaaDoorYW
import Derived.Test.YthachckofghppaaDoorTC
import Derived.Test.YthachckofghppaaDoorYB
import Derived.Test.YthachckofghppaaDoorTK
import Derived.Test.YthachckofghppaaDoorUE
import Derived.Test.YthachckofghppaaDoorCards
import Derived.Test.YthachckofghppaaDoorTie
import Derived.Deep.DeepHandedRow
import Derived.Lib.LaidU8
import Derived.Lib.LaidU8T
namespace Go.Proofs.YthachckofghppaaDoor
/- vm.step, whatever the instruction; (*vm.run).all. -/
open Go.RowKit
set_option maxRecDepth 100000
set_option linter.unusedSimpArgs false
set_option linter.unusedVariables false

/-- What a Subst comes to, at a world (shown elsewhere). -/
def SubstOk (w : World) (X : Nat) : Prop := ∀ (F : Int) (s : VmS) (x : InsE) (many : Int), RunAt w X F s → x.Fits → oneB x many = true → many ≤ 900 → x.op = 4 → s.pl ≤ 900 → s.us + 1 ≤ F →
  Calls Tryd.prog 18 #[.pointer (some ⟨X, 0, none⟩), .agg (insC x).toArray] w fun e w' => VOut X F (stepV F x s) e w' ∧ Kept (fun k => k = X) w w'
theorem step_ct {w : World} {X : Nat} {F : Int} {s : VmS} (h : RunAt w X F s) {x : InsE} (hx : x.Fits) {many : Int} (hok : oneB x many = true) (hmany : many ≤ 900) (hpl : s.pl ≤ 900) (h4 : x.op = 4 → SubstOk w X) :
    Calls Tryd.prog 18 #[.pointer (some ⟨X, 0, none⟩), .agg (insC x).toArray] w fun e w' => VOut X F (stepV F x s) e w' ∧ Kept (fun k => k = X) w w' := by
  by_cases hle : s.us + 1 ≤ F
  · obtain ⟨o1, o2, _⟩ := one_at hok
    have ho : x.op = 1 ∨ x.op = 2 ∨ x.op = 3 ∨ x.op = 4 ∨ x.op = 5 ∨ x.op = 6 ∨ x.op = 7 ∨ x.op = 8 ∨ x.op = 9 ∨ x.op = 10 ∨ x.op = 11 := by omega
    rcases ho with ho | ho | ho | ho | ho | ho | ho | ho | ho | ho | ho
    · exact step1_ct h hx hok ho hpl hle
    · exact step2_ct h hx hok hmany ho hpl hle
    · exact step3_ct h hx hok hmany ho hpl hle
    · exact h4 ho F s x many h hx hok hmany ho hpl hle
    · exact step5_ct h hx hok hmany ho hpl hle
    · exact step6_ct h hx hok hmany ho hpl hle
    · exact step7_ct h hx hok hmany ho hpl hle
    · exact step8_ct h hx hok hmany ho hpl hle
    · exact step9_ct h hx hok hmany ho hpl hle
    · exact step10_ct h hx hok hmany ho hpl hle
    · exact step11_ct h hx hok hmany ho hpl hle
  · exact step0_ct h x hle
/-- A run's way. -/
def runV (F : Int) (p : List InsE) : Nat → VmS → VR
  | 0, s => .stop 71 s.us
  | g + 1, s => match p[s.pl.toNat]? with
    | none => .go s
    | some x => match stepV F x s with
      | .stop c u => .stop c u
      | .go s' => runV F p g s'
theorem putV_us {F : Int} {s s' : VmS} {a : ByteArray} {b : List UInt8} (h : putV F s a b = .go s') : s.us ≤ s'.us := by
  unfold putV payV at h
  by_cases hq : s.us + (((b.length + 15) / 16 : Nat) : Int) ≤ F
  · rw [if_pos hq] at h
    simp only at h
    split at h
    · injection h with h; subst h; show s.us ≤ s.us + _; omega
    · cases h
  · rw [if_neg hq] at h; cases h
theorem putAll_us {F : Int} {s' : VmS} : ∀ (l : List FileE) (s : VmS), putAll F s l = .go s' → s.us ≤ s'.us
  | [], s, h => by injection h with h; subst h; exact Int.le_refl _
  | f :: r, s, h => by
    unfold putAll at h
    cases hq : putV F s f.path f.bytes with
    | stop c u => rw [hq] at h; cases h
    | go s1 =>
      rw [hq] at h
      exact Int.le_trans (putV_us hq) (putAll_us r s1 h)
theorem getPut_us {F : Int} {s s' : VmS} {a b : ByteArray} {f : List UInt8 → List UInt8} (h : getPut F s a b f = .go s') : s.us ≤ s'.us := by
  unfold getPut at h
  split at h
  · cases h
  · exact putV_us h
theorem doV_us {F : Int} {x : InsE} {s s' : VmS} (h : doV F x s = .go s') : s.us ≤ s'.us := by
  unfold doV at h
  split at h
  · exact getPut_us h
  · unfold get2 at h
    split at h
    · cases h
    · split at h
      · cases h
      · exact putV_us h
  · exact getPut_us h
  · exact getPut_us h
  · exact getPut_us h
  · split at h
    · cases h
    · exact putV_us h
  · split at h
    · cases h
    · unfold unpackV at h
      split at h
      · cases h
      · split at h
        · exact putAll_us _ _ h
        · cases h
  · injection h with h; subst h; exact Int.le_refl _
  · split at h <;> (injection h with h; subst h; exact Int.le_refl _)
  · unfold get2 at h
    split at h
    · cases h
    · split at h
      · cases h
      · dsimp only at h
        split at h <;> (injection h with h; subst h; exact Int.le_refl _)
  · cases h
theorem stepV_us {F : Int} {x : InsE} {s s' : VmS} (h : stepV F x s = .go s') : s.us + 1 ≤ s'.us := by
  unfold stepV payV at h
  by_cases hq : s.us + 1 ≤ F
  · rw [if_pos hq] at h
    exact doV_us h
  · rw [if_neg hq] at h; cases h
theorem putV_pl {F : Int} {s s' : VmS} {a : ByteArray} {b : List UInt8} (h : putV F s a b = .go s') : s'.pl = s.pl := by
  unfold putV payV at h
  by_cases hq : s.us + (((b.length + 15) / 16 : Nat) : Int) ≤ F
  · rw [if_pos hq] at h
    simp only at h
    split at h
    · injection h with h; subst h; rfl
    · cases h
  · rw [if_neg hq] at h; cases h
theorem putAll_pl {F : Int} {s' : VmS} : ∀ (l : List FileE) (s : VmS), putAll F s l = .go s' → s'.pl = s.pl
  | [], s, h => by injection h with h; subst h; rfl
  | f :: r, s, h => by
    unfold putAll at h
    cases hq : putV F s f.path f.bytes with
    | stop c u => rw [hq] at h; cases h
    | go s1 =>
      rw [hq] at h
      exact (putAll_pl r s1 h).trans (putV_pl hq)
theorem getPut_pl {F : Int} {s s' : VmS} {a b : ByteArray} {f : List UInt8 → List UInt8} (h : getPut F s a b f = .go s') : s'.pl = s.pl := by
  unfold getPut at h
  split at h
  · cases h
  · exact putV_pl h
theorem jump_at {x : InsE} {many : Int} (h : oneB x many = true) (ho : x.op = 8 ∨ x.op = 9 ∨ x.op = 10) : x.n ≤ many := by
  have f3 := (one_at h).2.2 3 (by omega)
  rcases ho with ho | ho | ho <;>
  · rw [ho] at f3
    simp only [fldOk, fldL, FLDS, InsE.u, List.getD] at f3
    simp at f3
    exact f3.2
theorem doV_pl {F : Int} {x : InsE} {s s' : VmS} {many : Int} (hok : oneB x many = true) (h : doV F x s = .go s') : s'.pl = s.pl ∨ s'.pl ≤ many := by
  unfold doV at h
  split at h
  · exact .inl (getPut_pl h)
  · unfold get2 at h
    split at h
    · cases h
    · split at h
      · cases h
      · exact .inl (putV_pl h)
  · exact .inl (getPut_pl h)
  · exact .inl (getPut_pl h)
  · exact .inl (getPut_pl h)
  · split at h
    · cases h
    · exact .inl (putV_pl h)
  · split at h
    · cases h
    · unfold unpackV at h
      split at h
      · cases h
      · split at h
        · exact .inl (putAll_pl _ _ h)
        · cases h
  · rename_i ho
    injection h with h; subst h; exact .inr (jump_at hok (.inl ho))
  · rename_i ho
    split at h <;> (injection h with h; subst h)
    · exact .inr (jump_at hok (.inr (.inl ho)))
    · exact .inl rfl
  · rename_i ho
    unfold get2 at h
    split at h
    · cases h
    · split at h
      · cases h
      · dsimp only at h
        split at h <;> (injection h with h; subst h)
        · exact .inr (jump_at hok (.inr (.inr ho)))
        · exact .inl rfl
  · cases h
theorem stepV_pl {F : Int} {x : InsE} {s s' : VmS} {many : Int} (hok : oneB x many = true) (hs : s.pl + 1 ≤ many) (h : stepV F x s = .go s') : s'.pl ≤ many := by
  unfold stepV payV at h
  by_cases hq : s.us + 1 ≤ F
  · rw [if_pos hq] at h
    rcases doV_pl hok h with q | q
    · rw [q]; exact hs
    · exact q
  · rw [if_neg hq] at h; cases h
def ProgX (X : Nat) (w : World) (v : Value) (p : List InsE) : Prop := ∀ w', Kept (fun k => k = X) w w' → ProgAt w' v p
theorem ProgX.kept {X : Nat} {w w' : World} {v : Value} {p : List InsE} (h : ProgX X w v p) (k : Kept (fun k => k = X) w w') : ProgX X w' v p := fun w'' q => h w'' (k.trans q)
def AllOut (X : Nat) (F : Int) (r : VR) (e : Ending) (w : World) : Prop := match r with
  | .go s => e = .returned (.int .i64 0) ∧ RunAt w X F s
  | .stop c u => e = .returned (.int .i64 c) ∧ ∃ vf pl, w.heap[X]? = some (.cells #[vf, pl, .int .i64 F, .int .i64 u] 43 (0, 0))
theorem z_errno (w : World) : (zeroValue 29).run Tryd.prog w = .ok (.int .i64 0) w := by kernel_rfl
theorem progB_at {p : List InsE} (h : progB p = true) : p.length ≤ 30 ∧ ∀ x ∈ p, oneB x p.length = true := by
  rw [progB_eq, Bool.and_eq_true, decide_eq_true_eq, List.all_eq_true] at h
  exact h
set_option maxRecDepth 100000 in
set_option maxHeartbeats 8000000 in
theorem all_ct {w : World} {X : Nat} {F : Int} {s : VmS} (h : RunAt w X F s) {v : Value} {p : List InsE} (hp : ProgX X w v p) (hm : progB p = true) (hs : s.pl ≤ p.length) (h4 : ∀ x ∈ p, x.op = 4 → ∀ w', Kept (fun k => k = X) w w' → SubstOk w' X) :
    Calls Tryd.prog 11 #[.pointer (some ⟨X, 0, none⟩), v] w fun e w' => AllOut X F (runV F p ((F - s.us).toNat + 1) s) e w' ∧ Kept (fun k => k = X) w w' := by
  have hmf : ∀ (fn : Fn) (first cap : Array Value) (w : World), (Instr.makeFunc fn first cap).run Tryd.prog w = .ok (.func fn first cap) w := fun _ _ _ _ => rfl
  obtain ⟨hpl, hone⟩ := progB_at hm
  have hXw := h.lt
  obtain ⟨a, c, hv, _, _⟩ := (hp w (Kept.refl _ _)).slc
  subst hv
  have k1 : Kept (fun _ => False) w (w.alloc (.cells #[.int .i64 0] 29)) := (Kept.refl _ w).alloc _
  have hR := heap_last w (.cells #[.int .i64 0] 29)
  generalize hRES : runV F p ((F - s.us).toNat + 1) s = RES
  go_enter_defers Tryd.func11, Tryd.ntmps11
  go_upto_region 2 with fail
  generalize w.alloc (.cells #[.int .i64 0] 29) = W1 at k1 hR ⊢
  generalize hRe : w.heap.size = R at hR ⊢
  have hRl := (Array.getElem?_eq_some_iff.1 hR).1
  have hr1 := h.kept k1
  go_loopg [21] ((F - s.us).toNat + 1) (fun gk s21 wr => ∃ s' : VmS, RunAt wr X F s' ∧ (F - s'.us).toNat + 1 ≤ gk ∧ s'.pl ≤ p.length ∧ Hid (runV F p gk s' = RES) ∧ Kept (fun k => k = X) W1 wr)
  case atStart => exact ⟨s, hr1, Nat.le_refl _, hs, hRES, Kept.refl _ _⟩
  case round =>
    obtain ⟨s', hr, hgk, hs', HR, hkr⟩ := hrel
    obtain ⟨gg, rfl⟩ : ∃ gg, gk = gg + 1 := ⟨gk - 1, by omega⟩
    obtain ⟨vf, hx, _⟩ := hr.cells
    have cX : wr.cell? ⟨X, 1, none⟩ = some (.int .i64 s'.pl) := by rw [cell_of_row _ _ _ _ _ _ hx]; rfl
    have hRr : wr.heap[R]? = some (.cells #[.int .i64 0] 29 (0, 0)) := by rw [hkr.block _ hRl (by omega)]; exact hR
    clear hx
    have hp0 := hr.pl0
    by_cases hlt : s'.pl < p.length
    · obtain ⟨n, hn⟩ := Int.eq_ofNat_of_zero_le hp0
      have hnl : n < p.length := by omega
      have hf : p[n]? = some p[n] := List.getElem?_eq_getElem hnl
      have hx1 := hone p[n] (List.getElem_mem hnl)
      have hx4 := h4 p[n] (List.getElem_mem hnl)
      generalize p[n] = x at hf hx1 hx4
      have hkw : Kept (fun k => k = X) w wr := k1.x.trans hkr
      obtain ⟨hxf, b, o, rfl, hb, ld⟩ := (hp wr hkw).elem hf
      have sc := step_ct hr hxf hx1 (by omega) (by omega) (fun e => hx4 e wr hkw)
      have HR2 : Hid ((match stepV F x s' with | .stop c u => .stop c u | .go s2 => runV F p gg s2) = RES) := by
        have q := HR.out
        rw [runV, show s'.pl.toNat = n by omega, hf] at q
        exact q
      cases hv : stepV F x s' with
      | stop c2 u2 =>
        rw [hv] at sc HR2
        have HZ : Hid (RES = .stop c2 u2) := HR2.out.symm
        clear HR HR2 hf hx1 hx4 hv
        rw [hn] at cX
        go_wp2_with (first
          | (with_reducible refine wpl_load 25 _ rfl rfl ?_ ld ?_
             · rfl
             simp only [Act.put, List.getElem_toArray, List.getElem_cons_zero, List.getElem_cons_succ, List.setIfInBounds_toArray, List.set_cons_zero, List.set_cons_succ]))
        refine sc.mono ?_
        rintro e W2 ⟨⟨he, hr2⟩, k2⟩
        obtain rfl : e = .panicked (STOPC c2) := he
        clear sc
        have hR2 : W2.heap[R]? = some (.cells #[.int .i64 0] 29 (0, 0)) := by rw [k2.block _ (Array.getElem?_eq_some_iff.1 hRr).1 (by omega)]; exact hRr
        go_wp2_with fail
        refine leaves_cons (f := 17) (args := #[.pointer (some ⟨R, 0, none⟩)]) (by simp) (by simp [go_sem]) ?_
        refine (catch_stop hR2).mono ?_
        rintro e u' W3 ⟨rfl, rfl, hRc, k3⟩
        have cR : W3.cell? ⟨R, 0, none⟩ = some (.int .i64 c2) := by rw [cell_of_row _ _ _ _ _ _ hRc]; rfl
        have hr3 : ∃ vf pl, W3.heap[X]? = some (.cells #[vf, pl, .int .i64 F, .int .i64 u2] 43 (0, 0)) := by
          obtain ⟨s3, hr3, rfl⟩ := hr2
          obtain ⟨vf3, hx3, _⟩ := hr3.cells
          exact ⟨vf3, _, by rw [k3.block _ (Array.getElem?_eq_some_iff.1 hx3).1 (by omega)]; exact hx3⟩
        have kw3 : Kept (fun k => k = X) w W3 := (hkw.trans k2).trans' k3 (fun k hk e => by omega)
        simp [Leaves, settle, results, Tryd.results11, go_sem, cR]
        refine ⟨?_, kw3⟩
        rw [HZ.out]
        exact ⟨rfl, hr3⟩
      | go s2 =>
        rw [hv] at sc HR2
        have hus := stepV_us hv
        have hpl2 := stepV_pl hx1 (by omega) hv
        clear hv HR hf hx1 hx4
        rw [hn] at cX
        go_wp2_with (first
          | (with_reducible refine wpl_load 25 _ rfl rfl ?_ ld ?_
             · rfl
             simp only [Act.put, List.getElem_toArray, List.getElem_cons_zero, List.getElem_cons_succ, List.setIfInBounds_toArray, List.set_cons_zero, List.set_cons_succ]))
        refine sc.mono ?_
        rintro e W2 ⟨⟨rfl, hr2⟩, k2⟩
        clear sc
        go_wp2_with fail
        go_roundg gg
        case rel => exact ⟨s2, hr2, by have := hr2.us1; omega, hpl2, HR2, hkr.trans k2⟩
        case measure => omega
    · have hpe : s'.pl = p.length := by omega
      have HZ : Hid (RES = .go s') := by
        have q := HR.out
        rw [runV, show s'.pl.toNat = p.length by omega, List.getElem?_eq_none (Nat.le_refl _)] at q
        exact q.symm
      rw [hpe] at cX
      have fR : wr.frozen? ⟨R, 0, none⟩ = false := by simp [World.frozen?, hRr]
      have cR0 : wr.cell? ⟨R, 0, none⟩ = some (.int .i64 0) := by rw [cell_of_row _ _ _ _ _ _ hRr]; rfl
      clear HR
      go_wp2_with fail
      have hR3 := heap_setCell_same (j := 0) hRr (.int .i64 0)
      have k3 : Kept (fun _ => False) wr (wr.setCell ⟨R, 0, none⟩ (.int .i64 0)) := ⟨rfl, rfl, rfl, by simp [World.setCell], fun k hk _ => by
        by_cases e : k = R
        · subst e; rw [hR3, hRr]; rfl
        · exact Below.heap_setCell _ _ _ _ e⟩
      have hr3 := hr.kept k3
      have kw3 : Kept (fun k => k = X) w (wr.setCell ⟨R, 0, none⟩ (.int .i64 0)) := (k1.x.trans hkr).trans k3.x
      generalize wr.setCell ⟨R, 0, none⟩ (.int .i64 0) = W3 at hR3 hr3 kw3 ⊢
      have cR : W3.cell? ⟨R, 0, none⟩ = some (.int .i64 0) := by rw [cell_of_row _ _ _ _ _ _ hR3]; rfl
      refine leaves_cons (f := 17) (args := #[.pointer (some ⟨R, 0, none⟩)]) (by simp) (by simp [go_sem]) ?_
      refine (catch_idle R W3).mono ?_
      rintro e u' W4 ⟨rfl, rfl, rfl⟩
      simp [Leaves, settle, results, Tryd.results11, go_sem, cR]
      refine ⟨?_, kw3⟩
      rw [HZ.out]
      exact ⟨rfl, hr3⟩

/- vm.Exec. -/

theorem putV_c {F : Int} {s : VmS} {a : ByteArray} {b : List UInt8} {c u : Int} (h : putV F s a b = .stop c u) : c ≠ 0 := by
  unfold putV payV at h
  by_cases hq : s.us + (((b.length + 15) / 16 : Nat) : Int) ≤ F
  · rw [if_pos hq] at h
    simp only at h
    split at h
    · cases h
    · injection h with h; omega
  · rw [if_neg hq] at h; injection h with h; omega
theorem putAll_c {F c u : Int} : ∀ (l : List FileE) (s : VmS), putAll F s l = .stop c u → c ≠ 0
  | [], s, h => by cases h
  | f :: r, s, h => by
    unfold putAll at h
    cases hq : putV F s f.path f.bytes with
    | stop c2 u2 => rw [hq] at h; injection h with h h2; subst h; exact putV_c hq
    | go s1 => rw [hq] at h; exact putAll_c r s1 h
theorem getPut_c {F : Int} {s : VmS} {a b : ByteArray} {f : List UInt8 → List UInt8} {c u : Int} (h : getPut F s a b f = .stop c u) : c ≠ 0 := by
  unfold getPut at h
  split at h
  · injection h with h; omega
  · exact putV_c h
theorem doV_c {F : Int} {x : InsE} {s : VmS} {c u : Int} (h : doV F x s = .stop c u) : c ≠ 0 := by
  unfold doV at h
  split at h
  · exact getPut_c h
  · unfold get2 at h
    split at h
    · injection h with h; omega
    · split at h
      · injection h with h; omega
      · exact putV_c h
  · exact getPut_c h
  · exact getPut_c h
  · exact getPut_c h
  · split at h
    · injection h with h; omega
    · exact putV_c h
  · split at h
    · injection h with h; omega
    · unfold unpackV at h
      split at h
      · injection h with h; omega
      · split at h
        · exact putAll_c _ _ h
        · injection h with h; omega
  · cases h
  · split at h <;> cases h
  · unfold get2 at h
    split at h
    · injection h with h; omega
    · split at h
      · injection h with h; omega
      · dsimp only at h
        split at h <;> cases h
  · injection h with h; omega
theorem stepV_c {F : Int} {x : InsE} {s : VmS} {c u : Int} (h : stepV F x s = .stop c u) : c ≠ 0 := by
  unfold stepV payV at h
  by_cases hq : s.us + 1 ≤ F
  · rw [if_pos hq] at h
    exact doV_c h
  · rw [if_neg hq] at h; injection h with h; omega
theorem runV_c {F : Int} {p : List InsE} {c u : Int} : ∀ (g : Nat) (s : VmS), runV F p g s = .stop c u → c ≠ 0
  | 0, s, h => by injection h with h; omega
  | g + 1, s, h => by
    unfold runV at h
    split at h
    · cases h
    · split at h
      · rename_i hq
        injection h with h h2; subst h; exact stepV_c hq
      · exact runV_c g _ h
def OUT : ByteArray := ⟨#[111, 117, 116]⟩
/-- What Exec tells: the tree, the fuel used, the error. -/
def execV (p : List InsE) (l : List FileE) (fuel : Int) : List FileE × Int × Int :=
  if (progB p && mayB l && decide (0 ≤ fuel) && decide (fuel ≤ 20000)) = false then ([], 0, 2)
  else match runV fuel p (fuel.toNat + 1) ⟨l, 0, 0⟩ with
    | .stop c u => ([], u, c)
    | .go s => (belowL OUT s.fs, s.us, 0)
def ExecOut (base : Nat) (r : List FileE × Int × Int) (e : Ending) (w : World) : Prop := ∃ v, e = .returned (.tuple #[v, .int .i64 r.2.1, .int .i64 r.2.2]) ∧ TreeAt w v r.1 ∧ OwnT base w v r.1.length
theorem ExecOut.nil {base : Nat} {w : World} {r : List FileE × Int × Int} {u c : Int} (h : r = ([], u, c)) : ExecOut base r (.returned (.tuple #[.slice none 0 0, .int .i64 u, .int .i64 c])) w := by
  subst h; exact ⟨_, rfl, TreeAt.nil w 0, OwnT.nil base w⟩
theorem out_path : pathB OUT = true := by decide +kernel
set_option maxRecDepth 100000 in
set_option maxHeartbeats 8000000 in
theorem exec_ct {w : World} (hT : FldTab w) {vp vt : Value} {p : List InsE} {l : List FileE} (hp : ProgAt w vp p) (ht : TreeAt w vt l) (fuel : Int) (h4 : ∀ x ∈ p, x.op = 4 → ∀ w' X, Kept (fun k => k = X) w w' → w.heap.size ≤ X → SubstOk w' X) :
    Calls Tryd.prog 8 #[vp, vt, .int .i64 fuel] w fun e w' => ExecOut w.heap.size (execV p l fuel) e w' ∧ Kept (fun _ => False) w w' := by
  have pc := pmay_ct hT hp
  have mc := fun w' (z : Kept (fun _ => False) w w') => may_ct (ht.kept z)
  obtain ⟨ap, cp, hvp, _, _⟩ := hp.slc
  subst hvp
  obtain ⟨a, c, hvt⟩ := ht.slc
  subst hvt
  cases hm1 : progB p with
  | false =>
    have HX : Hid (execV p l fuel = ([], 0, 2)) := by unfold Hid execV; rw [hm1]; rfl
    rw [hm1] at pc
    go_enter Tryd.func8, Tryd.ntmps8
    go_wp2_with fail
    refine pc.mono ?_
    rintro e W1 ⟨rfl, k1⟩
    have KK := k1
    clear pc mc
    go_wp2_with fail
    go_ret3
    exact ⟨ExecOut.nil HX.out, KK⟩
  | true =>
    rw [hm1] at pc
    cases hm2 : mayB l with
    | false =>
      have HX : Hid (execV p l fuel = ([], 0, 2)) := by unfold Hid execV; rw [hm1, hm2]; rfl
      go_enter Tryd.func8, Tryd.ntmps8
      go_wp2_with fail
      refine pc.mono ?_
      rintro e W1 ⟨rfl, k1⟩
      have m2 := mc W1 k1
      rw [hm2] at m2
      clear pc mc
      go_wp2_with fail
      refine m2.mono ?_
      rintro e W2 ⟨rfl, k2⟩
      have KK := k1.trans k2
      clear m2
      go_wp2_with fail
      go_ret3
      exact ⟨ExecOut.nil HX.out, KK⟩
    | true =>
      by_cases hf : 0 ≤ fuel ∧ fuel ≤ 20000
      · have HX : Hid (execV p l fuel = match runV fuel p (fuel.toNat + 1) ⟨l, 0, 0⟩ with | .stop c u => ([], u, c) | .go s => (belowL OUT s.fs, s.us, 0)) := by
          unfold Hid execV; rw [hm1, hm2, decide_eq_true hf.1, decide_eq_true hf.2]; rfl
        obtain ⟨hf1, hf2⟩ := hf
        go_enter Tryd.func8, Tryd.ntmps8
        go_wp2_with fail
        refine pc.mono ?_
        rintro e W1 ⟨rfl, k1⟩
        have m2 := mc W1 k1
        rw [hm2] at m2
        clear pc mc
        go_wp2_with fail
        refine m2.mono ?_
        rintro e W2 ⟨rfl, k2⟩
        have k12 := k1.trans k2
        clear m2
        go_wp2_with fail
        have k3 : Kept (fun _ => False) W2 (W2.alloc (.cells #[.slice a l.length c, .int .i64 0, .int .i64 fuel, .int .i64 0] 43)) := (Kept.refl _ W2).alloc _
        have hx3 := heap_last W2 (.cells #[.slice a l.length c, .int .i64 0, .int .i64 fuel, .int .i64 0] 43)
        generalize W2.alloc (.cells #[.slice a l.length c, .int .i64 0, .int .i64 fuel, .int .i64 0] 43) = W3 at k3 hx3 ⊢
        generalize hXe : W2.heap.size = X at hx3 ⊢
        have hwX : w.heap.size ≤ X := by rw [← hXe]; exact k12.size
        have k13 := k12.trans k3
        have far : ∀ w', Kept (fun k => k = X) W3 w' → Kept (fun _ => False) w w' := fun w' k => (k13.x.trans k).mono (fun i hi e => by omega)
        have hr : RunAt W3 X fuel ⟨l, 0, 0⟩ := ⟨⟨_, hx3, fun w' k => ht.kept (far w' k)⟩, hm2, Int.le_refl _, by show (0 : Int) ≤ 1000; omega, Int.le_refl _, hf1, hf2⟩
        have ac := all_ct hr (v := .slice ap p.length cp) (p := p) (fun w' k => hp.kept (far w' k)) hm1 (by show (0 : Int) ≤ _; omega) (fun x hx ho w' k => h4 x hx ho w' X (k13.x.trans k) hwX)
        rw [show ((fuel - (⟨l, 0, 0⟩ : VmS).us).toNat + 1) = fuel.toNat + 1 by show (fuel - 0).toNat + 1 = _; rw [Int.sub_zero]] at ac
        cases hv : runV fuel p (fuel.toNat + 1) ⟨l, 0, 0⟩ with
        | stop c2 u2 =>
          rw [hv] at ac HX
          have hc := runV_c _ _ hv
          have hcb : (c2 == 0) = false := by simpa using hc
          clear hv hc h4
          refine ac.mono ?_
          rintro e W4 ⟨⟨rfl, vf, pl, hx4⟩, k4⟩
          have kw4 := far W4 k4
          have hz4 := (Array.getElem?_eq_some_iff.1 hx4).1
          have c3 : ∀ w', Kept (fun _ => False) W4 w' → w'.cell? ⟨X, 3, none⟩ = some (.int .i64 u2) := fun w' z => by rw [cell_of_row _ _ _ _ _ _ (show w'.heap[X]? = some _ by rw [z.block _ hz4 not_false]; exact hx4)]; rfl
          clear ac hx4
          go_wp2_with fail
          refine wp_region_held_drew (S := (Kept (fun _ => False) W4)) (by kernel_rfl) ((Kept.refl _ W4).drew) (fun hHeld => ?_)
          refine held_q (v := ?_) (i := 0) rfl (by kernel_rfl) (by kernel_rfl) (by kernel_rfl) (fun _ _ _ h => h) (by rfl) hHeld ?_ ?_
          rotate_left
          · (intro w' hS'; go_simp <;> (with_reducible rfl))
          simp only [Act.put, List.getElem_toArray, List.getElem_cons_zero, List.getElem_cons_succ, List.setIfInBounds_toArray, List.set_cons_zero, List.set_cons_succ]
          refine held_q (v := ?_) (i := 1) rfl (by kernel_rfl) (by kernel_rfl) (by kernel_rfl) (fun _ _ _ h => h) (by rfl) hHeld ?_ ?_
          rotate_left
          · (intro w' hS'; go_simp <;> (with_reducible rfl))
          simp only [Act.put, List.getElem_toArray, List.getElem_cons_zero, List.getElem_cons_succ, List.setIfInBounds_toArray, List.set_cons_zero, List.set_cons_succ]
          refine held_q (v := ?_) (i := 2) rfl (by kernel_rfl) (by kernel_rfl) (by kernel_rfl) (fun _ _ _ h => h) (by rfl) hHeld ?_ ?_
          rotate_left
          · (intro w' hS'; go_simp <;> (with_reducible rfl))
          simp only [Act.put, List.getElem_toArray, List.getElem_cons_zero, List.getElem_cons_succ, List.setIfInBounds_toArray, List.set_cons_zero, List.set_cons_succ]
          refine held_q (v := ?_) (i := 3) rfl (by kernel_rfl) (by kernel_rfl) (by kernel_rfl) (fun _ _ _ h => h) (by rfl) hHeld ?_ ?_
          rotate_left
          · (intro w' hS'; go_simp <;> (with_reducible rfl))
          simp only [Act.put, List.getElem_toArray, List.getElem_cons_zero, List.getElem_cons_succ, List.setIfInBounds_toArray, List.set_cons_zero, List.set_cons_succ]
          refine held_q (v := ?_) (i := 4) rfl (by kernel_rfl) (by kernel_rfl) (by kernel_rfl) (fun _ _ _ h => h) (by rfl) hHeld ?_ ?_
          rotate_left
          · (intro w' hS'; go_simp <;> (with_reducible rfl))
          simp only [Act.put, List.getElem_toArray, List.getElem_cons_zero, List.getElem_cons_succ, List.setIfInBounds_toArray, List.set_cons_zero, List.set_cons_succ]
          refine held_q (v := ?_) (i := 5) rfl (by kernel_rfl) (by kernel_rfl) (by kernel_rfl) (fun _ _ _ h => h) (by rfl) hHeld ?_ ?_
          rotate_left
          · (intro w' hS'; go_simp <;> (with_reducible rfl))
          simp only [Act.put, List.getElem_toArray, List.getElem_cons_zero, List.getElem_cons_succ, List.setIfInBounds_toArray, List.set_cons_zero, List.set_cons_succ]
          refine held_q (v := ?_) (i := 6) rfl (by kernel_rfl) (by kernel_rfl) (by kernel_rfl) (fun _ _ _ h => h) (by rfl) hHeld ?_ ?_
          rotate_left
          · (intro w' hS'; go_simp <;> (with_reducible rfl))
          simp only [Act.put, List.getElem_toArray, List.getElem_cons_zero, List.getElem_cons_succ, List.setIfInBounds_toArray, List.set_cons_zero, List.set_cons_succ]
          refine held_q (v := ?_) (i := 7) rfl (by kernel_rfl) (by kernel_rfl) (by kernel_rfl) (fun _ _ _ h => h) (by rfl) hHeld ?_ ?_
          rotate_left
          · (intro w' hS'; go_simp <;> (with_reducible rfl))
          simp only [Act.put, List.getElem_toArray, List.getElem_cons_zero, List.getElem_cons_succ, List.setIfInBounds_toArray, List.set_cons_zero, List.set_cons_succ]
          refine wpAnyH_done (by kernel_rfl) ?_ _
          go_wp2_with fail
          go_ret3
          exact ⟨ExecOut.nil HX.out, kw4.trans hHeld⟩
        | go s2 =>
          rw [hv] at ac HX
          clear hv h4
          refine ac.mono ?_
          rintro e W4 ⟨⟨rfl, hr4⟩, k4⟩
          have kw4 := far W4 k4
          obtain ⟨vf, hx4, ht4⟩ := hr4.cells
          have hz4 := (Array.getElem?_eq_some_iff.1 hx4).1
          have c3 : ∀ w', Kept (fun _ => False) W4 w' → w'.cell? ⟨X, 3, none⟩ = some (.int .i64 s2.us) := fun w' z => by rw [cell_of_row _ _ _ _ _ _ (show w'.heap[X]? = some _ by rw [z.block _ hz4 not_false]; exact hx4)]; rfl
          have c0 : ∀ w', Kept (fun _ => False) W4 w' → w'.cell? ⟨X, 0, none⟩ = some vf := fun w' z => by rw [cell_of_row _ _ _ _ _ _ (show w'.heap[X]? = some _ by rw [z.block _ hz4 not_false]; exact hx4)]; rfl
          have bc := fun w' (z : Kept (fun _ => False) W4 w') => below_ctS (ht4.kept z.x).at hr4.may out_path
          obtain ⟨a4, cc4, hvf⟩ := ht4.at.slc
          subst hvf
          clear ac hx4 ht4
          go_wp2_with fail
          refine wp_region_held_drew (S := (Kept (fun _ => False) W4)) (by kernel_rfl) ((Kept.refl _ W4).drew) (fun hHeld => ?_)
          refine held_q (v := ?_) (i := 0) rfl (by kernel_rfl) (by kernel_rfl) (by kernel_rfl) (fun _ _ _ h => h) (by rfl) hHeld ?_ ?_
          rotate_left
          · (intro w' hS'; go_simp <;> (with_reducible rfl))
          simp only [Act.put, List.getElem_toArray, List.getElem_cons_zero, List.getElem_cons_succ, List.setIfInBounds_toArray, List.set_cons_zero, List.set_cons_succ]
          refine held_q (v := ?_) (i := 1) rfl (by kernel_rfl) (by kernel_rfl) (by kernel_rfl) (fun _ _ _ h => h) (by rfl) hHeld ?_ ?_
          rotate_left
          · (intro w' hS'; go_simp <;> (with_reducible rfl))
          simp only [Act.put, List.getElem_toArray, List.getElem_cons_zero, List.getElem_cons_succ, List.setIfInBounds_toArray, List.set_cons_zero, List.set_cons_succ]
          refine held_q (v := ?_) (i := 2) rfl (by kernel_rfl) (by kernel_rfl) (by kernel_rfl) (fun _ _ _ h => h) (by rfl) hHeld ?_ ?_
          rotate_left
          · (intro w' hS'; go_simp <;> (with_reducible rfl))
          simp only [Act.put, List.getElem_toArray, List.getElem_cons_zero, List.getElem_cons_succ, List.setIfInBounds_toArray, List.set_cons_zero, List.set_cons_succ]
          refine held_q (v := ?_) (i := 3) rfl (by kernel_rfl) (by kernel_rfl) (by kernel_rfl) (fun _ _ _ h => h) (by rfl) hHeld ?_ ?_
          rotate_left
          · (intro w' hS'; go_simp <;> (with_reducible rfl))
          simp only [Act.put, List.getElem_toArray, List.getElem_cons_zero, List.getElem_cons_succ, List.setIfInBounds_toArray, List.set_cons_zero, List.set_cons_succ]
          refine held_q (v := ?_) (i := 5) rfl (by kernel_rfl) (by kernel_rfl) (by kernel_rfl) (fun _ _ _ h => h) (by rfl) hHeld ?_ ?_
          rotate_left
          · (intro w' hS'; go_simp <;> (with_reducible rfl))
          simp only [Act.put, List.getElem_toArray, List.getElem_cons_zero, List.getElem_cons_succ, List.setIfInBounds_toArray, List.set_cons_zero, List.set_cons_succ]
          refine held_q (v := ?_) (i := 6) rfl (by kernel_rfl) (by kernel_rfl) (by kernel_rfl) (fun _ _ _ h => h) (by rfl) hHeld ?_ ?_
          rotate_left
          · (intro w' hS'; go_simp <;> (with_reducible rfl))
          simp only [Act.put, List.getElem_toArray, List.getElem_cons_zero, List.getElem_cons_succ, List.setIfInBounds_toArray, List.set_cons_zero, List.set_cons_succ]
          refine held_q (v := ?_) (i := 7) rfl (by kernel_rfl) (by kernel_rfl) (by kernel_rfl) (fun _ _ _ h => h) (by rfl) hHeld ?_ ?_
          rotate_left
          · (intro w' hS'; go_simp <;> (with_reducible rfl))
          simp only [Act.put, List.getElem_toArray, List.getElem_cons_zero, List.getElem_cons_succ, List.setIfInBounds_toArray, List.set_cons_zero, List.set_cons_succ]
          refine held_q (v := ?_) (i := 8) rfl (by kernel_rfl) (by kernel_rfl) (by kernel_rfl) (fun _ _ _ h => h) (by rfl) hHeld ?_ ?_
          rotate_left
          · (intro w' hS'; go_simp <;> (with_reducible rfl))
          simp only [Act.put, List.getElem_toArray, List.getElem_cons_zero, List.getElem_cons_succ, List.setIfInBounds_toArray, List.set_cons_zero, List.set_cons_succ]
          refine held_c (i := 4) (f := 12) (args := #[.slice a4 s2.fs.length cc4, .string OUT]) (by kernel_rfl) rfl (by rfl) ?_ (bc _ hHeld) ?_
          · (go_simp <;> rfl)
          rintro e W5 ⟨v5, rfl, ht5, ho5, k5⟩
          have hHeld := hHeld.trans k5
          refine ⟨_, rfl, hHeld, ?_⟩
          simp only [Act.put, List.getElem_toArray, List.getElem_cons_zero, List.getElem_cons_succ, List.setIfInBounds_toArray, List.set_cons_zero, List.set_cons_succ]
          refine held_q (v := ?_) (i := 9) rfl (by kernel_rfl) (by kernel_rfl) (by kernel_rfl) (fun _ _ _ h => h) (by rfl) hHeld ?_ ?_
          rotate_left
          · (intro w' hS'; go_simp <;> (with_reducible rfl))
          simp only [Act.put, List.getElem_toArray, List.getElem_cons_zero, List.getElem_cons_succ, List.setIfInBounds_toArray, List.set_cons_zero, List.set_cons_succ]
          refine held_q (v := ?_) (i := 10) rfl (by kernel_rfl) (by kernel_rfl) (by kernel_rfl) (fun _ _ _ h => h) (by rfl) hHeld ?_ ?_
          rotate_left
          · (intro w' hS'; go_simp <;> (with_reducible rfl))
          simp only [Act.put, List.getElem_toArray, List.getElem_cons_zero, List.getElem_cons_succ, List.setIfInBounds_toArray, List.set_cons_zero, List.set_cons_succ]
          refine held_q (v := ?_) (i := 11) rfl (by kernel_rfl) (by kernel_rfl) (by kernel_rfl) (fun _ _ _ h => h) (by rfl) hHeld ?_ ?_
          rotate_left
          · (intro w' hS'; go_simp <;> (with_reducible rfl))
          simp only [Act.put, List.getElem_toArray, List.getElem_cons_zero, List.getElem_cons_succ, List.setIfInBounds_toArray, List.set_cons_zero, List.set_cons_succ]
          refine wpAnyH_done (by kernel_rfl) ?_ _
          obtain ⟨a5, cc5, hv5⟩ := ht5.slc
          subst hv5
          go_wp2_with fail
          go_ret3
          refine ⟨?_, kw4.trans hHeld⟩
          rw [HX.out]
          exact ⟨_, rfl, ht5, ho5.low (Nat.le_trans kw4.size (Kept.drew (Kept.refl (fun _ => False) W4)).size)⟩
      · have HX : Hid (execV p l fuel = ([], 0, 2)) := by
          unfold Hid execV; rw [hm1, hm2]
          by_cases h0 : 0 ≤ fuel
          · rw [decide_eq_true h0, decide_eq_false (by omega)]; rfl
          · rw [decide_eq_false h0]; rfl
        go_enter Tryd.func8, Tryd.ntmps8
        go_wp2_with fail
        refine pc.mono ?_
        rintro e W1 ⟨rfl, k1⟩
        have m2 := mc W1 k1
        rw [hm2] at m2
        clear pc mc
        go_wp2_with fail
        refine m2.mono ?_
        rintro e W2 ⟨rfl, k2⟩
        have KK := k1.trans k2
        clear m2
        by_cases h0 : fuel < 0
        · go_wp2_with fail
          go_ret3
          exact ⟨ExecOut.nil HX.out, KK⟩
        · have h1 : 20000 < fuel := by omega
          go_wp2_with fail
          go_ret3
          exact ⟨ExecOut.nil HX.out, KK⟩

/- known (layer 7). -/

def NUL : ByteArray := ⟨#[]⟩
def srcA : ByteArray := ⟨#[115, 114, 99, 47, 97]⟩
def outX : ByteArray := ⟨#[111, 117, 116, 47, 120]⟩
def pA : ByteArray := ⟨#[97]⟩
def pB : ByteArray := ⟨#[98]⟩
def pX : ByteArray := ⟨#[120]⟩
theorem kx2 : execV [⟨8, NUL, NUL, NUL, 0, 0⟩] [] 5 = ([], 5, 71) := by kernel_rfl
theorem kx3 : execV [⟨1, pA, pB, NUL, 0, 0⟩] [] 5 = ([], 1, 70) := by kernel_rfl
theorem ks1 : sortL [98, 10, 97, 10] = [97, 10, 98, 10] := by
  have h : sortR [[98], [97]] = [[97], [98]] := (sortR_uniq (List.Perm.swap _ _ _) (by decide)).symm
  have hb : cutB (bodyL [98, 10, 97, 10]) = [[98], [97]] := by decide
  unfold sortL
  rw [if_neg (by simp), hb, h]
  rfl
def kP : List InsE := [⟨5, srcA, NUL, NUL, 0, 0⟩, ⟨1, srcA, outX, NUL, 0, 0⟩]
def kT : List FileE := [⟨srcA, [98, 10, 97, 10]⟩]
theorem kx1 : execV kP kT 100 = ([⟨pX, [97, 10, 98, 10]⟩], 4, 0) := by
  have e1 : stepV 100 ⟨5, srcA, NUL, NUL, 0, 0⟩ ⟨kT, 0, 0⟩ = putV 100 ⟨kT, 1, 1⟩ srcA (sortL [98, 10, 97, 10]) := by kernel_rfl
  rw [ks1] at e1
  have e2 : putV 100 ⟨kT, 1, 1⟩ srcA [97, 10, 98, 10] = .go ⟨[⟨srcA, [97, 10, 98, 10]⟩], 1, 2⟩ := by kernel_rfl
  rw [e2] at e1
  have r : runV 100 kP (100 + 1) ⟨kT, 0, 0⟩ = .go ⟨[⟨outX, [97, 10, 98, 10]⟩, ⟨srcA, [97, 10, 98, 10]⟩], 2, 4⟩ := by
    show (match stepV 100 ⟨5, srcA, NUL, NUL, 0, 0⟩ ⟨kT, 0, 0⟩ with | VR.stop c u => VR.stop c u | VR.go s' => runV 100 kP 100 s') = _
    rw [e1]
    kernel_rfl
  have c : (progB kP && mayB kT && decide ((0 : Int) ≤ 100) && decide ((100 : Int) ≤ 20000)) = true := by kernel_rfl
  unfold execV
  rw [c]
  show (match runV 100 kP (100 + 1) ⟨kT, 0, 0⟩ with | VR.stop c u => (([], u, c) : List FileE × Int × Int) | VR.go s => (belowL OUT s.fs, s.us, 0)) = _
  rw [r]
  kernel_rfl

/- Programs that a law builds; the known case of layer 7. -/

theorem flat_get {α : Type} {z : Nat} : ∀ {cs : List (List α)} {j : Nat} {r : List α}, (∀ x ∈ cs, x.length = z) → cs[j]? = some r → ∀ i, i < z → cs.flatten[j * z + i]? = r[i]?
  | [], j, r, _, h, _, _ => by simp at h
  | x :: cs, 0, r, hz, h, i, hi => by
    simp only [List.getElem?_cons_zero, Option.some.injEq] at h
    subst h
    have := hz x (List.mem_cons_self ..)
    rw [List.flatten_cons, List.getElem?_append_left (by omega), Nat.zero_mul, Nat.zero_add]
  | x :: cs, j + 1, r, hz, h, i, hi => by
    simp only [List.getElem?_cons_succ] at h
    have h1 := hz x (List.mem_cons_self ..)
    have ih := flat_get (fun y hy => hz y (List.mem_cons_of_mem _ hy)) h i hi
    rw [List.flatten_cons, List.getElem?_append_right (by rw [h1, Nat.succ_mul]; omega), ← ih, h1]
    congr 1
    rw [Nat.succ_mul]; omega
theorem flat_len {α : Type} {z : Nat} : ∀ {cs : List (List α)}, (∀ x ∈ cs, x.length = z) → cs.flatten.length = cs.length * z
  | [], _ => by simp
  | x :: cs, h => by
    rw [List.flatten_cons, List.length_append, h x (List.mem_cons_self ..), flat_len (fun y hy => h y (List.mem_cons_of_mem _ hy)), List.length_cons, Nat.succ_mul]; omega
def insL (p : List InsE) : List Value := (p.map insC).flatten
theorem insL_z (p : List InsE) : ∀ x ∈ p.map insC, x.length = 6 := fun x hx => by
  obtain ⟨y, _, rfl⟩ := List.mem_map.1 hx
  rfl
theorem prog_of {w : World} {g n c : Nat} {p : List InsE} {t : TypeId} {fr : Nat × Nat} (h : w.heap[g]? = some (.cells (insL p).toArray t fr)) (hf : ∀ x ∈ p, x.Fits) (hn : n = p.length) (hl : p.length ≤ 1000) (hc : n ≤ c) : ProgAt w (.slice (some ⟨g, 0, none⟩) n c) p := by
  subst hn
  refine ⟨⟨_, c, by rw [List.length_map], by rw [List.length_map]; exact hc, by rw [List.length_map]; simp only [maxLen]; omega, fun _ => ⟨g, 0, rfl, (Array.getElem?_eq_some_iff.1 h).1, fun j xs hj i u hu => ?_⟩⟩, hf⟩
  have hx : xs.length = 6 := insL_z p xs (List.mem_of_getElem? hj)
  have hi : i < 6 := by have := (List.getElem?_eq_some_iff.1 hu).1; omega
  have := flat_get (insL_z p) hj i hi
  rw [cell_of_row _ _ _ _ _ _ h, List.getElem?_toArray, Nat.zero_add]
  unfold insL
  rw [this]; exact hu
theorem fits0 {op : Nat} {a b c : ByteArray} {n m : Int} (h1 : op < 256) (ha : a.size ≤ 1000) (hb : b.size ≤ 1000) (hc : c.size ≤ 1000) (hn : 0 ≤ n ∧ n ≤ 100000) (hm : 0 ≤ m ∧ m ≤ 100000) : (⟨op, a, b, c, n, m⟩ : InsE).Fits :=
  ⟨h1, by simp only [maxLen]; omega, by simp only [maxLen]; omega, by simp only [maxLen]; omega, by show -9223372036854775808 ≤ n ∧ n ≤ 9223372036854775807; omega, by show -9223372036854775808 ≤ m ∧ m ≤ 9223372036854775807; omega⟩
theorem bd_op (o : Int) (w : World) : (Instr.build 25 #[(0, .int .u8 o)]).run Tryd.prog w = .ok (.agg #[.int .u8 o, .string NUL, .string NUL, .string NUL, .int .i64 0, .int .i64 0]) w := by kernel_rfl
theorem bd_a (o : Int) (a : ByteArray) (w : World) : (Instr.build 25 #[(0, .int .u8 o), (1, .string a)]).run Tryd.prog w = .ok (.agg #[.int .u8 o, .string a, .string NUL, .string NUL, .int .i64 0, .int .i64 0]) w := by kernel_rfl
theorem bd_ab (o : Int) (a b : ByteArray) (w : World) : (Instr.build 25 #[(0, .int .u8 o), (1, .string a), (2, .string b)]).run Tryd.prog w = .ok (.agg #[.int .u8 o, .string a, .string b, .string NUL, .int .i64 0, .int .i64 0]) w := by kernel_rfl
theorem bs_i1 (o : Int) (a b c : ByteArray) (n m : Int) (w : World) : (Instr.buildSlice 26 1 #[(0, .agg #[.int .u8 o, .string a, .string b, .string c, .int .i64 n, .int .i64 m])]).run Tryd.prog w = .ok (.slice (some ⟨w.heap.size, 0, none⟩) 1 1) (w.alloc (.cells #[.int .u8 o, .string a, .string b, .string c, .int .i64 n, .int .i64 m] 25)) := by kernel_rfl
theorem bs_i2 (o : Int) (a b c : ByteArray) (n m : Int) (o2 : Int) (a2 b2 c2 : ByteArray) (n2 m2 : Int) (w : World) : (Instr.buildSlice 26 2 #[(0, .agg #[.int .u8 o, .string a, .string b, .string c, .int .i64 n, .int .i64 m]), (1, .agg #[.int .u8 o2, .string a2, .string b2, .string c2, .int .i64 n2, .int .i64 m2])]).run Tryd.prog w = .ok (.slice (some ⟨w.heap.size, 0, none⟩) 2 2) (w.alloc (.cells #[.int .u8 o, .string a, .string b, .string c, .int .i64 n, .int .i64 m, .int .u8 o2, .string a2, .string b2, .string c2, .int .i64 n2, .int .i64 m2] 25)) := by kernel_rfl
theorem bs_4 (a b c d : Int) (w : World) : (Instr.buildSlice 22 4 #[(0, .int .u8 a), (1, .int .u8 b), (2, .int .u8 c), (3, .int .u8 d)]).run Tryd.prog w = .ok (.slice (some ⟨w.heap.size, 0, none⟩) 4 4) (w.alloc (.cells #[.int .u8 a, .int .u8 b, .int .u8 c, .int .u8 d] 5)) := by kernel_rfl
theorem cv_4 (a b c d : Int) (w : World) : (convert 22 22 (.slice (some ⟨w.heap.size, 0, none⟩) 4 4)).run Tryd.prog (w.alloc (.cells #[.int .u8 a, .int .u8 b, .int .u8 c, .int .u8 d] 5)) = .ok (.slice (some ⟨w.heap.size, 0, none⟩) 4 4) (w.alloc (.cells #[.int .u8 a, .int .u8 b, .int .u8 c, .int .u8 d] 5 (4, 5))) :=
  Lib.run_convert_bytes_const (P := Tryd.prog) w 22 5 #[.int .u8 a, .int .u8 b, .int .u8 c, .int .u8 d] 4 4 Tryd.underlying22 Tryd.underlying5
theorem bytesN {w : World} {g n c : Nat} {l : List UInt8} {t : TypeId} {fr : Nat × Nat} (h : w.heap[g]? = some (.cells (bv l).toArray t fr)) (hn : n = l.length) (hl : l.length ≤ 1000) : ByAt w (.slice (some ⟨g, 0, none⟩) n c) l := by
  subst hn
  exact ⟨_, c, rfl, by simp only [maxLen]; omega, fun _ => ⟨g, 0, rfl, (Array.getElem?_eq_some_iff.1 h).1, fun i u hu => by
    rw [cell_of_row _ _ _ _ _ _ h, ← hu, Nat.zero_add]; simp⟩⟩
set_option maxRecDepth 100000 in
set_option maxHeartbeats 8000000 in
theorem known07_ct {w : World} (hT : FldTab w) : Calls Tryd.prog 7 #[] w fun e w' => e = .returned (.bool true) ∧ Kept (fun _ => False) w w' := by
  have d1 := bd_a 5 srcA w
  have d2 := bd_ab 1 srcA outX w
  have b1 := bs_i2 5 srcA NUL NUL 0 0 1 srcA outX NUL 0 0 w
  have k1 : Kept (fun _ => False) w (w.alloc (.cells #[.int .u8 5, .string srcA, .string NUL, .string NUL, .int .i64 0, .int .i64 0, .int .u8 1, .string srcA, .string outX, .string NUL, .int .i64 0, .int .i64 0] 25)) := (Kept.refl _ w).alloc _
  have h1 := heap_last w (.cells #[.int .u8 5, .string srcA, .string NUL, .string NUL, .int .i64 0, .int .i64 0, .int .u8 1, .string srcA, .string outX, .string NUL, .int .i64 0, .int .i64 0] 25)
  generalize w.alloc (.cells #[.int .u8 5, .string srcA, .string NUL, .string NUL, .int .i64 0, .int .i64 0, .int .u8 1, .string srcA, .string outX, .string NUL, .int .i64 0, .int .i64 0] 25) = W1 at b1 k1 h1
  have hP : ProgAt W1 (.slice (some ⟨w.heap.size, 0, none⟩) 2 2) kP := prog_of (p := kP) h1 (fun x hx => by
    simp only [kP, List.mem_cons, List.not_mem_nil, or_false] at hx
    rcases hx with rfl | rfl <;> exact fits0 (by decide) (by decide) (by decide) (by decide) (by decide) (by decide)) rfl (by decide) (Nat.le_refl _)
  have b2 := bs_4 98 10 97 10 W1
  have cv := cv_4 98 10 97 10 W1
  have k2 : Kept (fun _ => False) W1 (W1.alloc (.cells #[.int .u8 98, .int .u8 10, .int .u8 97, .int .u8 10] 5 (4, 5))) := (Kept.refl _ W1).alloc _
  have h2 := heap_last W1 (.cells #[.int .u8 98, .int .u8 10, .int .u8 97, .int .u8 10] 5 (4, 5))
  generalize W1.alloc (.cells #[.int .u8 98, .int .u8 10, .int .u8 97, .int .u8 10] 5 (4, 5)) = W2 at cv k2 h2
  have hB : ByAt W2 (.slice (some ⟨W1.heap.size, 0, none⟩) 4 4) [98, 10, 97, 10] := bytesN (l := [98, 10, 97, 10]) h2 rfl (by decide)
  have bf := build_f srcA (some ⟨W1.heap.size, 0, none⟩) 4 4 W2
  have b3 := bslice_f1 srcA (some ⟨W1.heap.size, 0, none⟩) 4 4 W2
  have k3 : Kept (fun _ => False) W2 (W2.alloc (.cells #[.string srcA, .slice (some ⟨W1.heap.size, 0, none⟩) 4 4] 33)) := (Kept.refl _ W2).alloc _
  have h3 := heap_last W2 (.cells #[.string srcA, .slice (some ⟨W1.heap.size, 0, none⟩) 4 4] 33)
  generalize W2.alloc (.cells #[.string srcA, .slice (some ⟨W1.heap.size, 0, none⟩) 4 4] 33) = W3 at b3 k3 h3
  have hTr : TreeAt W3 (.slice (some ⟨W2.heap.size, 0, none⟩) 1 1) kT := tree1 (f := ⟨srcA, [98, 10, 97, 10]⟩) h3 (hB.kept k3) (by simp only [maxLen]; decide)
  have K3 := (k1.trans k2).trans k3
  have ec := exec_ct (hT.kept K3) (hP.kept (k2.trans k3)) hTr 100 (fun x hx ho => by
    simp only [kP, List.mem_cons, List.not_mem_nil, or_false] at hx
    rcases hx with rfl | rfl <;> cases ho)
  rw [kx1] at ec
  clear h1 h2 h3 hP hB hTr k1 k2 k3
  unfold srcA outX NUL at *
  go_enter Tryd.func7, Tryd.ntmps7
  go_wp2_with (first
    | (with_reducible refine wpl_build 25 _ rfl rfl ?_ d1 ?_
       · (go_simp <;> rfl)
       simp only [Act.put, List.getElem_toArray, List.getElem_cons_zero, List.getElem_cons_succ, List.setIfInBounds_toArray, List.set_cons_zero, List.set_cons_succ])
    | (with_reducible refine wpl_build 25 _ rfl rfl ?_ d2 ?_
       · (go_simp <;> rfl)
       simp only [Act.put, List.getElem_toArray, List.getElem_cons_zero, List.getElem_cons_succ, List.setIfInBounds_toArray, List.set_cons_zero, List.set_cons_succ])
    | (with_reducible refine wpl_bslice 26 _ _ rfl rfl ?_ b1 ?_
       · (go_simp <;> rfl)
       simp only [Act.put, List.getElem_toArray, List.getElem_cons_zero, List.getElem_cons_succ, List.setIfInBounds_toArray, List.set_cons_zero, List.set_cons_succ])
    | (with_reducible refine wpl_bslice 22 _ _ rfl rfl ?_ b2 ?_
       · (go_simp <;> rfl)
       simp only [Act.put, List.getElem_toArray, List.getElem_cons_zero, List.getElem_cons_succ, List.setIfInBounds_toArray, List.set_cons_zero, List.set_cons_succ])
    | (refine wpl_val rfl (exec_conv 22 22 _ rfl rfl cv) ?_)
    | (with_reducible refine wpl_build 33 _ rfl rfl ?_ bf ?_
       · (go_simp <;> rfl)
       simp only [Act.put, List.getElem_toArray, List.getElem_cons_zero, List.getElem_cons_succ, List.setIfInBounds_toArray, List.set_cons_zero, List.set_cons_succ])
    | (with_reducible refine wpl_bslice 28 _ _ rfl rfl ?_ b3 ?_
       · (go_simp <;> rfl)
       simp only [Act.put, List.getElem_toArray, List.getElem_cons_zero, List.getElem_cons_succ, List.setIfInBounds_toArray, List.set_cons_zero, List.set_cons_succ]))
  refine ec.mono ?_
  rintro e W4 ⟨⟨v4, rfl, ht4, _⟩, k4⟩
  have ht4 : TreeAt W4 v4 [⟨pX, [97, 10, 98, 10]⟩] := ht4
  have K4 := K3.trans k4
  clear d1 d2 b1 b2 cv bf b3 ec
  have d3 := bd_op 8 W4
  have b4 := bs_i1 8 NUL NUL NUL 0 0 W4
  have k5 : Kept (fun _ => False) W4 (W4.alloc (.cells #[.int .u8 8, .string NUL, .string NUL, .string NUL, .int .i64 0, .int .i64 0] 25)) := (Kept.refl _ W4).alloc _
  have h5 := heap_last W4 (.cells #[.int .u8 8, .string NUL, .string NUL, .string NUL, .int .i64 0, .int .i64 0] 25)
  generalize W4.alloc (.cells #[.int .u8 8, .string NUL, .string NUL, .string NUL, .int .i64 0, .int .i64 0] 25) = W5 at b4 k5 h5
  have hP5 : ProgAt W5 (.slice (some ⟨W4.heap.size, 0, none⟩) 1 1) [⟨8, NUL, NUL, NUL, 0, 0⟩] := prog_of (p := [⟨8, NUL, NUL, NUL, 0, 0⟩]) h5 (fun x hx => by
    simp only [List.mem_cons, List.not_mem_nil, or_false] at hx
    subst hx; exact fits0 (by decide) (by decide) (by decide) (by decide) (by decide) (by decide)) rfl (by decide) (Nat.le_refl _)
  have K5 := K4.trans k5
  have ec := exec_ct (hT.kept K5) hP5 (TreeAt.nil W5 0) 5 (fun x hx ho => by
    simp only [List.mem_cons, List.not_mem_nil, or_false] at hx
    subst hx; cases ho)
  rw [kx2] at ec
  clear h5 hP5
  unfold NUL at d3 b4
  go_wp2_with (first
    | (with_reducible refine wpl_build 25 _ rfl rfl ?_ d3 ?_
       · (go_simp <;> rfl)
       simp only [Act.put, List.getElem_toArray, List.getElem_cons_zero, List.getElem_cons_succ, List.setIfInBounds_toArray, List.set_cons_zero, List.set_cons_succ])
    | (with_reducible refine wpl_bslice 26 _ _ rfl rfl ?_ b4 ?_
       · (go_simp <;> rfl)
       simp only [Act.put, List.getElem_toArray, List.getElem_cons_zero, List.getElem_cons_succ, List.setIfInBounds_toArray, List.set_cons_zero, List.set_cons_succ]))
  refine ec.mono ?_
  rintro e W6 ⟨⟨v6, rfl, ht6, _⟩, k6⟩
  obtain ⟨a6, c6, hv6⟩ := ht6.slc
  subst hv6
  have K6 := K5.trans k6
  clear d3 b4 ec
  have d3 := bd_ab 1 pA pB W6
  have b4 := bs_i1 1 pA pB NUL 0 0 W6
  have k7 : Kept (fun _ => False) W6 (W6.alloc (.cells #[.int .u8 1, .string pA, .string pB, .string NUL, .int .i64 0, .int .i64 0] 25)) := (Kept.refl _ W6).alloc _
  have h7 := heap_last W6 (.cells #[.int .u8 1, .string pA, .string pB, .string NUL, .int .i64 0, .int .i64 0] 25)
  generalize W6.alloc (.cells #[.int .u8 1, .string pA, .string pB, .string NUL, .int .i64 0, .int .i64 0] 25) = W7 at b4 k7 h7
  have hP7 : ProgAt W7 (.slice (some ⟨W6.heap.size, 0, none⟩) 1 1) [⟨1, pA, pB, NUL, 0, 0⟩] := prog_of (p := [⟨1, pA, pB, NUL, 0, 0⟩]) h7 (fun x hx => by
    simp only [List.mem_cons, List.not_mem_nil, or_false] at hx
    subst hx; exact fits0 (by decide) (by decide) (by decide) (by decide) (by decide) (by decide)) rfl (by decide) (Nat.le_refl _)
  have K7 := K6.trans k7
  have ec := exec_ct (hT.kept K7) hP7 (TreeAt.nil W7 0) 5 (fun x hx ho => by
    simp only [List.mem_cons, List.not_mem_nil, or_false] at hx
    subst hx; cases ho)
  rw [kx3] at ec
  clear h7 hP7
  unfold NUL pA pB at d3 b4
  obtain ⟨a4, c4, hv4⟩ := ht4.slc
  have hv4 : v4 = .slice a4 1 c4 := hv4
  subst hv4
  go_wp2_with (first
    | (with_reducible refine wpl_build 25 _ rfl rfl ?_ d3 ?_
       · (go_simp <;> rfl)
       simp only [Act.put, List.getElem_toArray, List.getElem_cons_zero, List.getElem_cons_succ, List.setIfInBounds_toArray, List.set_cons_zero, List.set_cons_succ])
    | (with_reducible refine wpl_bslice 26 _ _ rfl rfl ?_ b4 ?_
       · (go_simp <;> rfl)
       simp only [Act.put, List.getElem_toArray, List.getElem_cons_zero, List.getElem_cons_succ, List.setIfInBounds_toArray, List.set_cons_zero, List.set_cons_succ]))
  refine ec.mono ?_
  rintro e W8 ⟨⟨v8, rfl, ht8, _⟩, k8⟩
  obtain ⟨a8, c8, hv8⟩ := ht8.slc
  subst hv8
  have K8 := K7.trans k8
  have ht := ht4.kept (((k5.trans k6).trans k7).trans k8)
  obtain ⟨_, b, o, y, rfl, hbl, hrx, hB⟩ := ht.file (j := 0) rfl
  have c0 : W8.cell? ⟨b, o, none⟩ = some (.string ⟨#[120]⟩) := hrx 0 _ rfl
  obtain ⟨a9, c9, hy⟩ := hB.slc
  have hy : y = .slice a9 4 c9 := hy
  subst hy
  have c1 : W8.cell? ⟨b, o + 1, none⟩ = some (.slice a9 4 c9) := hrx 1 _ rfl
  have cs : (convert 22 9 (.slice a9 4 c9)).run Tryd.prog W8 = .ok (.string ⟨#[97, 10, 98, 10]⟩) W8 := conv_str hB
  clear d3 b4 ec ht4 ht6 ht8 ht hrx hB
  go_wp2_with (first
    | (refine wpl_val_g (by rfl) (exec_conv 22 9 _ rfl rfl cs) ?_))
  go_ret
  exact ⟨rfl, K8⟩

/- VmPays, the plain law: copies alone. -/

def outB : ByteArray := ⟨#[111, 117, 116, 47, 98]⟩
def cI : InsE := ⟨1, pA, outB, NUL, 0, 0⟩
def L0 (b : List UInt8) : List FileE := [⟨pA, b⟩]
def L1 (b : List UInt8) : List FileE := [⟨pA, b⟩, ⟨outB, b⟩]
theorem pA_path : pathB pA = true := by kernel_rfl
theorem outB_path : pathB outB = true := by kernel_rfl
theorem pA_lt : ltB pA outB = true := by kernel_rfl
theorem may0 {b : List UInt8} (h : b.length ≤ 300) : mayB (L0 b) = true := by
  simp [mayB, okTo, okAt, prevOk, sumTo, L0, pA_path]
  omega
theorem may1 {b : List UInt8} (h : b.length ≤ 300) : mayB (L1 b) = true := by
  simp [mayB, okTo, okAt, prevOk, sumTo, L1, pA_path, outB_path, pA_lt]
  omega
theorem with0 (b : List UInt8) : withL (L0 b) outB b = L1 b := by kernel_rfl
theorem with1 (b : List UInt8) : withL (L1 b) outB b = L1 b := by kernel_rfl
theorem pay_step {b : List UInt8} (h : b.length ≤ 300) {L : List FileE} (hL : L = L0 b ∨ L = L1 b) {pl us : Int} (hu : us + 1 + (((b.length + 15) / 16 : Nat) : Int) ≤ 20000) :
    stepV 20000 cI ⟨L, pl, us⟩ = .go ⟨L1 b, pl + 1, us + 1 + (((b.length + 15) / 16 : Nat) : Int)⟩ := by
  have e1 : stepV 20000 cI ⟨L, pl, us⟩ = getPut 20000 ⟨L, pl + 1, us + 1⟩ pA outB id := by
    unfold stepV payV
    rw [if_pos (by show us + 1 ≤ 20000; omega)]
    rfl
  have e2 : getV ⟨L, pl + 1, us + 1⟩ pA = some b := by rcases hL with rfl | rfl <;> kernel_rfl
  have e3 : withL L outB b = L1 b := by
    rcases hL with rfl | rfl
    · exact with0 b
    · exact with1 b
  rw [e1]
  unfold getPut
  rw [e2]
  show putV 20000 ⟨L, pl + 1, us + 1⟩ outB b = _
  unfold putV payV
  rw [if_pos hu]
  show (if (pathB outB && mayB (withL L outB b)) = true then VR.go ⟨withL L outB b, pl + 1, us + 1 + (((b.length + 15) / 16 : Nat) : Int)⟩ else VR.stop 8 (us + 1 + (((b.length + 15) / 16 : Nat) : Int))) = _
  rw [e3, outB_path, may1 h]
  rfl
theorem pay_run {b : List UInt8} (h : b.length ≤ 300) {n : Nat} : ∀ (d g j : Nat) (us : Int) (L : List FileE), (L = L0 b ∨ L = L1 b) → j + d = n → d + 1 ≤ g → us + d * (1 + (((b.length + 15) / 16 : Nat) : Int)) ≤ 20000 →
    ∃ L', runV 20000 (List.replicate n cI) g ⟨L, j, us⟩ = .go ⟨L', n, us + d * (1 + (((b.length + 15) / 16 : Nat) : Int))⟩
  | 0, g, j, us, L, hL, hj, hg, hu => by
    obtain ⟨g, rfl⟩ : ∃ g', g = g' + 1 := ⟨g - 1, by omega⟩
    refine ⟨L, ?_⟩
    obtain rfl : j = n := by omega
    unfold runV
    rw [show (⟨L, (j : Int), us⟩ : VmS).pl.toNat = j from rfl, List.getElem?_eq_none (by simp)]
    simp
  | d + 1, g, j, us, L, hL, hj, hg, hu => by
    obtain ⟨g, rfl⟩ : ∃ g', g = g' + 1 := ⟨g - 1, by omega⟩
    generalize hk : (((b.length + 15) / 16 : Nat) : Int) = k at hu ⊢
    have hk0 : 0 ≤ k := by omega
    have hd0 : 0 ≤ (d : Int) * (1 + k) := Int.mul_nonneg (by omega) (by omega)
    have hds : ((d + 1 : Nat) : Int) * (1 + k) = d * (1 + k) + (1 + k) := by rw [Int.natCast_add, Int.add_mul]; simp
    rw [hds] at hu ⊢
    have st := pay_step h hL (pl := j) (us := us) (by rw [hk]; omega)
    rw [hk] at st
    obtain ⟨L', hr⟩ := pay_run h (n := n) d g (j + 1) (us + 1 + k) (L1 b) (.inr rfl) (by omega) (by omega) (by rw [hk]; omega)
    rw [hk] at hr
    refine ⟨L', ?_⟩
    unfold runV
    rw [show (⟨L, (j : Int), us⟩ : VmS).pl.toNat = j from rfl, List.getElem?_replicate, if_pos (by omega)]
    simp only [st]
    rw [show ((j : Int) + 1) = ((j + 1 : Nat) : Int) by omega, hr]
    congr 2
    omega
theorem pay_prog (n : Nat) (h : n ≤ 10) : progB (List.replicate n cI) = true := by
  have : ∀ n : Fin 11, progB (List.replicate n.val cI) = true := by decide +kernel
  exact this ⟨n, by omega⟩
theorem pay_exec {b : List UInt8} (h : b.length ≤ 300) {n : Nat} (hn : n ≤ 10) : ∃ L', execV (List.replicate n cI) (L0 b) 20000 = (L', n * (1 + (((b.length + 15) / 16 : Nat) : Int)), 0) := by
  obtain ⟨L', hr⟩ := pay_run h (n := n) n 20001 0 0 (L0 b) (.inl rfl) (by omega) (by omega) (by
    have h1 : (((b.length + 15) / 16 : Nat) : Int) ≤ 19 := by omega
    have : (n : Int) * (1 + (((b.length + 15) / 16 : Nat) : Int)) ≤ 10 * 20 := Int.mul_le_mul (by omega) (by omega) (by omega) (by omega)
    omega)
  refine ⟨belowL OUT L', ?_⟩
  unfold execV
  rw [pay_prog n hn, may0 h]
  show (match runV 20000 (List.replicate n cI) 20001 ⟨L0 b, 0, 0⟩ with | VR.stop c u => (([], u, c) : List FileE × Int × Int) | VR.go s => (belowL OUT s.fs, s.us, 0)) = _
  have e : (⟨L0 b, 0, 0⟩ : VmS) = ⟨L0 b, ((0 : Nat) : Int), 0⟩ := rfl
  rw [e, hr]
  simp

/- VmPays' walk. -/

theorem RowAt.ownZ {w : World} {base : Nat} {t : TypeId} {v : Value} {n z : Nat} {cs : List (List Value)} (h : w.ownsRow base t z v n cs.flatten) (hz : ∀ x ∈ cs, x.length = z) (hl : cs.length = n) (hm : n ≤ maxLen) : RowAt w z v cs := by
  subst hl
  rcases h.2 with ⟨rfl, h0⟩ | ⟨g, cap, cur, rfl, hb, hg, h1, h2, h3⟩
  · rw [List.eq_nil_of_length_eq_zero h0]; exact RowAt.nil _ _ _
  · refine ⟨some ⟨g, 0, none⟩, cap, rfl, h1, hm, fun _ => ⟨g, 0, rfl, (Array.getElem?_eq_some_iff.1 hg).1, fun j xs hj i u hu => ?_⟩⟩
    have hi : i < z := by have := (List.getElem?_eq_some_iff.1 hu).1; rw [hz xs (List.mem_of_getElem? hj)] at this; exact this
    have hf := flat_get hz hj i hi
    rw [hu] at hf
    have hjl := (List.getElem?_eq_some_iff.1 hf).1
    rw [cell_of_row _ _ _ _ _ _ hg, Nat.zero_add]
    rw [← h3.2] at hf hjl
    rw [List.length_take] at hjl
    rw [List.getElem?_take_of_lt (by omega)] at hf
    simpa using hf
theorem insC_one (x : InsE) : ∀ u ∈ insC x, u.oneCell' = true := fun u hu => by
  unfold insC at hu
  simp only [List.mem_cons, List.not_mem_nil, or_false] at hu
  rcases hu with rfl | rfl | rfl | rfl | rfl | rfl <;> rfl
theorem app_ins {W : World} {base n : Nat} {v : Value} {xs : List Value} (h : W.ownsRow base 25 6 v n xs) {g : Nat} {x : InsE} {fr : Nat × Nat} {t : TypeId} (hg : W.heap[g]? = some (.cells (insC x).toArray t fr)) (hn : n ≤ 1000) (hb : base ≤ W.heap.size) (ty : TypeId) :
    ∃ v' w', (Builtin.append_ #[26, 26] ty #[v, .slice (some ⟨g, 0, none⟩) 1 1]).run Tryd.prog W = .ok v' w' ∧ w'.ownsRow base 25 6 v' (n + 1) (xs ++ insC x) ∧ W.grownBy w' v.ownBlock := by
  obtain ⟨i, hi⟩ : ∃ i, Tryd.prog.info? 25 = some i := ⟨_, rfl⟩
  obtain ⟨z, hz⟩ : ∃ z, i.zero = some z := by injection hi with hi; subst hi; exact ⟨_, rfl⟩
  have hs : i.size = 6 := by injection hi with hi; subst hi; rfl
  have hzs : z.cells.size = 6 := by injection hi with hi; subst hi; injection hz with hz; subst hz; rfl
  have hby : i.bytes ≤ 72 := by injection hi with hi; subst hi; decide
  obtain ⟨v', w', ap, ho', hg', _⟩ := run_append_own (P := Tryd.prog) W base 26 ty 25 i z 6 i.bytes Tryd.underlying26 hi hz hs rfl hzs (by omega) v n xs h ⟨g, 0, none⟩ 1 1 (insC x) rfl
    (fun j u hu => by rw [Addr.add_mid, cell_of_row _ _ _ _ _ _ hg, Nat.zero_add, List.getElem?_toArray]; exact hu) (insC_one x) (by simp only [maxLen]; omega)
    (by have : (n + 1) * i.bytes ≤ 1001 * 72 := Nat.mul_le_mul (by omega) hby; omega) hb
  exact ⟨v', w', ap, ho', hg'⟩
theorem insL_snoc (k : Nat) : insL (List.replicate (k + 1) cI) = insL (List.replicate k cI) ++ insC cI := by
  unfold insL
  rw [List.replicate_succ', List.map_append, List.flatten_append]
  simp
set_option maxRecDepth 100000 in
set_option maxHeartbeats 8000000 in
theorem pays_law {w : World} (hT : FldTab w) {v : Value} {b : List UInt8} (hb : ByAt w v b) (n : Int) (hn : -9223372036854775808 ≤ n ∧ n ≤ 9223372036854775807) :
    Calls Tryd.prog 5 #[v, .int .i64 n] w fun e w' => e = .returned (.bool true) ∧ Kept (fun _ => False) w w' := by
  obtain ⟨a, c, hv⟩ := hb.slc
  subst hv
  by_cases a1 : 300 < b.length
  · have d1 : (300 : Int) < (b.length : Int) := by omega
    go_enter Tryd.func5, Tryd.ntmps5
    go_wp2_with fail
    refine (known07_ct (hT.kept (Kept.refl _ w))).mono ?_
    rintro e Wk ⟨rfl, kk⟩
    go_wp2_with fail
    go_ret
    exact ⟨rfl, (Kept.refl _ w).trans kk⟩
  by_cases a2 : n < 0
  · have d1 : ¬ (300 : Int) < (b.length : Int) := by omega
    go_enter Tryd.func5, Tryd.ntmps5
    go_wp2_with fail
    refine (known07_ct (hT.kept (Kept.refl _ w))).mono ?_
    rintro e Wk ⟨rfl, kk⟩
    go_wp2_with fail
    go_ret
    exact ⟨rfl, (Kept.refl _ w).trans kk⟩
  by_cases a3 : 10 < n
  · have d1 : ¬ (300 : Int) < (b.length : Int) := by omega
    go_enter Tryd.func5, Tryd.ntmps5
    go_wp2_with fail
    refine (known07_ct (hT.kept (Kept.refl _ w))).mono ?_
    rintro e Wk ⟨rfl, kk⟩
    go_wp2_with fail
    go_ret
    exact ⟨rfl, (Kept.refl _ w).trans kk⟩
  obtain ⟨m, rfl⟩ := Int.eq_ofNat_of_zero_le (by omega : 0 ≤ n)
  have hm : m ≤ 10 := by omega
  have d1 : ¬ (300 : Int) < (b.length : Int) := by omega
  have d2 : ¬ (m : Int) < 0 := by omega
  have d3 : ¬ 10 < (m : Int) := by omega
  have hbl : b.length ≤ 300 := by omega
  clear a1 a2 a3
  go_enter Tryd.func5, Tryd.ntmps5
  go_wp2_with fail
  go_loopg [5, 22] m (fun gk s5 s22 wr => ∃ (k : Nat) (a5 : Option Addr) (c5 : Nat), gk = m - k ∧ k ≤ m ∧ s22 = .int .i64 k ∧ s5 = .slice a5 k c5 ∧ Hid (wr.ownsRow w.heap.size 25 6 (.slice a5 k c5) k (insL (List.replicate k cI))) ∧ Kept (fun _ => False) w wr)
  case atStart => exact ⟨0, none, 0, by omega, by omega, rfl, rfl, World.ownsRow_nil _ _ _ _, Kept.refl _ _⟩
  case round =>
    obtain ⟨k, a5, c5, rfl, hk, rfl, rfl, HO, hkr⟩ := hrel
    by_cases hlt : k < m
    · have d4 := bd_ab 1 pA outB wr
      have b4 := bs_i1 1 pA outB NUL 0 0 wr
      have k4 : Kept (fun _ => False) wr (wr.alloc (.cells #[.int .u8 1, .string pA, .string outB, .string NUL, .int .i64 0, .int .i64 0] 25)) := (Kept.refl _ wr).alloc _
      have h4 := heap_last wr (.cells #[.int .u8 1, .string pA, .string outB, .string NUL, .int .i64 0, .int .i64 0] 25)
      generalize wr.alloc (.cells #[.int .u8 1, .string pA, .string outB, .string NUL, .int .i64 0, .int .i64 0] 25) = W4 at b4 k4 h4
      obtain ⟨v', W5, ap, ho', hg'⟩ := app_ins (x := cI) (row_kept HO.out k4) h4 (by omega) (Nat.le_trans hkr.size k4.size) 26
      have kw4 := hkr.trans k4
      have kw5 : Kept (fun _ => False) w W5 := grown_kept kw4 hg' (fun i e => (World.ownsRow.lt HO.out i e).1)
      rw [← insL_snoc] at ho'
      obtain ⟨a6, c6, hv'⟩ := row_form ho'
      subst hv'
      have HN := Lib.hid ho'
      clear ho' hg' h4 HO
      unfold pA outB NUL at d4 b4
      go_wp2_with (first
        | (with_reducible refine wpl_build 25 _ rfl rfl ?_ d4 ?_
           · (go_simp <;> rfl)
           simp only [Act.put, List.getElem_toArray, List.getElem_cons_zero, List.getElem_cons_succ, List.setIfInBounds_toArray, List.set_cons_zero, List.set_cons_succ])
        | (with_reducible refine wpl_bslice 26 _ _ rfl rfl ?_ b4 ?_
           · (go_simp <;> rfl)
           simp only [Act.put, List.getElem_toArray, List.getElem_cons_zero, List.getElem_cons_succ, List.setIfInBounds_toArray, List.set_cons_zero, List.set_cons_succ])
        | (refine wpl_val rfl (exec_append 26 _ _ rfl rfl rfl ap) ?_))
      go_roundg (m - (k + 1))
      case rel => exact ⟨k + 1, a6, c6, rfl, by omega, by go_num, rfl, HN, kw5⟩
      case measure => omega
    · obtain rfl : k = m := by omega
      have hP : ProgAt wr (.slice a5 k c5) (List.replicate k cI) := ⟨RowAt.ownZ HO.out (insL_z _) (by simp) (by simp only [maxLen]; omega), fun x hx => by rw [List.eq_of_mem_replicate hx]; exact fits0 (by decide) (by decide) (by decide) (by decide) (by decide) (by decide)⟩
      have bf := build_f pA a b.length c wr
      have b3 := bslice_f1 pA a b.length c wr
      have k3 : Kept (fun _ => False) wr (wr.alloc (.cells #[.string pA, .slice a b.length c] 33)) := (Kept.refl _ wr).alloc _
      have h3 := heap_last wr (.cells #[.string pA, .slice a b.length c] 33)
      generalize wr.alloc (.cells #[.string pA, .slice a b.length c] 33) = W3 at b3 k3 h3
      have K3 := hkr.trans k3
      have hTr : TreeAt W3 (.slice (some ⟨wr.heap.size, 0, none⟩) 1 1) (L0 b) := tree1 (f := ⟨pA, b⟩) h3 (hb.kept K3) (by simp only [maxLen]; decide)
      have ec := exec_ct (hT.kept K3) (hP.kept k3) hTr 20000 (fun x hx ho => by rw [List.eq_of_mem_replicate hx] at ho; cases ho)
      obtain ⟨L', hx⟩ := pay_exec hbl hm
      rw [hx] at ec
      have hq : ((b.length : Int) + 15).tdiv 16 = (((b.length + 15) / 16 : Nat) : Int) := by
        rw [show (b.length : Int) + 15 = ((b.length + 15 : Nat) : Int) by omega, show (16 : Int) = ((16 : Nat) : Int) by rfl, Int.ofNat_tdiv]
      have hK0 : (0 : Int) ≤ (((b.length + 15) / 16 : Nat) : Int) := by omega
      have hK1 : (((b.length + 15) / 16 : Nat) : Int) ≤ 19 := by omega
      generalize (((b.length + 15) / 16 : Nat) : Int) = K at ec hq hK0 hK1
      have hp0 : (0 : Int) ≤ (k : Int) * (1 + K) := Int.mul_nonneg (by omega) (by omega)
      have hp1 : (k : Int) * (1 + K) ≤ 10 * 20 := Int.mul_le_mul (by omega) (by omega) (by omega) (by omega)
      generalize hPr : (k : Int) * (1 + K) = Pv at ec hp0 hp1
      clear h3 hP HO hTr hx
      unfold pA at bf b3
      go_wp2_with (first
        | (with_reducible refine wpl_build 33 _ rfl rfl ?_ bf ?_
           · (go_simp <;> rfl)
           simp only [Act.put, List.getElem_toArray, List.getElem_cons_zero, List.getElem_cons_succ, List.setIfInBounds_toArray, List.set_cons_zero, List.set_cons_succ])
        | (with_reducible refine wpl_bslice 28 _ _ rfl rfl ?_ b3 ?_
           · (go_simp <;> rfl)
           simp only [Act.put, List.getElem_toArray, List.getElem_cons_zero, List.getElem_cons_succ, List.setIfInBounds_toArray, List.set_cons_zero, List.set_cons_succ]))
      refine ec.mono ?_
      rintro e W4 ⟨⟨v4, rfl, ht4, _⟩, k4⟩
      obtain ⟨a4, c4, hv4⟩ := ht4.slc
      subst hv4
      have K4 := K3.trans k4
      clear bf b3 ec ht4
      go_wp2_with fail
      refine (known07_ct (hT.kept (K4))).mono ?_
      rintro e Wk ⟨rfl, kk⟩
      go_wp2_with fail
      go_ret
      exact ⟨rfl, (K4).trans kk⟩

/- The tables of the vm's rows (picked out of JL, JM); a world for the witness. -/
open Go.ChangeShapes Go.WideShapes Go.ChangeAt Go.RowKit

theorem i64_wf {n : Int} (h : (Lit.int .i64 n).wf = true) : -9223372036854775808 ≤ n ∧ n ≤ 9223372036854775807 := by
  simp only [Lit.wf, Bool.and_eq_true, decide_eq_true_eq] at h
  have h1 : -(2 ^ 63) ≤ n := h.1
  have h2 : n ≤ 2 ^ 63 - 1 := h.2
  omega
theorem one_cell {α : Type} {cs : List α} {i : Nat} (h : i < cs.length) : (cs.drop i).take 1 = [cs[i]] := by rw [List.drop_eq_getElem_cons h]; rfl
theorem gFld : Tryd.prog.globalNamed "murmuration/program.fields" = some 0 := by kernel_rfl
theorem gFldT : (Tryd.prog.globals[0]?).map (·.type) = some 59 := by kernel_rfl
theorem laid_flds {W : World} (h : Lib.VarReads Tryd.prog W "murmuration/program.fields" Rows.laid_murmuration_program_fields) : FldTab W := by
  obtain ⟨g, t, cs, fuel, p, h1, h2, h3, h4⟩ := h
  rw [gFld] at h1
  injection h1 with h1
  subst h1
  rw [gFldT] at h2
  injection h2 with h2
  subst h2
  unfold World.var? at h3
  rw [gFld] at h3
  simp only [Option.bind_some] at h3
  cases hb : W.heap[0]? with
  | none => rw [hb] at h3; cases h3
  | some o =>
    rw [hb] at h3
    cases o with
    | cells C T fr =>
      simp only [Option.some.injEq] at h3
      subst h3
      have hcs : Tryd.prog.cellsOf 9 = 1 := by kernel_rfl
      have hcc : Tryd.prog.cellsOf 59 = 12 := by kernel_rfl
      obtain ⟨xs, m, _, hx, hlen, hxl, hg⟩ := DataW.trod_array Tryd.underlying59 h4
      rw [hcc] at hlen
      refine ⟨(Array.getElem?_eq_some_iff.1 hb).1, fun k hk => ?_⟩
      have hgk := hg k hk
      rw [hcs, Nat.mul_one, one_cell (by omega), List.getElem?_eq_getElem (by omega)] at hgk
      obtain ⟨s, e1, e2, _⟩ := DataW.trod_string Tryd.underlying9 hgk
      simp only [List.cons.injEq, and_true] at e1
      have hd : (Rows.laid_murmuration_program_fields : DataW Unit) = .agg (xs.map (·.1)) := congrArg Prod.fst hx
      have hl : FLDS.map (fun l => (DataW.lit (.string l) : DataW Unit)) = xs.map (·.1) := by
        have : (Rows.laid_murmuration_program_fields : DataW Unit) = .agg (FLDS.map (fun l => (DataW.lit (.string l) : DataW Unit))) := rfl
        rw [this] at hd
        injection hd
      have hk2 := congrArg (fun l : List (DataW Unit) => l[k]?) hl
      simp only [List.getElem?_map] at hk2
      rw [List.getElem?_eq_getElem (show k < xs.length by omega)] at hk2
      have hfl : k < FLDS.length := hk
      rw [List.getElem?_eq_getElem hfl] at hk2
      simp only [Option.map_some, Option.some.injEq] at hk2
      rw [e2] at hk2
      simp only [DataW.lit.injEq, Lit.string.injEq] at hk2
      rw [cell_of_row _ _ _ _ _ _ hb]
      have hs : s = fld k := by
        apply ba_ext
        rw [data_toList, data_toList, ← hk2]
        unfold fld fldL
        rw [List.getD_eq_getElem?_getD, List.getElem?_eq_getElem hfl]; rfl
      rw [← hs, ← e1]
      have hC : k < C.size := by simpa using (show k < C.toList.length by omega)
      rw [Array.getElem?_eq_getElem hC]; simp
    | _ => cases h3
def laidP : List (String × DataW Unit) := [("unicode/utf8.acceptRanges", Rows.laid_unicode_utf8_acceptRanges), ("murmuration/program.fields", Rows.laid_murmuration_program_fields), ("unicode/utf8.first", Rows.laid_unicode_utf8_first)]
theorem flds_of {W : World} (h : laidMetH Tryd.prog laidP W) : FldTab W := by
  have h' : laidMet Tryd.prog laidP W := h
  exact laid_flds (Lib.laidMet.reads h' (n := "murmuration/program.fields") (d := Rows.laid_murmuration_program_fields) (by unfold laidP; simp))
def layFirst : Obj → Obj
  | .cells _ t frozen => .cells (Lib.firstTab.map fun z => Value.int .u8 z).toArray t frozen
  | o => o
def layAcc : Obj → Obj
  | .cells _ t frozen => .cells ((List.range 16).flatMap fun i => [Value.int .u8 (Lib.accLo i), Value.int .u8 (Lib.accHi i)]).toArray t frozen
  | o => o
def layFld : Obj → Obj
  | .cells _ t frozen => .cells (FLDS.map fun l => Value.string ⟨l.toArray⟩).toArray t frozen
  | o => o
noncomputable def laidHeap (os : Os) : Array Obj := Array.modify (Array.modify (Array.modify (World.holding Tryd.prog os ⟨#[], #[], []⟩).heap 2 layFirst) 3 layAcc) 0 layFld
/-- A world for the witness: the settled one, the tables holding what the text lays. -/
noncomputable def laidWorld (os : Os) : World := { World.holding Tryd.prog os ⟨#[], #[], []⟩ with heap := laidHeap os }

/- 'Rows.VmPaysCardSaid': a program of copies alone uses a unit for each, and one for each 16 bytes of each, begun or whole; whatever the bytes and the number. The library's and the program's tables listed start as their text lays them (the card ties them). No other condition. -/
open Go.ChangeShapes Go.WideShapes Go.ChangeAt Go.ChangeMaps Go.RowKit

theorem laid_pays : Rows.vmPaysRow.laid = laidP := by kernel_rfl
set_option maxRecDepth 100000 in
theorem pays_contract (H : Type) (enc : TypeId × Value → H) (W : World) (base : Nat) (args : Array Value) (ds gs : List (DataW H)) (before : List MemPlace)
    (hval : ∀ (j : Nat) t v, Tryd.f5.params[j]? = some t → args[j]? = some v → Value.okWide Tryd.prog W .any base t v)
    (hW : DataW.Whole enc Tryd.prog Tryd.f5.params.toList Rows.vmPaysSpec.vars false W args.toList ds gs before) (hL : laidMetH Tryd.prog Rows.vmPaysRow.laid W) :
    Calls Tryd.prog 5 args W fun e W' => ∃ v, e = .returned v ∧ Rows.vmPaysSpec.post enc Tryd.prog Tryd.f5 false true false false W args v W' := by
  rw [laid_pays] at hL
  have hT := flds_of hL
  have hW' := hW
  obtain ⟨p, q, hA0, hV, rfl, hfz, hnd⟩ := hW
  have hA : DataW.TrodAll enc Tryd.prog W 0 (fun _ => true) true Tryd.f5.params.toList args.toList ds p := hA0
  rw [Tryd.params5] at hA hval
  obtain ⟨v0, vs0, d0, ds0, p0, q0, hargs, rfl, rfl, h0, r0⟩ := trodAll_cons hA
  obtain ⟨v1, vs1, d1, ds1, p1, q1, rfl, rfl, rfl, h1, r1⟩ := trodAll_cons r0
  obtain ⟨rfl, rfl, rfl⟩ := trodAll_nil r1
  obtain rfl : args = #[v0, v1] := by cases args; simp_all
  obtain ⟨rfl, rfl⟩ := trodVars_none hV
  have k0 := h0
  have lt0 : ∀ x ∈ p0, x.block < W.heap.size := by obtain ⟨m, hm⟩ := k0; exact DataW.trod_lt m _ _ _ hm
  obtain ⟨l0, hb0⟩ : ∃ l : List UInt8, ByAt W v0 l := by
    obtain ⟨fuel, hf⟩ := k0
    obtain ⟨a, n, cap, rfl⟩ := okWide_slice Tryd.underlying22 (hval 0 22 v0 rfl rfl)
    obtain ⟨v, l, e, ho⟩ := bytes_open hf
    have e : [Value.slice a n cap] = [v] := e
    injection e with e
    exact ⟨l, e ▸ ho.1⟩
  obtain ⟨a1, rfl, rfl, rfl, w1⟩ := open_int Tryd.underlying3 (hval 1 3 v1 rfl rfl) h1
  clear hA0
  refine (pays_law hT hb0 a1 (i64_wf w1)).mono fun e W' ⟨he, hk⟩ => ?_
  subst he
  have bel : Below W.heap.size W W' := hk.below (Nat.le_refl _) (fun _ q => q.elim)
  exact ⟨_, rfl, _, _, _, [], _, [], hW', trodAll_mk1 (shut_bool Tryd.underlying4 _), (trodAll_cons_mk (Below.trod Tryd.laidOut (by kernel_rfl) (of_decide_eq_true (by kernel_rfl)) k0 bel lt0) (trodAll_cons_mk (shut_int Tryd.underlying3 w1) trodAll_mk0)), rfl, bel.frame _, fun h => by cases h⟩
theorem pays_met (os : Os) : laidMet Tryd.prog Rows.vmPaysRow.laid ((laidWorld os).forCall (fun _ _ => 0) ⟨#[], #[.slice none 0 0, .int .i64 0], []⟩).memory :=
  laidMet_of_run' 8 (by kernel_rfl) (by kernel_rfl)
theorem pays_reads (os : Os) {H : Type} (enc : TypeId × Value → H) : ∃ places, DataW.whole enc Tryd.prog ((laidWorld os).forCall (fun _ _ => 0) ⟨#[], #[.slice none 0 0, .int .i64 0], []⟩).memory Tryd.f5.params.toList Rows.vmPaysSpec.vars false (#[.slice none 0 0, .int .i64 0] : Array Value).toList 8 = some ([.nil, .lit (.int .i64 0)], [], places) :=
  ⟨[], by kernel_rfl⟩
theorem pays_lifted (os : Os) (started : os.Started) (H : Type) (enc : TypeId × Value → H) (F : Stop.Interp) :
    ReturnsInHanded {} Tryd.checked os 5 .any ((OpenSpec.ofChange Rows.vmPaysSpec).preRow enc Tryd.prog Tryd.f5 Rows.vmPaysRow.domain false Rows.vmPaysRow.laid) (((OpenSpec.ofChange Rows.vmPaysSpec).at F).post enc Tryd.prog Tryd.f5 false true false false) := by
  obtain ⟨places, hx⟩ := pays_reads os enc
  refine returnsInHanded_of_row (C := Tryd.checked) (s := OpenSpec.ofChange Rows.vmPaysSpec) Tryd.own started (by kernel_rfl) Tryd.func5
    (witness_row_at (enc := enc) (C := Tryd.checked) false (laidWorld os) #[.slice none 0 0, .int .i64 0] rfl (by kernel_rfl) (by kernel_rfl) (by kernel_rfl)
      (OpenSpec.preRow_of_cond 8 hx (by kernel_rfl) (fun k hk => by cases hk) (by kernel_rfl) (pays_met os))) ?_
  intro W base args ds gs before hval hW _ _ _ hL _ _
  exact pays_contract H enc W base args ds gs before hval hW hL
theorem pays_said : Rows.VmPaysSaid :=
  OpenClaim.holds_of_cond 5 Tryd.f5 rfl rfl rfl rfl rfl rfl rfl ⟨rfl, rfl, rfl, rfl, rfl⟩ rfl rfl rfl rfl rfl (by kernel_rfl) Tryd.func5 (by kernel_rfl)
    (of_decide_eq_true (by kernel_rfl)) (by unfold Func.isWrapper; first | (rw [if_pos (by decide +kernel)]; kernel_rfl) | (rw [if_neg (by decide +kernel)]; exact ⟨rfl, rfl⟩))
    (fun os started H enc _ F => by rw [OpenClaim.pre_eq_preRow]; exact pays_lifted os started H enc F)
theorem pays_plain (f : FuncId) (fn : Func) (hf : Tryd.pinned.checked.prog.funcNamed "murmuration/murmurationlaw07.VmPays" = some f) (hfn : Tryd.pinned.checked.prog.funcs[f]? = some fn) :
    true = Tryd.pinned.checked.prog.looks [] ∧ ∀ (j : Nat) t, fn.params[j]? = some t → Tryd.pinned.checked.prog.wantsStandIn t = false := by
  obtain rfl : f = 5 := Option.some.inj ((show Tryd.prog.funcNamed "murmuration/murmurationlaw07.VmPays" = some 5 by kernel_rfl).symm.trans hf) |>.symm
  obtain rfl : fn = Tryd.f5 := (Option.some.inj (Tryd.func5.symm.trans hfn)).symm
  refine ⟨by kernel_rfl, fun j t ht => ?_⟩
  rw [Tryd.params5] at ht
  have hm : t = 22 ∨ t = 3 := by simpa using Array.mem_of_getElem? ht
  rcases hm with rfl | rfl
  · exact (show Tryd.prog.wantsStandIn 22 = false by kernel_rfl)
  · exact (show Tryd.prog.wantsStandIn 3 = false by kernel_rfl)
theorem vmPays_card : Rows.VmPaysCardSaid :=
  Claim7.holds_tied_plain_at .later [] _ _ _ _ pays_said (fun _ h => by cases h) (by kernel_rfl) (fun _ h => by cases h) vmPays_row_tie rfl ⟨rfl, rfl⟩ (by kernel_rfl) rfl pays_plain (by kernel_rfl)
#print axioms vmPays_card

end Go.Proofs.YthachckofghppaaDoor
