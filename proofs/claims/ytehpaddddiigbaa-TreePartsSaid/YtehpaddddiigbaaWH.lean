/- The document's made, With, Under. -/
import Derived.Test.YtehpaddddiigbaaWG
import Derived.Test.YtehpaddddiigbaaWE
namespace Go.Proofs.Ytehpaddddiigbaa
open Go.RowKit
set_option linter.unusedSimpArgs false
set_option linter.unusedVariables false

set_option maxHeartbeats 1000000 in
theorem rMade_ct {w : World} {v : Value} {l : List FileE} (h : TreeAt w v l) :
    Calls Try.prog 53 #[v] w fun e w' => ((mayB l = true ∧ e = .returned (.tuple #[v, .int .i64 0])) ∨ (mayB l = false ∧ e = .returned (.tuple #[.slice none 0 0, .int .i64 8]))) ∧ Kept (fun _ => False) w w' := by
  have mc := rMay_ct h
  obtain ⟨a, c, hv⟩ := h.slc
  subst hv
  generalize mayB l = m at mc
  cases m with
  | true =>
    go_enter Try.func53, Try.ntmps53
    go_wp2_with fail
    refine (mc).mono ?_
    rintro e W ⟨rfl, k1⟩
    go_wp2_with fail
    go_ret2
    exact ⟨.inl ⟨by trivial, rfl⟩, k1⟩
  | false =>
    go_enter Try.func53, Try.ntmps53
    go_wp2_with fail
    refine (mc).mono ?_
    rintro e W ⟨rfl, k1⟩
    go_wp2_with fail
    go_ret2
    exact ⟨.inr ⟨by trivial, rfl⟩, k1⟩
def withC (l : List FileE) (s : ByteArray) (b : List UInt8) : Nat := if (mayB l && pathB s) = false then 2 else if mayB (withL l s b) = false then 8 else 0
/-- A tree, or the error c. -/
def TreeOut (c : Nat) (l : List FileE) (w : World) (e : Ending) : Prop :=
  (c ≠ 0 ∧ e = .returned (.tuple #[.slice none 0 0, .int .i64 c])) ∨ (c = 0 ∧ ∃ v', e = .returned (.tuple #[v', .int .i64 0]) ∧ TreeAt w v' l)
def TreeOutS (base c : Nat) (l : List FileE) (w : World) (e : Ending) : Prop :=
  (c ≠ 0 ∧ e = .returned (.tuple #[.slice none 0 0, .int .i64 c])) ∨ (c = 0 ∧ ∃ v', e = .returned (.tuple #[v', .int .i64 0]) ∧ TreeAt w v' l ∧ OwnT base w v' l.length)
set_option maxRecDepth 100000 in
set_option maxHeartbeats 2000000 in
theorem rWith_ct {w : World} {v x : Value} {l : List FileE} (h : TreeAt w v l) (s : ByteArray) (hs : s.size ≤ maxLen) {b : List UInt8} (hb : ByAt w x b) :
    Calls Try.prog 28 #[v, .string s, x] w fun e w' => TreeOut (withC l s b) (withL l s b) w' e ∧ Kept (fun _ => False) w w' := by
  have mc := rMay_ct h
  have ip := fun w' => rIsPath_ct s w' hs
  obtain ⟨a, c, hv⟩ := h.slc
  subst hv
  obtain ⟨ax, cx, hvx⟩ := hb.slc
  subst hvx
  cases hm : mayB l with
  | false =>
    have hc : withC l s b = 2 := by unfold withC; rw [hm]; simp
    rw [hm] at mc
    rw [hc]
    clear hc hm
    go_enter Try.func28, Try.ntmps28
    go_wp2_with fail
    refine (mc).mono ?_
    rintro e W ⟨rfl, k1⟩
    go_wp2_with fail
    go_ret2
    exact ⟨.inl ⟨by omega, rfl⟩, k1⟩
  | true =>
    rw [hm] at mc
    cases hp : pathB s with
    | false =>
      have hc : withC l s b = 2 := by unfold withC; rw [hp]; simp
      rw [hp] at ip
      rw [hc]
      clear hc hm hp
      go_enter Try.func28, Try.ntmps28
      go_wp2_with fail
      refine (mc).mono ?_
      rintro e W ⟨rfl, k1⟩
      go_wp2_with fail
      refine (ip _).mono ?_
      rintro e W2 ⟨rfl, hW2⟩
      subst hW2
      go_wp2_with fail
      go_ret2
      exact ⟨.inl ⟨by omega, rfl⟩, k1⟩
    | true =>
      have hl16 := (mayIs hm).len
      have hput := put_with (mayB_iff.1 hm).2.2.1 s b
      have hc : withC l s b = if mayB (withL l s b) = false then 8 else 0 := by unfold withC; rw [hm, hp]; simp
      rw [hp] at ip
      obtain ⟨cz, hcz⟩ : ∃ cz, cz = (if mayB (withL l s b) = false then 8 else 0) := ⟨_, rfl⟩
      rw [hc, ← hcz]
      have HCZ := Lib.hid hcz
      clear hc hm hp hcz
      have pc := fun w' (k : Kept (fun _ => False) w w') => rPut_ct (h.kept k) hs (hb.kept k) (by omega)
      rw [hput] at pc
      have bf := build_f s ax b.length cx
      clear hput
      generalize withL l s b = u at *
      go_enter Try.func28, Try.ntmps28
      go_wp2_with fail
      refine (mc).mono ?_
      rintro e W ⟨rfl, k1⟩
      go_wp2_with fail
      refine (ip _).mono ?_
      rintro e W2 ⟨rfl, hW2⟩
      subst hW2
      have bf2 := bf W2
      have pc2 := pc W2 k1
      clear bf pc
      go_wp2_with (first
        | (with_reducible refine wpl_build 43 _ rfl rfl ?_ bf2 ?_
           · (go_simp <;> rfl)
           simp only [Act.put, List.getElem_toArray, List.getElem_cons_zero, List.getElem_cons_succ, List.setIfInBounds_toArray, List.set_cons_zero, List.set_cons_succ]))
      refine pc2.mono ?_
      rintro e W3 ⟨v3, rfl, h3, k3⟩
      have md := rMade_ct h3
      obtain ⟨a3, c3, hv3⟩ := h3.slc
      subst hv3
      clear pc2
      go_wp2_with fail
      refine md.mono ?_
      rintro e W4 ⟨hr, k4⟩
      rcases hr with ⟨hm, rfl⟩ | ⟨hm, rfl⟩
      · go_wp2_with fail
        go_ret2
        exact ⟨.inr ⟨by rw [HCZ.out, hm]; rfl, _, rfl, h3.kept k4⟩, (k1.trans k3).trans k4⟩
      · go_wp2_with fail
        go_ret2
        exact ⟨.inl ⟨by rw [HCZ.out, hm]; simp, by rw [HCZ.out, hm]; rfl⟩, (k1.trans k3).trans k4⟩
end Go.Proofs.Ytehpaddddiigbaa
