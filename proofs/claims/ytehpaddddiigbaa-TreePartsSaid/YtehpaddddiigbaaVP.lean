/- Under as a function; TreeUnder's walk. -/
import Derived.Test.YtehpaddddiigbaaVM
namespace Go.Proofs.Ytehpaddddiigbaa
open Go.RowKit
set_option linter.unusedSimpArgs false
set_option linter.unusedVariables false

def underC (l : List FileE) (d : ByteArray) : Nat := if (mayB l && pathB d) = false then 2 else if mayB (l.map (upF d)) = false then 8 else 0
def UnderOut (l : List FileE) (d : ByteArray) (w : World) (e : Ending) : Prop :=
  (underC l d ≠ 0 ∧ e = .returned (.tuple #[.slice none 0 0, .int .i64 (underC l d)])) ∨ (underC l d = 0 ∧ ∃ v', e = .returned (.tuple #[v', .int .i64 0]) ∧ TreeAt w v' (l.map (upF d)))
theorem under_out {w : World} {v : Value} {l : List FileE} (h : TreeAt w v l) (d : ByteArray) (hd : d.size ≤ maxLen) :
    Calls Try.prog 18 #[v, .string d] w fun e w' => UnderOut l d w' e ∧ Kept (fun _ => False) w w' := by
  refine (under_any h d hd).mono fun e w' ⟨h1, h2⟩ => ⟨?_, h2⟩
  unfold UnderOut underC
  rcases h1 with ⟨q, he⟩ | ⟨q, q2, he⟩ | ⟨q, q2, v', he, ht⟩
  · rw [if_pos q]; exact .inl ⟨by omega, he⟩
  · rw [if_neg (by rw [q]; simp), if_pos q2]; exact .inl ⟨by omega, he⟩
  · rw [if_neg (by rw [q]; simp), if_neg (by rw [q2]; simp)]; exact .inr ⟨rfl, v', he, ht⟩
theorem underC_zero {l : List FileE} {d : ByteArray} : underC l d = 0 ↔ mayB l = true ∧ pathB d = true ∧ mayB (l.map (upF d)) = true := by
  unfold underC
  cases mayB l <;> cases pathB d <;> cases mayB (l.map (upF d)) <;> simp
theorem under_two {l : List FileE} {a b : ByteArray} (h1 : underC l b = 0) (h2 : underC (l.map (upF b)) a = 0) : (a.size + b.size + 1 ≤ 40 ↔ underC l (slashed a b) = 0) := by
  obtain ⟨q1, q2, q3⟩ := underC_zero.1 h1
  obtain ⟨_, q4, q5⟩ := underC_zero.1 h2
  rw [up_two] at q5
  rw [underC_zero, path_slashed, q2, q4, q5, q1]
  simp
theorem under_join {la lb o : List FileE} {d : ByteArray} (hj : Joined la lb o) (hu : underC o d = 0) : underC lb d = 0 ∧ Joined (la.map (upF d)) (lb.map (upF d)) (o.map (upF d)) := by
  obtain ⟨_, q2, q3⟩ := underC_zero.1 hu
  have m1 := up_part hj.may1 q3 (fun f hf => hj.perm.mem_iff.2 (List.mem_append.2 (.inl hf)))
  have m2 := up_part hj.may2 q3 (fun f hf => hj.perm.mem_iff.2 (List.mem_append.2 (.inr hf)))
  refine ⟨underC_zero.2 ⟨hj.may2, q2, m2⟩, ⟨m1, m2, q3, ?_⟩⟩
  rw [← List.map_append]
  exact hj.perm.map _


set_option maxRecDepth 100000 in
set_option maxHeartbeats 8000000 in
theorem tunder_law {w : World} {va vb : Value} {la lb : List FileE} (ha : TreeAt w va la) (hb : TreeAt w vb lb) (one : ByteArray) (h1 : one.size ≤ maxLen) (two : ByteArray) (h2 : two.size ≤ maxLen) :
    Calls Try.prog 7 #[va, vb, .string one, .string two] w fun e w' => e = .returned (.bool true) ∧ Kept (fun _ => False) w w' := by
  have z1 := h1
  have z2 := h2
  simp only [maxLen] at z1 z2
  obtain ⟨a, c, hv⟩ := ha.slc
  subst hv
  obtain ⟨a2, c2, hv2⟩ := hb.slc
  subst hv2
  by_cases q1 : 100 < one.size
  · have d1 : decide ((100 : Int) < (one.size : Int)) = true := decide_eq_true (by omega)
    go_enter Try.func7, Try.ntmps7
    go_wp2_with fail
    refine (great_ct ha).mono ?_
    rintro e W ⟨⟨g, rfl⟩, k1⟩
    cases g with
    | true =>
      go_wp2_with fail
      refine (known_ct _).mono ?_
      rintro e W9 ⟨rfl, k9⟩
      go_wp2_with fail
      go_ret
      exact ⟨rfl, (k1).trans k9⟩
    | false =>
      go_wp2_with fail
      refine (great_ct (hb.kept k1)).mono ?_
      rintro e W2 ⟨⟨g, rfl⟩, k2⟩
      cases g with
      | true =>
        go_wp2_with fail
        refine (known_ct _).mono ?_
        rintro e W9 ⟨rfl, k9⟩
        go_wp2_with fail
        go_ret
        exact ⟨rfl, (k1.trans k2).trans k9⟩
      | false =>
        go_wp2_with fail
        refine (known_ct _).mono ?_
        rintro e W9 ⟨rfl, k9⟩
        go_wp2_with fail
        go_ret
        exact ⟨rfl, (k1.trans k2).trans k9⟩
  have d1 : decide ((100 : Int) < (one.size : Int)) = false := decide_eq_false (by omega)
  by_cases q2 : 100 < two.size
  · have d2 : decide ((100 : Int) < (two.size : Int)) = true := decide_eq_true (by omega)
    go_enter Try.func7, Try.ntmps7
    go_wp2_with fail
    refine (great_ct ha).mono ?_
    rintro e W ⟨⟨g, rfl⟩, k1⟩
    cases g with
    | true =>
      go_wp2_with fail
      refine (known_ct _).mono ?_
      rintro e W9 ⟨rfl, k9⟩
      go_wp2_with fail
      go_ret
      exact ⟨rfl, (k1).trans k9⟩
    | false =>
      go_wp2_with fail
      refine (great_ct (hb.kept k1)).mono ?_
      rintro e W2 ⟨⟨g, rfl⟩, k2⟩
      cases g with
      | true =>
        go_wp2_with fail
        refine (known_ct _).mono ?_
        rintro e W9 ⟨rfl, k9⟩
        go_wp2_with fail
        go_ret
        exact ⟨rfl, (k1.trans k2).trans k9⟩
      | false =>
        go_wp2_with fail
        refine (known_ct _).mono ?_
        rintro e W9 ⟨rfl, k9⟩
        go_wp2_with fail
        go_ret
        exact ⟨rfl, (k1.trans k2).trans k9⟩
  have d2 : decide ((100 : Int) < (two.size : Int)) = false := decide_eq_false (by omega)
  have h3 : (two ++ ⟨#[47]⟩ ++ one).size ≤ maxLen := by rw [ByteArray.size_append, ByteArray.size_append]; simp only [maxLen]; show two.size + 1 + one.size ≤ _; omega
  go_enter Try.func7, Try.ntmps7
  go_wp2_with fail
  refine (great_ct ha).mono ?_
  rintro e W ⟨⟨g, rfl⟩, k1⟩
  cases g with
  | true =>
    go_wp2_with fail
    refine (known_ct _).mono ?_
    rintro e W9 ⟨rfl, k9⟩
    go_wp2_with fail
    go_ret
    exact ⟨rfl, (k1).trans k9⟩
  | false =>
    go_wp2_with fail
    refine (great_ct (hb.kept k1)).mono ?_
    rintro e W2 ⟨⟨g, rfl⟩, k2⟩
    have K2 := k1.trans k2
    clear k1 k2
    cases g with
    | true =>
      go_wp2_with fail
      refine (known_ct _).mono ?_
      rintro e W9 ⟨rfl, k9⟩
      go_wp2_with fail
      go_ret
      exact ⟨rfl, (K2).trans k9⟩
    | false =>
      go_wp2_with fail
      refine (under_out (ha.kept K2) one h1).mono ?_
      rintro e WX ⟨hx, kx⟩
      have KX := K2.trans kx
      rcases hx with ⟨hcx, rfl⟩ | ⟨hcx, vx, rfl, hx⟩
      · generalize underC la one = cc at hcx
        have e1 : ((cc : Int) == 0) = false := by simp; omega
        have e1n : ((cc : Int) != 0) = true := by simp; omega
        go_wp2_with fail
        refine (joined_ct (ha.kept (KX)) (hb.kept (KX))).mono ?_
        rintro e WJ ⟨hj, kj⟩
        have KJ := (KX).trans kj
        rcases hj with ⟨hc, rfl⟩ | ⟨hc, vj, rfl, hj⟩
        · go_wp2_with fail
          refine (known_ct _).mono ?_
          rintro e W9 ⟨rfl, k9⟩
          go_wp2_with fail
          go_ret
          exact ⟨rfl, (KJ).trans k9⟩
        · obtain ⟨aj, cj, hvj⟩ := hj.slc
          subst hvj
          clear hj hc
          go_wp2_with fail
          refine (known_ct _).mono ?_
          rintro e W9 ⟨rfl, k9⟩
          go_wp2_with fail
          go_ret
          exact ⟨rfl, (KJ).trans k9⟩
      · obtain ⟨ax, cx, hvx⟩ := hx.slc
        subst hvx
        rw [List.length_map] at hx
        go_wp2_with fail
        refine (under_out hx two h2).mono ?_
        rintro e WY ⟨hy, ky⟩
        have KY := KX.trans ky
        rcases hy with ⟨hcy, rfl⟩ | ⟨hcy, vy, rfl, hy⟩
        · generalize underC (la.map (upF one)) two = cc at hcy
          have e1 : ((cc : Int) == 0) = false := by simp; omega
          go_wp2_with fail
          refine (under_out (ha.kept KY) _ h3).mono ?_
          rintro e WZ ⟨hz, kz⟩
          have KZ := KY.trans kz
          rcases hz with ⟨hcz, rfl⟩ | ⟨hcz, vz, rfl, hz⟩
          · generalize underC la (two ++ ⟨#[47]⟩ ++ one) = cz at hcz
            go_wp2_with fail
            refine (joined_ct (ha.kept (KZ)) (hb.kept (KZ))).mono ?_
            rintro e WJ ⟨hj, kj⟩
            have KJ := (KZ).trans kj
            rcases hj with ⟨hc, rfl⟩ | ⟨hc, vj, rfl, hj⟩
            · generalize joinC la lb = cc at hc
              have e2 : ((cc : Int) != 0) = true := by simp; omega
              go_wp2_with fail
              refine (known_ct _).mono ?_
              rintro e W9 ⟨rfl, k9⟩
              go_wp2_with fail
              go_ret
              exact ⟨rfl, (KJ).trans k9⟩
            · obtain ⟨aj, cj, hvj⟩ := hj.slc
              subst hvj
              have hjd := joinC_zero hc
              generalize joinO la lb = o at hj hjd
              clear hc
              go_wp2_with fail
              refine (under_out (hb.kept KJ) one h1).mono ?_
              rintro e WU ⟨hu, ku⟩
              have KU := KJ.trans ku
              rcases hu with ⟨hcu, rfl⟩ | ⟨hcu, vu, rfl, hu⟩
              · go_wp2_with fail
                refine (under_out (hj.kept ku) one h1).mono ?_
                rintro e WV ⟨hv, kv⟩
                have KV := KU.trans kv
                rcases hv with ⟨hcv, rfl⟩ | ⟨hcv, _⟩
                · generalize underC o one = cc at hcv
                  have e2 : ((cc : Int) != 0) = true := by simp; omega
                  go_wp2_with fail
                  refine (known_ct _).mono ?_
                  rintro e W9 ⟨rfl, k9⟩
                  go_wp2_with fail
                  go_ret
                  exact ⟨rfl, (KV).trans k9⟩
                · exact absurd (under_join hjd hcv).1 hcu
              · obtain ⟨au, cu, hvu⟩ := hu.slc
                subst hvu
                rw [List.length_map] at hu
                go_wp2_with fail
                refine (under_out (hj.kept ku) one h1).mono ?_
                rintro e WV ⟨hv, kv⟩
                have KV := KU.trans kv
                rcases hv with ⟨hcv, rfl⟩ | ⟨hcv, vv, rfl, hv⟩
                · generalize underC o one = cc at hcv
                  have e2 : ((cc : Int) != 0) = true := by simp; omega
                  go_wp2_with fail
                  refine (known_ct _).mono ?_
                  rintro e W9 ⟨rfl, k9⟩
                  go_wp2_with fail
                  go_ret
                  exact ⟨rfl, (KV).trans k9⟩
                · obtain ⟨av, cv, hvv⟩ := hv.slc
                  subst hvv
                  rw [List.length_map] at hv
                  have hj2 := (under_join hjd hcv).2
                  have jc := joined_c hj2
                  have hol := (mayIs hj2.may).len
                  go_wp2_with fail
                  refine (joined_ct (hx.kept ((ky.trans kz).trans (kj.trans (ku.trans kv)))) (hu.kept kv)).mono ?_
                  rintro e WW ⟨hw, kw⟩
                  have KW := KV.trans kw
                  rcases hw with ⟨hcw, _⟩ | ⟨_, vw, rfl, hw⟩
                  · exact absurd jc.1 hcw
                  · rw [jc.2] at hw
                    obtain ⟨aw, cw, hvw⟩ := hw.slc
                    subst hvw
                    rw [List.length_map] at hw
                    rw [List.length_map] at hol
                    have sc := same_ct (hv.kept kw) hw (by rw [List.length_map]; omega) (by rw [List.length_map]; omega)
                    rw [sameB_rfl] at sc
                    clear hw hv hu hj
                    go_wp2_with fail
                    refine sc.mono ?_
                    rintro e WS ⟨rfl, ks⟩
                    go_wp2_with fail
                    refine (known_ct _).mono ?_
                    rintro e W9 ⟨rfl, k9⟩
                    go_wp2_with fail
                    go_ret
                    exact ⟨rfl, (KW.trans ks).trans k9⟩
          · obtain ⟨az, cz, hvz⟩ := hz.slc
            subst hvz
            clear hz
            go_wp2_with fail
            refine (joined_ct (ha.kept (KZ)) (hb.kept (KZ))).mono ?_
            rintro e WJ ⟨hj, kj⟩
            have KJ := (KZ).trans kj
            rcases hj with ⟨hc, rfl⟩ | ⟨hc, vj, rfl, hj⟩
            · generalize joinC la lb = cc at hc
              have e2 : ((cc : Int) != 0) = true := by simp; omega
              go_wp2_with fail
              refine (known_ct _).mono ?_
              rintro e W9 ⟨rfl, k9⟩
              go_wp2_with fail
              go_ret
              exact ⟨rfl, (KJ).trans k9⟩
            · obtain ⟨aj, cj, hvj⟩ := hj.slc
              subst hvj
              have hjd := joinC_zero hc
              generalize joinO la lb = o at hj hjd
              clear hc
              go_wp2_with fail
              refine (under_out (hb.kept KJ) one h1).mono ?_
              rintro e WU ⟨hu, ku⟩
              have KU := KJ.trans ku
              rcases hu with ⟨hcu, rfl⟩ | ⟨hcu, vu, rfl, hu⟩
              · go_wp2_with fail
                refine (under_out (hj.kept ku) one h1).mono ?_
                rintro e WV ⟨hv, kv⟩
                have KV := KU.trans kv
                rcases hv with ⟨hcv, rfl⟩ | ⟨hcv, _⟩
                · generalize underC o one = cc at hcv
                  have e2 : ((cc : Int) != 0) = true := by simp; omega
                  go_wp2_with fail
                  refine (known_ct _).mono ?_
                  rintro e W9 ⟨rfl, k9⟩
                  go_wp2_with fail
                  go_ret
                  exact ⟨rfl, (KV).trans k9⟩
                · exact absurd (under_join hjd hcv).1 hcu
              · obtain ⟨au, cu, hvu⟩ := hu.slc
                subst hvu
                rw [List.length_map] at hu
                go_wp2_with fail
                refine (under_out (hj.kept ku) one h1).mono ?_
                rintro e WV ⟨hv, kv⟩
                have KV := KU.trans kv
                rcases hv with ⟨hcv, rfl⟩ | ⟨hcv, vv, rfl, hv⟩
                · generalize underC o one = cc at hcv
                  have e2 : ((cc : Int) != 0) = true := by simp; omega
                  go_wp2_with fail
                  refine (known_ct _).mono ?_
                  rintro e W9 ⟨rfl, k9⟩
                  go_wp2_with fail
                  go_ret
                  exact ⟨rfl, (KV).trans k9⟩
                · obtain ⟨av, cv, hvv⟩ := hv.slc
                  subst hvv
                  rw [List.length_map] at hv
                  have hj2 := (under_join hjd hcv).2
                  have jc := joined_c hj2
                  have hol := (mayIs hj2.may).len
                  go_wp2_with fail
                  refine (joined_ct (hx.kept ((ky.trans kz).trans (kj.trans (ku.trans kv)))) (hu.kept kv)).mono ?_
                  rintro e WW ⟨hw, kw⟩
                  have KW := KV.trans kw
                  rcases hw with ⟨hcw, _⟩ | ⟨_, vw, rfl, hw⟩
                  · exact absurd jc.1 hcw
                  · rw [jc.2] at hw
                    obtain ⟨aw, cw, hvw⟩ := hw.slc
                    subst hvw
                    rw [List.length_map] at hw
                    rw [List.length_map] at hol
                    have sc := same_ct (hv.kept kw) hw (by rw [List.length_map]; omega) (by rw [List.length_map]; omega)
                    rw [sameB_rfl] at sc
                    clear hw hv hu hj
                    go_wp2_with fail
                    refine sc.mono ?_
                    rintro e WS ⟨rfl, ks⟩
                    go_wp2_with fail
                    refine (known_ct _).mono ?_
                    rintro e W9 ⟨rfl, k9⟩
                    go_wp2_with fail
                    go_ret
                    exact ⟨rfl, (KW.trans ks).trans k9⟩
        · obtain ⟨ay, cy, hvy⟩ := hy.slc
          subst hvy
          rw [List.length_map, List.length_map] at hy
          have h40 := under_two hcx hcy
          go_wp2_with fail
          refine (under_out (ha.kept KY) _ h3).mono ?_
          rintro e WZ ⟨hz, kz⟩
          have KZ := KY.trans kz
          rcases hz with ⟨hcz, rfl⟩ | ⟨hcz, vz, rfl, hz⟩
          · have h41 : ¬ two.size + one.size + 1 ≤ 40 := fun q => hcz (h40.1 q)
            have d4 : decide ((two.size : Int) + (one.size : Int) + 1 ≤ 40) = false := decide_eq_false (by omega)
            generalize underC la (two ++ ⟨#[47]⟩ ++ one) = cz at hcz
            have e1 : ((cz : Int) == 0) = false := by simp; omega
            have e1n : ((cz : Int) != 0) = true := by simp; omega
            clear hy h40 h41
            go_wp2_with fail
            refine (joined_ct (ha.kept (KZ)) (hb.kept (KZ))).mono ?_
            rintro e WJ ⟨hj, kj⟩
            have KJ := (KZ).trans kj
            rcases hj with ⟨hc, rfl⟩ | ⟨hc, vj, rfl, hj⟩
            · generalize joinC la lb = cc at hc
              have e2 : ((cc : Int) != 0) = true := by simp; omega
              go_wp2_with fail
              refine (known_ct _).mono ?_
              rintro e W9 ⟨rfl, k9⟩
              go_wp2_with fail
              go_ret
              exact ⟨rfl, (KJ).trans k9⟩
            · obtain ⟨aj, cj, hvj⟩ := hj.slc
              subst hvj
              have hjd := joinC_zero hc
              generalize joinO la lb = o at hj hjd
              clear hc
              go_wp2_with fail
              refine (under_out (hb.kept KJ) one h1).mono ?_
              rintro e WU ⟨hu, ku⟩
              have KU := KJ.trans ku
              rcases hu with ⟨hcu, rfl⟩ | ⟨hcu, vu, rfl, hu⟩
              · go_wp2_with fail
                refine (under_out (hj.kept ku) one h1).mono ?_
                rintro e WV ⟨hv, kv⟩
                have KV := KU.trans kv
                rcases hv with ⟨hcv, rfl⟩ | ⟨hcv, _⟩
                · generalize underC o one = cc at hcv
                  have e2 : ((cc : Int) != 0) = true := by simp; omega
                  go_wp2_with fail
                  refine (known_ct _).mono ?_
                  rintro e W9 ⟨rfl, k9⟩
                  go_wp2_with fail
                  go_ret
                  exact ⟨rfl, (KV).trans k9⟩
                · exact absurd (under_join hjd hcv).1 hcu
              · obtain ⟨au, cu, hvu⟩ := hu.slc
                subst hvu
                rw [List.length_map] at hu
                go_wp2_with fail
                refine (under_out (hj.kept ku) one h1).mono ?_
                rintro e WV ⟨hv, kv⟩
                have KV := KU.trans kv
                rcases hv with ⟨hcv, rfl⟩ | ⟨hcv, vv, rfl, hv⟩
                · generalize underC o one = cc at hcv
                  have e2 : ((cc : Int) != 0) = true := by simp; omega
                  go_wp2_with fail
                  refine (known_ct _).mono ?_
                  rintro e W9 ⟨rfl, k9⟩
                  go_wp2_with fail
                  go_ret
                  exact ⟨rfl, (KV).trans k9⟩
                · obtain ⟨av, cv, hvv⟩ := hv.slc
                  subst hvv
                  rw [List.length_map] at hv
                  have hj2 := (under_join hjd hcv).2
                  have jc := joined_c hj2
                  have hol := (mayIs hj2.may).len
                  go_wp2_with fail
                  refine (joined_ct (hx.kept ((ky.trans kz).trans (kj.trans (ku.trans kv)))) (hu.kept kv)).mono ?_
                  rintro e WW ⟨hw, kw⟩
                  have KW := KV.trans kw
                  rcases hw with ⟨hcw, _⟩ | ⟨_, vw, rfl, hw⟩
                  · exact absurd jc.1 hcw
                  · rw [jc.2] at hw
                    obtain ⟨aw, cw, hvw⟩ := hw.slc
                    subst hvw
                    rw [List.length_map] at hw
                    rw [List.length_map] at hol
                    have sc := same_ct (hv.kept kw) hw (by rw [List.length_map]; omega) (by rw [List.length_map]; omega)
                    rw [sameB_rfl] at sc
                    clear hw hv hu hj
                    go_wp2_with fail
                    refine sc.mono ?_
                    rintro e WS ⟨rfl, ks⟩
                    go_wp2_with fail
                    refine (known_ct _).mono ?_
                    rintro e W9 ⟨rfl, k9⟩
                    go_wp2_with fail
                    go_ret
                    exact ⟨rfl, (KW.trans ks).trans k9⟩
          · obtain ⟨az, cz, hvz⟩ := hz.slc
            subst hvz
            rw [List.length_map] at hz
            have hz2 : TreeAt WZ (.slice az la.length cz) ((la.map (upF one)).map (upF two)) := by rw [up_two]; exact hz
            have hl16 := (mayIs (underC_zero.1 hcx).1).len
            have sc := same_ct (hy.kept kz) hz2 (by rw [List.length_map, List.length_map]; omega) (by rw [List.length_map, List.length_map]; omega)
            rw [sameB_rfl] at sc
            clear hy hz hz2 h40
            go_wp2_with fail
            refine sc.mono ?_
            rintro e WQ ⟨rfl, kq⟩
            have KQ := KZ.trans kq
            go_wp2_with fail
            refine (joined_ct (ha.kept (KQ)) (hb.kept (KQ))).mono ?_
            rintro e WJ ⟨hj, kj⟩
            have KJ := (KQ).trans kj
            rcases hj with ⟨hc, rfl⟩ | ⟨hc, vj, rfl, hj⟩
            · generalize joinC la lb = cc at hc
              have e2 : ((cc : Int) != 0) = true := by simp; omega
              go_wp2_with fail
              refine (known_ct _).mono ?_
              rintro e W9 ⟨rfl, k9⟩
              go_wp2_with fail
              go_ret
              exact ⟨rfl, (KJ).trans k9⟩
            · obtain ⟨aj, cj, hvj⟩ := hj.slc
              subst hvj
              have hjd := joinC_zero hc
              generalize joinO la lb = o at hj hjd
              clear hc
              go_wp2_with fail
              refine (under_out (hb.kept KJ) one h1).mono ?_
              rintro e WU ⟨hu, ku⟩
              have KU := KJ.trans ku
              rcases hu with ⟨hcu, rfl⟩ | ⟨hcu, vu, rfl, hu⟩
              · go_wp2_with fail
                refine (under_out (hj.kept ku) one h1).mono ?_
                rintro e WV ⟨hv, kv⟩
                have KV := KU.trans kv
                rcases hv with ⟨hcv, rfl⟩ | ⟨hcv, _⟩
                · generalize underC o one = cc at hcv
                  have e2 : ((cc : Int) != 0) = true := by simp; omega
                  go_wp2_with fail
                  refine (known_ct _).mono ?_
                  rintro e W9 ⟨rfl, k9⟩
                  go_wp2_with fail
                  go_ret
                  exact ⟨rfl, (KV).trans k9⟩
                · exact absurd (under_join hjd hcv).1 hcu
              · obtain ⟨au, cu, hvu⟩ := hu.slc
                subst hvu
                rw [List.length_map] at hu
                go_wp2_with fail
                refine (under_out (hj.kept ku) one h1).mono ?_
                rintro e WV ⟨hv, kv⟩
                have KV := KU.trans kv
                rcases hv with ⟨hcv, rfl⟩ | ⟨hcv, vv, rfl, hv⟩
                · generalize underC o one = cc at hcv
                  have e2 : ((cc : Int) != 0) = true := by simp; omega
                  go_wp2_with fail
                  refine (known_ct _).mono ?_
                  rintro e W9 ⟨rfl, k9⟩
                  go_wp2_with fail
                  go_ret
                  exact ⟨rfl, (KV).trans k9⟩
                · obtain ⟨av, cv, hvv⟩ := hv.slc
                  subst hvv
                  rw [List.length_map] at hv
                  have hj2 := (under_join hjd hcv).2
                  have jc := joined_c hj2
                  have hol := (mayIs hj2.may).len
                  go_wp2_with fail
                  refine (joined_ct (hx.kept (((ky.trans kz).trans kq).trans (kj.trans (ku.trans kv)))) (hu.kept kv)).mono ?_
                  rintro e WW ⟨hw, kw⟩
                  have KW := KV.trans kw
                  rcases hw with ⟨hcw, _⟩ | ⟨_, vw, rfl, hw⟩
                  · exact absurd jc.1 hcw
                  · rw [jc.2] at hw
                    obtain ⟨aw, cw, hvw⟩ := hw.slc
                    subst hvw
                    rw [List.length_map] at hw
                    rw [List.length_map] at hol
                    have sc := same_ct (hv.kept kw) hw (by rw [List.length_map]; omega) (by rw [List.length_map]; omega)
                    rw [sameB_rfl] at sc
                    clear hw hv hu hj
                    go_wp2_with fail
                    refine sc.mono ?_
                    rintro e WS ⟨rfl, ks⟩
                    go_wp2_with fail
                    refine (known_ct _).mono ?_
                    rintro e W9 ⟨rfl, k9⟩
                    go_wp2_with fail
                    go_ret
                    exact ⟨rfl, (KW.trans ks).trans k9⟩
end Go.Proofs.Ytehpaddddiigbaa
