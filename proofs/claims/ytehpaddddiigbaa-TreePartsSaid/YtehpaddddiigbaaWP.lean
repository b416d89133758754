/- 'Rows.TreePartsSaid': what is got of any trees, put into them, below and under a directory, joined, and whether they are alike, are the document's, or refused; trees stay, and what is told is nobody else's memory; whatever the trees, the text and the bytes. No condition. -/
import Derived.Test.YtehpaddddiigbaaWN
import Derived.Test.YtehpaddddiigbaaWO
namespace Go.Proofs.Ytehpaddddiigbaa
open Go.ChangeShapes Go.WideShapes Go.ChangeAt Go.ChangeMaps Go.RowKit
set_option linter.unusedSimpArgs false
set_option linter.unusedVariables false

theorem Under'.le {ws : List Nat} {k : Nat} (h : Under' ws k) (hw : ∀ n ∈ ws, n ≤ 140737488351232) : k ≤ 140737488351232 := by
  rcases h with h | ⟨n, h1, h2⟩
  · omega
  · have := hw n h1; omega
set_option maxRecDepth 100000 in
theorem parts_lifted (os : Os) (started : os.Started) (H : Type) (enc : TypeId × Value → H) :
    ReturnsInHanded {} Try.checked os 9 .any (Rows.treePartsSpec.pre6 enc Try.prog Try.f9 Rows.treePartsRow.domain false) (Rows.treePartsSpec.post enc Try.prog Try.f9 false true false false) := by
  refine returnsInHanded_of_change_sized (C := Try.checked) Try.own started (by kernel_rfl) Try.func9
    (ChangeSpec.witness6 (enc := enc) (C := Try.checked) false ⟨#[], #[.slice none 0 0, .slice none 0 0, .string ⟨#[]⟩, .slice none 0 0], []⟩ 8 (by kernel_rfl) (by kernel_rfl) (by kernel_rfl) (by kernel_rfl)) ?_
  intro W base args ds gs before hval0 hW hcnd hsz _
  have hval : ∀ (j : Nat) t v, Try.f9.params[j]? = some t → args[j]? = some v → Value.okWide Try.prog W .any base t v := hval0
  have hW' := hW
  obtain ⟨p, q, hA0, hV, rfl, hfz, hnd⟩ := hW
  have hA : DataW.TrodAll enc Try.prog W 0 (fun _ => true) true Try.f9.params.toList args.toList ds p := hA0
  rw [Try.params9] at hA hval
  obtain ⟨v0, vs0, d0, ds0, p0, q0, hargs, rfl, rfl, h0, r0⟩ := trodAll_cons hA
  obtain ⟨v1, vs1, d1, ds1, p1, q1, rfl, rfl, rfl, h1, r1⟩ := trodAll_cons r0
  obtain ⟨v2, vs2, d2, ds2, p2, q2, rfl, rfl, rfl, h2, r2⟩ := trodAll_cons r1
  obtain ⟨v3, vs3, d3, ds3, p3, q3, rfl, rfl, rfl, h3, r3⟩ := trodAll_cons r2
  obtain ⟨rfl, rfl, rfl⟩ := trodAll_nil r3
  obtain rfl : args = #[v0, v1, v2, v3] := by cases args; simp_all
  obtain ⟨rfl, rfl⟩ := trodVars_none hV
  have k0 := h0
  have lt0 : ∀ x ∈ p0, x.block < W.heap.size := by obtain ⟨m, hm⟩ := k0; exact DataW.trod_lt m _ _ _ hm
  obtain ⟨l0, hb0, hu0, hv0⟩ : ∃ l : List FileE, TreeAt W v0 l ∧ Under' (d0.weights Try.prog 27) (l.length * 40) ∧ ∀ f ∈ l, Under' (d0.weights Try.prog 27) f.bytes.length := by
    obtain ⟨fuel, hf⟩ := k0
    obtain ⟨a, n, cap, rfl⟩ := okWide_slice Try.underlying27 (hval 0 27 v0 rfl rfl)
    exact tree_sized hf
  have wz0 : ∀ n ∈ d0.weights Try.prog 27, n ≤ 140737488351232 := fun n hn => by
    have := List.all_eq_true.1 hsz n (DataW.weights_mem_each (j := 0) (t := 27) (by kernel_rfl) rfl n hn)
    exact of_decide_eq_true this
  have k1 := h1
  have lt1 : ∀ x ∈ p1, x.block < W.heap.size := by obtain ⟨m, hm⟩ := k1; exact DataW.trod_lt m _ _ _ hm
  obtain ⟨l1, hb1, hu1, hv1⟩ : ∃ l : List FileE, TreeAt W v1 l ∧ Under' (d1.weights Try.prog 27) (l.length * 40) ∧ ∀ f ∈ l, Under' (d1.weights Try.prog 27) f.bytes.length := by
    obtain ⟨fuel, hf⟩ := k1
    obtain ⟨a, n, cap, rfl⟩ := okWide_slice Try.underlying27 (hval 1 27 v1 rfl rfl)
    exact tree_sized hf
  have wz1 : ∀ n ∈ d1.weights Try.prog 27, n ≤ 140737488351232 := fun n hn => by
    have := List.all_eq_true.1 hsz n (DataW.weights_mem_each (j := 1) (t := 27) (by kernel_rfl) rfl n hn)
    exact of_decide_eq_true this
  have k3 := h3
  have lt3 : ∀ x ∈ p3, x.block < W.heap.size := by obtain ⟨m, hm⟩ := k3; exact DataW.trod_lt m _ _ _ hm
  obtain ⟨l3, hb3⟩ : ∃ l : List UInt8, ByC W v3 l := by
    obtain ⟨fuel, hf⟩ := k3
    obtain ⟨a, n, cap, rfl⟩ := okWide_slice Try.underlying25 (hval 3 25 v3 rfl rfl)
    obtain ⟨v, l, e, ho⟩ := bytes_open hf
    have e : [Value.slice a n cap] = [v] := e
    injection e with e
    exact ⟨l, e ▸ ho⟩
  obtain ⟨s2, rfl, rfl, rfl, w2⟩ := open_string Try.underlying9 (hval 2 9 v2 rfl rfl) h2
  clear hA0 hval0
  refine (parts_law hb0 hb1 s2 w2 hb3.1 (hu0.le wz0) (fun f hf => (hv0 f hf).le wz0) (hu1.le wz1) (fun f hf => (hv1 f hf).le wz1)).mono fun e W' ⟨he, hk⟩ => ?_
  subst he
  have bel : Below W.heap.size W W' := hk.below (Nat.le_refl _) (fun _ q => q.elim)
  exact ⟨_, rfl, _, _, _, [], _, [], hW', trodAll_mk1 (shut_bool Try.underlying4 _), (trodAll_cons_mk (Below.trod Try.laidOut (by kernel_rfl) (of_decide_eq_true (by kernel_rfl)) k0 bel lt0) (trodAll_cons_mk (Below.trod Try.laidOut (by kernel_rfl) (of_decide_eq_true (by kernel_rfl)) k1 bel lt1) (trodAll_cons_mk (shut_string Try.underlying9 w2) (trodAll_cons_mk (Below.trod Try.laidOut (by kernel_rfl) (of_decide_eq_true (by kernel_rfl)) k3 bel lt3) trodAll_mk0)))), rfl, bel.frame _, fun h => by cases h⟩

theorem treeParts_holds : Rows.TreePartsSaid :=
  OpenClaim.holds_of_wide 9 Try.f9 rfl rfl rfl rfl rfl rfl rfl ⟨rfl, rfl, rfl, rfl, rfl⟩ rfl rfl rfl rfl rfl (by kernel_rfl) Try.func9 (by kernel_rfl)
    (of_decide_eq_true (by kernel_rfl)) (by unfold Func.isWrapper; first | (rw [if_pos (by decide +kernel)]; kernel_rfl) | (rw [if_neg (by decide +kernel)]; exact ⟨rfl, rfl⟩))
    (fun os started H enc _ => parts_lifted os started H enc)
#print axioms treeParts_holds
end Go.Proofs.Ytehpaddddiigbaa
