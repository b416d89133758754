/- Digests and claims as arguments. -/
import Derived.Test.YtbaehaleigpijaaK0
import Derived.ProofKit
import Derived.OpenShut
import Derived.ChangeOld
import Derived.SizedLaws
namespace Go.Proofs.Ytbaehaleigpijaa
open Go.ChangeShapes Go.WideShapes Go.ChangeAt Go.RowKit
set_option linter.unusedSimpArgs false
set_option linter.unusedVariables false

section
variable {H : Type} {enc : TypeId × Value → H} {w : World} {base : Nat} {spare : Nat → Bool} {held : Bool}
theorem one_of_int {P : Program} {t : TypeId} {q : IntKind} (ht : P.underlying t = some (.int q)) {n : Nat} {cs : List Value} {x : Option (DataW H × List MemPlace)} (hx : x.isSome = true) (h : DataW.trod enc P w base spare held n t cs = x) : ∃ k, cs = [.int q k] ∧ (Lit.int q k).wf = true := by
  obtain ⟨y, rfl⟩ := Option.isSome_iff_exists.1 hx
  obtain ⟨k, h1, _, h3⟩ := DataW.trod_int ht h
  exact ⟨k, h1, h3⟩
theorem u8_of_wf {x : Int} (h : (Lit.int .u8 x).wf = true) : 0 ≤ x ∧ x < 256 := by
  simp only [Lit.wf, Bool.and_eq_true, decide_eq_true_eq] at h; exact ⟨h.1, Int.lt_add_one_of_le h.2⟩

/-- 32 cells that read as a digest. -/
theorem dig_cells {fuel : Nat} {cs : List Value} {x : DataW H × List MemPlace} (h : DataW.trod enc Try.prog w base spare held fuel 31 cs = some x) : IsDig cs.toArray := by
  have hcc : Try.prog.cellsOf 31 = 32 := by kernel_rfl
  have hce : Try.prog.cellsOf 5 = 1 := by kernel_rfl
  obtain ⟨xs, m, _, _, hlen, hxl, hg⟩ := DataW.trod_array Try.underlying31 h
  rw [hcc] at hlen
  have hall : ∀ i (hi : i < 32), ∃ k : Int, cs[i]? = some (.int .u8 k) ∧ 0 ≤ k ∧ k < 256 := fun i hi => by
    have h1 := hg i hi
    rw [hce, Nat.mul_one, List.drop_eq_getElem_cons (by omega)] at h1
    obtain ⟨k, e1, e2⟩ := one_of_int Try.underlying5 (by rw [List.getElem?_eq_getElem (by omega)]; rfl) h1
    simp only [List.take_succ_cons, List.take_zero, List.cons.injEq, and_true] at e1
    exact ⟨k, by rw [List.getElem?_eq_getElem (by omega), e1], u8_of_wf e2⟩
  refine ⟨cs.map (fun v => match v with | .int _ k => k | _ => 0), by simp [hlen], ?_, ?_⟩
  · intro y hy
    rw [List.mem_map] at hy
    obtain ⟨v, hv, rfl⟩ := hy
    obtain ⟨i, hi, rfl⟩ := List.getElem_of_mem hv
    obtain ⟨k, e1, e2⟩ := hall i (by omega)
    rw [List.getElem?_eq_getElem hi] at e1
    injection e1 with e1
    rw [e1]; exact e2
  · congr 1
    rw [List.map_map]
    apply List.ext_getElem (by simp)
    intro i h1 h2
    obtain ⟨k, e1, e2⟩ := hall i (by omega)
    rw [List.getElem?_eq_getElem h1] at e1
    injection e1 with e1
    simp [e1]

/-- 36 cells that read as a claim. -/
theorem clm_cells {fuel : Nat} {cs : List Value} {x : DataW H × List MemPlace} (h : DataW.trod enc Try.prog w base spare held fuel 33 cs = some x) :
    ∃ (D : Array Value) (n i c : Int) (g : Bool), IsDig D ∧ cs.toArray = D ++ #[.int .i64 n, .int .u64 i, .int .u64 c, .bool g] ∧ (Lit.int .i64 n).wf = true ∧ (Lit.int .u64 i).wf = true ∧ (Lit.int .u64 c).wf = true := by
  have hcc : Try.prog.cellsOf 33 = 36 := by kernel_rfl
  have hcd : Try.prog.cellsOf 31 = 32 := by kernel_rfl
  have hci : Try.prog.cellsOf 3 = 1 := by kernel_rfl
  have hcu : Try.prog.cellsOf 22 = 1 := by kernel_rfl
  have hcb : Try.prog.cellsOf 4 = 1 := by kernel_rfl
  obtain ⟨xs, m, _, _, hlen, hxl, hg⟩ := DataW.trod_struct Try.underlying33 h
  rw [hcc] at hlen
  have hx5 : xs.length = 5 := hxl
  have g0 : DataW.trod enc Try.prog w base spare held m 31 ((cs.drop 0).take (Try.prog.cellsOf 31)) = xs[0]? := hg 0 _ rfl
  have g1 : DataW.trod enc Try.prog w base spare held m 3 ((cs.drop 32).take (Try.prog.cellsOf 3)) = xs[1]? := hg 1 _ rfl
  have g2 : DataW.trod enc Try.prog w base spare held m 22 ((cs.drop 33).take (Try.prog.cellsOf 22)) = xs[2]? := hg 2 _ rfl
  have g3 : DataW.trod enc Try.prog w base spare held m 22 ((cs.drop 34).take (Try.prog.cellsOf 22)) = xs[3]? := hg 3 _ rfl
  have g4 : DataW.trod enc Try.prog w base spare held m 4 ((cs.drop 35).take (Try.prog.cellsOf 4)) = xs[4]? := hg 4 _ rfl
  simp only [hcd, hci, hcu, hcb, List.drop_zero] at g0 g1 g2 g3 g4
  rw [List.getElem?_eq_getElem (by omega)] at g0 g4
  have hD := dig_cells g0
  have d1 : (cs.drop 32).take 1 = [cs[32]] := by rw [List.drop_eq_getElem_cons (by omega)]; rfl
  have d2 : (cs.drop 33).take 1 = [cs[33]] := by rw [List.drop_eq_getElem_cons (by omega)]; rfl
  have d3 : (cs.drop 34).take 1 = [cs[34]] := by rw [List.drop_eq_getElem_cons (by omega)]; rfl
  have d4 : (cs.drop 35).take 1 = [cs[35]] := by rw [List.drop_eq_getElem_cons (by omega)]; rfl
  rw [d1] at g1; rw [d2] at g2; rw [d3] at g3; rw [d4] at g4
  obtain ⟨n, e1, w1⟩ := one_of_int Try.underlying3 (by rw [List.getElem?_eq_getElem (by omega)]; rfl) g1
  obtain ⟨i, e2, w2⟩ := one_of_int Try.underlying22 (by rw [List.getElem?_eq_getElem (by omega)]; rfl) g2
  obtain ⟨c, e3, w3⟩ := one_of_int Try.underlying22 (by rw [List.getElem?_eq_getElem (by omega)]; rfl) g3
  obtain ⟨b, e4, _⟩ := DataW.trod_bool Try.underlying4 g4
  simp only [List.cons.injEq, and_true] at e1 e2 e3 e4
  refine ⟨(cs.take 32).toArray, n, i, c, b, hD, ?_, w1, w2, w3⟩
  have : cs = cs.take 32 ++ [cs[32], cs[33], cs[34], cs[35]] := by
    have h5 : cs.drop 32 = [cs[32], cs[33], cs[34], cs[35]] := by
      rw [List.drop_eq_getElem_cons (by omega), List.drop_eq_getElem_cons (by omega), List.drop_eq_getElem_cons (by omega), List.drop_eq_getElem_cons (by omega), List.drop_of_length_le (by omega)]
    rw [← h5, List.take_append_drop]
  rw [e1, e2, e3, e4] at this
  conv => lhs; rw [this]
  simp
end

theorem Try.own : ownKnob Try.prog.godebug = none := by kernel_rfl
end Go.Proofs.Ytbaehaleigpijaa
