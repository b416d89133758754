/- Ops as arguments. -/
import Derived.Test.YtbaehaleigpijaaR0
import Derived.Test.YtbaehaleigpijaaG2
import Derived.ChangeArms
import Derived.ChangeSlices
namespace Go.Proofs.Ytbaehaleigpijaa
open Go.ChangeShapes Go.WideShapes Go.ChangeAt Go.RowKit
set_option linter.unusedSimpArgs false
set_option linter.unusedVariables false

section
variable {H : Type} {enc : TypeId × Value → H} {w : World} {base : Nat} {spare : Nat → Bool} {held : Bool}
/-- 39 cells that read as an op. -/
theorem op_cells {fuel : Nat} {cs : List Value} {x : DataW H × List MemPlace} (h : DataW.trod enc Try.prog w base spare held fuel 35 cs = some x) :
    ∃ o : OpR, o.Ok ∧ cs = o.cells.toList := by
  have hcc : Try.prog.cellsOf 35 = 39 := by kernel_rfl
  have hcd : Try.prog.cellsOf 33 = 36 := by kernel_rfl
  have hci : Try.prog.cellsOf 3 = 1 := by kernel_rfl
  have hcu : Try.prog.cellsOf 5 = 1 := by kernel_rfl
  obtain ⟨xs, m, _, _, hlen, hxl, hg⟩ := DataW.trod_struct Try.underlying35 h
  rw [hcc] at hlen
  have hx4 : xs.length = 4 := hxl
  have g0 : DataW.trod enc Try.prog w base spare held m 3 ((cs.drop 0).take (Try.prog.cellsOf 3)) = xs[0]? := hg 0 _ rfl
  have g1 : DataW.trod enc Try.prog w base spare held m 3 ((cs.drop 1).take (Try.prog.cellsOf 3)) = xs[1]? := hg 1 _ rfl
  have g2 : DataW.trod enc Try.prog w base spare held m 5 ((cs.drop 2).take (Try.prog.cellsOf 5)) = xs[2]? := hg 2 _ rfl
  have g3 : DataW.trod enc Try.prog w base spare held m 33 ((cs.drop 3).take (Try.prog.cellsOf 33)) = xs[3]? := hg 3 _ rfl
  simp only [hcd, hci, hcu, List.drop_zero] at g0 g1 g2 g3
  rw [List.getElem?_eq_getElem (by omega)] at g3
  obtain ⟨D, n, i, c, g, hD, hcl, _, _, _⟩ := clm_cells g3
  have d0 : cs.take 1 = [cs[0]] := by rw [show cs.take 1 = (cs.drop 0).take 1 by simp, List.drop_eq_getElem_cons (by omega)]; rfl
  have d1 : (cs.drop 1).take 1 = [cs[1]] := by rw [List.drop_eq_getElem_cons (by omega)]; rfl
  have d2 : (cs.drop 2).take 1 = [cs[2]] := by rw [List.drop_eq_getElem_cons (by omega)]; rfl
  rw [d0] at g0; rw [d1] at g1; rw [d2] at g2
  obtain ⟨kd, e0, w0⟩ := one_of_int Try.underlying3 (by rw [List.getElem?_eq_getElem (by omega)]; rfl) g0
  obtain ⟨b, e1, w1⟩ := one_of_int Try.underlying3 (by rw [List.getElem?_eq_getElem (by omega)]; rfl) g1
  obtain ⟨key, e2, w2⟩ := one_of_int Try.underlying5 (by rw [List.getElem?_eq_getElem (by omega)]; rfl) g2
  simp only [List.cons.injEq, and_true] at e0 e1 e2
  refine ⟨⟨kd, b, key, D, n, i, c, g⟩, ⟨hD, (u8_of_wf w2).1, (u8_of_wf w2).2, w0, w1⟩, ?_⟩
  have e3 : (cs.drop 3).take 36 = (D ++ (#[.int .i64 n, .int .u64 i, .int .u64 c, .bool g] : Array Value)).toList := by rw [← hcl]
  rw [List.take_of_length_le (by simp; omega)] at e3
  have h5 : cs = [cs[0], cs[1], cs[2]] ++ cs.drop 3 := by
    conv => lhs; rw [← List.drop_zero (l := cs)]
    rw [List.drop_eq_getElem_cons (by omega), List.drop_eq_getElem_cons (by omega), List.drop_eq_getElem_cons (by omega)]
    rfl
  rw [e0, e1, e2, e3] at h5
  rw [h5]
  simp [OpR.cells, opv]

theorem ops_open {fuel : Nat} {cs : List Value} {x : DataW H × List MemPlace} (h : DataW.trod enc Try.prog w base spare held fuel 23 cs = some x) :
    ∃ (v : Value) (len : Nat) (ops : Nat → OpR), cs = [v] ∧ OpsAt w v len ops := by
  have hcc : Try.prog.cellsOf 35 = 39 := by kernel_rfl
  rcases DataW.trod_slice Try.underlying23 h with ⟨rfl, _⟩ | ⟨a, len, cap, elems, rest, m, _, rfl, _, hb, hl, hm, hlen, hel, _, _⟩
  · exact ⟨_, 0, fun _ => ⟨0, 0, 0, #[], 0, 0, 0, false⟩, rfl, none, 0, rfl, by decide, fun i hi => absurd hi (by omega)⟩
  · have hsp : 0 < len → a.spot = none := fun h0 => by
      have h1 := hel 0 h0
      rw [hcc, List.getElem?_eq_getElem (by omega)] at h1
      obtain ⟨c, hc, ht⟩ := Option.bind_eq_some_iff.1 h1
      obtain ⟨_, hl1, hc3⟩ := World.cells?_some hc
      have h2 := hc3 0 (by omega)
      rw [List.getElem?_eq_getElem (by omega)] at h2
      have ha : (a.add (0 * 39)).add 0 = a := by simp [Addr.add]
      rw [ha] at h2
      exact World.cell?_spot h2
    have key : ∀ i, ∃ o : OpR, i < len → o.Ok ∧ ∃ b q, a = ⟨b, q, none⟩ ∧ b < w.heap.size ∧ w.rangeAt b (q + i * 39) o.cells.toList := fun i => by
      by_cases hi : i < len
      · have h1 := hel i hi
        rw [hcc, List.getElem?_eq_getElem (by omega)] at h1
        obtain ⟨c, hc, ht⟩ := Option.bind_eq_some_iff.1 h1
        obtain ⟨o, ho, rfl⟩ := op_cells ht
        refine ⟨o, fun _ => ⟨ho, ?_⟩⟩
        have hz := World.cells?_block hc (by omega)
        obtain ⟨hc1, hc2, hc3⟩ := World.cells?_some hc
        obtain ⟨b, q, s⟩ := a
        have : s = none := hsp (by omega)
        subst this
        refine ⟨b, q, rfl, by simpa [block_add] using hz, fun j v hv => ?_⟩
        have hj : j < 39 := by have := (List.getElem?_eq_some_iff.1 hv).1; rw [Array.length_toList, OpR.size ho] at this; exact this
        have := hc3 j hj
        rw [Addr.add_mid, Addr.add_mid] at this
        rw [this, hv]
      · exact ⟨⟨0, 0, 0, #[], 0, 0, 0, false⟩, fun h => absurd h hi⟩
    obtain ⟨ops, hops⟩ := Classical.axiomOfChoice key
    refine ⟨_, len, ops, rfl, some a, cap, rfl, by omega, fun i hi => ?_⟩
    obtain ⟨ho, b, q, rfl, hz, hr⟩ := hops i hi
    exact ⟨ho, b, q, rfl, hz, hr⟩
end
end Go.Proofs.Ytbaehaleigpijaa
