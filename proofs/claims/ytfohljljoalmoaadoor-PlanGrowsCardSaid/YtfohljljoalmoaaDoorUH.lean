/- Trees as arguments. -/
import Derived.Test.YtfohljljoalmoaaDoorUE
import Derived.Test.YtfohljljoalmoaaDoorTK
namespace Go.Proofs.YtfohljljoalmoaaDoor
open Go.ChangeShapes Go.WideShapes Go.ChangeAt Go.RowKit
set_option maxRecDepth 100000
set_option linter.unusedSimpArgs false
set_option linter.unusedVariables false

section
variable {H : Type} {enc : TypeId × Value → H} {w : World} {base : Nat} {spare : Nat → Bool} {held : Bool}
theorem file_cells {fuel : Nat} {cs : List Value} {x : DataW H × List MemPlace} (h : DataW.trod enc Tryd.prog w base spare held fuel 46 cs = some x) :
    ∃ (f : FileE) (v : Value), f.path.size ≤ maxLen ∧ cs = [.string f.path, v] ∧ ByAt w v f.bytes := by
  have hcc : Tryd.prog.cellsOf 46 = 2 := by kernel_rfl
  have hcs : Tryd.prog.cellsOf 9 = 1 := by kernel_rfl
  have hcb : Tryd.prog.cellsOf 44 = 1 := by kernel_rfl
  obtain ⟨xs, m, _, _, hlen, hxl, hg⟩ := DataW.trod_struct Tryd.underlying46 h
  rw [hcc] at hlen
  have hx2 : xs.length = 2 := hxl
  have g0 : DataW.trod enc Tryd.prog w base spare held m 9 ((cs.drop 0).take (Tryd.prog.cellsOf 9)) = xs[0]? := hg 0 _ rfl
  have g1 : DataW.trod enc Tryd.prog w base spare held m 44 ((cs.drop 1).take (Tryd.prog.cellsOf 44)) = xs[1]? := hg 1 _ rfl
  simp only [hcs, hcb] at g0 g1
  have d0 : (cs.drop 0).take 1 = [cs[0]] := by rw [List.drop_eq_getElem_cons (by omega)]; rfl
  have d1 : (cs.drop 1).take 1 = [cs[1]] := by rw [List.drop_eq_getElem_cons (by omega)]; rfl
  rw [d0, List.getElem?_eq_getElem (by omega)] at g0
  rw [d1, List.getElem?_eq_getElem (by omega)] at g1
  obtain ⟨s, e0, _, hs⟩ := DataW.trod_string Tryd.underlying9 g0
  obtain ⟨v, l, e1, hb⟩ := bytes_open g1
  simp only [List.cons.injEq, and_true] at e0 e1
  refine ⟨⟨s, l⟩, v, hs, ?_, hb.1⟩
  have h5 : cs = [cs[0], cs[1]] := by
    conv => lhs; rw [← List.drop_zero (l := cs)]
    rw [List.drop_eq_getElem_cons (by omega), List.drop_eq_getElem_cons (by omega), List.drop_of_length_le (by omega)]
  rw [e0, e1] at h5
  exact h5

theorem tree_open {fuel : Nat} {cs : List Value} {x : DataW H × List MemPlace} (h : DataW.trod enc Tryd.prog w base spare held fuel 27 cs = some x) :
    ∃ (v : Value) (l : List FileE), cs = [v] ∧ TreeAt w v l := by
  have hcc : Tryd.prog.cellsOf 46 = 2 := by kernel_rfl
  rcases DataW.trod_slice Tryd.underlying27 h with ⟨rfl, _⟩ | ⟨a, len, cap, elems, rest, m, _, rfl, _, hb, hl, hm, hlen, hel, _, _⟩
  · exact ⟨_, [], rfl, TreeAt.nil w 0⟩
  · have hsp : 0 < len → a.spot = none := fun h0 => by
      have h1 := hel 0 h0
      rw [hcc, List.getElem?_eq_getElem (by omega)] at h1
      obtain ⟨c, hc, ht⟩ := Option.bind_eq_some_iff.1 h1
      obtain ⟨_, hl1, hc3⟩ := World.cells?_some hc
      have h2 := hc3 0 (by omega)
      rw [List.getElem?_eq_getElem (by omega)] at h2
      have ha : (a.add (0 * 2)).add 0 = a := by simp [Addr.add]
      rw [ha] at h2
      exact World.cell?_spot h2
    have key : ∀ i, ∃ f : FileE, i < len → ∃ b q y, a = ⟨b, q, none⟩ ∧ b < w.heap.size ∧ f.path.size ≤ maxLen ∧ w.rangeAt b (q + i * 2) [.string f.path, y] ∧ ByAt w y f.bytes := fun i => by
      by_cases hi : i < len
      · have h1 := hel i hi
        rw [hcc, List.getElem?_eq_getElem (by omega)] at h1
        obtain ⟨c, hc, ht⟩ := Option.bind_eq_some_iff.1 h1
        obtain ⟨f, y, hs, rfl, hby⟩ := file_cells ht
        refine ⟨f, fun _ => ?_⟩
        have hz := World.cells?_block hc (by omega)
        obtain ⟨hc1, hc2, hc3⟩ := World.cells?_some hc
        obtain ⟨b, q, s⟩ := a
        have : s = none := hsp (by omega)
        subst this
        refine ⟨b, q, y, rfl, by simpa [block_add] using hz, hs, fun j v hv => ?_, hby⟩
        have hj : j < 2 := by have := (List.getElem?_eq_some_iff.1 hv).1; simpa using this
        have := hc3 j hj
        rw [Addr.add_mid, Addr.add_mid] at this
        rw [this, hv]
      · exact ⟨⟨⟨#[]⟩, []⟩, fun h => absurd h hi⟩
    obtain ⟨f, hf⟩ := Classical.axiomOfChoice key
    have hlen2 : ((List.range len).map f).length = len := by simp
    refine ⟨_, (List.range len).map f, rfl, some a, cap, by rw [hlen2], by rw [hlen2]; omega, fun hne => ?_⟩
    have h0 : 0 < len := by
      rcases Nat.eq_zero_or_pos len with h0 | h0
      · exact absurd (by rw [h0]; rfl) hne
      · exact h0
    obtain ⟨b, q, _, ha, hz, _⟩ := hf 0 h0
    refine ⟨b, q, by rw [ha], hz, fun i g hg => ?_⟩
    have hi : i < len := by have := (List.getElem?_eq_some_iff.1 hg).1; rw [hlen2] at this; exact this
    obtain ⟨b', q', y, ha', _, hs, hr, hby⟩ := hf i hi
    rw [ha] at ha'
    injection ha' with e1 e2
    subst e1; subst e2
    have hge : f i = g := by
      rw [List.getElem?_map, List.getElem?_range hi] at hg
      simpa using hg
    subst hge
    exact ⟨hs, y, hr, hby⟩
end
end Go.Proofs.YtfohljljoalmoaaDoor
