/- Trees as arguments, and how great they are. -/
import Derived.Test.YtehpaddddiigbaaDoorUH
namespace Go.Proofs.YtehpaddddiigbaaDoor
open Go.ChangeShapes Go.WideShapes Go.ChangeAt Go.RowKit
set_option maxRecDepth 100000
set_option linter.unusedSimpArgs false
set_option linter.unusedVariables false

section
variable {H : Type} {enc : TypeId × Value → H} {w : World} {base : Nat} {spare : Nat → Bool} {held : Bool}
theorem weightsAll_mem {P : Program} {e : TypeId} : ∀ {l : List (DataW H)} {d : DataW H}, d ∈ l → ∀ n ∈ d.weights P e, n ∈ DataW.weightsAll P e l
  | x :: r, d, h, n, hn => by
    simp only [DataW.weightsAll, List.mem_append]
    rcases List.mem_cons.1 h with rfl | h
    · exact .inl hn
    · exact .inr (weightsAll_mem h n hn)
def Under' (ws : List Nat) (k : Nat) : Prop := k = 0 ∨ ∃ n ∈ ws, k ≤ n
theorem bytes_sized {fuel : Nat} {v : Value} {x : DataW H × List MemPlace} (h : DataW.trod enc Tryd.prog w base spare held fuel 32 [v] = some x) {l : List UInt8} (hb : ByAt w v l) : Under' (x.1.weights Tryd.prog 32) l.length := by
  have hbo : Tryd.prog.bytesOf 5 = 1 := by kernel_rfl
  obtain ⟨a, c, rfl⟩ := hb.slc
  rcases DataW.trod_slice Tryd.underlying32 h with ⟨e, _⟩ | ⟨a', len, cap, elems, rest, m, _, e, hx, _, _, _, hlen, _, _, _⟩
  · injection e with e; injection e with _ e _; exact .inl e
  · injection e with e
    injection e with _ e _
    refine .inr ⟨(elems.length + rest.length) * Tryd.prog.bytesOf 5, ?_, by rw [hbo]; omega⟩
    rw [hx]
    simp [DataW.weights, Tryd.underlying32]
theorem file_sized {fuel : Nat} {cs : List Value} {x : DataW H × List MemPlace} (h : DataW.trod enc Tryd.prog w base spare held fuel 41 cs = some x) :
    ∃ (f : FileE) (v : Value), f.path.size ≤ maxLen ∧ cs = [.string f.path, v] ∧ ByAt w v f.bytes ∧ Under' (x.1.weights Tryd.prog 41) f.bytes.length := by
  obtain ⟨f, v, h1, h2, h3⟩ := file_cells h
  refine ⟨f, v, h1, h2, h3, ?_⟩
  obtain ⟨xs, m, _, hx, _, hxl, hg⟩ := DataW.trod_struct Tryd.underlying41 h
  have hx2 : xs.length = 2 := hxl
  clear hxl
  obtain ⟨y0, y1, rfl⟩ : ∃ y0 y1, xs = [y0, y1] := by
    match xs, hx2 with
    | [a, b], _ => exact ⟨a, b, rfl⟩
  have hcb : Tryd.prog.cellsOf 32 = 1 := by kernel_rfl
  have g1 : DataW.trod enc Tryd.prog w base spare held m 32 ((cs.drop 1).take (Tryd.prog.cellsOf 32)) = some y1 := hg 1 _ rfl
  rw [hcb, h2] at g1
  have g2 : DataW.trod enc Tryd.prog w base spare held m 32 [v] = some y1 := g1
  rcases bytes_sized g2 h3 with q | ⟨n, q1, q2⟩
  · exact .inl q
  · refine .inr ⟨n, ?_, q2⟩
    rw [hx]
    simp only [DataW.weights, Tryd.underlying41, List.map_cons, List.map_nil]
    show n ∈ DataW.weightsEach Tryd.prog [9, 32] [y0.1, y1.1]
    simp only [DataW.weightsEach, List.mem_append]
    exact .inr (.inl q1)
theorem tree_sized {fuel : Nat} {v : Value} {x : DataW H × List MemPlace} (h : DataW.trod enc Tryd.prog w base spare held fuel 23 [v] = some x) :
    ∃ l : List FileE, TreeAt w v l ∧ Under' (x.1.weights Tryd.prog 23) (l.length * 40) ∧ ∀ f ∈ l, Under' (x.1.weights Tryd.prog 23) f.bytes.length := by
  have hbo : Tryd.prog.bytesOf 41 = 40 := by kernel_rfl
  have hcc : Tryd.prog.cellsOf 41 = 2 := by kernel_rfl
  obtain ⟨v', l, e, ht⟩ := tree_open h
  injection e with e
  subst e
  refine ⟨l, ht, ?_⟩
  obtain ⟨ta, tc, rfl⟩ := ht.slc
  rcases DataW.trod_slice Tryd.underlying23 h with ⟨e, _⟩ | ⟨a', len, cap, elems, rest, m, _, e, hx, _, _, _, hlen, hel, _, _⟩
  · injection e with e; injection e with _ e _
    have : l = [] := List.eq_nil_of_length_eq_zero e
    subst this
    exact ⟨.inl rfl, fun f hf => by simp at hf⟩
  · injection e with e
    injection e with ea e _
    subst ea
    refine ⟨.inr ⟨(elems.length + rest.length) * Tryd.prog.bytesOf 41, by rw [hx]; simp [DataW.weights, Tryd.underlying23], by rw [hbo]; omega⟩, fun f hf => ?_⟩
    obtain ⟨i, hi, rfl⟩ := List.getElem_of_mem hf
    have h1 := hel i (by omega)
    rw [hcc, List.getElem?_eq_getElem (by omega)] at h1
    obtain ⟨c, hc, htr⟩ := Option.bind_eq_some_iff.1 h1
    obtain ⟨g, y, _, hcs, hgy, hu⟩ := file_sized htr
    -- the same file
    obtain ⟨_, b, o, x2, eb, hbl, hr, hB⟩ := ht.file (List.getElem?_eq_getElem hi)
    injection eb with eb
    subst eb
    obtain ⟨_, _, hc3⟩ := World.cells?_some hc
    have c1 := hc3 1 (by omega)
    rw [Addr.add_mid, Addr.add_mid] at c1
    have r1 := hr 1 _ rfl
    rw [c1, hcs] at r1
    have hxy : y = x2 := by simpa using r1
    subst hxy
    have hlen2 : g.bytes.length = l[i].bytes.length := by
      obtain ⟨_, _, e1⟩ := hgy.slc
      obtain ⟨_, _, e2⟩ := hB.slc
      rw [e1] at e2
      injection e2
    rw [← hlen2]
    rcases hu with q | ⟨n, q1, q2⟩
    · exact .inl q
    · refine .inr ⟨n, ?_, q2⟩
      rw [hx]
      simp only [DataW.weights, Tryd.underlying23]
      refine List.mem_cons.2 (.inr (List.mem_append.2 (.inl ?_)))
      exact weightsAll_mem (List.mem_map_of_mem (List.getElem_mem (by omega))) n q1
end
end Go.Proofs.YtehpaddddiigbaaDoor
