/- Strings as arguments. -/
import Derived.Test.YtlheboafhgmbpaaDoorLV
namespace Go.Proofs.YtlheboafhgmbpaaDoor
open Go.ChangeShapes Go.WideShapes Go.ChangeAt Go.ChangeMaps Go.RowKit
set_option maxRecDepth 100000
set_option linter.unusedSimpArgs false
set_option linter.unusedVariables false

section
variable {H : Type} {enc : TypeId × Value → H} {w : World} {base : Nat} {spare : Nat → Bool} {held : Bool}
theorem one_of_str {P : Program} {t : TypeId} (ht : P.underlying t = some .string) {n : Nat} {cs : List Value} {x : Option (DataW H × List MemPlace)} (hx : x.isSome = true) (h : DataW.trod enc P w base spare held n t cs = x) : ∃ s, cs = [.string s] := by
  obtain ⟨y, rfl⟩ := Option.isSome_iff_exists.1 hx
  obtain ⟨k, h1, _, _⟩ := DataW.trod_string ht h
  exact ⟨k, h1⟩
theorem strs_open {fuel : Nat} {cs : List Value} {x : DataW H × List MemPlace} (h : DataW.trod enc Tryd.prog w base spare held fuel 30 cs = some x) :
    ∃ (v : Value) (l : List (List UInt8)), cs = [v] ∧ StrsAt w v l := by
  have hcc : Tryd.prog.cellsOf 9 = 1 := by kernel_rfl
  rcases DataW.trod_slice Tryd.underlying30 h with ⟨rfl, _⟩ | ⟨a, len, cap, elems, rest, m, _, rfl, _, hb, hl, hm, hlen, hel, _, _⟩
  · exact ⟨_, [], rfl, StrsAt.nil w 0⟩
  · have hsp : 0 < len → a.spot = none := fun h0 => by
      have h1 := hel 0 h0
      rw [hcc, List.getElem?_eq_getElem (by omega)] at h1
      obtain ⟨c, hc, ht⟩ := Option.bind_eq_some_iff.1 h1
      obtain ⟨_, hl1, hc3⟩ := World.cells?_some hc
      have h2 := hc3 0 (by omega)
      rw [List.getElem?_eq_getElem (by omega)] at h2
      have ha : (a.add (0 * 1)).add 0 = a := by simp [Addr.add]
      rw [ha] at h2
      exact World.cell?_spot h2
    have key : ∀ i, ∃ o : List UInt8, i < len → ∃ b q, a = ⟨b, q, none⟩ ∧ b < w.heap.size ∧ w.cell? ⟨b, q + i, none⟩ = some (str o) := fun i => by
      by_cases hi : i < len
      · have h1 := hel i hi
        rw [hcc, List.getElem?_eq_getElem (by omega)] at h1
        obtain ⟨c, hc, ht⟩ := Option.bind_eq_some_iff.1 h1
        obtain ⟨s, rfl⟩ := one_of_str Tryd.underlying9 rfl ht
        refine ⟨s.data.toList, fun _ => ?_⟩
        have hz := World.cells?_block hc (by omega)
        obtain ⟨hc1, hc2, hc3⟩ := World.cells?_some hc
        obtain ⟨b, q, p⟩ := a
        have : p = none := hsp (by omega)
        subst this
        have := hc3 0 (by omega)
        rw [Addr.add_mid, Addr.add_mid] at this
        refine ⟨b, q, rfl, by simpa [block_add] using hz, ?_⟩
        rw [show q + i = q + i * 1 + 0 by omega, this]
        rfl
      · exact ⟨[], fun h => absurd h hi⟩
    obtain ⟨f, hf⟩ := Classical.axiomOfChoice key
    have hlen2 : ((List.range len).map f).length = len := by simp
    refine ⟨_, (List.range len).map f, rfl, some a, cap, by rw [hlen2], by rw [hlen2]; omega, fun hne => ?_⟩
    have h0 : 0 < len := by
      rcases Nat.eq_zero_or_pos len with h0 | h0
      · exact absurd (by rw [h0]; rfl) hne
      · exact h0
    obtain ⟨b, q, ha, hz, _⟩ := hf 0 h0
    refine ⟨b, q, by rw [ha], hz, fun i v hv => ?_⟩
    have hi : i < len := by have := (List.getElem?_eq_some_iff.1 hv).1; simpa [sv] using this
    obtain ⟨b', q', ha', _, hc⟩ := hf i hi
    rw [ha] at ha'
    injection ha' with e1 e2
    subst e1; subst e2
    rw [hc, ← hv]
    simp [sv, hi]
end
end Go.Proofs.YtlheboafhgmbpaaDoor
