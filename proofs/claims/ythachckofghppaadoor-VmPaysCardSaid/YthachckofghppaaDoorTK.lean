/- Bytes as arguments. -/
import Derived.Test.YthachckofghppaaDoorTF
import Derived.ProofKit
import Derived.OpenShut
import Derived.ChangeOld
import Derived.SizedLaws
import Derived.ChangeArms
import Derived.ChangeSlices
import Derived.ChangeMaps5
namespace Go.Proofs.YthachckofghppaaDoor
open Go.ChangeShapes Go.WideShapes Go.ChangeAt Go.RowKit
set_option maxRecDepth 100000
set_option linter.unusedSimpArgs false
set_option linter.unusedVariables false

theorem Tryd.own : ownKnob Tryd.prog.godebug = none := by kernel_rfl
theorem Tryd.laidOut : laidOutB Tryd.prog = true := by kernel_rfl

section
variable {H : Type} {enc : TypeId × Value → H} {w : World} {base : Nat} {spare : Nat → Bool} {held : Bool}
theorem one_of_int {P : Program} {t : TypeId} {q : IntKind} (ht : P.underlying t = some (.int q)) {n : Nat} {cs : List Value} {x : Option (DataW H × List MemPlace)} (hx : x.isSome = true) (h : DataW.trod enc P w base spare held n t cs = x) : ∃ k, cs = [.int q k] ∧ (Lit.int q k).wf = true := by
  obtain ⟨y, rfl⟩ := Option.isSome_iff_exists.1 hx
  obtain ⟨k, h1, _, h3⟩ := DataW.trod_int ht h
  exact ⟨k, h1, h3⟩
theorem u8_of_wf {x : Int} (h : (Lit.int .u8 x).wf = true) : 0 ≤ x ∧ x < 256 := by
  simp only [Lit.wf, Bool.and_eq_true, decide_eq_true_eq] at h; exact ⟨h.1, Int.lt_add_one_of_le h.2⟩
theorem u8_byte {x : Int} (h : 0 ≤ x ∧ x < 256) : ∃ b : UInt8, x = b.toNat :=
  ⟨UInt8.ofNat x.toNat, by rw [UInt8.toNat_ofNat_of_lt' (by show _ < 256; omega)]; omega⟩

theorem bytes_open {fuel : Nat} {cs : List Value} {x : DataW H × List MemPlace} (h : DataW.trod enc Tryd.prog w base spare held fuel 22 cs = some x) :
    ∃ (v : Value) (l : List UInt8), cs = [v] ∧ ByC w v l := by
  have hcc : Tryd.prog.cellsOf 5 = 1 := by kernel_rfl
  rcases DataW.trod_slice Tryd.underlying22 h with ⟨rfl, _⟩ | ⟨a, len, cap, elems, rest, m, _, rfl, _, hb, hl, hm, hlen, hel, _, _⟩
  · exact ⟨_, [], rfl, ⟨none, 0, rfl, by simp [maxLen], fun e => absurd rfl e⟩, none, 0, rfl, Nat.le_refl _⟩
  · have hsp : 0 < len → a.spot = none := fun h0 => by
      have h1 := hel 0 h0
      rw [hcc, List.getElem?_eq_getElem (by omega)] at h1
      obtain ⟨c, hc, ht⟩ := Option.bind_eq_some_iff.1 h1
      obtain ⟨_, hl1, hc3⟩ := World.cells?_some hc
      have h2 := hc3 0 (by omega)
      rw [List.getElem?_eq_getElem (by omega)] at h2
      have ha : (a.add (0 * 1)).add 0 = a := by simp [Addr.add]
      rw [ha] at h2
      exact World.cell?_spot h2
    have key : ∀ i, ∃ o : UInt8, i < len → ∃ b q, a = ⟨b, q, none⟩ ∧ b < w.heap.size ∧ w.cell? ⟨b, q + i, none⟩ = some (.int .u8 o.toNat) := fun i => by
      by_cases hi : i < len
      · have h1 := hel i hi
        rw [hcc, List.getElem?_eq_getElem (by omega)] at h1
        obtain ⟨c, hc, ht⟩ := Option.bind_eq_some_iff.1 h1
        obtain ⟨k, rfl, hw⟩ := one_of_int Tryd.underlying5 rfl ht
        obtain ⟨o, rfl⟩ := u8_byte (u8_of_wf hw)
        refine ⟨o, fun _ => ?_⟩
        have hz := World.cells?_block hc (by omega)
        obtain ⟨hc1, hc2, hc3⟩ := World.cells?_some hc
        obtain ⟨b, q, s⟩ := a
        have : s = none := hsp (by omega)
        subst this
        have := hc3 0 (by omega)
        rw [Addr.add_mid, Addr.add_mid] at this
        refine ⟨b, q, rfl, by simpa [block_add] using hz, ?_⟩
        rw [show q + i = q + i * 1 + 0 by omega, this]
        rfl
      · exact ⟨0, fun h => absurd h hi⟩
    obtain ⟨f, hf⟩ := Classical.axiomOfChoice key
    have hlen2 : ((List.range len).map f).length = len := by simp
    refine ⟨_, (List.range len).map f, rfl, ⟨some a, cap, by rw [hlen2], by rw [hlen2]; omega, fun hne => ?_⟩, some a, cap, by rw [hlen2], by rw [hlen2]; exact hl⟩
    have h0 : 0 < len := by
      rcases Nat.eq_zero_or_pos len with h0 | h0
      · exact absurd (by rw [h0]; rfl) hne
      · exact h0
    obtain ⟨b, q, ha, hz, _⟩ := hf 0 h0
    refine ⟨b, q, by rw [ha], hz, fun i v hv => ?_⟩
    have hi : i < len := by have := (List.getElem?_eq_some_iff.1 hv).1; simpa [bv] using this
    obtain ⟨b', q', ha', _, hc⟩ := hf i hi
    rw [ha] at ha'
    injection ha' with e1 e2
    subst e1; subst e2
    rw [hc, ← hv]
    simp [bv, hi]
end
end Go.Proofs.YthachckofghppaaDoor
