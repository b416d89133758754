/- Lengths; pack and unpack by what they come to. -/
import Derived.Test.YthachckofghppaaDoorYO
namespace Go.Proofs.YthachckofghppaaDoor
open Go.RowKit
set_option maxRecDepth 100000
set_option linter.unusedSimpArgs false
set_option linter.unusedVariables false

def packPut (F : Int) (s : VmS) (a b : ByteArray) : VR := match packV s a b with
  | none => .stop 8 s.us
  | some x => putV F s b x
def getUnp (F : Int) (s : VmS) (a d : ByteArray) : VR := match getV s a with
  | none => .stop 70 s.us
  | some b => unpackV F s b d
theorem partL_len (b : List UInt8) (n m : Nat) : (partL b n m).length ≤ b.length := by
  unfold partL; rw [List.length_take, List.length_drop]; omega
theorem bodyL_len (l : List UInt8) : (bodyL l).length = if endsTen l = true then l.length - 1 else l.length := by
  unfold bodyL; split
  · rw [List.length_take]; omega
  · rfl
theorem sortL_len (b : List UInt8) : (sortL b).length = b.length := by
  unfold sortL
  by_cases h : b = []
  · rw [if_pos h, h]
  · rw [if_neg h]
    have h1 := cutB_lens (bodyL b)
    have h2 := lens_perm (sortR_perm (cutB (bodyL b)))
    have h3 := sortR_len (cutB (bodyL b))
    have h4 : sortR (cutB (bodyL b)) ≠ [] := fun e => by
      rw [e] at h3
      have := List.length_pos_iff.2 (cutB_ne (bodyL b))
      simp at h3; omega
    have h5 := join_len _ h4
    have h6 := bodyL_len b
    have h7 : 0 < b.length := List.length_pos_iff.2 h
    rw [List.length_append]
    cases hE : endsTen b <;> rw [hE] at h6 <;> simp at h6 ⊢ <;> omega
theorem RunAt.lt {w : World} {X : Nat} {F : Int} {s : VmS} (h : RunAt w X F s) : X < w.heap.size := by
  obtain ⟨_, hx, _⟩ := h.cells
  exact (Array.getElem?_eq_some_iff.1 hx).1
theorem rawL_le {l : List FileE} (hm : mayB l = true) : (rawL l).length ≤ 100000 := by
  have hi := mayIs hm
  have h1 := filesL_len (l := l) (fun f hf => ⟨(hi.file f hf).2.1, (hi.file f hf).2.2⟩)
  have h2 := formL_len l.length
  have h3 := hi.len
  unfold rawL
  rw [List.length_append]
  omega
theorem packV_len {s : VmS} {d t : ByteArray} {b : List UInt8} (h : packV s d t = some b) : b.length ≤ 100000 := by
  unfold packV at h
  split at h
  · injection h with h; subst h; exact rawL_le (by assumption)
  · cases h
section
variable {w : World} {X : Nat} {F : Int} {s : VmS}
theorem pack_yes (h : RunAt w X F s) {d t : ByteArray} (hd : pathB d = true) (hds : d.size ≤ 1000) (hts : t.size ≤ 1000) {b : List UInt8} (hg : packV s d t = some b) :
    Calls Tryd.prog 29 #[.pointer (some ⟨X, 0, none⟩), .string d, .string t] w fun e w' => ∃ v, e = .returned v ∧ ByX X w' v b ∧ RunAt w' X F s ∧ Kept (fun _ => False) w w' :=
  (pack_ct h hd hds hts).mono fun e w' ⟨⟨h1, h2⟩, h3⟩ => by
    rw [hg] at h2
    obtain ⟨v, e1, e2⟩ := h2
    exact ⟨v, e1, e2, h1, h3⟩
theorem pack_no (h : RunAt w X F s) {d t : ByteArray} (hd : pathB d = true) (hds : d.size ≤ 1000) (hts : t.size ≤ 1000) (hg : packV s d t = none) :
    Calls Tryd.prog 29 #[.pointer (some ⟨X, 0, none⟩), .string d, .string t] w fun e w' => e = .panicked (STOPC 8) ∧ RunAt w' X F s ∧ Kept (fun _ => False) w w' :=
  (pack_ct h hd hds hts).mono fun e w' ⟨⟨h1, h2⟩, h3⟩ => by
    rw [hg] at h2
    exact ⟨h2, h1, h3⟩
theorem unpack_go (h : RunAt w X F s) {v : Value} {b : List UInt8} (hb : ByX X w v b) (hl : b.length ≤ 100000) {d : ByteArray} (hd : pathB d = true) {s' : VmS} (hr : unpackV F s b d = .go s') :
    Calls Tryd.prog 30 #[.pointer (some ⟨X, 0, none⟩), v, .string d] w fun e w' => e = .returned (.tuple #[]) ∧ RunAt w' X F s' ∧ Kept (fun k => k = X) w w' :=
  (unpack_ct h hb hl hd).mono fun e w' ⟨h1, h2⟩ => by
    rw [hr] at h1
    exact ⟨h1.1, h1.2, h2⟩
theorem unpack_stop (h : RunAt w X F s) {v : Value} {b : List UInt8} (hb : ByX X w v b) (hl : b.length ≤ 100000) {d : ByteArray} (hd : pathB d = true) {c u : Int} (hr : unpackV F s b d = .stop c u) :
    Calls Tryd.prog 30 #[.pointer (some ⟨X, 0, none⟩), v, .string d] w fun e w' => e = .panicked (STOPC c) ∧ (∃ s', RunAt w' X F s' ∧ s'.us = u) ∧ Kept (fun k => k = X) w w' :=
  (unpack_ct h hb hl hd).mono fun e w' ⟨h1, h2⟩ => by
    rw [hr] at h1
    exact ⟨h1.1, h1.2, h2⟩
end
end Go.Proofs.YthachckofghppaaDoor
