/- The document's words: the constants of SHA-256. -/
import Derived.Test.YtehpaddddiigbaaDoorSG
namespace Go.Proofs.YtehpaddddiigbaaDoor
open Go.RowKit
set_option maxRecDepth 100000
set_option linter.unusedSimpArgs false
set_option linter.unusedVariables false

def kF : List Nat := [5411319704, 6194414737, 7344290767, 8215976869, 9551921755, 10098905585, 11043570340, 11460697813, 12214315672, 13195500289, 13492127166, 14311783875, 14809980276, 15046980094, 15499789991, 16133124468, 16720292289, 16907126662, 17444216262, 17784676812, 17950125167, 18429019306, 18734950876, 19175934170, 19734090066, 20001703533, 20132865992, 20390182855, 20516441075, 20764397895, 21588763473, 21813078375, 22141143685, 22248366392, 22769593852, 22871018771, 23170020180, 23461497531, 23651862830, 23931792517, 24205322401, 24295138891, 24734567280, 24820601251, 24990902297, 25075189284, 25569408389, 26045227120, 26200031510, 26276752392, 26428864332, 26653801653, 26727943347, 27092625994, 27306805839, 27517677555, 27725365998, 27793908591, 27997534228, 28131656200, 28198240250, 28526537963, 28973835255, 29099129074]
def hF : List Nat := [6074000999, 7439101573, 9603838834, 11363415354, 14244795007, 15485724812, 17708603819, 18721328409]
def kW : List Nat := kF.map (· % 4294967296)
def hW : List Nat := hF.map (· % 4294967296)
theorem kF_root : ∀ i < 64, kF.getD i 0 ^ 3 ≤ p64.getD i 0 * BB ^ (2 * 3) ∧ p64.getD i 0 * BB ^ (2 * 3) < (kF.getD i 0 + 1) ^ 3 := by decide +kernel
theorem hF_root : ∀ i < 8, hF.getD i 0 ^ 2 ≤ p64.getD i 0 * BB ^ (2 * 2) ∧ p64.getD i 0 * BB ^ (2 * 2) < (hF.getD i 0 + 1) ^ 2 := by decide +kernel
theorem kW_at : ∀ i < 64, kW.getD i 0 = kF.getD i 0 % 4294967296 := by decide +kernel
theorem hW_at : ∀ i < 8, hW.getD i 0 = hF.getD i 0 % 4294967296 := by decide +kernel
theorem p64_le : ∀ i < 64, p64.getD i 0 ≤ 311 := by decide +kernel
theorem kW_len : kW.length = 64 := by decide +kernel
theorem hW_len : hW.length = 8 := by decide +kernel
/-- An array that is filled from the left. -/
def part (L : List Nat) (n i : Nat) : List Nat := L.take i ++ List.replicate (n - i) 0
theorem part_len {L : List Nat} {n i : Nat} (h : L.length = n) (hi : i ≤ n) : (part L n i).length = n := by unfold part; simp; omega
theorem part_set {L : List Nat} {n i : Nat} (h : L.length = n) (hi : i < n) : (part L n i).set i (L.getD i 0) = part L n (i + 1) := by
  unfold part
  have hl : (L.take i).length = i := by simp; omega
  rw [List.set_append_right _ _ (by omega), hl, Nat.sub_self, show n - i = (n - (i + 1)) + 1 by omega, List.replicate_succ, List.set_cons_zero, List.take_succ_eq_append_getElem (by omega), List.append_assoc, List.getD_eq_getElem?_getD, List.getElem?_eq_getElem (by omega)]
  rfl
theorem part_full {L : List Nat} {n i : Nat} (h : L.length = n) (hi : n ≤ i) : part L n i = L := by
  unfold part
  rw [List.take_of_length_le (by omega), show n - i = 0 by omega]
  simp

def z64 : List Nat := List.replicate 64 0
def z8 : List Nat := List.replicate 8 0
theorem zeroW64 (w : World) : (zeroValue 65).run Tryd.prog w = .ok (.agg (kv .u32 z64).toArray) w := by kernel_rfl
theorem zeroW8 (w : World) : (zeroValue 64).run Tryd.prog w = .ok (.agg (kv .u32 z8).toArray) w := by kernel_rfl
theorem ldW64 {w : World} {X : Nat} {l : List Nat} {t : TypeId} (h : Arr w X t .u32 l) (hl : l.length = 64) : (Instr.loadAt 65 (.pointer (some ⟨X, 0, none⟩))).run Tryd.prog w = .ok ((Value.agg (List.toArray (kv .u32 l)))) w := h.load Tryd.underlying65 rfl (by rw [hl]; kernel_rfl)
theorem stW64 {w : World} {X : Nat} {l m : List Nat} {t : TypeId} (h : Arr w X t .u32 l) (hl : l.length = 64) (hm : m.length = 64) : (Instr.storeAt 65 (.pointer (some ⟨X, 0, none⟩)) ((Value.agg (List.toArray (kv .u32 m))))).run Tryd.prog w = .ok () (w.setRow X (kv .u32 m).toArray) := h.store (by rw [hm]; kernel_rfl) (by omega)
theorem ldW8 {w : World} {X : Nat} {l : List Nat} {t : TypeId} (h : Arr w X t .u32 l) (hl : l.length = 8) : (Instr.loadAt 64 (.pointer (some ⟨X, 0, none⟩))).run Tryd.prog w = .ok ((Value.agg (List.toArray (kv .u32 l)))) w := h.load Tryd.underlying64 rfl (by rw [hl]; kernel_rfl)
theorem stW8 {w : World} {X : Nat} {l m : List Nat} {t : TypeId} (h : Arr w X t .u32 l) (hl : l.length = 8) (hm : m.length = 8) : (Instr.storeAt 64 (.pointer (some ⟨X, 0, none⟩)) ((Value.agg (List.toArray (kv .u32 m))))).run Tryd.prog w = .ok () (w.setRow X (kv .u32 m).toArray) := h.store (by rw [hm]; kernel_rfl) (by omega)
theorem row_int {w : World} {base : Nat} {v : Value} (h : w.ownsRow base 3 1 v 64 (iv p64)) : ∃ g c, v = .slice (some ⟨g, 0, none⟩) 64 c ∧ base ≤ g ∧ g < w.heap.size ∧ ∀ i < 64, w.cell? ⟨g, i, none⟩ = some (.int .i64 ((p64.getD i 0 : Nat) : Int)) := by
  rcases h.2 with ⟨rfl, h0⟩ | ⟨g, cap, cur, rfl, hb, hg, hc, hm, hs, ht⟩
  · omega
  · refine ⟨g, cap, rfl, hb, (Array.getElem?_eq_some_iff.1 hg).1, fun i hi => ?_⟩
    have := h.cells (g := g) rfl i (.int .i64 ((p64.getD i 0 : Nat) : Int)) (by
      unfold iv
      rw [List.getElem?_map, List.getD_eq_getElem?_getD, List.getElem?_eq_getElem (show i < p64.length from hi)]
      rfl)
    rw [Addr.add_mid, Nat.zero_add] at this
    exact this
