/- Trees of a call's own: Clone, own, made. -/
import Derived.Test.YthachckofghppaaDoorT5
namespace Go.Proofs.YthachckofghppaaDoor
open Go.RowKit
set_option maxRecDepth 100000
set_option linter.unusedSimpArgs false
set_option linter.unusedVariables false

def prs (ps : List (ByteArray × Value)) : List Value := ps.flatMap fun p => [.string p.1, p.2]
theorem prs_len : ∀ ps, (prs ps).length = ps.length * 2
  | [] => rfl
  | p :: ps => by unfold prs; rw [List.flatMap_cons, List.length_append]; have := prs_len ps; unfold prs at this; rw [this]; simp; omega
theorem prs_cons (p : ByteArray × Value) (ps : List (ByteArray × Value)) : prs (p :: ps) = .string p.1 :: p.2 :: prs ps := rfl
theorem prs_get : ∀ (ps : List (ByteArray × Value)) (j : Nat) (p : ByteArray × Value), ps[j]? = some p → (prs ps)[j * 2]? = some (.string p.1) ∧ (prs ps)[j * 2 + 1]? = some p.2
  | [], j, p, h => by simp at h
  | q :: ps, 0, p, h => by simp at h; subst h; exact ⟨rfl, rfl⟩
  | q :: ps, j + 1, p, h => by
    rw [List.getElem?_cons_succ] at h
    have := prs_get ps j p h
    rw [prs_cons]
    rw [show (j + 1) * 2 = j * 2 + 1 + 1 by omega]
    exact this
theorem prs_set1 : ∀ (ps : List (ByteArray × Value)) (j : Nat) (s : ByteArray) (p : ByteArray × Value), ps[j]? = some p → (prs ps).set (j * 2) (.string s) = prs (ps.set j (s, p.2))
  | [], j, s, p, h => by simp at h
  | q :: ps, 0, s, p, h => by simp at h; subst h; rfl
  | q :: ps, j + 1, s, p, h => by
    rw [List.getElem?_cons_succ] at h
    have := prs_set1 ps j s p h
    rw [List.set_cons_succ, prs_cons, prs_cons, show (j + 1) * 2 = j * 2 + 1 + 1 by omega, List.set_cons_succ, List.set_cons_succ, this]
theorem prs_set2 : ∀ (ps : List (ByteArray × Value)) (j : Nat) (x : Value) (p : ByteArray × Value), ps[j]? = some p → (prs ps).set (j * 2 + 1) x = prs (ps.set j (p.1, x))
  | [], j, x, p, h => by simp at h
  | q :: ps, 0, x, p, h => by simp at h; subst h; rfl
  | q :: ps, j + 1, x, p, h => by
    rw [List.getElem?_cons_succ] at h
    have := prs_set2 ps j x p h
    rw [List.set_cons_succ, prs_cons, prs_cons, show (j + 1) * 2 + 1 = j * 2 + 1 + 1 + 1 by omega, List.set_cons_succ, List.set_cons_succ, this]
/-- These pairs stand for these files. -/
def PairsAt (w : World) (ps : List (ByteArray × Value)) (l : List FileE) : Prop := ps.length = l.length ∧ ∀ (j : Nat) f, l[j]? = some f → f.path.size ≤ maxLen ∧ ∃ x, ps[j]? = some (f.path, x) ∧ ByAt w x f.bytes
theorem PairsAt.kept {w w' : World} {ps : List (ByteArray × Value)} {l : List FileE} (h : PairsAt w ps l) (hk : Kept (fun _ => False) w w') : PairsAt w' ps l :=
  ⟨h.1, fun j f hf => by obtain ⟨h1, x, h2, h3⟩ := h.2 j f hf; exact ⟨h1, x, h2, h3.kept hk⟩⟩
theorem row_kept {w w' : World} {base : Nat} {t : TypeId} {z : Nat} {v : Value} {n : Nat} {xs : List Value} (h : w.ownsRow base t z v n xs) (hk : Kept (fun _ => False) w w') : w'.ownsRow base t z v n xs := by
  refine ⟨h.1, ?_⟩
  rcases h.2 with h0 | ⟨g, cap, cur, rfl, hb, hg, hr⟩
  · exact .inl h0
  · exact .inr ⟨g, cap, cur, rfl, hb, by rw [hk.block g (Array.getElem?_eq_some_iff.1 hg).1 not_false]; exact hg, hr⟩
theorem row_len {w : World} {base : Nat} {v : Value} {n : Nat} {ps : List (ByteArray × Value)} {t : TypeId} (h : w.ownsRow base t 2 v n (prs ps)) : n = ps.length := by
  have := h.1; rw [prs_len] at this; omega
theorem TreeAt.of_row {w : World} {base : Nat} {v : Value} {n : Nat} {ps : List (ByteArray × Value)} {l : List FileE} (h : w.ownsRow base 33 2 v n (prs ps)) (hp : PairsAt w ps l) : TreeAt w v l := by
  have hn := row_len h
  rw [hp.1] at hn
  rcases h.2 with ⟨rfl, h0⟩ | ⟨g, cap, cur, rfl, hb, hg, hc, hm, hs, ht⟩
  · obtain rfl : l = [] := List.eq_nil_of_length_eq_zero (by omega)
    exact TreeAt.nil w 0
  · have cells := h.cells (g := g) rfl
    refine ⟨_, cap, by rw [hn], by omega, fun _ => ⟨g, 0, rfl, (Array.getElem?_eq_some_iff.1 hg).1, fun j f hf => ?_⟩⟩
    obtain ⟨h1, x, h2, h3⟩ := hp.2 j f hf
    obtain ⟨p1, p2⟩ := prs_get ps j _ h2
    refine ⟨h1, x, fun i u hu => ?_, h3⟩
    have c1 := cells _ _ p1
    have c2 := cells _ _ p2
    rw [Addr.add_mid] at c1 c2
    match i, hu with
    | 0, hu => simp at hu; subst hu; simpa using c1
    | 1, hu => simp at hu; subst hu; rw [show 0 + j * 2 + 1 = 0 + (j * 2 + 1) by omega]; exact c2
theorem TreeAt.pairs {w : World} {a : Option Addr} {n c : Nat} {l : List FileE} (h : TreeAt w (.slice a n c) l) :
    ∃ ps, PairsAt w ps l ∧ (l ≠ [] → ∃ b o, a = some ⟨b, o, none⟩ ∧ b < w.heap.size ∧ w.rangeAt b o (prs ps)) := by
  have key : ∀ j : Fin l.length, ∃ x : Value, l[j].path.size ≤ maxLen ∧ ByAt w x l[j].bytes ∧ (∃ b o, a = some ⟨b, o, none⟩ ∧ b < w.heap.size ∧ w.rangeAt b (o + j * 2) [.string l[j].path, x]) := fun j => by
    obtain ⟨h1, b, o, x, e, hb, hr, hB⟩ := h.file (List.getElem?_eq_getElem j.2)
    exact ⟨x, h1, hB, b, o, e, hb, hr⟩
  obtain ⟨xs, hxs⟩ := Classical.axiomOfChoice key
  have hps : ∀ (j : Nat) f, l[j]? = some f → ∃ hj : j < l.length, f = l[j] ∧ (List.ofFn fun j : Fin l.length => (l[j].path, xs j))[j]? = some (f.path, xs ⟨j, hj⟩) := fun j f hf => by
    obtain ⟨hj, rfl⟩ := List.getElem?_eq_some_iff.1 hf
    exact ⟨hj, rfl, by simp [List.getElem?_ofFn, hj]⟩
  refine ⟨List.ofFn fun j : Fin l.length => (l[j].path, xs j), ⟨by simp, fun j f hf => ?_⟩, fun hl => ?_⟩
  · obtain ⟨hj, rfl, e⟩ := hps j f hf
    obtain ⟨h1, h2, _⟩ := hxs ⟨j, hj⟩
    exact ⟨h1, _, e, h2⟩
  · obtain ⟨b, o, e, hb, _⟩ := (hxs ⟨0, List.length_pos_iff.2 hl⟩).2.2
    refine ⟨b, o, e, hb, fun k u hu => ?_⟩
    have hk := (List.getElem?_eq_some_iff.1 hu).1
    rw [prs_len] at hk
    simp only [List.length_ofFn] at hk
    have hj : k / 2 < l.length := by omega
    obtain ⟨_, _, e2⟩ := hps (k / 2) _ (List.getElem?_eq_getElem hj)
    obtain ⟨p1, p2⟩ := prs_get _ _ _ e2
    obtain ⟨b', o', e', _, hr⟩ := (hxs ⟨k / 2, hj⟩).2.2
    rw [e] at e'
    injection e' with e'; injection e' with e1 e2 _
    subst e1; subst e2
    rcases Nat.mod_two_eq_zero_or_one k with hm | hm
    · rw [show k / 2 * 2 = k by omega] at p1
      rw [p1] at hu
      have := hr 0 _ rfl
      simp only at this
      rw [show o + k / 2 * 2 + 0 = o + k by omega] at this
      rw [this]; exact hu
    · rw [show k / 2 * 2 + 1 = k by omega] at p2
      rw [p2] at hu
      have := hr 1 _ rfl
      simp only at this
      rw [show o + k / 2 * 2 + 1 = o + k by omega] at this
      rw [this]; exact hu
theorem ByAt.one {w : World} {x : Value} {l : List UInt8} (h : ByAt w x l) : x.oneCell' = true := by obtain ⟨a, c, rfl, _⟩ := h; rfl
theorem PairsAt.one {w : World} {ps : List (ByteArray × Value)} {l : List FileE} (h : PairsAt w ps l) : ∀ u ∈ prs ps, u.oneCell' = true := fun u hu => by
  unfold prs at hu
  obtain ⟨p, hp, hu⟩ := List.mem_flatMap.1 hu
  obtain ⟨j, hj, rfl⟩ := List.getElem_of_mem hp
  have hjl : j < l.length := by rw [← h.1]; exact hj
  obtain ⟨_, x, e, hB⟩ := h.2 j _ (List.getElem?_eq_getElem hjl)
  rw [List.getElem?_eq_getElem hj] at e
  injection e with e
  rw [e] at hu
  simp only [List.mem_cons, List.not_mem_nil, or_false] at hu
  rcases hu with rfl | rfl
  · rfl
  · exact hB.one
theorem app_files {w : World} {base n : Nat} {v : Value} {xs : List Value} (h : w.ownsRow base 33 2 v n xs) {ad : Addr} {m c : Nat} {news : List Value} (hl : news.length = m * 2) (hnews : ∀ j u, news[j]? = some u → w.cell? (ad.add j) = some u) (h1 : ∀ u ∈ news, u.oneCell' = true) (hn : n + m ≤ 1000000) (hb : base ≤ w.heap.size) (t ty : TypeId) (ht : Tryd.prog.underlying t = some (.slice 33)) :
    ∃ v' w', (Builtin.append_ #[t, t] ty #[v, .slice (some ad) m c]).run Tryd.prog w = .ok v' w' ∧ w'.ownsRow base 33 2 v' (n + m) (xs ++ news) ∧ w.grownBy w' v.ownBlock := by
  obtain ⟨i, hi⟩ : ∃ i, Tryd.prog.info? 33 = some i := ⟨_, rfl⟩
  obtain ⟨z, hz⟩ : ∃ z, i.zero = some z := by injection hi with hi; subst hi; exact ⟨_, rfl⟩
  have hs : i.size = 2 := by injection hi with hi; subst hi; rfl
  have hzs : z.cells.size = 2 := by injection hi with hi; subst hi; injection hz with hz; subst hz; rfl
  have hby : i.bytes ≤ 100 := by injection hi with hi; subst hi; decide
  obtain ⟨v', w', a1, a2, a3, _⟩ := run_append_own (P := Tryd.prog) w base t ty 33 i z 2 i.bytes ht hi hz hs rfl hzs (by omega) v n xs h ad m c news hl hnews h1 (by simp only [maxLen]; omega)
    (by have : (n + m) * i.bytes ≤ 1000000 * 100 := Nat.mul_le_mul hn hby; omega) hb
  exact ⟨v', w', a1, a2, a3⟩
theorem bslice_f0 (w : World) : (Instr.buildSlice 28 0 #[]).run Tryd.prog w = .ok (.slice (some ⟨w.heap.size, 0, none⟩) 0 0) (w.alloc (.cells #[] 33)) := by kernel_rfl
theorem bslice_b0 (w : World) : (Instr.buildSlice 22 0 #[]).run Tryd.prog w = .ok (.slice (some ⟨w.heap.size, 0, none⟩) 0 0) (w.alloc (.cells #[] 5)) := by kernel_rfl
end Go.Proofs.YthachckofghppaaDoor
