/- Op.claim. -/
import Derived.Test.YtbaehaleigpijaaG0
namespace Go.Proofs.Ytbaehaleigpijaa
open Go.RowKit
set_option linter.unusedSimpArgs false
set_option linter.unusedVariables false

/-- An op's cells. -/
abbrev opv (kind by_ key : Int) (C : Array Value) : Array Value := #[.int .i64 kind, .int .i64 by_, .int .u8 key] ++ C

theorem heap_setCells {b : Nat} {t : TypeId} {fr : Nat × Nat} : ∀ (l A X R : List Value) (w : World), X.length = l.length → w.heap[b]? = some (.cells (A ++ X ++ R).toArray t fr) →
    (w.setCells b A.length l).heap[b]? = some (.cells (A ++ l ++ R).toArray t fr)
  | [], A, X, R, w, hX, h => by
    obtain rfl : X = [] := List.eq_nil_of_length_eq_zero hX
    exact h
  | v :: l, A, x :: X, R, w, hX, h => by
    have h1 : (w.setCell ⟨b, A.length, none⟩ v).heap[b]? = some (.cells ((A ++ [v]) ++ X ++ R).toArray t fr) := by
      rw [heap_setCell_same h]
      congr 2
      apply Array.ext'
      rw [Array.toList_setIfInBounds]
      simp
    have := heap_setCells l (A ++ [v]) X R _ (by simpa using hX) h1
    simp only [List.length_append, List.length_cons, List.length_nil, List.append_assoc, List.cons_append, List.nil_append] at this
    simpa [World.setCells] using this
  | v :: l, A, [], R, w, hX, h => by simp at hX
theorem setCells_other {b : Nat} : ∀ (l : List Value) (o : Nat) (w : World) (k : Nat), k ≠ b → (w.setCells b o l).heap[k]? = w.heap[k]?
  | [], _, _, _, _ => rfl
  | v :: l, o, w, k, h => by rw [World.setCells, setCells_other l (o + 1) _ k h]; exact Below.heap_setCell _ _ _ _ h
theorem setCells_frame (b : Nat) : ∀ (l : List Value) (o : Nat) (w : World), (w.setCells b o l).os = w.os ∧ (w.setCells b o l).tape = w.tape ∧ (w.setCells b o l).output = w.output ∧ (w.setCells b o l).heap.size = w.heap.size
  | [], _, _ => ⟨rfl, rfl, rfl, rfl⟩
  | v :: l, o, w => by
    obtain ⟨h1, h2, h3, h4⟩ := setCells_frame b l (o + 1) (w.setCell ⟨b, o, none⟩ v)
    exact ⟨h1, h2, h3, by rw [World.setCells, h4]; simp [World.setCell]⟩
theorem Kept.setCells {S : Nat → Prop} {a w : World} (h : Kept S a w) {b : Nat} (hb : b < a.heap.size → S b) (o : Nat) (l : List Value) : Kept S a (w.setCells b o l) := by
  obtain ⟨h1, h2, h3, h4⟩ := setCells_frame b l o w
  exact ⟨h1.trans h.os, h2.trans h.tape, h3.trans h.output, by rw [h4]; exact h.size, fun k hk hs => by
    rw [setCells_other _ _ _ _ (fun e => by subst e; exact hs (hb hk))]; exact h.block k hk hs⟩

theorem load_off {P : Program} {t ty : TypeId} {d : TypeDesc} (hu : P.underlying ty = some d) (hd : d.isRow = true) {w : World} {b : Nat} {A D R : Array Value} {fr : Nat × Nat} (h : w.heap[b]? = some (.cells (A ++ D ++ R) t fr))
    (hi : (P.info? ty).map (·.size) = some D.size) {o : Nat} (ho : A.size = o) : (Instr.loadAt ty (.pointer (some ⟨b, o, none⟩))).run P w = .ok (.agg D) w := by
  have := run_loadAt_mid (P := P) w b o ty D.toList d (fun j v hv => by
    rw [cell_of_row _ _ _ _ _ _ h]
    have hj : j < D.size := by simpa using (List.getElem?_eq_some_iff.1 hv).1
    rw [Array.append_assoc, Array.getElem?_append_right (by omega), Array.getElem?_append_left (by omega)]
    rw [show o + j - A.size = j from by omega]; simpa using hv) hu hd (by simpa using hi)
  simpa using this
theorem store_head {P : Program} {t ty : TypeId} {w : World} {b : Nat} {D D' R : Array Value} (h : w.heap[b]? = some (.cells (D ++ R) t (0, 0))) (hs : D.size = D'.size) (hi : (P.info? ty).map (·.size) = some D'.size) (h1 : D'.all (·.oneCell') = true) :
    (Instr.storeAt ty (.pointer (some ⟨b, 0, none⟩)) (.agg D')).run P w = .ok () (w.setCells b 0 D'.toList) ∧ (w.setCells b 0 D'.toList).heap[b]? = some (.cells (D' ++ R) t (0, 0)) := by
  refine ⟨?_, ?_⟩
  · exact run_storeAt_mid w b 0 ty D' (fun j hj => ⟨by rw [Nat.zero_add, cell_of_row _ _ _ _ _ _ h, Array.getElem?_append_left (by omega)]; rw [Array.getElem?_eq_getElem (by omega)]; rfl, by simp [World.frozen?, h]⟩) hi h1
  · have := heap_setCells (b := b) (t := t) (fr := (0, 0)) D'.toList [] D.toList R.toList w (by simpa using hs) (by rw [h]; congr 2; apply Array.ext'; simp)
    rw [show ([] : List Value).length = 0 from rfl] at this
    rw [this]; congr 2; apply Array.ext'; simp
end Go.Proofs.Ytbaehaleigpijaa
