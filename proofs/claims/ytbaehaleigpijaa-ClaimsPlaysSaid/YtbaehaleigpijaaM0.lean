/- Maps with plain wide keys, read as functions; and what a call keeps of memory. -/
import Derived.WalkKit
import Derived.WalkSpells
import Derived.DeepKeys5
import Derived.Deep.QuietTactic
namespace Go.Proofs.Ytbaehaleigpijaa
open Go.RowKit
set_option linter.unusedSimpArgs false
set_option linter.unusedVariables false

/-- Of what was there only the blocks in S may have turned. -/
structure Kept (S : Nat → Prop) (w w' : World) : Prop where
  os : w'.os = w.os
  tape : w'.tape = w.tape
  output : w'.output = w.output
  size : w.heap.size ≤ w'.heap.size
  block : ∀ k, k < w.heap.size → ¬ S k → w'.heap[k]? = w.heap[k]?

theorem Kept.refl (S : Nat → Prop) (w : World) : Kept S w w := ⟨rfl, rfl, rfl, Nat.le_refl _, fun _ _ _ => rfl⟩
theorem Kept.trans {S : Nat → Prop} {a b c : World} (h : Kept S a b) (k : Kept S b c) : Kept S a c :=
  ⟨k.os.trans h.os, k.tape.trans h.tape, k.output.trans h.output, Nat.le_trans h.size k.size,
    fun i hi hs => (k.block i (Nat.lt_of_lt_of_le hi h.size) hs).trans (h.block i hi hs)⟩
theorem Kept.mono {S T : Nat → Prop} {a b : World} (h : Kept S a b) (hT : ∀ k, k < a.heap.size → S k → T k) : Kept T a b :=
  ⟨h.os, h.tape, h.output, h.size, fun i hi hs => h.block i hi (fun hk => hs (hT i hi hk))⟩
/-- The later call may write what the earlier one had not yet made. -/
theorem Kept.trans' {S T : Nat → Prop} {a b c : World} (h : Kept S a b) (k : Kept T b c) (hT : ∀ k, k < a.heap.size → T k → S k) : Kept S a c :=
  ⟨k.os.trans h.os, k.tape.trans h.tape, k.output.trans h.output, Nat.le_trans h.size k.size,
    fun i hi hs => (k.block i (Nat.lt_of_lt_of_le hi h.size) (fun ht => hs (hT i hi ht))).trans (h.block i hi hs)⟩
theorem Kept.drew {S : Nat → Prop} {a w : World} (h : Kept S a w) : Kept S a w.drew := ⟨h.os, h.tape, h.output, h.size, h.block⟩
theorem Kept.drewN {S : Nat → Prop} {a w : World} (h : Kept S a w) (n : Nat) : Kept S a (w.drewN n) := ⟨h.os, h.tape, h.output, h.size, h.block⟩
theorem Kept.alloc {S : Nat → Prop} {a w : World} (h : Kept S a w) (o : Obj) : Kept S a (w.alloc o) :=
  h.trans ⟨rfl, rfl, rfl, by simp, fun k hk _ => Below.heap_alloc _ _ _ hk⟩
theorem Kept.setCell {S : Nat → Prop} {a w : World} (h : Kept S a w) {p : Addr} (hp : p.block < a.heap.size → S p.block) (u : Value) : Kept S a (w.setCell p u) :=
  ⟨h.os, h.tape, h.output, by simpa [World.setCell] using h.size, fun k hk hs => by
    rw [Below.heap_setCell _ _ _ _ (fun e => by subst e; exact hs (hp hk))]; exact h.block k hk hs⟩
theorem Kept.below {S : Nat → Prop} {B : Nat} {w w' : World} (h : Kept S w w') (hB : B ≤ w.heap.size) (hS : ∀ k, S k → B ≤ k) : Below B w w' :=
  ⟨h.os, h.tape, h.output, h.size, fun k hk => h.block k (by omega) (fun hs => by have := hS k hs; omega)⟩
theorem Kept.of_below {B : Nat} {w w' : World} (h : Below B w w') (hB : w.heap.size ≤ B) (S : Nat → Prop) : Kept S w w' :=
  ⟨h.os, h.tape, h.output, h.size, fun k hk _ => h.block k (by omega)⟩
theorem Kept.cell {S : Nat → Prop} {w w' : World} (h : Kept S w w') {p : Addr} (hp : p.block < w.heap.size) (hS : ¬ S p.block) : w'.cell? p = w.cell? p :=
  World.cell?_of_block (w := w) (h.block p.block hp hS)
theorem Kept.frozen {S : Nat → Prop} {w w' : World} (h : Kept S w w') {p : Addr} (hp : p.block < w.heap.size) (hS : ¬ S p.block) : w'.frozen? p = w.frozen? p :=
  World.frozen?_of_block (w := w) (h.block p.block hp hS)

/-- Nothing but draws. -/
def Drawn (w w' : World) : Prop := ∃ n, w' = w.drewN n
theorem Drawn.refl (w : World) : Drawn w w := ⟨0, rfl⟩
theorem Drawn.drewN {w w' : World} (h : Drawn w w') (n : Nat) : Drawn w (w'.drewN n) := by
  obtain ⟨m, rfl⟩ := h
  exact ⟨m + n, by simp [World.drewN, Nat.add_assoc]⟩
theorem Drawn.drew {w w' : World} (h : Drawn w w') : Drawn w w'.drew := h.drewN 1
theorem Drawn.heap {w w' : World} (h : Drawn w w') : w'.heap = w.heap := by obtain ⟨m, rfl⟩ := h; rfl
theorem Drawn.cell {w w' : World} (h : Drawn w w') (a : Addr) : w'.cell? a = w.cell? a := by obtain ⟨m, rfl⟩ := h; rfl
theorem Drawn.kept {S : Nat → Prop} {w w' : World} (h : Drawn w w') : Kept S w w' := by obtain ⟨m, rfl⟩ := h; exact (Kept.refl S w).drewN m

theorem nodup_inj {α : Type} {l : List α} (h : l.Nodup) {i j : Nat} (hi : i < l.length) (hj : j < l.length) (e : l[i] = l[j]) : i = j := by
  rw [List.Nodup, List.pairwise_iff_getElem] at h
  rcases Nat.lt_trichotomy i j with q | q | q
  · exact absurd e (h i j hi hj q)
  · exact q
  · exact absurd e.symm (h j i hj hi q)

theorem heap_setCell_same {w : World} {b j : Nat} {C : Array Value} {t : TypeId} {fr : Nat × Nat} (h : w.heap[b]? = some (.cells C t fr)) (v : Value) :
    (w.setCell ⟨b, j, none⟩ v).heap[b]? = some (.cells (C.setIfInBounds j v) t fr) := by
  simp [World.setCell, Array.getElem?_modify, h]

/-! ### maps -/
/-- Block b is a map that reads as the function M. -/
def MapIs (P : Program) (k : TypeId) (w : World) (b : Nat) (M : Value → Option Value) : Prop :=
  ∃ es clock, w.heap[b]? = some (.map es clock) ∧ (∀ e ∈ es.toList, ∃ l, keyOf P k e.key = some l) ∧
    (es.toList.map (·.key)).Nodup ∧ (∀ x v, M x = some v ↔ ∃ e ∈ es.toList, e.key = x ∧ e.val = v)

variable {P : Program} {k : TypeId}

theorem MapIs.lt {w : World} {b : Nat} {M : Value → Option Value} (h : MapIs P k w b M) : b < w.heap.size := by
  obtain ⟨es, c, h, _⟩ := h
  exact (Array.getElem?_eq_some_iff.1 h).1

theorem MapIs.of_block {w w' : World} {b : Nat} {M : Value → Option Value} (h : MapIs P k w b M) (e : w'.heap[b]? = w.heap[b]?) : MapIs P k w' b M := by
  obtain ⟨es, c, h, r⟩ := h
  exact ⟨es, c, by rw [e]; exact h, r⟩

theorem MapIs.kept {S : Nat → Prop} {w w' : World} {b : Nat} {M : Value → Option Value} (h : MapIs P k w b M) (q : Kept S w w') (hs : ¬ S b) : MapIs P k w' b M :=
  h.of_block (q.block b h.lt hs)

theorem MapIs.ext {w : World} {b : Nat} {M N : Value → Option Value} (h : MapIs P k w b M) (q : ∀ x, N x = M x) : MapIs P k w b N := by
  rwa [show N = M from funext q]

theorem MapIs.made (w : World) : MapIs P k (w.alloc (.map #[] 0)) w.heap.size (fun _ => none) :=
  ⟨#[], 0, by show (w.heap.push _)[w.heap.size]? = _; simp, by simp, by simp, by simp⟩

/-- Whatever is in a map has a key. -/
theorem MapIs.key {w : World} {b : Nat} {M : Value → Option Value} (h : MapIs P k w b M) {x v : Value} (hx : M x = some v) : ∃ l, keyOf P k x = some l := by
  obtain ⟨es, c, h, hk, hn, hM⟩ := h
  obtain ⟨e, he, rfl, rfl⟩ := (hM x v).1 hx
  exact hk e he

section
variable (K : WideMaps.KeyLaw P k)
include K

theorem find_of {M : Value → Option Value} {es : Array MapEntry}
    (hk : ∀ e ∈ es.toList, ∃ l, keyOf P k e.key = some l) (hM : ∀ x v, M x = some v ↔ ∃ e ∈ es.toList, e.key = x ∧ e.val = v)
    {x : Value} {l : Lit} (hx : keyOf P k x = some l) (w : World) :
    ((Instr.findKey k x es.toList).run P w = .ok none w ∧ M x = none ∧ ∀ e ∈ es.toList, e.key ≠ x) ∨
    ∃ j e, (Instr.findKey k x es.toList).run P w = .ok (some (j, e.val)) w ∧ es.toList[j]? = some e ∧ e.key = x ∧ M x = some e.val := by
  rcases K.find w hx es.toList hk with ⟨h1, h2⟩ | ⟨j, e, h1, h2, h3⟩
  · refine .inl ⟨h1, ?_, h2⟩
    cases hm : M x with
    | none => rfl
    | some v =>
      obtain ⟨e, he, hke, _⟩ := (hM x v).1 hm
      exact absurd hke (h2 e he)
  · exact .inr ⟨j, e, h1, h2, h3, (hM x e.val).2 ⟨e, List.mem_of_getElem? h2, h3, rfl⟩⟩

theorem MapIs.look {t e : TypeId} (ht : P.underlying t = some (.map k e)) {w : World} {b : Nat} {M : Value → Option Value} (h : MapIs P k w b M)
    {z : Value} (hz : (zeroValue e).run P w = .ok z w) {x : Value} {l : Lit} (hx : keyOf P k x = some l) (c : Bool) :
    (Instr.lookup t (.map (some b)) x c).run P w = .ok (if c then .tuple #[(M x).getD z, .bool (M x).isSome] else (M x).getD z) w := by
  obtain ⟨es, clock, hb, hk, hn, hM⟩ := h
  unfold Instr.lookup
  rcases find_of K hk hM hx w with ⟨h1, h2, _⟩ | ⟨j, e0, h1, h2, h3, h4⟩
  · simp [Sem.run_bind, run_underlying ht, getObj, Sem.run, hb, K.check w _ hx, h1, h2, hz]
  · simp [Sem.run_bind, run_underlying ht, getObj, Sem.run, hb, K.check w _ hx, h1, h4]

open Classical in
/-- M with v at x. -/
noncomputable def put (M : Value → Option Value) (x : Value) (v : Option Value) : Value → Option Value := fun y => if y = x then v else M y
omit K in
theorem put_same (M : Value → Option Value) (x : Value) (v : Option Value) : put M x v x = v := by simp [put]
omit K in
theorem put_other (M : Value → Option Value) (x : Value) (v : Option Value) {y : Value} (h : y ≠ x) : put M x v y = M y := by simp [put, h]

/-- The world with block b turned. -/
def setBlk (w : World) (b : Nat) (o : Obj) : World := { w with heap := w.heap.setIfInBounds b o }
omit K in
theorem setBlk_at {w : World} {b : Nat} (o : Obj) (h : b < w.heap.size) : (setBlk w b o).heap[b]? = some o := by simp [setBlk, h]
omit K in
theorem setBlk_ne {w : World} {b c : Nat} (o : Obj) (h : c ≠ b) : (setBlk w b o).heap[c]? = w.heap[c]? := by
  simp [setBlk, Array.getElem?_setIfInBounds]; intro e; exact absurd e.symm h
omit K in
theorem Kept.setBlk {S : Nat → Prop} {a w : World} (h : Kept S a w) {b : Nat} (hb : b < a.heap.size → S b) (o : Obj) : Kept S a (setBlk w b o) :=
  ⟨h.os, h.tape, h.output, by simpa [Go.Proofs.Ytbaehaleigpijaa.setBlk] using h.size, fun k hk hs => by
    rw [setBlk_ne _ (fun e => by subst e; exact hs (hb hk))]; exact h.block k hk hs⟩

theorem MapIs.store {t e : TypeId} (ht : P.underlying t = some (.map k e)) {w : World} {b : Nat} {M : Value → Option Value} (h : MapIs P k w b M)
    {x : Value} {l : Lit} (hx : keyOf P k x = some l) (v : Value) :
    ∃ o, (Instr.mapUpdate t (.map (some b)) x v).run P w = .ok () (setBlk w b o) ∧ ∀ w' : World, w'.heap[b]? = some o → MapIs P k w' b (put M x (some v)) := by
  have hlt := h.lt
  obtain ⟨es, clock, hb, hk, hn, hM⟩ := h
  rcases find_of K hk hM hx w with ⟨h1, h2, h3⟩ | ⟨j, e0, h1, h2, h3, h4⟩
  · refine ⟨.map (es.push { key := x, val := v, born := clock }) (clock + 1), ?_, fun w' hw' => ⟨_, _, hw', ?_, ?_, ?_⟩⟩
    · simp [Instr.mapUpdate, Sem.run_bind, run_underlying ht, getObj, setObj, Sem.run, hb, K.check w _ hx, h1, setBlk]
    · intro e he
      simp at he
      rcases he with he | rfl
      · exact hk e (by simpa using he)
      · exact ⟨l, hx⟩
    · simp only [Array.toList_push, List.map_append, List.map_cons, List.map_nil]
      rw [List.nodup_append]
      refine ⟨hn, by simp, ?_⟩
      intro a ha b hb e
      simp at hb
      subst hb; subst e
      simp at ha
      obtain ⟨e1, he1, he2⟩ := ha
      exact h3 e1 (by simpa using he1) he2
    · intro y u
      by_cases hy : y = x
      · subst hy
        rw [put_same]
        constructor
        · intro hu
          injection hu with hu; subst hu
          exact ⟨{ key := y, val := v, born := clock }, by simp, rfl, rfl⟩
        · rintro ⟨e1, he1, he2, he3⟩
          simp at he1
          rcases he1 with he1 | rfl
          · exact absurd he2 (h3 e1 (by simpa using he1))
          · simpa using he3
      · rw [put_other _ _ _ hy, hM]
        constructor
        · rintro ⟨e1, he1, he2⟩
          exact ⟨e1, by simp at he1 ⊢; exact .inl he1, he2⟩
        · rintro ⟨e1, he1, he2, he3⟩
          simp at he1
          rcases he1 with he1 | rfl
          · exact ⟨e1, by simpa using he1, he2, he3⟩
          · exact absurd he2.symm hy
  · have hj : j < es.toList.length := (List.getElem?_eq_some_iff.1 h2).1
    have hje : es.toList[j] = e0 := (List.getElem?_eq_some_iff.1 h2).2
    have hea : es[j]? = some e0 := by rw [← Array.getElem?_toList]; exact h2
    have hst := K.stays w hx
    have hL : (es.modify j fun e => { e with key := x, val := v }).toList = es.toList.set j { e0 with key := x, val := v } := by
      apply List.ext_getElem?
      intro i
      rw [Array.getElem?_toList, Array.getElem?_modify, List.getElem?_set]
      by_cases hi : j = i
      · subst hi; simp [hea]; exact by simpa using hj
      · simp [hi]
    have hkeys : (es.toList.set j { e0 with key := x, val := v }).map (·.key) = es.toList.map (·.key) := by
      apply List.ext_getElem?
      intro i
      rw [List.getElem?_map, List.getElem?_set, List.getElem?_map]
      by_cases hi : j = i
      · subst hi; simp [h2, h3]; exact by simpa using hj
      · simp [hi]
    refine ⟨.map (es.modify j fun e => { e with key := x, val := v }) clock, ?_, fun w' hw' => ⟨_, _, hw', ?_, ?_, ?_⟩⟩
    · simp [Instr.mapUpdate, Sem.run_bind, run_underlying ht, getObj, setObj, Sem.run, hb, K.check w _ hx, h1, setBlk, hea, h3, hst]
    · rw [hL]
      intro e he
      rcases List.mem_or_eq_of_mem_set he with he | rfl
      · exact hk e he
      · exact ⟨l, hx⟩
    · rw [hL, hkeys]; exact hn
    · rw [hL]
      intro y u
      by_cases hy : y = x
      · subst hy
        rw [put_same]
        constructor
        · intro hu
          injection hu with hu; subst hu
          exact ⟨_, List.mem_set hj _, rfl, rfl⟩
        · rintro ⟨e1, he1, he2, he3⟩
          obtain ⟨i, hi, hie⟩ := List.getElem_of_mem he1
          have hnd : ((es.toList.set j { e0 with key := y, val := v }).map (·.key)).Nodup := by rw [hkeys]; exact hn
          have hi' : i < es.toList.length := by simpa using hi
          have : i = j := by
            apply nodup_inj hnd (by simpa using hi') (by simpa using hj)
            rw [List.getElem_map, List.getElem_map, hie, he2, List.getElem_set_self]
          subst this
          rw [← he3, ← hie]; simp
      · rw [put_other _ _ _ hy, hM]
        constructor
        · rintro ⟨e1, he1, he2, he3⟩
          obtain ⟨i, hi, hie⟩ := List.getElem_of_mem he1
          refine ⟨e1, ?_, he2, he3⟩
          have hne : j ≠ i := by rintro rfl; rw [hje] at hie; subst hie; exact hy (he2.symm.trans h3)
          exact List.mem_iff_getElem.2 ⟨i, by simpa using hi, by simp [hne, hie]⟩
        · rintro ⟨e1, he1, he2, he3⟩
          rcases List.mem_or_eq_of_mem_set he1 with he1 | rfl
          · exact ⟨e1, he1, he2, he3⟩
          · exact absurd he2.symm hy

theorem MapIs.del {t e : TypeId} (ht : P.underlying t = some (.map k e)) {w : World} {b : Nat} {M : Value → Option Value} (h : MapIs P k w b M)
    {x : Value} {l : Lit} (hx : keyOf P k x = some l) :
    ∃ o, (∀ r, (Builtin.delete_ #[t, k] r #[.map (some b), x]).run P w = .ok (.tuple #[]) (setBlk w b o)) ∧ ∀ w' : World, w'.heap[b]? = some o → MapIs P k w' b (put M x none) := by
  have hlt := h.lt
  obtain ⟨es, clock, hb, hk, hn, hM⟩ := h
  rcases find_of K hk hM hx w with ⟨h1, h2, h3⟩ | ⟨j, e0, h1, h2, h3, h4⟩
  · refine ⟨.map es clock, ?_, fun w' hw' => ⟨_, _, hw', hk, hn, ?_⟩⟩
    · intro r; simp [Builtin.delete_, Sem.run_bind, run_underlying ht, getObj, setObj, Sem.run, hb, K.check w _ hx, h1, setBlk]
    · intro y u
      by_cases hy : y = x
      · subst hy; rw [put_same]
        constructor
        · intro q; cases q
        · rintro ⟨e1, he1, he2, _⟩; exact absurd he2 (h3 e1 he1)
      · rw [put_other _ _ _ hy, hM]
  · have hj : j < es.toList.length := (List.getElem?_eq_some_iff.1 h2).1
    have hje : es.toList[j] = e0 := (List.getElem?_eq_some_iff.1 h2).2
    have hL : (es.eraseIdxIfInBounds j).toList = es.toList.eraseIdx j := by
      have hj' : j < es.size := by simpa using hj
      simp [Array.eraseIdxIfInBounds, hj']
    refine ⟨.map (es.eraseIdxIfInBounds j) clock, ?_, fun w' hw' => ⟨_, _, hw', ?_, ?_, ?_⟩⟩
    · intro r; simp [Builtin.delete_, Sem.run_bind, run_underlying ht, getObj, setObj, Sem.run, hb, K.check w _ hx, h1, setBlk]
    · rw [hL]; intro e he; exact hk e (List.mem_of_mem_eraseIdx he)
    · rw [hL]; exact (hn.sublist ((List.eraseIdx_sublist _ _).map _))
    · rw [hL]
      have hmem : ∀ e1, e1 ∈ es.toList.eraseIdx j ↔ e1 ∈ es.toList ∧ e1.key ≠ x := by
        intro e1
        rw [List.mem_eraseIdx_iff_getElem?]
        constructor
        · rintro ⟨i, hij, hi⟩
          have hil : i < es.toList.length := (List.getElem?_eq_some_iff.1 hi).1
          have hie : es.toList[i] = e1 := (List.getElem?_eq_some_iff.1 hi).2
          refine ⟨List.mem_of_getElem? hi, fun hx' => hij ?_⟩
          apply nodup_inj hn (by simpa using hil) (by simpa using hj)
          simp only [List.getElem_map, hie, hje]
          rw [hx', h3]
        · rintro ⟨he, hne⟩
          obtain ⟨i, hi, hie⟩ := List.getElem_of_mem he
          refine ⟨i, ?_, by rw [List.getElem?_eq_getElem hi, hie]⟩
          rintro rfl
          rw [hje] at hie; subst hie; exact hne h3
      intro y u
      by_cases hy : y = x
      · subst hy; rw [put_same]
        constructor
        · intro q; cases q
        · rintro ⟨e1, he1, he2, _⟩; exact absurd he2 ((hmem e1).1 he1).2
      · rw [put_other _ _ _ hy, hM]
        constructor
        · rintro ⟨e1, he1, he2, he3⟩; exact ⟨e1, (hmem e1).2 ⟨he1, fun h => hy (he2.symm.trans h)⟩, he2, he3⟩
        · rintro ⟨e1, he1, he2, he3⟩; exact ⟨e1, ((hmem e1).1 he1).1, he2, he3⟩
end
end Go.Proofs.Ytbaehaleigpijaa
