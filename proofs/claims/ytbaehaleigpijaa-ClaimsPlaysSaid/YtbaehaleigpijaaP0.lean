/- The document's book as two lists: the plain law. -/
import Derived.Test.YtbaehaleigpijaaG7
namespace Go.Proofs.Ytbaehaleigpijaa
open Go.RowKit
set_option linter.unusedSimpArgs false
set_option linter.unusedVariables false

structure OwnE where
  D : Array Value
  k : Int
  b : Int
structure OthE where
  D : Array Value
  n : Int
  i : Int
  c : Int
  g : Bool
  u : Int
/-- A lease's end: none where it is below 0. -/
def uv (u : Int) : Option Int := if u < 0 then none else some u
/-- The lists tell the state. -/
structure Refs (s : St) (owns : List OwnE) (oths : List OthE) : Prop where
  o1 : ∀ (j : Nat) e, owns[j]? = some e → s.O (.agg e.D) = some (e.k, e.b)
  o2 : ∀ D v, s.O (.agg D) = some v → ∃ (j : Nat) (e : OwnE), owns[j]? = some e ∧ e.D = D
  oN : ∀ (i j : Nat) e f, owns[i]? = some e → owns[j]? = some f → e.D = f.D → i = j
  t1 : ∀ (j : Nat) e, oths[j]? = some e → s.L (plc e.D e.n) = some (e.i, e.c) ∧ s.U (plc e.D e.n) = uv e.u
  t2 : ∀ D n v, s.L (plc D n) = some v → ∃ (j : Nat) (e : OthE), oths[j]? = some e ∧ e.D = D ∧ e.n = n
  t3 : ∀ D n v, s.U (plc D n) = some v → s.L (plc D n) ≠ none
  tN : ∀ (i j : Nat) e f, oths[i]? = some e → oths[j]? = some f → e.D = f.D → e.n = f.n → i = j

theorem Refs.new (id inc wait ttl : Int) : Refs (new0 id inc wait ttl) [] [] :=
  { o1 := by intro j e h; simp at h
    o2 := by intro D v h; exact absurd h (by simp [new0])
    oN := by intro i j e f h; simp at h
    t1 := by intro j e h; simp at h
    t2 := by intro D n v h; exact absurd h (by simp [new0])
    t3 := by intro D n v h; exact absurd h (by simp [new0])
    tN := by intro i j e f h; simp at h }
theorem agg_inj {D E : Array Value} (h : Value.agg D = .agg E) : D = E := by injection h
theorem Refs.none_at {s : St} {owns : List OwnE} {oths : List OthE} (h : Refs s owns oths) {D : Array Value} (hn : ∀ (j : Nat) e, owns[j]? = some e → e.D ≠ D) : s.O (.agg D) = none := by
  cases ho : s.O (.agg D) with
  | none => rfl
  | some v => obtain ⟨j, e, h1, h2⟩ := h.o2 D v ho; exact absurd h2 (hn j e h1)
theorem Refs.lnone_at {s : St} {owns : List OwnE} {oths : List OthE} (h : Refs s owns oths) {D : Array Value} {n : Int} (hn : ∀ (j : Nat) e, oths[j]? = some e → ¬ (e.D = D ∧ e.n = n)) : s.L (plc D n) = none := by
  cases ho : s.L (plc D n) with
  | none => rfl
  | some v => obtain ⟨j, e, h1, h2⟩ := h.t2 D n v ho; exact absurd h2 (hn j e h1)
theorem get_snoc {α : Type} {l : List α} {x e : α} {j : Nat} (h : (l ++ [x])[j]? = some e) : (l[j]? = some e ∧ j < l.length) ∨ (j = l.length ∧ e = x) := by
  by_cases hj : j < l.length
  · rw [List.getElem?_append_left hj] at h; exact .inl ⟨h, hj⟩
  · rw [List.getElem?_append_right (by omega)] at h
    have : j - l.length = 0 := by
      rcases Nat.eq_zero_or_pos (j - l.length) with h0 | h0
      · exact h0
      · rw [List.getElem?_eq_none (by simp; omega)] at h; cases h
    rw [this] at h
    simp at h
    exact .inr ⟨by omega, h.symm⟩
theorem Refs.try_ {s : St} {owns : List OwnE} {oths : List OthE} (h : Refs s owns oths) {D : Array Value} (hn : ∀ (j : Nat) e, owns[j]? = some e → e.D ≠ D) (k b count : Int) :
    Refs { s with count := count, O := upd s.O (.agg D) (some (k, b)) } (owns ++ [⟨D, k, b⟩]) oths := by
  refine ⟨fun j e he => ?_, fun E v hv => ?_, fun i j e f he hf hd => ?_, h.t1, h.t2, h.t3, h.tN⟩
  · rcases get_snoc he with ⟨h1, _⟩ | ⟨_, rfl⟩
    · show upd s.O (.agg D) (some (k, b)) (.agg e.D) = _
      rw [upd_other _ _ _ (fun q => hn j e h1 (agg_inj q))]; exact h.o1 j e h1
    · exact upd_same _ _ _
  · have hv : upd s.O (.agg D) (some (k, b)) (.agg E) = some v := hv
    by_cases e : E = D
    · subst e
      exact ⟨owns.length, ⟨E, k, b⟩, by simp, rfl⟩
    · rw [upd_other _ _ _ (fun q => e (agg_inj q))] at hv
      obtain ⟨j, e, h1, h2⟩ := h.o2 E v hv
      exact ⟨j, e, by rw [List.getElem?_append_left (List.getElem?_eq_some_iff.1 h1).1]; exact h1, h2⟩
  · rcases get_snoc he with ⟨h1, z1⟩ | ⟨rfl, rfl⟩ <;> rcases get_snoc hf with ⟨h2, z2⟩ | ⟨rfl, rfl⟩
    · exact h.oN i j e f h1 h2 hd
    · exact absurd hd (hn i e h1)
    · exact absurd hd.symm (hn j f h2)
    · rfl
theorem get_cut {α : Type} {l : List α} {e : α} {j m : Nat} (h : (l.take j ++ l.drop (j + 1))[m]? = some e) (hj : j < l.length) : ∃ q, q ≠ j ∧ l[q]? = some e ∧ m = (if q < j then q else q - 1) := by
  have hl : (l.take j).length = j := by simp; omega
  by_cases hm : m < j
  · rw [List.getElem?_append_left (by omega), List.getElem?_take_of_lt hm] at h
    exact ⟨m, by omega, h, by rw [if_pos hm]⟩
  · rw [List.getElem?_append_right (by omega), hl, List.getElem?_drop] at h
    exact ⟨m + 1, by omega, by rw [← h]; congr 1; omega, by rw [if_neg (by omega)]; omega⟩
theorem cut_get {α : Type} {l : List α} {e : α} {j q : Nat} (h : l[q]? = some e) (hj : j < l.length) (hq : q ≠ j) : (l.take j ++ l.drop (j + 1))[if q < j then q else q - 1]? = some e := by
  have hl : (l.take j).length = j := by simp; omega
  by_cases hm : q < j
  · rw [if_pos hm, List.getElem?_append_left (by omega), List.getElem?_take_of_lt hm]; exact h
  · rw [if_neg hm, List.getElem?_append_right (by omega), hl, List.getElem?_drop, ← h]; congr 1; omega
theorem Refs.drop {s : St} {owns : List OwnE} {oths : List OthE} (h : Refs s owns oths) {j : Nat} {x : OwnE} (hx : owns[j]? = some x) :
    Refs { s with O := upd s.O (.agg x.D) none } (owns.take j ++ owns.drop (j + 1)) oths := by
  have hj := (List.getElem?_eq_some_iff.1 hx).1
  refine ⟨fun m e he => ?_, fun E v hv => ?_, fun i m e f he hf hd => ?_, h.t1, h.t2, h.t3, h.tN⟩
  · obtain ⟨q, hq, h1, _⟩ := get_cut he hj
    show upd s.O (.agg x.D) none (.agg e.D) = _
    rw [upd_other _ _ _ (fun z => hq (h.oN q j e x h1 hx (agg_inj z)))]
    exact h.o1 q e h1
  · have hv : upd s.O (.agg x.D) none (.agg E) = some v := hv
    by_cases e : E = x.D
    · subst e; rw [upd_same] at hv; cases hv
    · rw [upd_other _ _ _ (fun q => e (agg_inj q))] at hv
      obtain ⟨q, f, h1, h2⟩ := h.o2 E v hv
      refine ⟨_, f, cut_get h1 hj (fun z => ?_), h2⟩
      subst z; rw [hx] at h1; injection h1 with h1; subst h1; exact e h2.symm
  · obtain ⟨q1, n1, h1, e1⟩ := get_cut he hj
    obtain ⟨q2, n2, h2, e2⟩ := get_cut hf hj
    have := h.oN q1 q2 e f h1 h2 hd
    rw [e1, e2, this]
theorem Refs.heard {s : St} {owns : List OwnE} {oths : List OthE} (h : Refs s owns oths) {j : Nat} {x : OthE} (hx : oths[j]? = some x) (i c : Int) (g : Bool) (u : Int) :
    Refs { s with L := upd s.L (plc x.D x.n) (some (i, c)), U := upd s.U (plc x.D x.n) (uv u) } owns (oths.set j ⟨x.D, x.n, i, c, g, u⟩) := by
  have hj := (List.getElem?_eq_some_iff.1 hx).1
  have key : ∀ (m : Nat) e, (oths.set j ⟨x.D, x.n, i, c, g, u⟩)[m]? = some e → (m = j ∧ e = ⟨x.D, x.n, i, c, g, u⟩) ∨ (m ≠ j ∧ oths[m]? = some e) := fun m e he => by
    by_cases q : m = j
    · subst q; rw [List.getElem?_set_self hj] at he; injection he with he; exact .inl ⟨rfl, he.symm⟩
    · rw [List.getElem?_set_ne (fun z => q z.symm)] at he; exact .inr ⟨q, he⟩
  refine ⟨h.o1, h.o2, h.oN, fun m e he => ?_, fun E n v hv => ?_, fun E n v hv => ?_, fun m1 m2 e f he hf hd hn => ?_⟩
  · rcases key m e he with ⟨rfl, rfl⟩ | ⟨q, h1⟩
    · exact ⟨upd_same _ _ _, upd_same _ _ _⟩
    · have ne : plc e.D e.n ≠ plc x.D x.n := fun z => q (h.tN m j e x h1 hx (plc_inj z).1 (plc_inj z).2)
      show upd s.L _ _ _ = _ ∧ upd s.U _ _ _ = _
      rw [upd_other _ _ _ ne, upd_other _ _ _ ne]; exact h.t1 m e h1
  · have hv : upd s.L (plc x.D x.n) (some (i, c)) (plc E n) = some v := hv
    by_cases e : plc E n = plc x.D x.n
    · exact ⟨j, ⟨x.D, x.n, i, c, g, u⟩, List.getElem?_set_self hj, (plc_inj e).1.symm, (plc_inj e).2.symm⟩
    · rw [upd_other _ _ _ e] at hv
      obtain ⟨m, f, h1, h2, h3⟩ := h.t2 E n v hv
      refine ⟨m, f, ?_, h2, h3⟩
      rw [List.getElem?_set_ne (fun z => ?_)]
      · exact h1
      · subst z; rw [hx] at h1; injection h1 with h1; subst h1; exact e (by rw [h2, h3])
  · have hv : upd s.U (plc x.D x.n) (uv u) (plc E n) = some v := hv
    show upd s.L (plc x.D x.n) (some (i, c)) (plc E n) ≠ none
    by_cases e : plc E n = plc x.D x.n
    · rw [e, upd_same]; simp
    · rw [upd_other _ _ _ e] at hv ⊢; exact h.t3 E n v hv
  · rcases key m1 e he with ⟨rfl, rfl⟩ | ⟨q1, h1⟩ <;> rcases key m2 f hf with ⟨rfl, rfl⟩ | ⟨q2, h2⟩
    · rfl
    · exact (h.tN _ _ x f hx h2 hd hn)
    · exact (h.tN _ _ e x h1 hx hd hn)
    · exact h.tN _ _ e f h1 h2 hd hn
theorem Refs.first {s : St} {owns : List OwnE} {oths : List OthE} (h : Refs s owns oths) {D : Array Value} {n : Int} (hn : ∀ (j : Nat) e, oths[j]? = some e → ¬ (e.D = D ∧ e.n = n)) (i c : Int) (g : Bool) (u : Int) :
    Refs { s with L := upd s.L (plc D n) (some (i, c)), U := upd s.U (plc D n) (uv u) } owns (oths ++ [⟨D, n, i, c, g, u⟩]) := by
  refine ⟨h.o1, h.o2, h.oN, fun m e he => ?_, fun E k v hv => ?_, fun E k v hv => ?_, fun m1 m2 e f he hf hd hk => ?_⟩
  · rcases get_snoc he with ⟨h1, _⟩ | ⟨_, rfl⟩
    · have ne : plc e.D e.n ≠ plc D n := fun z => hn m e h1 (plc_inj z)
      show upd s.L _ _ _ = _ ∧ upd s.U _ _ _ = _
      rw [upd_other _ _ _ ne, upd_other _ _ _ ne]; exact h.t1 m e h1
    · exact ⟨upd_same _ _ _, upd_same _ _ _⟩
  · have hv : upd s.L (plc D n) (some (i, c)) (plc E k) = some v := hv
    by_cases e : plc E k = plc D n
    · exact ⟨oths.length, ⟨D, n, i, c, g, u⟩, by simp, (plc_inj e).1.symm, (plc_inj e).2.symm⟩
    · rw [upd_other _ _ _ e] at hv
      obtain ⟨m, f, h1, h2⟩ := h.t2 E k v hv
      exact ⟨m, f, by rw [List.getElem?_append_left (List.getElem?_eq_some_iff.1 h1).1]; exact h1, h2⟩
  · have hv : upd s.U (plc D n) (uv u) (plc E k) = some v := hv
    show upd s.L (plc D n) (some (i, c)) (plc E k) ≠ none
    by_cases e : plc E k = plc D n
    · rw [e, upd_same]; simp
    · rw [upd_other _ _ _ e] at hv ⊢; exact h.t3 E k v hv
  · rcases get_snoc he with ⟨h1, _⟩ | ⟨rfl, rfl⟩ <;> rcases get_snoc hf with ⟨h2, _⟩ | ⟨rfl, rfl⟩
    · exact h.tN _ _ e f h1 h2 hd hk
    · exact absurd ⟨hd, hk⟩ (hn _ e h1)
    · exact absurd ⟨hd.symm, hk.symm⟩ (hn _ f h2)
    · rfl
/-- A lease lives just if its entry says so. -/
theorem Refs.alive {s : St} {owns : List OwnE} {oths : List OthE} (h : Refs s owns oths) {D : Array Value} {now : Int} (h0 : 0 ≤ now) (n : Nat) :
    alive s.U D now n = true ↔ ∃ (j : Nat) (e : OthE), oths[j]? = some e ∧ e.D = D ∧ e.n = n ∧ now < e.u := by
  unfold Go.Proofs.Ytbaehaleigpijaa.alive
  constructor
  · intro ha
    cases hu : s.U (plc D n) with
    | none => rw [hu] at ha; cases ha
    | some u =>
      rw [hu] at ha
      have ha : now < u := by simpa using ha
      cases hl : s.L (plc D n) with
      | none => exact absurd hl (h.t3 D n u hu)
      | some v =>
        obtain ⟨j, e, h1, h2, h3⟩ := h.t2 D n v hl
        refine ⟨j, e, h1, h2, h3, ?_⟩
        have := (h.t1 j e h1).2
        rw [h2, h3, hu] at this
        unfold uv at this
        split at this
        · cases this
        · injection this with this; omega
  · rintro ⟨j, e, h1, rfl, h3, h4⟩
    have := (h.t1 j e h1).2
    rw [h3] at this
    rw [this]
    unfold uv
    rw [if_neg (by omega)]
    simpa using h4
end Go.Proofs.Ytbaehaleigpijaa
