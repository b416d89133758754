/- LexerJoin: the plain law; rows of lines written over and joined. -/
import Derived.Test.YtlheboafhgmbpaaDoorLS
namespace Go.Proofs.YtlheboafhgmbpaaDoor
open Go.RowKit
set_option maxRecDepth 100000
set_option linter.unusedSimpArgs false
set_option linter.unusedVariables false

theorem cutB_cons (c : UInt8) (r : List UInt8) : cutB (c :: r) = if c == 10 then [] :: cutB r else match cutB r with
    | [] => [[c]]
    | p :: ps => (c :: p) :: ps := by
  conv => lhs; unfold cutB
  rfl
theorem cutB_join : ∀ (a b : List UInt8), cutB (a ++ 10 :: b) = cutB a ++ cutB b
  | [], b => rfl
  | c :: a, b => by
    have ih := cutB_join a b
    rw [List.cons_append, cutB_cons, cutB_cons, ih]
    by_cases h : (c == 10) = true
    · rw [if_pos h, if_pos h]; rfl
    · rw [if_neg h, if_neg h]
      cases hc : cutB a with
      | nil => exact absurd hc (cutB_ne a)
      | cons p ps => rfl
theorem foldL_app : ∀ (P Q : List (List UInt8)) (acc : List LineE) (n : Nat), foldL acc n (P ++ Q) = match foldL acc n P with
    | .error j => .error j
    | .ok ls => foldL ls (n + P.length) Q
  | [], Q, acc, n => rfl
  | p :: P, Q, acc, n => by
    rw [List.cons_append]
    cases hl : lineV p with
    | none => rw [foldL_none hl, foldL_none hl]
    | some ws =>
      rw [foldL_some hl, foldL_some hl, foldL_app P Q]
      rw [show n + 1 + P.length = n + (p :: P).length by simp; omega]
def shiftE (n : Nat) (x : LineE) : LineE := ⟨x.n + n, x.words⟩
theorem addL_shift (acc ms : List LineE) (n k : Nat) (ws : List (List UInt8)) : addL (acc ++ ms.map (shiftE n)) (k + n) ws = acc ++ (addL ms k ws).map (shiftE n) := by
  unfold addL
  split
  · rfl
  · simp [shiftE]
theorem foldL_shift : ∀ (Q : List (List UInt8)) (acc ms : List LineE) (n k : Nat), foldL (acc ++ ms.map (shiftE n)) (k + n) Q = match foldL ms k Q with
    | .error j => .error (j + n)
    | .ok xs => .ok (acc ++ xs.map (shiftE n))
  | [], acc, ms, n, k => rfl
  | p :: Q, acc, ms, n, k => by
    cases hl : lineV p with
    | none => rw [foldL_none hl, foldL_none hl]
    | some ws => rw [foldL_some hl, foldL_some hl, addL_shift, show k + n + 1 = k + 1 + n by omega, foldL_shift Q]
theorem foldL_join (a b : List UInt8) : foldL [] 1 (cutB (a ++ 10 :: b)) = match foldL [] 1 (cutB a) with
    | .error j => .error j
    | .ok ls => match foldL [] 1 (cutB b) with
      | .error j => .error (j + (cutB a).length)
      | .ok ms => .ok (ls ++ ms.map (shiftE (cutB a).length)) := by
  rw [cutB_join, foldL_app]
  cases foldL [] 1 (cutB a) with
  | error j => rfl
  | ok ls =>
    dsimp only
    have := foldL_shift (cutB b) ls [] (cutB a).length 1
    simp only [List.map_nil, List.append_nil] at this
    exact this
theorem foldL_len : ∀ (P : List (List UInt8)) (acc : List LineE) (n : Nat) (xs : List LineE), foldL acc n P = .ok xs → xs.length ≤ acc.length + P.length
  | [], acc, n, xs, h => by unfold foldL at h; injection h with h; subst h; simp
  | p :: P, acc, n, xs, h => by
    unfold foldL at h
    cases hl : lineV p with
    | none => rw [hl] at h; cases h
    | some ws =>
      rw [hl] at h
      have h1 := foldL_len P _ _ _ h
      have h2 := addL_len acc n ws
      simp
      omega
theorem foldL_num : ∀ (P : List (List UInt8)) (acc : List LineE) (n j : Nat), foldL acc n P = .error j → j < n + P.length
  | [], acc, n, j, h => by unfold foldL at h; cases h
  | p :: P, acc, n, j, h => by
    unfold foldL at h
    cases hl : lineV p with
    | none => rw [hl] at h; injection h with h; subst h; simp
    | some ws =>
      rw [hl] at h
      have h1 := foldL_num P _ _ _ h
      simp
      omega
theorem foldL_nums : ∀ (P : List (List UInt8)) (acc : List LineE) (n m : Nat) (xs : List LineE), (∀ x ∈ acc, x.n ≤ m) → n + P.length ≤ m + 1 → foldL acc n P = .ok xs → ∀ x ∈ xs, x.n ≤ m
  | [], acc, n, m, xs, ha, _, h => by unfold foldL at h; injection h with h; subst h; exact ha
  | p :: P, acc, n, m, xs, ha, hm, h => by
    unfold foldL at h
    cases hl : lineV p with
    | none => rw [hl] at h; cases h
    | some ws =>
      rw [hl] at h
      refine foldL_nums P _ _ m _ (fun x hx => ?_) (by simp at hm; omega) h
      unfold addL at hx
      split at hx
      · exact ha x hx
      · rcases List.mem_append.1 hx with hx | hx
        · exact ha x hx
        · simp at hx; subst hx; simp at hm ⊢; omega

/-! ### memory -/
theorem lc_set : ∀ (ps : List (Nat × Value)) (j m : Nat) (p : Nat × Value), ps[j]? = some p → (lc ps).set (j * 2) (.int .i64 (m : Int)) = lc (ps.set j (m, p.2))
  | [], j, m, p, h => by simp at h
  | q :: ps, 0, m, p, h => by simp at h; subst h; rfl
  | q :: ps, j + 1, m, p, h => by
    rw [List.getElem?_cons_succ] at h
    have := lc_set ps j m p h
    rw [List.set_cons_succ, lc_cons, lc_cons, show (j + 1) * 2 = j * 2 + 1 + 1 by omega, List.set_cons_succ, List.set_cons_succ, this]
/-- A row of lines of the call's own, where the block turned is another row of lines. -/
theorem OwnLines.other {w w' : World} {B : Nat} {v : Value} {ls : List LineE} (h : OwnLines w B v ls) {S : Nat → Prop} (hk : Kept S w w') (hv : ∀ k, v.ownBlock = some k → ¬ S k) (hS : ∀ k, S k → ∃ c fz, w.heap[k]? = some (.cells c 32 fz)) : OwnLines w' B v ls := by
  obtain ⟨ps, h1, h2⟩ := h
  refine ⟨ps, row_stay h1 hk hv, h2.1, fun j x hx => ?_⟩
  obtain ⟨y, e1, e2⟩ := h2.2 j x hx
  refine ⟨y, e1, row_stay e2 hk (fun k hk' hs => ?_)⟩
  obtain ⟨c, fz, e3⟩ := hS k hs
  obtain ⟨_, c2, e4⟩ := own_type e2 hk'
  rw [e3] at e4
  injection e4 with e4; injection e4 with _ e4
  exact absurd e4 (by decide)
/-- A line's number is written over. -/
theorem OwnLines.bump {w : World} {B g n c : Nat} {ls : List LineE} (h : OwnLines w B (.slice (some ⟨g, 0, none⟩) n c) ls) {j : Nat} {x : LineE} (hx : ls[j]? = some x) (m : Nat) :
    OwnLines (w.setCell ⟨g, j * 2, none⟩ (.int .i64 (m : Int))) B (.slice (some ⟨g, 0, none⟩) n c) (ls.set j ⟨m, x.words⟩) ∧ Kept (fun k => k = g) w (w.setCell ⟨g, j * 2, none⟩ (.int .i64 (m : Int))) ∧ w.frozen? ⟨g, j * 2, none⟩ = false ∧ (∃ c fz, w.heap[g]? = some (.cells c 32 fz)) := by
  have k : Kept (fun k => k = g) w (w.setCell ⟨g, j * 2, none⟩ (.int .i64 (m : Int))) := (Kept.refl (fun k => k = g) w).setCell (p := ⟨g, j * 2, none⟩) (fun _ => rfl) _
  obtain ⟨ps, h1, h2⟩ := h
  obtain ⟨y, e1, e2⟩ := h2.2 j x hx
  have hj := (List.getElem?_eq_some_iff.1 hx).1
  rcases h1.2 with ⟨hv, h0⟩ | ⟨g', cap, cur, e, hb, hg, hnc, hm, hsz, ht⟩
  · injection hv with hv _ _; cases hv
  · injection e with ea en ec
    injection ea with ea; injection ea with ea _ _
    subst ea
    have hS : ∀ k, k = g → ∃ c fz, w.heap[k]? = some (.cells c 32 fz) := fun k e => by subst e; exact ⟨cur, _, hg⟩
    refine ⟨⟨ps.set j (m, y), ⟨?_, .inr ⟨g, cap, cur.setIfInBounds (j * 2) (.int .i64 (m : Int)), by rw [en, ec, List.length_set], hb, ?_, by rw [List.length_set]; exact hnc, hm, by rw [Array.size_setIfInBounds]; exact hsz, ?_⟩⟩, ?_⟩, k, by simp [World.frozen?, hg], hS g rfl⟩
    · have := h1.1
      rw [← lc_set ps j m _ e1, List.length_set, List.length_set]; exact this
    · rw [heap_setCell_same hg]
    · rw [Array.toList_setIfInBounds, ← lc_set ps j m _ e1, List.length_set, ← ht, List.take_set]
    · refine ⟨by rw [List.length_set, List.length_set]; exact h2.1, fun i z hz => ?_⟩
      have stay : ∀ {y : Value} {zs : List (List UInt8)}, w.ownsRow 0 9 1 y zs.length (sv zs) → (w.setCell ⟨g, j * 2, none⟩ (.int .i64 (m : Int))).ownsRow 0 9 1 y zs.length (sv zs) := fun {y zs} hs => by
        refine row_stay hs k (fun k' hk' e => ?_)
        obtain ⟨c3, fz, e3⟩ := hS k' e
        obtain ⟨_, c4, e4⟩ := own_type hs hk'
        rw [e3] at e4
        injection e4 with e4; injection e4 with _ e4
        exact absurd e4 (by decide)
      by_cases hij : i = j
      · subst hij
        rw [List.getElem?_set_self hj] at hz
        injection hz with hz; subst hz
        exact ⟨y, by rw [List.getElem?_set_self (by rw [h2.1]; exact hj)], stay e2⟩
      · rw [List.getElem?_set_ne (fun e => hij e.symm)] at hz
        obtain ⟨u, q1, q2⟩ := h2.2 i z hz
        exact ⟨u, by rw [List.getElem?_set_ne (fun e => hij e.symm)]; exact q1, stay q2⟩
/-- Two rows of lines in one. -/
theorem OwnLines.join {w : World} {B1 B2 : Nat} {v1 v2 : Value} {ls ms : List LineE} (h1 : OwnLines w B1 v1 ls) (h2 : OwnLines w B2 v2 ms) (hn : ls.length + ms.length ≤ 1000000) (hb : B1 ≤ w.heap.size) :
    ∃ v' w', (Builtin.append_ #[24, 24] 24 #[v1, v2]).run Tryd.prog w = .ok v' w' ∧ OwnLines w' B1 v' (ls ++ ms) ∧ Kept (fun k => v1.ownBlock = some k) w w' := by
  obtain ⟨ps, p1, p2⟩ := h1
  obtain ⟨qs, q1, q2⟩ := h2
  have key : ∃ v' w', (Builtin.append_ #[24, 24] 24 #[v1, v2]).run Tryd.prog w = .ok v' w' ∧ w'.ownsRow B1 32 2 v' (ls.length + ms.length) (lc ps ++ lc qs) ∧ w.grownBy w' v1.ownBlock := by
    rcases q1.2 with ⟨rfl, h0⟩ | ⟨g, cap, cur, rfl, _, hg, _⟩
    · have hq : qs = [] := by have := q2.1; rw [h0] at this; exact List.eq_nil_of_length_eq_zero this
      subst hq
      obtain ⟨i, hi⟩ : ∃ i, Tryd.prog.info? 32 = some i := ⟨_, rfl⟩
      refine ⟨v1, w, ?_, by rw [h0]; simpa [lc] using p1, ⟨rfl, rfl, rfl, Nat.le_refl _, fun _ _ _ => rfl⟩⟩
      rcases p1.2 with ⟨rfl, _⟩ | ⟨g, cap', cur, rfl, _, _, hnc, _⟩
      · simp [Builtin.append_, run_underlying Tryd.underlying24, sizeOf, typeInfo, hi, Builtin.lenOf, Builtin.firstCells]
      · simp [Builtin.append_, run_underlying Tryd.underlying24, sizeOf, typeInfo, hi, Builtin.lenOf, Builtin.firstCells, hnc, storeCells]
    · have cells := q1.cells (g := g) rfl
      exact app_lines p1 (ad := ⟨g, 0, none⟩) (m := ms.length) (c := cap) (news := lc qs) (by rw [lc_len, q2.1]) cells q2.one hn hb _
  obtain ⟨v', w', a1, a2, a3⟩ := key
  have kG : Kept (fun k => v1.ownBlock = some k) w w' := grown_row a3
  have stay : ∀ {y : Value} {zs : List (List UInt8)}, w.ownsRow 0 9 1 y zs.length (sv zs) → w'.ownsRow 0 9 1 y zs.length (sv zs) := fun {y zs} hs => by
    refine row_stay hs kG (fun k hk e => ?_)
    obtain ⟨_, c1, e1⟩ := own_type hs hk
    obtain ⟨_, c2, e2⟩ := own_type p1 e
    rw [e1] at e2
    injection e2 with e2; injection e2 with _ e2
    exact absurd e2 (by decide)
  refine ⟨v', w', a1, ⟨ps ++ qs, by rw [lc_app, List.length_append]; exact a2, by rw [List.length_append, List.length_append, p2.1, q2.1], fun j x hx => ?_⟩, kG⟩
  by_cases e : j < ls.length
  · rw [List.getElem?_append_left e] at hx
    obtain ⟨y, z1, z2⟩ := p2.2 j x hx
    exact ⟨y, by rw [List.getElem?_append_left (by rw [p2.1]; exact e)]; exact z1, stay z2⟩
  · rw [List.getElem?_append_right (by omega)] at hx
    obtain ⟨y, z1, z2⟩ := q2.2 _ x hx
    exact ⟨y, by rw [List.getElem?_append_right (by rw [p2.1]; omega), p2.1]; exact z1, stay z2⟩
end Go.Proofs.YtlheboafhgmbpaaDoor
