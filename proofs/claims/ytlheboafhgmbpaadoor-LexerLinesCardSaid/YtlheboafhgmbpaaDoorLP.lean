/- Lines in memory; lexer.Lines. -/
import Derived.Test.YtlheboafhgmbpaaDoorLO
import Derived.Test.YtlheboafhgmbpaaDoorLK
namespace Go.Proofs.YtlheboafhgmbpaaDoor
open Go.RowKit
set_option maxRecDepth 100000
set_option linter.unusedSimpArgs false
set_option linter.unusedVariables false

structure LineE where
  n : Nat
  words : List (List UInt8)
/-- A piece's words, where it is UTF-8. -/
def lineV (p : List UInt8) : Option (List (List UInt8)) := if Lib.validD p = true then lineB p else none
def addL (acc : List LineE) (n : Nat) (ws : List (List UInt8)) : List LineE := if ws = [] then acc else acc ++ [⟨n, ws⟩]
/-- Piece by piece: the lines, or the number of the piece that is none. -/
def foldL : List LineE → Nat → List (List UInt8) → Except Nat (List LineE)
  | acc, _, [] => .ok acc
  | acc, n, p :: ps => match lineV p with
    | none => .error n
    | some ws => foldL (addL acc n ws) (n + 1) ps
def linesB (l : List UInt8) : Except (Nat × Nat) (List LineE) :=
  if 20000 < l.length then .error (0, 3) else match foldL [] 1 (cutB l) with
    | .error n => .error (n, 5)
    | .ok ls => .ok ls

/-! ### memory -/
def lc (ps : List (Nat × Value)) : List Value := ps.flatMap fun p => [.int .i64 (p.1 : Int), p.2]
theorem lc_len : ∀ ps, (lc ps).length = ps.length * 2
  | [] => rfl
  | p :: ps => by unfold lc; rw [List.flatMap_cons, List.length_append]; have := lc_len ps; unfold lc at this; rw [this]; simp; omega
theorem lc_cons (p : Nat × Value) (ps : List (Nat × Value)) : lc (p :: ps) = .int .i64 (p.1 : Int) :: p.2 :: lc ps := rfl
theorem lc_app (p q : List (Nat × Value)) : lc (p ++ q) = lc p ++ lc q := by unfold lc; rw [List.flatMap_append]
theorem lc_get : ∀ (ps : List (Nat × Value)) (j : Nat) (p : Nat × Value), ps[j]? = some p → (lc ps)[j * 2]? = some (.int .i64 (p.1 : Int)) ∧ (lc ps)[j * 2 + 1]? = some p.2
  | [], j, p, h => by simp at h
  | q :: ps, 0, p, h => by simp at h; subst h; exact ⟨rfl, rfl⟩
  | q :: ps, j + 1, p, h => by
    rw [List.getElem?_cons_succ] at h
    have := lc_get ps j p h
    rw [lc_cons]
    rw [show (j + 1) * 2 = j * 2 + 1 + 1 by omega]
    exact this
/-- These pairs stand for these lines. -/
def LPairs (w : World) (ps : List (Nat × Value)) (ls : List LineE) : Prop := ps.length = ls.length ∧ ∀ (j : Nat) x, ls[j]? = some x → ∃ y, ps[j]? = some (x.n, y) ∧ w.ownsRow 0 9 1 y x.words.length (sv x.words)
theorem LPairs.kept {w w' : World} {ps : List (Nat × Value)} {ls : List LineE} (h : LPairs w ps ls) (hk : Kept (fun _ => False) w w') : LPairs w' ps ls :=
  ⟨h.1, fun j x hx => by obtain ⟨y, h2, h3⟩ := h.2 j x hx; exact ⟨y, h2, row_kept h3 hk⟩⟩
/-- A row of lines of the call's own. -/
def OwnLines (w : World) (B : Nat) (v : Value) (ls : List LineE) : Prop := ∃ ps, w.ownsRow B 32 2 v ls.length (lc ps) ∧ LPairs w ps ls
theorem OwnLines.kept {w w' : World} {B : Nat} {v : Value} {ls : List LineE} (h : OwnLines w B v ls) (hk : Kept (fun _ => False) w w') : OwnLines w' B v ls := by
  obtain ⟨ps, h1, h2⟩ := h
  exact ⟨ps, row_kept h1 hk, h2.kept hk⟩
theorem OwnLines.base {w : World} {B B' : Nat} {v : Value} {ls : List LineE} (h : OwnLines w B v ls) (hB : B' ≤ B) : OwnLines w B' v ls := by
  obtain ⟨ps, h1, h2⟩ := h
  exact ⟨ps, own_base h1 hB, h2⟩
theorem OwnLines.nil (w : World) (B : Nat) : OwnLines w B (.slice none 0 0) [] := ⟨[], World.ownsRow_nil _ _ _ _, rfl, fun j x hx => by simp at hx⟩
theorem OwnLines.slc {w : World} {B : Nat} {v : Value} {ls : List LineE} (h : OwnLines w B v ls) : ∃ a c, v = .slice a ls.length c := by obtain ⟨ps, h1, _⟩ := h; exact row_form h1
theorem row_one {w : World} {B z n : Nat} {t : TypeId} {v : Value} {xs : List Value} (h : w.ownsRow B t z v n xs) : v.oneCell' = true := by obtain ⟨a, c, rfl⟩ := row_form h; rfl
theorem LPairs.one {w : World} {ps : List (Nat × Value)} {ls : List LineE} (h : LPairs w ps ls) : ∀ u ∈ lc ps, u.oneCell' = true := fun u hu => by
  unfold lc at hu
  obtain ⟨p, hp, hu⟩ := List.mem_flatMap.1 hu
  obtain ⟨j, hj, rfl⟩ := List.getElem_of_mem hp
  have hjl : j < ls.length := by rw [← h.1]; exact hj
  obtain ⟨x, e, hB⟩ := h.2 j _ (List.getElem?_eq_getElem hjl)
  rw [List.getElem?_eq_getElem hj] at e
  injection e with e
  rw [e] at hu
  simp only [List.mem_cons, List.not_mem_nil, or_false] at hu
  rcases hu with rfl | rfl
  · rfl
  · exact row_one hB
theorem LPairs.snoc {w : World} {ps : List (Nat × Value)} {ls : List LineE} (h : LPairs w ps ls) {n : Nat} {y : Value} {ws : List (List UInt8)} (hy : w.ownsRow 0 9 1 y ws.length (sv ws)) : LPairs w (ps ++ [(n, y)]) (ls ++ [⟨n, ws⟩]) := by
  refine ⟨by simp [h.1], fun j q hq => ?_⟩
  by_cases e : j < ls.length
  · rw [List.getElem?_append_left e] at hq
    obtain ⟨y, h2, h3⟩ := h.2 j q hq
    exact ⟨y, by rw [List.getElem?_append_left (by rw [h.1]; exact e)]; exact h2, h3⟩
  · have hj := (List.getElem?_eq_some_iff.1 hq).1
    simp at hj
    obtain rfl : j = ls.length := by omega
    rw [List.getElem?_append_right (Nat.le_refl _)] at hq
    simp at hq
    subst hq
    exact ⟨y, by rw [List.getElem?_append_right (by rw [h.1]; exact Nat.le_refl _), h.1]; simp, hy⟩
/-- More lines. -/
theorem app_lines {w : World} {base n : Nat} {v : Value} {xs : List Value} (h : w.ownsRow base 32 2 v n xs) {ad : Addr} {m c : Nat} {news : List Value} (hl : news.length = m * 2) (hnews : ∀ j u, news[j]? = some u → w.cell? (ad.add j) = some u) (h1 : ∀ u ∈ news, u.oneCell' = true) (hn : n + m ≤ 1000000) (hb : base ≤ w.heap.size) (ty : TypeId) :
    ∃ v' w', (Builtin.append_ #[24, 24] ty #[v, .slice (some ad) m c]).run Tryd.prog w = .ok v' w' ∧ w'.ownsRow base 32 2 v' (n + m) (xs ++ news) ∧ w.grownBy w' v.ownBlock := by
  obtain ⟨i, hi⟩ : ∃ i, Tryd.prog.info? 32 = some i := ⟨_, rfl⟩
  obtain ⟨z, hz⟩ : ∃ z, i.zero = some z := by injection hi with hi; subst hi; exact ⟨_, rfl⟩
  have hs : i.size = 2 := by injection hi with hi; subst hi; rfl
  have hzs : z.cells.size = 2 := by injection hi with hi; subst hi; injection hz with hz; subst hz; rfl
  have hby : i.bytes ≤ 100 := by injection hi with hi; subst hi; decide
  obtain ⟨v', w', a1, a2, a3, _⟩ := run_append_own (P := Tryd.prog) w base 24 ty 32 i z 2 i.bytes Tryd.underlying24 hi hz hs rfl hzs (by omega) v n xs h ad m c news hl hnews h1 (by simp only [maxLen]; omega)
    (by have : (n + m) * i.bytes ≤ 1000000 * 100 := Nat.mul_le_mul hn hby; omega) hb
  exact ⟨v', w', a1, a2, a3⟩
/-- One line more, out of its literal. -/
theorem OwnLines.snoc {w0 w : World} {v : Value} {ls : List LineE} (h : OwnLines w w0.heap.size v ls) (hk : Kept (fun _ => False) w0 w) {n : Nat} {a : Option Addr} {m c : Nat} {ws : List (List UInt8)} (hy : w.ownsRow 0 9 1 (.slice a m c) ws.length (sv ws)) (hn : ls.length ≤ 900000) :
    ∃ v' w', (Builtin.append_ #[24, 24] 24 #[v, .slice (some ⟨w.heap.size, 0, none⟩) 1 1]).run Tryd.prog (w.alloc (.cells #[.int .i64 (n : Int), .slice a m c] 32)) = .ok v' w' ∧ OwnLines w' w0.heap.size v' (ls ++ [⟨n, ws⟩]) ∧ Kept (fun _ => False) w0 w' := by
  obtain ⟨ps, h1, h2⟩ := h
  have hg := heap_last w (.cells #[.int .i64 (n : Int), .slice a m c] 32)
  obtain ⟨v', w', a1, a2, a3⟩ := app_lines (h1.alloc (.cells #[.int .i64 (n : Int), .slice a m c] 32)) (ad := ⟨w.heap.size, 0, none⟩) (m := 1) (c := 1) (news := [.int .i64 (n : Int), .slice a m c]) rfl
    (fun j u hu => by
      rw [Addr.add_mid, cell_of_row _ _ _ _ _ _ hg]
      match j, hu with
      | 0, hu => simp at hu; subst hu; rfl
      | 1, hu => simp at hu; subst hu; rfl)
    (fun u hu => by simp at hu; rcases hu with rfl | rfl <;> rfl) (by omega) (by have := hk.size; simp; omega) 24
  have kA : Kept (fun _ => False) w0 w' := grown_kept (hk.alloc _) a3 (fun k e => by
    obtain ⟨hb, _⟩ := own_type h1 e
    exact hb)
  have stay : ∀ {y : Value} {zs : List (List UInt8)}, w.ownsRow 0 9 1 y zs.length (sv zs) → w'.ownsRow 0 9 1 y zs.length (sv zs) := fun {y zs} hs => by
    refine row_stay hs (((Kept.refl _ w).alloc _).trans (grown_row a3)) (fun k hk e => ?_)
    obtain ⟨_, c1, e1⟩ := own_type hs hk
    obtain ⟨_, c2, e2⟩ := own_type h1 e
    rw [e1] at e2
    injection e2 with e2; injection e2 with _ e2
    exact absurd e2 (by decide)
  refine ⟨v', w', a1, ⟨ps ++ [(n, .slice a m c)], by rw [lc_app]; simpa [lc] using a2, ?_⟩, kA⟩
  exact LPairs.snoc ⟨h2.1, fun j x hx => by obtain ⟨y, q1, q2⟩ := h2.2 j x hx; exact ⟨y, q1, stay q2⟩⟩ (stay hy)
end Go.Proofs.YtlheboafhgmbpaaDoor
