/- The known case. -/
import Derived.Test.YtlheboafhgmbpaaDoorLQ
namespace Go.Proofs.YtlheboafhgmbpaaDoor
open Go.RowKit
set_option maxRecDepth 100000
set_option linter.unusedSimpArgs false
set_option linter.unusedVariables false

/-- Where a line lies. -/
theorem OwnLines.at {w : World} {B : Nat} {a : Option Addr} {n c : Nat} {ls : List LineE} (h : OwnLines w B (.slice a n c) ls) {j : Nat} {x : LineE} (hx : ls[j]? = some x) :
    ∃ g a' c', a = some ⟨g, 0, none⟩ ∧ B ≤ g ∧ g < w.heap.size ∧ n = ls.length ∧ w.cell? ⟨g, j * 2, none⟩ = some (.int .i64 (x.n : Int)) ∧ w.cell? ⟨g, j * 2 + 1, none⟩ = some (.slice a' x.words.length c') ∧ w.ownsRow 0 9 1 (.slice a' x.words.length c') x.words.length (sv x.words) := by
  obtain ⟨ps, h1, h2⟩ := h
  obtain ⟨y, e1, e2⟩ := h2.2 j x hx
  obtain ⟨a', c', rfl⟩ := row_form e2
  obtain ⟨p1, p2⟩ := lc_get ps j _ e1
  have hj := (List.getElem?_eq_some_iff.1 hx).1
  obtain ⟨_, _, hf⟩ := row_form h1
  injection hf with _ hf _
  rcases h1.2 with ⟨_, h0⟩ | ⟨g, cap, cur, e, hb, hg, _⟩
  · exact absurd h0 (by omega)
  · injection e with ea en ec
    subst ea
    have cells := h1.cells (g := g) rfl
    have c1 := cells _ _ p1
    have c2 := cells _ _ p2
    rw [Addr.add_mid, Nat.zero_add] at c1 c2
    exact ⟨g, a', c', rfl, hb, (Array.getElem?_eq_some_iff.1 hg).1, hf, c1, c2, e2⟩
/-- Where a word lies. -/
theorem word_at {w : World} {B : Nat} {a : Option Addr} {n m c : Nat} {ws : List (List UInt8)} (h : w.ownsRow B 9 1 (.slice a m c) n (sv ws)) {j : Nat} {x : List UInt8} (hx : ws[j]? = some x) :
    ∃ g, a = some ⟨g, 0, none⟩ ∧ g < w.heap.size ∧ w.cell? ⟨g, j, none⟩ = some (.string ⟨x.toArray⟩) := by
  have hj := (List.getElem?_eq_some_iff.1 hx).1
  have hl := h.1
  rw [sv_len] at hl
  rcases h.2 with ⟨_, h0⟩ | ⟨g, cap, cur, e, hb, hg, _⟩
  · exact absurd h0 (by omega)
  · injection e with ea en ec
    subst ea
    have c1 := h.cells (g := g) rfl j (str x) (by simp [sv, hx])
    rw [Addr.add_mid, Nat.zero_add] at c1
    exact ⟨g, rfl, (Array.getElem?_eq_some_iff.1 hg).1, c1⟩
def K1 : List UInt8 := [10, 32, 115, 117, 98, 115, 116, 32, 97, 32, 34, 120, 32, 121, 34, 32, 34, 34, 32, 35, 32, 122, 10]
def K2 : List UInt8 := [97, 10, 97, 34, 98, 34]
theorem lines_K1 : linesB K1 = .ok [⟨2, [[115, 117, 98, 115, 116], [97], [120, 32, 121], []]⟩] := by kernel_rfl
theorem lines_K2 : linesB K2 = .error (2, 5) := by kernel_rfl
theorem bslice_K1 (w : World) : (Instr.buildSlice 22 23 #[(0, .int .u8 10), (1, .int .u8 32), (2, .int .u8 115), (3, .int .u8 117), (4, .int .u8 98), (5, .int .u8 115), (6, .int .u8 116), (7, .int .u8 32), (8, .int .u8 97), (9, .int .u8 32), (10, .int .u8 34), (11, .int .u8 120), (12, .int .u8 32), (13, .int .u8 121), (14, .int .u8 34), (15, .int .u8 32), (16, .int .u8 34), (17, .int .u8 34), (18, .int .u8 32), (19, .int .u8 35), (20, .int .u8 32), (21, .int .u8 122), (22, .int .u8 10)]).run Tryd.prog w = .ok (.slice (some ⟨w.heap.size, 0, none⟩) 23 23) (w.alloc (.cells (bv K1).toArray 5)) := by kernel_rfl
theorem bslice_K2 (w : World) : (Instr.buildSlice 22 6 #[(0, .int .u8 97), (1, .int .u8 10), (2, .int .u8 97), (3, .int .u8 34), (4, .int .u8 98), (5, .int .u8 34)]).run Tryd.prog w = .ok (.slice (some ⟨w.heap.size, 0, none⟩) 6 6) (w.alloc (.cells (bv K2).toArray 5)) := by kernel_rfl
theorem lit_byc {w : World} {g c : Nat} {t : TypeId} {fr : Nat × Nat} {l : List UInt8} (h : w.heap[g]? = some (.cells (bv l).toArray t fr)) (hl : l.length ≤ maxLen) (hc : l.length ≤ c) : ByC w (.slice (some ⟨g, 0, none⟩) l.length c) l :=
  ⟨lit_by h rfl hl, _, _, rfl, hc⟩
set_option maxRecDepth 100000 in
set_option maxHeartbeats 4000000 in
theorem known_ct {w : World} (hT : Tab8 w) : Calls Tryd.prog 7 #[] w fun e w' => e = .returned (.bool true) ∧ Kept (fun _ => False) w w' := by
  have b1 := bslice_K1 w
  have cv : (convert 22 22 (.slice (some ⟨w.heap.size, 0, none⟩) 23 23)).run Tryd.prog (w.alloc (.cells (bv K1).toArray 5)) = .ok (.slice (some ⟨w.heap.size, 0, none⟩) 23 23) (w.alloc (.cells (bv K1).toArray 5 (23, 24))) := Lib.run_convert_bytes_const (P := Tryd.prog) w 22 5 (bv K1).toArray 23 23 Tryd.underlying22 Tryd.underlying5
  have k1 : Kept (fun _ => False) w (w.alloc (.cells (bv K1).toArray 5 (23, 24))) := (Kept.refl _ w).alloc _
  have h1 := heap_last w (.cells (bv K1).toArray 5 (23, 24))
  generalize w.alloc (.cells (bv K1).toArray 5 (23, 24)) = W1 at cv k1 h1
  have l1 := lines_ct (lit_byc (c := 23) h1 (by simp [K1, maxLen]) (by simp [K1])) (hT.kept k1)
  rw [lines_K1] at l1
  go_enter Tryd.func7, Tryd.ntmps7
  go_wp2_with (first
    | (with_reducible refine wpl_bslice 22 _ _ rfl rfl ?_ b1 ?_
       · (go_simp <;> rfl)
       simp only [Act.put, List.getElem_toArray, List.getElem_cons_zero, List.getElem_cons_succ, List.setIfInBounds_toArray, List.set_cons_zero, List.set_cons_succ])
    | (refine wpl_val rfl (exec_conv 22 22 _ rfl rfl cv) ?_))
  refine l1.mono ?_
  rintro e W2 ⟨k2, v2, rfl, ho⟩
  obtain ⟨a2, c2, hv⟩ := ho.slc
  subst hv
  have kk2 := k1.trans k2
  have b2 := bslice_K2 W2
  have cv2 : (convert 22 22 (.slice (some ⟨W2.heap.size, 0, none⟩) 6 6)).run Tryd.prog (W2.alloc (.cells (bv K2).toArray 5)) = .ok (.slice (some ⟨W2.heap.size, 0, none⟩) 6 6) (W2.alloc (.cells (bv K2).toArray 5 (6, 7))) := Lib.run_convert_bytes_const (P := Tryd.prog) W2 22 5 (bv K2).toArray 6 6 Tryd.underlying22 Tryd.underlying5
  have k3 : Kept (fun _ => False) W2 (W2.alloc (.cells (bv K2).toArray 5 (6, 7))) := (Kept.refl _ W2).alloc _
  have h3 := heap_last W2 (.cells (bv K2).toArray 5 (6, 7))
  generalize W2.alloc (.cells (bv K2).toArray 5 (6, 7)) = W3 at cv2 k3 h3
  have l3 := lines_ct (lit_byc (c := 6) h3 (by simp [K2, maxLen]) (by simp [K2])) (hT.kept (kk2.trans k3))
  rw [lines_K2] at l3
  clear b1 cv l1 h1
  go_wp2_with (first
    | (with_reducible refine wpl_bslice 22 _ _ rfl rfl ?_ b2 ?_
       · (go_simp <;> rfl)
       simp only [Act.put, List.getElem_toArray, List.getElem_cons_zero, List.getElem_cons_succ, List.setIfInBounds_toArray, List.set_cons_zero, List.set_cons_succ])
    | (refine wpl_val rfl (exec_conv 22 22 _ rfl rfl cv2) ?_))
  refine l3.mono ?_
  rintro e W4 ⟨k4, rfl⟩
  have kk4 := (kk2.trans k3).trans k4
  have ho4 := ho.kept (k3.trans k4)
  obtain ⟨g, a', c', rfl, _, _, _, e1, e2, hw⟩ := ho4.at (j := 0) rfl
  obtain ⟨gw, rfl, _, e3⟩ := word_at hw (j := 2) rfl
  obtain ⟨gw', hgw, _, e4⟩ := word_at hw (j := 3) rfl
  injection hgw with hgw; injection hgw with hgw _ _
  subst hgw
  rw [Nat.zero_mul] at e1 e2
  have e2' : W4.cell? ⟨g, 1, none⟩ = some (.slice (some ⟨gw, 0, none⟩) 4 c') := e2
  have e1' : W4.cell? ⟨g, 0, none⟩ = some (.int .i64 2) := e1
  clear b2 cv2 l3 h3 e1 e2 hw ho ho4
  go_wp2_with fail
  go_ret
  exact ⟨rfl, kk4⟩
end Go.Proofs.YtlheboafhgmbpaaDoor
