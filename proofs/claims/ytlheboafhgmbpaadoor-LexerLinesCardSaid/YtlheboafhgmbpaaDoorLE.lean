/- utf8.AppendRune onto a row of the call's own. -/
import Derived.Test.YtlheboafhgmbpaaDoorLD
import Derived.Laws.BitsLemmas
import Derived.Lib.RuneBytes
namespace Go.Proofs.YtlheboafhgmbpaaDoor
open Go.RowKit
set_option maxRecDepth 100000
set_option linter.unusedSimpArgs false
set_option linter.unusedVariables false

theorem grown_row {w w' : World} {row : Option Nat} (hg : w.grownBy w' row) : Kept (fun k => row = some k) w w' :=
  ⟨hg.os, hg.tape, hg.output, hg.size, fun k hk hs => hg.block k hk (fun e => hs e.symm)⟩
theorem lit_by {w : World} {g c : Nat} {cs : List Value} {t : TypeId} {fr : Nat × Nat} {l : List UInt8} (h : w.heap[g]? = some (.cells cs.toArray t fr)) (hc : cs = bv l) (hl : l.length ≤ maxLen) : ByAt w (.slice (some ⟨g, 0, none⟩) l.length c) l :=
  ⟨_, c, rfl, hl, fun _ => ⟨g, 0, rfl, (Array.getElem?_eq_some_iff.1 h).1, fun j u hu => by
    rw [cell_of_row _ _ _ _ _ _ h, ← hu, hc]; simp⟩⟩
theorem bv_enc (r : Int) : bv (Lib.encodeRune r) = Lib.runeCells r := Lib.byteCells_encodeRune r
/-- What an append of a few bytes' literal comes to. -/
theorem app_lit {w : World} {base n : Nat} {v : Value} {l x : List UInt8} (h : w.ownsRow base 5 1 v n (bv l)) {cs : List Value} (hc : cs = bv x) (hx : x.length ≤ 4) (hn : n ≤ 900000) (hb : base ≤ w.heap.size) :
    ∃ v' w', (Builtin.append_ #[22, 22] 22 #[v, .slice (some ⟨w.heap.size, 0, none⟩) x.length x.length]).run Tryd.prog (w.alloc (.cells cs.toArray 5)) = .ok v' w' ∧ w'.ownsRow base 5 1 v' (n + x.length) (bv (l ++ x)) ∧ Kept (fun k => v.ownBlock = some k) w w' := by
  have hg := heap_last w (.cells cs.toArray 5)
  obtain ⟨v', w', h1, h2, h3⟩ := app_by (h.alloc (.cells cs.toArray 5)) (lit_by (c := x.length) hg hc (by simp only [maxLen]; omega)) (by omega) (by simp; omega) 22
  rw [← bv_app] at h2
  exact ⟨v', w', h1, h2, ((Kept.refl _ w).alloc _).trans (grown_row h3)⟩
/-- What AppendRune hands back. -/
def RuneOut (w : World) (base : Nat) (v : Value) (l : List UInt8) (r : Int) (e : Ending) (w' : World) : Prop :=
  ∃ v', e = .returned v' ∧ w'.ownsRow base 5 1 v' (l.length + (Lib.encodeRune r).length) (bv (l ++ Lib.encodeRune r)) ∧ Kept (fun k => v.ownBlock = some k) w w'
set_option maxRecDepth 100000 in
set_option maxHeartbeats 4000000 in
theorem runeHigh_ct {w : World} {base : Nat} {v : Value} {l : List UInt8} (h : w.ownsRow base 5 1 v l.length (bv l)) (hl : l.length ≤ 900000) (hb : base ≤ w.heap.size) {r : Int} (h0 : 128 ≤ r) (h1 : r ≤ 1114111) (h2 : r < 55296 ∨ 57343 < r) :
    Calls Tryd.prog 46 #[v, .int .i32 r] w (RuneOut w base v l r) := by
  by_cases q1 : r ≤ 2047
  · clear h1 h2
    have hx : (Lib.encodeRune r).length = 2 := by rw [← Lib.runeCells_length]; unfold Lib.runeCells; rw [Lib.encodeRuneZ_two h0 q1]; rfl
    have hc : [.int .u8 (192 + r / 64), .int .u8 (128 + r % 64)] = bv (Lib.encodeRune r) := by rw [bv_enc]; unfold Lib.runeCells; rw [Lib.encodeRuneZ_two h0 q1]; rfl
    obtain ⟨v', w', ap, ho, hk⟩ := app_lit h hc (by omega) hl hb
    obtain ⟨a, c, rfl⟩ := row_form h
    have hfin : RuneOut w base (.slice a l.length c) l r (.returned v') w' := ⟨v', rfl, ho, hk⟩
    rw [hx] at ap
    clear hx hc ho hk
    go_enter Tryd.func46, Tryd.ntmps46
    go_wp2_with (first
      | (refine wpl_val rfl (exec_append 22 _ _ rfl rfl rfl ap) ?_))
    go_ret
    exact hfin
  by_cases q2 : r < 55296
  · clear h1 h2 h0
    have h0 : 2048 ≤ r := by omega
    clear q1
    have hx : (Lib.encodeRune r).length = 3 := by rw [← Lib.runeCells_length]; unfold Lib.runeCells; rw [Lib.encodeRuneZ_three (.inl ⟨h0, q2⟩)]; rfl
    have hc : [.int .u8 (224 + r / 4096), .int .u8 (128 + r / 64 % 64), .int .u8 (128 + r % 64)] = bv (Lib.encodeRune r) := by rw [bv_enc]; unfold Lib.runeCells; rw [Lib.encodeRuneZ_three (.inl ⟨h0, q2⟩)]; rfl
    obtain ⟨v', w', ap, ho, hk⟩ := app_lit h hc (by omega) hl hb
    obtain ⟨a, c, rfl⟩ := row_form h
    have hfin : RuneOut w base (.slice a l.length c) l r (.returned v') w' := ⟨v', rfl, ho, hk⟩
    rw [hx] at ap
    clear hx hc ho hk
    go_enter Tryd.func46, Tryd.ntmps46
    go_wp2_with (first
      | (refine wpl_val rfl (exec_append 22 _ _ rfl rfl rfl ap) ?_))
    go_ret
    exact hfin
  have q3 : 57343 < r := by omega
  by_cases q4 : r ≤ 65535
  · clear h0 h1 h2 q1 q2
    have hx : (Lib.encodeRune r).length = 3 := by rw [← Lib.runeCells_length]; unfold Lib.runeCells; rw [Lib.encodeRuneZ_three (.inr ⟨q3, q4⟩)]; rfl
    have hc : [.int .u8 (224 + r / 4096), .int .u8 (128 + r / 64 % 64), .int .u8 (128 + r % 64)] = bv (Lib.encodeRune r) := by rw [bv_enc]; unfold Lib.runeCells; rw [Lib.encodeRuneZ_three (.inr ⟨q3, q4⟩)]; rfl
    obtain ⟨v', w', ap, ho, hk⟩ := app_lit h hc (by omega) hl hb
    obtain ⟨a, c, rfl⟩ := row_form h
    have hfin : RuneOut w base (.slice a l.length c) l r (.returned v') w' := ⟨v', rfl, ho, hk⟩
    rw [hx] at ap
    clear hx hc ho hk
    go_enter Tryd.func46, Tryd.ntmps46
    go_wp2_with (first
      | (refine wpl_val rfl (exec_append 22 _ _ rfl rfl rfl ap) ?_))
    go_ret
    exact hfin
  · clear h0 h2 q1 q2 q3
    have h0 : 65536 ≤ r := by omega
    clear q4
    have hx : (Lib.encodeRune r).length = 4 := by rw [← Lib.runeCells_length]; unfold Lib.runeCells; rw [Lib.encodeRuneZ_four h0 h1]; rfl
    have hc : [.int .u8 (240 + r / 262144), .int .u8 (128 + r / 4096 % 64), .int .u8 (128 + r / 64 % 64), .int .u8 (128 + r % 64)] = bv (Lib.encodeRune r) := by rw [bv_enc]; unfold Lib.runeCells; rw [Lib.encodeRuneZ_four h0 h1]; rfl
    obtain ⟨v', w', ap, ho, hk⟩ := app_lit h hc (by omega) hl hb
    obtain ⟨a, c, rfl⟩ := row_form h
    have hfin : RuneOut w base (.slice a l.length c) l r (.returned v') w' := ⟨v', rfl, ho, hk⟩
    rw [hx] at ap
    clear hx hc ho hk
    go_enter Tryd.func46, Tryd.ntmps46
    go_wp2_with (first
      | (refine wpl_val rfl (exec_append 22 _ _ rfl rfl rfl ap) ?_))
    go_ret
    exact hfin
set_option maxRecDepth 100000 in
set_option maxHeartbeats 4000000 in
theorem appendRune_ct {w : World} {base : Nat} {v : Value} {l : List UInt8} (h : w.ownsRow base 5 1 v l.length (bv l)) (hl : l.length ≤ 900000) (hb : base ≤ w.heap.size) {r : Int} (h0 : 0 ≤ r) (h1 : r ≤ 1114111) (h2 : r < 55296 ∨ 57343 < r) :
    Calls Tryd.prog 40 #[v, .int .i32 r] w (RuneOut w base v l r) := by
  by_cases q1 : r ≤ 127
  · have hx : (Lib.encodeRune r).length = 1 := by rw [← Lib.runeCells_length]; unfold Lib.runeCells; rw [Lib.encodeRuneZ_one h0 q1]; rfl
    have hc : [Value.int .u8 r] = bv (Lib.encodeRune r) := by rw [bv_enc]; unfold Lib.runeCells; rw [Lib.encodeRuneZ_one h0 q1]; rfl
    obtain ⟨v', w', ap, ho, hk⟩ := app_lit h hc (by omega) hl hb
    obtain ⟨a, c, rfl⟩ := row_form h
    have hfin : RuneOut w base (.slice a l.length c) l r (.returned v') w' := ⟨v', rfl, ho, hk⟩
    rw [hx] at ap
    clear hx hc ho hk h1 h2
    go_enter Tryd.func40, Tryd.ntmps40
    go_wp2_with (first
      | (refine wpl_val rfl (exec_append 22 _ _ rfl rfl rfl ap) ?_))
    go_ret
    exact hfin
  · have ct := runeHigh_ct h hl hb (r := r) (by omega) h1 h2
    obtain ⟨a, c, rfl⟩ := row_form h
    clear h h2
    go_enter Tryd.func40, Tryd.ntmps40
    go_wp2_with fail
    refine ct.mono ?_
    rintro e w' ⟨v', rfl, ho, hk⟩
    have hfin : RuneOut w base (.slice a l.length c) l r (.returned v') w' := ⟨v', rfl, ho, hk⟩
    obtain ⟨a2, c2, rfl⟩ := row_form ho
    clear ho hk ct
    go_wp2_with fail
    go_ret
    exact hfin
end Go.Proofs.YtlheboafhgmbpaaDoor
