/- The document's Drop. -/
import Derived.Test.YtbaehaleigpijaaPA
namespace Go.Proofs.Ytbaehaleigpijaa
open Go.RowKit
set_option linter.unusedSimpArgs false
set_option linter.unusedVariables false
variable {b0 : Nat}

theorem append_ownM {w : World} {v : Value} {n : Nat} {xs : List Value} (h : w.ownsRow b0 52 37 v n xs) {a : Addr} {m c : Nat} (hn : n + m ≤ 1000000) {news : List Value} (hl : news.length = m * 37) (hnews : ∀ j u, news[j]? = some u → w.cell? (a.add j) = some u) (h1 : ∀ u ∈ news, u.oneCell' = true) (hb0 : b0 ≤ w.heap.size) (ty : TypeId) :
    ∃ v' w', (Builtin.append_ #[47, 47] ty #[v, .slice (some a) m c]).run Try.prog w = .ok v' w' ∧ w'.ownsRow b0 52 37 v' (n + m) (xs ++ news) ∧ w.grownBy w' v.ownBlock ∧
      (v'.ownBlock = v.ownBlock ∨ v'.ownBlock = some w.heap.size) := by
  obtain ⟨i, hi⟩ : ∃ i, Try.prog.info? 52 = some i := ⟨_, rfl⟩
  obtain ⟨z, hz⟩ : ∃ z, i.zero = some z := by injection hi with hi; subst hi; exact ⟨_, rfl⟩
  have hs : i.size = 37 := by injection hi with hi; subst hi; rfl
  have hzs : z.cells.size = 37 := by injection hi with hi; subst hi; injection hz with hz; subst hz; rfl
  have hby : i.bytes ≤ 1000 := by injection hi with hi; subst hi; decide
  obtain ⟨v', w', a1, a2, a3, _, a5⟩ := run_append_own_at (P := Try.prog) w b0 47 ty 52 i z 37 i.bytes Try.underlying47 hi hz hs rfl hzs (by omega) v n xs h a m c news hl
    hnews h1 (by simp only [maxLen]; omega)
    (by have : (n + m) * i.bytes ≤ 1000000 * 1000 := Nat.mul_le_mul hn hby; omega) hb0
  exact ⟨v', w', a1, a2, a3, a5⟩
theorem bslice_own0 (w : World) : (Instr.buildSlice 47 0 #[]).run Try.prog w = .ok (.slice (some ⟨w.heap.size, 0, none⟩) 0 0) (w.alloc (.cells #[] 52)) := by kernel_rfl
theorem slice_to (a : Option Addr) (n c : Nat) {j : Nat} (hj : j ≤ c) (w : World) : (Instr.sliceAt 47 (.slice a n c) none (some (.int .i64 j)) none).run Try.prog w = .ok (.slice a j c) w := by
  rw [run_sliceAt_slice _ _ _ _ _ _ rfl, run_slice_h _ _ _ _ _ rfl _ _ (by omega) (by omega)]
  have : (sizeOf (Try.prog.elem 47)).run Try.prog w = .ok 37 w := by kernel_rfl
  rw [this]
  cases a with
  | none => simp [Result.andThen, sliced]
  | some a => simp [Result.andThen, sliced, Addr.add]
def cutA (a : Addr) (j c : Nat) : Addr := if c = j then a else a.add (j * 37)
theorem slice_from (a : Addr) (n c : Nat) {j : Nat} {z : Int} (hz : z = j) (hj : j ≤ n) (w : World) : (Instr.sliceAt 47 (.slice (some a) n c) (some (.int .i64 z)) none none).run Try.prog w = .ok (.slice (some (cutA a j c)) (n - j) (c - j)) w := by
  subst hz
  rw [run_sliceAt_slice _ _ _ _ _ _ rfl, run_slice_l _ _ _ _ _ rfl _ _ (by omega) (by omega)]
  have : (sizeOf (Try.prog.elem 47)).run Try.prog w = .ok 37 w := by kernel_rfl
  rw [this]
  by_cases e : c = j
  · simp [Result.andThen, sliced, cutA, e]
  · simp [Result.andThen, sliced, cutA, e]
section
variable {P : Program} {o : Oper} {a : Act} {w w1 : World} {v p q : Value}
theorem exec_slice_h (ty : TypeId) (x y : Operand) (ho : o.op = .slice ty x none (some y) none) (hx : a.eval x = p) (hy : a.eval y = q) (h : (Instr.sliceAt ty p none (some q) none).run P w = .ok v w) : (execOp a.eval o).run P w = .ok (.value v) w := by
  unfold execOp; simp only [ho, hx, hy, Option.map_some, Option.map_none, Sem.run_bind, h, Result.andThen_ok]; rfl
theorem exec_slice_l (ty : TypeId) (x y : Operand) (ho : o.op = .slice ty x (some y) none none) (hx : a.eval x = p) (hy : a.eval y = q) (h : (Instr.sliceAt ty p (some q) none none).run P w = .ok v w) : (execOp a.eval o).run P w = .ok (.value v) w := by
  unfold execOp; simp only [ho, hx, hy, Option.map_some, Option.map_none, Sem.run_bind, h, Result.andThen_ok]; rfl
end
theorem flat_len {α : Type} {f : α → List Value} {z : Nat} : ∀ {l : List α}, (∀ e ∈ l, (f e).length = z) → (l.flatMap f).length = l.length * z
  | [], _ => by simp
  | x :: l, h => by rw [List.flatMap_cons, List.length_append, h x (by simp), flat_len (fun e he => h e (by simp [he])), List.length_cons, Nat.succ_mul]; omega
theorem load_clm_at {c : Array Value} (hc : c.size = 36) {w : World} {b o : Nat} {R : List Value} (h : w.rangeAt b o (c.toList ++ R)) : (Instr.loadAt 33 (.pointer (some ⟨b, o, none⟩))).run Try.prog w = .ok (.agg c) w := by
  have := run_loadAt_mid (P := Try.prog) w b o 33 c.toList _ (rangeAt_left h) Try.underlying33 rfl (by rw [Array.length_toList, hc]; kernel_rfl)
  simpa using this

set_option maxHeartbeats 1000000 in
theorem rdrop_none {w : World} {R : Nat} {s : St} {owns : List OwnE} {oths : List OthE} {vo vt : Value} (h : RbS b0 w R s owns oths vo vt) (hs : Refs s owns oths) {D : Array Value} (hD : IsDig D) (ho : s.O (.agg D) = none) :
    Calls Try.prog 14 #[.pointer (some ⟨R, 0, none⟩), .agg D] w fun e w' => e = .returned (.slice none 0 0) ∧ Kept (fun _ => False) w w' := by
  have k1 : Kept (fun _ => False) w (w.alloc (.cells D 31)) := (Kept.refl _ w).alloc _
  have hx := load_dig hD (heap_last w (.cells D 31))
  have h1 := h.kept k1
  go_enter Try.func14, Try.ntmps14
  go_wp2_with (first
    | (with_reducible refine wpl_load 31 _ rfl rfl ?_ hx ?_
       · rfl
       simp only [Act.put, List.getElem_toArray, List.getElem_cons_zero, List.getElem_cons_succ, List.setIfInBounds_toArray, List.set_cons_zero, List.set_cons_succ]))
  refine (own_ct h1 hD).mono ?_
  rintro e W2 ⟨q2, hown⟩
  obtain rfl : e = .returned (.int .i64 (-1)) := by
    rcases hown with ⟨j, x, a1, a2, _⟩ | ⟨_, e2⟩
    · have := hs.o1 j x a1
      rw [a2, ho] at this; cases this
    · exact e2
  clear hown hx h1 ho
  go_wp2_with fail
  go_ret
  exact ⟨rfl, k1.trans q2⟩

set_option maxHeartbeats 2000000 in
theorem rdrop_some {w : World} {R : Nat} {s : St} {owns : List OwnE} {oths : List OthE} {vo vt : Value} (h : RbS b0 w R s owns oths vo vt) (hs : Refs s owns oths) {D : Array Value} (hD : IsDig D) {c b : Int} (ho : s.O (.agg D) = some (c, b)) (hn : owns.length ≤ 100000) :
    Calls Try.prog 14 #[.pointer (some ⟨R, 0, none⟩), .agg D] w fun e w' => ∃ v vo' owns', e = .returned v ∧ Sent w w' v (some (clm D s.id s.inc c true)) ∧ Kept (· = R) w w' ∧
      RbS b0 w' R { s with O := upd s.O (.agg D) none } owns' oths vo' vt ∧ Refs { s with O := upd s.O (.agg D) none } owns' oths ∧ owns'.length ≤ owns.length := by
  have k1 : Kept (fun _ => False) w (w.alloc (.cells D 31)) := (Kept.refl _ w).alloc _
  have hx := load_dig hD (heap_last w (.cells D 31))
  have h1 := h.kept k1
  go_enter Try.func14, Try.ntmps14
  go_wp2_with (first
    | (with_reducible refine wpl_load 31 _ rfl rfl ?_ hx ?_
       · rfl
       simp only [Act.put, List.getElem_toArray, List.getElem_cons_zero, List.getElem_cons_succ, List.setIfInBounds_toArray, List.set_cons_zero, List.set_cons_succ]))
  refine (own_ct h1 hD).mono ?_
  rintro e W2 ⟨q2, hown⟩
  obtain ⟨j, x, hj, hxD, rfl⟩ : ∃ (j : Nat) (x : OwnE), owns[j]? = some x ∧ x.D = D ∧ e = .returned (.int .i64 j) := by
    rcases hown with h' | ⟨hn, _⟩
    · exact h'
    · obtain ⟨j, x, a1, a2⟩ := hs.o2 D _ ho
      exact absurd a2 (hn j x a1)
  have h2 := h1.kept q2
  have q12 := k1.trans q2
  have hxk : x.k = c := by
    have := hs.o1 j x hj
    rw [hxD, ho] at this
    injection this with this; injection this with this _; exact this.symm
  have hjl := (List.getElem?_eq_some_iff.1 hj).1
  obtain ⟨g, cap, hv, hg, ⟨cg, hgc⟩, hra⟩ := row_at h2.own (fun e he => OwnE.len (h.digO e he)) hj
  have hml := row_le h2.own
  simp only [maxLen] at hml
  subst hv
  have hra' : W2.rangeAt g (j * 37) ((clm D s.id s.inc c false).toList ++ [.int .i64 x.b]) := by
    have := hra
    simp only [OwnE.cells, hxD, hxk] at this
    exact this
  have c5 := h2.cell 5 _ rfl
  have ld6 := load_clm_at (clm_size hD s.id s.inc c false) hra'
  have hX := Lib.hid hxD
  have hK := Lib.hid hxk
  have hst := fun wx : World => store_new (P := Try.prog) (ty := 33) (c := Z36) (c' := clm D s.id s.inc c false) (by rw [clm_size hD]; kernel_rfl) (by rw [clm_size hD]; rfl) (clm_oneCell hD _ _ _ _) (w := wx) rfl
  clear hx hown hra hra' hxD hxk h1 ho
  have hst2 := hst W2
  have zc := zeroClm W2
  go_upto_region 5 with (first
    | (with_reducible refine wpl_load 33 _ rfl rfl ?_ ld6 ?_
       · rfl
       simp only [Act.put, List.getElem_toArray, List.getElem_cons_zero, List.getElem_cons_succ, List.setIfInBounds_toArray, List.set_cons_zero, List.set_cons_succ])
    | (with_reducible refine wpl_alloc 33 rfl rfl zc ?_
       simp only [World.size_alloc, Act.put, List.getElem_toArray, List.getElem_cons_zero, List.getElem_cons_succ, List.setIfInBounds_toArray, List.set_cons_zero, List.set_cons_succ])
    | (with_reducible refine wpl_store 33 _ _ rfl rfl ?_ ?_ hst2 ?_
       · rfl
       · rfl
       simp only [Act.put, List.getElem_toArray, List.getElem_cons_zero, List.getElem_cons_succ, List.setIfInBounds_toArray, List.set_cons_zero, List.set_cons_succ]))
  have k3 : Kept (fun _ => False) W2 (W2.alloc (.cells (clm D s.id s.inc c false) 33)) := (Kept.refl _ W2).alloc _
  have hr3 : (W2.alloc (.cells (clm D s.id s.inc c false) 33)).heap[W2.heap.size]? = some (.cells (clm D s.id s.inc c false) 33 (0, 0)) := heap_last W2 _
  generalize W2.alloc (.cells (clm D s.id s.inc c false) 33) = W3 at k3 hr3 ⊢
  have hcc : W3.cell? ⟨W2.heap.size, 35, none⟩ = some (.bool false) := by rw [cell_of_row _ _ _ _ _ _ hr3]; exact clm_at hD s.id s.inc c false 3
  have hff : W3.frozen? ⟨W2.heap.size, 35, none⟩ = false := by simp [World.frozen?, hr3]
  clear hst2 hst zc ld6 c5
  go_upto_region 6 with fail
  have hr4 : (W3.setCell ⟨W2.heap.size, 35, none⟩ (.bool true)).heap[W2.heap.size]? = some (.cells (clm D s.id s.inc c true) 33 (0, 0)) := by rw [heap_setCell_same hr3, clm_set hD]
  have k4 : Kept (fun _ => False) W2 (W3.setCell ⟨W2.heap.size, 35, none⟩ (.bool true)) := k3.setCell (fun q => absurd q (Nat.lt_irrefl _)) _
  generalize W3.setCell ⟨W2.heap.size, 35, none⟩ (.bool true) = W4 at hr4 k4 ⊢
  have hRY := h2.lt
  have hwY := q12.size
  generalize W2.heap.size = Y at hr4 hg hcc hff hr3 hRY hwY
  clear hcc hff hr3 k3 W3
  have h4 := h2.kept k4
  have q14 := q12.trans k4
  have jcap : owns.length ≤ cap := by
    rcases h2.own.2 with ⟨e, _⟩ | ⟨g', cap', cur, e, _, _, hc, _⟩
    · cases e
    · injection e with _ _ e; omega
  obtain ⟨z, hz⟩ : ∃ z : Int, z = ((j + 1 : Nat) : Int) := ⟨_, rfl⟩
  have hsum : IntKind.i64.wrap ((j : Int) + 1) = z := by rw [IntWalk.i64_in _ (by omega)]; omega
  have c5 : ∀ w', Kept (fun _ => False) W4 w' → w'.cell? ⟨R, 5, none⟩ = some (.slice (some ⟨g, 0, none⟩) owns.length cap) := fun w' q => (h4.kept q).cell 5 _ rfl
  have st := fun w' : World => slice_to (some ⟨g, 0, none⟩) owns.length cap (j := j) (by omega) w'
  have sf := fun w' : World => slice_from ⟨g, 0, none⟩ owns.length cap (j := j + 1) hz (by omega) w'
  -- the cells
  have zO : ∀ e ∈ owns, (e.cells s.id s.inc).length = 37 := fun e he => OwnE.len (h.digO e he)
  have hx0 : owns = owns.take j ++ x :: owns.drop (j + 1) := by
    have e : owns[j] = x := (List.getElem?_eq_some_iff.1 hj).2
    rw [← e, List.getElem_cons_drop, List.take_append_drop]
  have zx : (x.cells s.id s.inc).length = 37 := zO x (List.mem_of_getElem? hj)
  have hall : owns.flatMap (OwnE.cells s.id s.inc) = (owns.take j).flatMap (OwnE.cells s.id s.inc) ++ (x.cells s.id s.inc ++ (owns.drop (j + 1)).flatMap (OwnE.cells s.id s.inc)) := by
    conv => lhs; rw [hx0]
    rw [List.flatMap_append, List.flatMap_cons]
  have lenA : ((owns.take j).flatMap (OwnE.cells s.id s.inc)).length = j * 37 := by
    rw [flat_len (fun e he => zO e (List.mem_of_mem_take he)), List.length_take]; congr 1; omega
  have lenB : ((owns.drop (j + 1)).flatMap (OwnE.cells s.id s.inc)).length = (owns.length - (j + 1)) * 37 := by
    rw [flat_len (fun e he => zO e (List.mem_of_mem_drop he)), List.length_drop]
  have one : ∀ u ∈ owns.flatMap (OwnE.cells s.id s.inc), u.oneCell' = true := fun u hu => by
    obtain ⟨e, he, hu⟩ := List.mem_flatMap.1 hu
    rcases List.mem_append.1 hu with hu | hu
    · have := clm_oneCell (h.digO e he) s.id s.inc e.k false
      rw [Array.all_eq_true_iff_forall_mem] at this
      exact this u (by simpa using hu)
    · simp only [List.mem_singleton] at hu; subst hu; rfl
  have cells := h4.own.cells (g := g) rfl
  rw [hall] at cells one
  have hgW : g < W4.heap.size := Nat.lt_of_lt_of_le (Nat.lt_trans hg (Array.getElem?_eq_some_iff.1 hr4).1) (Nat.le_refl _)
  have hA : ∀ {w'}, Kept (fun _ => False) W4 w' → ∀ k u, ((owns.take j).flatMap (OwnE.cells s.id s.inc))[k]? = some u → w'.cell? ((⟨g, 0, none⟩ : Addr).add k) = some u := fun q k u hu => by
    have := cells k u (by rw [List.getElem?_append_left (List.getElem?_eq_some_iff.1 hu).1]; exact hu)
    rw [Addr.add_mid] at this ⊢
    exact (q.cell (p := ⟨g, 0 + k, none⟩) hgW not_false).trans this
  have hB : ∀ {w'}, Kept (fun _ => False) W4 w' → ∀ k u, ((owns.drop (j + 1)).flatMap (OwnE.cells s.id s.inc))[k]? = some u → w'.cell? ((cutA ⟨g, 0, none⟩ (j + 1) cap).add k) = some u := fun q k u hu => by
    have hkl := (List.getElem?_eq_some_iff.1 hu).1
    rw [lenB] at hkl
    have hlt : j + 1 < owns.length := by
      rcases Nat.lt_or_ge (j + 1) owns.length with h' | h'
      · exact h'
      · rw [Nat.sub_eq_zero_of_le h', Nat.zero_mul] at hkl; omega
    have := cells ((j + 1) * 37 + k) u (by
      rw [List.getElem?_append_right (by omega), List.getElem?_append_right (by omega), lenA, zx, ← hu]
      congr 1; omega)
    rw [cutA, if_neg (by omega), Addr.add_mid, Addr.add_mid]
    rw [Addr.add_mid] at this
    rw [show 0 + (j + 1) * 37 + k = 0 + ((j + 1) * 37 + k) by omega]
    exact (q.cell (p := ⟨g, 0 + ((j + 1) * 37 + k), none⟩) hgW not_false).trans this
  -- the worlds
  have bs0 := bslice_own0 W4.drew
  have k5 : Kept (fun _ => False) W4 (W4.drew.alloc (.cells #[] 52)) := ((Kept.refl _ W4).drew).alloc _
  have hr5 := heap_last W4.drew (.cells #[] 52)
  have eX : W4.drew.heap.size = W4.heap.size := rfl
  have s5 : (W4.drew.alloc (.cells #[] 52)).heap.size = W4.heap.size + 1 := by rw [World.size_alloc]; rfl
  generalize W4.drew.alloc (.cells #[] 52) = W5 at bs0 k5 hr5 s5
  rw [eX] at bs0 hr5
  have hbW4 : b0 ≤ W4.heap.size := Nat.le_trans h4.far (Nat.le_of_lt h4.lt)
  have ho5 : W5.ownsRow b0 52 37 (.slice (some ⟨W4.heap.size, 0, none⟩) 0 0) 0 [] := ⟨rfl, .inr ⟨_, 0, #[], rfl, hbW4, hr5, Nat.le_refl _, Nat.zero_le _, rfl, rfl⟩⟩
  obtain ⟨v6, W6, ap1, ho6, hg6, hloc6⟩ := append_ownM ho5 (a := ⟨g, 0, none⟩) (m := j) (c := cap) (by omega) lenA (hA k5) (fun u hu => one u (List.mem_append_left _ hu)) (Nat.le_trans hbW4 k5.size) 47
  have k6 : Kept (fun _ => False) W4 W6 := ⟨hg6.os.trans k5.os, hg6.tape.trans k5.tape, hg6.output.trans k5.output, Nat.le_trans k5.size hg6.size, fun k hk _ => (hg6.block k (by omega) (fun e => by have e : W4.heap.size = k := (Option.some.inj e).symm; omega)).trans (k5.block k hk not_false)⟩
  obtain ⟨v7, W7, ap2, ho7, hg7, hloc7⟩ := append_ownM ho6 (a := cutA ⟨g, 0, none⟩ (j + 1) cap) (m := owns.length - (j + 1)) (c := cap - (j + 1)) (by omega) lenB (hB k6) (fun u hu => one u (List.mem_append_right _ (List.mem_append_right _ hu))) (Nat.le_trans hbW4 k6.size) 47
  have b6 : ∀ k, v6.ownBlock = some k → W4.heap.size ≤ k := fun k e => by
    rcases hloc6 with q | q
    · rw [q] at e; have e : some W4.heap.size = some k := e; injection e with e; omega
    · rw [q] at e; injection e with e; omega
  have k7 : Kept (fun _ => False) W4 W7 := ⟨hg7.os.trans k6.os, hg7.tape.trans k6.tape, hg7.output.trans k6.output, Nat.le_trans k6.size hg7.size, fun k hk _ => (hg7.block k (Nat.lt_of_lt_of_le hk k6.size) (fun e => by have := b6 k e.symm; omega)).trans (k6.block k hk not_false)⟩
  have b7 : ∀ k, v7.ownBlock = some k → W4.heap.size ≤ k := fun k e => by
    rcases hloc7 with q | q
    · rw [q] at e; exact b6 k e
    · rw [q] at e; injection e with e; have := k6.size; omega
  rw [show 0 + j + (owns.length - (j + 1)) = (owns.take j ++ owns.drop (j + 1)).length by simp; omega, List.nil_append, ← List.flatMap_append] at ho7
  have hlen : (owns.take j ++ owns.drop (j + 1)).length ≤ owns.length := by simp; omega
  have hrefs := hs.drop hj
  rw [hX.out] at hrefs
  have hdig : ∀ e ∈ owns.take j ++ owns.drop (j + 1), IsDig e.D := fun e he => by
    rcases List.mem_append.1 he with he | he
    · exact h.digO e (List.mem_of_mem_take he)
    · exact h.digO e (List.mem_of_mem_drop he)
  generalize owns.take j ++ owns.drop (j + 1) = owns' at ho7 hlen hrefs hdig
  obtain ⟨a7, c7, hv7⟩ := row_form ho7
  subst hv7
  have h7 := h4.kept k7
  have st8 := store_slice (n := owns'.length) (c := c7) (a := a7) (h7.cell 5 _ rfl) (w := W7) (R := R) (j := 5) (by simp [World.frozen?, h7.blk])
  have kR : Kept (· = R) W7 (W7.setCell ⟨R, 5, none⟩ (.slice a7 owns'.length c7)) := (Kept.refl (· = R) W7).setCell (p := ⟨R, 5, none⟩) (fun _ => rfl) _
  have hYR : Y ≠ R := fun e => by omega
  have hr8 : (W7.setCell ⟨R, 5, none⟩ (.slice a7 owns'.length c7)).heap[Y]? = some (.cells (clm D s.id s.inc c true) 33 (0, 0)) := by
    rw [kR.block Y (Array.getElem?_eq_some_iff.1 ((k7.block Y (Array.getElem?_eq_some_iff.1 hr4).1 not_false).trans hr4)).1 hYR, k7.block Y (Array.getElem?_eq_some_iff.1 hr4).1 not_false]; exact hr4
  have blk8 := heap_setCell_same (j := 5) h7.blk (.slice a7 owns'.length c7)
  have vtR : vt.ownBlock ≠ some R := fun e => by
    rcases h7.oth.2 with ⟨rfl, _⟩ | ⟨g, cap, cur, rfl, _, hg, _⟩
    · cases e
    · have e : some g = some R := e
      injection e with e; subst e
      rw [h7.blk] at hg; injection hg with hg; injection hg with _ hg; exact absurd hg (by decide)
  have ho8 := row_kept ho7 kR (fun k e q => by have := b7 k e; have := h4.lt; omega)
  have ht8 := row_kept h7.oth kR (fun k e q => vtR (by rw [e, q]))
  have kw8 := ((q14.trans k7).upto (S := (· = R))).trans kR
  generalize W7.setCell ⟨R, 5, none⟩ (.slice a7 owns'.length c7) = W8 at st8 hr8 blk8 ho8 ht8 kw8
  have fin : ∀ y, RbS b0 (W8.alloc y) R { s with O := upd s.O (.agg D) none } owns' oths (.slice a7 owns'.length c7) vt := fun y =>
    { blk := by rw [Below.heap_alloc _ _ _ (Array.getElem?_eq_some_iff.1 blk8).1]; exact blk8
      own := row_kept ho8 ((Kept.refl (fun _ => False) _).alloc _) (fun _ _ => not_false)
      oth := row_kept ht8 ((Kept.refl (fun _ => False) _).alloc _) (fun _ _ => not_false)
      digO := hdig
      digT := h.digT
      far := h.far }
  have l8 := load_clm (clm_size hD s.id s.inc c true) hr8
  have bs8 := bslice_clm hD s.id s.inc c true W8
  clear cells one hA hB zO hx0 hall hz
  refine tail_drew 19 (Kept (fun _ => False) W4) (by kernel_rfl) ((Kept.refl _ W4).drew) (fun hHeld => ?_)
  refine tail_q (v := ?_) (i := 0) rfl (by kernel_rfl) (by kernel_rfl) (by kernel_rfl) (by kernel_rfl) (by decide) (fun _ _ _ h => h) (by rfl) hHeld ?_ ?_
  rotate_left
  · (intro w' hS'; go_simp <;> (with_reducible rfl))
  simp only [Act.put, List.getElem_toArray, List.getElem_cons_zero, List.getElem_cons_succ, List.setIfInBounds_toArray, List.set_cons_zero, List.set_cons_succ]
  refine tail_q (v := ?_) (i := 2) rfl (by kernel_rfl) (by kernel_rfl) (by kernel_rfl) (by kernel_rfl) (by decide) (fun _ _ _ h => h) (by rfl) hHeld ?_ ?_
  rotate_left
  · (intro w' hS'; go_simp <;> (with_reducible rfl))
  simp only [Act.put, List.getElem_toArray, List.getElem_cons_zero, List.getElem_cons_succ, List.setIfInBounds_toArray, List.set_cons_zero, List.set_cons_succ]
  refine tail_q (v := ?_) (i := 3) rfl (by kernel_rfl) (by kernel_rfl) (by kernel_rfl) (by kernel_rfl) (by decide) (fun _ _ _ h => h) (by rfl) hHeld ?_ ?_
  rotate_left
  · (intro w' hS'; go_simp <;> (with_reducible rfl))
  simp only [Act.put, List.getElem_toArray, List.getElem_cons_zero, List.getElem_cons_succ, List.setIfInBounds_toArray, List.set_cons_zero, List.set_cons_succ]
  refine tail_q (v := ?_) (i := 4) rfl (by kernel_rfl) (by kernel_rfl) (by kernel_rfl) (by kernel_rfl) (by decide) (fun _ _ _ h => h) (by rfl) hHeld ?_ ?_
  rotate_left
  · (intro w' hS'; go_simp <;> (with_reducible rfl))
  simp only [Act.put, List.getElem_toArray, List.getElem_cons_zero, List.getElem_cons_succ, List.setIfInBounds_toArray, List.set_cons_zero, List.set_cons_succ]
  refine tail_q (v := ?_) (i := 5) rfl (by kernel_rfl) (by kernel_rfl) (by kernel_rfl) (by kernel_rfl) (by decide) (fun _ _ _ h => h) (by rfl) hHeld ?_ ?_
  rotate_left
  · (intro w' hS'; go_simp <;> (with_reducible rfl))
  simp only [Act.put, List.getElem_toArray, List.getElem_cons_zero, List.getElem_cons_succ, List.setIfInBounds_toArray, List.set_cons_zero, List.set_cons_succ]
  refine tail_q (v := ?_) (i := 6) rfl (by kernel_rfl) (by kernel_rfl) (by kernel_rfl) (by kernel_rfl) (by decide) (fun _ _ _ h => h) (by rfl) hHeld ?_ ?_
  rotate_left
  · (intro w' hS'; go_simp <;> (with_reducible rfl))
  simp only [Act.put, List.getElem_toArray, List.getElem_cons_zero, List.getElem_cons_succ, List.setIfInBounds_toArray, List.set_cons_zero, List.set_cons_succ]
  refine tail_q (i := 7) rfl (by kernel_rfl) (by kernel_rfl) (by kernel_rfl) (by kernel_rfl) (by decide) (fun _ _ _ h => h) (by rfl) hHeld (fun w' hS' => exec_slice_h 47 _ _ rfl rfl rfl (st w')) ?_
  simp only [Act.put, List.getElem_toArray, List.getElem_cons_zero, List.getElem_cons_succ, List.setIfInBounds_toArray, List.set_cons_zero, List.set_cons_succ]
  refine tail_q (v := ?_) (i := 9) rfl (by kernel_rfl) (by kernel_rfl) (by kernel_rfl) (by kernel_rfl) (by decide) (fun _ _ _ h => h) (by rfl) hHeld ?_ ?_
  rotate_left
  · (intro w' hS'; go_simp <;> (with_reducible rfl))
  simp only [Act.put, List.getElem_toArray, List.getElem_cons_zero, List.getElem_cons_succ, List.setIfInBounds_toArray, List.set_cons_zero, List.set_cons_succ]
  refine tail_q (v := ?_) (i := 10) rfl (by kernel_rfl) (by kernel_rfl) (by kernel_rfl) (by kernel_rfl) (by decide) (fun _ _ _ h => h) (by rfl) hHeld ?_ ?_
  rotate_left
  · (intro w' hS'; go_simp <;> (with_reducible rfl))
  simp only [Act.put, List.getElem_toArray, List.getElem_cons_zero, List.getElem_cons_succ, List.setIfInBounds_toArray, List.set_cons_zero, List.set_cons_succ]
  refine tail_q (v := ?_) (i := 11) rfl (by kernel_rfl) (by kernel_rfl) (by kernel_rfl) (by kernel_rfl) (by decide) (fun _ _ _ h => h) (by rfl) hHeld ?_ ?_
  rotate_left
  · (intro w' hS'; go_simp <;> (with_reducible rfl))
  simp only [Act.put, List.getElem_toArray, List.getElem_cons_zero, List.getElem_cons_succ, List.setIfInBounds_toArray, List.set_cons_zero, List.set_cons_succ]
  refine tail_q (v := ?_) (i := 12) rfl (by kernel_rfl) (by kernel_rfl) (by kernel_rfl) (by kernel_rfl) (by decide) (fun _ _ _ h => h) (by rfl) hHeld ?_ ?_
  rotate_left
  · (intro w' hS'; go_simp <;> (with_reducible rfl))
  simp only [Act.put, List.getElem_toArray, List.getElem_cons_zero, List.getElem_cons_succ, List.setIfInBounds_toArray, List.set_cons_zero, List.set_cons_succ]
  refine tail_q (v := ?_) (i := 13) rfl (by kernel_rfl) (by kernel_rfl) (by kernel_rfl) (by kernel_rfl) (by decide) (fun _ _ _ h => h) (by rfl) hHeld ?_ ?_
  rotate_left
  · (intro w' hS'; go_simp <;> (with_reducible rfl))
  simp only [Act.put, List.getElem_toArray, List.getElem_cons_zero, List.getElem_cons_succ, List.setIfInBounds_toArray, List.set_cons_zero, List.set_cons_succ]
  refine tail_q (v := ?_) (i := 14) rfl (by kernel_rfl) (by kernel_rfl) (by kernel_rfl) (by kernel_rfl) (by decide) (fun _ _ _ h => h) (by rfl) hHeld ?_ ?_
  rotate_left
  · (intro w' hS'; go_simp <;> (with_reducible rfl))
  simp only [Act.put, List.getElem_toArray, List.getElem_cons_zero, List.getElem_cons_succ, List.setIfInBounds_toArray, List.set_cons_zero, List.set_cons_succ]
  refine tail_q (i := 15) rfl (by kernel_rfl) (by kernel_rfl) (by kernel_rfl) (by kernel_rfl) (by decide) (fun _ _ _ h => h) (by rfl) hHeld (fun w' hS' => exec_slice_l 47 _ _ rfl rfl rfl (sf w')) ?_
  simp only [Act.put, List.getElem_toArray, List.getElem_cons_zero, List.getElem_cons_succ, List.setIfInBounds_toArray, List.set_cons_zero, List.set_cons_succ]
  refine tail_v (i := 1) (by kernel_rfl) rfl (by rfl) (exec_buildSlice 47 0 _ rfl (by go_simp <;> rfl) bs0) (k5) (fun hHeld => ?_)
  simp only [Act.put, List.getElem_toArray, List.getElem_cons_zero, List.getElem_cons_succ, List.setIfInBounds_toArray, List.set_cons_zero, List.set_cons_succ]
  refine tail_v (i := 8) (by kernel_rfl) rfl (by rfl) (exec_append 47 _ _ rfl rfl rfl ap1) (k6) (fun hHeld => ?_)
  simp only [Act.put, List.getElem_toArray, List.getElem_cons_zero, List.getElem_cons_succ, List.setIfInBounds_toArray, List.set_cons_zero, List.set_cons_succ]
  refine tail_v (i := 16) (by kernel_rfl) rfl (by rfl) (exec_append 47 _ _ rfl rfl rfl ap2) (k7) (fun hHeld => ?_)
  simp only [Act.put, List.getElem_toArray, List.getElem_cons_zero, List.getElem_cons_succ, List.setIfInBounds_toArray, List.set_cons_zero, List.set_cons_succ]
  refine tail_v (v := ?_) (i := 17) (by kernel_rfl) rfl (by rfl) ?_ hHeld (fun hHeld => ?_)
  rotate_left
  · (go_simp <;> (with_reducible rfl))
  simp only [Act.put, List.getElem_toArray, List.getElem_cons_zero, List.getElem_cons_succ, List.setIfInBounds_toArray, List.set_cons_zero, List.set_cons_succ]
  refine tail_v (v := ?_) (i := 18) (by kernel_rfl) rfl (by rfl) ?_ hHeld (fun hHeld => ?_)
  rotate_left
  · (go_simp <;> (with_reducible rfl))
  simp only [Act.put, List.getElem_toArray, List.getElem_cons_zero, List.getElem_cons_succ, List.setIfInBounds_toArray, List.set_cons_zero, List.set_cons_succ]
  refine tail_end (by kernel_rfl) rfl (by rfl) (exec_store 47 _ _ rfl rfl rfl st8) (by kernel_rfl) ?_
  simp only [Act.put, List.getElem_toArray, List.getElem_cons_zero, List.getElem_cons_succ, List.setIfInBounds_toArray, List.set_cons_zero, List.set_cons_succ]
  go_wp2_with (first
    | (with_reducible refine wpl_load 33 _ rfl rfl ?_ l8 ?_
       · rfl
       simp only [Act.put, List.getElem_toArray, List.getElem_cons_zero, List.getElem_cons_succ, List.setIfInBounds_toArray, List.set_cons_zero, List.set_cons_succ])
    | (with_reducible refine wpl_bslice 36 _ _ rfl rfl ?_ bs8 ?_
       · (go_simp <;> rfl)
       simp only [Act.put, List.getElem_toArray, List.getElem_cons_zero, List.getElem_cons_succ, List.setIfInBounds_toArray, List.set_cons_zero, List.set_cons_succ]))
  go_ret
  exact ⟨_, _, _, rfl, ⟨W8.heap.size, kw8.size, rfl, heap_last W8 _⟩, kw8.alloc _, fin _, hrefs, hlen⟩
end Go.Proofs.Ytbaehaleigpijaa
