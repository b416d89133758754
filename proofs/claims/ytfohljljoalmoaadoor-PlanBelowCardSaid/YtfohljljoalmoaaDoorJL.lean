/- Targets and rows of trees as arguments; the tables as the rows list them. -/
import Derived.Test.YtfohljljoalmoaaDoorJE
import Derived.Test.YtfohljljoalmoaaDoorJG
import Derived.Test.YtfohljljoalmoaaDoorUH
import Derived.Test.YtfohljljoalmoaaDoorCards
import Derived.Test.YtfohljljoalmoaaDoorTie
import Derived.Deep.DeepHandedRow
import Derived.Lib.LaidU8
import Derived.Lib.LaidU8T
namespace Go.Proofs.YtfohljljoalmoaaDoor
open Go.ChangeShapes Go.WideShapes Go.ChangeAt Go.RowKit
set_option maxRecDepth 100000
set_option linter.unusedSimpArgs false
set_option linter.unusedVariables false

theorem rows_pick {α : Type} {f : α → List Value} {p : α → Prop} : ∀ (rows : List (List Value)), (∀ r ∈ rows, ∃ s, r = f s ∧ p s) → ∃ ss : List α, rows = ss.map f ∧ ∀ s ∈ ss, p s
  | [], _ => ⟨[], rfl, fun s hs => by simp at hs⟩
  | r :: rows, h => by
    obtain ⟨s, hs, hp⟩ := h r (List.mem_cons_self ..)
    obtain ⟨ss, e, hss⟩ := rows_pick rows (fun r hr => h r (List.mem_cons_of_mem _ hr))
    refine ⟨s :: ss, by rw [hs, e, List.map_cons], fun y hy => ?_⟩
    rcases List.mem_cons.1 hy with rfl | hy
    · exact hp
    · exact hss y hy
section
variable {H : Type} {enc : TypeId × Value → H} {w : World} {base : Nat} {spare : Nat → Bool} {held : Bool}
theorem row_open {ts e : TypeId} {z : Nat} (ht : Tryd.prog.underlying ts = some (.slice e)) (hcc : Tryd.prog.cellsOf e = z) (hz : 0 < z) {Q : List Value → Prop}
    (hq : ∀ (m : Nat) (cs : List Value) (x : DataW H × List MemPlace), DataW.trod enc Tryd.prog w base spare held m e cs = some x → cs.length = z → Q cs)
    {fuel : Nat} {cs : List Value} {x : DataW H × List MemPlace} (h : DataW.trod enc Tryd.prog w base spare held fuel ts cs = some x) :
    ∃ (v : Value) (rows : List (List Value)), cs = [v] ∧ RowAt w z v rows ∧ ∀ r ∈ rows, Q r := by
  rcases DataW.trod_slice ht h with ⟨rfl, _⟩ | ⟨a, len, cap, elems, rest, m, _, rfl, _, hb, hl, hm, hlen, hel, _, _⟩
  · exact ⟨_, [], rfl, RowAt.nil w z 0, fun r hr => by simp at hr⟩
  · have hsp : 0 < len → a.spot = none := fun h0 => by
      have h1 := hel 0 h0
      rw [hcc, List.getElem?_eq_getElem (by omega)] at h1
      obtain ⟨c, hc, ht⟩ := Option.bind_eq_some_iff.1 h1
      obtain ⟨_, hl1, hc3⟩ := World.cells?_some hc
      have h2 := hc3 0 (by omega)
      rw [List.getElem?_eq_getElem (by omega)] at h2
      have ha : (a.add (0 * z)).add 0 = a := by simp [Addr.add]
      rw [ha] at h2
      exact World.cell?_spot h2
    have key : ∀ i, ∃ f : List Value, i < len → ∃ b q, a = ⟨b, q, none⟩ ∧ b < w.heap.size ∧ w.rangeAt b (q + i * z) f ∧ Q f := fun i => by
      by_cases hi : i < len
      · have h1 := hel i hi
        rw [hcc, List.getElem?_eq_getElem (by omega)] at h1
        obtain ⟨c, hc, ht⟩ := Option.bind_eq_some_iff.1 h1
        have hzz := World.cells?_block hc hz
        obtain ⟨hc1, hc2, hc3⟩ := World.cells?_some hc
        refine ⟨c, fun _ => ?_⟩
        obtain ⟨b, q, s⟩ := a
        have : s = none := hsp (by omega)
        subst this
        refine ⟨b, q, rfl, by simpa [block_add] using hzz, fun j v hv => ?_, hq _ _ _ ht hc2⟩
        have hj : j < z := by have := (List.getElem?_eq_some_iff.1 hv).1; omega
        have := hc3 j hj
        rw [Addr.add_mid, Addr.add_mid] at this
        rw [this, hv]
      · exact ⟨[], fun h => absurd h hi⟩
    obtain ⟨f, hf⟩ := Classical.axiomOfChoice key
    have hlen2 : ((List.range len).map f).length = len := by simp
    refine ⟨_, (List.range len).map f, rfl, ⟨some a, cap, by rw [hlen2], by rw [hlen2]; exact hl, by rw [hlen2]; omega, fun hne => ?_⟩, fun r hr => ?_⟩
    · have h0 : 0 < len := by
        rcases Nat.eq_zero_or_pos len with h0 | h0
        · exact absurd (by rw [h0]; rfl) hne
        · exact h0
      obtain ⟨b, q, ha, hzz, _⟩ := hf 0 h0
      refine ⟨b, q, by rw [ha], hzz, fun i g hg => ?_⟩
      have hi : i < len := by have := (List.getElem?_eq_some_iff.1 hg).1; rw [hlen2] at this; exact this
      obtain ⟨b', q', ha', _, hr, _⟩ := hf i hi
      rw [ha] at ha'
      injection ha' with e1 e2
      subst e1; subst e2
      have hge : f i = g := by
        rw [List.getElem?_map, List.getElem?_range hi] at hg
        simpa using hg
      subst hge
      exact hr
    · obtain ⟨i, hi, rfl⟩ := List.mem_map.1 hr
      exact (hf i (by simpa using hi)).choose_spec.choose_spec.2.2.2
theorem deps_open {fuel : Nat} {cs : List Value} {x : DataW H × List MemPlace} (h : DataW.trod enc Tryd.prog w base spare held fuel 22 cs = some x) :
    ∃ (v : Value) (ds : List ByteArray), cs = [v] ∧ DepsAt w v ds := by
  obtain ⟨v, rows, e, hr, hq⟩ := row_open (z := 1) (Q := fun cs => ∃ s : ByteArray, cs = [Value.string s] ∧ s.size ≤ maxLen) Tryd.underlying22 (by kernel_rfl) (by omega)
    (fun m cs x ht _ => by obtain ⟨s, h1, _, h2⟩ := DataW.trod_string Tryd.underlying9 ht; exact ⟨s, h1, h2⟩) h
  obtain ⟨ds, rfl, hp⟩ := rows_pick (f := fun s : ByteArray => [Value.string s]) rows hq
  exact ⟨v, ds, e, hr, hp⟩
theorem i64_wf {n : Int} (h : (Lit.int .i64 n).wf = true) : -9223372036854775808 ≤ n ∧ n ≤ 9223372036854775807 := by
  simp only [Lit.wf, Bool.and_eq_true, decide_eq_true_eq] at h
  have h1 : -(2 ^ 63) ≤ n := h.1
  have h2 : n ≤ 2 ^ 63 - 1 := h.2
  omega
theorem one_cell {α : Type} {cs : List α} {i : Nat} (h : i < cs.length) : (cs.drop i).take 1 = [cs[i]] := by rw [List.drop_eq_getElem_cons h]; rfl
theorem ins_cells {fuel : Nat} {cs : List Value} {x : DataW H × List MemPlace} (h : DataW.trod enc Tryd.prog w base spare held fuel 48 cs = some x) :
    ∃ y : InsE, cs = insC y ∧ y.Fits := by
  have hcc : Tryd.prog.cellsOf 48 = 6 := by kernel_rfl
  have hcs : Tryd.prog.cellsOf 9 = 1 := by kernel_rfl
  have hcb : Tryd.prog.cellsOf 5 = 1 := by kernel_rfl
  have hci : Tryd.prog.cellsOf 3 = 1 := by kernel_rfl
  obtain ⟨xs, m, _, _, hlen, hxl, hg⟩ := DataW.trod_struct Tryd.underlying48 h
  rw [hcc] at hlen
  have hx6 : xs.length = 6 := hxl
  have g0 : DataW.trod enc Tryd.prog w base spare held m 5 ((cs.drop 0).take (Tryd.prog.cellsOf 5)) = xs[0]? := hg 0 _ rfl
  have g1 : DataW.trod enc Tryd.prog w base spare held m 9 ((cs.drop 1).take (Tryd.prog.cellsOf 9)) = xs[1]? := hg 1 _ rfl
  have g2 : DataW.trod enc Tryd.prog w base spare held m 9 ((cs.drop 2).take (Tryd.prog.cellsOf 9)) = xs[2]? := hg 2 _ rfl
  have g3 : DataW.trod enc Tryd.prog w base spare held m 9 ((cs.drop 3).take (Tryd.prog.cellsOf 9)) = xs[3]? := hg 3 _ rfl
  have g4 : DataW.trod enc Tryd.prog w base spare held m 3 ((cs.drop 4).take (Tryd.prog.cellsOf 3)) = xs[4]? := hg 4 _ rfl
  have g5 : DataW.trod enc Tryd.prog w base spare held m 3 ((cs.drop 5).take (Tryd.prog.cellsOf 3)) = xs[5]? := hg 5 _ rfl
  rw [hcb, one_cell (by omega)] at g0
  rw [hcs, one_cell (by omega), List.getElem?_eq_getElem (by omega)] at g1 g2 g3
  rw [hci, one_cell (by omega)] at g4 g5
  obtain ⟨k, e0, w0⟩ := one_of_int Tryd.underlying5 (by rw [List.getElem?_eq_getElem (by omega)]; rfl) g0
  obtain ⟨s1, e1, _, w1⟩ := DataW.trod_string Tryd.underlying9 g1
  obtain ⟨s2, e2, _, w2⟩ := DataW.trod_string Tryd.underlying9 g2
  obtain ⟨s3, e3, _, w3⟩ := DataW.trod_string Tryd.underlying9 g3
  obtain ⟨n, e4, w4⟩ := one_of_int Tryd.underlying3 (by rw [List.getElem?_eq_getElem (by omega)]; rfl) g4
  obtain ⟨o, e5, w5⟩ := one_of_int Tryd.underlying3 (by rw [List.getElem?_eq_getElem (by omega)]; rfl) g5
  obtain ⟨h0, h256⟩ := u8_of_wf w0
  simp only [List.cons.injEq, and_true] at e0 e1 e2 e3 e4 e5
  refine ⟨⟨k.toNat, s1, s2, s3, n, o⟩, ?_, ⟨by show k.toNat < 256; omega, w1, w2, w3, i64_wf w4, i64_wf w5⟩⟩
  apply List.ext_getElem
  · rw [hlen]; rfl
  · intro i h1 h2
    rw [hlen] at h1
    match i, h1 with
    | 0, _ => rw [e0]; show Value.int .u8 k = .int .u8 (k.toNat : Int); rw [Int.toNat_of_nonneg h0]
    | 1, _ => exact e1
    | 2, _ => exact e2
    | 3, _ => exact e3
    | 4, _ => exact e4
    | 5, _ => exact e5
theorem prog_open {fuel : Nat} {cs : List Value} {x : DataW H × List MemPlace} (h : DataW.trod enc Tryd.prog w base spare held fuel 23 cs = some x) :
    ∃ (v : Value) (p : List InsE), cs = [v] ∧ ProgAt w v p := by
  obtain ⟨v, rows, e, hr, hq⟩ := row_open (z := 6) (Q := fun cs => ∃ y : InsE, cs = insC y ∧ y.Fits) Tryd.underlying23 (by kernel_rfl) (by omega) (fun m cs x ht _ => ins_cells ht) h
  obtain ⟨p, rfl, hp⟩ := rows_pick (f := insC) rows hq
  exact ⟨v, p, e, hr, hp⟩
theorem trees_open {fuel : Nat} {cs : List Value} {x : DataW H × List MemPlace} (h : DataW.trod enc Tryd.prog w base spare held fuel 28 cs = some x) :
    ∃ (v : Value) (ts : List (List FileE)), cs = [v] ∧ TreesAt w v ts := by
  obtain ⟨v, rows, e, hr, hq⟩ := row_open (z := 1) (Q := fun cs => ∃ s : Value × List FileE, cs = [s.1] ∧ TreeAt w s.1 s.2) Tryd.underlying28 (by kernel_rfl) (by omega)
    (fun m cs x ht _ => by obtain ⟨v, l, h1, h2⟩ := tree_open ht; exact ⟨(v, l), h1, h2⟩) h
  obtain ⟨ps, rfl, hp⟩ := rows_pick (f := fun s : Value × List FileE => [s.1]) rows hq
  refine ⟨v, ps.map (·.2), e, ps.map (·.1), by rw [List.length_map, List.length_map], by rw [List.map_map]; exact hr, fun j l hl => ?_⟩
  rw [List.getElem?_map] at hl
  cases hj : ps[j]? with
  | none => rw [hj] at hl; cases hl
  | some q =>
    rw [hj] at hl
    simp only [Option.map_some, Option.some.injEq] at hl
    subst hl
    exact ⟨q.1, by rw [List.getElem?_map, hj]; rfl, hp q (List.mem_of_getElem? hj)⟩
theorem tgt_cells {fuel : Nat} {cs : List Value} {x : DataW H × List MemPlace} (h : DataW.trod enc Tryd.prog w base spare held fuel 25 cs = some x) :
    ∃ (y : TgtE) (vd vp : Value), cs = (tgtC y vd vp).toList ∧ TgtAt w y vd vp := by
  have hcc : Tryd.prog.cellsOf 25 = 4 := by kernel_rfl
  have hcs : Tryd.prog.cellsOf 9 = 1 := by kernel_rfl
  have hcd : Tryd.prog.cellsOf 22 = 1 := by kernel_rfl
  have hci : Tryd.prog.cellsOf 3 = 1 := by kernel_rfl
  have hcp : Tryd.prog.cellsOf 23 = 1 := by kernel_rfl
  obtain ⟨xs, m, _, _, hlen, hxl, hg⟩ := DataW.trod_struct Tryd.underlying25 h
  rw [hcc] at hlen
  have hx4 : xs.length = 4 := hxl
  have g0 : DataW.trod enc Tryd.prog w base spare held m 9 ((cs.drop 0).take (Tryd.prog.cellsOf 9)) = xs[0]? := hg 0 _ rfl
  have g1 : DataW.trod enc Tryd.prog w base spare held m 22 ((cs.drop 1).take (Tryd.prog.cellsOf 22)) = xs[1]? := hg 1 _ rfl
  have g2 : DataW.trod enc Tryd.prog w base spare held m 3 ((cs.drop 2).take (Tryd.prog.cellsOf 3)) = xs[2]? := hg 2 _ rfl
  have g3 : DataW.trod enc Tryd.prog w base spare held m 23 ((cs.drop 3).take (Tryd.prog.cellsOf 23)) = xs[3]? := hg 3 _ rfl
  rw [hcs, one_cell (by omega), List.getElem?_eq_getElem (by omega)] at g0
  rw [hcd, one_cell (by omega), List.getElem?_eq_getElem (by omega)] at g1
  rw [hci, one_cell (by omega)] at g2
  rw [hcp, one_cell (by omega), List.getElem?_eq_getElem (by omega)] at g3
  obtain ⟨s, e0, _, w0⟩ := DataW.trod_string Tryd.underlying9 g0
  obtain ⟨vd, ds, e1, hd⟩ := deps_open g1
  obtain ⟨n, e2, w2⟩ := one_of_int Tryd.underlying3 (by rw [List.getElem?_eq_getElem (by omega)]; rfl) g2
  obtain ⟨vp, p, e3, hp⟩ := prog_open g3
  simp only [List.cons.injEq, and_true] at e0 e1 e2 e3
  refine ⟨⟨s, ds, n, p⟩, vd, vp, ?_, ⟨w0, hd, hp⟩⟩
  apply List.ext_getElem
  · rw [hlen]; rfl
  · intro i h1 h2
    rw [hlen] at h1
    match i, h1 with
    | 0, _ => exact e0
    | 1, _ => exact e1
    | 2, _ => exact e2
    | 3, _ => exact e3
end
theorem gFld : Tryd.prog.globalNamed "murmuration/program.fields" = some 0 := by kernel_rfl
theorem gFldT : (Tryd.prog.globals[0]?).map (·.type) = some 111 := by kernel_rfl
theorem laid_flds {W : World} (h : Lib.VarReads Tryd.prog W "murmuration/program.fields" Rows.laid_murmuration_program_fields) : FldTab W := by
  obtain ⟨g, t, cs, fuel, p, h1, h2, h3, h4⟩ := h
  rw [gFld] at h1
  injection h1 with h1
  subst h1
  rw [gFldT] at h2
  injection h2 with h2
  subst h2
  unfold World.var? at h3
  rw [gFld] at h3
  simp only [Option.bind_some] at h3
  cases hb : W.heap[0]? with
  | none => rw [hb] at h3; cases h3
  | some o =>
    rw [hb] at h3
    cases o with
    | cells C T fr =>
      simp only [Option.some.injEq] at h3
      subst h3
      have hcs : Tryd.prog.cellsOf 9 = 1 := by kernel_rfl
      have hcc : Tryd.prog.cellsOf 111 = 12 := by kernel_rfl
      obtain ⟨xs, m, _, hx, hlen, hxl, hg⟩ := DataW.trod_array Tryd.underlying111 h4
      rw [hcc] at hlen
      refine ⟨(Array.getElem?_eq_some_iff.1 hb).1, fun k hk => ?_⟩
      have hgk := hg k hk
      rw [hcs, Nat.mul_one, one_cell (by omega), List.getElem?_eq_getElem (by omega)] at hgk
      obtain ⟨s, e1, e2, _⟩ := DataW.trod_string Tryd.underlying9 hgk
      simp only [List.cons.injEq, and_true] at e1
      have hd : (Rows.laid_murmuration_program_fields : DataW Unit) = .agg (xs.map (·.1)) := congrArg Prod.fst hx
      have hl : FLDS.map (fun l => (DataW.lit (.string l) : DataW Unit)) = xs.map (·.1) := by
        have : (Rows.laid_murmuration_program_fields : DataW Unit) = .agg (FLDS.map (fun l => (DataW.lit (.string l) : DataW Unit))) := rfl
        rw [this] at hd
        injection hd
      have hk2 := congrArg (fun l : List (DataW Unit) => l[k]?) hl
      simp only [List.getElem?_map] at hk2
      rw [List.getElem?_eq_getElem (show k < xs.length by omega)] at hk2
      have hfl : k < FLDS.length := hk
      rw [List.getElem?_eq_getElem hfl] at hk2
      simp only [Option.map_some, Option.some.injEq] at hk2
      rw [e2] at hk2
      simp only [DataW.lit.injEq, Lit.string.injEq] at hk2
      rw [cell_of_row _ _ _ _ _ _ hb]
      have hs : s = fld k := by
        apply ba_ext
        rw [data_toList, data_toList, ← hk2]
        unfold fld fldL
        rw [List.getD_eq_getElem?_getD, List.getElem?_eq_getElem hfl]; rfl
      rw [← hs, ← e1]
      have hC : k < C.size := by simpa using (show k < C.toList.length by omega)
      rw [Array.getElem?_eq_getElem hC]; simp
    | _ => cases h3
end Go.Proofs.YtfohljljoalmoaaDoor
