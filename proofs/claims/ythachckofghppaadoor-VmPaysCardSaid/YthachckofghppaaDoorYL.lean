/- slices.DeleteFunc over a row of files of the call's own. -/
import Derived.Test.YthachckofghppaaDoorYK
namespace Go.Proofs.YthachckofghppaaDoor
open Go.RowKit
set_option maxRecDepth 100000
set_option linter.unusedSimpArgs false
set_option linter.unusedVariables false

/-- The files of an own tree. -/
theorem own_pairs {base n : Nat} {w : World} {v : Value} {l : List FileE} (h : TreeAt w v l) (ho : OwnT base w v n) (hn : n = l.length) :
    ∃ ps : List (ByteArray × Value), ps.length = l.length ∧ w.ownsRow base 33 2 v ps.length (prs ps) ∧ ∀ (j : Nat) f, l[j]? = some f → ∃ x, ps[j]? = some (f.path, x) ∧ ByAt w x f.bytes ∧ OwnBy base w x f.bytes.length := by
  subst hn
  obtain ⟨ps, hl, ho, hp⟩ := ho
  obtain ⟨a, cap, rfl, h2, h3⟩ := h
  refine ⟨ps, hl, by rw [hl]; exact ho, fun j f hf => ?_⟩
  have hne : l ≠ [] := fun e => by subst e; simp at hf
  obtain ⟨b, o, rfl, hb, hr⟩ := h3 hne
  obtain ⟨hs, x, hx, hby⟩ := hr j f hf
  have hjl : j < ps.length := by have := (List.getElem?_eq_some_iff.1 hf).1; omega
  have hpj := List.getElem?_eq_getElem hjl
  obtain ⟨hs1, hs2⟩ := prs_get ps j ps[j] hpj
  rcases ho.2 with ⟨e, _⟩ | ⟨g, cap', cur, e, _, hg, h1, hc, q3⟩
  · injection e with e; cases e
  · injection e with e1 _ e2
    injection e1 with e1
    injection e1 with e1 eo _
    subst e1; subst eo
    have hc0 := hx 0 (.string f.path) rfl
    have hc1 := hx 1 x rfl
    rw [cell_of_row _ _ _ _ _ _ hg] at hc0 hc1
    rw [← q3.2] at hs1 hs2
    have hlt1 := (List.getElem?_eq_some_iff.1 hs1).1
    have hlt2 := (List.getElem?_eq_some_iff.1 hs2).1
    rw [List.length_take] at hlt1 hlt2
    rw [List.getElem?_take_of_lt (by omega)] at hs1 hs2
    have e0 : cur.toList[j * 2]? = some (.string f.path) := by
      have := hc0
      rw [show (0 + j * 2 + 0 : Nat) = j * 2 by omega] at this
      simpa using this
    have e3 : cur.toList[j * 2 + 1]? = some x := by
      have := hc1
      rw [show (0 + j * 2 + 1 : Nat) = j * 2 + 1 by omega] at this
      simpa using this
    rw [hs1] at e0
    rw [hs2] at e3
    injection e0 with e0
    injection e0 with e0
    injection e3 with e3
    obtain ⟨m, hm⟩ := hp ps[j] (List.getElem_mem hjl)
    rw [e3] at hm
    have hmm : m = f.bytes.length := by
      obtain ⟨_, _, q1⟩ := hby.slc
      obtain ⟨_, _, q2⟩ := hm.slc
      rw [q1] at q2
      injection q2 with _ q2 _
      exact q2.symm
    subst hmm
    refine ⟨x, ?_, hby, hm⟩
    rw [hpj, ← e0, ← e3]
theorem own_range {w : World} {base g cap n : Nat} {qs : List (ByteArray × Value)} (h : w.ownsRow base 33 2 (.slice (some ⟨g, 0, none⟩) n cap) n (prs qs)) {j : Nat} {p : ByteArray × Value} (hj : qs[j]? = some p) : w.rangeAt g (0 + j * 2) [.string p.1, p.2] := fun i u hu => by
  obtain ⟨h1, h2⟩ := prs_get qs j p hj
  rcases h.2 with ⟨e, _⟩ | ⟨g', cap', cur, e, _, hg, hn, hc, q3⟩
  · cases e
  · injection e with e1 _ _
    injection e1 with e1
    injection e1 with e1
    subst e1
    rw [cell_of_row _ _ _ _ _ _ hg]
    rw [← q3.2] at h1 h2
    have hlt1 := (List.getElem?_eq_some_iff.1 h1).1
    have hlt2 := (List.getElem?_eq_some_iff.1 h2).1
    rw [List.length_take] at hlt1 hlt2
    rw [List.getElem?_take_of_lt (by omega)] at h1 h2
    match i, hu with
    | 0, hu => injection hu with hu; subst hu; rw [show (0 + j * 2 + 0 : Nat) = j * 2 by omega]; simpa using h1
    | 1, hu => injection hu with hu; subst hu; rw [show (0 + j * 2 + 1 : Nat) = j * 2 + 1 by omega]; simpa using h2
/-- Bytes of the call's own stay though a block of another kind turns. -/
theorem ByX.typed {X base : Nat} {w : World} {v : Value} {b : List UInt8} {C : Array Value} {t : TypeId} {fr : Nat × Nat} (h : ByAt w v b) (ho : OwnBy base w v b.length) (hX : w.heap[X]? = some (.cells C t fr)) (ht : t ≠ 5) : ByX X w v b := fun w' k => by
  obtain ⟨l, ho⟩ := ho
  obtain ⟨a, cap, hv, hm, hr⟩ := h
  subst hv
  refine ⟨⟨a, cap, rfl, hm, fun hne => ?_⟩, a, cap, rfl, ?_⟩
  · obtain ⟨g, o, rfl, hb, hra⟩ := hr hne
    have hg : g ≠ X := by
      rcases ho.2 with ⟨e, _⟩ | ⟨g', _, cur, e, _, q, _⟩
      · cases e
      · injection e with e _ _; injection e with e; injection e with e; subst e
        intro e; subst e
        rw [q] at hX
        injection hX with hX
        injection hX with _ hX _
        exact ht hX.symm
    exact ⟨g, o, rfl, Nat.lt_of_lt_of_le hb k.size, fun j v hj => (k.cell (p := ⟨g, o + j, none⟩) hb hg).trans (hra j v hj)⟩
  · rcases ho.2 with ⟨e, _⟩ | ⟨g, cap', cur, e, _, _, hn, _⟩
    · injection e with e1 e2 e3; omega
    · injection e with e1 e2 e3; omega
theorem zeros_one (n : Nat) : ∀ v ∈ (Builtin.zeroCells Zf n).toList, v.oneCell' = true := fun v hv => by
  unfold Builtin.zeroCells at hv
  simp only [Array.toList_map, List.mem_map] at hv
  obtain ⟨i, _, rfl⟩ := hv
  have hm : i % Zf.size = 0 ∨ i % Zf.size = 1 := by have : Zf.size = 2 := rfl; rw [this]; omega
  rcases hm with hm | hm <;> rw [hm] <;> rfl
theorem zeroF (w : World) : (zeroValue 33).run Tryd.prog w = .ok (.agg Zf) w := by kernel_rfl
/-- clear(s[i:]). -/
theorem run_clear_files {w : World} {base g cap n : Nat} {qs : List (ByteArray × Value)} (h : w.ownsRow base 33 2 (.slice (some ⟨g, 0, none⟩) n cap) n (prs qs)) {i c : Nat} (hi : i < n) (ty : TypeId) :
    (Builtin.clear_ #[28] ty #[.slice (some ⟨g, 0 + i * 2, none⟩) (n - i) c]).run Tryd.prog w = .ok (.tuple #[]) (w.setCells g (0 + i * 2) (Builtin.zeroCells Zf (n - i)).toList) := by
  have hcell : ∀ j, j < n * 2 → (w.cell? ⟨g, j, none⟩).isSome = true ∧ w.frozen? ⟨g, j, none⟩ = false := fun j hj => by
    obtain ⟨_, h2, h3, _⟩ := row_set h hj (.int .i64 0)
    exact ⟨h2, h3⟩
  have hlen : (Builtin.zeroCells Zf (n - i)).toList.length = (n - i) * 2 := by rw [Array.length_toList, size_zeroCells]; rfl
  have hst := run_storeCells_cells (P := Tryd.prog) g (0 + i * 2) (Builtin.zeroCells Zf (n - i)).toList 0 w (fun j hj => (hcell _ (by omega)).1) (fun j hj => (hcell _ (by omega)).2) (zeros_one _)
  simp only [Nat.add_zero] at hst
  obtain ⟨m, hm⟩ : ∃ m, n - i = m + 1 := ⟨n - i - 1, by omega⟩
  rw [hm] at hst ⊢
  simp only [Nat.zero_add] at hst ⊢
  simp only [Builtin.clear_]
  simp [run_underlying Tryd.underlying28, zeroF, Value.cells]
  rw [show (#[Value.string ⟨#[]⟩, Value.slice none 0 0] : Array Value) = Zf from rfl, hst]
  rfl
section
variable {P : Program} {o : Oper} {a : Act} {w w1 : World} {v p : Value}
theorem exec_clear (t : TypeId) (x : Operand) (ho : o.op = .call { callee := .builtin .clear, args := #[x], argTypes := #[t] }) (hx : a.eval x = p)
    (h : (Builtin.clear_ #[t] o.type #[p]).run P w = .ok v w1) : (execOp a.eval o).run P w = .ok (.value v) w1 := by
  unfold execOp
  simp only [ho, resolve, invoke, builtin, Sem.run_bind, Sem.run_pure, Result.andThen_ok]
  simp only [List.map_toArray, List.map_cons, List.map_nil, hx, h, Result.andThen_ok]
end
/-- What is kept of a row. -/
def keepPs (d t : ByteArray) (ps : List (ByteArray × Value)) : List (ByteArray × Value) := ps.filter fun p => !eqB (slashed d p.1) t
theorem keep_snoc (d t : ByteArray) {ps : List (ByteArray × Value)} {j : Nat} {p : ByteArray × Value} (h : ps[j]? = some p) : keepPs d t (ps.take (j + 1)) = keepPs d t (ps.take j) ++ (if eqB (slashed d p.1) t = true then [] else [p]) := by
  obtain ⟨hj, rfl⟩ := List.getElem?_eq_some_iff.1 h
  unfold keepPs
  rw [List.take_succ_eq_append_getElem hj, List.filter_append]
  congr 1
  cases hq : eqB (slashed d ps[j].1) t <;> simp [hq]
theorem keep_len (d t : ByteArray) (ps : List (ByteArray × Value)) (j : Nat) : (keepPs d t (ps.take j)).length ≤ j := by
  unfold keepPs
  refine Nat.le_trans (List.length_filter_le _ _) ?_
  rw [List.length_take]; omega
theorem keep_al (d t : ByteArray) {R : FileE → Value → Prop} : ∀ (l : List FileE) (ps : List (ByteArray × Value)), ps.length = l.length → (∀ (j : Nat) f, l[j]? = some f → ∃ x, ps[j]? = some (f.path, x) ∧ R f x) →
    (keepPs d t ps).length = (l.filter fun f => !delP d t f).length ∧ ∀ (j : Nat) f, (l.filter fun f => !delP d t f)[j]? = some f → ∃ x, (keepPs d t ps)[j]? = some (f.path, x) ∧ R f x
  | [], ps, hl, _ => by
    obtain rfl : ps = [] := List.eq_nil_of_length_eq_zero hl
    exact ⟨rfl, fun j f hf => by simp at hf⟩
  | f :: l, ps, hl, h => by
    obtain ⟨x, hx, hr⟩ := h 0 f rfl
    cases ps with
    | nil => cases hl
    | cons p ps =>
      have hp : p = (f.path, x) := by injection hx
      subst hp
      obtain ⟨i1, i2⟩ := keep_al d t (R := R) l ps (by simpa using hl) (fun j g hg => h (j + 1) g hg)
      have e1 : keepPs d t ((f.path, x) :: ps) = if delP d t f = true then keepPs d t ps else (f.path, x) :: keepPs d t ps := by
        unfold keepPs delP
        rw [List.filter_cons]
        cases eqB (slashed d f.path) t <;> rfl
      have e2 : (f :: l).filter (fun f => !delP d t f) = if delP d t f = true then l.filter (fun f => !delP d t f) else f :: l.filter (fun f => !delP d t f) := by
        rw [List.filter_cons]
        cases delP d t f <;> rfl
      rw [e1, e2]
      by_cases hd : delP d t f = true
      · rw [if_pos hd, if_pos hd]; exact ⟨i1, i2⟩
      · rw [if_neg hd, if_neg hd]
        refine ⟨by simp [i1], fun j g hg => ?_⟩
        cases j with
        | zero => injection hg with hg; subst hg; exact ⟨x, rfl, hr⟩
        | succ j => exact i2 j g hg
def DelSt (base g c n : Nat) (d t : ByteArray) (ps qs : List (ByteArray × Value)) (i j : Nat) (w : World) : Prop :=
  qs.length = n ∧ w.ownsRow base 33 2 (.slice (some ⟨g, 0, none⟩) n c) n (prs qs) ∧ qs.take i = keepPs d t (ps.take j) ∧ qs.drop j = ps.drop j
def DelOut (d t : ByteArray) (l : List FileE) (w : World) (e : Ending) : Prop := ∃ v', e = .returned v' ∧ TreeAt w v' (l.filter fun f => !delP d t f)
set_option maxRecDepth 100000 in
set_option maxHeartbeats 8000000 in
theorem delF_ct {w : World} {base : Nat} {v : Value} {l : List FileE} {ps : List (ByteArray × Value)} (h : TreeAt w v l) (hpl : ps.length = l.length) (ho : w.ownsRow base 33 2 v ps.length (prs ps))
    (hp : ∀ (j : Nat) f, l[j]? = some f → ∃ x, ps[j]? = some (f.path, x) ∧ ByAt w x f.bytes ∧ OwnBy base w x f.bytes.length) (hn : l.length ≤ 1000) (hsz : ∀ f ∈ l, f.path.size ≤ 100000) {B1 B2 : Nat} {d t : ByteArray} (h1 : BoxS w B1 d) (h2 : BoxS w B2 t) (hB1 : B1 < base) (hB2 : B2 < base) (hbw : base ≤ w.heap.size) :
    Calls Tryd.prog 45 #[v, FV B1 B2] w fun e w' => DelOut d t l w' e ∧ Kept (fun k => base ≤ k) w w' := by
  have ic := indexF_ct h hn hsz h1 h2
  obtain ⟨a, c, rfl⟩ := h.slc
  unfold FV at ic ⊢
  go_enter Tryd.func45, Tryd.ntmps45
  go_wp2_with fail
  refine ic.mono ?_
  rintro e W1 ⟨hi, k1⟩
  clear ic
  rcases hi with ⟨rfl, hall⟩ | ⟨k, rfl, hall, f0, hf0, hd0⟩
  · have hfl : l.filter (fun f => !delP d t f) = l := List.filter_eq_self.2 (fun f hf => by rw [hall f hf]; rfl)
    have hT := h.kept k1
    have HF := Lib.hid hfl
    clear hfl hall
    go_wp2_with fail
    go_ret
    exact ⟨⟨_, rfl, by rw [HF.out]; exact hT⟩, k1.mono (fun _ _ q => q.elim)⟩
  · have hkl := (List.getElem?_eq_some_iff.1 hf0).1
    have hkn : ¬ ((k : Int) = -1) := by omega
    obtain ⟨g, rfl⟩ : ∃ g, a = some ⟨g, 0, none⟩ := by
      rcases ho.2 with ⟨e, h0⟩ | ⟨g, _, _, e, _⟩
      · omega
      · injection e with e _ _; exact ⟨g, e⟩
    have hbg := World.ownsRow.lt ho g rfl
    have hgt : ∃ C, w.heap[g]? = some (.cells C 33 (0, 0)) := by
      rcases ho.2 with ⟨e, h0⟩ | ⟨g', _, cur, e, _, q, _⟩
      · omega
      · injection e with e _ _; injection e with e; injection e with e; subst e; exact ⟨cur, q⟩
    have hkp : keepPs d t (ps.take (k + 1)) = ps.take k := by
      obtain ⟨x0, hx0, _⟩ := hp k f0 hf0
      rw [keep_snoc d t hx0]
      have hd0' : eqB (slashed d f0.path) t = true := hd0
      simp only [hd0', if_true, List.append_nil]
      unfold keepPs
      rw [List.filter_eq_self]
      intro q hq
      obtain ⟨j, hj, rfl⟩ := List.getElem_of_mem hq
      rw [List.length_take] at hj
      obtain ⟨x, hx, _⟩ := hp j _ (List.getElem?_eq_getElem (by omega))
      have e1 : (ps.take k)[j] = (l[j].path, x) := by
        rw [List.getElem_take]
        rw [List.getElem?_eq_getElem (by omega)] at hx
        injection hx
      rw [e1]
      have := hall l[j] (by rw [List.mem_take_iff_getElem]; exact ⟨j, by omega, rfl⟩)
      unfold delP at this
      rw [this]; rfl
    have hST : DelSt base g c l.length d t ps ps k (k + 1) W1 := ⟨hpl, by have := row_kept ho k1; rw [hpl] at this; exact this, hkp.symm, rfl⟩
    have kb1 : Kept (fun k => k = g) w W1 := k1.mono (fun _ _ q => q.elim)
    have HP := Lib.hid hp
    have hcn : l.length ≤ c := by
      rcases ho.2 with ⟨e, _⟩ | ⟨g', cap', _, e, _, _, q, _⟩
      · cases e
      · injection e with _ _ e; rw [hpl] at q; omega
    clear hkp hall ho hp hd0 hf0
    go_wp2_with fail
    go_loopg [5, 6] (l.length - (k + 1)) (fun gk s5 s6 wr => ∃ (i j : Nat) (qs : List (ByteArray × Value)), gk = l.length - j ∧ i < j ∧ j ≤ l.length ∧ s5 = .int .i64 i ∧ s6 = .int .i64 j ∧ DelSt base g c l.length d t ps qs i j wr ∧ Kept (fun k => k = g) w wr)
    case atStart => exact ⟨k, k + 1, ps, by omega, by omega, by omega, rfl, by go_num, hST, kb1⟩
    case round =>
      obtain ⟨i, j, qs, rfl, hij, hj, rfl, rfl, HS, hkr⟩ := hrel
      clear hST
      by_cases hlt : j < l.length
      · have hf : l[j]? = some l[j] := List.getElem?_eq_getElem hlt
        have hfs := hsz l[j] (List.getElem_mem hlt)
        generalize l[j] = f at hf hfs
        obtain ⟨x, hx, hby, hoy⟩ := HP.out j f hf
        have HS0 := HS
        obtain ⟨q1, q2, q3, q4⟩ := HS0
        have hqj : qs[j]? = some (f.path, x) := by
          have : (qs.drop j)[0]? = (ps.drop j)[0]? := by rw [q4]
          rw [List.getElem?_drop, List.getElem?_drop] at this
          rw [show j + 0 = j by omega] at this
          rw [this]; exact hx
        obtain ⟨xa, xc, hxv⟩ := hby.slc
        subst hxv
        have ra := own_range q2 hqj
        rw [Nat.zero_add] at ra
        have ld := load_file ra
        have st := store_file (w := wr) (p := f.path) (a := xa) (n := f.bytes.length) (c := xc)
        have k4 : Kept (fun _ => False) wr (wr.alloc (.cells #[.string f.path, .slice xa f.bytes.length xc] 33)) := (Kept.refl _ wr).alloc _
        have hbx := heap_last wr (.cells #[.string f.path, .slice xa f.bytes.length xc] 33)
        have HX := Lib.hid hx
        have hlt' : (j : Int) < (l.length : Int) := by omega
        clear hf hx hby hoy q1 q2 q3 q4 hqj ra
        go_upto_region 8 with (first
          | (with_reducible refine wpl_load 33 _ rfl rfl ?_ ld ?_
             · rfl
             simp only [Act.put, List.getElem_toArray, List.getElem_cons_zero, List.getElem_cons_succ, List.setIfInBounds_toArray, List.set_cons_zero, List.set_cons_succ])
          | (with_reducible refine wpl_alloc 33 rfl rfl (zeroFile _) ?_
             simp only [World.size_alloc, Act.put, List.getElem_toArray, List.getElem_cons_zero, List.getElem_cons_succ, List.setIfInBounds_toArray, List.set_cons_zero, List.set_cons_succ])
          | (with_reducible refine wpl_store 33 _ _ rfl rfl ?_ ?_ st ?_
             · rfl
             · rfl
             simp only [Act.put, List.getElem_toArray, List.getElem_cons_zero, List.getElem_cons_succ, List.setIfInBounds_toArray, List.set_cons_zero, List.set_cons_succ]))
        generalize wr.alloc (.cells #[.string f.path, .slice xa f.bytes.length xc] 33) = W4 at k4 hbx st ⊢
        generalize wr.heap.size = G at hbx ⊢
        have hGl := (Array.getElem?_eq_some_iff.1 hbx).1
        have kr4 : Kept (fun k => k = g) w W4 := hkr.trans (k4.mono (fun _ _ q => q.elim))
        have ld4 := load_row (P := Tryd.prog) (ty := 33) Tryd.underlying33 rfl hbx (by kernel_rfl)
        have pc := pack1_ct (h1.kept kr4 (by omega)) (h2.kept kr4 (by omega)) (x := .slice xa f.bytes.length xc) hfs
        clear st ld
        have HK : Hid (keepPs d t (ps.take (j + 1)) = keepPs d t (ps.take j) ++ (if eqB (slashed d f.path) t = true then [] else [(f.path, .slice xa f.bytes.length xc)])) := keep_snoc d t HX.out
        generalize eqB (slashed d f.path) t = q at pc HK
        go_wp2_with (first
          | (with_reducible refine wpl_load 33 _ rfl rfl ?_ ld4 ?_
             · rfl
             simp only [Act.put, List.getElem_toArray, List.getElem_cons_zero, List.getElem_cons_succ, List.setIfInBounds_toArray, List.set_cons_zero, List.set_cons_succ]))
        refine pc.mono ?_
        rintro e W5 ⟨rfl, k5⟩
        clear pc ld4
        have kr5 : Kept (fun k => k = g) w W5 := kr4.trans (k5.mono (fun _ _ q => q.elim))
        have hdr : qs.drop (j + 1) = ps.drop (j + 1) := by
          have : (qs.drop j).drop 1 = (ps.drop j).drop 1 := by rw [HS.2.2.2]
          rw [List.drop_drop, List.drop_drop] at this
          exact this
        have hrow5 := row_kept (row_kept HS.2.1 k4) k5
        cases q with
        | true =>
          have HN : DelSt base g c l.length d t ps qs i (j + 1) W5 := ⟨HS.1, hrow5, by rw [HS.2.2.1, HK.out]; simp, hdr⟩
          clear HK HS hrow5 hdr hbx
          go_wp2_with fail
          go_roundg (l.length - (j + 1))
          case rel => exact ⟨i, j + 1, qs, rfl, by omega, by omega, rfl, by go_num, HN, kr5⟩
          case measure => omega
        | false =>
          have hq := HS.1
          have hro : W5.ownsRow base 33 2 (.slice (some ⟨g, 0, none⟩) qs.length c) qs.length (prs qs) := by rw [hq]; exact hrow5
          obtain ⟨W6, st6, ho6, k6⟩ := store_file2 hro (i := i) (by omega) f.path (x := .slice xa f.bytes.length xc) rfl
          have hbx5 := (k5.block G hGl not_false).trans hbx
          have ld5 := load_row (P := Tryd.prog) (ty := 33) Tryd.underlying33 rfl hbx5 (by kernel_rfl)
          have kr6 : Kept (fun k => k = g) w W6 := kr5.trans k6
          have HN : DelSt base g c l.length d t ps (qs.set i (f.path, .slice xa f.bytes.length xc)) (i + 1) (j + 1) W6 := by
            refine ⟨by rw [List.length_set]; exact hq, by rw [hq] at ho6; exact ho6, ?_, ?_⟩
            · rw [HK.out, if_neg (by simp), ← HS.2.2.1, List.take_succ_eq_append_getElem (by rw [List.length_set]; omega), List.getElem_set_self, List.take_set_of_le (by omega)]
            · rw [List.drop_set_of_lt (by omega)]; exact hdr
          have hil : (i : Int) < (l.length : Int) := by omega
          clear HK HS hrow5 hdr hbx hro ho6 hq hbx5
          go_wp2_with (first
            | (with_reducible refine wpl_load 33 _ rfl rfl ?_ ld5 ?_
               · rfl
               simp only [Act.put, List.getElem_toArray, List.getElem_cons_zero, List.getElem_cons_succ, List.setIfInBounds_toArray, List.set_cons_zero, List.set_cons_succ])
            | (with_reducible refine wpl_store 33 _ _ rfl rfl ?_ ?_ st6 ?_
               · rfl
               · rfl
               simp only [Act.put, List.getElem_toArray, List.getElem_cons_zero, List.getElem_cons_succ, List.setIfInBounds_toArray, List.set_cons_zero, List.set_cons_succ]))
          go_roundg (l.length - (j + 1))
          case rel => exact ⟨i + 1, j + 1, _, rfl, by omega, by omega, by go_num, by go_num, HN, kr6⟩
          case measure => omega
      · obtain rfl : j = l.length := by omega
        have HS0 := HS
        obtain ⟨q1, q2, q3, q4⟩ := HS0
        rw [← hpl, List.take_length] at q3
        have hkl2 := keep_al d t (R := fun f x => ByAt w x f.bytes ∧ OwnBy base w x f.bytes.length) l ps hpl HP.out
        have hi : i = (l.filter fun f => !delP d t f).length := by
          rw [← hkl2.1, ← q3, List.length_take]; omega
        have cl := fun ty => run_clear_files q2 hij (c := c - i) ty
        have sl := fun w' => slLo (g := g) (n := l.length) (c := c) (k := i) (q := 0) (z := (i : Int)) rfl (by omega) (by omega) w'
        have sh := fun w' => slHi (g := g) (n := l.length) (c := c) (k := i) (z := (i : Int)) rfl (by omega) (by omega) w'
        have HT : Hid (TreeAt (wr.setCells g (0 + i * 2) (Builtin.zeroCells Zf (l.length - i)).toList) (.slice (some ⟨g, 0, none⟩) i c) (l.filter fun f => !delP d t f) ∧ Kept (fun k => k = g) w (wr.setCells g (0 + i * 2) (Builtin.zeroCells Zf (l.length - i)).toList)) := by
          have hk2 : Kept (fun k => k = g) w (wr.setCells g (0 + i * 2) (Builtin.zeroCells Zf (l.length - i)).toList) := hkr.setCells (b := g) (fun _ => rfl) _ _
          refine ⟨⟨_, c, by rw [hi], by rw [← hi]; simp only [maxLen]; omega, fun _ => ⟨g, 0, rfl, Nat.lt_of_lt_of_le hbg.2 hk2.size, fun j f hf => ?_⟩⟩, hk2⟩
          obtain ⟨x, hx, hby, hoy⟩ := hkl2.2 j f hf
          have hfm := List.mem_of_getElem? hf
          have hji : j < i := by rw [hi]; exact (List.getElem?_eq_some_iff.1 hf).1
          have hqj : qs[j]? = some (f.path, x) := by
            rw [← q3, List.getElem?_take_of_lt hji] at hx
            exact hx
          refine ⟨by have := hsz f (List.mem_filter.1 hfm).1; simp only [maxLen]; omega, x, fun u v hv => ?_, ?_⟩
          · have hu : u < 2 := (List.getElem?_eq_some_iff.1 hv).1
            rw [World.cell?_setCells_out g _ _ _ _ (fun _ _ => .inl (by show 0 + j * 2 + u < 0 + i * 2; omega))]
            exact own_range q2 hqj u v hv
          · exact (ByX.typed hby hoy hgt.choose_spec (by decide) _ hk2).1
        clear q1 q2 q3 q4 HS hkl2 hi
        generalize wr.setCells g (0 + i * 2) (Builtin.zeroCells Zf (l.length - i)).toList = W9 at cl HT
        generalize 0 + i * 2 = z at cl sl
        go_wp2_with (first
          | (refine wpl_val rfl (exec_slice_l2 28 _ _ rfl rfl rfl (sl _)) ?_)
          | (refine wpl_val rfl (exec_clear 28 _ rfl rfl (cl _)) ?_)
          | (refine wpl_val rfl (exec_slice_h 28 _ _ rfl rfl rfl (sh _)) ?_))
        go_ret
        exact ⟨⟨_, rfl, HT.out.1⟩, HT.out.2.mono (fun k _ e => by omega)⟩
end Go.Proofs.YthachckofghppaaDoor
