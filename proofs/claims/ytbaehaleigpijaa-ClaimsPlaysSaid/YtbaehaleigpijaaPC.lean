/- The document's book: Drop as a function of the state; one entry of a row is written over; one Other more. -/
import Derived.Test.YtbaehaleigpijaaPB
namespace Go.Proofs.Ytbaehaleigpijaa
open Go.RowKit
set_option linter.unusedSimpArgs false
set_option linter.unusedVariables false
variable {b0 : Nat}

theorem rdrop_ct {w : World} {R : Nat} {s : St} {N : Nat} (h : RefS b0 w R s N) (hN : N ≤ 100000) {D : Array Value} (hD : IsDig D) :
    Calls Try.prog 14 #[.pointer (some ⟨R, 0, none⟩), .agg D] w fun e w' => ∃ v, e = .returned v ∧ Sent w w' v (dropF s D).1 ∧ Kept (RefBlk b0 w) w w' ∧ RefS b0 w' R (dropF s D).2 N := by
  have hh := h
  obtain ⟨owns, oths, vo, vt, h1, h2, h3, h4⟩ := h
  unfold dropF
  cases ho : s.O (.agg D) with
  | none =>
    refine (rdrop_none h1 h2 hD ho).mono fun e w' ⟨he, hk⟩ => ?_
    exact ⟨_, he, rfl, hk.upto, hh.kept hk (fun _ _ => not_false)⟩
  | some o =>
    obtain ⟨k, b⟩ := o
    refine (rdrop_some h1 h2 hD ho (by omega)).mono fun e w' ⟨v, vo', owns', he, hs, hk, hR, hS, hl⟩ => ?_
    exact ⟨v, he, hs, hk.mono (fun k _ q => by rw [q]; exact h1.refR), owns', oths, vo', vt, hR, hS, by omega, h4⟩

theorem flat_set {α : Type} {f : α → List Value} {l : List α} {j : Nat} {e : α} (hj : l[j]? = some e) (e' : α) : (l.set j e').flatMap f = (l.take j).flatMap f ++ (f e' ++ (l.drop (j + 1)).flatMap f) := by
  rw [List.set_eq_take_append_cons_drop, if_pos (List.getElem?_eq_some_iff.1 hj).1, List.flatMap_append, List.flatMap_cons]
/-- A part of the j-th entry of a row is written over. -/
theorem row_store {α : Type} {f : α → List Value} {w : World} {t : TypeId} {v : Value} {l : List α} (h : w.ownsRow b0 t 37 v l.length (l.flatMap f)) (hz : ∀ e ∈ l, (f e).length = 37) {j : Nat} {e : α} (hj : l[j]? = some e) {e' : α}
    {p x y q : List Value} (he : f e = p ++ (x ++ q)) (he' : f e' = p ++ (y ++ q)) (hxy : x.length = y.length) :
    ∃ g cap, v = .slice (some ⟨g, 0, none⟩) l.length cap ∧ g < w.heap.size ∧ w.there g (j * 37 + p.length) y.length ∧ (w.setCells g (j * 37 + p.length) y).ownsRow b0 t 37 v (l.set j e').length ((l.set j e').flatMap f) := by
  have hjl := (List.getElem?_eq_some_iff.1 hj).1
  rcases h.2 with ⟨_, h0⟩ | ⟨g, cap, cur, rfl, hb, hg, hn, hc, hs, ht⟩
  · omega
  have hall : l.flatMap f = (l.take j).flatMap f ++ (f e ++ (l.drop (j + 1)).flatMap f) := by
    have : l.set j e = l := by have e1 := (List.getElem?_eq_some_iff.1 hj).2; rw [← e1]; exact List.set_getElem_self _
    rw [← flat_set hj e, this]
  have lenA : ((l.take j).flatMap f).length = j * 37 := by
    rw [flat_len (fun e he => hz e (List.mem_of_mem_take he)), List.length_take]; congr 1; omega
  have lenB : ((l.drop (j + 1)).flatMap f).length = (l.length - (j + 1)) * 37 := by
    rw [flat_len (fun e he => hz e (List.mem_of_mem_drop he)), List.length_drop]
  have len37 : p.length + (x.length + q.length) = 37 := by
    have := hz e (List.mem_of_getElem? hj)
    rw [he] at this
    simpa using this
  have hcur : cur.toList = ((l.take j).flatMap f ++ p) ++ x ++ (q ++ (l.drop (j + 1)).flatMap f ++ cur.toList.drop (l.length * 37)) := by
    conv => lhs; rw [← List.take_append_drop (l.length * 37) cur.toList]
    rw [ht, hall, he]
    simp only [List.append_assoc]
  have hcur' : cur = (((l.take j).flatMap f ++ p) ++ x ++ (q ++ (l.drop (j + 1)).flatMap f ++ cur.toList.drop (l.length * 37))).toArray := by
    apply Array.ext'; simpa using hcur
  have hA : ((l.take j).flatMap f ++ p).length = j * 37 + p.length := by rw [List.length_append, lenA]
  have hset := heap_setCells y ((l.take j).flatMap f ++ p) x (q ++ (l.drop (j + 1)).flatMap f ++ cur.toList.drop (l.length * 37)) w hxy (by rw [hg]; congr 2)
  rw [hA] at hset
  have hsz : cur.size = (((l.take j).flatMap f ++ p) ++ x ++ (q ++ (l.drop (j + 1)).flatMap f ++ cur.toList.drop (l.length * 37))).length := by
    conv => lhs; rw [hcur']
    simp
  have hsz2 : (((l.take j).flatMap f ++ p) ++ x ++ (q ++ (l.drop (j + 1)).flatMap f ++ cur.toList.drop (l.length * 37))).length = (((l.take j).flatMap f ++ p) ++ y ++ (q ++ (l.drop (j + 1)).flatMap f ++ cur.toList.drop (l.length * 37))).length := by
    simp only [List.length_append, hxy]
  have hset2 : (l.set j e').flatMap f = ((l.take j).flatMap f ++ p) ++ y ++ (q ++ (l.drop (j + 1)).flatMap f) := by
    rw [flat_set hj, he']; simp only [List.append_assoc]
  have len2 : ((l.set j e').flatMap f).length = (l.set j e').length * 37 := by
    have e1 : l.length * 37 = (l.take j).length * 37 + 37 + (l.length - (j + 1)) * 37 := by
      rw [List.length_take, Nat.min_eq_left (by omega), ← Nat.succ_mul, ← Nat.add_mul]; congr 1; omega
    rw [hset2, List.length_set, e1]
    simp only [List.length_append, lenA, lenB, List.length_take, Nat.min_eq_left (Nat.le_of_lt hjl)]
    omega
  refine ⟨g, cap, rfl, (Array.getElem?_eq_some_iff.1 hg).1, fun k hk => ⟨?_, by simp [World.frozen?, hg]⟩, len2, .inr ⟨g, cap, _, by rw [List.length_set], hb, hset, by rw [List.length_set]; exact hn, hc, ?_, ?_⟩⟩
  · have hb2 : j * 37 + p.length + k < cur.size := by
      rw [hsz]
      simp only [List.length_append, lenA]
      omega
    rw [cell_of_row _ _ _ _ _ _ hg, Array.getElem?_eq_getElem hb2]; rfl
  · rw [List.size_toArray, ← hsz2, ← hsz]; exact hs
  · rw [← len2, hset2]
    show List.take _ (((l.take j).flatMap f ++ p) ++ y ++ (q ++ (l.drop (j + 1)).flatMap f ++ cur.toList.drop (l.length * 37))) = _
    have e1 : (((l.take j).flatMap f ++ p) ++ y ++ (q ++ (l.drop (j + 1)).flatMap f ++ cur.toList.drop (l.length * 37))) = (((l.take j).flatMap f ++ p) ++ y ++ (q ++ (l.drop (j + 1)).flatMap f)) ++ cur.toList.drop (l.length * 37) := by simp only [List.append_assoc]
    rw [e1]
    exact List.take_left' rfl

theorem append_oth1 {w : World} {v : Value} {n : Nat} {xs : List Value} (h : w.ownsRow b0 74 37 v n xs) (hn : n ≤ 1000000) {r : Nat} {c : Array Value} {t : TypeId} (hr : w.heap[r]? = some (.cells c t (0, 0))) (hc : c.size = 37) (h1 : c.all (·.oneCell') = true) (hb0 : b0 ≤ w.heap.size) (ty : TypeId) :
    ∃ v' w', (Builtin.append_ #[48, 48] ty #[v, .slice (some ⟨r, 0, none⟩) 1 1]).run Try.prog w = .ok v' w' ∧ w'.ownsRow b0 74 37 v' (n + 1) (xs ++ c.toList) ∧ w.grownBy w' v.ownBlock ∧
      (v'.ownBlock = v.ownBlock ∨ v'.ownBlock = some w.heap.size) := by
  obtain ⟨i, hi⟩ : ∃ i, Try.prog.info? 74 = some i := ⟨_, rfl⟩
  obtain ⟨z, hz⟩ : ∃ z, i.zero = some z := by injection hi with hi; subst hi; exact ⟨_, rfl⟩
  have hs : i.size = 37 := by injection hi with hi; subst hi; rfl
  have hzs : z.cells.size = 37 := by injection hi with hi; subst hi; injection hz with hz; subst hz; rfl
  have hby : i.bytes ≤ 1000 := by injection hi with hi; subst hi; decide
  obtain ⟨v', w', a1, a2, a3, _, a5⟩ := run_append_own_at (P := Try.prog) w b0 48 ty 74 i z 37 i.bytes Try.underlying48 hi hz hs rfl hzs (by omega) v n xs h ⟨r, 0, none⟩ 1 1 c.toList (by simp [hc])
    (fun j u hu => by rw [Addr.add_mid, Nat.zero_add, cell_of_row _ _ _ _ _ _ hr]; simpa using hu) (fun u hu => by rw [Array.all_eq_true_iff_forall_mem] at h1; exact h1 u (by simpa using hu)) (by simp only [maxLen]; omega)
    (by have : (n + 1) * i.bytes ≤ 1000001 * 1000 := Nat.mul_le_mul (by omega) hby; omega) hb0
  exact ⟨v', w', a1, a2, a3, a5⟩
def ZD32 : Array Value := ((List.replicate 32 (0 : Int)).map (Value.int .u8)).toArray
theorem ZD32_dig : IsDig ZD32 := ⟨List.replicate 32 0, by simp, fun x hx => by rw [List.eq_of_mem_replicate hx]; omega, rfl⟩
/-- The entry that is put on before a claim is laid in it. -/
def zOth : OthE := ⟨ZD32, 0, 0, 0, false, -1⟩
theorem zOth_cells : zOth.cells = (Z36 ++ #[Value.int .i64 (-1)]).toList := by rfl
theorem build_zoth (w : World) : (Instr.build 74 #[(1, .int .i64 (-1))]).run Try.prog w = .ok (.agg (Z36 ++ #[.int .i64 (-1)])) w := by kernel_rfl
theorem bslice_zoth (w : World) : (Instr.buildSlice 48 1 #[(0, .agg (Z36 ++ #[.int .i64 (-1)]))]).run Try.prog w = .ok (.slice (some ⟨w.heap.size, 0, none⟩) 1 1) (w.alloc (.cells (Z36 ++ #[.int .i64 (-1)]) 74)) := by kernel_rfl
theorem store_slice_t {w : World} {R j n c : Nat} {a : Option Addr} {v0 : Value} (hc : w.cell? ⟨R, j, none⟩ = some v0) (hf : w.frozen? ⟨R, j, none⟩ = false) :
    (Instr.storeAt 48 (.pointer (some ⟨R, j, none⟩)) (.slice a n c)).run Try.prog w = .ok () (w.setCell ⟨R, j, none⟩ (.slice a n c)) := by
  go_simp
theorem load_slice_t {w : World} {R j n c : Nat} {a : Option Addr} (hc : w.cell? ⟨R, j, none⟩ = some (.slice a n c)) :
    (Instr.loadAt 48 (.pointer (some ⟨R, j, none⟩))).run Try.prog w = .ok (.slice a n c) w := by
  go_simp

theorem RbS.blocks {w : World} {R : Nat} {s : St} {owns : List OwnE} {oths : List OthE} {vo vt : Value} (h : RbS b0 w R s owns oths vo vt) :
    vo.ownBlock ≠ some R ∧ vt.ownBlock ≠ some R ∧ ∀ k, vt.ownBlock = some k → vo.ownBlock ≠ some k := by
  refine ⟨fun e => ?_, fun e => ?_, fun k e e' => ?_⟩
  · rcases h.own.2 with ⟨rfl, _⟩ | ⟨g, cap, cur, rfl, _, hg, _⟩
    · cases e
    · have e : some g = some R := e
      injection e with e; subst e
      rw [h.blk] at hg; injection hg with hg; injection hg with _ hg; exact absurd hg (by decide)
  · rcases h.oth.2 with ⟨rfl, _⟩ | ⟨g, cap, cur, rfl, _, hg, _⟩
    · cases e
    · have e : some g = some R := e
      injection e with e; subst e
      rw [h.blk] at hg; injection hg with hg; injection hg with _ hg; exact absurd hg (by decide)
  · rcases h.oth.2 with ⟨rfl, _⟩ | ⟨g, c1, cur, rfl, _, hg, _⟩
    · cases e
    · rcases h.own.2 with ⟨rfl, _⟩ | ⟨g', c2, cur', rfl, _, hg', _⟩
      · cases e'
      · have e : some g = some k := e
        have e' : some g' = some k := e'
        injection e with e; injection e' with e'; subst e; subst e'
        rw [hg] at hg'; injection hg' with hg'; injection hg' with _ hg'; exact absurd hg' (by decide)
/-- The j-th entry of the others' row is turned: its claim. -/
theorem RbS.setLast {w : World} {R : Nat} {s : St} {owns : List OwnE} {oths : List OthE} {vo vt : Value} (h : RbS b0 w R s owns oths vo vt) {j : Nat} {x : OthE} (hj : oths[j]? = some x) {D : Array Value} (hD : IsDig D) (n i c : Int) (g : Bool) :
    ∃ b cap w', vt = .slice (some ⟨b, 0, none⟩) oths.length cap ∧ b < w.heap.size ∧ (Instr.storeAt 33 (.pointer (some ⟨b, j * 37, none⟩)) (.agg (clm D n i c g))).run Try.prog w = .ok () w' ∧ Kept (fun k => vt.ownBlock = some k) w w' ∧
      RbS b0 w' R s owns (oths.set j ⟨D, n, i, c, g, x.u⟩) vo vt := by
  obtain ⟨b1, b2, b3⟩ := h.blocks
  obtain ⟨b, cap, hv, hb, hth, hrow⟩ := row_store h.oth (fun e he => OthE.len (h.digT e he)) hj (e' := ⟨D, n, i, c, g, x.u⟩) (p := []) (x := (clm x.D x.n x.i x.c x.g).toList) (y := (clm D n i c g).toList) (q := [.int .i64 x.u])
    (by simp [OthE.cells]) (by simp [OthE.cells]) (by simp [hD.size, (h.digT x (List.mem_of_getElem? hj)).size])
  have hk : Kept (fun k => vt.ownBlock = some k) w (w.setCells b (j * 37) (clm D n i c g).toList) := (Kept.refl _ w).setCells (fun _ => by rw [hv]; rfl) _ _
  have hth : w.there b (j * 37) (clm D n i c g).size := by rw [← Array.length_toList]; exact hth
  refine ⟨b, cap, _, hv, hb, run_storeAt_mid w b (j * 37) 33 (clm D n i c g) hth (by rw [clm_size hD]; kernel_rfl) (clm_oneCell hD _ _ _ _), hk, ?_⟩
  exact
    { blk := by rw [hk.block R h.lt (fun e => b2 e)]; exact h.blk
      own := row_kept h.own hk (fun k e q => b3 k q e)
      oth := hrow
      digO := h.digO
      far := h.far
      digT := fun e he => by
        rcases List.mem_or_eq_of_mem_set he with he | rfl
        · exact h.digT e he
        · exact hD }
theorem RbS.setUntil {w : World} {R : Nat} {s : St} {owns : List OwnE} {oths : List OthE} {vo vt : Value} (h : RbS b0 w R s owns oths vo vt) {j : Nat} {x : OthE} (hj : oths[j]? = some x) (u : Int) :
    ∃ b cap, vt = .slice (some ⟨b, 0, none⟩) oths.length cap ∧ b < w.heap.size ∧ (w.cell? ⟨b, j * 37 + 36, none⟩).isSome = true ∧ w.frozen? ⟨b, j * 37 + 36, none⟩ = false ∧ Kept (fun k => vt.ownBlock = some k) w (w.setCell ⟨b, j * 37 + 36, none⟩ (.int .i64 u)) ∧
      RbS b0 (w.setCell ⟨b, j * 37 + 36, none⟩ (.int .i64 u)) R s owns (oths.set j { x with u := u }) vo vt := by
  obtain ⟨b1, b2, b3⟩ := h.blocks
  have hxD := h.digT x (List.mem_of_getElem? hj)
  obtain ⟨b, cap, hv, hb, hth, hrow⟩ := row_store h.oth (fun e he => OthE.len (h.digT e he)) hj (e' := { x with u := u }) (p := (clm x.D x.n x.i x.c x.g).toList) (x := [.int .i64 x.u]) (y := [.int .i64 u]) (q := [])
    (by simp [OthE.cells]) (by simp [OthE.cells]) rfl
  rw [Array.length_toList, clm_size hxD] at hth hrow
  have hk : Kept (fun k => vt.ownBlock = some k) w (w.setCell ⟨b, j * 37 + 36, none⟩ (.int .i64 u)) := (Kept.refl _ w).setCell (p := ⟨b, j * 37 + 36, none⟩) (fun _ => by rw [hv]; rfl) _
  have h0 := hth 0 Nat.one_pos
  refine ⟨b, cap, hv, hb, h0.1, h0.2, hk, ?_⟩
  exact
    { blk := by rw [hk.block R h.lt (fun e => b2 e)]; exact h.blk
      own := row_kept h.own hk (fun k e q => b3 k q e)
      oth := hrow
      digO := h.digO
      far := h.far
      digT := fun e he => by
        rcases List.mem_or_eq_of_mem_set he with he | rfl
        · exact h.digT e he
        · exact hxD }
end Go.Proofs.Ytbaehaleigpijaa
