/- bytes.Join of lines; vm.sorted. -/
import Derived.Test.YthachckofghppaaDoorYI
namespace Go.Proofs.YthachckofghppaaDoor
open Go.RowKit
set_option maxRecDepth 100000
set_option linter.unusedSimpArgs false
set_option linter.unusedVariables false

theorem wpl_append {P : Program} {ops : Array Oper} {rest : List Oper} {o : Oper} {a : Act} {w w1 : World} {Q : Exit → Act → World → Prop} {v p q : Value} (t : TypeId) (x y : Operand) (hgd : o.guard = none) (ho : o.op = .call { callee := .builtin .append, args := #[x, y], argTypes := #[t, t] }) (hx : a.eval x = p) (hy : a.eval y = q)
    (hf : (Builtin.append_ #[t, t] o.type #[p, q]).run P w = .ok v w1) (h : wpList P ops Q rest (a.put o.dst v) w1) : wpList P ops Q (o :: rest) a w :=
  wpl_val hgd (exec_append t x y ho hx hy hf) h
theorem join_len (ls : List (List UInt8)) (h : ls ≠ []) : (Lib.join ls [10]).length + 1 = Lib.lens ls + ls.length := by
  match ls, h with
  | x :: r, _ =>
    rw [Lib.join_cons, List.length_append, Lib.joinTail_length, Lib.lens_cons]
    simp
    omega
def FreshV (B : Nat) (w : World) (v : Value) (l : List UInt8) : Prop := (v = .slice none 0 0 ∧ l = []) ∨ Lib.FreshBytes B w v l
theorem FreshV.by {B : Nat} {w : World} {v : Value} {l : List UInt8} (h : FreshV B w v l) : ByB B w v l := by
  rcases h with ⟨rfl, rfl⟩ | h
  · exact ByB.nil _ _ _
  · exact fresh_by h
theorem FreshV.kept {B : Nat} {w w' : World} {v : Value} {l : List UInt8} (h : FreshV B w v l) (k : Kept (fun _ => False) w w') : FreshV B w' v l := by
  rcases h with h | ⟨g, cap, zs, rfl, hB, hl, hm, hz, h256, hb, hc, hf⟩
  · exact .inl h
  · refine .inr ⟨g, cap, zs, rfl, hB, hl, hm, hz, h256, hb, fun i hi => ?_, fun i hi => ?_⟩
    · have hg := World.block_lt_of_cell? w ⟨g, i, none⟩ (hc i hi)
      exact (k.cell (p := ⟨g, i, none⟩) hg not_false).trans (hc i hi)
    · have hg := World.block_lt_of_cell? w ⟨g, i, none⟩ (hc i hi)
      have := hf i hi
      unfold World.frozen? at this ⊢
      rw [k.block g hg not_false]
      exact this
theorem join_ct {w : World} {blk : Nat} {vs : List Value} {ls : List (List UInt8)} (hg : w.heap[blk]? = some (.cells vs.toArray 22 (0, 0))) (hv : vs.length = ls.length)
    (hp : ∀ (j : Nat) l, ls[j]? = some l → ∃ x, vs[j]? = some x ∧ ByC w x l) (h1 : 1 ≤ ls.length) (hn : ls.length ≤ 1000000) (hlen : Lib.lens ls ≤ 1000000) {g d : Nat} (hs : ByC w (.slice (some ⟨g, 0, none⟩) 1 d) [10]) :
    Calls Tryd.prog 44 #[.slice (some ⟨blk, 0, none⟩) ls.length ls.length, .slice (some ⟨g, 0, none⟩) 1 d] w fun e w' => ∃ v', e = .returned v' ∧ FreshV w.heap.size w' v' (Lib.join ls [10]) ∧ Kept (fun _ => False) w w' := by
  by_cases h2 : 2 ≤ ls.length
  · have hP : Lib.PartsAt w ⟨blk, 0, none⟩ vs ls := ⟨hv, fun i v hi => by
      rw [Addr.add_mid, cell_of_row _ _ _ _ _ _ hg, Nat.zero_add, List.getElem?_toArray]; exact hi, fun i v l hi hl => by
      obtain ⟨x, q1, q2⟩ := hp i l hl
      rw [hi] at q1
      injection q1 with q1
      rw [q1]; exact holds_of q2⟩
    refine (Any.bytes_Join_many laysJoin blk 0 ls.length ls.length vs ls (.slice (some ⟨g, 0, none⟩) 1 d) [10] w rfl h2 hP (Nat.le_refl _) (holds_of hs) (by omega) (by simp; omega)).mono fun e w' ⟨v', e1, e2, e3⟩ => ⟨v', e1, .inr e2, Kept.of_below e3 (Nat.le_refl _) _⟩
  · have hl1 : ls.length = 1 := by omega
    obtain ⟨l, hls⟩ : ∃ l, ls = [l] := by
      match ls, hl1 with
      | [l], _ => exact ⟨l, rfl⟩
    subst hls
    obtain ⟨x, q1, q2⟩ := hp 0 l rfl
    have hcell : w.cell? ⟨blk, 0, none⟩ = some x := by rw [cell_of_row _ _ _ _ _ _ hg, List.getElem?_toArray]; exact q1
    obtain ⟨a, c, hx, _⟩ := q2.slc
    subst hx
    rw [Lib.join_one]
    by_cases h0 : l.length = 0
    · have : l = [] := List.eq_nil_of_length_eq_zero h0
      subst this
      exact (Any.bytes_Join_one_empty laysJoin blk 0 1 a c (.slice (some ⟨g, 0, none⟩) 1 d) w hcell).mono fun e w' ⟨e1, e2⟩ => ⟨_, e1, .inl ⟨rfl, rfl⟩, by rw [e2]; exact Kept.refl _ _⟩
    · obtain ⟨b, o, rfl, hb, hr⟩ := q2.1.cells (fun e => h0 (by rw [e]; rfl))
      have hl2 : l.length ≤ 1000000 := by rw [Lib.lens_cons] at hlen; omega
      exact (Any.bytes_Join_one laysJoin blk 0 1 ⟨b, o, none⟩ c l (.slice (some ⟨g, 0, none⟩) 1 d) w hcell (fun i x hi => by rw [Addr.add_mid]; exact hr i _ (by simp [bv, hi])) (by omega) (by omega)).mono fun e w' ⟨v', e1, e2, e3⟩ => ⟨v', e1, .inr e2, Kept.of_below e3 (Nat.le_refl _) _⟩
theorem ByC.low {w w' : World} {A : Nat} {v : Value} {l : List UInt8} (h : ByC w v l) (k : Kept (fun _ => False) w w') (hA : w.heap.size ≤ A) : ByX A w' v l := fun w'' q =>
  h.kept ((k.mono (T := fun k => k = A) (fun _ _ q => q.elim)).trans q |>.mono (fun i hi e => by omega))
set_option maxHeartbeats 4000000 in
theorem sorted_ct {w : World} {v : Value} {l : List UInt8} (h : ByC w v l) (hl : l.length ≤ 100000) :
    Calls Tryd.prog 28 #[v] w fun e w' => ∃ v', e = .returned v' ∧ ByB w.heap.size w' v' (sortL l) ∧ Kept (fun _ => False) w w' := by
  have b1 := bs10 w
  have cv := conv10 w
  have k1 : Kept (fun _ => False) w (w.alloc (.cells #[.int .u8 10] 5 (1, 2))) := (Kept.refl _ w).alloc _
  have h1 := heap_last w (.cells #[.int .u8 10] 5 (1, 2))
  generalize w.alloc (.cells #[.int .u8 10] 5 (1, 2)) = W1 at cv k1 h1
  have ten : ∀ {W : World} {g : Nat}, W.heap[g]? = some (.cells #[.int .u8 10] 5 (1, 2)) → ByC W (.slice (some ⟨g, 0, none⟩) 1 1) [10] := fun {W g} hh => ⟨⟨_, 1, rfl, by simp only [maxLen]; decide, fun _ => ⟨g, 0, rfl, (Array.getElem?_eq_some_iff.1 hh).1, fun j u hu => by
    match j, hu with
    | 0, hu => injection hu with hu; subst hu; rw [cell_of_row _ _ _ _ _ _ hh]; rfl⟩⟩, _, 1, rfl, Nat.le_refl _⟩
  have cs := cutSuf_ct (h.kept k1) (by omega) (ten h1).1
  obtain ⟨a, c, hv, hc⟩ := h.slc
  subst hv
  clear h1
  go_enter Tryd.func28, Tryd.ntmps28
  go_wp2_with (first
    | (with_reducible refine wpl_bslice 22 _ _ rfl rfl ?_ b1 ?_
       · (go_simp <;> rfl)
       simp only [Act.put, List.getElem_toArray, List.getElem_cons_zero, List.getElem_cons_succ, List.setIfInBounds_toArray, List.set_cons_zero, List.set_cons_succ])
    | (refine wpl_val rfl (exec_conv 22 22 _ rfl rfl cv) ?_))
  refine cs.mono ?_
  rintro e W2 ⟨v2, rfl, hb2, k2⟩
  have k12 := k1.trans k2
  obtain ⟨a2, c2, hv2, hc2⟩ := hb2.slc
  subst hv2
  have hbl : (bodyL l).length ≤ l.length := by unfold bodyL; split <;> simp
  by_cases h0 : l.length = 0
  · have : l = [] := List.eq_nil_of_length_eq_zero h0
    subst this
    clear b1 cv cs
    go_wp2_with fail
    go_ret
    exact ⟨_, rfl, ByB.nil _ _ _, k12⟩
  have hne : l ≠ [] := fun e => h0 (by rw [e]; rfl)
  have hS : Hid (sortL l = Lib.join (sortR (cutB (bodyL l))) [10] ++ (if endsTen l = true then [10] else [])) := by unfold Hid sortL; rw [if_neg hne]
  have d0 : decide ((l.length : Int) = 0) = false := decide_eq_false (by omega)
  clear b1 cv cs hne
  have b1 := bs10 W2
  have cv := conv10 W2
  have k3 : Kept (fun _ => False) W2 (W2.alloc (.cells #[.int .u8 10] 5 (1, 2))) := (Kept.refl _ W2).alloc _
  have h3 := heap_last W2 (.cells #[.int .u8 10] 5 (1, 2))
  generalize W2.alloc (.cells #[.int .u8 10] 5 (1, 2)) = W3 at cv k3 h3
  have hten : W3.cell? ⟨W2.heap.size, 0, none⟩ = some (.int .u8 10) := by rw [cell_of_row _ _ _ _ _ _ h3]; rfl
  have sc := split_ct (hb2.kept k3) (by omega) (d := 1) hten
  go_wp2_with fail
  refine sc.mono ?_
  rintro e W4 ⟨k4, vs, hvs, rfl, hA⟩
  have hcl := cutB_lens (bodyL l)
  have hlens := lens_perm (sortR_perm (cutB (bodyL l)))
  have hne := cutB_ne (bodyL l)
  have hsl := sortR_len (cutB (bodyL l))
  have hpx : PiecesX W3.heap.size W4 vs (cutB (bodyL l)) := ⟨hvs.1, fun j p hp => by obtain ⟨x, q1, q2⟩ := hvs.2 j p hp; exact ⟨x, q1, q2.low k4 (Nat.le_refl _)⟩⟩
  have hA0 : W4.heap[W3.heap.size]? = some (.cells vs.toArray 22 (0, 0)) := hA
  have so := sortF_ct hA0 hpx (by omega)
  clear sc b1 cv hvs hA hpx
  generalize cutB (bodyL l) = L at so hS hcl hlens hne hsl ⊢
  generalize hAe : W3.heap.size = A at so ⊢
  have hL1 : 1 ≤ L.length := List.length_pos_iff.2 hne
  go_wp2_with fail
  refine so.mono ?_
  rintro e W5 ⟨rfl, vs5, hA5, hp5, k5⟩
  have k35 : Kept (fun _ => False) W3 W5 := k4.trans' k5 (fun k hk e => by omega)
  have k05 := (k12.trans k3).trans k35
  have b1 := bs10 W5
  have cv := conv10 W5
  have k6 : Kept (fun _ => False) W5 (W5.alloc (.cells #[.int .u8 10] 5 (1, 2))) := (Kept.refl _ W5).alloc _
  have h6 := heap_last W5 (.cells #[.int .u8 10] 5 (1, 2))
  generalize W5.alloc (.cells #[.int .u8 10] 5 (1, 2)) = W6 at cv k6 h6
  have hA6 : W6.heap[A]? = some (.cells vs5.toArray 22 (0, 0)) := by rw [k6.block _ (Array.getElem?_eq_some_iff.1 hA5).1 not_false]; exact hA5
  have jc := join_ct hA6 hp5.1 (fun j p hp => by obtain ⟨x, q1, q2⟩ := hp5.2 j p hp; exact ⟨x, q1, q2.at.kept k6⟩) (by omega) (by omega) (by omega) (ten h6)
  rw [hsl] at jc
  clear so hp5 hA5 hA6 h6
  go_wp2_with fail
  refine jc.mono ?_
  rintro e W7 ⟨v7, rfl, hv7, k7⟩
  have k07 := (k05.trans k6).trans k7
  have hB6 : w.heap.size ≤ W6.heap.size := (k05.trans k6).size
  have hjl : (Lib.join (sortR L) [10]).length ≤ 1000000 := by
    have := join_len (sortR L) (fun e => by rw [e] at hsl; simp at hsl; omega)
    omega
  cases he : endsTen l with
  | false =>
    rw [he] at hS
    have hS : Hid (sortL l = Lib.join (sortR L) [10]) := by unfold Hid; rw [hS.out]; simp
    obtain ⟨a7, c7, hv7', _⟩ := hv7.by.1.slc
    subst hv7'
    clear b1 cv jc
    go_wp2_with fail
    go_ret
    exact ⟨_, rfl, by rw [hS.out]; exact hv7.by.low hB6, k07⟩
  | true =>
    rw [he] at hS
    have hS : Hid (sortL l = Lib.join (sortR L) [10] ++ [10]) := by unfold Hid; rw [hS.out]; simp
    obtain ⟨a7, c7, hv7', _⟩ := hv7.by.1.slc
    subst hv7'
    clear b1 cv jc
    have b1 := bs10 W7
    have k8 : Kept (fun _ => False) W7 (W7.alloc (.cells #[.int .u8 10] 5)) := (Kept.refl _ W7).alloc _
    have h8 := heap_last W7 (.cells #[.int .u8 10] 5)
    generalize W7.alloc (.cells #[.int .u8 10] 5) = W8 at b1 k8 h8
    have hv8 : FreshV W6.heap.size W8 (.slice a7 (Lib.join (sortR L) [10]).length c7) (Lib.join (sortR L) [10]) := hv7.kept k8
    obtain ⟨v9, W9, ap, hb9, k9⟩ := app_ten hv8 (Nat.le_trans k7.size k8.size) hjl (g := W7.heap.size) (d := 1) (by rw [cell_of_row _ _ _ _ _ _ h8]; rfl) 22
    have k09 : Kept (fun _ => False) w W9 := (k07.trans k8).trans' k9 (fun k hk e => by omega)
    obtain ⟨a9, c9, hv9, _⟩ := hb9.1.slc
    subst hv9
    clear hv8 h8
    go_wp2_with (first
      | (with_reducible refine wpl_bslice 22 _ _ rfl rfl ?_ b1 ?_
         · (go_simp <;> rfl)
         simp only [Act.put, List.getElem_toArray, List.getElem_cons_zero, List.getElem_cons_succ, List.setIfInBounds_toArray, List.set_cons_zero, List.set_cons_succ])
      | (with_reducible refine wpl_append 22 _ _ rfl rfl ?_ ?_ ap ?_
         · rfl
         · rfl
         simp only [Act.put, List.getElem_toArray, List.getElem_cons_zero, List.getElem_cons_succ, List.setIfInBounds_toArray, List.set_cons_zero, List.set_cons_succ]))
    go_ret
    exact ⟨_, rfl, by rw [hS.out]; exact hb9.low hB6, k09⟩
end Go.Proofs.YthachckofghppaaDoor
