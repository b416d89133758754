/- A tree's bytes. -/
import Derived.Test.YthachckofghppaaDoorT4
namespace Go.Proofs.YthachckofghppaaDoor
open Go.RowKit
set_option maxRecDepth 100000
set_option linter.unusedSimpArgs false
set_option linter.unusedVariables false

/-- The bytes of the first k files. -/
def filesL (l : List FileE) : List UInt8 := l.flatMap fun f => formL f.path.size ++ f.path.data.toList ++ (formL f.bytes.length ++ f.bytes)
def rawL (l : List FileE) : List UInt8 := formL l.length ++ filesL l
theorem filesL_take {l : List FileE} {k : Nat} {f : FileE} (h : l[k]? = some f) : filesL (l.take (k + 1)) = filesL (l.take k) ++ (formL f.path.size ++ f.path.data.toList ++ (formL f.bytes.length ++ f.bytes)) := by
  obtain ⟨hk, rfl⟩ := List.getElem?_eq_some_iff.1 h
  unfold filesL
  rw [List.take_succ_eq_append_getElem hk, List.flatMap_append]; simp
/-- '[]byte(s)'. -/
theorem conv_by (w : World) (s : ByteArray) (hs : s.size ≤ maxLen) : ∃ v w', (convert 9 22 (.string s)).run Tryd.prog w = .ok v w' ∧ ByAt w' v s.data.toList ∧ Kept (fun _ => False) w w' ∧ ∃ a n c, v = .slice a n c := by
  have h := run_bytes_of_string (P := Tryd.prog) w 9 22 5 s Tryd.underlying9 Tryd.underlying22 Tryd.underlying5
  refine ⟨_, _, h, ?_, ((Kept.refl _ w).drew).alloc _, _, _, _, rfl⟩
  have e : s.size = s.data.toList.length := by simp
  refine ⟨_, _, by rw [e], by rw [← e]; exact hs, fun _ => ⟨_, 0, rfl, by simp, fun j u hu => ?_⟩⟩
  rw [Nat.zero_add]
  have hj := (List.getElem?_eq_some_iff.1 hu).1
  rw [bv_len] at hj
  have hl : (w.drew.alloc (.cells (bytesRow s (grownCap w s.size 0 5)) 5 ((bytesRow s (grownCap w s.size 0 5)).size, (bytesRow s (grownCap w s.size 0 5)).size + 1))).heap[w.heap.size]? = _ := heap_last w.drew _
  rw [cell_of_row _ _ _ _ _ _ hl, ← hu]
  unfold bytesRow bv
  rw [Array.getElem?_append_left (by simpa using hj)]
  simp

theorem exec_conv {P : Program} {o : Oper} {a : Act} {w w1 : World} {p v : Value} (t u : TypeId) (x : Operand) (ho : o.op = .convert t u x) (hx : a.eval x = p)
    (h : (convert t u p).run P w = .ok v w1) : (execOp a.eval o).run P w = .ok (.value v) w1 := by
  unfold execOp; simp only [ho, hx, Sem.run_bind, h, Result.andThen_ok]; rfl
theorem filesL_len {l : List FileE} (h : ∀ f ∈ l, f.path.size ≤ 40 ∧ f.bytes.length ≤ 2000) : (filesL l).length ≤ l.length * 2058 := by
  induction l with
  | nil => simp [filesL]
  | cons f l ih =>
    have h1 := h f (by simp)
    have h2 := ih (fun g hg => h g (by simp [hg]))
    have e1 := formL_len f.path.size
    have e2 := formL_len f.bytes.length
    have e3 : f.path.data.toList.length = f.path.size := by simp
    unfold filesL at *
    rw [List.flatMap_cons, List.length_append, List.length_append, List.length_append, List.length_append, List.length_cons, e3]
    omega
set_option maxRecDepth 100000 in
set_option maxHeartbeats 2000000 in
theorem raw_ct {w : World} {v : Value} {l : List FileE} (h : TreeAt w v l) (hl : l.length ≤ 16) (hf : ∀ f ∈ l, f.path.size ≤ 40 ∧ f.bytes.length ≤ 2000) :
    Calls Tryd.prog 64 #[v] w fun e w' => ∃ v', e = .returned v' ∧ ByAt w' v' (rawL l) ∧ Kept (fun _ => False) w w' := by
  obtain ⟨a, c, hv⟩ := h.slc
  subst hv
  have hw : IntKind.u64.wrap (l.length : Int) = l.length := IntWalk.u64_in _ (by omega)
  go_enter Tryd.func64, Tryd.ntmps64
  go_wp2_with fail
  refine (appendUint_ct (ByAt.nil w 0) (by simp) (n := l.length) (by omega)).mono ?_
  rintro e W ⟨v1, rfl, h1, k1⟩
  obtain ⟨a1, c1, hv1⟩ := h1.slc
  subst hv1
  go_wp2_with fail
  rw [List.nil_append] at h1
  go_loopw [3, 12] (fun s i wr => ∃ k : Nat, k ≤ l.length ∧ i = .int .i64 k ∧ ByAt wr s (formL l.length ++ filesL (l.take k)) ∧ Kept (fun _ => False) w wr) (fun _ i _ => l.length - (intOf i).toNat)
  case atStart => exact ⟨0, by omega, rfl, by simpa [filesL] using h1, k1⟩
  case round =>
    obtain ⟨k, hk, rfl, hb, hkr⟩ := hrel
    obtain ⟨as1, cs1, rfl⟩ := hb.slc
    by_cases hlt : k < l.length
    · have hfk : l[k]? = some l[k] := List.getElem?_eq_getElem hlt
      have hft := filesL_take hfk
      have hff := hf l[k] (List.getElem_mem hlt)
      have hlen := filesL_len (l := l.take k) (fun g hg => hf g (List.mem_of_mem_take hg))
      have hl9 := formL_len l.length
      have hl9' := formL_len l[k].path.size
      have hlen2 : (formL l.length ++ filesL (l.take k)).length ≤ 50000 := by rw [List.length_append]; simp only [List.length_take] at hlen; omega
      generalize l[k] = f at hfk hft hff hl9'
      obtain ⟨hps, b, o, x, rfl, hbl, hrx, hB⟩ := (h.kept hkr).file hfk
      obtain ⟨ab, cb, rfl⟩ := hB.slc
      have ld := load_file hrx
      have st := store_file (w := wr) (p := f.path) (a := ab) (n := f.bytes.length) (c := cb)
      go_upto_region 5 with (first
        | (with_reducible refine wpl_load 33 _ rfl rfl ?_ ld ?_
           · rfl
           simp only [Act.put, List.getElem_toArray, List.getElem_cons_zero, List.getElem_cons_succ, List.setIfInBounds_toArray, List.set_cons_zero, List.set_cons_succ])
        | (with_reducible refine wpl_alloc 33 rfl rfl (zeroFile _) ?_
           simp only [World.size_alloc, Act.put, List.getElem_toArray, List.getElem_cons_zero, List.getElem_cons_succ, List.setIfInBounds_toArray, List.set_cons_zero, List.set_cons_succ])
        | (with_reducible refine wpl_store 33 _ _ rfl rfl ?_ ?_ st ?_
           · rfl
           · rfl
           simp only [Act.put, List.getElem_toArray, List.getElem_cons_zero, List.getElem_cons_succ, List.setIfInBounds_toArray, List.set_cons_zero, List.set_cons_succ]))
      have hb7 := heap_last wr (.cells #[.string f.path, .slice ab f.bytes.length cb] 33)
      have k7 : Kept (fun _ => False) wr (wr.alloc (.cells #[.string f.path, .slice ab f.bytes.length cb] 33)) := (Kept.refl _ wr).alloc _
      generalize wr.alloc (.cells #[.string f.path, .slice ab f.bytes.length cb] 33) = W7 at hb7 k7 ⊢
      have hz7 := (Array.getElem?_eq_some_iff.1 hb7).1
      generalize wr.heap.size = B at hb7 hz7 ⊢
      have cF0 : ∀ w', Kept (fun _ => False) W7 w' → w'.cell? ⟨B, 0, none⟩ = some (.string f.path) := fun w' q => by rw [q.cell (p := ⟨B, 0, none⟩) hz7 not_false, cell_of_row _ _ _ _ _ _ hb7]; rfl
      have cF1 : ∀ w', Kept (fun _ => False) W7 w' → w'.cell? ⟨B, 1, none⟩ = some (.slice ab f.bytes.length cb) := fun w' q => by rw [q.cell (p := ⟨B, 1, none⟩) hz7 not_false, cell_of_row _ _ _ _ _ _ hb7]; rfl
      have kw7 := hkr.trans k7
      have hb7' := hb.kept k7
      have hB7 := hB.kept k7
      obtain ⟨v8, W8, cv, h8, k8, a8, n8, c8, hv8⟩ := conv_by W7.drew f.path hps
      have k78 : Kept (fun _ => False) W7 W8 := ((Kept.refl _ W7).drew).trans k8
      have e8 : f.path.data.toList.length = f.path.size := by simp
      have hl9b := formL_len f.path.data.toList.length
      subst hv8
      clear ld st hrx hB hb
      refine wp_region_held_drew (S := (Kept (fun _ => False) W7)) (by kernel_rfl) ((Kept.refl _ W7).drew) (fun hHeld => ?_)
      refine held_q (v := ?_) (i := 0) rfl (by kernel_rfl) (by kernel_rfl) (by kernel_rfl) (fun _ _ _ h => h) (by rfl) hHeld ?_ ?_
      rotate_left
      · (intro w' hS'; go_simp <;> (with_reducible rfl))
      simp only [Act.put, List.getElem_toArray, List.getElem_cons_zero, List.getElem_cons_succ, List.setIfInBounds_toArray, List.set_cons_zero, List.set_cons_succ]
      refine held_q (v := ?_) (i := 1) rfl (by kernel_rfl) (by kernel_rfl) (by kernel_rfl) (fun _ _ _ h => h) (by rfl) hHeld ?_ ?_
      rotate_left
      · (intro w' hS'; go_simp <;> (with_reducible rfl))
      simp only [Act.put, List.getElem_toArray, List.getElem_cons_zero, List.getElem_cons_succ, List.setIfInBounds_toArray, List.set_cons_zero, List.set_cons_succ]
      refine held_q (v := ?_) (i := 2) rfl (by kernel_rfl) (by kernel_rfl) (by kernel_rfl) (fun _ _ _ h => h) (by rfl) hHeld ?_ ?_
      rotate_left
      · (intro w' hS'; go_simp <;> (with_reducible rfl))
      simp only [Act.put, List.getElem_toArray, List.getElem_cons_zero, List.getElem_cons_succ, List.setIfInBounds_toArray, List.set_cons_zero, List.set_cons_succ]
      refine held_q (v := ?_) (i := 5) rfl (by kernel_rfl) (by kernel_rfl) (by kernel_rfl) (fun _ _ _ h => h) (by rfl) hHeld ?_ ?_
      rotate_left
      · (intro w' hS'; go_simp <;> (with_reducible rfl))
      simp only [Act.put, List.getElem_toArray, List.getElem_cons_zero, List.getElem_cons_succ, List.setIfInBounds_toArray, List.set_cons_zero, List.set_cons_succ]
      refine held_q (v := ?_) (i := 6) rfl (by kernel_rfl) (by kernel_rfl) (by kernel_rfl) (fun _ _ _ h => h) (by rfl) hHeld ?_ ?_
      rotate_left
      · (intro w' hS'; go_simp <;> (with_reducible rfl))
      simp only [Act.put, List.getElem_toArray, List.getElem_cons_zero, List.getElem_cons_succ, List.setIfInBounds_toArray, List.set_cons_zero, List.set_cons_succ]
      refine held_v (i := 3) (by kernel_rfl) rfl (by rfl) (exec_conv 9 22 _ rfl rfl cv) (k78) (fun hHeld => ?_)
      simp only [Act.put, List.getElem_toArray, List.getElem_cons_zero, List.getElem_cons_succ, List.setIfInBounds_toArray, List.set_cons_zero, List.set_cons_succ]
      refine held_c (i := 4) (f := 91) (args := #[.slice as1 (formL l.length ++ filesL (l.take k)).length cs1, .slice a8 n8 c8]) (by kernel_rfl) rfl (by rfl) ?_ (appendBytes_ct (hb7'.kept k78) h8 (by omega) (by omega)) ?_
      · (go_simp <;> rfl)
      rintro e W9 ⟨v9, rfl, h9, k9⟩
      have hHeld := k78.trans k9
      refine ⟨_, rfl, hHeld, ?_⟩
      simp only [Act.put, List.getElem_toArray, List.getElem_cons_zero, List.getElem_cons_succ, List.setIfInBounds_toArray, List.set_cons_zero, List.set_cons_succ]
      obtain ⟨a9, c9, hv9⟩ := h9.slc
      subst hv9
      refine held_c (i := 7) (f := 91) (args := #[.slice a9 (formL l.length ++ filesL (l.take k) ++ formL f.path.data.toList.length ++ f.path.data.toList).length c9, .slice ab f.bytes.length cb]) (by kernel_rfl) rfl (by rfl) ?_ (appendBytes_ct h9 (hB7.kept (k78.trans k9)) (by simp only [List.length_append] at hlen2 ⊢; omega) (by omega)) ?_
      · (go_simp <;> rfl)
      rintro e W10 ⟨v10, rfl, h10, k10⟩
      have hHeld := (k78.trans k9).trans k10
      refine ⟨_, rfl, hHeld, ?_⟩
      simp only [Act.put, List.getElem_toArray, List.getElem_cons_zero, List.getElem_cons_succ, List.setIfInBounds_toArray, List.set_cons_zero, List.set_cons_succ]
      refine held_q (v := ?_) (i := 8) rfl (by kernel_rfl) (by kernel_rfl) (by kernel_rfl) (fun _ _ _ h => h) (by rfl) hHeld ?_ ?_
      rotate_left
      · (intro w' hS'; go_simp <;> (with_reducible rfl))
      simp only [Act.put, List.getElem_toArray, List.getElem_cons_zero, List.getElem_cons_succ, List.setIfInBounds_toArray, List.set_cons_zero, List.set_cons_succ]
      refine wpAnyH_done (by kernel_rfl) ?_ _
      obtain ⟨a10, c10, hv10⟩ := h10.slc
      subst hv10
      go_wp2_with fail
      go_roundw
      case rel => exact ⟨k + 1, by omega, by go_num, by
        rw [hft]
        rw [e8] at h10
        simpa [List.append_assoc] using h10, kw7.trans hHeld⟩
      case measure => simp [intOf]; omega
    · obtain rfl : k = l.length := by omega
      rw [List.take_length] at hb
      go_wp2_with fail
      go_ret
      exact ⟨_, rfl, by simpa [rawL] using hb, hkr⟩

set_option maxHeartbeats 1000000 in
theorem bytes_ct {w : World} {v : Value} {l : List FileE} (h : TreeAt w v l) (hm : mayB l = true) (hf : ∀ f ∈ l, f.path.size ≤ 40 ∧ f.bytes.length ≤ 2000) (hl : l.length ≤ 16) :
    Calls Tryd.prog 47 #[v] w fun e w' => ∃ v', e = .returned (.tuple #[v', .int .i64 0]) ∧ ByAt w' v' (rawL l) ∧ Kept (fun _ => False) w w' := by
  have mc := may_ct h
  rw [hm] at mc
  obtain ⟨a, c, hv⟩ := h.slc
  subst hv
  go_enter Tryd.func47, Tryd.ntmps47
  go_wp2_with fail
  refine mc.mono ?_
  rintro e W ⟨rfl, k1⟩
  go_wp2_with fail
  refine (raw_ct (h.kept k1) hl hf).mono ?_
  rintro e W2 ⟨v2, rfl, h2, k2⟩
  obtain ⟨a2, c2, hv2⟩ := h2.slc
  subst hv2
  go_wp2_with fail
  go_ret2
  exact ⟨_, rfl, h2, k1.trans k2⟩
end Go.Proofs.YthachckofghppaaDoor
