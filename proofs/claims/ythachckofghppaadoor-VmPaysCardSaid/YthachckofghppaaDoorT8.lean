/- Under. -/
import Derived.Test.YthachckofghppaaDoorT7
namespace Go.Proofs.YthachckofghppaaDoor
open Go.RowKit
set_option maxRecDepth 100000
set_option linter.unusedSimpArgs false
set_option linter.unusedVariables false

theorem okTo_at {l : List FileE} : ∀ k, okTo l k = true → ∀ i, i < k → okAt l i = true
  | 0, _, i, h => by omega
  | k + 1, h, i, hi => by
    unfold okTo at h
    rw [Bool.and_eq_true] at h
    by_cases e : i = k
    · subst e; exact h.2
    · exact okTo_at k h.1 i (by omega)
theorem pathB_size {s : ByteArray} (h : pathB s = true) : 1 ≤ s.size ∧ s.size ≤ 40 := by
  unfold pathB at h
  simp only [Bool.and_eq_true, decide_eq_true_eq] at h
  exact ⟨h.1.1.1, h.1.1.2⟩
structure MayIs (l : List FileE) : Prop where
  len : l.length ≤ 16
  file : ∀ f ∈ l, pathB f.path = true ∧ f.path.size ≤ 40 ∧ f.bytes.length ≤ 2000
theorem mayIs {l : List FileE} (h : mayB l = true) : MayIs l := by
  unfold mayB at h
  simp only [Bool.and_eq_true, decide_eq_true_eq] at h
  refine ⟨h.1.1, fun f hf => ?_⟩
  obtain ⟨i, hi, rfl⟩ := List.getElem_of_mem hf
  have := okTo_at _ h.1.2 i hi
  unfold okAt at this
  rw [List.getElem?_eq_getElem hi] at this
  simp only [Bool.and_eq_true, decide_eq_true_eq] at this
  exact ⟨this.1.1, (pathB_size this.1.1).2, this.1.2⟩

def slashed (d p : ByteArray) : ByteArray := d ++ ⟨#[47]⟩ ++ p
theorem slashed_size (d p : ByteArray) : (slashed d p).size = d.size + 1 + p.size := by
  unfold slashed; rw [ByteArray.size_append, ByteArray.size_append]; rfl
def upF (d : ByteArray) (f : FileE) : FileE := ⟨slashed d f.path, f.bytes⟩
def upTo (d : ByteArray) (l : List FileE) (k : Nat) : List FileE := (l.take k).map (upF d) ++ l.drop k
theorem upTo_len (d : ByteArray) (l : List FileE) (k : Nat) (hk : k ≤ l.length) : (upTo d l k).length = l.length := by
  unfold upTo; rw [List.length_append, List.length_map, List.length_take, List.length_drop]; omega
theorem upTo_at {d : ByteArray} {l : List FileE} {k : Nat} {f : FileE} (h : l[k]? = some f) : (upTo d l k)[k]? = some f := by
  have hk := (List.getElem?_eq_some_iff.1 h).1
  unfold upTo
  rw [List.getElem?_append_right (by simp; omega)]
  have : k - ((l.take k).map (upF d)).length = 0 := by simp; omega
  rw [this, List.getElem?_drop]; exact h
theorem upTo_set {d : ByteArray} {l : List FileE} {k : Nat} {f : FileE} (h : l[k]? = some f) : (upTo d l k).set k (upF d f) = upTo d l (k + 1) := by
  obtain ⟨hk, rfl⟩ := List.getElem?_eq_some_iff.1 h
  unfold upTo
  have hl : ((l.take k).map (upF d)).length = k := by simp; omega
  rw [List.set_append_right _ _ (by omega), hl, Nat.sub_self, List.drop_eq_getElem_cons hk, List.set_cons_zero, List.take_succ_eq_append_getElem hk, List.map_append, List.append_assoc]
  rfl
theorem upTo_all (d : ByteArray) (l : List FileE) : upTo d l l.length = l.map (upF d) := by unfold upTo; simp
theorem PairsAt.set1 {w : World} {p : Addr} {old v : Value} {ps : List (ByteArray × Value)} {l : List FileE} (h : PairsAt w ps l) (hp : w.cell? p = some old) (ho : ∀ i, old ≠ .int .u8 i) {k : Nat} {f : FileE} (hf : l[k]? = some f) {s : ByteArray} (hs : s.size ≤ maxLen) {x : Value} (hx : ps[k]? = some (f.path, x)) :
    PairsAt (w.setCell p v) (ps.set k (s, x)) (l.set k ⟨s, f.bytes⟩) := by
  refine ⟨by rw [List.length_set, List.length_set]; exact h.1, fun j g hg => ?_⟩
  by_cases e : j = k
  · subst e
    rw [List.getElem?_set_self (List.getElem?_eq_some_iff.1 hf).1] at hg
    injection hg with hg; subst hg
    obtain ⟨h1, y, h2, h3⟩ := h.2 j f hf
    rw [hx] at h2; injection h2 with h2; injection h2 with _ h2; subst h2
    exact ⟨hs, x, List.getElem?_set_self (List.getElem?_eq_some_iff.1 hx).1, h3.set hp ho⟩
  · rw [List.getElem?_set_ne (fun q => e q.symm)] at hg
    obtain ⟨h1, y, h2, h3⟩ := h.2 j g hg
    exact ⟨h1, y, by rw [List.getElem?_set_ne (fun q => e q.symm)]; exact h2, h3.set hp ho⟩

set_option maxHeartbeats 1000000 in
theorem made_any {w : World} {v : Value} {l : List FileE} (h : TreeAt w v l) :
    Calls Tryd.prog 53 #[v] w fun e w' => ((mayB l = true ∧ ∃ v', e = .returned (.tuple #[v', .int .i64 0]) ∧ TreeAt w' v' l) ∨ (mayB l = false ∧ e = .returned (.tuple #[.slice none 0 0, .int .i64 8]))) ∧ Kept (fun _ => False) w w' := by
  cases hm : mayB l with
  | true =>
    have hi := mayIs hm
    refine (made_ct h hm (by have := hi.len; omega) (fun f hf => by have := (hi.file f hf).2.2; omega)).mono fun e w' ⟨v', h1, h2, h3⟩ => ⟨.inl ⟨rfl, v', h1, h2⟩, h3⟩
  | false =>
    have mc := may_ct h
    rw [hm] at mc
    obtain ⟨a, c, hv⟩ := h.slc
    subst hv
    go_enter Tryd.func53, Tryd.ntmps53
    go_wp2_with fail
    refine mc.mono ?_
    rintro e W ⟨rfl, k1⟩
    go_wp2_with fail
    go_ret2
    exact ⟨.inr ⟨by trivial, rfl⟩, k1⟩

set_option maxRecDepth 100000 in
set_option maxHeartbeats 4000000 in
theorem under_ct {w : World} {v : Value} {l : List FileE} (h : TreeAt w v l) (hm : mayB l = true) {d : ByteArray} (hd : pathB d = true) :
    Calls Tryd.prog 49 #[v, .string d] w fun e w' => ((mayB (l.map (upF d)) = true ∧ ∃ v', e = .returned (.tuple #[v', .int .i64 0]) ∧ TreeAt w' v' (l.map (upF d))) ∨ (mayB (l.map (upF d)) = false ∧ e = .returned (.tuple #[.slice none 0 0, .int .i64 8]))) ∧ Kept (fun _ => False) w w' := by
  have mc := may_ct h
  rw [hm] at mc
  have hi := mayIs hm
  have hds := pathB_size hd
  have ip := fun w' => isPath_ct d w' (by have := hds.2; simp only [maxLen]; omega)
  rw [hd] at ip
  obtain ⟨a, c, hv⟩ := h.slc
  subst hv
  have hl16 := hi.len
  go_enter Tryd.func49, Tryd.ntmps49
  go_wp2_with fail
  refine mc.mono ?_
  rintro e W ⟨rfl, k1⟩
  go_wp2_with fail
  refine (ip _).mono ?_
  rintro e W1 ⟨rfl, k2⟩
  clear mc ip
  go_wp2_with fail
  refine (cloneT_ct (h.kept (k1.trans k2)) (by omega)).mono ?_
  rintro e W2 ⟨v1, ps, rfl, ho, hp, k3⟩
  have k0 := (k1.trans k2).trans k3
  have hbase := (k1.trans k2).size
  generalize W1.heap.size = base at ho hbase
  obtain ⟨a1, c1, hv1⟩ := row_form ho
  subst hv1
  go_wp2_with fail
  go_loopw [20] (fun i wr => ∃ (k : Nat) (ps : List (ByteArray × Value)), k ≤ l.length ∧ i = .int .i64 k ∧ wr.ownsRow base 33 2 (.slice a1 l.length c1) l.length (prs ps) ∧ PairsAt wr ps (upTo d l k) ∧ Kept (fun _ => False) w wr) (fun i _ => l.length - (intOf i).toNat)
  case atStart => exact ⟨0, ps, by omega, rfl, ho, by simpa [upTo] using hp, k0⟩
  case round =>
    obtain ⟨k, ps, hk, rfl, ho, hp, hkr⟩ := hrel
    by_cases hlt : k < l.length
    · have hfk : l[k]? = some l[k] := List.getElem?_eq_getElem hlt
      have hff := (hi.file l[k] (List.getElem_mem hlt)).2.1
      generalize l[k] = f at hfk hff
      obtain ⟨hps, x, hx, hB⟩ := hp.2 k f (upTo_at hfk)
      obtain ⟨p1, p2⟩ := prs_get ps k _ hx
      obtain ⟨g, c2, hg⟩ : ∃ g c2, (Value.slice a1 l.length c1) = .slice (some ⟨g, 0, none⟩) l.length c2 := by
        rcases ho.2 with ⟨e, h0⟩ | ⟨g, cap, _, e, _⟩
        · omega
        · exact ⟨g, cap, e⟩
      injection hg with e1 _ e2
      subst e1
      subst e2
      have hgl := (World.ownsRow.lt ho g rfl).2
      have hc := ho.cells (g := g) rfl _ _ p1
      rw [Addr.add_mid] at hc
      have hc' : wr.cell? ⟨g, k * 2, none⟩ = some (.string f.path) := by rw [Nat.zero_add] at hc; exact hc
      obtain ⟨ho3, hs3, hf3, hbg⟩ := row_set ho (j := k * 2) (by omega) (.string (slashed d f.path))
      rw [prs_set1 ps k _ _ hx] at ho3
      have hss := slashed_size d f.path
      have hp3 := hp.set1 (v := .string (slashed d f.path)) hc' (fun i e => by cases e) (upTo_at hfk) (s := slashed d f.path) (by simp only [maxLen]; omega) hx
      have hup := upTo_set (d := d) hfk
      unfold upF at hup
      rw [hup] at hp3
      have k3 : Kept (fun _ => False) w (wr.setCell ⟨g, k * 2, none⟩ (.string (slashed d f.path))) := hkr.setCell (p := ⟨g, k * 2, none⟩) (fun q => by have q : g < w.heap.size := q; omega) _
      have hml : l.length ≤ 2 ^ 63 - 1 := by omega
      unfold slashed at ho3 hp3 k3 hss
      clear hs3 ho hp hc p1 p2 hup
      go_wp2_with fail
      go_roundw
      case rel => exact ⟨k + 1, _, by omega, by go_num, ho3, hp3, k3⟩
      case measure => simp [intOf]; omega
    · obtain rfl : k = l.length := by omega
      rw [upTo_all] at hp
      have ht := TreeAt.of_row ho hp
      have ma := made_any ht
      clear ho hp
      go_wp2_with fail
      refine ma.mono ?_
      rintro e W5 ⟨hr, k5⟩
      rcases hr with ⟨hm2, v', rfl, h5⟩ | ⟨hm2, rfl⟩
      · obtain ⟨a5, c5, hv5⟩ := h5.slc
        subst hv5
        have h5' : TreeAt W5 (.slice a5 l.length c5) (l.map (upF d)) := by rw [List.length_map] at h5; exact h5
        go_wp2_with fail
        go_ret2
        exact ⟨.inl ⟨hm2, _, rfl, h5'⟩, hkr.trans k5⟩
      · go_wp2_with fail
        go_ret2
        exact ⟨.inr ⟨hm2, rfl⟩, hkr.trans k5⟩
end Go.Proofs.YthachckofghppaaDoor
