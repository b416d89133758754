/- Great; Get; With. -/
import Derived.Test.YthachckofghppaaDoorUC
namespace Go.Proofs.YthachckofghppaaDoor
open Go.RowKit
set_option maxRecDepth 100000
set_option linter.unusedSimpArgs false
set_option linter.unusedVariables false

theorem not_path_under {w : World} {v : Value} {l : List FileE} (h : TreeAt w v l) (d : ByteArray) (hd : d.size ≤ maxLen) (hn : (mayB l && pathB d) = false) :
    Calls Tryd.prog 49 #[v, .string d] w fun e w' => e = .returned (.tuple #[.slice none 0 0, .int .i64 2]) ∧ Kept (fun _ => False) w w' := by
  have mc := may_ct h
  have ip := fun w' => isPath_ct d w' hd
  obtain ⟨a, c, hv⟩ := h.slc
  subst hv
  generalize mayB l = m at mc hn
  generalize pathB d = p at ip hn
  cases m with
  | false =>
    go_enter Tryd.func49, Tryd.ntmps49
    go_wp2_with fail
    refine (mc).mono ?_
    rintro e W ⟨rfl, k1⟩
    go_wp2_with fail
    go_ret2
    exact ⟨rfl, k1⟩
  | true =>
    obtain rfl : p = false := by simpa using hn
    go_enter Tryd.func49, Tryd.ntmps49
    go_wp2_with fail
    refine (mc).mono ?_
    rintro e W ⟨rfl, k1⟩
    go_wp2_with fail
    refine (ip _).mono ?_
    rintro e W2 ⟨rfl, k2⟩
    go_wp2_with fail
    go_ret2
    exact ⟨rfl, k1.trans k2⟩

theorem pos_there {l : List FileE} {s : ByteArray} (h : thereB l s = true) : ∃ f, l[posL l s]? = some f ∧ f.path = s := by
  unfold thereB at h
  cases hf : l[posL l s]? with
  | none => rw [hf] at h; cases h
  | some f => rw [hf] at h; exact ⟨f, rfl, eqB_iff.1 h⟩
/-- What Get gives. -/
def GetIs (l : List FileE) (s : ByteArray) (w : World) (e : Ending) : Prop :=
  (∃ v f, (mayB l && thereB l s) = true ∧ l[posL l s]? = some f ∧ e = .returned (.tuple #[v, .bool true]) ∧ ByAt w v f.bytes) ∨ ((mayB l && thereB l s) = false ∧ e = .returned (.tuple #[.slice none 0 0, .bool false]))
set_option maxHeartbeats 1000000 in
theorem get_ct {w : World} {v : Value} {l : List FileE} (h : TreeAt w v l) (s : ByteArray) :
    Calls Tryd.prog 31 #[v, .string s] w fun e w' => GetIs l s w' e ∧ Kept (fun _ => False) w w' := by
  have mc := may_ct h
  cases hm : mayB l with
  | false =>
    rw [hm] at mc
    obtain ⟨a, c, hv⟩ := h.slc
    subst hv
    go_enter Tryd.func31, Tryd.ntmps31
    go_wp2_with fail
    refine (mc).mono ?_
    rintro e W ⟨rfl, k1⟩
    go_wp2_with fail
    go_ret2
    exact ⟨.inr ⟨by rw [hm]; rfl, rfl⟩, k1⟩
  | true =>
    rw [hm] at mc
    have fc := fun w' (k : Kept (fun _ => False) w w') => find_ct (h.kept k) hm s
    have hi := mayIs hm
    have HM := Lib.hid hm
    clear hm
    cases ht : thereB l s with
    | false =>
      rw [ht] at fc
      obtain ⟨a, c, hv⟩ := h.slc
      subst hv
      have HT := Lib.hid ht
      clear ht hi
      go_enter Tryd.func31, Tryd.ntmps31
      go_wp2_with fail
      refine (mc).mono ?_
      rintro e W ⟨rfl, k1⟩
      go_wp2_with fail
      refine (fc _ k1).mono ?_
      rintro e W2 ⟨rfl, k2⟩
      go_wp2_with fail
      go_ret2
      exact ⟨.inr ⟨by rw [HT.out, HM.out] <;> rfl, rfl⟩, k1.trans k2⟩
    | true =>
      rw [ht] at fc
      obtain ⟨f, hf, _⟩ := pos_there ht
      have hff := (hi.file f (List.mem_of_getElem? hf)).2.2
      have hlt := (List.getElem?_eq_some_iff.1 hf).1
      have hl16 := hi.len
      obtain ⟨a0, c0, hv⟩ := h.slc
      subst hv
      obtain ⟨_, b1, o1, x, rfl, hbl, hrx, hB⟩ := h.file hf
      obtain ⟨a3, c3, rfl⟩ := hB.slc
      have q1 : ∀ w', Kept (fun _ => False) w w' → w'.cell? ⟨b1, o1 + posL l s * 2 + 1, none⟩ = some (.slice a3 f.bytes.length c3) := fun w' q => (q.cell (p := ⟨b1, o1 + posL l s * 2 + 1, none⟩) hbl not_false).trans (hrx 1 _ rfl)
      have HT := Lib.hid ht
      have HF := Lib.hid hf
      generalize hp : posL l s = j at fc q1 hlt
      clear ht hi hrx hf h
      go_enter Tryd.func31, Tryd.ntmps31
      go_wp2_with fail
      refine (mc).mono ?_
      rintro e W ⟨rfl, k1⟩
      go_wp2_with fail
      refine (fc _ k1).mono ?_
      rintro e W2 ⟨rfl, k2⟩
      have q2 := q1 _ (k1.trans k2)
      go_wp2_with fail
      refine (cloneB_ct (hB.kept (k1.trans k2)) (by omega)).mono ?_
      rintro e W3 ⟨v3, rfl, h3, k3⟩
      obtain ⟨a4, c4, rfl⟩ := h3.slc
      go_wp2_with fail
      go_ret2
      exact ⟨.inl ⟨_, f, by rw [HT.out, HM.out] <;> rfl, by rw [HF.out], rfl, h3⟩, (k1.trans k2).trans k3⟩

/-- What With makes, if it may be. -/
def withL (l : List FileE) (s : ByteArray) (b : List UInt8) : List FileE := if thereB l s = true then l.set (posL l s) ⟨s, b⟩ else l.take (posL l s) ++ ⟨s, b⟩ :: l.drop (posL l s)
theorem PairsAt.ins {w : World} {ps : List (ByteArray × Value)} {l : List FileE} (h : PairsAt w ps l) (i : Nat) (hi : i ≤ l.length) {s : ByteArray} (hs : s.size ≤ maxLen) {x : Value} {b : List UInt8} (hx : ByAt w x b) : PairsAt w (ps.take i ++ (s, x) :: ps.drop i) (l.take i ++ ⟨s, b⟩ :: l.drop i) := by
  have hl := h.1
  refine ⟨by simp [hl], fun j f hf => ?_⟩
  have e1 : (ps.take i).length = i := by rw [List.length_take]; omega
  have e2 : (l.take i).length = i := by rw [List.length_take]; omega
  rcases Nat.lt_trichotomy j i with h1 | h1 | h1
  · rw [List.getElem?_append_left (by omega), List.getElem?_take_of_lt h1] at hf
    obtain ⟨p1, y, p2, p3⟩ := h.2 j f hf
    exact ⟨p1, y, by rw [List.getElem?_append_left (by omega), List.getElem?_take_of_lt h1]; exact p2, p3⟩
  · subst h1
    rw [List.getElem?_append_right (by omega), e2, Nat.sub_self] at hf
    injection hf with hf
    subst hf
    exact ⟨hs, x, by rw [List.getElem?_append_right (by omega), e1, Nat.sub_self]; rfl, hx⟩
  · obtain ⟨d, hd⟩ : ∃ d, j - i = d + 1 := ⟨j - i - 1, by omega⟩
    rw [List.getElem?_append_right (by omega), e2, hd, List.getElem?_cons_succ, List.getElem?_drop] at hf
    obtain ⟨p1, y, p2, p3⟩ := h.2 _ f hf
    exact ⟨p1, y, by rw [List.getElem?_append_right (by omega), e1, hd, List.getElem?_cons_succ, List.getElem?_drop]; exact p2, p3⟩
end Go.Proofs.YthachckofghppaaDoor
