/- TreeParts: the calls' answers in one form. -/
import Derived.Test.YtehpaddddiigbaaWJ
import Derived.Test.YtehpaddddiigbaaWK
import Derived.Test.YtehpaddddiigbaaWL
import Derived.Test.YtehpaddddiigbaaWD
import Derived.Test.YtehpaddddiigbaaTO
namespace Go.Proofs.Ytehpaddddiigbaa
open Go.RowKit
set_option linter.unusedSimpArgs false
set_option linter.unusedVariables false

set_option maxRecDepth 100000 in
set_option maxHeartbeats 4000000 in
theorem equalFunc_ctL {w : World} {va vb : Value} {la lb : List FileE} (ha : TreeAt w va la) (hb : TreeAt w vb lb) (hl : la.length ≤ 140737488351232) (hl2 : lb.length ≤ 140737488351232) :
    Calls Try.prog 41 #[va, vb, .func (.func 42) #[] #[]] w fun e w' => e = .returned (.bool (sameB la lb)) ∧ Kept (fun _ => False) w w' := by
  obtain ⟨a, c, hv⟩ := ha.slc
  subst hv
  obtain ⟨b, d, hy⟩ := hb.slc
  subst hy
  by_cases hn : la.length = lb.length
  · have hs : sameB la lb = sameTo la lb la.length := by unfold sameB; rw [hn]; simp
    have HS := Lib.hid hs
    have HN := Lib.hid hn
    have en : ((la.length : Int) != (lb.length : Int)) = false := by rw [hn]; simp
    clear hs hn
    go_enter Try.func41, Try.ntmps41
    go_wp2_with fail
    go_loopw [17] (fun i wr => ∃ k : Nat, k ≤ la.length ∧ i = .int .i64 k ∧ sameTo la lb k = true ∧ Kept (fun _ => False) w wr) (fun i _ => la.length - (intOf i).toNat)
    case atStart => exact ⟨0, by omega, rfl, rfl, Kept.refl _ _⟩
    case round =>
      obtain ⟨k, hk, rfl, hsk, hkr⟩ := hrel
      have SK := Lib.hid hsk
      clear hsk
      by_cases hlt : k < la.length
      · have hltb : k < lb.length := by have := HN.out; omega
        have hfa : la[k]? = some la[k] := List.getElem?_eq_getElem hlt
        have hfb : lb[k]? = some lb[k] := List.getElem?_eq_getElem hltb
        have hnext : sameTo la lb (k + 1) = eqF la[k] lb[k] := by
          conv => lhs; unfold sameTo
          rw [SK.out, hfa, hfb]; simp
        have NX := Lib.hid hnext
        clear hnext
        generalize la[k] = f at hfa NX
        generalize lb[k] = g at hfb NX
        obtain ⟨_, b1, o1, x, rfl, hbl, hrx, hB⟩ := (ha.kept hkr).file hfa
        obtain ⟨_, b2, o2, y, rfl, hbl2, hry, hB2⟩ := (hb.kept hkr).file hfb
        obtain ⟨a3, c3, rfl⟩ := hB.slc
        obtain ⟨a4, c4, rfl⟩ := hB2.slc
        have lda := load_file hrx
        have sta := store_file (w := wr) (p := f.path) (a := a3) (n := f.bytes.length) (c := c3)
        go_upto_region 6 with (first
          | (with_reducible refine wpl_load 43 _ rfl rfl ?_ lda ?_
             · rfl
             simp only [Act.put, List.getElem_toArray, List.getElem_cons_zero, List.getElem_cons_succ, List.setIfInBounds_toArray, List.set_cons_zero, List.set_cons_succ])
          | (with_reducible refine wpl_alloc 43 rfl rfl (zeroFile _) ?_
             simp only [World.size_alloc, Act.put, List.getElem_toArray, List.getElem_cons_zero, List.getElem_cons_succ, List.setIfInBounds_toArray, List.set_cons_zero, List.set_cons_succ])
          | (with_reducible refine wpl_store 43 _ _ rfl rfl ?_ ?_ sta ?_
             · rfl
             · rfl
             simp only [Act.put, List.getElem_toArray, List.getElem_cons_zero, List.getElem_cons_succ, List.setIfInBounds_toArray, List.set_cons_zero, List.set_cons_succ]))
        have ha6 := heap_last wr (.cells #[.string f.path, .slice a3 f.bytes.length c3] 43)
        have k6 : Kept (fun _ => False) wr (wr.alloc (.cells #[.string f.path, .slice a3 f.bytes.length c3] 43)) := (Kept.refl _ wr).alloc _
        generalize wr.alloc (.cells #[.string f.path, .slice a3 f.bytes.length c3] 43) = W6 at ha6 k6 ⊢
        have hz6 := (Array.getElem?_eq_some_iff.1 ha6).1
        generalize wr.heap.size = X1 at ha6 hz6 ⊢
        have ldb := load_file (rangeAt_stay k6 hbl2 not_false hry)
        have stb := store_file (w := W6) (p := g.path) (a := a4) (n := g.bytes.length) (c := c4)
        clear lda sta hrx hry
        go_upto_region 7 with (first
          | (with_reducible refine wpl_load 43 _ rfl rfl ?_ ldb ?_
             · rfl
             simp only [Act.put, List.getElem_toArray, List.getElem_cons_zero, List.getElem_cons_succ, List.setIfInBounds_toArray, List.set_cons_zero, List.set_cons_succ])
          | (with_reducible refine wpl_alloc 43 rfl rfl (zeroFile _) ?_
             simp only [World.size_alloc, Act.put, List.getElem_toArray, List.getElem_cons_zero, List.getElem_cons_succ, List.setIfInBounds_toArray, List.set_cons_zero, List.set_cons_succ])
          | (with_reducible refine wpl_store 43 _ _ rfl rfl ?_ ?_ stb ?_
             · rfl
             · rfl
             simp only [Act.put, List.getElem_toArray, List.getElem_cons_zero, List.getElem_cons_succ, List.setIfInBounds_toArray, List.set_cons_zero, List.set_cons_succ]))
        have hb7 := heap_last W6 (.cells #[.string g.path, .slice a4 g.bytes.length c4] 43)
        have k7 : Kept (fun _ => False) W6 (W6.alloc (.cells #[.string g.path, .slice a4 g.bytes.length c4] 43)) := (Kept.refl _ W6).alloc _
        have ha7 := (k7.block _ hz6 not_false).trans ha6
        generalize W6.alloc (.cells #[.string g.path, .slice a4 g.bytes.length c4] 43) = W7 at hb7 k7 ha7 ⊢
        generalize W6.heap.size = X2 at hb7 ⊢
        have l1 := load_row (P := Try.prog) (ty := 43) Try.underlying43 rfl ha7 (by kernel_rfl)
        have l2 := load_row (P := Try.prog) (ty := 43) Try.underlying43 rfl hb7 (by kernel_rfl)
        have s1 := same1_ct (hB.kept (k6.trans k7)) (hB2.kept (k6.trans k7)) (f := f) (g := g)
        have kw7 := (hkr.trans k6).trans k7
        clear ldb stb ha6 ha7 hb7
        go_wp2_with (first
          | (with_reducible refine wpl_load 43 _ rfl rfl ?_ l1 ?_
             · rfl
             simp only [Act.put, List.getElem_toArray, List.getElem_cons_zero, List.getElem_cons_succ, List.setIfInBounds_toArray, List.set_cons_zero, List.set_cons_succ])
          | (with_reducible refine wpl_load 43 _ rfl rfl ?_ l2 ?_
             · rfl
             simp only [Act.put, List.getElem_toArray, List.getElem_cons_zero, List.getElem_cons_succ, List.setIfInBounds_toArray, List.set_cons_zero, List.set_cons_succ]))
        refine s1.mono ?_
        rintro e W8 ⟨rfl, k8⟩
        clear l1 l2 s1
        generalize heq : eqF f g = r at NX ⊢
        cases r with
        | true =>
          go_wp2_with fail
          go_roundw
          case rel => exact ⟨k + 1, by omega, by go_num, NX.out, kw7.trans k8⟩
          case measure => simp [intOf]; omega
        | false =>
          go_wp2_with fail
          go_ret
          exact ⟨by rw [HS.out, sameTo_no NX.out _ hlt] <;> rfl, kw7.trans k8⟩
      · obtain rfl : k = la.length := by omega
        go_wp2_with fail
        go_ret
        exact ⟨by rw [HS.out, SK.out] <;> rfl, hkr⟩
  · have hs : sameB la lb = false := by unfold sameB; rw [beq_eq_false_iff_ne.2 hn]; rfl
    have HS := Lib.hid hs
    have en : ((la.length : Int) != (lb.length : Int)) = true := by simp; omega
    clear hs hn
    go_enter Try.func41, Try.ntmps41
    go_wp2_with fail
    go_ret
    exact ⟨by rw [HS.out] <;> rfl, Kept.refl _ _⟩

set_option maxRecDepth 100000 in
set_option maxHeartbeats 2000000 in
theorem same_ctL {w : World} {va vb : Value} {la lb : List FileE} (ha : TreeAt w va la) (hb : TreeAt w vb lb) (hl : la.length ≤ 140737488351232) (hl2 : lb.length ≤ 140737488351232) :
    Calls Try.prog 19 #[va, vb] w fun e w' => e = .returned (.bool (sameB la lb)) ∧ Kept (fun _ => False) w w' := by
  have ec := equalFunc_ctL ha hb hl hl2
  obtain ⟨a, c, hv⟩ := ha.slc
  subst hv
  obtain ⟨b, d, hy⟩ := hb.slc
  subst hy
  go_enter Try.func19, Try.ntmps19
  go_wp2_with fail
  refine ec.mono ?_
  rintro e W ⟨rfl, k1⟩
  go_wp2_with fail
  go_ret
  exact ⟨rfl, k1⟩

def pickL (c : Nat) (l : List FileE) : List FileE := if c = 0 then l else []
/-- A tree and an error's number, in memory made at base or later. -/
def FormS (base c : Nat) (l : List FileE) (w : World) (e : Ending) : Prop := ∃ a n cap, e = .returned (.tuple #[.slice a n cap, .int .i64 c]) ∧ n = l.length ∧ TreeAt w (.slice a n cap) l ∧ OwnT base w (.slice a n cap) n
def Form (c : Nat) (l : List FileE) (w : World) (e : Ending) : Prop := ∃ a n cap, e = .returned (.tuple #[.slice a n cap, .int .i64 c]) ∧ n = l.length ∧ TreeAt w (.slice a n cap) l
theorem form_of {c : Nat} {l : List FileE} {w : World} {e : Ending} (h : TreeOut c l w e) : Form c (pickL c l) w e := by
  rcases h with ⟨hc, rfl⟩ | ⟨rfl, v', rfl, ht⟩
  · unfold pickL; rw [if_neg hc]; exact ⟨none, 0, 0, rfl, rfl, TreeAt.nil w 0⟩
  · obtain ⟨a, cap, rfl⟩ := ht.slc
    exact ⟨a, _, cap, rfl, rfl, ht⟩
theorem formS_of {base c : Nat} {l : List FileE} {w : World} {e : Ending} (h : TreeOutS base c l w e) : FormS base c (pickL c l) w e := by
  rcases h with ⟨hc, rfl⟩ | ⟨rfl, v', rfl, ht, hO⟩
  · unfold pickL; rw [if_neg hc]; exact ⟨none, 0, 0, rfl, rfl, TreeAt.nil w 0, OwnT.nil _ _⟩
  · obtain ⟨a, cap, rfl⟩ := ht.slc
    exact ⟨a, _, cap, rfl, rfl, ht, hO⟩
theorem with_form {w : World} {v x : Value} {l : List FileE} (h : TreeAt w v l) (s : ByteArray) (hs : s.size ≤ maxLen) {b : List UInt8} (hb : ByAt w x b) :
    Calls Try.prog 21 #[v, .string s, x] w fun e w' => FormS w.heap.size (withC l s b) (pickL (withC l s b) (withL l s b)) w' e ∧ Kept (fun _ => False) w w' := by
  refine (with_ctS h s hs hb).mono fun e w' ⟨h1, h2⟩ => ⟨formS_of ?_, h2⟩
  unfold withC
  rcases h1 with ⟨q, he⟩ | ⟨q, q2, he⟩ | ⟨q, q2, v', he, ht, hO⟩
  · rw [if_pos q]; exact .inl ⟨by omega, he⟩
  · rw [if_neg (by rw [q]; simp), if_pos q2]; exact .inl ⟨by omega, he⟩
  · rw [if_neg (by rw [q]; simp), if_neg (by rw [q2]; simp)]; exact .inr ⟨rfl, v', he, ht, hO⟩
theorem under_form {w : World} {v : Value} {l : List FileE} (h : TreeAt w v l) (d : ByteArray) (hd : d.size ≤ maxLen) :
    Calls Try.prog 18 #[v, .string d] w fun e w' => FormS w.heap.size (underC l d) (pickL (underC l d) (l.map (upF d))) w' e ∧ Kept (fun _ => False) w w' := by
  cases hn : mayB l && pathB d with
  | false =>
    refine (not_path_under h d hd hn).mono fun e w' ⟨h1, h2⟩ => ⟨formS_of (.inl ⟨?_, ?_⟩), h2⟩
    · unfold underC; rw [if_pos hn]; omega
    · unfold underC; rw [if_pos hn]; exact h1
  | true =>
    have hn2 := hn
    rw [Bool.and_eq_true] at hn2
    refine (under_ctS h hn2.1 hn2.2).mono fun e w' ⟨h1, h2⟩ => ⟨formS_of ?_, h2⟩
    unfold underC
    rw [if_neg (by rw [hn]; simp)]
    rcases h1 with ⟨m, v', e1, t, hO⟩ | ⟨m, e1⟩
    · rw [if_neg (by rw [m]; simp)]; exact .inr ⟨rfl, v', e1, t, by rw [List.length_map]; exact hO⟩
    · rw [if_pos m]; exact .inl ⟨by omega, e1⟩
theorem join_form {w : World} {va vb : Value} {la lb : List FileE} (ha : TreeAt w va la) (hb : TreeAt w vb lb) :
    Calls Try.prog 24 #[va, vb] w fun e w' => FormS w.heap.size (joinC la lb) (pickL (joinC la lb) (joinO la lb)) w' e ∧ Kept (fun _ => False) w w' :=
  (joined_ctS ha hb).mono fun e w' ⟨h1, h2⟩ => ⟨formS_of h1, h2⟩
/-- What Get gives, in one form. -/
theorem get_form2 {base : Nat} {l : List FileE} {s : ByteArray} {w : World} {e : Ending} (h : GetIsS base l s w e) : ∃ a n cap gl, e = .returned (.tuple #[.slice a n cap, .bool (mayB l && thereB l s)]) ∧ n = gl.length ∧ ByAt w (.slice a n cap) gl ∧ OwnBy base w (.slice a n cap) n ∧
    ((mayB l && thereB l s) = true → ∃ f, f ∈ l ∧ f.path = s ∧ f.bytes = gl ∧ gl.length ≤ 2000) ∧ ((mayB l && thereB l s) = false → gl = []) := by
  rcases h with ⟨v, f, hm, hf, he, hb, hO⟩ | ⟨hn, he⟩
  · obtain ⟨a, cap, rfl⟩ := hb.slc
    have hm2 := hm
    rw [Bool.and_eq_true] at hm2
    obtain ⟨g, hg, hgs⟩ := pos_there hm2.2
    rw [hf] at hg; injection hg with hg; subst hg
    exact ⟨a, _, cap, f.bytes, by rw [he, hm], rfl, hb, hO, fun _ => ⟨f, List.mem_of_getElem? hf, hgs, rfl, ((mayIs hm2.1).file f (List.mem_of_getElem? hf)).2.2⟩, fun q => by rw [hm] at q; cases q⟩
  · exact ⟨none, 0, 0, [], by rw [he, hn], rfl, ByAt.nil _ 0, (⟨[], World.ownsRow_nil _ _ _ _⟩ : OwnBy base w (.slice none 0 0) 0), fun q => (by rw [hn] at q; cases q), fun _ => rfl⟩
/-- Find, where the tree may be. -/
theorem find_may {l : List FileE} {s : ByteArray} {z : Int} (hz : FindIs l s z) (hm : mayB l = true) : (thereB l s = true ∧ ∃ (i : Nat) (f : FileE), z = i ∧ l[i]? = some f ∧ f.path = s) ∨ (thereB l s = false ∧ z = -1) := by
  rcases hz with ⟨i, f, h1, h2, h3⟩ | ⟨h1, h2⟩
  · refine .inl ⟨?_, i, f, h1, h2, h3⟩
    rw [← h3]; exact there_at hm h2
  · refine .inr ⟨?_, h1⟩
    rw [Bool.eq_false_iff]
    intro ht
    obtain ⟨f, hf, hfs⟩ := pos_there ht
    exact h2 f (List.mem_of_getElem? hf) hfs
theorem same_file {l : List FileE} (h : mayB l = true) {f g : FileE} (hf : f ∈ l) (hg : g ∈ l) (he : f.path = g.path) : f = g := by
  have h1 := (get_at h hf).2
  have h2 := (get_at h hg).2
  rw [he, h2] at h1
  injection h1 with h1
  exact h1.symm
theorem kept_end {S : Nat → Prop} {w w' : World} (h : Kept S w w') (hS : ∀ k, S k → w.heap.size ≤ k) : Kept (fun _ => False) w w' := h.mono (fun k hk hs => by have := hS k hs; omega)
end Go.Proofs.Ytehpaddddiigbaa
