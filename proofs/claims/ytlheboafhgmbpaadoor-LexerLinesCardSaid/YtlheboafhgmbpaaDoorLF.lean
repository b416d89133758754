/- strings.Builder in a field of the lexer's reader: copyCheck, WriteRune, String, Reset. -/
import Derived.Test.YtlheboafhgmbpaaDoorLE
import Derived.Lib.Builder
import Derived.Lib.UnsafeStr
import Derived.Laws.Externs
namespace Go.Proofs.YtlheboafhgmbpaaDoor
open Go.RowKit
set_option maxRecDepth 100000
set_option linter.unusedSimpArgs false
set_option linter.unusedVariables false

def rdT : TypeId := 47
theorem size_builder : (Tryd.prog.info? 45).map (·.size) = some 2 := by kernel_rfl
theorem lies_builder : liesAt Tryd.prog Tryd.prog.depth 47 (4 / Tryd.prog.cellsOf 47) 1 45 1 = true := by kernel_rfl
section
variable {w : World} {R : Nat} {s p b ws : Value}
theorem rd_shape (h : w.heap[R]? = some (.cells #[s, p, b, ws] 47 (0, 0))) : w.shape? R = some (47, 4) := by simp [World.shape?, h]
set_option maxHeartbeats 1000000 in
theorem copyCheck_ct (h : w.heap[R]? = some (.cells #[s, p, b, ws] 47 (0, 0))) (hp : p = .pointer none ∨ p = .pointer (some ⟨R, 1, none⟩)) :
    Calls Tryd.prog 39 #[.pointer (some ⟨R, 1, none⟩)] w fun e w' => e = .returned (.tuple #[]) ∧ w'.heap[R]? = some (.cells #[s, .pointer (some ⟨R, 1, none⟩), b, ws] 47 (0, 0)) ∧ Kept (fun k => k = R) w w' := by
  obtain ⟨j, hj, hjs⟩ := Option.map_eq_some_iff.1 size_builder
  have hsh := rd_shape h
  have hR : R < w.heap.size := (Array.getElem?_eq_some_iff.1 h).1
  have c1 : w.cell? ⟨R, 1, none⟩ = some p := by rw [cell_of_row _ _ _ _ _ _ h]; rfl
  have f1 : w.frozen? ⟨R, 1, none⟩ = false := by simp [World.frozen?, h]
  rcases hp with rfl | rfl
  · have hfin : (w.setCell ⟨R, 1, none⟩ (.pointer (some ⟨R, 1, none⟩))).heap[R]? = some (.cells #[s, .pointer (some ⟨R, 1, none⟩), b, ws] 47 (0, 0)) ∧ Kept (fun k => k = R) w (w.setCell ⟨R, 1, none⟩ (.pointer (some ⟨R, 1, none⟩))) :=
      ⟨by rw [heap_setCell_same h]; rfl, (Kept.refl (fun k => k = R) w).setCell (p := ⟨R, 1, none⟩) (fun _ => rfl) _⟩
    have HF := Lib.hid hfin
    clear hfin
    go_enter Tryd.func39, Tryd.ntmps39
    go_wp2_with fail
    rw [Lib.run_to_unsafe w ⟨R, 1, none⟩ Tryd.underlying43 Tryd.underlying80 hj (by rw [hjs]; decide) hsh (show 1 < 4 by decide)]
    simp only [Result.andThen]
    rw [Oper.upon_value]
    go_wp2_with fail
    rw [run_callFunc_extern Tryd.func45 (by kernel_rfl) (by kernel_rfl) (by kernel_rfl) (e := Extern.AbiNoEscape.same) (by kernel_rfl)]
    rw [Lib.run_noEscape]
    simp only [Result.andThen]
    rw [Oper.upon_value]
    go_wp2_with fail
    rw [Lib.run_from_unsafe w ⟨R, 1, none⟩ Tryd.underlying80 Tryd.underlying43 hj hsh lies_builder]
    simp only [Result.andThen]
    rw [Oper.upon_value]
    go_wp2_with fail
    go_end0
    exact ⟨rfl, HF.out⟩
  · go_enter Tryd.func39, Tryd.ntmps39
    go_wp2_with fail
    rw [Lib.run_neq_ptr_same w _ Tryd.underlying43 hj]
    go_wp2_with fail
    go_end0
    exact ⟨rfl, h, Kept.refl _ _⟩
end

theorem row_stay {w w' : World} {base : Nat} {t : TypeId} {z : Nat} {v : Value} {n : Nat} {xs : List Value} {S : Nat → Prop} (h : w.ownsRow base t z v n xs) (hk : Kept S w w') (hS : ∀ k, v.ownBlock = some k → ¬ S k) : w'.ownsRow base t z v n xs := by
  refine ⟨h.1, ?_⟩
  rcases h.2 with h0 | ⟨g, cap, cur, rfl, hb, hg, r⟩
  · exact .inl h0
  · exact .inr ⟨g, cap, cur, rfl, hb, by rw [hk.block g (Array.getElem?_eq_some_iff.1 hg).1 (hS g rfl)]; exact hg, r⟩
theorem own_type {w : World} {base : Nat} {t : TypeId} {z : Nat} {v : Value} {n : Nat} {xs : List Value} (h : w.ownsRow base t z v n xs) {k : Nat} (hk : v.ownBlock = some k) : base ≤ k ∧ ∃ c, w.heap[k]? = some (.cells c t (0, 0)) := by
  rcases h.2 with ⟨rfl, _⟩ | ⟨g, cap, cur, rfl, hb, hg, r⟩
  · cases hk
  · have hk : some g = some k := hk
    injection hk with hk; subst hk
    exact ⟨hb, cur, hg⟩
/-- What the reader's calls may turn: its own block, and rows of bytes or strings from B on. -/
def RS (w : World) (B R k : Nat) : Prop := B ≤ k ∧ (k = R ∨ (∃ c fz, w.heap[k]? = some (.cells c 5 fz)) ∨ ∃ c fz, w.heap[k]? = some (.cells c 9 fz))
theorem RS.trans {B R : Nat} {a b c : World} (h : Kept (RS a B R) a b) (k : Kept (RS b B R) b c) : Kept (RS a B R) a c :=
  ⟨k.os.trans h.os, k.tape.trans h.tape, k.output.trans h.output, Nat.le_trans h.size k.size, fun i hi hs => by
    have e := h.block i hi hs
    refine (k.block i (Nat.lt_of_lt_of_le hi h.size) (fun hq => hs ?_)).trans e
    obtain ⟨h1, h2⟩ := hq
    rw [e] at h2
    exact ⟨h1, h2⟩⟩
theorem RS.row8 {B R : Nat} {w w' : World} {z n : Nat} {v : Value} {xs : List Value} (h : w.ownsRow B 5 z v n xs) (hk : Kept (fun k => v.ownBlock = some k) w w') : Kept (RS w B R) w w' :=
  hk.mono (fun k _ e => by obtain ⟨h1, c, h2⟩ := own_type h e; exact ⟨h1, .inr (.inl ⟨c, _, h2⟩)⟩)
theorem RS.rowS {B R : Nat} {w w' : World} {z n : Nat} {v : Value} {xs : List Value} (h : w.ownsRow B 9 z v n xs) (hk : Kept (fun k => v.ownBlock = some k) w w') : Kept (RS w B R) w w' :=
  hk.mono (fun k _ e => by obtain ⟨h1, c, h2⟩ := own_type h e; exact ⟨h1, .inr (.inr ⟨c, _, h2⟩)⟩)
theorem RS.self {B R : Nat} {w w' : World} (hB : B ≤ R) (hk : Kept (fun k => k = R) w w') : Kept (RS w B R) w w' :=
  hk.mono (fun k _ e => by subst e; exact ⟨hB, .inl rfl⟩)
/-- The reader in memory. -/
def RdAt (w : World) (B R : Nat) (st : RdS) : Prop :=
  B ≤ R ∧ ∃ p b ws, w.heap[R]? = some (.cells #[.int .i64 (st.st : Int), p, b, ws] 47 (0, 0)) ∧ (p = .pointer none ∨ p = .pointer (some ⟨R, 1, none⟩)) ∧
    w.ownsRow B 5 1 b st.word.length (bv st.word) ∧ w.ownsRow B 9 1 ws st.words.length (sv st.words) ∧ (st.word = [] → b = .slice none 0 0)
/-- Rows of bytes or of strings are not the reader's block. -/
theorem not_R {w : World} {B R : Nat} {cs : Array Value} {t : TypeId} {z n : Nat} {v : Value} {xs : List Value} (h : w.ownsRow B t z v n xs) (hR : w.heap[R]? = some (.cells cs 47 (0, 0))) (ht : t ≠ 47) : ∀ k, v.ownBlock = some k → k ≠ R := fun k hk e => by
  subst e
  obtain ⟨_, c, h2⟩ := own_type h hk
  rw [hR] at h2
  injection h2 with h2; injection h2 with _ h2
  exact ht h2.symm
theorem rows_apart {w : World} {B : Nat} {z n m : Nat} {u v : Value} {xs ys : List Value} (h : w.ownsRow B 5 z u n xs) (h2 : w.ownsRow B 9 1 v m ys) : ∀ k, v.ownBlock = some k → ¬ u.ownBlock = some k := fun k hk e => by
  obtain ⟨_, c, q1⟩ := own_type h e
  obtain ⟨_, c2, q2⟩ := own_type h2 hk
  rw [q1] at q2
  injection q2 with q2; injection q2 with _ q2
  exact absurd q2 (by decide)
set_option maxHeartbeats 2000000 in
theorem writeRune_ct {w : World} {B R : Nat} {st : RdS} (h : RdAt w B R st) (hl : st.word.length ≤ 900000) (hBw : B ≤ w.heap.size) {c : Nat} (h1 : c ≤ 1114111) (h2 : c < 55296 ∨ 57343 < c) :
    Calls Tryd.prog 28 #[.pointer (some ⟨R, 1, none⟩), .int .i32 c] w fun e w' => (∃ v, e = .returned v) ∧ RdAt w' B R (st.putR st.st c) ∧ Kept (RS w B R) w w' := by
  obtain ⟨hBR, p, b, ws, hR, hp, hb, hws, _⟩ := h
  have cc := copyCheck_ct hR hp
  obtain ⟨ab, cb, hbf⟩ := row_form hb
  subst hbf
  have hlen : (Lib.encodeRune (c : Int)).length ≤ 4 := by rw [← Lib.runeCells_length]; exact (Lib.runeCells_le _).2
  have hlen1 : 1 ≤ (Lib.encodeRune (c : Int)).length := by rw [← Lib.runeCells_length]; exact (Lib.runeCells_le _).1
  go_enter Tryd.func28, Tryd.ntmps28
  go_wp2_with fail
  refine cc.mono ?_
  rintro e W1 ⟨rfl, hR1, k1⟩
  have hb1 := row_stay hb k1 (fun k hk => not_R hb hR (by decide) k hk)
  have hws1 := row_stay hws k1 (fun k hk => not_R hws hR (by decide) k hk)
  have hB1 : B ≤ W1.heap.size := Nat.le_trans hBw k1.size
  have c2 : W1.cell? ⟨R, 2, none⟩ = some (.slice ab st.word.length cb) := by rw [cell_of_row _ _ _ _ _ _ hR1]; rfl
  have ap := appendRune_ct hb1 hl hB1 (r := (c : Int)) (by omega) (by omega) (by omega)
  clear cc
  go_wp2_with fail
  refine ap.mono ?_
  rintro e W2 ⟨v', rfl, ho, k2⟩
  have hR2 : W2.heap[R]? = some (.cells #[.int .i64 (st.st : Int), .pointer (some ⟨R, 1, none⟩), .slice ab st.word.length cb, ws] 47 (0, 0)) := by
    rw [k2.block R (Array.getElem?_eq_some_iff.1 hR1).1 (fun e => not_R hb1 hR1 (by decide) R e rfl)]; exact hR1
  have hws2 := row_stay hws1 k2 (fun k hk => rows_apart hb1 hws1 k hk)
  have kk2 := RS.trans (RS.self hBR k1) (RS.row8 hb1 k2)
  obtain ⟨av, cv, hvf⟩ := row_form ho
  subst hvf
  have f2 : W2.frozen? ⟨R, 2, none⟩ = false := by simp [World.frozen?, hR2]
  have hR3 : (W2.setCell ⟨R, 2, none⟩ (.slice av (st.word.length + (Lib.encodeRune (c : Int)).length) cv)).heap[R]? = some (.cells #[.int .i64 (st.st : Int), .pointer (some ⟨R, 1, none⟩), .slice av (st.word.length + (Lib.encodeRune (c : Int)).length) cv, ws] 47 (0, 0)) := by
    rw [heap_setCell_same hR2]; rfl
  have k3 : Kept (fun k => k = R) W2 (W2.setCell ⟨R, 2, none⟩ (.slice av (st.word.length + (Lib.encodeRune (c : Int)).length) cv)) := (Kept.refl (fun k => k = R) W2).setCell (p := ⟨R, 2, none⟩) (fun _ => rfl) _
  have c2' : W2.cell? ⟨R, 2, none⟩ = some (.slice ab st.word.length cb) := by rw [cell_of_row _ _ _ _ _ _ hR2]; rfl
  have ho3 := row_stay ho k3 (fun k hk => not_R ho hR2 (by decide) k hk)
  have hws3 := row_stay hws2 k3 (fun k hk => not_R hws2 hR2 (by decide) k hk)
  have kk3 := RS.trans kk2 (RS.self hBR k3)
  have c3 : (W2.setCell ⟨R, 2, none⟩ (.slice av (st.word.length + (Lib.encodeRune (c : Int)).length) cv)).cell? ⟨R, 2, none⟩ = some (.slice av (st.word.length + (Lib.encodeRune (c : Int)).length) cv) := by rw [cell_of_row _ _ _ _ _ _ hR3]; rfl
  have hfin : RdAt (W2.setCell ⟨R, 2, none⟩ (.slice av (st.word.length + (Lib.encodeRune (c : Int)).length) cv)) B R (st.putR st.st c) :=
    ⟨hBR, _, _, _, hR3, .inr rfl, by simpa [RdS.putR] using ho3, hws3, fun e => by
      have := congrArg List.length e
      rw [show (st.putR st.st c).word = st.word ++ Lib.encodeRune (c : Int) from rfl, List.length_append, List.length_nil] at this
      omega⟩
  have HF := Lib.hid (And.intro hfin kk3)
  clear hfin kk3 ho3 hws3 k3 hR3 kk2 hws2 hR2 ap ho k2 hws1 hb1 hR1 k1
  go_wp2_with fail
  go_ret2
  exact ⟨⟨_, rfl⟩, HF.out⟩
end Go.Proofs.YtlheboafhgmbpaaDoor
