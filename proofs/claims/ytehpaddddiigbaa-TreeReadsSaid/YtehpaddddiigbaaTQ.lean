/- The document's Bytes. -/
import Derived.Test.YtehpaddddiigbaaTP
namespace Go.Proofs.Ytehpaddddiigbaa
open Go.RowKit
set_option linter.unusedSimpArgs false
set_option linter.unusedVariables false

/-- What comes of a row that is read. -/
def BOut (w0 w : World) (i : Nat) (res : Option (List UInt8 × Nat)) (e : Ending) : Prop := match res with
  | some (ds, k) => ∃ x, e = .returned (.tuple #[x, .int .i64 ((i + k : Nat) : Int), .int .i64 0]) ∧ w.ownsRow w0.heap.size 5 1 x ds.length (bv ds)
  | none => ∃ x : Int, (x != 0) = true ∧ e = .returned (.tuple #[.slice none 0 0, .int .i64 0, .int .i64 x])
theorem BOut.no {w0 w : World} {i : Nat} {res : Option (List UInt8 × Nat)} {x : Int} (h : res = none) (hx : (x != 0) = true) : BOut w0 w i res (.returned (.tuple #[.slice none 0 0, .int .i64 0, .int .i64 x])) := by subst h; exact ⟨x, hx, rfl⟩
theorem byt1 {w : World} {g c : Nat} {b : UInt8} {t : TypeId} {fr : Nat × Nat} (h : w.heap[g]? = some (.cells #[.int .u8 b.toNat] t fr)) : ByAt w (.slice (some ⟨g, 0, none⟩) 1 c) [b] :=
  ⟨_, c, rfl, by simp [maxLen], fun _ => ⟨g, 0, rfl, (Array.getElem?_eq_some_iff.1 h).1, fun i u hu => by
    rw [cell_of_row _ _ _ _ _ _ h, ← hu]
    simp [bv]⟩⟩
theorem bslice_b1 (m : Int) (w : World) : (Instr.buildSlice 25 1 #[(0, .int .u8 m)]).run Try.prog w = .ok (.slice (some ⟨w.heap.size, 0, none⟩) 1 1) (w.alloc (.cells #[.int .u8 m] 5)) := by kernel_rfl

set_option maxRecDepth 100000 in
set_option maxHeartbeats 4000000 in
theorem rBytes_ct {w : World} {v : Value} {l : List UInt8} (h : ByAt w v l) {i : Nat} (hi : i ≤ l.length) (hl : l.length ≤ 100000) {m : Nat} (hm : m ≤ 100000) :
    Calls Try.prog 36 #[v, .int .i64 i, .int .i64 m] w fun e w' => Kept (fun _ => False) w w' ∧ BOut w w' i (bytesS (l.drop i) m) e := by
  have uc := rUint_ct h hi hl
  have hd : (l.drop i).length = l.length - i := by simp
  obtain ⟨a, c, hv⟩ := h.slc
  subst hv
  generalize hbs : bytesS (l.drop i) m = res
  unfold bytesS at hbs
  cases hu : uintS (l.drop i) with
  | none =>
    rw [hu] at uc hbs
    unfold UOut at uc
    dsimp only at uc hbs
    have HB := Lib.hid hbs.symm
    clear hu hd hbs
    go_enter Try.func36, Try.ntmps36
    go_wp2_with fail
    refine uc.mono ?_
    rintro e W ⟨hW, x, hx, rfl⟩
    subst hW
    go_wp2_with fail
    go_ret3
    exact ⟨Kept.refl _ _, BOut.no HB.out (by simpa using hx)⟩
  | some nk =>
    obtain ⟨n, k⟩ := nk
    obtain ⟨hk, hn8⟩ := uintS_le hu
    rw [hd] at hk
    have hn9 : n < 18446744073709551616 := by simpa using hn8
    rw [hu] at uc hbs
    unfold UOut at uc
    dsimp only at uc hbs
    clear hu hn8
    have wm : IntKind.u64.wrap (m : Int) = m := IntWalk.u64_in _ (by omega)
    have m0 : decide ((m : Int) < 0) = false := decide_eq_false (by omega)
    obtain ⟨j, hj⟩ : ∃ j, i + k = j := ⟨_, rfl⟩
    rw [hj] at uc
    have hjl : j ≤ l.length := by omega
    have e1 : (l.drop i).length - k = l.length - j := by rw [hd]; omega
    have hdd : (l.drop i).drop k = l.drop j := by rw [List.drop_drop, hj]
    rw [e1, hdd] at hbs
    by_cases c1 : m < n
    · rw [if_pos c1] at hbs
      have HB := Lib.hid hbs.symm
      have d1 : decide ((m : Int) < (n : Int)) = true := decide_eq_true (by omega)
      clear hbs hd e1 hdd hj hk
      go_enter Try.func36, Try.ntmps36
      go_wp2_with fail
      refine uc.mono ?_
      rintro e W ⟨hW, rfl⟩
      subst hW
      go_wp2_with fail
      go_ret3
      exact ⟨Kept.refl _ _, BOut.no HB.out (by decide)⟩
    rw [if_neg c1] at hbs
    have HB := Lib.hid hbs
    have d1 : decide ((m : Int) < (n : Int)) = false := decide_eq_false (by omega)
    have d1n : decide (m < n) = false := decide_eq_false (by omega)
    have wn : IntKind.i64.wrap (n : Int) = n := IntWalk.i64_in _ (by omega)
    have hnm : n ≤ m := by omega
    have HK := Lib.hid (show i + (k + n) = j + n by omega)
    have HJ := Lib.hid hjl
    clear hbs hd e1 hdd hj hk c1
    go_enter Try.func36, Try.ntmps36
    go_wp2_with fail
    refine uc.mono ?_
    rintro e W ⟨hW, rfl⟩
    subst hW
    go_wp2_with fail
    go_loopw [12, 13] (fun y x wr => ∃ q : Nat, q ≤ n ∧ x = .int .i64 q ∧ wr.ownsRow W.heap.size 5 1 y q (bv ((l.drop j).take q)) ∧ j + q ≤ l.length ∧ Kept (fun _ => False) W wr) (fun _ x _ => n - (intOf x).toNat)
    case atStart => exact ⟨0, by omega, rfl, World.ownsRow_nil _ _ _ _, by omega, Kept.refl _ _⟩
    case round =>
      obtain ⟨q, hq, rfl, ho, hjq, hkr⟩ := hrel
      obtain ⟨p, hp⟩ : ∃ p : Nat, p = j + q := ⟨_, rfl⟩
      have wp : IntKind.i64.wrap ((j : Int) + (q : Int)) = (p : Int) := by rw [IntWalk.i64_in _ (by omega)]; omega
      by_cases hlt : q < n
      · by_cases hlp : l.length ≤ p
        · have dp : decide ((l.length : Int) ≤ (p : Int)) = true := decide_eq_true (by omega)
          have hr0 : res = none := by rw [← HB.out, if_pos (by omega)]
          have HR := Lib.hid hr0
          obtain ⟨ao, co, hvo⟩ := row_form ho
          subst hvo
          clear hr0 hp ho hjq
          go_wp2_with fail
          go_ret3
          exact ⟨hkr, BOut.no HR.out (by decide)⟩
        · have dp : decide ((l.length : Int) ≤ (p : Int)) = false := decide_eq_false (by omega)
          have hpl : p < l.length := by omega
          have hpl2 : (p : Int) < (l.length : Int) := by omega
          have hc0 : l[p]? = some l[p] := List.getElem?_eq_getElem hpl
          have htk : (l.drop j).take (q + 1) = (l.drop j).take q ++ [l[p]] := by
            have hql : q < (l.drop j).length := by rw [List.length_drop]; omega
            rw [List.take_succ_eq_append_getElem hql]
            congr 2
            rw [List.getElem_drop]
            congr 1; omega
          obtain ⟨b, o, ha1, hb, hcells⟩ := h.cells (fun e => by subst e; simp at hpl)
          have cd : wr.cell? ⟨b, o + p, none⟩ = some (.int .u8 l[p].toNat) := (hkr.cell (p := ⟨b, o + p, none⟩) hb not_false).trans (hcells p _ (by unfold bv; rw [List.getElem?_map, hc0]; rfl))
          subst ha1
          generalize l[p] = d at cd htk
          have HT := Lib.hid htk
          have b5 := bslice_b1 d.toNat wr
          have k5 : Kept (fun _ => False) wr (wr.alloc (.cells #[.int .u8 d.toNat] 5)) := (Kept.refl _ wr).alloc _
          have h5 := heap_last wr (.cells #[.int .u8 d.toNat] 5)
          generalize wr.alloc (.cells #[.int .u8 d.toNat] 5) = W5 at b5 k5 h5
          have ho5 := row_kept ho k5
          obtain ⟨v6, W6, ap6, ho6, hg6⟩ := app_by ho5 (byt1 (c := 1) h5) (by simp; omega) (Nat.le_trans hkr.size k5.size) 25
          have k6 : Kept (fun _ => False) W W6 := grown_kept (hkr.trans k5) hg6 (fun k e => (World.ownsRow.lt ho5 k e).1)
          rw [List.length_singleton, ← bv_app, ← HT.out] at ho6
          obtain ⟨ao, co, hvo⟩ := row_form ho
          subst hvo
          obtain ⟨a6, c6, hv6⟩ := row_form ho6
          subst hv6
          have HO := Lib.hid ho6
          have HQ := Lib.hid (show j + (q + 1) ≤ l.length by omega)
          clear hc0 htk hcells h5 ho5 hg6 k5 ho ho6 hp hjq
          go_wp2_with (first
            | (with_reducible refine wpl_bslice 25 _ _ rfl rfl ?_ b5 ?_
               · (go_simp <;> rfl)
               simp only [Act.put, List.getElem_toArray, List.getElem_cons_zero, List.getElem_cons_succ, List.setIfInBounds_toArray, List.set_cons_zero, List.set_cons_succ])
            | (refine wpl_val rfl (exec_append 25 _ _ rfl rfl rfl ap6) ?_))
          go_roundw
          case rel => exact ⟨q + 1, by omega, by go_num, HO.out, HQ.out, k6⟩
          case measure => simp [intOf]; omega
      · obtain rfl : q = n := by omega
        obtain ⟨ao, co, hvo⟩ := row_form ho
        subst hvo
        have hlen : ((l.drop j).take q).length = q := by rw [List.length_take, List.length_drop]; omega
        have hr : res = some ((l.drop j).take q, k + q) := by rw [← HB.out, if_neg (by omega)]
        have HR := Lib.hid hr
        have HL := Lib.hid hlen
        have HP := Lib.hid hp
        clear hr hlen hjq hp
        go_wp2_with fail
        go_ret3
        refine ⟨hkr, ?_⟩
        rw [HR.out]
        unfold BOut
        exact ⟨_, by rw [HK.out, ← HP.out]; rfl, by rw [HL.out]; exact ho⟩
end Go.Proofs.Ytehpaddddiigbaa
