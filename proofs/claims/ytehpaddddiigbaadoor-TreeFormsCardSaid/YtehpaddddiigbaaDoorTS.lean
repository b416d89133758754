/- The document's Bytes of a tree. -/
import Derived.Test.YtehpaddddiigbaaDoorTR
namespace Go.Proofs.YtehpaddddiigbaaDoor
open Go.RowKit
set_option maxRecDepth 100000
set_option linter.unusedSimpArgs false
set_option linter.unusedVariables false

/-- A row of bytes grows by these; its list is named. -/
theorem app_by2 {w w0 : World} {base : Nat} {v x : Value} {xs l : List UInt8} (h : w.ownsRow base 5 1 v xs.length (bv xs)) (hx : ByAt w x l) (hn : xs.length + l.length ≤ 1000000) (hk : Kept (fun _ => False) w0 w) (hb : w0.heap.size ≤ base) (hb2 : base ≤ w.heap.size) (ty : TypeId) :
    ∃ a' c' ys w', ys = xs ++ l ∧ (Builtin.append_ #[32, 32] ty #[v, x]).run Tryd.prog w = .ok (.slice a' ys.length c') w' ∧ w'.ownsRow base 5 1 (.slice a' ys.length c') ys.length (bv ys) ∧ Kept (fun _ => False) w0 w' := by
  obtain ⟨v', w', ap, ho, hg⟩ := app_by h hx hn hb2 ty
  rw [← bv_app, ← List.length_append] at ho
  obtain ⟨a', c', rfl⟩ := row_form ho
  exact ⟨a', c', _, w', rfl, ap, ho, grown_kept hk hg (fun k e => Nat.le_trans hb (World.ownsRow.lt h k e).1)⟩

theorem ByC.ownS {w : World} {base n : Nat} {v : Value} {l : List UInt8} (h : w.ownsRow base 5 1 v n (bv l)) : ByC w v l := by
  refine ⟨ByAt.own h, ?_⟩
  have h1 := h.1
  rw [bv_len, Nat.mul_one] at h1
  rcases h.2 with ⟨rfl, rfl⟩ | ⟨g, cap, cur, rfl, _, _, hnc, _⟩
  · exact ⟨none, 0, by rw [h1], by omega⟩
  · exact ⟨_, cap, by rw [h1], by omega⟩
set_option maxRecDepth 100000 in
set_option maxHeartbeats 4000000 in
theorem rRaw_ctC {w : World} {v : Value} {l : List FileE} (h : TreeAt w v l) (hl : l.length ≤ 16) (hf : ∀ f ∈ l, f.path.size ≤ 40 ∧ f.bytes.length ≤ 2000) :
    Calls Tryd.prog 9 #[v] w fun e w' => ∃ v', e = .returned v' ∧ ByC w' v' (rawL l) ∧ Kept (fun _ => False) w w' := by
  obtain ⟨a, c, hv⟩ := h.slc
  subst hv
  have hw : IntKind.u64.wrap (l.length : Int) = l.length := IntWalk.u64_in _ (by omega)
  go_enter Tryd.func9, Tryd.ntmps9
  go_wp2_with fail
  refine (rForm_ct l.length (by omega) w).mono ?_
  rintro e W ⟨v1, rfl, h1, k1⟩
  have hl9 := formL_len l.length
  obtain ⟨F0, hF0⟩ : ∃ F0, F0 = formL l.length := ⟨_, rfl⟩
  rw [← hF0] at h1 hl9
  have HF0 := Lib.hid hF0
  clear hF0
  obtain ⟨a1, c1, hv1⟩ := row_form h1
  subst hv1
  go_wp2_with fail
  go_loopw [3, 4] (fun s i wr => ∃ (k : Nat) (X : List UInt8) (s1 : Option Addr) (s2 : Nat), k ≤ l.length ∧ i = .int .i64 k ∧ s = .slice s1 X.length s2 ∧ X = F0 ++ filesL (l.take k) ∧ wr.ownsRow w.heap.size 5 1 s X.length (bv X) ∧ Kept (fun _ => False) w wr) (fun _ i _ => l.length - (intOf i).toNat)
  case atStart => exact ⟨0, F0, _, _, by omega, rfl, rfl, by simp [filesL], h1, k1⟩
  case round =>
    obtain ⟨k, X, s1, s2, hk, rfl, rfl, hX, ho, hkr⟩ := hrel
    by_cases hlt : k < l.length
    · have hfk : l[k]? = some l[k] := List.getElem?_eq_getElem hlt
      have hft := filesL_take hfk
      have hff := hf l[k] (List.getElem_mem hlt)
      have hlen := filesL_len (l := l.take k) (fun g hg => hf g (List.mem_of_mem_take hg))
      have hXl : X.length ≤ 50000 := by rw [hX, List.length_append]; simp only [List.length_take] at hlen; omega
      have hl1 := formL_len l[k].path.size
      have hl2 := formL_len l[k].bytes.length
      generalize l[k] = f at hfk hft hff hl1 hl2
      obtain ⟨hps, b, o, x, rfl, hbl, hrx, hB⟩ := h.file hfk
      obtain ⟨ab, cb, rfl⟩ := hB.slc
      have q0 : ∀ w', Kept (fun _ => False) w w' → w'.cell? ⟨b, o + k * 2, none⟩ = some (.string f.path) := fun w' q => (q.cell (p := ⟨b, o + k * 2, none⟩) hbl not_false).trans (hrx 0 _ rfl)
      have q1 : ∀ w', Kept (fun _ => False) w w' → w'.cell? ⟨b, o + k * 2 + 1, none⟩ = some (.slice ab f.bytes.length cb) := fun w' q => (q.cell (p := ⟨b, o + k * 2 + 1, none⟩) hbl not_false).trans (hrx 1 _ rfl)
      have e8 : f.path.data.toList.length = f.path.size := by simp
      have wps : IntKind.u64.wrap (f.path.size : Int) = f.path.size := IntWalk.u64_in _ (by omega)
      have wbl : IntKind.u64.wrap (f.bytes.length : Int) = f.bytes.length := IntWalk.u64_in _ (by omega)
      have HX := Lib.hid hX
      have HFT := Lib.hid hft
      obtain ⟨hp40, hb2000⟩ := hff
      have cr := q0 _ hkr
      clear hX hft hlen hrx hfk
      go_wp2_with fail
      refine (rForm_ct f.path.size (by omega) wr).mono ?_
      rintro e W1 ⟨v1, rfl, ho1, kw1⟩
      obtain ⟨a1', c1', hv1⟩ := row_form ho1
      subst hv1
      obtain ⟨a2, c2, X2, W2, hX2, ap2, ho2, k2⟩ := app_by2 (row_kept ho kw1) (ByAt.own ho1) (by omega) (hkr.trans kw1) (Nat.le_refl _) (hkr.trans kw1).size 32
      obtain ⟨v3, W3, cv, h3, k3, a3, n3, c3, hv3⟩ := conv_by W2 f.path hps
      subst hv3
      have hX2l : X2.length ≤ 50020 := by rw [hX2, List.length_append]; omega
      obtain ⟨a4, c4, X4, W4, hX4, ap4, ho4, k4⟩ := app_by2 (row_kept ho2 k3) h3 (by omega) (k2.trans k3) (Nat.le_refl _) (k2.trans k3).size 32
      have hX4l : X4.length ≤ 50100 := by rw [hX4, List.length_append]; omega
      have cr2 := q0 _ k2
      have cr4 := q1 _ k4
      have HX2 := Lib.hid hX2
      have HX4 := Lib.hid hX4
      have HO4 := Lib.hid ho4
      clear ho ho1 ho2 hX2 hX4 h3 ho4 e8
      go_wp2_with (first
        | (refine wpl_val rfl (exec_append 32 _ _ rfl rfl rfl ap2) ?_)
        | (refine wpl_val rfl (exec_conv 9 32 _ rfl rfl cv) ?_)
        | (refine wpl_val rfl (exec_append 32 _ _ rfl rfl rfl ap4) ?_))
      refine (rForm_ct f.bytes.length (by omega) W4).mono ?_
      rintro e W5 ⟨v5, rfl, ho5, kw5⟩
      obtain ⟨a5, c5, hv5⟩ := row_form ho5
      subst hv5
      obtain ⟨a6, c6, X6, W6, hX6, ap6, ho6, k6⟩ := app_by2 (row_kept HO4.out kw5) (ByAt.own ho5) (by omega) (k4.trans kw5) (Nat.le_refl _) (k4.trans kw5).size 32
      have hX6l : X6.length ≤ 50200 := by rw [hX6, List.length_append]; omega
      obtain ⟨a7, c7, X7, W7, hX7, ap7, ho7, k7⟩ := app_by2 ho6 (hB.kept k6) (by omega) k6 (Nat.le_refl _) k6.size 32
      have cr6 := q1 _ k6
      have HXE : Hid (X7 = F0 ++ filesL (l.take (k + 1))) := by
        unfold Hid
        rw [hX7, hX6, HX4.out, HX2.out, HX.out, HFT.out]; simp [List.append_assoc]
      have HO7 := Lib.hid ho7
      clear ho5 ho6 hX6 hX7 ho7
      go_wp2_with (first
        | (refine wpl_val rfl (exec_append 32 _ _ rfl rfl rfl ap6) ?_)
        | (refine wpl_val rfl (exec_append 32 _ _ rfl rfl rfl ap7) ?_))
      go_roundw
      case rel => exact ⟨k + 1, X7, _, _, by omega, by go_num, by rfl, HXE.out, HO7.out, k7⟩
      case measure => simp [intOf]; omega
    · obtain rfl : k = l.length := by omega
      rw [List.take_length] at hX
      have hB := ByC.ownS ho
      rw [hX, HF0.out] at hB
      have hXl : X.length = (formL l.length ++ filesL l).length := by rw [hX, HF0.out]
      have HB := Lib.hid hB
      have HX := Lib.hid hXl
      clear ho hB hXl hX
      go_wp2_with fail
      go_ret
      exact ⟨_, rfl, by have := HB.out; rw [← HX.out] at this; exact this, hkr⟩
theorem rRaw_ct {w : World} {v : Value} {l : List FileE} (h : TreeAt w v l) (hl : l.length ≤ 16) (hf : ∀ f ∈ l, f.path.size ≤ 40 ∧ f.bytes.length ≤ 2000) :
    Calls Tryd.prog 9 #[v] w fun e w' => ∃ v', e = .returned v' ∧ ByAt w' v' (rawL l) ∧ Kept (fun _ => False) w w' :=
  (rRaw_ctC h hl hf).mono fun _ _ ⟨v', he, hb, hk⟩ => ⟨v', he, hb.1, hk⟩
end Go.Proofs.YtehpaddddiigbaaDoor
