/- The document's Form. -/
import Derived.Test.YtehpaddddiigbaaDoorTI
namespace Go.Proofs.YtehpaddddiigbaaDoor
open Go.RowKit
set_option maxRecDepth 100000
set_option linter.unusedSimpArgs false
set_option linter.unusedVariables false
theorem bslice_b1 (m : Int) (w : World) : (Instr.buildSlice 32 1 #[(0, .int .u8 m)]).run Tryd.prog w = .ok (.slice (some ⟨w.heap.size, 0, none⟩) 1 1) (w.alloc (.cells #[.int .u8 m] 5)) := by kernel_rfl

theorem own1 (w : World) (b : UInt8) : (w.alloc (.cells #[.int .u8 (b.toNat : Int)] 5)).ownsRow w.heap.size 5 1 (.slice (some ⟨w.heap.size, 0, none⟩) 1 1) 1 (bv [b]) :=
  ⟨by simp [bv], .inr ⟨w.heap.size, 1, _, rfl, Nat.le_refl _, heap_last w _, by simp, by simp [maxLen], rfl, rfl⟩⟩

set_option maxRecDepth 100000 in
set_option maxHeartbeats 4000000 in
theorem rForm_ct (n : Nat) (hn : n < 18446744073709551616) (w : World) :
    Calls Tryd.prog 24 #[.int .u64 n] w fun e w' => ∃ v, e = .returned v ∧ w'.ownsRow w.heap.size 5 1 v (formL n).length (bv (formL n)) ∧ Kept (fun _ => False) w w' := by
  go_enter Tryd.func24, Tryd.ntmps24
  go_wp2_with fail
  go_loopw [0, 3] (fun x y wr => ∃ (q m : Nat) (ds : List UInt8), x = .int .u64 m ∧ wr.ownsRow w.heap.size 5 1 y ds.length (bv ds) ∧ ds.length + q = 8 ∧ (∀ f, f = q → beD 8 n = beD f m ++ ds) ∧ m < 256 ^ q ∧ Kept (fun _ => False) w wr) (fun x _ _ => (intOf x).toNat)
  case atStart => exact ⟨8, n, [], rfl, World.ownsRow_nil _ _ _ _, rfl, fun f hf => (by subst hf; simp), by omega, Kept.refl _ _⟩
  case round =>
    obtain ⟨q, m, ds, rfl, ho, hds, hm, hm2, hkr⟩ := hrel
    have hfm := hm q rfl
    have hm64 : m < 18446744073709551616 := Nat.lt_of_lt_of_le hm2 (by
      have : 256 ^ q ≤ 256 ^ 8 := Nat.pow_le_pow_right (by omega) (by omega)
      simpa using this)
    have HD := Lib.hid hds
    have HM := Lib.hid hm2
    have hd8 : ds.length ≤ 8 := by omega
    clear hm hds hm2
    by_cases h0 : m = 0
    · subst h0
      have hb0 : ∀ f, beD f 0 = [] := fun f => by cases f <;> simp [beD]
      rw [hb0, List.nil_append] at hfm
      have hfl : formL n = [UInt8.ofNat ds.length] ++ ds := by unfold formL; rw [hfm]; rfl
      have b5 := bslice_b1 ((UInt8.ofNat ds.length).toNat : Int) wr
      have k5 : Kept (fun _ => False) wr (wr.alloc (.cells #[.int .u8 ((UInt8.ofNat ds.length).toNat : Int)] 5)) := (Kept.refl _ wr).alloc _
      have ho3 : (wr.alloc (.cells #[.int .u8 ((UInt8.ofNat ds.length).toNat : Int)] 5)).ownsRow wr.heap.size 5 1 (.slice (some ⟨wr.heap.size, 0, none⟩) 1 1) 1 (bv [UInt8.ofNat ds.length]) := own1 wr _
      have hB := ByAt.own (row_kept ho k5)
      have hbyte : ((UInt8.ofNat ds.length).toNat : Int) = (ds.length : Int) := by
        have : (UInt8.ofNat ds.length).toNat = ds.length := by simp; omega
        rw [this]
      generalize wr.alloc (.cells #[.int .u8 ((UInt8.ofNat ds.length).toNat : Int)] 5) = W5 at b5 k5 ho3 hB
      obtain ⟨v6, W6, ap6, ho6, hg6⟩ := app_by ho3 hB (by omega) k5.size 32
      have k6 : Kept (fun _ => False) wr W6 := grown_kept k5 hg6 (fun k e => (World.ownsRow.lt ho3 k e).1)
      rw [← bv_app, ← hfl, show 1 + ds.length = (formL n).length by rw [hfl]; simp; omega] at ho6
      obtain ⟨ao, co, hvo⟩ := row_form ho
      subst hvo
      obtain ⟨a6, c6, hv6⟩ := row_form ho6
      subst hv6
      have HO := Lib.hid (own_base ho6 hkr.size)
      rw [hbyte] at b5
      clear ho3 hB hg6 ho ho6 hfl hfm hb0 hbyte
      go_wp2_with (first
        | (with_reducible refine wpl_bslice 32 _ _ rfl rfl ?_ b5 ?_
           · (go_simp <;> rfl)
           simp only [Act.put, List.getElem_toArray, List.getElem_cons_zero, List.getElem_cons_succ, List.setIfInBounds_toArray, List.set_cons_zero, List.set_cons_succ])
        | (refine wpl_val rfl (exec_append 32 _ _ rfl rfl rfl ap6) ?_))
      go_ret
      exact ⟨_, rfl, HO.out, hkr.trans k6⟩
    · obtain ⟨r, rfl⟩ : ∃ r, q = r + 1 := by
        rcases Nat.eq_zero_or_pos q with h' | h'
        · have := HM.out; subst h'; simp at this; omega
        · exact ⟨q - 1, by omega⟩
      have hm0 : decide ((0 : Int) < (m : Int)) = true := decide_eq_true (by omega)
      have hmp : 0 < m := by omega
      have hfl : beD 8 n = beD r (m / 256) ++ ([UInt8.ofNat (m % 256)] ++ ds) := by
        rw [hfm]
        conv => lhs; unfold beD
        rw [if_neg h0, List.append_assoc]
      have hlt : Hid (m / 256 < 256 ^ r) := by
        have h1 := HM.out
        have : 256 ^ (r + 1) = 256 ^ r * 256 := Nat.pow_succ ..
        unfold Hid
        exact Nat.div_lt_of_lt_mul (by omega)
      obtain ⟨z, hz⟩ : ∃ z : UInt8, z = UInt8.ofNat (m % 256) := ⟨_, rfl⟩
      have hbyte : (z.toNat : Int) = (m : Int) % 256 := by
        have : z.toNat = m % 256 := by rw [hz]; simp
        rw [this]; omega
      rw [← hz] at hfl
      have b5 := bslice_b1 (z.toNat : Int) wr
      have k5 : Kept (fun _ => False) wr (wr.alloc (.cells #[.int .u8 (z.toNat : Int)] 5)) := (Kept.refl _ wr).alloc _
      have ho3 : (wr.alloc (.cells #[.int .u8 (z.toNat : Int)] 5)).ownsRow wr.heap.size 5 1 (.slice (some ⟨wr.heap.size, 0, none⟩) 1 1) 1 (bv [z]) := own1 wr _
      have hB := ByAt.own (row_kept ho k5)
      generalize wr.alloc (.cells #[.int .u8 (z.toNat : Int)] 5) = W5 at b5 k5 ho3 hB
      obtain ⟨v6, W6, ap6, ho6, hg6⟩ := app_by ho3 hB (by omega) k5.size 32
      have k6 : Kept (fun _ => False) wr W6 := grown_kept k5 hg6 (fun k e => (World.ownsRow.lt ho3 k e).1)
      rw [← bv_app, show 1 + ds.length = ([z] ++ ds).length by simp; omega] at ho6
      obtain ⟨ao, co, hvo⟩ := row_form ho
      subst hvo
      obtain ⟨a6, c6, hv6⟩ := row_form ho6
      subst hv6
      have HO := Lib.hid (own_base ho6 hkr.size)
      have HF := Lib.hid hfl
      have HL := Lib.hid (show ([z] ++ ds).length + r = 8 by have := HD.out; simp; omega)
      generalize ([z] ++ ds) = ds' at *
      rw [hbyte] at b5
      clear ho3 hB hg6 ho ho6 hfl hfm hbyte hd8 hz HD HM
      go_wp2_with (first
        | (with_reducible refine wpl_bslice 32 _ _ rfl rfl ?_ b5 ?_
           · (go_simp <;> rfl)
           simp only [Act.put, List.getElem_toArray, List.getElem_cons_zero, List.getElem_cons_succ, List.setIfInBounds_toArray, List.set_cons_zero, List.set_cons_succ])
        | (refine wpl_val rfl (exec_append 32 _ _ rfl rfl rfl ap6) ?_))
      go_roundw
      case rel => exact ⟨r, m / 256, ds', by go_num, HO.out, HL.out, fun f hf => (by subst hf; exact HF.out), hlt.out, hkr.trans k6⟩
      case measure => simp [intOf]; omega
end Go.Proofs.YtehpaddddiigbaaDoor
