/- wire.Uint. -/
import Derived.Test.YthachckofghppaaDoorTC
namespace Go.Proofs.YthachckofghppaaDoor
open Go.RowKit
set_option maxRecDepth 100000
set_option linter.unusedSimpArgs false
set_option linter.unusedVariables false

/-- ByAt, and the capacity is no less than the length. -/
def ByC (w : World) (v : Value) (l : List UInt8) : Prop := ByAt w v l ∧ ∃ a c, v = .slice a l.length c ∧ l.length ≤ c
theorem ByC.kept {w w' : World} {v : Value} {l : List UInt8} (h : ByC w v l) (hk : Kept (fun _ => False) w w') : ByC w' v l := ⟨h.1.kept hk, h.2⟩
theorem ByAt.cells {w : World} {a : Option Addr} {n c : Nat} {l : List UInt8} (h : ByAt w (.slice a n c) l) (hl : l ≠ []) : ∃ b o, a = some ⟨b, o, none⟩ ∧ b < w.heap.size ∧ w.rangeAt b o (bv l) := by
  obtain ⟨a', c', e, _, h3⟩ := h
  injection e with e1 _ _
  subst e1
  exact h3 hl
theorem sizeOf1 (w : World) : (sizeOf (Tryd.prog.elem 22)).run Tryd.prog w = .ok 1 w := by kernel_rfl
theorem ByC.drop {w : World} {v : Value} {l : List UInt8} (h : ByC w v l) {i : Nat} (hi : i ≤ l.length) : ∃ a' c', (∀ w', (Instr.sliceAt 22 v (some (.int .i64 i)) none none).run Tryd.prog w' = .ok (.slice a' (l.length - i) c') w') ∧ ByC w (.slice a' (l.length - i) c') (l.drop i) := by
  obtain ⟨h1, a, c, rfl, hc⟩ := h
  have hd : (l.drop i).length = l.length - i := by simp
  refine ⟨if c = i then a else a.map (·.add (i * 1)), c - i, fun w' => ?_, ?_, _, _, by rw [hd], by rw [hd]; omega⟩
  · rw [run_sliceAt_slice _ _ _ _ _ _ rfl, run_slice_l _ _ _ _ _ rfl _ _ (by omega) (by omega), sizeOf1]
    simp [Result.andThen, sliced]
  · have h1' := h1
    obtain ⟨_, _, _, hm, _⟩ := h1'
    refine ⟨_, c - i, by rw [hd], by rw [hd]; omega, fun hne => ?_⟩
    have hlne : l ≠ [] := fun e => by subst e; simp at hne
    obtain ⟨b, o, rfl, hb, hr⟩ := h1.cells hlne
    have hlt : i < l.length := by
      rcases Nat.lt_or_ge i l.length with h' | h'
      · exact h'
      · exact absurd (List.drop_eq_nil_of_le h') hne
    rw [if_neg (by omega)]
    refine ⟨b, o + i, by simp [Addr.add], hb, fun j u hu => ?_⟩
    have := hr (i + j) u (by rw [← hu]; simp [bv, List.getElem?_drop])
    rw [show o + i + j = o + (i + j) by omega]; exact this
theorem ByC.take {w : World} {v : Value} {l : List UInt8} (h : ByC w v l) {i : Nat} (hi : i ≤ l.length) : ∃ a' c', (∀ w', (Instr.sliceAt 22 v none (some (.int .i64 i)) none).run Tryd.prog w' = .ok (.slice a' i c') w') ∧ ByC w (.slice a' i c') (l.take i) := by
  obtain ⟨h1, a, c, rfl, hc⟩ := h
  have hd : (l.take i).length = i := by rw [List.length_take]; omega
  refine ⟨a, c, fun w' => ?_, ?_, _, _, by rw [hd], by omega⟩
  · rw [run_sliceAt_slice _ _ _ _ _ _ rfl, run_slice_h _ _ _ _ _ rfl _ _ (by omega) (by omega), sizeOf1]
    cases a with
    | none => simp [Result.andThen, sliced]
    | some a => simp [Result.andThen, sliced, Addr.add]
  · have h1' := h1
    obtain ⟨_, _, _, hm, _⟩ := h1'
    refine ⟨_, c, by rw [hd], by omega, fun hne => ?_⟩
    have hlne : l ≠ [] := fun e => by subst e; simp at hne
    obtain ⟨b, o, rfl, hb, hr⟩ := h1.cells hlne
    refine ⟨b, o, rfl, hb, fun j u hu => ?_⟩
    refine hr j u ?_
    have hj := (List.getElem?_eq_some_iff.1 hu).1
    rw [bv_len, hd] at hj
    rw [← hu]; simp [bv, List.getElem?_take, hj]

/-- A number out of its digits. -/
def beN (ds : List UInt8) : Nat := ds.foldl (fun n d => n * 256 + d.toNat) 0
theorem beN_snoc (ds : List UInt8) (d : UInt8) : beN (ds ++ [d]) = beN ds * 256 + d.toNat := by simp [beN]
theorem beN_acc : ∀ (ds : List UInt8) (n : Nat), ds.foldl (fun n d => n * 256 + d.toNat) n < (n + 1) * 256 ^ ds.length
  | [], n => by simp
  | d :: ds, n => by
    rw [List.foldl_cons, List.length_cons]
    have h1 := beN_acc ds (n * 256 + d.toNat)
    have h2 := d.toNat_lt
    have h3 : (n * 256 + d.toNat + 1) * 256 ^ ds.length ≤ ((n + 1) * 256) * 256 ^ ds.length := Nat.mul_le_mul_right _ (by omega)
    rw [Nat.pow_succ, Nat.mul_comm (256 ^ ds.length) 256, ← Nat.mul_assoc]
    omega
theorem beN_lt (ds : List UInt8) : beN ds < 256 ^ ds.length := by have := beN_acc ds 0; simpa [beN] using this
/-- The number at the head of these bytes, and how many bytes it takes. -/
def uintS : List UInt8 → Option (Nat × Nat)
  | [] => none
  | c :: r => if 8 < c.toNat then none else if 0 < c.toNat ∧ r.head? = some 0 then none else if r.length < c.toNat then none else some (beN (r.take c.toNat), 1 + c.toNat)
set_option maxRecDepth 100000 in
set_option maxHeartbeats 4000000 in
theorem uint_ct {w : World} {v : Value} {l : List UInt8} (h : ByC w v l) {i : Nat} (hi : i ≤ l.length) (hl : l.length ≤ 100000) :
    Calls Tryd.prog 65 #[v, .int .i64 i] w fun e w' => w' = w ∧ match uintS (l.drop i) with
      | some (n, k) => e = .returned (.tuple #[.int .u64 n, .int .i64 ((i + k : Nat) : Int), .int .i64 0])
      | none => ∃ x : Int, (x != 0) = true ∧ e = .returned (.tuple #[.int .u64 0, .int .i64 0, .int .i64 x]) := by
  obtain ⟨a1, c1, s1, h1⟩ := h.drop hi
  obtain ⟨_, a, c, hv, _⟩ := h
  subst hv
  have hd : (l.drop i).length = l.length - i := by simp
  have di1 : decide ((i : Int) < 0) = false := decide_eq_false (by omega)
  have di2 : decide ((l.length : Int) < (i : Int)) = false := decide_eq_false (by omega)
  generalize hr : l.drop i = r at h1 hd
  rw [← hd] at s1 h1
  have HD := Lib.hid hd
  have hlr : r.length ≤ 100000 := by omega
  clear hd hr
  cases r with
  | nil =>
    go_enter Tryd.func65, Tryd.ntmps65
    go_wp2_with fail
    go_ret3
    exact ⟨rfl, 4, rfl, rfl⟩
  | cons d r =>
    have hlr' : r.length ≤ 100000 := by simp at hlr; omega
    obtain ⟨b, o, ha1, hb, hcells⟩ := h1.1.cells (by simp)
    have cd : w.cell? ⟨b, o, none⟩ = some (.int .u8 d.toNat) := hcells 0 _ rfl
    have hcap : r.length + 1 ≤ c1 := by
      obtain ⟨_, a', c', e, hc⟩ := h1
      injection e with _ _ e
      subst e
      simpa using hc
    subst ha1
    have s1' : ∀ w', (Instr.sliceAt 22 (.slice a l.length c) (some (.int .i64 i)) none none).run Tryd.prog w' = .ok (.slice (some ⟨b, o, none⟩) (r.length + 1) c1) w' := s1
    have hz := d.toNat_lt
    clear s1 h1
    generalize hzz : d.toNat = z at cd hz
    have hu : uintS (d :: r) = if 8 < z then none else if 0 < z ∧ r.head? = some 0 then none else if r.length < z then none else some (beN (r.take z), 1 + z) := by rw [← hzz]; rfl
    have e0 : ((r.length : Int) + 1 == 0) = false := by simp; omega
    clear hzz
    by_cases hc1 : c1 = 1
    · subst hc1
      obtain rfl : r = [] := List.eq_nil_of_length_eq_zero (by omega)
      by_cases z8 : 8 < z
      · rw [hu, if_pos z8]
        have d8 : decide ((8 : Int) < (z : Int)) = true := decide_eq_true (by omega)
        clear hu z8 hcells
        go_enter Tryd.func65, Tryd.ntmps65
        go_wp2_with fail
        go_ret3
        exact ⟨rfl, 5, by decide, rfl⟩
      rw [if_neg z8] at hu
      have d8 : decide ((8 : Int) < (z : Int)) = false := decide_eq_false (by omega)
      by_cases z0 : z = 0
      · subst z0
        have hu2 : uintS [d] = some (0, 1) := by rw [hu]; rfl
        rw [hu2]
        clear hu hu2 hcells
        go_enter Tryd.func65, Tryd.ntmps65
        go_wp2_with fail
        go_loopw [4, 56] (fun y x wr => y = .int .u64 0 ∧ x = .int .i64 0 ∧ wr = w) (fun _ _ _ => 0)
        case atStart => exact ⟨rfl, rfl, rfl⟩
        case round =>
          obtain ⟨rfl, rfl, rfl⟩ := hrel
          have wi : IntKind.i64.wrap ((i : Int) + 1) = (i : Int) + 1 := IntWalk.i64_in _ (by omega)
          go_wp2_with fail
          go_ret3
          exact ⟨rfl, by simp⟩
      · have hu2 : uintS [d] = none := by rw [hu, if_neg (by simp), if_pos (by simp; omega)]
        rw [hu2]
        have dz : decide ((0 : Int) < (z : Int)) = true := decide_eq_true (by omega)
        have ez : ((z : Int) == 0) = false := by simp; omega
        have zp : 0 < z := by omega
        have zpi : (0 : Int) < z := by omega
        clear hu hu2 hcells z0
        go_enter Tryd.func65, Tryd.ntmps65
        go_wp2_with fail
        go_ret3
        exact ⟨rfl, 4, by decide, rfl⟩

    cases r with
    | nil =>
      by_cases z8 : 8 < z
      · rw [hu, if_pos z8]
        have d8 : decide ((8 : Int) < (z : Int)) = true := decide_eq_true (by omega)
        clear hu z8 hcells
        go_enter Tryd.func65, Tryd.ntmps65
        go_wp2_with fail
        go_ret3
        exact ⟨rfl, 5, by decide, rfl⟩
      rw [if_neg z8] at hu
      have d8 : decide ((8 : Int) < (z : Int)) = false := decide_eq_false (by omega)
      by_cases z0 : z = 0
      · subst z0
        have hu2 : uintS [d] = some (0, 1) := by rw [hu]; rfl
        rw [hu2]
        clear hu hu2 hcells
        go_enter Tryd.func65, Tryd.ntmps65
        go_wp2_with fail
        go_loopw [4, 56] (fun y x wr => y = .int .u64 0 ∧ x = .int .i64 0 ∧ wr = w) (fun _ _ _ => 0)
        case atStart => exact ⟨rfl, rfl, rfl⟩
        case round =>
          obtain ⟨rfl, rfl, rfl⟩ := hrel
          have wi : IntKind.i64.wrap ((i : Int) + 1) = (i : Int) + 1 := IntWalk.i64_in _ (by omega)
          go_wp2_with fail
          go_ret3
          exact ⟨rfl, by simp⟩
      · have hu2 : uintS [d] = none := by rw [hu, if_neg (by simp), if_pos (by simp; omega)]
        rw [hu2]
        have dz : decide ((0 : Int) < (z : Int)) = true := decide_eq_true (by omega)
        have ez : ((z : Int) == 0) = false := by simp; omega
        have zp : 0 < z := by omega
        have zpi : (0 : Int) < z := by omega
        clear hu hu2 hcells z0
        go_enter Tryd.func65, Tryd.ntmps65
        go_wp2_with fail
        go_ret3
        exact ⟨rfl, 4, by decide, rfl⟩

    | cons q r =>
      by_cases z8 : 8 < z
      · rw [hu, if_pos z8]
        have d8 : decide ((8 : Int) < (z : Int)) = true := decide_eq_true (by omega)
        clear hu z8 hcells
        go_enter Tryd.func65, Tryd.ntmps65
        go_wp2_with fail
        go_ret3
        exact ⟨rfl, 5, by decide, rfl⟩
      rw [if_neg z8] at hu
      have d8 : decide ((8 : Int) < (z : Int)) = false := decide_eq_false (by omega)
      have cq : w.cell? ⟨b, o + 1, none⟩ = some (.int .u8 q.toNat) := hcells 1 _ rfl
      have e1 : ((r.length : Int) + 1 + 1 == 0) = false := by simp; omega
      by_cases hB : 0 < z ∧ q = 0
      · obtain ⟨zp, rfl⟩ := hB
        have hu2 : uintS (d :: 0 :: r) = none := by rw [hu, if_pos ⟨zp, rfl⟩]
        rw [hu2]
        have dz : decide ((0 : Int) < (z : Int)) = true := decide_eq_true (by omega)
        have cq' : w.cell? ⟨b, o + 1, none⟩ = some (.int .u8 0) := cq
        clear hu hu2 hcells cq
        go_enter Tryd.func65, Tryd.ntmps65
        go_wp2_with fail
        go_ret3
        exact ⟨rfl, 5, by decide, rfl⟩
      rw [if_neg (by simpa using hB)] at hu
      have zq : (z = 0 ∧ decide ((0 : Int) < (z : Int)) = false) ∨ (decide ((0 : Int) < (z : Int)) = true ∧ ((q.toNat : Int) == 0) = false) := by
        rcases Nat.eq_zero_or_pos z with h0 | h0
        · exact .inl ⟨h0, decide_eq_false (by omega)⟩
        · refine .inr ⟨decide_eq_true (by omega), ?_⟩
          have : q ≠ 0 := fun e => hB ⟨h0, e⟩
          have : q.toNat ≠ 0 := fun e => this (UInt8.toNat_inj.1 (by simpa using e))
          simpa using this
      by_cases hC : (q :: r).length < z
      · rw [hu, if_pos hC]
        have zp : 0 < z := by omega
        obtain ⟨dz, dq⟩ : decide ((0 : Int) < (z : Int)) = true ∧ ((q.toNat : Int) == 0) = false := by
          rcases zq with ⟨h0, _⟩ | h0
          · omega
          · exact h0
        have dC : decide ((r.length : Int) + 1 < (z : Int)) = true := decide_eq_true (by simp at hC; omega)
        have hCn : r.length + 1 < z := by simp at hC; omega
        have hCi : (r.length : Int) + 1 < (z : Int) := by omega
        clear hu hcells hC zq
        go_enter Tryd.func65, Tryd.ntmps65
        go_wp2_with fail
        go_ret3
        exact ⟨rfl, 4, by decide, rfl⟩
      · rw [hu, if_neg hC]
        have dC : decide ((r.length : Int) + 1 < (z : Int)) = false := decide_eq_false (by simp at hC; omega)
        have hzr : z ≤ r.length + 1 := by simp at hC; omega
        have st3 : ∀ w', (Instr.sliceAt 22 (.slice (some ⟨b, o + 1, none⟩) (r.length + 1) (c1 - 1)) none (some (.int .i64 z)) none).run Tryd.prog w' = .ok (.slice (some ⟨b, o + 1, none⟩) z (c1 - 1)) w' := fun w' => by
          rw [run_sliceAt_slice _ _ _ _ _ _ rfl, run_slice_h _ _ _ _ _ rfl _ _ (by omega) (by simp at hcap; omega), sizeOf1]
          simp [Result.andThen, sliced, Addr.add]
        have hcd : ∀ (k : Nat) (e : UInt8), (q :: r)[k]? = some e → w.cell? ⟨b, o + 1 + k, none⟩ = some (.int .u8 e.toNat) := fun k e he => by
          have := hcells (1 + k) (.int .u8 e.toNat) (by rw [Nat.add_comm 1 k]; show (bv (q :: r))[k]? = _; unfold bv; rw [List.getElem?_map, he]; rfl)
          rw [← Nat.add_assoc] at this; exact this
        have HCD := Lib.hid hcd
        clear hu hcells hC hB hcd
        generalize q.toNat = qn at cq zq
        go_enter Tryd.func65, Tryd.ntmps65
        rcases zq with ⟨rfl, dz⟩ | ⟨dz, dq⟩
        · go_wp2_with fail
          go_loopw [4, 56] (fun y x wr => y = .int .u64 0 ∧ x = .int .i64 0 ∧ wr = w) (fun _ _ _ => 0)
          case atStart => exact ⟨rfl, rfl, rfl⟩
          case round =>
            obtain ⟨rfl, rfl, rfl⟩ := hrel
            have wi : IntKind.i64.wrap ((i : Int) + 1) = (i : Int) + 1 := IntWalk.i64_in _ (by omega)
            go_wp2_with fail
            go_ret3
            exact ⟨by trivial, by simp [beN]⟩
        · have zp : 0 < z := by have := of_decide_eq_true dz; omega
          have zpi : (0 : Int) < z := by omega
          go_wp2_with fail
          go_loopw [4, 56] (fun y x wr => ∃ k : Nat, k ≤ z ∧ x = .int .i64 k ∧ y = .int .u64 (beN ((q :: r).take k)) ∧ wr = w) (fun _ x _ => z - (intOf x).toNat)
          case atStart => exact ⟨0, by omega, rfl, rfl, rfl⟩
          case round =>
            obtain ⟨k, hk, rfl, rfl, hw⟩ := hrel
            have hw' := hw.symm
            clear hw
            subst hw'
            by_cases hlt : k < z
            · have hkl : k < (q :: r).length := by simp; omega
              have hke : (q :: r)[k]? = some (q :: r)[k] := List.getElem?_eq_getElem hkl
              have hsn : beN ((q :: r).take (k + 1)) = beN ((q :: r).take k) * 256 + ((q :: r)[k]'hkl).toNat := by
                rw [List.take_succ_eq_append_getElem hkl, beN_snoc]
              have hlN := beN_lt ((q :: r).take k)
              have hpow : 256 ^ ((q :: r).take k).length ≤ 256 ^ 7 := Nat.pow_le_pow_right (by omega) (by rw [List.length_take]; omega)
              have hle := ((q :: r)[k]'hkl).toNat_lt
              have hce := HCD.out k _ hke
              generalize ((q :: r)[k]'hkl) = e at hke hsn hle hce
              have hN : beN ((q :: r).take k) < 72057594037927936 := by omega
              generalize beN ((q :: r).take k) = N at hsn hN
              clear hpow hlN
              go_wp2_with fail
              go_roundw
              case rel => exact ⟨k + 1, by omega, by go_num, by rw [hsn]; simp, by trivial⟩
              case measure => simp [intOf]; omega
            · obtain rfl : k = z := by omega
              have wi : IntKind.i64.wrap ((i : Int) + 1) = (i : Int) + 1 := IntWalk.i64_in _ (by omega)
              have wi2 : IntKind.i64.wrap ((i : Int) + 1 + (k : Int)) = (i : Int) + 1 + (k : Int) := IntWalk.i64_in _ (by omega)
              go_wp2_with fail
              go_ret3
              exact ⟨by trivial, by simp; omega⟩
end Go.Proofs.YthachckofghppaaDoor
