/- The document's Uint. -/
import Derived.Test.YtehpaddddiigbaaTI
namespace Go.Proofs.Ytehpaddddiigbaa
open Go.RowKit
set_option linter.unusedSimpArgs false
set_option linter.unusedVariables false

/-- What comes of a number that is read. -/
def UOut (i : Nat) (res : Option (Nat × Nat)) (e : Ending) : Prop := match res with
  | some (n, k) => e = .returned (.tuple #[.int .u64 n, .int .i64 ((i + k : Nat) : Int), .int .i64 0])
  | none => ∃ x : Int, (x != 0) = true ∧ e = .returned (.tuple #[.int .u64 0, .int .i64 0, .int .i64 x])
theorem UOut.no {i : Nat} {res : Option (Nat × Nat)} {x : Int} (h : res = none) (hx : (x != 0) = true) : UOut i res (.returned (.tuple #[.int .u64 0, .int .i64 0, .int .i64 x])) := by subst h; exact ⟨x, hx, rfl⟩
theorem uintS_cons (d : UInt8) (t : List UInt8) : uintS (d :: t) = if 8 < d.toNat then none else if 0 < d.toNat ∧ t.head? = some 0 then none else if t.length < d.toNat then none else some (beN (t.take d.toNat), 1 + d.toNat) := rfl

set_option maxRecDepth 100000 in
set_option maxHeartbeats 4000000 in
theorem rUint_ct {w : World} {v : Value} {l : List UInt8} (h : ByAt w v l) {i : Nat} (hi : i ≤ l.length) (hl : l.length ≤ 100000) :
    Calls Try.prog 35 #[v, .int .i64 i] w fun e w' => w' = w ∧ UOut i (uintS (l.drop i)) e := by
  obtain ⟨a, c, hv⟩ := h.slc
  subst hv
  have di1 : decide ((i : Int) < 0) = false := decide_eq_false (by omega)
  have di2 : decide ((l.length : Int) < (i : Int)) = false := decide_eq_false (by omega)
  by_cases hil : i < l.length
  · have hd : l.drop i = l[i] :: l.drop (i + 1) := List.drop_eq_getElem_cons hil
    have hc0 : l[i]? = some l[i] := List.getElem?_eq_getElem hil
    rw [hd]
    obtain ⟨b, o, ha1, hb, hcells⟩ := h.cells (fun e => by subst e; simp at hil)
    have hcell : ∀ j d, l[j]? = some d → w.cell? ⟨b, o + j, none⟩ = some (.int .u8 d.toNat) := fun j d hj => hcells j _ (by unfold bv; rw [List.getElem?_map, hj]; rfl)
    have cd := hcell i _ hc0
    have ht : (l.drop (i + 1)).length = l.length - (i + 1) := by simp
    have hct : ∀ k d, (l.drop (i + 1))[k]? = some d → w.cell? ⟨b, o + (i + (k + 1)), none⟩ = some (.int .u8 d.toNat) := fun k d hk => hcell _ d (by rw [← hk, List.getElem?_drop]; congr 1; omega)
    have hu := uintS_cons l[i] (l.drop (i + 1))
    have hz := l[i].toNat_lt
    subst ha1
    generalize l[i] = d at cd hu hz
    generalize l.drop (i + 1) = t at ht hct hu
    generalize hzz : d.toNat = z at cd hz hu
    generalize hus : uintS (d :: t) = res at hu
    have e0 : ((i : Int) == (l.length : Int)) = false := by simp; omega
    have HT := Lib.hid ht
    have HC := Lib.hid hct
    have hil2 : (i : Int) < (l.length : Int) := by omega
    have H := Lib.hid h
    clear hc0 hcells hcell hd hus hzz ht hct h
    by_cases z8 : 8 < z
    · rw [if_pos z8] at hu
      have HU := Lib.hid hu
      have d8 : decide ((8 : Int) < (z : Int)) = true := decide_eq_true (by omega)
      clear hu
      go_enter Try.func35, Try.ntmps35
      go_wp2_with fail
      go_ret3
      exact ⟨rfl, UOut.no HU.out (by decide)⟩
    rw [if_neg z8] at hu
    have d8 : decide ((8 : Int) < (z : Int)) = false := decide_eq_false (by omega)
    have HU := Lib.hid hu
    have hz8 : z ≤ 8 := by omega
    clear hu z8 hz
    go_enter Try.func35, Try.ntmps35
    go_wp2_with fail
    go_loopw [8, 9] (fun y x wr => ∃ k : Nat, k ≤ z ∧ x = .int .i64 ((k : Int) + 1) ∧ y = .int .u64 (beN (t.take k)) ∧ k ≤ t.length ∧ (0 < k → t.head? ≠ some 0) ∧ wr = w) (fun _ x _ => z + 1 - (intOf x).toNat)
    case atStart => exact ⟨0, by omega, rfl, rfl, by omega, fun h => by omega, rfl⟩
    case round =>
      obtain ⟨k, hk, rfl, rfl, hkt, hh, hw⟩ := hrel
      have hw' := hw.symm
      clear hw
      subst hw'
      have HH := Lib.hid hh
      clear hh
      by_cases hlt : k < z
      · have dl : decide ((k : Int) + 1 ≤ (z : Int)) = true := decide_eq_true (by omega)
        obtain ⟨p, hp⟩ : ∃ p : Nat, p = i + (k + 1) := ⟨_, rfl⟩
        have wp : IntKind.i64.wrap ((i : Int) + ((k : Int) + 1)) = (p : Int) := by rw [IntWalk.i64_in _ (by omega)]; omega
        by_cases hlp : l.length ≤ p
        · have dp : decide ((l.length : Int) ≤ (p : Int)) = true := decide_eq_true (by omega)
          have hr0 : res = none := by
            rw [HU.out]
            have := HT.out
            split
            · rfl
            · rw [if_pos (by omega)]
          have HR := Lib.hid hr0
          clear hr0 hp
          go_wp2_with fail
          go_ret3
          exact ⟨by trivial, UOut.no HR.out (by decide)⟩
        · have dp : decide ((l.length : Int) ≤ (p : Int)) = false := decide_eq_false (by omega)
          have hktl : k < t.length := by have := HT.out; omega
          have hke : t[k]? = some t[k] := List.getElem?_eq_getElem hktl
          have hsn : beN (t.take (k + 1)) = beN (t.take k) * 256 + (t[k]'hktl).toNat := by
            rw [List.take_succ_eq_append_getElem hktl, beN_snoc]
          have hlN := beN_lt (t.take k)
          have hpow : 256 ^ (t.take k).length ≤ 256 ^ 7 := Nat.pow_le_pow_right (by omega) (by rw [List.length_take]; omega)
          have hle := (t[k]'hktl).toNat_lt
          have hce := HC.out k _ hke
          rw [← hp] at hce
          have hpl : p < l.length := by omega
          have hpl2 : (p : Int) < (l.length : Int) := by omega
          have hN : beN (t.take k) < 72057594037927936 := by omega
          by_cases hk0 : k = 0
          · subst hk0
            have wp1 : IntKind.i64.wrap ((i : Int) + 1) = (p : Int) := by rw [IntWalk.i64_in _ (by omega)]; omega
            have hth : t.head? = some t[0] := by rw [List.head?_eq_getElem?]; exact hke
            have hu8 : (t[0]'hktl).toNat = 0 ↔ t[0]'hktl = 0 := ⟨fun e => UInt8.toNat_inj.1 (by simpa using e), fun e => by rw [e]; rfl⟩
            generalize ht0 : (t[0]'hktl) = e at hke hsn hle hce hth hu8
            by_cases hq : e.toNat = 0
            · have hr0 : res = none := by rw [HU.out, if_pos ⟨hlt, by rw [hth, hu8.1 hq]⟩]
              have HR := Lib.hid hr0
              rw [hq] at hce
              clear hr0 hp hth hu8 hsn hke ht0 hlN hpow hq
              go_wp2_with fail
              go_ret3
              exact ⟨by trivial, UOut.no HR.out (by decide)⟩
            · have hq2 : ((e.toNat : Int) == 0) = false := by simpa using hq
              have HN : Hid (0 < 0 + 1 → t.head? ≠ some 0) := by unfold Hid; intro _ h1; rw [hth] at h1; injection h1 with h1; exact hq (hu8.2 h1)
              have HSN := Lib.hid hsn
              have hb0 : beN (t.take 0) = 0 := rfl
              generalize e.toNat = en at *
              clear hp hth hu8 hsn hke ht0 hlN hpow hq
              go_wp2_with fail
              go_roundw
              case rel => exact ⟨0 + 1, by omega, by go_num, by rw [HSN.out, hb0]; simp; rw [show ((beN [] : Nat) : Int) * 256 = 0 from rfl, show IntKind.u64.wrap 0 = 0 by decide, Int.zero_add]; exact IntWalk.u64_in _ (by omega), by omega, HN.out, by trivial⟩
              case measure => simp [intOf]; omega
          · have hk1 : ((k : Int) + 1 == 1) = false := by simp; omega
            have HN : Hid (0 < k + 1 → t.head? ≠ some 0) := by unfold Hid; exact fun _ => HH.out (by omega)
            generalize (t[k]'hktl) = e at hke hsn hle hce
            generalize e.toNat = en at hle hce hsn
            generalize beN (t.take k) = N at hsn hN
            have HSN := Lib.hid hsn
            clear hp hsn hke hlN hpow
            go_wp2_with fail
            go_roundw
            case rel => exact ⟨k + 1, by omega, by go_num, by rw [HSN.out]; simp, by omega, HN.out, by trivial⟩
            case measure => simp [intOf]; omega
      · obtain rfl : k = z := by omega
        have hr : res = some (beN (t.take k), 1 + k) := by
          rw [HU.out, if_neg (fun h => HH.out h.1 h.2), if_neg (by omega)]
        have HR := Lib.hid hr
        have dl : decide ((k : Int) + 1 ≤ (k : Int)) = false := decide_eq_false (by omega)
        have wi : IntKind.i64.wrap ((i : Int) + 1) = (i : Int) + 1 := IntWalk.i64_in _ (by omega)
        have wi2 : IntKind.i64.wrap ((i : Int) + 1 + (k : Int)) = (i : Int) + 1 + (k : Int) := IntWalk.i64_in _ (by omega)
        clear hr
        go_wp2_with fail
        go_ret3
        exact ⟨by trivial, by
          rw [HR.out]
          unfold UOut
          simp; omega⟩
  · have hd : l.drop i = [] := List.drop_eq_nil_of_le (by omega)
    have hr : uintS (l.drop i) = none := by rw [hd]; rfl
    have HR := Lib.hid hr
    have e0 : ((i : Int) == (l.length : Int)) = true := by simp; omega
    clear hd hr
    go_enter Try.func35, Try.ntmps35
    go_wp2_with fail
    go_ret3
    exact ⟨rfl, UOut.no HR.out (by decide)⟩
end Go.Proofs.Ytehpaddddiigbaa
