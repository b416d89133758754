/- What an instruction does (plain); get and put by what they come to. -/
import Derived.Test.YthachckofghppaaDoorYM
import Derived.Test.YthachckofghppaaDoorYN
import Derived.Test.YthachckofghppaaDoorYJ
import Derived.Test.YthachckofghppaaDoorYB
import Derived.Lib.Replace
namespace Go.Proofs.YthachckofghppaaDoor
open Go.RowKit
set_option maxRecDepth 100000
set_option linter.unusedSimpArgs false
set_option linter.unusedVariables false

def replL (b : List UInt8) (x y : ByteArray) : List UInt8 := Lib.replaceK x.data.toList y.data.toList (Lib.count b x.data.toList) b
def getPut (F : Int) (s : VmS) (a b : ByteArray) (f : List UInt8 → List UInt8) : VR := match getV s a with
  | none => .stop 70 s.us
  | some x => putV F s b (f x)
def get2 (s : VmS) (a b : ByteArray) (k : List UInt8 → List UInt8 → VR) : VR := match getV s a with
  | none => .stop 70 s.us
  | some x => match getV s b with
    | none => .stop 70 s.us
    | some y => k x y
def doV (F : Int) (x : InsE) (s : VmS) : VR := match x.op with
  | 1 => getPut F s x.a x.b id
  | 2 => get2 s x.a x.b fun p q => putV F s x.c (p ++ q)
  | 3 => getPut F s x.a x.b fun b => partL b x.n.toNat x.m.toNat
  | 4 => getPut F s x.a x.a fun b => replL b x.b x.c
  | 5 => getPut F s x.a x.a sortL
  | 6 => match packV s x.a x.b with
    | none => .stop 8 s.us
    | some b => putV F s x.b b
  | 7 => match getV s x.a with
    | none => .stop 70 s.us
    | some b => unpackV F s b x.b
  | 8 => .go ⟨s.fs, x.n, s.us⟩
  | 9 => if ((getV s x.a).getD []).isEmpty then .go ⟨s.fs, x.n, s.us⟩ else .go s
  | 10 => get2 s x.a x.b fun p q => if p == q then .go ⟨s.fs, x.n, s.us⟩ else .go s
  | _ => .stop 72 s.us
def stepV (F : Int) (x : InsE) (s : VmS) : VR := match payV F s 1 with
  | .stop c u => .stop c u
  | .go s1 => doV F x ⟨s1.fs, s1.pl + 1, s1.us⟩
section
variable {w : World} {X : Nat} {F : Int} {s : VmS}
theorem vget_yes (h : RunAt w X F s) {p : ByteArray} {b : List UInt8} (hg : getV s p = some b) :
    Calls Tryd.prog 24 #[.pointer (some ⟨X, 0, none⟩), .string p] w fun e w' => ∃ v, e = .returned v ∧ ByX X w' v b ∧ RunAt w' X F s ∧ Kept (fun _ => False) w w' :=
  (vget_ct h p).mono fun e w' ⟨⟨h1, h2⟩, h3⟩ => by
    rw [hg] at h2
    obtain ⟨v, e1, e2⟩ := h2
    exact ⟨v, e1, e2, h1, h3⟩
theorem vget_no (h : RunAt w X F s) {p : ByteArray} (hg : getV s p = none) :
    Calls Tryd.prog 24 #[.pointer (some ⟨X, 0, none⟩), .string p] w fun e w' => e = .panicked (STOPC 70) ∧ RunAt w' X F s ∧ Kept (fun _ => False) w w' :=
  (vget_ct h p).mono fun e w' ⟨⟨h1, h2⟩, h3⟩ => by
    rw [hg] at h2
    exact ⟨h2, h1, h3⟩
theorem put_go (h : RunAt w X F s) {p : ByteArray} (hp : p.size ≤ maxLen) {v : Value} {b : List UInt8} (hb : ByXA X w v b) (hl : b.length ≤ 100000) {s' : VmS} (hr : putV F s p b = .go s') :
    Calls Tryd.prog 23 #[.pointer (some ⟨X, 0, none⟩), .string p, v] w fun e w' => e = .returned (.tuple #[]) ∧ RunAt w' X F s' ∧ Kept (fun k => k = X) w w' :=
  (put_ct h hp hb hl).mono fun e w' ⟨h1, h2⟩ => by
    rw [hr] at h1
    exact ⟨h1.1, h1.2, h2⟩
theorem put_stop (h : RunAt w X F s) {p : ByteArray} (hp : p.size ≤ maxLen) {v : Value} {b : List UInt8} (hb : ByXA X w v b) (hl : b.length ≤ 100000) {c u : Int} (hr : putV F s p b = .stop c u) :
    Calls Tryd.prog 23 #[.pointer (some ⟨X, 0, none⟩), .string p, v] w fun e w' => e = .panicked (STOPC c) ∧ (∃ s', RunAt w' X F s' ∧ s'.us = u) ∧ Kept (fun k => k = X) w w' :=
  (put_ct h hp hb hl).mono fun e w' ⟨h1, h2⟩ => by
    rw [hr] at h1
    exact ⟨h1.1, h1.2, h2⟩
end
theorem getV_len {w : World} {X : Nat} {F : Int} {s : VmS} (h : RunAt w X F s) {p : ByteArray} {b : List UInt8} (hg : getV s p = some b) : b.length ≤ 100000 := by
  unfold getV at hg
  split at hg
  · cases hq : s.fs[posL s.fs p]? with
    | none => rw [hq] at hg; cases hg
    | some f =>
      rw [hq] at hg
      injection hg with hg
      subst hg
      have := ((mayIs h.may).file f (List.mem_of_getElem? hq)).2.2
      show f.bytes.length ≤ 100000
      omega
  · cases hg
theorem VOut.bad {X : Nat} {F : Int} {w : World} {r : VR} {c u : Int} (h : r = .stop c u) (hr : ∃ s, RunAt w X F s ∧ s.us = u) : VOut X F r (.panicked (STOPC c)) w := by
  subst h; exact ⟨rfl, hr⟩
theorem VOut.good {X : Nat} {F : Int} {w : World} {r : VR} {s : VmS} (h : r = .go s) (hr : RunAt w X F s) : VOut X F r (.returned (.tuple #[])) w := by
  subst h; exact ⟨rfl, hr⟩
/-- What may be of an instruction, kind by kind. -/
theorem one_at {x : InsE} {many : Int} (h : oneB x many = true) : 1 ≤ x.op ∧ x.op ≤ 11 ∧ ∀ k, k < 5 → fldOk x many k ((fldL x.op).getD k 0) = true := by
  unfold oneB at h
  simp only [Bool.and_eq_true, decide_eq_true_eq] at h
  exact ⟨h.1.1, h.1.2, fun k hk => allTo_iff.1 h.2 k hk⟩
end Go.Proofs.YthachckofghppaaDoor
