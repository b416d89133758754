/- Words of 32 bits: turned, added, mixed; as the walk spells them. -/
import Derived.Test.YtehpaddddiigbaaDoorSH
import Derived.Laws.BitsAllLaws
namespace Go.Proofs.YtehpaddddiigbaaDoor
open Go.RowKit
set_option maxRecDepth 100000
set_option linter.unusedSimpArgs false
set_option linter.unusedVariables false

/-- A word as the walk holds it. -/
def rotr (x : UInt32) (n : Nat) : UInt32 := UInt32.ofNat (x.toNat / 2 ^ n ||| x.toNat * 2 ^ (32 - n) % 4294967296)
theorem u_lt (x : UInt32) : x.toNat < 4294967296 := x.toNat_lt
/-- The mixes under names of their own, so that the walk leaves them whole. -/
def xorU (a b : UInt32) : UInt32 := a ^^^ b
def andU (a b : UInt32) : UInt32 := a &&& b
def addU (a b : UInt32) : UInt32 := a + b
def notU (a : UInt32) : UInt32 := 4294967295 - a
def shrU (a : UInt32) (n : Nat) : UInt32 := UInt32.ofNat (a.toNat / 2 ^ n)
theorem u_xor (a b : UInt32) : bits .xor .u32 (a.toNat : Int) (b.toNat : Int) = ((xorU a b).toNat : Int) := by
  rw [u32_xor_nat _ _ (u_lt a) (u_lt b)]; unfold xorU; rw [UInt32.toNat_xor]
theorem u_and (a b : UInt32) : bits .and .u32 (a.toNat : Int) (b.toNat : Int) = ((andU a b).toNat : Int) := by
  rw [u32_and_nat _ _ (u_lt a) (u_lt b)]; unfold andU; rw [UInt32.toNat_and]
theorem u_add (a b : UInt32) : IntKind.u32.wrap ((a.toNat : Int) + (b.toNat : Int)) = ((addU a b).toNat : Int) := by
  rw [IntKind.wrap_u32']; unfold addU; rw [UInt32.toNat_add]; omega
theorem u_add' (a b : UInt32) : ((a.toNat : Int) + (b.toNat : Int)) % 4294967296 = ((addU a b).toNat : Int) := by
  unfold addU; rw [UInt32.toNat_add]; omega
theorem u_not (a : UInt32) : 4294967295 - (a.toNat : Int) = ((notU a).toNat : Int) := by
  have := u_lt a
  unfold notU
  rw [UInt32.toNat_sub]
  have e : (4294967295 : UInt32).toNat = 4294967295 := rfl
  rw [e]
  omega
theorem u_shr (a : UInt32) (n : Nat) : (a.toNat : Int) / ((2 ^ n : Nat) : Int) = ((shrU a n).toNat : Int) := by
  unfold shrU
  rw [UInt32.toNat_ofNat', Nat.mod_eq_of_lt (Nat.lt_of_le_of_lt (Nat.div_le_self _ _) (u_lt a))]
  exact (Int.natCast_ediv _ _).symm
theorem rotr_nat (x : UInt32) (n : Nat) (h0 : 0 < n) (h : n < 32) : ((rotr x n).toNat : Int) = ((x.toNat / 2 ^ n ||| x.toNat * 2 ^ (32 - n) % 4294967296 : Nat) : Int) := by
  unfold rotr
  rw [UInt32.toNat_ofNat']
  have h1 : x.toNat / 2 ^ n < 2 ^ 32 := Nat.lt_of_le_of_lt (Nat.div_le_self _ _) (u_lt x)
  have h2 : x.toNat * 2 ^ (32 - n) % 4294967296 < 2 ^ 32 := Nat.mod_lt _ (by decide)
  have := Nat.or_lt_two_pow h1 h2
  rw [Nat.mod_eq_of_lt this]

def wv (l : List UInt32) : List Nat := l.map (·.toNat)
theorem wv_len (l : List UInt32) : (wv l).length = l.length := by simp [wv]
theorem wv_at (l : List UInt32) (j : Nat) : (wv l).getD j 0 = (l.getD j 0).toNat := by
  unfold wv
  rw [List.getD_eq_getElem?_getD, List.getD_eq_getElem?_getD, List.getElem?_map]
  cases l[j]? <;> rfl
theorem wv_set (l : List UInt32) (j : Nat) (x : UInt32) : wv (l.set j x) = (wv l).set j x.toNat := by simp [wv, List.map_set]

/-- What a block's round makes of eight words (plain). -/
def KU : List UInt32 := kW.map UInt32.ofNat
def HU : List UInt32 := hW.map UInt32.ofNat
def ss0 (x : UInt32) : UInt32 := xorU (xorU (rotr x 7) (rotr x 18)) (shrU x 3)
def ss1 (x : UInt32) : UInt32 := xorU (xorU (rotr x 17) (rotr x 19)) (shrU x 10)
def bs1 (x : UInt32) : UInt32 := xorU (xorU (rotr x 6) (rotr x 11)) (rotr x 25)
def bs0 (x : UInt32) : UInt32 := xorU (xorU (rotr x 2) (rotr x 13)) (rotr x 22)
def wordAt (b : List UInt8) (t : Nat) : UInt32 := UInt32.ofNat ((((b.getD (4 * t) 0).toNat * 256 + (b.getD (4 * t + 1) 0).toNat) * 256 + (b.getD (4 * t + 2) 0).toNat) * 256 + (b.getD (4 * t + 3) 0).toNat)
/-- The first n words of a block's 64. -/
def sched (b : List UInt8) : Nat → List UInt32
  | 0 => []
  | n + 1 => let l := sched b n
    l ++ [if n < 16 then wordAt b n else addU (addU (addU (l.getD (n - 16) 0) (ss0 (l.getD (n - 15) 0))) (l.getD (n - 7) 0)) (ss1 (l.getD (n - 2) 0))]
theorem sched_len (b : List UInt8) : ∀ n, (sched b n).length = n
  | 0 => rfl
  | n + 1 => by simp [sched, sched_len b n]
structure S8 where
  (a b c d e f g h : UInt32)
def S8.row (s : S8) : List UInt32 := [s.a, s.b, s.c, s.d, s.e, s.f, s.g, s.h]
def chF (e f g : UInt32) : UInt32 := xorU (andU e f) (andU (notU e) g)
def mjF (a b c : UInt32) : UInt32 := xorU (xorU (andU a b) (andU a c)) (andU b c)
def t1F (s : S8) (k w : UInt32) : UInt32 := addU (addU (addU (addU s.h (bs1 s.e)) (chF s.e s.f s.g)) k) w
def t2F (s : S8) : UInt32 := addU (bs0 s.a) (mjF s.a s.b s.c)
def stepF (s : S8) (k w : UInt32) : S8 := ⟨addU (t1F s k w) (t2F s), s.a, s.b, s.c, addU s.d (t1F s k w), s.e, s.f, s.g⟩
def rounds (W : List UInt32) (s : S8) : Nat → S8
  | 0 => s
  | t + 1 => stepF (rounds W s t) (KU.getD t 0) (W.getD t 0)
def S8.add (s r : S8) : S8 := ⟨addU s.a r.a, addU s.b r.b, addU s.c r.c, addU s.d r.d, addU s.e r.e, addU s.f r.f, addU s.g r.g, addU s.h r.h⟩
def blockF (s : S8) (b : List UInt8) : S8 := s.add (rounds (sched b 64) s 64)
