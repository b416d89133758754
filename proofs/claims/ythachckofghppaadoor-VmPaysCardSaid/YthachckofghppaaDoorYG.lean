/- bytes.Compare; slices.SortFunc over rows of bytes. (The numbers in laysF are the seat's: wip/tools/layx.sh V laysF 'shelf_lay_g SlLaysF.n6 Slsf 6' 42 Derived.Ground.SlsfProg Derived.Shelf.SlSortCmp.Whole1 prints them.) -/
import Derived.Test.YthachckofghppaaDoorYF
import Derived.Shelf.SlSortCmp.Whole1
import Derived.Lib.Bytealg
namespace Go.Proofs.YthachckofghppaaDoor
open Go.RowKit Go.Sort Go.Shelf Go.Lib
set_option maxRecDepth 100000
set_option linter.unusedSimpArgs false
set_option linter.unusedVariables false

def laysF_ren : Go.Shelf.Ren := ⟨fun | 6 => 42 | 15 => 60 | 14 => 59 | 28 => 88 | 29 => 89 | 20 => 80 | 21 => 81 | 22 => 82 | 23 => 83 | 24 => 84 | 25 => 85 | 26 => 86 | 27 => 87 | 46 => 98 | 47 => 99 | 48 => 100 | 49 => 101 | 50 => 102 | 57 => 105 | n => n, fun | 22 => 75 | 24 => 22 | 25 => 81 | 3 => 3 | 39 => 99 | 0 => 0 | 53 => 125 | 55 => 103 | 4 => 4 | 46 => 119 | 45 => 118 | 50 => 89 | 5 => 5 | 9 => 9 | 66 => 136 | 70 => 140 | 76 => 144 | 77 => 145 | n => n, fun | n => n⟩
theorem laysF : Go.Proofs.SlLaysF.n6 Tryd.prog laysF_ren := {
  mixed := by kernel_rfl
  f6 := ⟨Tryd.f42.name, by decide, Tryd.func42.trans (congrArg some (by kernel_rfl))⟩
  f14 := ⟨Tryd.f59.name, by decide, Tryd.func59.trans (congrArg some (by kernel_rfl))⟩
  f15 := Tryd.func60.trans (congrArg some (by kernel_rfl))
  f20 := ⟨Tryd.f80.name, by decide, Tryd.func80.trans (congrArg some (by kernel_rfl))⟩
  f21 := ⟨Tryd.f81.name, by decide, Tryd.func81.trans (congrArg some (by kernel_rfl))⟩
  f22 := ⟨Tryd.f82.name, by decide, Tryd.func82.trans (congrArg some (by kernel_rfl))⟩
  f23 := ⟨Tryd.f83.name, by decide, Tryd.func83.trans (congrArg some (by kernel_rfl))⟩
  f24 := ⟨Tryd.f84.name, by decide, Tryd.func84.trans (congrArg some (by kernel_rfl))⟩
  f25 := ⟨Tryd.f85.name, by decide, Tryd.func85.trans (congrArg some (by kernel_rfl))⟩
  f26 := ⟨Tryd.f86.name, by decide, Tryd.func86.trans (congrArg some (by kernel_rfl))⟩
  f27 := ⟨Tryd.f87.name, by decide, Tryd.func87.trans (congrArg some (by kernel_rfl))⟩
  f28 := Tryd.func88.trans (congrArg some (by kernel_rfl))
  f29 := Tryd.func89.trans (congrArg some (by kernel_rfl))
  f46 := ⟨Tryd.f98.name, by decide, Tryd.func98.trans (congrArg some (by kernel_rfl))⟩
  f47 := Tryd.func99.trans (congrArg some (by kernel_rfl))
  f48 := Tryd.func100.trans (congrArg some (by kernel_rfl))
  f49 := ⟨Tryd.f101.name, by decide, Tryd.func101.trans (congrArg some (by kernel_rfl))⟩
  f50 := ⟨Tryd.f102.name, by decide, Tryd.func102.trans (congrArg some (by kernel_rfl))⟩
  f57 := ⟨Tryd.f105.name, by decide, Tryd.func105.trans (congrArg some (by kernel_rfl))⟩
  t0 := Tryd.underlying0
  a0 := Tryd.isAgg0
  z0 := Tryd.sizeOf0
  v0 := Tryd.zeroValue0
  t3 := Tryd.underlying3
  a3 := Tryd.isAgg3
  z3 := Tryd.sizeOf3
  v3 := Tryd.zeroValue3
  t4 := Tryd.underlying4
  a4 := Tryd.isAgg4
  z4 := Tryd.sizeOf4
  v4 := Tryd.zeroValue4
  t5 := Tryd.underlying5
  a5 := Tryd.isAgg5
  z5 := Tryd.sizeOf5
  v5 := Tryd.zeroValue5
  t9 := Tryd.underlying9
  a9 := Tryd.isAgg9
  z9 := Tryd.sizeOf9
  v9 := Tryd.zeroValue9
  t22 := Tryd.underlying75
  a22 := Tryd.isAgg75
  z22 := Tryd.sizeOf75
  v22 := Tryd.zeroValue75
  a24 := Tryd.isAgg22
  z24 := Tryd.sizeOf22
  t25 := Tryd.underlying81
  a25 := Tryd.isAgg81
  z25 := Tryd.sizeOf81
  v25 := Tryd.zeroValue81
  t39 := Tryd.underlying99
  a39 := Tryd.isAgg99
  z39 := Tryd.sizeOf99
  v39 := Tryd.zeroValue99
  t45 := Tryd.underlying118
  a45 := Tryd.isAgg118
  z45 := Tryd.sizeOf118
  v45 := Tryd.zeroValue118
  t46 := Tryd.underlying119
  a46 := Tryd.isAgg119
  z46 := Tryd.sizeOf119
  v46 := Tryd.zeroValue119
  t50 := Tryd.underlying89
  a50 := Tryd.isAgg89
  z50 := Tryd.sizeOf89
  v50 := Tryd.zeroValue89
  t53 := Tryd.underlying125
  a53 := Tryd.isAgg125
  z53 := Tryd.sizeOf125
  v53 := Tryd.zeroValue125
  t55 := Tryd.underlying103
  a55 := Tryd.isAgg103
  z55 := Tryd.sizeOf103
  v55 := Tryd.zeroValue103
  t66 := Tryd.underlying136
  a66 := Tryd.isAgg136
  z66 := Tryd.sizeOf136
  v66 := Tryd.zeroValue136
  t70 := Tryd.underlying140
  a70 := Tryd.isAgg140
  z70 := Tryd.sizeOf140
  v70 := Tryd.zeroValue140
  t76 := Tryd.underlying144
  a76 := Tryd.isAgg144
  z76 := Tryd.sizeOf144
  v76 := Tryd.zeroValue144
  t77 := Tryd.underlying145
  a77 := Tryd.isAgg145
  z77 := Tryd.sizeOf145
  v77 := Tryd.zeroValue145 }
theorem cmp_lt : ∀ (a b : List UInt8), (compareBytes a b < 0) ↔ a < b
  | [], [] => by simp [compareBytes]
  | [], y :: b => by simp [compareBytes]
  | x :: a, [] => by simp [compareBytes]
  | x :: a, y :: b => by
    have ih := cmp_lt a b
    unfold compareBytes
    rw [List.cons_lt_cons_iff]
    by_cases h1 : x < y
    · simp [h1]
    · by_cases h2 : y < x
      · have : x ≠ y := fun e => by subst e; exact h1 h2
        simp [h1, h2, this]
      · have : x = y := by
          have := UInt8.le_antisymm (UInt8.not_lt.1 h2) (UInt8.not_lt.1 h1)
          exact this
        subst this
        simp [ih]
set_option maxHeartbeats 1000000 in
theorem bcmp_ct {w : World} {x y : Value} {l m : List UInt8} (h : ByAt w x l) (k : ByAt w y m) :
    Calls Tryd.prog 43 #[x, y] w fun e w' => e = .returned (.int .i64 (compareBytes l m)) ∧ w' = w := by
  obtain ⟨a, c, hx⟩ := h.slc
  subst hx
  obtain ⟨a2, c2, hy⟩ := k.slc
  subst hy
  have rc : (Extern.BytealgCompare.compare #[.slice a l.length c, .slice a2 m.length c2]).run Tryd.prog w = .ok (.int .i64 (compareBytes l m)) w := by
    have hs := Lib.run_compareString (P := Tryd.prog) ⟨l.toArray⟩ ⟨m.toArray⟩ w
    change Sem.run Tryd.prog (do pure (goInt (Extern.BytealgCompare.cmp (← Extern.Bytes.bytesOf (.string ⟨l.toArray⟩)) (← Extern.Bytes.bytesOf (.string ⟨m.toArray⟩))))) w = _ at hs
    change Sem.run Tryd.prog (do pure (goInt (Extern.BytealgCompare.cmp (← Extern.Bytes.bytesOf (.slice a l.length c)) (← Extern.Bytes.bytesOf (.slice a2 m.length c2))))) w = _
    simp only [Sem.run_bind, run_bytesOf h, run_bytesOf k, Result.andThen]
    simpa only [Extern.Bytes.bytesOf, Sem.run_bind, Sem.run_pure, Result.andThen] using hs
  go_enter Tryd.func43, Tryd.ntmps43
  go_wp2_with fail
  rw [run_callFunc_extern Tryd.func61 (by kernel_rfl) (by kernel_rfl) (by kernel_rfl) (e := Extern.BytealgCompare.compare) (by kernel_rfl), rc]
  simp only [Result.andThen]
  rw [Oper.upon_value]
  go_wp2_with fail
  go_ret
  exact ⟨rfl, rfl⟩
/-- A row's element: a slice, its bytes lying apart from the row. -/
structure PieceE (blk : Nat) (w : World) where
  v : Value
  l : List UInt8
  ok : ByX blk w v l
instance (blk : Nat) (w : World) : Inhabited (PieceE blk w) := ⟨⟨.slice none 0 0, [], fun w' _ => ⟨ByAt.nil w' 0, none, 0, rfl, Nat.le_refl _⟩⟩⟩
def encP (blk : Nat) (w : World) (p : PieceE blk w) : Value := p.v
def cfP (blk : Nat) (w : World) (p q : PieceE blk w) : Int := compareBytes p.l q.l
theorem ltP (blk : Nat) (w : World) (p q : PieceE blk w) : ltOf (cfP blk w) p q = decide (p.l < q.l) := by
  unfold ltOf cfP
  rw [decide_eq_decide]
  exact cmp_lt _ _
theorem swoP (blk : Nat) (w : World) : SWO (ltOf (cfP blk w)) where
  irrefl x := by rw [ltP]; simp [List.lt_irrefl]
  trans x y z h1 h2 := by
    rw [ltP] at *
    simp only [decide_eq_true_eq] at *
    exact List.lt_trans h1 h2
  ntrans x y z h1 h2 := by
    rw [ltP] at *
    simp only [decide_eq_false_iff_not, List.not_lt] at *
    exact List.le_trans h2 h1
theorem kept_sortWorld {α : Type} [Inhabited α] (enc : α → Value) (w : World) (blk off m : Nat) (dk : Array α) (os : Array Obj) : Kept (fun k => k = blk) w (sortWorld enc w blk off m dk os) := by
  refine ⟨rfl, rfl, rfl, ?_, fun k hk hne => ?_⟩
  · show w.heap.size ≤ ((w.heap.modify blk _) ++ os).size
    simp
  · show ((w.heap.modify blk _) ++ os)[k]? = w.heap[k]?
    rw [Array.getElem?_append_left (by simpa using hk), Array.getElem?_modify, if_neg (fun e => hne e.symm)]
theorem cmpP (blk off size : Nat) (w : World) : CmpReads Tryd.prog 43 #[] (encP blk w) (cfP blk w) blk off size w := fun m os dk hs x y => by
  have k := kept_sortWorld (encP blk w) w blk off m dk os
  exact (bcmp_ct (x.ok _ k).1 (y.ok _ k).1).mono fun e w' ⟨h1, h2⟩ => ⟨h1, 0, by rw [h2]; rfl⟩
end Go.Proofs.YthachckofghppaaDoor
