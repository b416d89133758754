/- The tables as the rows list them; the rows' condition opened. -/
import Derived.Test.YtehpaddddiigbaaDoorRB
import Derived.Test.YtehpaddddiigbaaDoorUH
import Derived.Test.YtehpaddddiigbaaDoorCards
import Derived.Test.YtehpaddddiigbaaDoorTie
import Derived.Deep.DeepHandedRow
import Derived.Lib.LaidTab
namespace Go.Proofs.YtehpaddddiigbaaDoor
open Go.ChangeShapes Go.WideShapes Go.ChangeAt Go.ChangeMaps Go.RowKit
set_option maxRecDepth 100000
set_option linter.unusedSimpArgs false
set_option linter.unusedVariables false

theorem gK : Tryd.prog.globalNamed "murmuration/sha.k" = some 1 := by kernel_rfl
theorem gF : Tryd.prog.globalNamed "murmuration/sha.first" = some 0 := by kernel_rfl
theorem gKT : (Tryd.prog.globals[1]?).map (·.type) = some 65 := by kernel_rfl
theorem gFT : (Tryd.prog.globals[0]?).map (·.type) = some 64 := by kernel_rfl
def kZ : List Int := kW.map fun (n : Nat) => (n : Int)
def fZ : List Int := hW.map fun (n : Nat) => (n : Int)
def laidT : List (String × DataW Unit) := [("murmuration/sha.k", Lib.tabData .u32 kZ), ("murmuration/sha.first", Lib.tabData .u32 fZ)]
theorem laidT_roots : Rows.treeRootsRow.laid = laidT := by kernel_rfl
theorem laidT_forms : Rows.treeFormsRow.laid = laidT := by kernel_rfl
theorem tab_of {W : World} {name : String} {g : Nat} {l : List Nat} {zs : List Int} (hg : Tryd.prog.globalNamed name = some g) (hz : zs = l.map fun (n : Nat) => (n : Int)) (h : Lib.TabIs Tryd.prog W name .u32 zs) : Tab W g l := by
  unfold Lib.TabIs World.var? at h
  rw [hg] at h
  simp only [Option.bind_some] at h
  cases hb : W.heap[g]? with
  | none => rw [hb] at h; cases h
  | some o =>
    rw [hb] at h
    cases o with
    | cells cs T fr =>
      simp only [Option.some.injEq] at h
      refine ⟨T, fr, ?_⟩
      rw [hb, h, hz]
      simp [kv, Function.comp_def]
    | _ => cases h
theorem tabs_of {W : World} (h : laidMetH Tryd.prog laidT W) : Tabs W := by
  have h' : laidMet Tryd.prog laidT W := h
  refine ⟨tab_of gK rfl (Lib.tabIs_of_head gK gKT Tryd.underlying65 Tryd.underlying63 (by kernel_rfl) (by kernel_rfl) h'), ?_⟩
  obtain ⟨ps, hv, hnd, hrows⟩ := h'
  obtain ⟨g, t, cs, fuel, p, q, _, _, _, _, hq, rfl⟩ := hv
  have h2 : laidMet Tryd.prog [("murmuration/sha.first", Lib.tabData .u32 fZ)] W := ⟨q, hq, List.Nodup.sublist (List.sublist_append_right _ _) hnd, fun b off hm => hrows b off (List.mem_append_right _ hm)⟩
  exact tab_of gF rfl (Lib.tabIs_of_head gF gFT Tryd.underlying64 Tryd.underlying63 (by kernel_rfl) (by kernel_rfl) h2)
def layK : Obj → Obj
  | .cells _ t frozen => .cells (kv .u32 kW).toArray t frozen
  | o => o
def layF : Obj → Obj
  | .cells _ t frozen => .cells (kv .u32 hW).toArray t frozen
  | o => o
noncomputable def laidHeap (os : Os) : Array Obj := Array.modify (Array.modify (World.holding Tryd.prog os ⟨#[], #[], []⟩).heap 1 layK) 0 layF
/-- A world for the witness: the settled one, the tables holding what their initialisers lay. -/
noncomputable def laidWorld (os : Os) : World := { World.holding Tryd.prog os ⟨#[], #[], []⟩ with heap := laidHeap os }
