/- bytes.Count and bytes.Index at the separator "\n". -/
import Derived.Test.YtlheboafhgmbpaaDoorLD
import Derived.Lib.BytesEntry
import Derived.Lib.IndexLaws
import Derived.Laws.Externs
namespace Go.Proofs.YtlheboafhgmbpaaDoor
open Go.RowKit
set_option maxRecDepth 100000
set_option linter.unusedSimpArgs false
set_option linter.unusedVariables false

theorem run_bytesOf {w : World} {a : Option Addr} {n c : Nat} {l : List UInt8} (h : ByAt w (.slice a n c) l) : (Extern.Bytes.bytesOf (.slice a n c)).run Tryd.prog w = .ok ⟨l.toArray⟩ w := by
  obtain ⟨a', c', e, h2, h3⟩ := h
  injection e with e1 e2 e3
  subst e1 e2 e3
  cases a with
  | none =>
    have hl0 : l = [] := by
      apply Classical.byContradiction; intro hh
      obtain ⟨b, o, e, _⟩ := h3 hh; cases e
    subst hl0
    rfl
  | some ad =>
    have hl := Lib.run_loadBytesX (P := Tryd.prog) w (l.map fun b => (b.toNat : Int)) ad .empty (fun j x hj => by
      rw [List.getElem?_map] at hj
      cases hx : l[j]? with
      | none => rw [hx] at hj; cases hj
      | some y =>
        rw [hx] at hj
        injection hj with hj
        obtain ⟨b, o, e, _, hr⟩ := h3 (fun e => by subst e; simp at hx)
        injection e with e; subst e
        rw [Addr.add_mid, hr j (.int .u8 x) (by simp [bv, hx, hj])])
    rw [List.length_map] at hl
    have e1 : Lib.bytesOf (l.map fun b => (b.toNat : Int)) = l := by
      unfold Lib.bytesOf
      rw [List.map_map]
      conv => rhs; rw [← List.map_id l]
      apply List.map_congr_left
      intro x _
      simp
    rw [e1] at hl
    show (Extern.Bytes.loadBytes ad l.length .empty).run Tryd.prog w = _
    rw [hl]
    congr 1
    apply ByteArray.ext
    show (#[] : Array UInt8) ++ l.toArray = l.toArray
    simp
theorem run_count8 {w : World} {a : Option Addr} {n c : Nat} {l : List UInt8} (h : ByAt w (.slice a n c) l) : (Extern.BytealgCount.count #[.slice a n c, .int .u8 10]).run Tryd.prog w = .ok (.int .i64 (l.count 10 : Nat)) w := by
  have hs := Lib.run_countString (P := Tryd.prog) ⟨l.toArray⟩ 10 w
  change Sem.run Tryd.prog (do
    let b ← Extern.Bytes.bytesOf (.slice a n c)
    let c' ← Extern.Bytes.asByte (.int .u8 10)
    pure (goInt (b.foldl (fun n x => if x == c' then n + 1 else n) (0 : Nat)))) w = _
  change Sem.run Tryd.prog (do
    let b ← (pure ⟨l.toArray⟩ : Sem ByteArray)
    let c' ← Extern.Bytes.asByte (.int .u8 10)
    pure (goInt (b.foldl (fun n x => if x == c' then n + 1 else n) (0 : Nat)))) w = _ at hs
  rw [Sem.run_bind, run_bytesOf h]
  rw [Sem.run_bind] at hs
  exact hs
theorem run_index8 {w : World} {a : Option Addr} {n c : Nat} {l : List UInt8} (h : ByAt w (.slice a n c) l) : (Extern.BytealgIndexByte.indexByte #[.slice a n c, .int .u8 10]).run Tryd.prog w = .ok (.int .i64 (Lib.indexByte l 10)) w := by
  have hs := Lib.run_indexByteString (P := Tryd.prog) ⟨l.toArray⟩ 10 w
  change Sem.run Tryd.prog (do
    let b ← Extern.Bytes.bytesOf (.slice a n c)
    let c ← Extern.Bytes.asByte (.int .u8 10)
    match (List.range b.size).find? fun i => b[i]! == c with
    | some i => pure (goInt i)
    | none => pure (goInt (-1))) w = _
  change Sem.run Tryd.prog (do
    let b ← (pure ⟨l.toArray⟩ : Sem ByteArray)
    let c ← Extern.Bytes.asByte (.int .u8 10)
    match (List.range b.size).find? fun i => b[i]! == c with
    | some i => pure (goInt i)
    | none => pure (goInt (-1))) w = _ at hs
  rw [Sem.run_bind, run_bytesOf h]
  rw [Sem.run_bind] at hs
  exact hs
set_option maxHeartbeats 1000000 in
theorem count_ct {w : World} {a : Option Addr} {n c : Nat} {l : List UInt8} (h : ByAt w (.slice a n c) l) {b d : Nat} (hb : w.cell? ⟨b, 0, none⟩ = some (.int .u8 10)) :
    Calls Tryd.prog 24 #[.slice a n c, .slice (some ⟨b, 0, none⟩) 1 d] w fun e w' => e = .returned (.int .i64 (l.count 10 : Nat)) ∧ w' = w := by
  have rc := run_count8 h
  go_enter Tryd.func24, Tryd.ntmps24
  go_wp2_with fail
  rw [run_callFunc_extern Tryd.func33 (by kernel_rfl) (by kernel_rfl) (by kernel_rfl) (e := Extern.BytealgCount.count) (by kernel_rfl), rc]
  simp only [Result.andThen]
  rw [Oper.upon_value]
  go_wp2_with fail
  go_ret
  exact ⟨rfl, rfl⟩
set_option maxHeartbeats 1000000 in
theorem indexByte_ct {w : World} {a : Option Addr} {n c : Nat} {l : List UInt8} (h : ByAt w (.slice a n c) l) :
    Calls Tryd.prog 34 #[.slice a n c, .int .u8 10] w fun e w' => e = .returned (.int .i64 (Lib.indexByte l 10)) ∧ w' = w := by
  have rc := run_index8 h
  go_enter Tryd.func34, Tryd.ntmps34
  go_wp2_with fail
  rw [run_callFunc_extern Tryd.func43 (by kernel_rfl) (by kernel_rfl) (by kernel_rfl) (e := Extern.BytealgIndexByte.indexByte) (by kernel_rfl), rc]
  simp only [Result.andThen]
  rw [Oper.upon_value]
  go_wp2_with fail
  go_ret
  exact ⟨rfl, rfl⟩
set_option maxRecDepth 100000 in
set_option maxHeartbeats 1000000 in
theorem index_ct {w : World} {a : Option Addr} {n c : Nat} {l : List UInt8} (h : ByAt w (.slice a n c) l) {b d : Nat} (hb : w.cell? ⟨b, 0, none⟩ = some (.int .u8 10)) :
    Calls Tryd.prog 25 #[.slice a n c, .slice (some ⟨b, 0, none⟩) 1 d] w fun e w' => e = .returned (.int .i64 (Lib.indexByte l 10)) ∧ w' = w := by
  have rc := indexByte_ct h
  go_enter Tryd.func25, Tryd.ntmps25
  go_wp2_with fail
  refine rc.mono ?_
  rintro e w' ⟨rfl, hw⟩
  subst hw
  go_wp2_with fail
  go_ret
  exact ⟨rfl, rfl⟩
end Go.Proofs.YtlheboafhgmbpaaDoor
