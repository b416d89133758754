/-
  No cell of these rows narrows 'for every input' (looked for: loops, veiled, ifaces, maps, wideKeys, modest, calm, conditions, laid).
  DERIVED. THE GIVEN ROWS OF THIS SEAT. 4 by the template 'for every input the law returns true; each argument reads behind the call as it read before'; 0 by the template 'total and deterministic' (their statements: YtbaehaleigpijaaTotals.lean).
  GIVEN WITH THE SEED: the statements are not yours to turn. If you find one false, say at which input.
  Laid BY PROGRAM, IN A SANDBOX (cutbox-rows.mjs): the forced cells as the released guide's own fill.sh prints them over the translation 46bf773081d3df90… (all of the seat's roots in one cut). By AI agents, Wed Nov 11 2026. No macro, syntax, notation, axiom, sorry.
-/
import Derived.Test.YtbaehaleigpijaaChecked
import GoSem.Claim
import GoSem.ClaimJoined
import GoSem.ClaimMapViews
import Derived.JoinedTies
import Derived.KernelRfl
namespace Go.Proofs.Ytbaehaleigpijaa
/- THE CELL 'sum', in the pinned program and in every row, IS THE sha256 OF THE DUMP (.gsa) THAT YtbaehaleigpijaaProg.lean LOADS. Nothing in Lean hashes anything: it is a label: what it is worth is what the hold of that sum in a sandbox is worth. -/
noncomputable def Try.pinned : Pinned := { name := "ytbaehaleigpijaa", sum := "46bf773081d3df9044ab37ea1aae1a98dd7a173b5d3e5474e68b068dcd166d1d", checked := Try.checked }
namespace Rows
def none {H : Type} : Left H := { results := [], args := [] }

/-- 'murmurationlaw22.ClaimsPlays': WHATEVER THE INPUT: true; the input reads as it did. -/
def claimsPlaysSpec : ChangeSpec := { name := "claimsPlays", fn := fun _ => fun
  | [d1, d2, d3, d4, d5] => { results := [.lit (.bool true)], args := [d1, d2, d3, d4, d5] }
  | _ => none }
def claimsPlaysRow : OpenClaim := { program := "ytbaehaleigpijaa", sum := "46bf773081d3df9044ab37ea1aae1a98dd7a173b5d3e5474e68b068dcd166d1d", func := "murmuration/murmurationlaw22.ClaimsPlays", spec := "claimsPlays", plainKeys := false, apart := false }
def ClaimsPlaysSaid : Prop := claimsPlaysRow.holds Try.pinned (OpenSpec.ofChange claimsPlaysSpec)

/-- ITS FALSE NEIGHBOUR: 'it returns false'. Refute it at one input. -/
def claimsPlaysWrong : ChangeSpec := { name := "claimsPlays", fn := fun _ => fun
  | [d1, d2, d3, d4, d5] => { results := [.lit (.bool false)], args := [d1, d2, d3, d4, d5] }
  | _ => none }
def ClaimsPlaysWrongFalsely : Prop := claimsPlaysRow.holds Try.pinned (OpenSpec.ofChange claimsPlaysWrong)

/-- 'murmurationlaw22.ClaimsAgain': WHATEVER THE INPUT: true; the input reads as it did. -/
def claimsAgainSpec : ChangeSpec := { name := "claimsAgain", fn := fun _ => fun
  | [d1, d2, d3, d4, d5] => { results := [.lit (.bool true)], args := [d1, d2, d3, d4, d5] }
  | _ => none }
def claimsAgainRow : OpenClaim := { program := "ytbaehaleigpijaa", sum := "46bf773081d3df9044ab37ea1aae1a98dd7a173b5d3e5474e68b068dcd166d1d", func := "murmuration/murmurationlaw22.ClaimsAgain", spec := "claimsAgain", plainKeys := false, apart := false }
def ClaimsAgainSaid : Prop := claimsAgainRow.holds Try.pinned (OpenSpec.ofChange claimsAgainSpec)

/-- ITS FALSE NEIGHBOUR: 'it returns false'. Refute it at one input. -/
def claimsAgainWrong : ChangeSpec := { name := "claimsAgain", fn := fun _ => fun
  | [d1, d2, d3, d4, d5] => { results := [.lit (.bool false)], args := [d1, d2, d3, d4, d5] }
  | _ => none }
def ClaimsAgainWrongFalsely : Prop := claimsAgainRow.holds Try.pinned (OpenSpec.ofChange claimsAgainWrong)

/-- 'murmurationlaw22.ClaimsNone': WHATEVER THE INPUT: true; the input reads as it did. -/
def claimsNoneSpec : ChangeSpec := { name := "claimsNone", fn := fun _ => fun
  | [d1, d2] => { results := [.lit (.bool true)], args := [d1, d2] }
  | _ => none }
def claimsNoneRow : OpenClaim := { program := "ytbaehaleigpijaa", sum := "46bf773081d3df9044ab37ea1aae1a98dd7a173b5d3e5474e68b068dcd166d1d", func := "murmuration/murmurationlaw22.ClaimsNone", spec := "claimsNone", plainKeys := false, apart := false }
def ClaimsNoneSaid : Prop := claimsNoneRow.holds Try.pinned (OpenSpec.ofChange claimsNoneSpec)

/-- ITS FALSE NEIGHBOUR: 'it returns false'. Refute it at one input. -/
def claimsNoneWrong : ChangeSpec := { name := "claimsNone", fn := fun _ => fun
  | [d1, d2] => { results := [.lit (.bool false)], args := [d1, d2] }
  | _ => none }
def ClaimsNoneWrongFalsely : Prop := claimsNoneRow.holds Try.pinned (OpenSpec.ofChange claimsNoneWrong)

/-- 'murmurationlaw22.ClaimsApart': WHATEVER THE INPUT: true; the input reads as it did. -/
def claimsApartSpec : ChangeSpec := { name := "claimsApart", fn := fun _ => fun
  | [d1, d2, d3, d4, d5] => { results := [.lit (.bool true)], args := [d1, d2, d3, d4, d5] }
  | _ => none }
def claimsApartRow : OpenClaim := { program := "ytbaehaleigpijaa", sum := "46bf773081d3df9044ab37ea1aae1a98dd7a173b5d3e5474e68b068dcd166d1d", func := "murmuration/murmurationlaw22.ClaimsApart", spec := "claimsApart", unfollowed := true, recurses := true, plainKeys := false, apart := false }
def ClaimsApartSaid : Prop := claimsApartRow.holds Try.pinned (OpenSpec.ofChange claimsApartSpec)

/-- ITS FALSE NEIGHBOUR: 'it returns false'. Refute it at one input. -/
def claimsApartWrong : ChangeSpec := { name := "claimsApart", fn := fun _ => fun
  | [d1, d2, d3, d4, d5] => { results := [.lit (.bool false)], args := [d1, d2, d3, d4, d5] }
  | _ => none }
def ClaimsApartWrongFalsely : Prop := claimsApartRow.holds Try.pinned (OpenSpec.ofChange claimsApartWrong)

/- THE SECOND FORM. 'bulk': how many values and letters a reading holds, each counted each time it is reached (what is shared counts as often as it is met; a slice's spare places count too). A statement '..UptoSaid' is the law's where the arguments, and the package variables that the reading takes, are together of bulk at most 1048576: NARROWER than '..Said'. Prove '..Said' where nothing that the law and all that it calls make is longer than what came in: it says more and counts as full. Else prove '..UptoSaid'. A law counts once. -/
mutual
def uptoBulk {H : Type} : DataW H → Nat
  | .lit (.string bytes) => bytes.length + 1
  | .lit _ => 1
  | .nil => 1
  | .ptr d => uptoBulk d + 1
  | .slice elems spare => uptoBulkAll elems + uptoBulkAll spare + 1
  | .agg parts => uptoBulkAll parts + 1
  | .iface _ d => uptoBulk d + 1
  | .map entries => uptoBulkEntries entries + 1
  | .held _ => 1
def uptoBulkAll {H : Type} : List (DataW H) → Nat
  | [] => 0
  | d :: r => uptoBulk d + uptoBulkAll r
def uptoBulkEntries {H : Type} : List (Lit × DataW H) → Nat
  | [] => 0
  | x :: r => uptoBulkEntry x + uptoBulkEntries r
def uptoBulkEntry {H : Type} : Lit × DataW H → Nat
  | (.string bytes, d) => bytes.length + uptoBulk d + 1
  | (_, d) => uptoBulk d + 1
 end
def uptoSmall : (H : Type) → List (DataW H) → Bool := fun _ ds => decide (uptoBulkAll ds ≤ 1048576)
def OpenSpec.upto (s : _root_.Go.ChangeSpec) : _root_.Go.OpenSpec := { _root_.Go.OpenSpec.ofChange s with cond := some uptoSmall }

/-- 'murmurationlaw22.ClaimsPlays', WHERE WHAT IT READS IS OF BULK AT MOST 1048576: true; the input reads as it did. -/
def claimsPlaysUptoRow : OpenClaim := { program := "ytbaehaleigpijaa", sum := "46bf773081d3df9044ab37ea1aae1a98dd7a173b5d3e5474e68b068dcd166d1d", func := "murmuration/murmurationlaw22.ClaimsPlays", spec := "claimsPlays", plainKeys := false, apart := false, narrowed := true }
def ClaimsPlaysUptoSaid : Prop := claimsPlaysUptoRow.holds Try.pinned (OpenSpec.upto claimsPlaysSpec)

/-- 'murmurationlaw22.ClaimsAgain', WHERE WHAT IT READS IS OF BULK AT MOST 1048576: true; the input reads as it did. -/
def claimsAgainUptoRow : OpenClaim := { program := "ytbaehaleigpijaa", sum := "46bf773081d3df9044ab37ea1aae1a98dd7a173b5d3e5474e68b068dcd166d1d", func := "murmuration/murmurationlaw22.ClaimsAgain", spec := "claimsAgain", plainKeys := false, apart := false, narrowed := true }
def ClaimsAgainUptoSaid : Prop := claimsAgainUptoRow.holds Try.pinned (OpenSpec.upto claimsAgainSpec)

/-- 'murmurationlaw22.ClaimsNone', WHERE WHAT IT READS IS OF BULK AT MOST 1048576: true; the input reads as it did. -/
def claimsNoneUptoRow : OpenClaim := { program := "ytbaehaleigpijaa", sum := "46bf773081d3df9044ab37ea1aae1a98dd7a173b5d3e5474e68b068dcd166d1d", func := "murmuration/murmurationlaw22.ClaimsNone", spec := "claimsNone", plainKeys := false, apart := false, narrowed := true }
def ClaimsNoneUptoSaid : Prop := claimsNoneUptoRow.holds Try.pinned (OpenSpec.upto claimsNoneSpec)

/-- 'murmurationlaw22.ClaimsApart', WHERE WHAT IT READS IS OF BULK AT MOST 1048576: true; the input reads as it did. -/
def claimsApartUptoRow : OpenClaim := { program := "ytbaehaleigpijaa", sum := "46bf773081d3df9044ab37ea1aae1a98dd7a173b5d3e5474e68b068dcd166d1d", func := "murmuration/murmurationlaw22.ClaimsApart", spec := "claimsApart", unfollowed := true, recurses := true, plainKeys := false, apart := false, narrowed := true }
def ClaimsApartUptoSaid : Prop := claimsApartUptoRow.holds Try.pinned (OpenSpec.upto claimsApartSpec)

end Rows
end Go.Proofs.Ytbaehaleigpijaa
