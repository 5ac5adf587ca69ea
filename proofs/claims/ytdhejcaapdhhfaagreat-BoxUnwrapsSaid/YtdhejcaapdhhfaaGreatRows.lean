/-
  No cell of these rows narrows 'for every input' (looked for: loops, veiled, ifaces, maps, wideKeys, modest, calm, conditions, laid).
  DERIVED. THE GIVEN ROWS OF THIS SEAT. 3 by the template 'for every input the law returns true; each argument reads behind the call as it read before'; 0 by the template 'total and deterministic' (their statements: YtdhejcaapdhhfaaGreatTotals.lean).
  GIVEN WITH THE SEED: the statements are not yours to turn. If you find one false, say at which input.
  Laid BY PROGRAM, IN A SANDBOX (cutbox-rows.mjs): the forced cells as the released guide's own fill.sh prints them over the translation e0b25f3461c6698e… (all of the seat's roots in one cut). By AI agents, Wed Nov 11 2026. No macro, syntax, notation, axiom, sorry.
-/
import Derived.Test.YtdhejcaapdhhfaaGreatChecked
import GoSem.Claim
import GoSem.ClaimJoined
import GoSem.ClaimMapViews
import Derived.JoinedTies
import Derived.KernelRfl
namespace Go.Proofs.YtdhejcaapdhhfaaGreat
/- THE CELL 'sum', in the pinned program and in every row, IS THE sha256 OF THE DUMP (.gsa) THAT YtdhejcaapdhhfaaGreatProg.lean LOADS. Nothing in Lean hashes anything: it is a label: what it is worth is what the hold of that sum in a sandbox is worth. -/
noncomputable def Tryz.pinned : Pinned := { name := "ytdhejcaapdhhfaagreat", sum := "e0b25f3461c6698e5c775fad0d100079b1b9db1072ea327da3420e537d99daa0", checked := Tryz.checked }
namespace Rows
def none {H : Type} : Left H := { results := [], args := [] }

/-- 'bastillelaw08.SignSigns': WHATEVER THE INPUT: true; the input reads as it did. -/
def signSignsSpec : ChangeSpec := { name := "signSigns", fn := fun _ => fun
  | [d1, d2] => { results := [.lit (.bool true)], args := [d1, d2] }
  | _ => none }
def signSignsRow : OpenClaim := { program := "ytdhejcaapdhhfaagreat", sum := "e0b25f3461c6698e5c775fad0d100079b1b9db1072ea327da3420e537d99daa0", func := "bastille/bastillelaw08.SignSigns", spec := "signSigns", unfollowed := true, recurses := true, apart := false }
def SignSignsSaid : Prop := signSignsRow.holds Tryz.pinned (OpenSpec.ofChange signSignsSpec)

/-- ITS FALSE NEIGHBOUR: 'it returns false'. Refute it at one input. -/
def signSignsWrong : ChangeSpec := { name := "signSigns", fn := fun _ => fun
  | [d1, d2] => { results := [.lit (.bool false)], args := [d1, d2] }
  | _ => none }
def SignSignsWrongFalsely : Prop := signSignsRow.holds Tryz.pinned (OpenSpec.ofChange signSignsWrong)

/-- 'bastillelaw13.BoxWraps': WHATEVER THE INPUT: true; the input reads as it did. -/
def boxWrapsSpec : ChangeSpec := { name := "boxWraps", fn := fun _ => fun
  | [d1, d2, d3] => { results := [.lit (.bool true)], args := [d1, d2, d3] }
  | _ => none }
def boxWrapsRow : OpenClaim := { program := "ytdhejcaapdhhfaagreat", sum := "e0b25f3461c6698e5c775fad0d100079b1b9db1072ea327da3420e537d99daa0", func := "bastille/bastillelaw13.BoxWraps", spec := "boxWraps", unfollowed := true, recurses := true, apart := false }
def BoxWrapsSaid : Prop := boxWrapsRow.holds Tryz.pinned (OpenSpec.ofChange boxWrapsSpec)

/-- ITS FALSE NEIGHBOUR: 'it returns false'. Refute it at one input. -/
def boxWrapsWrong : ChangeSpec := { name := "boxWraps", fn := fun _ => fun
  | [d1, d2, d3] => { results := [.lit (.bool false)], args := [d1, d2, d3] }
  | _ => none }
def BoxWrapsWrongFalsely : Prop := boxWrapsRow.holds Tryz.pinned (OpenSpec.ofChange boxWrapsWrong)

/-- 'bastillelaw13.BoxUnwraps': WHATEVER THE INPUT: true; the input reads as it did. -/
def boxUnwrapsSpec : ChangeSpec := { name := "boxUnwraps", fn := fun _ => fun
  | [d1, d2, d3] => { results := [.lit (.bool true)], args := [d1, d2, d3] }
  | _ => none }
def boxUnwrapsRow : OpenClaim := { program := "ytdhejcaapdhhfaagreat", sum := "e0b25f3461c6698e5c775fad0d100079b1b9db1072ea327da3420e537d99daa0", func := "bastille/bastillelaw13.BoxUnwraps", spec := "boxUnwraps", unfollowed := true, recurses := true, apart := false }
def BoxUnwrapsSaid : Prop := boxUnwrapsRow.holds Tryz.pinned (OpenSpec.ofChange boxUnwrapsSpec)

/-- ITS FALSE NEIGHBOUR: 'it returns false'. Refute it at one input. -/
def boxUnwrapsWrong : ChangeSpec := { name := "boxUnwraps", fn := fun _ => fun
  | [d1, d2, d3] => { results := [.lit (.bool false)], args := [d1, d2, d3] }
  | _ => none }
def BoxUnwrapsWrongFalsely : Prop := boxUnwrapsRow.holds Tryz.pinned (OpenSpec.ofChange boxUnwrapsWrong)

/- THE SECOND FORM. 'bulk': how many values and letters a reading holds, each counted each time it is reached (what is shared counts as often as it is met; a slice's spare places count too). A statement '..UptoSaid' is the law's where the arguments, and the package variables that the reading takes, are together of bulk at most 1048576: NARROWER than '..Said'. Prove '..Said' where nothing that the law and all that it calls make is longer than what came in: it says more and counts as full. Else prove '..UptoSaid'. A law counts once. -/
mutual
def uptoBulk {H : Type} : DataW H → Nat
  | .lit (.string bytes) => bytes.length + 1
  | .lit _ => 1
  | .nil => 1
  | .ptr d => uptoBulk d + 1
  | .slice elems spare => uptoBulkAll elems + uptoBulkAll spare + 1
  | .agg parts => uptoBulkAll parts + 1
  | .iface _ d => uptoBulk d + 1
  | .map entries => uptoBulkEntries entries + 1
  | .held _ => 1
def uptoBulkAll {H : Type} : List (DataW H) → Nat
  | [] => 0
  | d :: r => uptoBulk d + uptoBulkAll r
def uptoBulkEntries {H : Type} : List (Lit × DataW H) → Nat
  | [] => 0
  | x :: r => uptoBulkEntry x + uptoBulkEntries r
def uptoBulkEntry {H : Type} : Lit × DataW H → Nat
  | (.string bytes, d) => bytes.length + uptoBulk d + 1
  | (_, d) => uptoBulk d + 1
 end
def uptoSmall : (H : Type) → List (DataW H) → Bool := fun _ ds => decide (uptoBulkAll ds ≤ 1048576)
def OpenSpec.upto (s : _root_.Go.ChangeSpec) : _root_.Go.OpenSpec := { _root_.Go.OpenSpec.ofChange s with cond := some uptoSmall }

/-- 'bastillelaw08.SignSigns', WHERE WHAT IT READS IS OF BULK AT MOST 1048576: true; the input reads as it did. -/
def signSignsUptoRow : OpenClaim := { program := "ytdhejcaapdhhfaagreat", sum := "e0b25f3461c6698e5c775fad0d100079b1b9db1072ea327da3420e537d99daa0", func := "bastille/bastillelaw08.SignSigns", spec := "signSigns", unfollowed := true, recurses := true, apart := false, narrowed := true }
def SignSignsUptoSaid : Prop := signSignsUptoRow.holds Tryz.pinned (OpenSpec.upto signSignsSpec)

/-- 'bastillelaw13.BoxWraps', WHERE WHAT IT READS IS OF BULK AT MOST 1048576: true; the input reads as it did. -/
def boxWrapsUptoRow : OpenClaim := { program := "ytdhejcaapdhhfaagreat", sum := "e0b25f3461c6698e5c775fad0d100079b1b9db1072ea327da3420e537d99daa0", func := "bastille/bastillelaw13.BoxWraps", spec := "boxWraps", unfollowed := true, recurses := true, apart := false, narrowed := true }
def BoxWrapsUptoSaid : Prop := boxWrapsUptoRow.holds Tryz.pinned (OpenSpec.upto boxWrapsSpec)

/-- 'bastillelaw13.BoxUnwraps', WHERE WHAT IT READS IS OF BULK AT MOST 1048576: true; the input reads as it did. -/
def boxUnwrapsUptoRow : OpenClaim := { program := "ytdhejcaapdhhfaagreat", sum := "e0b25f3461c6698e5c775fad0d100079b1b9db1072ea327da3420e537d99daa0", func := "bastille/bastillelaw13.BoxUnwraps", spec := "boxUnwraps", unfollowed := true, recurses := true, apart := false, narrowed := true }
def BoxUnwrapsUptoSaid : Prop := boxUnwrapsUptoRow.holds Tryz.pinned (OpenSpec.upto boxUnwrapsSpec)

end Rows
end Go.Proofs.YtdhejcaapdhhfaaGreat
