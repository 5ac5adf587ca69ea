/-
  No cell of these rows narrows 'for every input' (looked for: loops, veiled, ifaces, maps, wideKeys, modest, calm, conditions, laid).
  DERIVED. THE GIVEN ROWS OF THIS SEAT. 12 by the template 'for every input the law returns true; each argument reads behind the call as it read before'; 0 by the template 'total and deterministic' (their statements: YtjmagojmfiabfaaTotals.lean).
  GIVEN WITH THE SEED: the statements are not yours to turn. If you find one false, say at which input.
  Laid BY PROGRAM, IN A SANDBOX (cutbox-rows.mjs): the forced cells as the released guide's own fill.sh prints them over the translation 71775748f2893325… (all of the seat's roots in one cut). By AI agents, Wed Nov 11 2026. No macro, syntax, notation, axiom, sorry.
-/
import Derived.Test.YtjmagojmfiabfaaChecked
import GoSem.Claim
import GoSem.ClaimJoined
import GoSem.ClaimMapViews
import Derived.JoinedTies
import Derived.KernelRfl
namespace Go.Proofs.Ytjmagojmfiabfaa
/- THE CELL 'sum', in the pinned program and in every row, IS THE sha256 OF THE DUMP (.gsa) THAT YtjmagojmfiabfaaProg.lean LOADS. Nothing in Lean hashes anything: it is a label: what it is worth is what the hold of that sum in a sandbox is worth. -/
noncomputable def Try.pinned : Pinned := { name := "ytjmagojmfiabfaa", sum := "71775748f289332522faa8a2b19e412f2301faedff1537400fe6a938b2791f95", checked := Try.checked }
namespace Rows
def none {H : Type} : Left H := { results := [], args := [] }

/-- 'bastillelaw04.FeBytes': WHATEVER THE INPUT: true; the input reads as it did. -/
def feBytesSpec : ChangeSpec := { name := "feBytes", fn := fun _ => fun
  | [d1, d2, d3] => { results := [.lit (.bool true)], args := [d1, d2, d3] }
  | _ => none }
def feBytesRow : OpenClaim := { program := "ytjmagojmfiabfaa", sum := "71775748f289332522faa8a2b19e412f2301faedff1537400fe6a938b2791f95", func := "bastille/bastillelaw04.FeBytes", spec := "feBytes", apart := false }
def FeBytesSaid : Prop := feBytesRow.holds Try.pinned (OpenSpec.ofChange feBytesSpec)

/-- ITS FALSE NEIGHBOUR: 'it returns false'. Refute it at one input. -/
def feBytesWrong : ChangeSpec := { name := "feBytes", fn := fun _ => fun
  | [d1, d2, d3] => { results := [.lit (.bool false)], args := [d1, d2, d3] }
  | _ => none }
def FeBytesWrongFalsely : Prop := feBytesRow.holds Try.pinned (OpenSpec.ofChange feBytesWrong)

/-- 'bastillelaw04.FeSums': WHATEVER THE INPUT: true; the input reads as it did. -/
def feSumsSpec : ChangeSpec := { name := "feSums", fn := fun _ => fun
  | [d1, d2] => { results := [.lit (.bool true)], args := [d1, d2] }
  | _ => none }
def feSumsRow : OpenClaim := { program := "ytjmagojmfiabfaa", sum := "71775748f289332522faa8a2b19e412f2301faedff1537400fe6a938b2791f95", func := "bastille/bastillelaw04.FeSums", spec := "feSums", apart := false }
def FeSumsSaid : Prop := feSumsRow.holds Try.pinned (OpenSpec.ofChange feSumsSpec)

/-- ITS FALSE NEIGHBOUR: 'it returns false'. Refute it at one input. -/
def feSumsWrong : ChangeSpec := { name := "feSums", fn := fun _ => fun
  | [d1, d2] => { results := [.lit (.bool false)], args := [d1, d2] }
  | _ => none }
def FeSumsWrongFalsely : Prop := feSumsRow.holds Try.pinned (OpenSpec.ofChange feSumsWrong)

/-- 'bastillelaw04.FePowers': WHATEVER THE INPUT: true; the input reads as it did. -/
def fePowersSpec : ChangeSpec := { name := "fePowers", fn := fun _ => fun
  | [d1, d2] => { results := [.lit (.bool true)], args := [d1, d2] }
  | _ => none }
def fePowersRow : OpenClaim := { program := "ytjmagojmfiabfaa", sum := "71775748f289332522faa8a2b19e412f2301faedff1537400fe6a938b2791f95", func := "bastille/bastillelaw04.FePowers", spec := "fePowers", apart := false }
def FePowersSaid : Prop := fePowersRow.holds Try.pinned (OpenSpec.ofChange fePowersSpec)

/-- ITS FALSE NEIGHBOUR: 'it returns false'. Refute it at one input. -/
def fePowersWrong : ChangeSpec := { name := "fePowers", fn := fun _ => fun
  | [d1, d2] => { results := [.lit (.bool false)], args := [d1, d2] }
  | _ => none }
def FePowersWrongFalsely : Prop := fePowersRow.holds Try.pinned (OpenSpec.ofChange fePowersWrong)

/-- 'bastillelaw04.FeRoots': WHATEVER THE INPUT: true; the input reads as it did. -/
def feRootsSpec : ChangeSpec := { name := "feRoots", fn := fun _ => fun
  | [d] => { results := [.lit (.bool true)], args := [d] }
  | _ => none }
def feRootsRow : OpenClaim := { program := "ytjmagojmfiabfaa", sum := "71775748f289332522faa8a2b19e412f2301faedff1537400fe6a938b2791f95", func := "bastille/bastillelaw04.FeRoots", spec := "feRoots", apart := false }
def FeRootsSaid : Prop := feRootsRow.holds Try.pinned (OpenSpec.ofChange feRootsSpec)

/-- ITS FALSE NEIGHBOUR: 'it returns false'. Refute it at one input. -/
def feRootsWrong : ChangeSpec := { name := "feRoots", fn := fun _ => fun
  | [d] => { results := [.lit (.bool false)], args := [d] }
  | _ => none }
def FeRootsWrongFalsely : Prop := feRootsRow.holds Try.pinned (OpenSpec.ofChange feRootsWrong)

/-- 'bastillelaw04.FeLaws': WHATEVER THE INPUT: true; the input reads as it did. -/
def feLawsSpec : ChangeSpec := { name := "feLaws", fn := fun _ => fun
  | [d1, d2, d3] => { results := [.lit (.bool true)], args := [d1, d2, d3] }
  | _ => none }
def feLawsRow : OpenClaim := { program := "ytjmagojmfiabfaa", sum := "71775748f289332522faa8a2b19e412f2301faedff1537400fe6a938b2791f95", func := "bastille/bastillelaw04.FeLaws", spec := "feLaws", apart := false }
def FeLawsSaid : Prop := feLawsRow.holds Try.pinned (OpenSpec.ofChange feLawsSpec)

/-- ITS FALSE NEIGHBOUR: 'it returns false'. Refute it at one input. -/
def feLawsWrong : ChangeSpec := { name := "feLaws", fn := fun _ => fun
  | [d1, d2, d3] => { results := [.lit (.bool false)], args := [d1, d2, d3] }
  | _ => none }
def FeLawsWrongFalsely : Prop := feLawsRow.holds Try.pinned (OpenSpec.ofChange feLawsWrong)

/-- 'bastillelaw17.DiskKeeps': WHATEVER THE INPUT: true; the input reads as it did. -/
def diskKeepsSpec : ChangeSpec := { name := "diskKeeps", fn := fun _ => fun
  | [d1, d2, d3] => { results := [.lit (.bool true)], args := [d1, d2, d3] }
  | _ => none }
def diskKeepsRow : OpenClaim := { program := "ytjmagojmfiabfaa", sum := "71775748f289332522faa8a2b19e412f2301faedff1537400fe6a938b2791f95", func := "bastille/bastillelaw17.DiskKeeps", spec := "diskKeeps", apart := false }
def DiskKeepsSaid : Prop := diskKeepsRow.holds Try.pinned (OpenSpec.ofChange diskKeepsSpec)

/-- ITS FALSE NEIGHBOUR: 'it returns false'. Refute it at one input. -/
def diskKeepsWrong : ChangeSpec := { name := "diskKeeps", fn := fun _ => fun
  | [d1, d2, d3] => { results := [.lit (.bool false)], args := [d1, d2, d3] }
  | _ => none }
def DiskKeepsWrongFalsely : Prop := diskKeepsRow.holds Try.pinned (OpenSpec.ofChange diskKeepsWrong)

/-- 'bastillelaw17.DiskDoes': WHATEVER THE INPUT: true; the input reads as it did. -/
def diskDoesSpec : ChangeSpec := { name := "diskDoes", fn := fun _ => fun
  | [d1, d2] => { results := [.lit (.bool true)], args := [d1, d2] }
  | _ => none }
def diskDoesRow : OpenClaim := { program := "ytjmagojmfiabfaa", sum := "71775748f289332522faa8a2b19e412f2301faedff1537400fe6a938b2791f95", func := "bastille/bastillelaw17.DiskDoes", spec := "diskDoes", apart := false }
def DiskDoesSaid : Prop := diskDoesRow.holds Try.pinned (OpenSpec.ofChange diskDoesSpec)

/-- ITS FALSE NEIGHBOUR: 'it returns false'. Refute it at one input. -/
def diskDoesWrong : ChangeSpec := { name := "diskDoes", fn := fun _ => fun
  | [d1, d2] => { results := [.lit (.bool false)], args := [d1, d2] }
  | _ => none }
def DiskDoesWrongFalsely : Prop := diskDoesRow.holds Try.pinned (OpenSpec.ofChange diskDoesWrong)

/-- 'bastillelaw17.DiskFuse': WHATEVER THE INPUT: true; the input reads as it did. -/
def diskFuseSpec : ChangeSpec := { name := "diskFuse", fn := fun _ => fun
  | [d1, d2] => { results := [.lit (.bool true)], args := [d1, d2] }
  | _ => none }
def diskFuseRow : OpenClaim := { program := "ytjmagojmfiabfaa", sum := "71775748f289332522faa8a2b19e412f2301faedff1537400fe6a938b2791f95", func := "bastille/bastillelaw17.DiskFuse", spec := "diskFuse", apart := false }
def DiskFuseSaid : Prop := diskFuseRow.holds Try.pinned (OpenSpec.ofChange diskFuseSpec)

/-- ITS FALSE NEIGHBOUR: 'it returns false'. Refute it at one input. -/
def diskFuseWrong : ChangeSpec := { name := "diskFuse", fn := fun _ => fun
  | [d1, d2] => { results := [.lit (.bool false)], args := [d1, d2] }
  | _ => none }
def DiskFuseWrongFalsely : Prop := diskFuseRow.holds Try.pinned (OpenSpec.ofChange diskFuseWrong)

/-- 'bastillelaw17.DiskApart': WHATEVER THE INPUT: true; the input reads as it did. -/
def diskApartSpec : ChangeSpec := { name := "diskApart", fn := fun _ => fun
  | [d1, d2, d3] => { results := [.lit (.bool true)], args := [d1, d2, d3] }
  | _ => none }
def diskApartRow : OpenClaim := { program := "ytjmagojmfiabfaa", sum := "71775748f289332522faa8a2b19e412f2301faedff1537400fe6a938b2791f95", func := "bastille/bastillelaw17.DiskApart", spec := "diskApart", apart := false }
def DiskApartSaid : Prop := diskApartRow.holds Try.pinned (OpenSpec.ofChange diskApartSpec)

/-- ITS FALSE NEIGHBOUR: 'it returns false'. Refute it at one input. -/
def diskApartWrong : ChangeSpec := { name := "diskApart", fn := fun _ => fun
  | [d1, d2, d3] => { results := [.lit (.bool false)], args := [d1, d2, d3] }
  | _ => none }
def DiskApartWrongFalsely : Prop := diskApartRow.holds Try.pinned (OpenSpec.ofChange diskApartWrong)

/-- 'bastillelaw10.PolyTags': WHATEVER THE INPUT: true; the input reads as it did. -/
def polyTagsSpec : ChangeSpec := { name := "polyTags", fn := fun _ => fun
  | [d1, d2, d3] => { results := [.lit (.bool true)], args := [d1, d2, d3] }
  | _ => none }
def polyTagsRow : OpenClaim := { program := "ytjmagojmfiabfaa", sum := "71775748f289332522faa8a2b19e412f2301faedff1537400fe6a938b2791f95", func := "bastille/bastillelaw10.PolyTags", spec := "polyTags", apart := false }
def PolyTagsSaid : Prop := polyTagsRow.holds Try.pinned (OpenSpec.ofChange polyTagsSpec)

/-- ITS FALSE NEIGHBOUR: 'it returns false'. Refute it at one input. -/
def polyTagsWrong : ChangeSpec := { name := "polyTags", fn := fun _ => fun
  | [d1, d2, d3] => { results := [.lit (.bool false)], args := [d1, d2, d3] }
  | _ => none }
def PolyTagsWrongFalsely : Prop := polyTagsRow.holds Try.pinned (OpenSpec.ofChange polyTagsWrong)

/-- 'bastillelaw10.PolyNumbers': WHATEVER THE INPUT: true; the input reads as it did. -/
def polyNumbersSpec : ChangeSpec := { name := "polyNumbers", fn := fun _ => fun
  | [d1, d2, d3] => { results := [.lit (.bool true)], args := [d1, d2, d3] }
  | _ => none }
def polyNumbersRow : OpenClaim := { program := "ytjmagojmfiabfaa", sum := "71775748f289332522faa8a2b19e412f2301faedff1537400fe6a938b2791f95", func := "bastille/bastillelaw10.PolyNumbers", spec := "polyNumbers", apart := false }
def PolyNumbersSaid : Prop := polyNumbersRow.holds Try.pinned (OpenSpec.ofChange polyNumbersSpec)

/-- ITS FALSE NEIGHBOUR: 'it returns false'. Refute it at one input. -/
def polyNumbersWrong : ChangeSpec := { name := "polyNumbers", fn := fun _ => fun
  | [d1, d2, d3] => { results := [.lit (.bool false)], args := [d1, d2, d3] }
  | _ => none }
def PolyNumbersWrongFalsely : Prop := polyNumbersRow.holds Try.pinned (OpenSpec.ofChange polyNumbersWrong)

/-- 'bastillelaw10.PolyLaws': WHATEVER THE INPUT: true; the input reads as it did. -/
def polyLawsSpec : ChangeSpec := { name := "polyLaws", fn := fun _ => fun
  | [d1, d2, d3] => { results := [.lit (.bool true)], args := [d1, d2, d3] }
  | _ => none }
def polyLawsRow : OpenClaim := { program := "ytjmagojmfiabfaa", sum := "71775748f289332522faa8a2b19e412f2301faedff1537400fe6a938b2791f95", func := "bastille/bastillelaw10.PolyLaws", spec := "polyLaws", apart := false }
def PolyLawsSaid : Prop := polyLawsRow.holds Try.pinned (OpenSpec.ofChange polyLawsSpec)

/-- ITS FALSE NEIGHBOUR: 'it returns false'. Refute it at one input. -/
def polyLawsWrong : ChangeSpec := { name := "polyLaws", fn := fun _ => fun
  | [d1, d2, d3] => { results := [.lit (.bool false)], args := [d1, d2, d3] }
  | _ => none }
def PolyLawsWrongFalsely : Prop := polyLawsRow.holds Try.pinned (OpenSpec.ofChange polyLawsWrong)

/- THE SECOND FORM. 'bulk': how many values and letters a reading holds, each counted each time it is reached (what is shared counts as often as it is met; a slice's spare places count too). A statement '..UptoSaid' is the law's where the arguments, and the package variables that the reading takes, are together of bulk at most 1048576: NARROWER than '..Said'. Prove '..Said' where nothing that the law and all that it calls make is longer than what came in: it says more and counts as full. Else prove '..UptoSaid'. A law counts once. -/
mutual
def uptoBulk {H : Type} : DataW H → Nat
  | .lit (.string bytes) => bytes.length + 1
  | .lit _ => 1
  | .nil => 1
  | .ptr d => uptoBulk d + 1
  | .slice elems spare => uptoBulkAll elems + uptoBulkAll spare + 1
  | .agg parts => uptoBulkAll parts + 1
  | .iface _ d => uptoBulk d + 1
  | .map entries => uptoBulkEntries entries + 1
  | .held _ => 1
def uptoBulkAll {H : Type} : List (DataW H) → Nat
  | [] => 0
  | d :: r => uptoBulk d + uptoBulkAll r
def uptoBulkEntries {H : Type} : List (Lit × DataW H) → Nat
  | [] => 0
  | x :: r => uptoBulkEntry x + uptoBulkEntries r
def uptoBulkEntry {H : Type} : Lit × DataW H → Nat
  | (.string bytes, d) => bytes.length + uptoBulk d + 1
  | (_, d) => uptoBulk d + 1
 end
def uptoSmall : (H : Type) → List (DataW H) → Bool := fun _ ds => decide (uptoBulkAll ds ≤ 1048576)
def OpenSpec.upto (s : _root_.Go.ChangeSpec) : _root_.Go.OpenSpec := { _root_.Go.OpenSpec.ofChange s with cond := some uptoSmall }

/-- 'bastillelaw04.FeBytes', WHERE WHAT IT READS IS OF BULK AT MOST 1048576: true; the input reads as it did. -/
def feBytesUptoRow : OpenClaim := { program := "ytjmagojmfiabfaa", sum := "71775748f289332522faa8a2b19e412f2301faedff1537400fe6a938b2791f95", func := "bastille/bastillelaw04.FeBytes", spec := "feBytes", apart := false, narrowed := true }
def FeBytesUptoSaid : Prop := feBytesUptoRow.holds Try.pinned (OpenSpec.upto feBytesSpec)

/-- 'bastillelaw04.FeSums', WHERE WHAT IT READS IS OF BULK AT MOST 1048576: true; the input reads as it did. -/
def feSumsUptoRow : OpenClaim := { program := "ytjmagojmfiabfaa", sum := "71775748f289332522faa8a2b19e412f2301faedff1537400fe6a938b2791f95", func := "bastille/bastillelaw04.FeSums", spec := "feSums", apart := false, narrowed := true }
def FeSumsUptoSaid : Prop := feSumsUptoRow.holds Try.pinned (OpenSpec.upto feSumsSpec)

/-- 'bastillelaw04.FePowers', WHERE WHAT IT READS IS OF BULK AT MOST 1048576: true; the input reads as it did. -/
def fePowersUptoRow : OpenClaim := { program := "ytjmagojmfiabfaa", sum := "71775748f289332522faa8a2b19e412f2301faedff1537400fe6a938b2791f95", func := "bastille/bastillelaw04.FePowers", spec := "fePowers", apart := false, narrowed := true }
def FePowersUptoSaid : Prop := fePowersUptoRow.holds Try.pinned (OpenSpec.upto fePowersSpec)

/-- 'bastillelaw04.FeRoots', WHERE WHAT IT READS IS OF BULK AT MOST 1048576: true; the input reads as it did. -/
def feRootsUptoRow : OpenClaim := { program := "ytjmagojmfiabfaa", sum := "71775748f289332522faa8a2b19e412f2301faedff1537400fe6a938b2791f95", func := "bastille/bastillelaw04.FeRoots", spec := "feRoots", apart := false, narrowed := true }
def FeRootsUptoSaid : Prop := feRootsUptoRow.holds Try.pinned (OpenSpec.upto feRootsSpec)

/-- 'bastillelaw04.FeLaws', WHERE WHAT IT READS IS OF BULK AT MOST 1048576: true; the input reads as it did. -/
def feLawsUptoRow : OpenClaim := { program := "ytjmagojmfiabfaa", sum := "71775748f289332522faa8a2b19e412f2301faedff1537400fe6a938b2791f95", func := "bastille/bastillelaw04.FeLaws", spec := "feLaws", apart := false, narrowed := true }
def FeLawsUptoSaid : Prop := feLawsUptoRow.holds Try.pinned (OpenSpec.upto feLawsSpec)

/-- 'bastillelaw17.DiskKeeps', WHERE WHAT IT READS IS OF BULK AT MOST 1048576: true; the input reads as it did. -/
def diskKeepsUptoRow : OpenClaim := { program := "ytjmagojmfiabfaa", sum := "71775748f289332522faa8a2b19e412f2301faedff1537400fe6a938b2791f95", func := "bastille/bastillelaw17.DiskKeeps", spec := "diskKeeps", apart := false, narrowed := true }
def DiskKeepsUptoSaid : Prop := diskKeepsUptoRow.holds Try.pinned (OpenSpec.upto diskKeepsSpec)

/-- 'bastillelaw17.DiskDoes', WHERE WHAT IT READS IS OF BULK AT MOST 1048576: true; the input reads as it did. -/
def diskDoesUptoRow : OpenClaim := { program := "ytjmagojmfiabfaa", sum := "71775748f289332522faa8a2b19e412f2301faedff1537400fe6a938b2791f95", func := "bastille/bastillelaw17.DiskDoes", spec := "diskDoes", apart := false, narrowed := true }
def DiskDoesUptoSaid : Prop := diskDoesUptoRow.holds Try.pinned (OpenSpec.upto diskDoesSpec)

/-- 'bastillelaw17.DiskFuse', WHERE WHAT IT READS IS OF BULK AT MOST 1048576: true; the input reads as it did. -/
def diskFuseUptoRow : OpenClaim := { program := "ytjmagojmfiabfaa", sum := "71775748f289332522faa8a2b19e412f2301faedff1537400fe6a938b2791f95", func := "bastille/bastillelaw17.DiskFuse", spec := "diskFuse", apart := false, narrowed := true }
def DiskFuseUptoSaid : Prop := diskFuseUptoRow.holds Try.pinned (OpenSpec.upto diskFuseSpec)

/-- 'bastillelaw17.DiskApart', WHERE WHAT IT READS IS OF BULK AT MOST 1048576: true; the input reads as it did. -/
def diskApartUptoRow : OpenClaim := { program := "ytjmagojmfiabfaa", sum := "71775748f289332522faa8a2b19e412f2301faedff1537400fe6a938b2791f95", func := "bastille/bastillelaw17.DiskApart", spec := "diskApart", apart := false, narrowed := true }
def DiskApartUptoSaid : Prop := diskApartUptoRow.holds Try.pinned (OpenSpec.upto diskApartSpec)

/-- 'bastillelaw10.PolyTags', WHERE WHAT IT READS IS OF BULK AT MOST 1048576: true; the input reads as it did. -/
def polyTagsUptoRow : OpenClaim := { program := "ytjmagojmfiabfaa", sum := "71775748f289332522faa8a2b19e412f2301faedff1537400fe6a938b2791f95", func := "bastille/bastillelaw10.PolyTags", spec := "polyTags", apart := false, narrowed := true }
def PolyTagsUptoSaid : Prop := polyTagsUptoRow.holds Try.pinned (OpenSpec.upto polyTagsSpec)

/-- 'bastillelaw10.PolyNumbers', WHERE WHAT IT READS IS OF BULK AT MOST 1048576: true; the input reads as it did. -/
def polyNumbersUptoRow : OpenClaim := { program := "ytjmagojmfiabfaa", sum := "71775748f289332522faa8a2b19e412f2301faedff1537400fe6a938b2791f95", func := "bastille/bastillelaw10.PolyNumbers", spec := "polyNumbers", apart := false, narrowed := true }
def PolyNumbersUptoSaid : Prop := polyNumbersUptoRow.holds Try.pinned (OpenSpec.upto polyNumbersSpec)

/-- 'bastillelaw10.PolyLaws', WHERE WHAT IT READS IS OF BULK AT MOST 1048576: true; the input reads as it did. -/
def polyLawsUptoRow : OpenClaim := { program := "ytjmagojmfiabfaa", sum := "71775748f289332522faa8a2b19e412f2301faedff1537400fe6a938b2791f95", func := "bastille/bastillelaw10.PolyLaws", spec := "polyLaws", apart := false, narrowed := true }
def PolyLawsUptoSaid : Prop := polyLawsUptoRow.holds Try.pinned (OpenSpec.upto polyLawsSpec)

end Rows
end Go.Proofs.Ytjmagojmfiabfaa
