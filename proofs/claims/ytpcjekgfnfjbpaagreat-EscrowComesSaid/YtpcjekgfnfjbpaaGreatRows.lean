/-
  No cell of these rows narrows 'for every input' (looked for: loops, veiled, ifaces, maps, wideKeys, modest, calm, conditions, laid).
  DERIVED. THE GIVEN ROWS OF THIS SEAT. 8 by the template 'for every input the law returns true; each argument reads behind the call as it read before'; 0 by the template 'total and deterministic' (their statements: YtpcjekgfnfjbpaaGreatTotals.lean).
  GIVEN WITH THE SEED: the statements are not yours to turn. If you find one false, say at which input.
  Laid BY PROGRAM, IN A SANDBOX (cutbox-rows.mjs): the forced cells as the released guide's own fill.sh prints them over the translation e88873239c1cb147… (all of the seat's roots in one cut). By AI agents, Wed Nov 11 2026. No macro, syntax, notation, axiom, sorry.
-/
import Derived.Test.YtpcjekgfnfjbpaaGreatChecked
import GoSem.Claim
import GoSem.ClaimJoined
import GoSem.ClaimMapViews
import Derived.JoinedTies
import Derived.KernelRfl
namespace Go.Proofs.YtpcjekgfnfjbpaaGreat
/- THE CELL 'sum', in the pinned program and in every row, IS THE sha256 OF THE DUMP (.gsa) THAT YtpcjekgfnfjbpaaGreatProg.lean LOADS. Nothing in Lean hashes anything: it is a label: what it is worth is what the hold of that sum in a sandbox is worth. -/
noncomputable def Tryz.pinned : Pinned := { name := "ytpcjekgfnfjbpaagreat", sum := "e88873239c1cb1474a30f8a8cc3fce2465bbc98c53bff539debe903675586348", checked := Tryz.checked }
namespace Rows
def none {H : Type} : Left H := { results := [], args := [] }

/-- 'bastillelaw16.SuiteHides': WHATEVER THE INPUT: true; the input reads as it did. -/
def suiteHidesSpec : ChangeSpec := { name := "suiteHides", fn := fun _ => fun
  | [d1, d2, d3] => { results := [.lit (.bool true)], args := [d1, d2, d3] }
  | _ => none }
def suiteHidesRow : OpenClaim := { program := "ytpcjekgfnfjbpaagreat", sum := "e88873239c1cb1474a30f8a8cc3fce2465bbc98c53bff539debe903675586348", func := "bastille/bastillelaw16.SuiteHides", spec := "suiteHides", unfollowed := true, recurses := true, plainKeys := false, apart := false }
def SuiteHidesSaid : Prop := suiteHidesRow.holds Tryz.pinned (OpenSpec.ofChange suiteHidesSpec)

/-- ITS FALSE NEIGHBOUR: 'it returns false'. Refute it at one input. -/
def suiteHidesWrong : ChangeSpec := { name := "suiteHides", fn := fun _ => fun
  | [d1, d2, d3] => { results := [.lit (.bool false)], args := [d1, d2, d3] }
  | _ => none }
def SuiteHidesWrongFalsely : Prop := suiteHidesRow.holds Tryz.pinned (OpenSpec.ofChange suiteHidesWrong)

/-- 'bastillelaw16.SuiteBytes': WHATEVER THE INPUT: true; the input reads as it did. -/
def suiteBytesSpec : ChangeSpec := { name := "suiteBytes", fn := fun _ => fun
  | [d1, d2, d3] => { results := [.lit (.bool true)], args := [d1, d2, d3] }
  | _ => none }
def suiteBytesRow : OpenClaim := { program := "ytpcjekgfnfjbpaagreat", sum := "e88873239c1cb1474a30f8a8cc3fce2465bbc98c53bff539debe903675586348", func := "bastille/bastillelaw16.SuiteBytes", spec := "suiteBytes", unfollowed := true, recurses := true, plainKeys := false, apart := false }
def SuiteBytesSaid : Prop := suiteBytesRow.holds Tryz.pinned (OpenSpec.ofChange suiteBytesSpec)

/-- ITS FALSE NEIGHBOUR: 'it returns false'. Refute it at one input. -/
def suiteBytesWrong : ChangeSpec := { name := "suiteBytes", fn := fun _ => fun
  | [d1, d2, d3] => { results := [.lit (.bool false)], args := [d1, d2, d3] }
  | _ => none }
def SuiteBytesWrongFalsely : Prop := suiteBytesRow.holds Tryz.pinned (OpenSpec.ofChange suiteBytesWrong)

/-- 'bastillelaw29.EscrowWrong': WHATEVER THE INPUT: true; the input reads as it did. -/
def escrowWrongSpec : ChangeSpec := { name := "escrowWrong", fn := fun _ => fun
  | [d1, d2, d3] => { results := [.lit (.bool true)], args := [d1, d2, d3] }
  | _ => none }
def escrowWrongRow : OpenClaim := { program := "ytpcjekgfnfjbpaagreat", sum := "e88873239c1cb1474a30f8a8cc3fce2465bbc98c53bff539debe903675586348", func := "bastille/bastillelaw29.EscrowWrong", spec := "escrowWrong", unfollowed := true, recurses := true, plainKeys := false, apart := false }
def EscrowWrongSaid : Prop := escrowWrongRow.holds Tryz.pinned (OpenSpec.ofChange escrowWrongSpec)

/-- ITS FALSE NEIGHBOUR: 'it returns false'. Refute it at one input. -/
def escrowWrongWrong : ChangeSpec := { name := "escrowWrong", fn := fun _ => fun
  | [d1, d2, d3] => { results := [.lit (.bool false)], args := [d1, d2, d3] }
  | _ => none }
def EscrowWrongWrongFalsely : Prop := escrowWrongRow.holds Tryz.pinned (OpenSpec.ofChange escrowWrongWrong)

/-- 'bastillelaw29.EscrowTake': WHATEVER THE INPUT: true; the input reads as it did. -/
def escrowTakeSpec : ChangeSpec := { name := "escrowTake", fn := fun _ => fun
  | [d1, d2] => { results := [.lit (.bool true)], args := [d1, d2] }
  | _ => none }
def escrowTakeRow : OpenClaim := { program := "ytpcjekgfnfjbpaagreat", sum := "e88873239c1cb1474a30f8a8cc3fce2465bbc98c53bff539debe903675586348", func := "bastille/bastillelaw29.EscrowTake", spec := "escrowTake", unfollowed := true, recurses := true, plainKeys := false, apart := false }
def EscrowTakeSaid : Prop := escrowTakeRow.holds Tryz.pinned (OpenSpec.ofChange escrowTakeSpec)

/-- ITS FALSE NEIGHBOUR: 'it returns false'. Refute it at one input. -/
def escrowTakeWrong : ChangeSpec := { name := "escrowTake", fn := fun _ => fun
  | [d1, d2] => { results := [.lit (.bool false)], args := [d1, d2] }
  | _ => none }
def EscrowTakeWrongFalsely : Prop := escrowTakeRow.holds Tryz.pinned (OpenSpec.ofChange escrowTakeWrong)

/-- 'bastillelaw29.EscrowComes': WHATEVER THE INPUT: true; the input reads as it did. -/
def escrowComesSpec : ChangeSpec := { name := "escrowComes", fn := fun _ => fun
  | [d1, d2, d3] => { results := [.lit (.bool true)], args := [d1, d2, d3] }
  | _ => none }
def escrowComesRow : OpenClaim := { program := "ytpcjekgfnfjbpaagreat", sum := "e88873239c1cb1474a30f8a8cc3fce2465bbc98c53bff539debe903675586348", func := "bastille/bastillelaw29.EscrowComes", spec := "escrowComes", unfollowed := true, recurses := true, plainKeys := false, apart := false }
def EscrowComesSaid : Prop := escrowComesRow.holds Tryz.pinned (OpenSpec.ofChange escrowComesSpec)

/-- ITS FALSE NEIGHBOUR: 'it returns false'. Refute it at one input. -/
def escrowComesWrong : ChangeSpec := { name := "escrowComes", fn := fun _ => fun
  | [d1, d2, d3] => { results := [.lit (.bool false)], args := [d1, d2, d3] }
  | _ => none }
def EscrowComesWrongFalsely : Prop := escrowComesRow.holds Tryz.pinned (OpenSpec.ofChange escrowComesWrong)

/-- 'bastillelaw16.SuiteTerms': WHATEVER THE INPUT: true; the input reads as it did. -/
def suiteTermsSpec : ChangeSpec := { name := "suiteTerms", fn := fun _ => fun
  | [d] => { results := [.lit (.bool true)], args := [d] }
  | _ => none }
def suiteTermsRow : OpenClaim := { program := "ytpcjekgfnfjbpaagreat", sum := "e88873239c1cb1474a30f8a8cc3fce2465bbc98c53bff539debe903675586348", func := "bastille/bastillelaw16.SuiteTerms", spec := "suiteTerms", unfollowed := true, recurses := true, plainKeys := false, apart := false }
def SuiteTermsSaid : Prop := suiteTermsRow.holds Tryz.pinned (OpenSpec.ofChange suiteTermsSpec)

/-- ITS FALSE NEIGHBOUR: 'it returns false'. Refute it at one input. -/
def suiteTermsWrong : ChangeSpec := { name := "suiteTerms", fn := fun _ => fun
  | [d] => { results := [.lit (.bool false)], args := [d] }
  | _ => none }
def SuiteTermsWrongFalsely : Prop := suiteTermsRow.holds Tryz.pinned (OpenSpec.ofChange suiteTermsWrong)

/-- 'bastillelaw16.SuiteNone': WHATEVER THE INPUT: true; the input reads as it did. -/
def suiteNoneSpec : ChangeSpec := { name := "suiteNone", fn := fun _ => fun
  | [d1, d2, d3] => { results := [.lit (.bool true)], args := [d1, d2, d3] }
  | _ => none }
def suiteNoneRow : OpenClaim := { program := "ytpcjekgfnfjbpaagreat", sum := "e88873239c1cb1474a30f8a8cc3fce2465bbc98c53bff539debe903675586348", func := "bastille/bastillelaw16.SuiteNone", spec := "suiteNone", unfollowed := true, recurses := true, plainKeys := false, apart := false }
def SuiteNoneSaid : Prop := suiteNoneRow.holds Tryz.pinned (OpenSpec.ofChange suiteNoneSpec)

/-- ITS FALSE NEIGHBOUR: 'it returns false'. Refute it at one input. -/
def suiteNoneWrong : ChangeSpec := { name := "suiteNone", fn := fun _ => fun
  | [d1, d2, d3] => { results := [.lit (.bool false)], args := [d1, d2, d3] }
  | _ => none }
def SuiteNoneWrongFalsely : Prop := suiteNoneRow.holds Tryz.pinned (OpenSpec.ofChange suiteNoneWrong)

/-- 'bastillelaw16.SuiteOpens': WHATEVER THE INPUT: true; the input reads as it did. -/
def suiteOpensSpec : ChangeSpec := { name := "suiteOpens", fn := fun _ => fun
  | [d1, d2, d3] => { results := [.lit (.bool true)], args := [d1, d2, d3] }
  | _ => none }
def suiteOpensRow : OpenClaim := { program := "ytpcjekgfnfjbpaagreat", sum := "e88873239c1cb1474a30f8a8cc3fce2465bbc98c53bff539debe903675586348", func := "bastille/bastillelaw16.SuiteOpens", spec := "suiteOpens", unfollowed := true, recurses := true, plainKeys := false, apart := false }
def SuiteOpensSaid : Prop := suiteOpensRow.holds Tryz.pinned (OpenSpec.ofChange suiteOpensSpec)

/-- ITS FALSE NEIGHBOUR: 'it returns false'. Refute it at one input. -/
def suiteOpensWrong : ChangeSpec := { name := "suiteOpens", fn := fun _ => fun
  | [d1, d2, d3] => { results := [.lit (.bool false)], args := [d1, d2, d3] }
  | _ => none }
def SuiteOpensWrongFalsely : Prop := suiteOpensRow.holds Tryz.pinned (OpenSpec.ofChange suiteOpensWrong)

/- THE SECOND FORM. 'bulk': how many values and letters a reading holds, each counted each time it is reached (what is shared counts as often as it is met; a slice's spare places count too). A statement '..UptoSaid' is the law's where the arguments, and the package variables that the reading takes, are together of bulk at most 1048576: NARROWER than '..Said'. Prove '..Said' where nothing that the law and all that it calls make is longer than what came in: it says more and counts as full. Else prove '..UptoSaid'. A law counts once. -/
mutual
def uptoBulk {H : Type} : DataW H → Nat
  | .lit (.string bytes) => bytes.length + 1
  | .lit _ => 1
  | .nil => 1
  | .ptr d => uptoBulk d + 1
  | .slice elems spare => uptoBulkAll elems + uptoBulkAll spare + 1
  | .agg parts => uptoBulkAll parts + 1
  | .iface _ d => uptoBulk d + 1
  | .map entries => uptoBulkEntries entries + 1
  | .held _ => 1
def uptoBulkAll {H : Type} : List (DataW H) → Nat
  | [] => 0
  | d :: r => uptoBulk d + uptoBulkAll r
def uptoBulkEntries {H : Type} : List (Lit × DataW H) → Nat
  | [] => 0
  | x :: r => uptoBulkEntry x + uptoBulkEntries r
def uptoBulkEntry {H : Type} : Lit × DataW H → Nat
  | (.string bytes, d) => bytes.length + uptoBulk d + 1
  | (_, d) => uptoBulk d + 1
 end
def uptoSmall : (H : Type) → List (DataW H) → Bool := fun _ ds => decide (uptoBulkAll ds ≤ 1048576)
def OpenSpec.upto (s : _root_.Go.ChangeSpec) : _root_.Go.OpenSpec := { _root_.Go.OpenSpec.ofChange s with cond := some uptoSmall }

/-- 'bastillelaw16.SuiteHides', WHERE WHAT IT READS IS OF BULK AT MOST 1048576: true; the input reads as it did. -/
def suiteHidesUptoRow : OpenClaim := { program := "ytpcjekgfnfjbpaagreat", sum := "e88873239c1cb1474a30f8a8cc3fce2465bbc98c53bff539debe903675586348", func := "bastille/bastillelaw16.SuiteHides", spec := "suiteHides", unfollowed := true, recurses := true, plainKeys := false, apart := false, narrowed := true }
def SuiteHidesUptoSaid : Prop := suiteHidesUptoRow.holds Tryz.pinned (OpenSpec.upto suiteHidesSpec)

/-- 'bastillelaw16.SuiteBytes', WHERE WHAT IT READS IS OF BULK AT MOST 1048576: true; the input reads as it did. -/
def suiteBytesUptoRow : OpenClaim := { program := "ytpcjekgfnfjbpaagreat", sum := "e88873239c1cb1474a30f8a8cc3fce2465bbc98c53bff539debe903675586348", func := "bastille/bastillelaw16.SuiteBytes", spec := "suiteBytes", unfollowed := true, recurses := true, plainKeys := false, apart := false, narrowed := true }
def SuiteBytesUptoSaid : Prop := suiteBytesUptoRow.holds Tryz.pinned (OpenSpec.upto suiteBytesSpec)

/-- 'bastillelaw29.EscrowWrong', WHERE WHAT IT READS IS OF BULK AT MOST 1048576: true; the input reads as it did. -/
def escrowWrongUptoRow : OpenClaim := { program := "ytpcjekgfnfjbpaagreat", sum := "e88873239c1cb1474a30f8a8cc3fce2465bbc98c53bff539debe903675586348", func := "bastille/bastillelaw29.EscrowWrong", spec := "escrowWrong", unfollowed := true, recurses := true, plainKeys := false, apart := false, narrowed := true }
def EscrowWrongUptoSaid : Prop := escrowWrongUptoRow.holds Tryz.pinned (OpenSpec.upto escrowWrongSpec)

/-- 'bastillelaw29.EscrowTake', WHERE WHAT IT READS IS OF BULK AT MOST 1048576: true; the input reads as it did. -/
def escrowTakeUptoRow : OpenClaim := { program := "ytpcjekgfnfjbpaagreat", sum := "e88873239c1cb1474a30f8a8cc3fce2465bbc98c53bff539debe903675586348", func := "bastille/bastillelaw29.EscrowTake", spec := "escrowTake", unfollowed := true, recurses := true, plainKeys := false, apart := false, narrowed := true }
def EscrowTakeUptoSaid : Prop := escrowTakeUptoRow.holds Tryz.pinned (OpenSpec.upto escrowTakeSpec)

/-- 'bastillelaw29.EscrowComes', WHERE WHAT IT READS IS OF BULK AT MOST 1048576: true; the input reads as it did. -/
def escrowComesUptoRow : OpenClaim := { program := "ytpcjekgfnfjbpaagreat", sum := "e88873239c1cb1474a30f8a8cc3fce2465bbc98c53bff539debe903675586348", func := "bastille/bastillelaw29.EscrowComes", spec := "escrowComes", unfollowed := true, recurses := true, plainKeys := false, apart := false, narrowed := true }
def EscrowComesUptoSaid : Prop := escrowComesUptoRow.holds Tryz.pinned (OpenSpec.upto escrowComesSpec)

/-- 'bastillelaw16.SuiteTerms', WHERE WHAT IT READS IS OF BULK AT MOST 1048576: true; the input reads as it did. -/
def suiteTermsUptoRow : OpenClaim := { program := "ytpcjekgfnfjbpaagreat", sum := "e88873239c1cb1474a30f8a8cc3fce2465bbc98c53bff539debe903675586348", func := "bastille/bastillelaw16.SuiteTerms", spec := "suiteTerms", unfollowed := true, recurses := true, plainKeys := false, apart := false, narrowed := true }
def SuiteTermsUptoSaid : Prop := suiteTermsUptoRow.holds Tryz.pinned (OpenSpec.upto suiteTermsSpec)

/-- 'bastillelaw16.SuiteNone', WHERE WHAT IT READS IS OF BULK AT MOST 1048576: true; the input reads as it did. -/
def suiteNoneUptoRow : OpenClaim := { program := "ytpcjekgfnfjbpaagreat", sum := "e88873239c1cb1474a30f8a8cc3fce2465bbc98c53bff539debe903675586348", func := "bastille/bastillelaw16.SuiteNone", spec := "suiteNone", unfollowed := true, recurses := true, plainKeys := false, apart := false, narrowed := true }
def SuiteNoneUptoSaid : Prop := suiteNoneUptoRow.holds Tryz.pinned (OpenSpec.upto suiteNoneSpec)

/-- 'bastillelaw16.SuiteOpens', WHERE WHAT IT READS IS OF BULK AT MOST 1048576: true; the input reads as it did. -/
def suiteOpensUptoRow : OpenClaim := { program := "ytpcjekgfnfjbpaagreat", sum := "e88873239c1cb1474a30f8a8cc3fce2465bbc98c53bff539debe903675586348", func := "bastille/bastillelaw16.SuiteOpens", spec := "suiteOpens", unfollowed := true, recurses := true, plainKeys := false, apart := false, narrowed := true }
def SuiteOpensUptoSaid : Prop := suiteOpensUptoRow.holds Tryz.pinned (OpenSpec.upto suiteOpensSpec)

end Rows
end Go.Proofs.YtpcjekgfnfjbpaaGreat
