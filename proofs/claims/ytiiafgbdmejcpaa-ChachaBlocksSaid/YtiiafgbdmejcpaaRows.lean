/-
  No cell of these rows narrows 'for every input' (looked for: loops, veiled, ifaces, maps, wideKeys, modest, calm, conditions, laid).
  DERIVED. THE GIVEN ROWS OF THIS SEAT. 10 by the template 'for every input the law returns true; each argument reads behind the call as it read before'; 0 by the template 'total and deterministic' (their statements: YtiiafgbdmejcpaaTotals.lean).
  GIVEN WITH THE SEED: the statements are not yours to turn. If you find one false, say at which input.
  Laid BY PROGRAM, IN A SANDBOX (cutbox-rows.mjs): the forced cells as the released guide's own fill.sh prints them over the translation 8bf56e8831cf37f0… (all of the seat's roots in one cut). By AI agents, Wed Nov 11 2026. No macro, syntax, notation, axiom, sorry.
-/
import Derived.Test.YtiiafgbdmejcpaaChecked
import GoSem.Claim
import GoSem.ClaimJoined
import GoSem.ClaimMapViews
import Derived.JoinedTies
import Derived.KernelRfl
namespace Go.Proofs.Ytiiafgbdmejcpaa
/- THE CELL 'sum', in the pinned program and in every row, IS THE sha256 OF THE DUMP (.gsa) THAT YtiiafgbdmejcpaaProg.lean LOADS. Nothing in Lean hashes anything: it is a label: what it is worth is what the hold of that sum in a sandbox is worth. -/
noncomputable def Try.pinned : Pinned := { name := "ytiiafgbdmejcpaa", sum := "8bf56e8831cf37f0aaf08a94a7904e6dcf87003937fd5b3294836c5c605d81f5", checked := Try.checked }
namespace Rows
def none {H : Type} : Left H := { results := [], args := [] }

/-- 'bastillelaw01.WordPuts': WHATEVER THE INPUT: true; the input reads as it did. -/
def wordPutsSpec : ChangeSpec := { name := "wordPuts", fn := fun _ => fun
  | [d1, d2] => { results := [.lit (.bool true)], args := [d1, d2] }
  | _ => none }
def wordPutsRow : OpenClaim := { program := "ytiiafgbdmejcpaa", sum := "8bf56e8831cf37f0aaf08a94a7904e6dcf87003937fd5b3294836c5c605d81f5", func := "bastille/bastillelaw01.WordPuts", spec := "wordPuts", apart := false }
def WordPutsSaid : Prop := wordPutsRow.holds Try.pinned (OpenSpec.ofChange wordPutsSpec)

/-- ITS FALSE NEIGHBOUR: 'it returns false'. Refute it at one input. -/
def wordPutsWrong : ChangeSpec := { name := "wordPuts", fn := fun _ => fun
  | [d1, d2] => { results := [.lit (.bool false)], args := [d1, d2] }
  | _ => none }
def WordPutsWrongFalsely : Prop := wordPutsRow.holds Try.pinned (OpenSpec.ofChange wordPutsWrong)

/-- 'bastillelaw01.WordGets': WHATEVER THE INPUT: true; the input reads as it did. -/
def wordGetsSpec : ChangeSpec := { name := "wordGets", fn := fun _ => fun
  | [d] => { results := [.lit (.bool true)], args := [d] }
  | _ => none }
def wordGetsRow : OpenClaim := { program := "ytiiafgbdmejcpaa", sum := "8bf56e8831cf37f0aaf08a94a7904e6dcf87003937fd5b3294836c5c605d81f5", func := "bastille/bastillelaw01.WordGets", spec := "wordGets", apart := false }
def WordGetsSaid : Prop := wordGetsRow.holds Try.pinned (OpenSpec.ofChange wordGetsSpec)

/-- ITS FALSE NEIGHBOUR: 'it returns false'. Refute it at one input. -/
def wordGetsWrong : ChangeSpec := { name := "wordGets", fn := fun _ => fun
  | [d] => { results := [.lit (.bool false)], args := [d] }
  | _ => none }
def WordGetsWrongFalsely : Prop := wordGetsRow.holds Try.pinned (OpenSpec.ofChange wordGetsWrong)

/-- 'bastillelaw01.WordBack': WHATEVER THE INPUT: true; the input reads as it did. -/
def wordBackSpec : ChangeSpec := { name := "wordBack", fn := fun _ => fun
  | [d1, d2, d3] => { results := [.lit (.bool true)], args := [d1, d2, d3] }
  | _ => none }
def wordBackRow : OpenClaim := { program := "ytiiafgbdmejcpaa", sum := "8bf56e8831cf37f0aaf08a94a7904e6dcf87003937fd5b3294836c5c605d81f5", func := "bastille/bastillelaw01.WordBack", spec := "wordBack", apart := false }
def WordBackSaid : Prop := wordBackRow.holds Try.pinned (OpenSpec.ofChange wordBackSpec)

/-- ITS FALSE NEIGHBOUR: 'it returns false'. Refute it at one input. -/
def wordBackWrong : ChangeSpec := { name := "wordBack", fn := fun _ => fun
  | [d1, d2, d3] => { results := [.lit (.bool false)], args := [d1, d2, d3] }
  | _ => none }
def WordBackWrongFalsely : Prop := wordBackRow.holds Try.pinned (OpenSpec.ofChange wordBackWrong)

/-- 'bastillelaw09.ChachaBlocks': WHATEVER THE INPUT: true; the input reads as it did. -/
def chachaBlocksSpec : ChangeSpec := { name := "chachaBlocks", fn := fun _ => fun
  | [d1, d2] => { results := [.lit (.bool true)], args := [d1, d2] }
  | _ => none }
def chachaBlocksRow : OpenClaim := { program := "ytiiafgbdmejcpaa", sum := "8bf56e8831cf37f0aaf08a94a7904e6dcf87003937fd5b3294836c5c605d81f5", func := "bastille/bastillelaw09.ChachaBlocks", spec := "chachaBlocks", unfollowed := true, recurses := true, apart := false }
def ChachaBlocksSaid : Prop := chachaBlocksRow.holds Try.pinned (OpenSpec.ofChange chachaBlocksSpec)

/-- ITS FALSE NEIGHBOUR: 'it returns false'. Refute it at one input. -/
def chachaBlocksWrong : ChangeSpec := { name := "chachaBlocks", fn := fun _ => fun
  | [d1, d2] => { results := [.lit (.bool false)], args := [d1, d2] }
  | _ => none }
def ChachaBlocksWrongFalsely : Prop := chachaBlocksRow.holds Try.pinned (OpenSpec.ofChange chachaBlocksWrong)

/-- 'bastillelaw06.ScalarTakes': WHATEVER THE INPUT: true; the input reads as it did. -/
def scalarTakesSpec : ChangeSpec := { name := "scalarTakes", fn := fun _ => fun
  | [d1, d2] => { results := [.lit (.bool true)], args := [d1, d2] }
  | _ => none }
def scalarTakesRow : OpenClaim := { program := "ytiiafgbdmejcpaa", sum := "8bf56e8831cf37f0aaf08a94a7904e6dcf87003937fd5b3294836c5c605d81f5", func := "bastille/bastillelaw06.ScalarTakes", spec := "scalarTakes", apart := false }
def ScalarTakesSaid : Prop := scalarTakesRow.holds Try.pinned (OpenSpec.ofChange scalarTakesSpec)

/-- ITS FALSE NEIGHBOUR: 'it returns false'. Refute it at one input. -/
def scalarTakesWrong : ChangeSpec := { name := "scalarTakes", fn := fun _ => fun
  | [d1, d2] => { results := [.lit (.bool false)], args := [d1, d2] }
  | _ => none }
def ScalarTakesWrongFalsely : Prop := scalarTakesRow.holds Try.pinned (OpenSpec.ofChange scalarTakesWrong)

/-- 'bastillelaw01.WordLists': WHATEVER THE INPUT: true; the input reads as it did. -/
def wordListsSpec : ChangeSpec := { name := "wordLists", fn := fun _ => fun
  | [d] => { results := [.lit (.bool true)], args := [d] }
  | _ => none }
def wordListsRow : OpenClaim := { program := "ytiiafgbdmejcpaa", sum := "8bf56e8831cf37f0aaf08a94a7904e6dcf87003937fd5b3294836c5c605d81f5", func := "bastille/bastillelaw01.WordLists", spec := "wordLists", apart := false }
def WordListsSaid : Prop := wordListsRow.holds Try.pinned (OpenSpec.ofChange wordListsSpec)

/-- ITS FALSE NEIGHBOUR: 'it returns false'. Refute it at one input. -/
def wordListsWrong : ChangeSpec := { name := "wordLists", fn := fun _ => fun
  | [d] => { results := [.lit (.bool false)], args := [d] }
  | _ => none }
def WordListsWrongFalsely : Prop := wordListsRow.holds Try.pinned (OpenSpec.ofChange wordListsWrong)

/-- 'bastillelaw06.ScalarSums': WHATEVER THE INPUT: true; the input reads as it did. -/
def scalarSumsSpec : ChangeSpec := { name := "scalarSums", fn := fun _ => fun
  | [d1, d2, d3] => { results := [.lit (.bool true)], args := [d1, d2, d3] }
  | _ => none }
def scalarSumsRow : OpenClaim := { program := "ytiiafgbdmejcpaa", sum := "8bf56e8831cf37f0aaf08a94a7904e6dcf87003937fd5b3294836c5c605d81f5", func := "bastille/bastillelaw06.ScalarSums", spec := "scalarSums", apart := false }
def ScalarSumsSaid : Prop := scalarSumsRow.holds Try.pinned (OpenSpec.ofChange scalarSumsSpec)

/-- ITS FALSE NEIGHBOUR: 'it returns false'. Refute it at one input. -/
def scalarSumsWrong : ChangeSpec := { name := "scalarSums", fn := fun _ => fun
  | [d1, d2, d3] => { results := [.lit (.bool false)], args := [d1, d2, d3] }
  | _ => none }
def ScalarSumsWrongFalsely : Prop := scalarSumsRow.holds Try.pinned (OpenSpec.ofChange scalarSumsWrong)

/-- 'bastillelaw06.ScalarLaws': WHATEVER THE INPUT: true; the input reads as it did. -/
def scalarLawsSpec : ChangeSpec := { name := "scalarLaws", fn := fun _ => fun
  | [d1, d2, d3] => { results := [.lit (.bool true)], args := [d1, d2, d3] }
  | _ => none }
def scalarLawsRow : OpenClaim := { program := "ytiiafgbdmejcpaa", sum := "8bf56e8831cf37f0aaf08a94a7904e6dcf87003937fd5b3294836c5c605d81f5", func := "bastille/bastillelaw06.ScalarLaws", spec := "scalarLaws", unfollowed := true, recurses := true, apart := false }
def ScalarLawsSaid : Prop := scalarLawsRow.holds Try.pinned (OpenSpec.ofChange scalarLawsSpec)

/-- ITS FALSE NEIGHBOUR: 'it returns false'. Refute it at one input. -/
def scalarLawsWrong : ChangeSpec := { name := "scalarLaws", fn := fun _ => fun
  | [d1, d2, d3] => { results := [.lit (.bool false)], args := [d1, d2, d3] }
  | _ => none }
def ScalarLawsWrongFalsely : Prop := scalarLawsRow.holds Try.pinned (OpenSpec.ofChange scalarLawsWrong)

/-- 'bastillelaw09.ChachaHides': WHATEVER THE INPUT: true; the input reads as it did. -/
def chachaHidesSpec : ChangeSpec := { name := "chachaHides", fn := fun _ => fun
  | [d1, d2] => { results := [.lit (.bool true)], args := [d1, d2] }
  | _ => none }
def chachaHidesRow : OpenClaim := { program := "ytiiafgbdmejcpaa", sum := "8bf56e8831cf37f0aaf08a94a7904e6dcf87003937fd5b3294836c5c605d81f5", func := "bastille/bastillelaw09.ChachaHides", spec := "chachaHides", unfollowed := true, recurses := true, apart := false }
def ChachaHidesSaid : Prop := chachaHidesRow.holds Try.pinned (OpenSpec.ofChange chachaHidesSpec)

/-- ITS FALSE NEIGHBOUR: 'it returns false'. Refute it at one input. -/
def chachaHidesWrong : ChangeSpec := { name := "chachaHides", fn := fun _ => fun
  | [d1, d2] => { results := [.lit (.bool false)], args := [d1, d2] }
  | _ => none }
def ChachaHidesWrongFalsely : Prop := chachaHidesRow.holds Try.pinned (OpenSpec.ofChange chachaHidesWrong)

/-- 'bastillelaw09.ChachaBack': WHATEVER THE INPUT: true; the input reads as it did. -/
def chachaBackSpec : ChangeSpec := { name := "chachaBack", fn := fun _ => fun
  | [d1, d2, d3] => { results := [.lit (.bool true)], args := [d1, d2, d3] }
  | _ => none }
def chachaBackRow : OpenClaim := { program := "ytiiafgbdmejcpaa", sum := "8bf56e8831cf37f0aaf08a94a7904e6dcf87003937fd5b3294836c5c605d81f5", func := "bastille/bastillelaw09.ChachaBack", spec := "chachaBack", unfollowed := true, recurses := true, apart := false }
def ChachaBackSaid : Prop := chachaBackRow.holds Try.pinned (OpenSpec.ofChange chachaBackSpec)

/-- ITS FALSE NEIGHBOUR: 'it returns false'. Refute it at one input. -/
def chachaBackWrong : ChangeSpec := { name := "chachaBack", fn := fun _ => fun
  | [d1, d2, d3] => { results := [.lit (.bool false)], args := [d1, d2, d3] }
  | _ => none }
def ChachaBackWrongFalsely : Prop := chachaBackRow.holds Try.pinned (OpenSpec.ofChange chachaBackWrong)

/- THE SECOND FORM. 'bulk': how many values and letters a reading holds, each counted each time it is reached (what is shared counts as often as it is met; a slice's spare places count too). A statement '..UptoSaid' is the law's where the arguments, and the package variables that the reading takes, are together of bulk at most 1048576: NARROWER than '..Said'. Prove '..Said' where nothing that the law and all that it calls make is longer than what came in: it says more and counts as full. Else prove '..UptoSaid'. A law counts once. -/
mutual
def uptoBulk {H : Type} : DataW H → Nat
  | .lit (.string bytes) => bytes.length + 1
  | .lit _ => 1
  | .nil => 1
  | .ptr d => uptoBulk d + 1
  | .slice elems spare => uptoBulkAll elems + uptoBulkAll spare + 1
  | .agg parts => uptoBulkAll parts + 1
  | .iface _ d => uptoBulk d + 1
  | .map entries => uptoBulkEntries entries + 1
  | .held _ => 1
def uptoBulkAll {H : Type} : List (DataW H) → Nat
  | [] => 0
  | d :: r => uptoBulk d + uptoBulkAll r
def uptoBulkEntries {H : Type} : List (Lit × DataW H) → Nat
  | [] => 0
  | x :: r => uptoBulkEntry x + uptoBulkEntries r
def uptoBulkEntry {H : Type} : Lit × DataW H → Nat
  | (.string bytes, d) => bytes.length + uptoBulk d + 1
  | (_, d) => uptoBulk d + 1
 end
def uptoSmall : (H : Type) → List (DataW H) → Bool := fun _ ds => decide (uptoBulkAll ds ≤ 1048576)
def OpenSpec.upto (s : _root_.Go.ChangeSpec) : _root_.Go.OpenSpec := { _root_.Go.OpenSpec.ofChange s with cond := some uptoSmall }

/-- 'bastillelaw01.WordPuts', WHERE WHAT IT READS IS OF BULK AT MOST 1048576: true; the input reads as it did. -/
def wordPutsUptoRow : OpenClaim := { program := "ytiiafgbdmejcpaa", sum := "8bf56e8831cf37f0aaf08a94a7904e6dcf87003937fd5b3294836c5c605d81f5", func := "bastille/bastillelaw01.WordPuts", spec := "wordPuts", apart := false, narrowed := true }
def WordPutsUptoSaid : Prop := wordPutsUptoRow.holds Try.pinned (OpenSpec.upto wordPutsSpec)

/-- 'bastillelaw01.WordGets', WHERE WHAT IT READS IS OF BULK AT MOST 1048576: true; the input reads as it did. -/
def wordGetsUptoRow : OpenClaim := { program := "ytiiafgbdmejcpaa", sum := "8bf56e8831cf37f0aaf08a94a7904e6dcf87003937fd5b3294836c5c605d81f5", func := "bastille/bastillelaw01.WordGets", spec := "wordGets", apart := false, narrowed := true }
def WordGetsUptoSaid : Prop := wordGetsUptoRow.holds Try.pinned (OpenSpec.upto wordGetsSpec)

/-- 'bastillelaw01.WordBack', WHERE WHAT IT READS IS OF BULK AT MOST 1048576: true; the input reads as it did. -/
def wordBackUptoRow : OpenClaim := { program := "ytiiafgbdmejcpaa", sum := "8bf56e8831cf37f0aaf08a94a7904e6dcf87003937fd5b3294836c5c605d81f5", func := "bastille/bastillelaw01.WordBack", spec := "wordBack", apart := false, narrowed := true }
def WordBackUptoSaid : Prop := wordBackUptoRow.holds Try.pinned (OpenSpec.upto wordBackSpec)

/-- 'bastillelaw09.ChachaBlocks', WHERE WHAT IT READS IS OF BULK AT MOST 1048576: true; the input reads as it did. -/
def chachaBlocksUptoRow : OpenClaim := { program := "ytiiafgbdmejcpaa", sum := "8bf56e8831cf37f0aaf08a94a7904e6dcf87003937fd5b3294836c5c605d81f5", func := "bastille/bastillelaw09.ChachaBlocks", spec := "chachaBlocks", unfollowed := true, recurses := true, apart := false, narrowed := true }
def ChachaBlocksUptoSaid : Prop := chachaBlocksUptoRow.holds Try.pinned (OpenSpec.upto chachaBlocksSpec)

/-- 'bastillelaw06.ScalarTakes', WHERE WHAT IT READS IS OF BULK AT MOST 1048576: true; the input reads as it did. -/
def scalarTakesUptoRow : OpenClaim := { program := "ytiiafgbdmejcpaa", sum := "8bf56e8831cf37f0aaf08a94a7904e6dcf87003937fd5b3294836c5c605d81f5", func := "bastille/bastillelaw06.ScalarTakes", spec := "scalarTakes", apart := false, narrowed := true }
def ScalarTakesUptoSaid : Prop := scalarTakesUptoRow.holds Try.pinned (OpenSpec.upto scalarTakesSpec)

/-- 'bastillelaw01.WordLists', WHERE WHAT IT READS IS OF BULK AT MOST 1048576: true; the input reads as it did. -/
def wordListsUptoRow : OpenClaim := { program := "ytiiafgbdmejcpaa", sum := "8bf56e8831cf37f0aaf08a94a7904e6dcf87003937fd5b3294836c5c605d81f5", func := "bastille/bastillelaw01.WordLists", spec := "wordLists", apart := false, narrowed := true }
def WordListsUptoSaid : Prop := wordListsUptoRow.holds Try.pinned (OpenSpec.upto wordListsSpec)

/-- 'bastillelaw06.ScalarSums', WHERE WHAT IT READS IS OF BULK AT MOST 1048576: true; the input reads as it did. -/
def scalarSumsUptoRow : OpenClaim := { program := "ytiiafgbdmejcpaa", sum := "8bf56e8831cf37f0aaf08a94a7904e6dcf87003937fd5b3294836c5c605d81f5", func := "bastille/bastillelaw06.ScalarSums", spec := "scalarSums", apart := false, narrowed := true }
def ScalarSumsUptoSaid : Prop := scalarSumsUptoRow.holds Try.pinned (OpenSpec.upto scalarSumsSpec)

/-- 'bastillelaw06.ScalarLaws', WHERE WHAT IT READS IS OF BULK AT MOST 1048576: true; the input reads as it did. -/
def scalarLawsUptoRow : OpenClaim := { program := "ytiiafgbdmejcpaa", sum := "8bf56e8831cf37f0aaf08a94a7904e6dcf87003937fd5b3294836c5c605d81f5", func := "bastille/bastillelaw06.ScalarLaws", spec := "scalarLaws", unfollowed := true, recurses := true, apart := false, narrowed := true }
def ScalarLawsUptoSaid : Prop := scalarLawsUptoRow.holds Try.pinned (OpenSpec.upto scalarLawsSpec)

/-- 'bastillelaw09.ChachaHides', WHERE WHAT IT READS IS OF BULK AT MOST 1048576: true; the input reads as it did. -/
def chachaHidesUptoRow : OpenClaim := { program := "ytiiafgbdmejcpaa", sum := "8bf56e8831cf37f0aaf08a94a7904e6dcf87003937fd5b3294836c5c605d81f5", func := "bastille/bastillelaw09.ChachaHides", spec := "chachaHides", unfollowed := true, recurses := true, apart := false, narrowed := true }
def ChachaHidesUptoSaid : Prop := chachaHidesUptoRow.holds Try.pinned (OpenSpec.upto chachaHidesSpec)

/-- 'bastillelaw09.ChachaBack', WHERE WHAT IT READS IS OF BULK AT MOST 1048576: true; the input reads as it did. -/
def chachaBackUptoRow : OpenClaim := { program := "ytiiafgbdmejcpaa", sum := "8bf56e8831cf37f0aaf08a94a7904e6dcf87003937fd5b3294836c5c605d81f5", func := "bastille/bastillelaw09.ChachaBack", spec := "chachaBack", unfollowed := true, recurses := true, apart := false, narrowed := true }
def ChachaBackUptoSaid : Prop := chachaBackUptoRow.holds Try.pinned (OpenSpec.upto chachaBackSpec)

end Rows
end Go.Proofs.Ytiiafgbdmejcpaa
