/-
  No cell of these rows narrows 'for every input' (looked for: loops, veiled, ifaces, maps, wideKeys, modest, calm, conditions, laid).
  DERIVED. THE GIVEN ROWS OF THIS SEAT. 10 by the template 'for every input the law returns true; each argument reads behind the call as it read before'; 0 by the template 'total and deterministic' (their statements: YtgobodhcamgidaaTotals.lean).
  GIVEN WITH THE SEED: the statements are not yours to turn. If you find one false, say at which input.
  Laid BY PROGRAM, IN A SANDBOX (cutbox-rows.mjs): the forced cells as the released guide's own fill.sh prints them over the translation b77cf41453a9dd5c… (all of the seat's roots in one cut). By AI agents, Wed Nov 11 2026. No macro, syntax, notation, axiom, sorry.
-/
import Derived.Test.YtgobodhcamgidaaChecked
import GoSem.Claim
import GoSem.ClaimJoined
import GoSem.ClaimMapViews
import Derived.JoinedTies
import Derived.KernelRfl
namespace Go.Proofs.Ytgobodhcamgidaa
/- THE CELL 'sum', in the pinned program and in every row, IS THE sha256 OF THE DUMP (.gsa) THAT YtgobodhcamgidaaProg.lean LOADS. Nothing in Lean hashes anything: it is a label: what it is worth is what the hold of that sum in a sandbox is worth. -/
noncomputable def Try.pinned : Pinned := { name := "ytgobodhcamgidaa", sum := "b77cf41453a9dd5c93986198e31502812533f478b4d5f6f3a7133df78f9835f7", checked := Try.checked }
namespace Rows
def none {H : Type} : Left H := { results := [], args := [] }

/-- 'bastillelaw03.ShaSums': WHATEVER THE INPUT: true; the input reads as it did. -/
def shaSumsSpec : ChangeSpec := { name := "shaSums", fn := fun _ => fun
  | [d] => { results := [.lit (.bool true)], args := [d] }
  | _ => none }
def shaSumsRow : OpenClaim := { program := "ytgobodhcamgidaa", sum := "b77cf41453a9dd5c93986198e31502812533f478b4d5f6f3a7133df78f9835f7", func := "bastille/bastillelaw03.ShaSums", spec := "shaSums", unfollowed := true, recurses := true, apart := false }
def ShaSumsSaid : Prop := shaSumsRow.holds Try.pinned (OpenSpec.ofChange shaSumsSpec)

/-- ITS FALSE NEIGHBOUR: 'it returns false'. Refute it at one input. -/
def shaSumsWrong : ChangeSpec := { name := "shaSums", fn := fun _ => fun
  | [d] => { results := [.lit (.bool false)], args := [d] }
  | _ => none }
def ShaSumsWrongFalsely : Prop := shaSumsRow.holds Try.pinned (OpenSpec.ofChange shaSumsWrong)

/-- 'bastillelaw03.ShaParts': WHATEVER THE INPUT: true; the input reads as it did. -/
def shaPartsSpec : ChangeSpec := { name := "shaParts", fn := fun _ => fun
  | [d1, d2, d3] => { results := [.lit (.bool true)], args := [d1, d2, d3] }
  | _ => none }
def shaPartsRow : OpenClaim := { program := "ytgobodhcamgidaa", sum := "b77cf41453a9dd5c93986198e31502812533f478b4d5f6f3a7133df78f9835f7", func := "bastille/bastillelaw03.ShaParts", spec := "shaParts", unfollowed := true, recurses := true, apart := false }
def ShaPartsSaid : Prop := shaPartsRow.holds Try.pinned (OpenSpec.ofChange shaPartsSpec)

/-- ITS FALSE NEIGHBOUR: 'it returns false'. Refute it at one input. -/
def shaPartsWrong : ChangeSpec := { name := "shaParts", fn := fun _ => fun
  | [d1, d2, d3] => { results := [.lit (.bool false)], args := [d1, d2, d3] }
  | _ => none }
def ShaPartsWrongFalsely : Prop := shaPartsRow.holds Try.pinned (OpenSpec.ofChange shaPartsWrong)

/-- 'bastillelaw03.ShaRoots': WHATEVER THE INPUT: true; the input reads as it did. -/
def shaRootsSpec : ChangeSpec := { name := "shaRoots", fn := fun _ => fun
  | [d1, d2] => { results := [.lit (.bool true)], args := [d1, d2] }
  | _ => none }
def shaRootsRow : OpenClaim := { program := "ytgobodhcamgidaa", sum := "b77cf41453a9dd5c93986198e31502812533f478b4d5f6f3a7133df78f9835f7", func := "bastille/bastillelaw03.ShaRoots", spec := "shaRoots", inPlace := ["math/bits.Add64"], unfollowed := true, recurses := true, apart := false }
def ShaRootsSaid : Prop := shaRootsRow.holds Try.pinned (OpenSpec.ofChange shaRootsSpec)

/-- ITS FALSE NEIGHBOUR: 'it returns false'. Refute it at one input. -/
def shaRootsWrong : ChangeSpec := { name := "shaRoots", fn := fun _ => fun
  | [d1, d2] => { results := [.lit (.bool false)], args := [d1, d2] }
  | _ => none }
def ShaRootsWrongFalsely : Prop := shaRootsRow.holds Try.pinned (OpenSpec.ofChange shaRootsWrong)

/-- 'bastillelaw03.ShaKinds': WHATEVER THE INPUT: true; the input reads as it did. -/
def shaKindsSpec : ChangeSpec := { name := "shaKinds", fn := fun _ => fun
  | [d] => { results := [.lit (.bool true)], args := [d] }
  | _ => none }
def shaKindsRow : OpenClaim := { program := "ytgobodhcamgidaa", sum := "b77cf41453a9dd5c93986198e31502812533f478b4d5f6f3a7133df78f9835f7", func := "bastille/bastillelaw03.ShaKinds", spec := "shaKinds", inPlace := ["math/bits.Add64"], unfollowed := true, recurses := true, apart := false }
def ShaKindsSaid : Prop := shaKindsRow.holds Try.pinned (OpenSpec.ofChange shaKindsSpec)

/-- ITS FALSE NEIGHBOUR: 'it returns false'. Refute it at one input. -/
def shaKindsWrong : ChangeSpec := { name := "shaKinds", fn := fun _ => fun
  | [d] => { results := [.lit (.bool false)], args := [d] }
  | _ => none }
def ShaKindsWrongFalsely : Prop := shaKindsRow.holds Try.pinned (OpenSpec.ofChange shaKindsWrong)

/-- 'bastillelaw12.DeriveTags': WHATEVER THE INPUT: true; the input reads as it did. -/
def deriveTagsSpec : ChangeSpec := { name := "deriveTags", fn := fun _ => fun
  | [d1, d2, d3] => { results := [.lit (.bool true)], args := [d1, d2, d3] }
  | _ => none }
def deriveTagsRow : OpenClaim := { program := "ytgobodhcamgidaa", sum := "b77cf41453a9dd5c93986198e31502812533f478b4d5f6f3a7133df78f9835f7", func := "bastille/bastillelaw12.DeriveTags", spec := "deriveTags", unfollowed := true, recurses := true, apart := false }
def DeriveTagsSaid : Prop := deriveTagsRow.holds Try.pinned (OpenSpec.ofChange deriveTagsSpec)

/-- ITS FALSE NEIGHBOUR: 'it returns false'. Refute it at one input. -/
def deriveTagsWrong : ChangeSpec := { name := "deriveTags", fn := fun _ => fun
  | [d1, d2, d3] => { results := [.lit (.bool false)], args := [d1, d2, d3] }
  | _ => none }
def DeriveTagsWrongFalsely : Prop := deriveTagsRow.holds Try.pinned (OpenSpec.ofChange deriveTagsWrong)

/-- 'bastillelaw12.DeriveKeys': WHATEVER THE INPUT: true; the input reads as it did. -/
def deriveKeysSpec : ChangeSpec := { name := "deriveKeys", fn := fun _ => fun
  | [d1, d2, d3] => { results := [.lit (.bool true)], args := [d1, d2, d3] }
  | _ => none }
def deriveKeysRow : OpenClaim := { program := "ytgobodhcamgidaa", sum := "b77cf41453a9dd5c93986198e31502812533f478b4d5f6f3a7133df78f9835f7", func := "bastille/bastillelaw12.DeriveKeys", spec := "deriveKeys", unfollowed := true, recurses := true, apart := false }
def DeriveKeysSaid : Prop := deriveKeysRow.holds Try.pinned (OpenSpec.ofChange deriveKeysSpec)

/-- ITS FALSE NEIGHBOUR: 'it returns false'. Refute it at one input. -/
def deriveKeysWrong : ChangeSpec := { name := "deriveKeys", fn := fun _ => fun
  | [d1, d2, d3] => { results := [.lit (.bool false)], args := [d1, d2, d3] }
  | _ => none }
def DeriveKeysWrongFalsely : Prop := deriveKeysRow.holds Try.pinned (OpenSpec.ofChange deriveKeysWrong)

/-- 'bastillelaw12.DeriveBack': WHATEVER THE INPUT: true; the input reads as it did. -/
def deriveBackSpec : ChangeSpec := { name := "deriveBack", fn := fun _ => fun
  | [d1, d2, d3] => { results := [.lit (.bool true)], args := [d1, d2, d3] }
  | _ => none }
def deriveBackRow : OpenClaim := { program := "ytgobodhcamgidaa", sum := "b77cf41453a9dd5c93986198e31502812533f478b4d5f6f3a7133df78f9835f7", func := "bastille/bastillelaw12.DeriveBack", spec := "deriveBack", unfollowed := true, recurses := true, apart := false }
def DeriveBackSaid : Prop := deriveBackRow.holds Try.pinned (OpenSpec.ofChange deriveBackSpec)

/-- ITS FALSE NEIGHBOUR: 'it returns false'. Refute it at one input. -/
def deriveBackWrong : ChangeSpec := { name := "deriveBack", fn := fun _ => fun
  | [d1, d2, d3] => { results := [.lit (.bool false)], args := [d1, d2, d3] }
  | _ => none }
def DeriveBackWrongFalsely : Prop := deriveBackRow.holds Try.pinned (OpenSpec.ofChange deriveBackWrong)

/-- 'bastillelaw11.AeadSeals': WHATEVER THE INPUT: true; the input reads as it did. -/
def aeadSealsSpec : ChangeSpec := { name := "aeadSeals", fn := fun _ => fun
  | [d1, d2, d3] => { results := [.lit (.bool true)], args := [d1, d2, d3] }
  | _ => none }
def aeadSealsRow : OpenClaim := { program := "ytgobodhcamgidaa", sum := "b77cf41453a9dd5c93986198e31502812533f478b4d5f6f3a7133df78f9835f7", func := "bastille/bastillelaw11.AeadSeals", spec := "aeadSeals", unfollowed := true, recurses := true, apart := false }
def AeadSealsSaid : Prop := aeadSealsRow.holds Try.pinned (OpenSpec.ofChange aeadSealsSpec)

/-- ITS FALSE NEIGHBOUR: 'it returns false'. Refute it at one input. -/
def aeadSealsWrong : ChangeSpec := { name := "aeadSeals", fn := fun _ => fun
  | [d1, d2, d3] => { results := [.lit (.bool false)], args := [d1, d2, d3] }
  | _ => none }
def AeadSealsWrongFalsely : Prop := aeadSealsRow.holds Try.pinned (OpenSpec.ofChange aeadSealsWrong)

/-- 'bastillelaw11.AeadOpens': WHATEVER THE INPUT: true; the input reads as it did. -/
def aeadOpensSpec : ChangeSpec := { name := "aeadOpens", fn := fun _ => fun
  | [d1, d2] => { results := [.lit (.bool true)], args := [d1, d2] }
  | _ => none }
def aeadOpensRow : OpenClaim := { program := "ytgobodhcamgidaa", sum := "b77cf41453a9dd5c93986198e31502812533f478b4d5f6f3a7133df78f9835f7", func := "bastille/bastillelaw11.AeadOpens", spec := "aeadOpens", unfollowed := true, recurses := true, apart := false }
def AeadOpensSaid : Prop := aeadOpensRow.holds Try.pinned (OpenSpec.ofChange aeadOpensSpec)

/-- ITS FALSE NEIGHBOUR: 'it returns false'. Refute it at one input. -/
def aeadOpensWrong : ChangeSpec := { name := "aeadOpens", fn := fun _ => fun
  | [d1, d2] => { results := [.lit (.bool false)], args := [d1, d2] }
  | _ => none }
def AeadOpensWrongFalsely : Prop := aeadOpensRow.holds Try.pinned (OpenSpec.ofChange aeadOpensWrong)

/-- 'bastillelaw11.AeadBack': WHATEVER THE INPUT: true; the input reads as it did. -/
def aeadBackSpec : ChangeSpec := { name := "aeadBack", fn := fun _ => fun
  | [d1, d2, d3] => { results := [.lit (.bool true)], args := [d1, d2, d3] }
  | _ => none }
def aeadBackRow : OpenClaim := { program := "ytgobodhcamgidaa", sum := "b77cf41453a9dd5c93986198e31502812533f478b4d5f6f3a7133df78f9835f7", func := "bastille/bastillelaw11.AeadBack", spec := "aeadBack", unfollowed := true, recurses := true, apart := false }
def AeadBackSaid : Prop := aeadBackRow.holds Try.pinned (OpenSpec.ofChange aeadBackSpec)

/-- ITS FALSE NEIGHBOUR: 'it returns false'. Refute it at one input. -/
def aeadBackWrong : ChangeSpec := { name := "aeadBack", fn := fun _ => fun
  | [d1, d2, d3] => { results := [.lit (.bool false)], args := [d1, d2, d3] }
  | _ => none }
def AeadBackWrongFalsely : Prop := aeadBackRow.holds Try.pinned (OpenSpec.ofChange aeadBackWrong)

/- THE SECOND FORM. 'bulk': how many values and letters a reading holds, each counted each time it is reached (what is shared counts as often as it is met; a slice's spare places count too). A statement '..UptoSaid' is the law's where the arguments, and the package variables that the reading takes, are together of bulk at most 1048576: NARROWER than '..Said'. Prove '..Said' where nothing that the law and all that it calls make is longer than what came in: it says more and counts as full. Else prove '..UptoSaid'. A law counts once. -/
mutual
def uptoBulk {H : Type} : DataW H → Nat
  | .lit (.string bytes) => bytes.length + 1
  | .lit _ => 1
  | .nil => 1
  | .ptr d => uptoBulk d + 1
  | .slice elems spare => uptoBulkAll elems + uptoBulkAll spare + 1
  | .agg parts => uptoBulkAll parts + 1
  | .iface _ d => uptoBulk d + 1
  | .map entries => uptoBulkEntries entries + 1
  | .held _ => 1
def uptoBulkAll {H : Type} : List (DataW H) → Nat
  | [] => 0
  | d :: r => uptoBulk d + uptoBulkAll r
def uptoBulkEntries {H : Type} : List (Lit × DataW H) → Nat
  | [] => 0
  | x :: r => uptoBulkEntry x + uptoBulkEntries r
def uptoBulkEntry {H : Type} : Lit × DataW H → Nat
  | (.string bytes, d) => bytes.length + uptoBulk d + 1
  | (_, d) => uptoBulk d + 1
 end
def uptoSmall : (H : Type) → List (DataW H) → Bool := fun _ ds => decide (uptoBulkAll ds ≤ 1048576)
def OpenSpec.upto (s : _root_.Go.ChangeSpec) : _root_.Go.OpenSpec := { _root_.Go.OpenSpec.ofChange s with cond := some uptoSmall }

/-- 'bastillelaw03.ShaSums', WHERE WHAT IT READS IS OF BULK AT MOST 1048576: true; the input reads as it did. -/
def shaSumsUptoRow : OpenClaim := { program := "ytgobodhcamgidaa", sum := "b77cf41453a9dd5c93986198e31502812533f478b4d5f6f3a7133df78f9835f7", func := "bastille/bastillelaw03.ShaSums", spec := "shaSums", unfollowed := true, recurses := true, apart := false, narrowed := true }
def ShaSumsUptoSaid : Prop := shaSumsUptoRow.holds Try.pinned (OpenSpec.upto shaSumsSpec)

/-- 'bastillelaw03.ShaParts', WHERE WHAT IT READS IS OF BULK AT MOST 1048576: true; the input reads as it did. -/
def shaPartsUptoRow : OpenClaim := { program := "ytgobodhcamgidaa", sum := "b77cf41453a9dd5c93986198e31502812533f478b4d5f6f3a7133df78f9835f7", func := "bastille/bastillelaw03.ShaParts", spec := "shaParts", unfollowed := true, recurses := true, apart := false, narrowed := true }
def ShaPartsUptoSaid : Prop := shaPartsUptoRow.holds Try.pinned (OpenSpec.upto shaPartsSpec)

/-- 'bastillelaw03.ShaRoots', WHERE WHAT IT READS IS OF BULK AT MOST 1048576: true; the input reads as it did. -/
def shaRootsUptoRow : OpenClaim := { program := "ytgobodhcamgidaa", sum := "b77cf41453a9dd5c93986198e31502812533f478b4d5f6f3a7133df78f9835f7", func := "bastille/bastillelaw03.ShaRoots", spec := "shaRoots", inPlace := ["math/bits.Add64"], unfollowed := true, recurses := true, apart := false, narrowed := true }
def ShaRootsUptoSaid : Prop := shaRootsUptoRow.holds Try.pinned (OpenSpec.upto shaRootsSpec)

/-- 'bastillelaw03.ShaKinds', WHERE WHAT IT READS IS OF BULK AT MOST 1048576: true; the input reads as it did. -/
def shaKindsUptoRow : OpenClaim := { program := "ytgobodhcamgidaa", sum := "b77cf41453a9dd5c93986198e31502812533f478b4d5f6f3a7133df78f9835f7", func := "bastille/bastillelaw03.ShaKinds", spec := "shaKinds", inPlace := ["math/bits.Add64"], unfollowed := true, recurses := true, apart := false, narrowed := true }
def ShaKindsUptoSaid : Prop := shaKindsUptoRow.holds Try.pinned (OpenSpec.upto shaKindsSpec)

/-- 'bastillelaw12.DeriveTags', WHERE WHAT IT READS IS OF BULK AT MOST 1048576: true; the input reads as it did. -/
def deriveTagsUptoRow : OpenClaim := { program := "ytgobodhcamgidaa", sum := "b77cf41453a9dd5c93986198e31502812533f478b4d5f6f3a7133df78f9835f7", func := "bastille/bastillelaw12.DeriveTags", spec := "deriveTags", unfollowed := true, recurses := true, apart := false, narrowed := true }
def DeriveTagsUptoSaid : Prop := deriveTagsUptoRow.holds Try.pinned (OpenSpec.upto deriveTagsSpec)

/-- 'bastillelaw12.DeriveKeys', WHERE WHAT IT READS IS OF BULK AT MOST 1048576: true; the input reads as it did. -/
def deriveKeysUptoRow : OpenClaim := { program := "ytgobodhcamgidaa", sum := "b77cf41453a9dd5c93986198e31502812533f478b4d5f6f3a7133df78f9835f7", func := "bastille/bastillelaw12.DeriveKeys", spec := "deriveKeys", unfollowed := true, recurses := true, apart := false, narrowed := true }
def DeriveKeysUptoSaid : Prop := deriveKeysUptoRow.holds Try.pinned (OpenSpec.upto deriveKeysSpec)

/-- 'bastillelaw12.DeriveBack', WHERE WHAT IT READS IS OF BULK AT MOST 1048576: true; the input reads as it did. -/
def deriveBackUptoRow : OpenClaim := { program := "ytgobodhcamgidaa", sum := "b77cf41453a9dd5c93986198e31502812533f478b4d5f6f3a7133df78f9835f7", func := "bastille/bastillelaw12.DeriveBack", spec := "deriveBack", unfollowed := true, recurses := true, apart := false, narrowed := true }
def DeriveBackUptoSaid : Prop := deriveBackUptoRow.holds Try.pinned (OpenSpec.upto deriveBackSpec)

/-- 'bastillelaw11.AeadSeals', WHERE WHAT IT READS IS OF BULK AT MOST 1048576: true; the input reads as it did. -/
def aeadSealsUptoRow : OpenClaim := { program := "ytgobodhcamgidaa", sum := "b77cf41453a9dd5c93986198e31502812533f478b4d5f6f3a7133df78f9835f7", func := "bastille/bastillelaw11.AeadSeals", spec := "aeadSeals", unfollowed := true, recurses := true, apart := false, narrowed := true }
def AeadSealsUptoSaid : Prop := aeadSealsUptoRow.holds Try.pinned (OpenSpec.upto aeadSealsSpec)

/-- 'bastillelaw11.AeadOpens', WHERE WHAT IT READS IS OF BULK AT MOST 1048576: true; the input reads as it did. -/
def aeadOpensUptoRow : OpenClaim := { program := "ytgobodhcamgidaa", sum := "b77cf41453a9dd5c93986198e31502812533f478b4d5f6f3a7133df78f9835f7", func := "bastille/bastillelaw11.AeadOpens", spec := "aeadOpens", unfollowed := true, recurses := true, apart := false, narrowed := true }
def AeadOpensUptoSaid : Prop := aeadOpensUptoRow.holds Try.pinned (OpenSpec.upto aeadOpensSpec)

/-- 'bastillelaw11.AeadBack', WHERE WHAT IT READS IS OF BULK AT MOST 1048576: true; the input reads as it did. -/
def aeadBackUptoRow : OpenClaim := { program := "ytgobodhcamgidaa", sum := "b77cf41453a9dd5c93986198e31502812533f478b4d5f6f3a7133df78f9835f7", func := "bastille/bastillelaw11.AeadBack", spec := "aeadBack", unfollowed := true, recurses := true, apart := false, narrowed := true }
def AeadBackUptoSaid : Prop := aeadBackUptoRow.holds Try.pinned (OpenSpec.upto aeadBackSpec)

end Rows
end Go.Proofs.Ytgobodhcamgidaa
