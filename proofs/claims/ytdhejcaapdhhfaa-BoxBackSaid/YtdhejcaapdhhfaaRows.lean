/-
  No cell of these rows narrows 'for every input' (looked for: loops, veiled, ifaces, maps, wideKeys, modest, calm, conditions, laid).
  DERIVED. THE GIVEN ROWS OF THIS SEAT. 6 by the template 'for every input the law returns true; each argument reads behind the call as it read before'; 0 by the template 'total and deterministic' (their statements: YtdhejcaapdhhfaaTotals.lean).
  GIVEN WITH THE SEED: the statements are not yours to turn. If you find one false, say at which input.
  Laid BY PROGRAM, IN A SANDBOX (cutbox-rows.mjs): the forced cells as the released guide's own fill.sh prints them over the translation d5fa8ae4c7b6edc2… (all of the seat's roots in one cut). By AI agents, Wed Nov 11 2026. No macro, syntax, notation, axiom, sorry.
-/
import Derived.Test.YtdhejcaapdhhfaaChecked
import GoSem.Claim
import GoSem.ClaimJoined
import GoSem.ClaimMapViews
import Derived.JoinedTies
import Derived.KernelRfl
namespace Go.Proofs.Ytdhejcaapdhhfaa
/- THE CELL 'sum', in the pinned program and in every row, IS THE sha256 OF THE DUMP (.gsa) THAT YtdhejcaapdhhfaaProg.lean LOADS. Nothing in Lean hashes anything: it is a label: what it is worth is what the hold of that sum in a sandbox is worth. -/
noncomputable def Try.pinned : Pinned := { name := "ytdhejcaapdhhfaa", sum := "d5fa8ae4c7b6edc293ad25f736bc1000e396c68c65557c604dfdc5ef4eeacc0d", checked := Try.checked }
namespace Rows
def none {H : Type} : Left H := { results := [], args := [] }

/-- 'bastillelaw07.PointSums': WHATEVER THE INPUT: true; the input reads as it did. -/
def pointSumsSpec : ChangeSpec := { name := "pointSums", fn := fun _ => fun
  | [d1, d2] => { results := [.lit (.bool true)], args := [d1, d2] }
  | _ => none }
def pointSumsRow : OpenClaim := { program := "ytdhejcaapdhhfaa", sum := "d5fa8ae4c7b6edc293ad25f736bc1000e396c68c65557c604dfdc5ef4eeacc0d", func := "bastille/bastillelaw07.PointSums", spec := "pointSums", apart := false }
def PointSumsSaid : Prop := pointSumsRow.holds Try.pinned (OpenSpec.ofChange pointSumsSpec)

/-- ITS FALSE NEIGHBOUR: 'it returns false'. Refute it at one input. -/
def pointSumsWrong : ChangeSpec := { name := "pointSums", fn := fun _ => fun
  | [d1, d2] => { results := [.lit (.bool false)], args := [d1, d2] }
  | _ => none }
def PointSumsWrongFalsely : Prop := pointSumsRow.holds Try.pinned (OpenSpec.ofChange pointSumsWrong)

/-- 'bastillelaw07.PointOf': WHATEVER THE INPUT: true; the input reads as it did. -/
def pointOfSpec : ChangeSpec := { name := "pointOf", fn := fun _ => fun
  | [d] => { results := [.lit (.bool true)], args := [d] }
  | _ => none }
def pointOfRow : OpenClaim := { program := "ytdhejcaapdhhfaa", sum := "d5fa8ae4c7b6edc293ad25f736bc1000e396c68c65557c604dfdc5ef4eeacc0d", func := "bastille/bastillelaw07.PointOf", spec := "pointOf", apart := false }
def PointOfSaid : Prop := pointOfRow.holds Try.pinned (OpenSpec.ofChange pointOfSpec)

/-- ITS FALSE NEIGHBOUR: 'it returns false'. Refute it at one input. -/
def pointOfWrong : ChangeSpec := { name := "pointOf", fn := fun _ => fun
  | [d] => { results := [.lit (.bool false)], args := [d] }
  | _ => none }
def PointOfWrongFalsely : Prop := pointOfRow.holds Try.pinned (OpenSpec.ofChange pointOfWrong)

/-- 'bastillelaw07.PointLaws': WHATEVER THE INPUT: true; the input reads as it did. -/
def pointLawsSpec : ChangeSpec := { name := "pointLaws", fn := fun _ => fun
  | [d1, d2, d3] => { results := [.lit (.bool true)], args := [d1, d2, d3] }
  | _ => none }
def pointLawsRow : OpenClaim := { program := "ytdhejcaapdhhfaa", sum := "d5fa8ae4c7b6edc293ad25f736bc1000e396c68c65557c604dfdc5ef4eeacc0d", func := "bastille/bastillelaw07.PointLaws", spec := "pointLaws", apart := false }
def PointLawsSaid : Prop := pointLawsRow.holds Try.pinned (OpenSpec.ofChange pointLawsSpec)

/-- ITS FALSE NEIGHBOUR: 'it returns false'. Refute it at one input. -/
def pointLawsWrong : ChangeSpec := { name := "pointLaws", fn := fun _ => fun
  | [d1, d2, d3] => { results := [.lit (.bool false)], args := [d1, d2, d3] }
  | _ => none }
def PointLawsWrongFalsely : Prop := pointLawsRow.holds Try.pinned (OpenSpec.ofChange pointLawsWrong)

/-- 'bastillelaw08.SignVerifies': WHATEVER THE INPUT: true; the input reads as it did. -/
def signVerifiesSpec : ChangeSpec := { name := "signVerifies", fn := fun _ => fun
  | [d1, d2, d3] => { results := [.lit (.bool true)], args := [d1, d2, d3] }
  | _ => none }
def signVerifiesRow : OpenClaim := { program := "ytdhejcaapdhhfaa", sum := "d5fa8ae4c7b6edc293ad25f736bc1000e396c68c65557c604dfdc5ef4eeacc0d", func := "bastille/bastillelaw08.SignVerifies", spec := "signVerifies", unfollowed := true, recurses := true, apart := false }
def SignVerifiesSaid : Prop := signVerifiesRow.holds Try.pinned (OpenSpec.ofChange signVerifiesSpec)

/-- ITS FALSE NEIGHBOUR: 'it returns false'. Refute it at one input. -/
def signVerifiesWrong : ChangeSpec := { name := "signVerifies", fn := fun _ => fun
  | [d1, d2, d3] => { results := [.lit (.bool false)], args := [d1, d2, d3] }
  | _ => none }
def SignVerifiesWrongFalsely : Prop := signVerifiesRow.holds Try.pinned (OpenSpec.ofChange signVerifiesWrong)

/-- 'bastillelaw08.SignBack': WHATEVER THE INPUT: true; the input reads as it did. -/
def signBackSpec : ChangeSpec := { name := "signBack", fn := fun _ => fun
  | [d1, d2, d3] => { results := [.lit (.bool true)], args := [d1, d2, d3] }
  | _ => none }
def signBackRow : OpenClaim := { program := "ytdhejcaapdhhfaa", sum := "d5fa8ae4c7b6edc293ad25f736bc1000e396c68c65557c604dfdc5ef4eeacc0d", func := "bastille/bastillelaw08.SignBack", spec := "signBack", unfollowed := true, recurses := true, apart := false }
def SignBackSaid : Prop := signBackRow.holds Try.pinned (OpenSpec.ofChange signBackSpec)

/-- ITS FALSE NEIGHBOUR: 'it returns false'. Refute it at one input. -/
def signBackWrong : ChangeSpec := { name := "signBack", fn := fun _ => fun
  | [d1, d2, d3] => { results := [.lit (.bool false)], args := [d1, d2, d3] }
  | _ => none }
def SignBackWrongFalsely : Prop := signBackRow.holds Try.pinned (OpenSpec.ofChange signBackWrong)

/-- 'bastillelaw13.BoxBack': WHATEVER THE INPUT: true; the input reads as it did. -/
def boxBackSpec : ChangeSpec := { name := "boxBack", fn := fun _ => fun
  | [d1, d2, d3] => { results := [.lit (.bool true)], args := [d1, d2, d3] }
  | _ => none }
def boxBackRow : OpenClaim := { program := "ytdhejcaapdhhfaa", sum := "d5fa8ae4c7b6edc293ad25f736bc1000e396c68c65557c604dfdc5ef4eeacc0d", func := "bastille/bastillelaw13.BoxBack", spec := "boxBack", unfollowed := true, recurses := true, apart := false }
def BoxBackSaid : Prop := boxBackRow.holds Try.pinned (OpenSpec.ofChange boxBackSpec)

/-- ITS FALSE NEIGHBOUR: 'it returns false'. Refute it at one input. -/
def boxBackWrong : ChangeSpec := { name := "boxBack", fn := fun _ => fun
  | [d1, d2, d3] => { results := [.lit (.bool false)], args := [d1, d2, d3] }
  | _ => none }
def BoxBackWrongFalsely : Prop := boxBackRow.holds Try.pinned (OpenSpec.ofChange boxBackWrong)

/- THE SECOND FORM. 'bulk': how many values and letters a reading holds, each counted each time it is reached (what is shared counts as often as it is met; a slice's spare places count too). A statement '..UptoSaid' is the law's where the arguments, and the package variables that the reading takes, are together of bulk at most 1048576: NARROWER than '..Said'. Prove '..Said' where nothing that the law and all that it calls make is longer than what came in: it says more and counts as full. Else prove '..UptoSaid'. A law counts once. -/
mutual
def uptoBulk {H : Type} : DataW H → Nat
  | .lit (.string bytes) => bytes.length + 1
  | .lit _ => 1
  | .nil => 1
  | .ptr d => uptoBulk d + 1
  | .slice elems spare => uptoBulkAll elems + uptoBulkAll spare + 1
  | .agg parts => uptoBulkAll parts + 1
  | .iface _ d => uptoBulk d + 1
  | .map entries => uptoBulkEntries entries + 1
  | .held _ => 1
def uptoBulkAll {H : Type} : List (DataW H) → Nat
  | [] => 0
  | d :: r => uptoBulk d + uptoBulkAll r
def uptoBulkEntries {H : Type} : List (Lit × DataW H) → Nat
  | [] => 0
  | x :: r => uptoBulkEntry x + uptoBulkEntries r
def uptoBulkEntry {H : Type} : Lit × DataW H → Nat
  | (.string bytes, d) => bytes.length + uptoBulk d + 1
  | (_, d) => uptoBulk d + 1
 end
def uptoSmall : (H : Type) → List (DataW H) → Bool := fun _ ds => decide (uptoBulkAll ds ≤ 1048576)
def OpenSpec.upto (s : _root_.Go.ChangeSpec) : _root_.Go.OpenSpec := { _root_.Go.OpenSpec.ofChange s with cond := some uptoSmall }

/-- 'bastillelaw07.PointSums', WHERE WHAT IT READS IS OF BULK AT MOST 1048576: true; the input reads as it did. -/
def pointSumsUptoRow : OpenClaim := { program := "ytdhejcaapdhhfaa", sum := "d5fa8ae4c7b6edc293ad25f736bc1000e396c68c65557c604dfdc5ef4eeacc0d", func := "bastille/bastillelaw07.PointSums", spec := "pointSums", apart := false, narrowed := true }
def PointSumsUptoSaid : Prop := pointSumsUptoRow.holds Try.pinned (OpenSpec.upto pointSumsSpec)

/-- 'bastillelaw07.PointOf', WHERE WHAT IT READS IS OF BULK AT MOST 1048576: true; the input reads as it did. -/
def pointOfUptoRow : OpenClaim := { program := "ytdhejcaapdhhfaa", sum := "d5fa8ae4c7b6edc293ad25f736bc1000e396c68c65557c604dfdc5ef4eeacc0d", func := "bastille/bastillelaw07.PointOf", spec := "pointOf", apart := false, narrowed := true }
def PointOfUptoSaid : Prop := pointOfUptoRow.holds Try.pinned (OpenSpec.upto pointOfSpec)

/-- 'bastillelaw07.PointLaws', WHERE WHAT IT READS IS OF BULK AT MOST 1048576: true; the input reads as it did. -/
def pointLawsUptoRow : OpenClaim := { program := "ytdhejcaapdhhfaa", sum := "d5fa8ae4c7b6edc293ad25f736bc1000e396c68c65557c604dfdc5ef4eeacc0d", func := "bastille/bastillelaw07.PointLaws", spec := "pointLaws", apart := false, narrowed := true }
def PointLawsUptoSaid : Prop := pointLawsUptoRow.holds Try.pinned (OpenSpec.upto pointLawsSpec)

/-- 'bastillelaw08.SignVerifies', WHERE WHAT IT READS IS OF BULK AT MOST 1048576: true; the input reads as it did. -/
def signVerifiesUptoRow : OpenClaim := { program := "ytdhejcaapdhhfaa", sum := "d5fa8ae4c7b6edc293ad25f736bc1000e396c68c65557c604dfdc5ef4eeacc0d", func := "bastille/bastillelaw08.SignVerifies", spec := "signVerifies", unfollowed := true, recurses := true, apart := false, narrowed := true }
def SignVerifiesUptoSaid : Prop := signVerifiesUptoRow.holds Try.pinned (OpenSpec.upto signVerifiesSpec)

/-- 'bastillelaw08.SignBack', WHERE WHAT IT READS IS OF BULK AT MOST 1048576: true; the input reads as it did. -/
def signBackUptoRow : OpenClaim := { program := "ytdhejcaapdhhfaa", sum := "d5fa8ae4c7b6edc293ad25f736bc1000e396c68c65557c604dfdc5ef4eeacc0d", func := "bastille/bastillelaw08.SignBack", spec := "signBack", unfollowed := true, recurses := true, apart := false, narrowed := true }
def SignBackUptoSaid : Prop := signBackUptoRow.holds Try.pinned (OpenSpec.upto signBackSpec)

/-- 'bastillelaw13.BoxBack', WHERE WHAT IT READS IS OF BULK AT MOST 1048576: true; the input reads as it did. -/
def boxBackUptoRow : OpenClaim := { program := "ytdhejcaapdhhfaa", sum := "d5fa8ae4c7b6edc293ad25f736bc1000e396c68c65557c604dfdc5ef4eeacc0d", func := "bastille/bastillelaw13.BoxBack", spec := "boxBack", unfollowed := true, recurses := true, apart := false, narrowed := true }
def BoxBackUptoSaid : Prop := boxBackUptoRow.holds Try.pinned (OpenSpec.upto boxBackSpec)

end Rows
end Go.Proofs.Ytdhejcaapdhhfaa
