/-
  No cell of these rows narrows 'for every input' (looked for: loops, veiled, ifaces, maps, wideKeys, modest, calm, conditions, laid).
  DERIVED. THE GIVEN ROWS OF THIS SEAT. 13 by the template 'for every input the law returns true; each argument reads behind the call as it read before'; 0 by the template 'total and deterministic' (their statements: YtlmdgmgbijfaoaaTotals.lean).
  GIVEN WITH THE SEED: the statements are not yours to turn. If you find one false, say at which input.
  Laid BY PROGRAM, IN A SANDBOX (cutbox-rows.mjs): the forced cells as the released guide's own fill.sh prints them over the translation 7ef1623c7d4a9477… (all of the seat's roots in one cut). By AI agents, Wed Nov 11 2026. No macro, syntax, notation, axiom, sorry.
-/
import Derived.Test.YtlmdgmgbijfaoaaChecked
import GoSem.Claim
import GoSem.ClaimJoined
import GoSem.ClaimMapViews
import Derived.JoinedTies
import Derived.KernelRfl
namespace Go.Proofs.Ytlmdgmgbijfaoaa
/- THE CELL 'sum', in the pinned program and in every row, IS THE sha256 OF THE DUMP (.gsa) THAT YtlmdgmgbijfaoaaProg.lean LOADS. Nothing in Lean hashes anything: it is a label: what it is worth is what the hold of that sum in a sandbox is worth. -/
noncomputable def Try.pinned : Pinned := { name := "ytlmdgmgbijfaoaa", sum := "7ef1623c7d4a94771870ea79190f00098432f54fe892fb654928fc4f516b688c", checked := Try.checked }
namespace Rows
def none {H : Type} : Left H := { results := [], args := [] }

/-- 'bastillelaw17.DiskKeeps': WHATEVER THE INPUT: true; the input reads as it did. -/
def diskKeepsSpec : ChangeSpec := { name := "diskKeeps", fn := fun _ => fun
  | [d1, d2, d3] => { results := [.lit (.bool true)], args := [d1, d2, d3] }
  | _ => none }
def diskKeepsRow : OpenClaim := { program := "ytlmdgmgbijfaoaa", sum := "7ef1623c7d4a94771870ea79190f00098432f54fe892fb654928fc4f516b688c", func := "bastille/bastillelaw17.DiskKeeps", spec := "diskKeeps", plainKeys := false, apart := false }
def DiskKeepsSaid : Prop := diskKeepsRow.holds Try.pinned (OpenSpec.ofChange diskKeepsSpec)

/-- ITS FALSE NEIGHBOUR: 'it returns false'. Refute it at one input. -/
def diskKeepsWrong : ChangeSpec := { name := "diskKeeps", fn := fun _ => fun
  | [d1, d2, d3] => { results := [.lit (.bool false)], args := [d1, d2, d3] }
  | _ => none }
def DiskKeepsWrongFalsely : Prop := diskKeepsRow.holds Try.pinned (OpenSpec.ofChange diskKeepsWrong)

/-- 'bastillelaw17.DiskDoes': WHATEVER THE INPUT: true; the input reads as it did. -/
def diskDoesSpec : ChangeSpec := { name := "diskDoes", fn := fun _ => fun
  | [d1, d2] => { results := [.lit (.bool true)], args := [d1, d2] }
  | _ => none }
def diskDoesRow : OpenClaim := { program := "ytlmdgmgbijfaoaa", sum := "7ef1623c7d4a94771870ea79190f00098432f54fe892fb654928fc4f516b688c", func := "bastille/bastillelaw17.DiskDoes", spec := "diskDoes", plainKeys := false, apart := false }
def DiskDoesSaid : Prop := diskDoesRow.holds Try.pinned (OpenSpec.ofChange diskDoesSpec)

/-- ITS FALSE NEIGHBOUR: 'it returns false'. Refute it at one input. -/
def diskDoesWrong : ChangeSpec := { name := "diskDoes", fn := fun _ => fun
  | [d1, d2] => { results := [.lit (.bool false)], args := [d1, d2] }
  | _ => none }
def DiskDoesWrongFalsely : Prop := diskDoesRow.holds Try.pinned (OpenSpec.ofChange diskDoesWrong)

/-- 'bastillelaw17.DiskFuse': WHATEVER THE INPUT: true; the input reads as it did. -/
def diskFuseSpec : ChangeSpec := { name := "diskFuse", fn := fun _ => fun
  | [d1, d2] => { results := [.lit (.bool true)], args := [d1, d2] }
  | _ => none }
def diskFuseRow : OpenClaim := { program := "ytlmdgmgbijfaoaa", sum := "7ef1623c7d4a94771870ea79190f00098432f54fe892fb654928fc4f516b688c", func := "bastille/bastillelaw17.DiskFuse", spec := "diskFuse", plainKeys := false, apart := false }
def DiskFuseSaid : Prop := diskFuseRow.holds Try.pinned (OpenSpec.ofChange diskFuseSpec)

/-- ITS FALSE NEIGHBOUR: 'it returns false'. Refute it at one input. -/
def diskFuseWrong : ChangeSpec := { name := "diskFuse", fn := fun _ => fun
  | [d1, d2] => { results := [.lit (.bool false)], args := [d1, d2] }
  | _ => none }
def DiskFuseWrongFalsely : Prop := diskFuseRow.holds Try.pinned (OpenSpec.ofChange diskFuseWrong)

/-- 'bastillelaw17.DiskApart': WHATEVER THE INPUT: true; the input reads as it did. -/
def diskApartSpec : ChangeSpec := { name := "diskApart", fn := fun _ => fun
  | [d1, d2, d3] => { results := [.lit (.bool true)], args := [d1, d2, d3] }
  | _ => none }
def diskApartRow : OpenClaim := { program := "ytlmdgmgbijfaoaa", sum := "7ef1623c7d4a94771870ea79190f00098432f54fe892fb654928fc4f516b688c", func := "bastille/bastillelaw17.DiskApart", spec := "diskApart", plainKeys := false, apart := false }
def DiskApartSaid : Prop := diskApartRow.holds Try.pinned (OpenSpec.ofChange diskApartSpec)

/-- ITS FALSE NEIGHBOUR: 'it returns false'. Refute it at one input. -/
def diskApartWrong : ChangeSpec := { name := "diskApart", fn := fun _ => fun
  | [d1, d2, d3] => { results := [.lit (.bool false)], args := [d1, d2, d3] }
  | _ => none }
def DiskApartWrongFalsely : Prop := diskApartRow.holds Try.pinned (OpenSpec.ofChange diskApartWrong)

/-- 'bastillelaw26.LatticePath': WHATEVER THE INPUT: true; the input reads as it did. -/
def latticePathSpec : ChangeSpec := { name := "latticePath", fn := fun _ => fun
  | [d1, d2, d3] => { results := [.lit (.bool true)], args := [d1, d2, d3] }
  | _ => none }
def latticePathRow : OpenClaim := { program := "ytlmdgmgbijfaoaa", sum := "7ef1623c7d4a94771870ea79190f00098432f54fe892fb654928fc4f516b688c", func := "bastille/bastillelaw26.LatticePath", spec := "latticePath", plainKeys := false, apart := false }
def LatticePathSaid : Prop := latticePathRow.holds Try.pinned (OpenSpec.ofChange latticePathSpec)

/-- ITS FALSE NEIGHBOUR: 'it returns false'. Refute it at one input. -/
def latticePathWrong : ChangeSpec := { name := "latticePath", fn := fun _ => fun
  | [d1, d2, d3] => { results := [.lit (.bool false)], args := [d1, d2, d3] }
  | _ => none }
def LatticePathWrongFalsely : Prop := latticePathRow.holds Try.pinned (OpenSpec.ofChange latticePathWrong)

/-- 'bastillelaw26.LatticeMore': WHATEVER THE INPUT: true; the input reads as it did. -/
def latticeMoreSpec : ChangeSpec := { name := "latticeMore", fn := fun _ => fun
  | [d1, d2, d3] => { results := [.lit (.bool true)], args := [d1, d2, d3] }
  | _ => none }
def latticeMoreRow : OpenClaim := { program := "ytlmdgmgbijfaoaa", sum := "7ef1623c7d4a94771870ea79190f00098432f54fe892fb654928fc4f516b688c", func := "bastille/bastillelaw26.LatticeMore", spec := "latticeMore", plainKeys := false, apart := false }
def LatticeMoreSaid : Prop := latticeMoreRow.holds Try.pinned (OpenSpec.ofChange latticeMoreSpec)

/-- ITS FALSE NEIGHBOUR: 'it returns false'. Refute it at one input. -/
def latticeMoreWrong : ChangeSpec := { name := "latticeMore", fn := fun _ => fun
  | [d1, d2, d3] => { results := [.lit (.bool false)], args := [d1, d2, d3] }
  | _ => none }
def LatticeMoreWrongFalsely : Prop := latticeMoreRow.holds Try.pinned (OpenSpec.ofChange latticeMoreWrong)

/-- 'bastillelaw26.LatticeReach': WHATEVER THE INPUT: true; the input reads as it did. -/
def latticeReachSpec : ChangeSpec := { name := "latticeReach", fn := fun _ => fun
  | [d1, d2, d3] => { results := [.lit (.bool true)], args := [d1, d2, d3] }
  | _ => none }
def latticeReachRow : OpenClaim := { program := "ytlmdgmgbijfaoaa", sum := "7ef1623c7d4a94771870ea79190f00098432f54fe892fb654928fc4f516b688c", func := "bastille/bastillelaw26.LatticeReach", spec := "latticeReach", plainKeys := false, apart := false }
def LatticeReachSaid : Prop := latticeReachRow.holds Try.pinned (OpenSpec.ofChange latticeReachSpec)

/-- ITS FALSE NEIGHBOUR: 'it returns false'. Refute it at one input. -/
def latticeReachWrong : ChangeSpec := { name := "latticeReach", fn := fun _ => fun
  | [d1, d2, d3] => { results := [.lit (.bool false)], args := [d1, d2, d3] }
  | _ => none }
def LatticeReachWrongFalsely : Prop := latticeReachRow.holds Try.pinned (OpenSpec.ofChange latticeReachWrong)

/-- 'bastillelaw26.LatticeOrder': WHATEVER THE INPUT: true; the input reads as it did. -/
def latticeOrderSpec : ChangeSpec := { name := "latticeOrder", fn := fun _ => fun
  | [d1, d2] => { results := [.lit (.bool true)], args := [d1, d2] }
  | _ => none }
def latticeOrderRow : OpenClaim := { program := "ytlmdgmgbijfaoaa", sum := "7ef1623c7d4a94771870ea79190f00098432f54fe892fb654928fc4f516b688c", func := "bastille/bastillelaw26.LatticeOrder", spec := "latticeOrder", plainKeys := false, apart := false }
def LatticeOrderSaid : Prop := latticeOrderRow.holds Try.pinned (OpenSpec.ofChange latticeOrderSpec)

/-- ITS FALSE NEIGHBOUR: 'it returns false'. Refute it at one input. -/
def latticeOrderWrong : ChangeSpec := { name := "latticeOrder", fn := fun _ => fun
  | [d1, d2] => { results := [.lit (.bool false)], args := [d1, d2] }
  | _ => none }
def LatticeOrderWrongFalsely : Prop := latticeOrderRow.holds Try.pinned (OpenSpec.ofChange latticeOrderWrong)

/-- 'bastillelaw14.TermPuts': WHATEVER THE INPUT: true; the input reads as it did. -/
def termPutsSpec : ChangeSpec := { name := "termPuts", fn := fun _ => fun
  | [d] => { results := [.lit (.bool true)], args := [d] }
  | _ => none }
def termPutsRow : OpenClaim := { program := "ytlmdgmgbijfaoaa", sum := "7ef1623c7d4a94771870ea79190f00098432f54fe892fb654928fc4f516b688c", func := "bastille/bastillelaw14.TermPuts", spec := "termPuts", unfollowed := true, recurses := true, plainKeys := false, apart := false }
def TermPutsSaid : Prop := termPutsRow.holds Try.pinned (OpenSpec.ofChange termPutsSpec)

/-- ITS FALSE NEIGHBOUR: 'it returns false'. Refute it at one input. -/
def termPutsWrong : ChangeSpec := { name := "termPuts", fn := fun _ => fun
  | [d] => { results := [.lit (.bool false)], args := [d] }
  | _ => none }
def TermPutsWrongFalsely : Prop := termPutsRow.holds Try.pinned (OpenSpec.ofChange termPutsWrong)

/-- 'bastillelaw14.TermOnce': WHATEVER THE INPUT: true; the input reads as it did. -/
def termOnceSpec : ChangeSpec := { name := "termOnce", fn := fun _ => fun
  | [d] => { results := [.lit (.bool true)], args := [d] }
  | _ => none }
def termOnceRow : OpenClaim := { program := "ytlmdgmgbijfaoaa", sum := "7ef1623c7d4a94771870ea79190f00098432f54fe892fb654928fc4f516b688c", func := "bastille/bastillelaw14.TermOnce", spec := "termOnce", unfollowed := true, recurses := true, plainKeys := false, apart := false }
def TermOnceSaid : Prop := termOnceRow.holds Try.pinned (OpenSpec.ofChange termOnceSpec)

/-- ITS FALSE NEIGHBOUR: 'it returns false'. Refute it at one input. -/
def termOnceWrong : ChangeSpec := { name := "termOnce", fn := fun _ => fun
  | [d] => { results := [.lit (.bool false)], args := [d] }
  | _ => none }
def TermOnceWrongFalsely : Prop := termOnceRow.holds Try.pinned (OpenSpec.ofChange termOnceWrong)

/-- 'bastillelaw15.DeduceFrom': WHATEVER THE INPUT: true; the input reads as it did. -/
def deduceFromSpec : ChangeSpec := { name := "deduceFrom", fn := fun _ => fun
  | [d1, d2] => { results := [.lit (.bool true)], args := [d1, d2] }
  | _ => none }
def deduceFromRow : OpenClaim := { program := "ytlmdgmgbijfaoaa", sum := "7ef1623c7d4a94771870ea79190f00098432f54fe892fb654928fc4f516b688c", func := "bastille/bastillelaw15.DeduceFrom", spec := "deduceFrom", unfollowed := true, recurses := true, plainKeys := false, apart := false }
def DeduceFromSaid : Prop := deduceFromRow.holds Try.pinned (OpenSpec.ofChange deduceFromSpec)

/-- ITS FALSE NEIGHBOUR: 'it returns false'. Refute it at one input. -/
def deduceFromWrong : ChangeSpec := { name := "deduceFrom", fn := fun _ => fun
  | [d1, d2] => { results := [.lit (.bool false)], args := [d1, d2] }
  | _ => none }
def DeduceFromWrongFalsely : Prop := deduceFromRow.holds Try.pinned (OpenSpec.ofChange deduceFromWrong)

/-- 'bastillelaw15.DeduceMore': WHATEVER THE INPUT: true; the input reads as it did. -/
def deduceMoreSpec : ChangeSpec := { name := "deduceMore", fn := fun _ => fun
  | [d1, d2, d3] => { results := [.lit (.bool true)], args := [d1, d2, d3] }
  | _ => none }
def deduceMoreRow : OpenClaim := { program := "ytlmdgmgbijfaoaa", sum := "7ef1623c7d4a94771870ea79190f00098432f54fe892fb654928fc4f516b688c", func := "bastille/bastillelaw15.DeduceMore", spec := "deduceMore", unfollowed := true, recurses := true, plainKeys := false, apart := false }
def DeduceMoreSaid : Prop := deduceMoreRow.holds Try.pinned (OpenSpec.ofChange deduceMoreSpec)

/-- ITS FALSE NEIGHBOUR: 'it returns false'. Refute it at one input. -/
def deduceMoreWrong : ChangeSpec := { name := "deduceMore", fn := fun _ => fun
  | [d1, d2, d3] => { results := [.lit (.bool false)], args := [d1, d2, d3] }
  | _ => none }
def DeduceMoreWrongFalsely : Prop := deduceMoreRow.holds Try.pinned (OpenSpec.ofChange deduceMoreWrong)

/-- 'bastillelaw15.DeduceOpens': WHATEVER THE INPUT: true; the input reads as it did. -/
def deduceOpensSpec : ChangeSpec := { name := "deduceOpens", fn := fun _ => fun
  | [d1, d2] => { results := [.lit (.bool true)], args := [d1, d2] }
  | _ => none }
def deduceOpensRow : OpenClaim := { program := "ytlmdgmgbijfaoaa", sum := "7ef1623c7d4a94771870ea79190f00098432f54fe892fb654928fc4f516b688c", func := "bastille/bastillelaw15.DeduceOpens", spec := "deduceOpens", unfollowed := true, recurses := true, plainKeys := false, apart := false }
def DeduceOpensSaid : Prop := deduceOpensRow.holds Try.pinned (OpenSpec.ofChange deduceOpensSpec)

/-- ITS FALSE NEIGHBOUR: 'it returns false'. Refute it at one input. -/
def deduceOpensWrong : ChangeSpec := { name := "deduceOpens", fn := fun _ => fun
  | [d1, d2] => { results := [.lit (.bool false)], args := [d1, d2] }
  | _ => none }
def DeduceOpensWrongFalsely : Prop := deduceOpensRow.holds Try.pinned (OpenSpec.ofChange deduceOpensWrong)

/- THE SECOND FORM. 'bulk': how many values and letters a reading holds, each counted each time it is reached (what is shared counts as often as it is met; a slice's spare places count too). A statement '..UptoSaid' is the law's where the arguments, and the package variables that the reading takes, are together of bulk at most 1048576: NARROWER than '..Said'. Prove '..Said' where nothing that the law and all that it calls make is longer than what came in: it says more and counts as full. Else prove '..UptoSaid'. A law counts once. -/
mutual
def uptoBulk {H : Type} : DataW H → Nat
  | .lit (.string bytes) => bytes.length + 1
  | .lit _ => 1
  | .nil => 1
  | .ptr d => uptoBulk d + 1
  | .slice elems spare => uptoBulkAll elems + uptoBulkAll spare + 1
  | .agg parts => uptoBulkAll parts + 1
  | .iface _ d => uptoBulk d + 1
  | .map entries => uptoBulkEntries entries + 1
  | .held _ => 1
def uptoBulkAll {H : Type} : List (DataW H) → Nat
  | [] => 0
  | d :: r => uptoBulk d + uptoBulkAll r
def uptoBulkEntries {H : Type} : List (Lit × DataW H) → Nat
  | [] => 0
  | x :: r => uptoBulkEntry x + uptoBulkEntries r
def uptoBulkEntry {H : Type} : Lit × DataW H → Nat
  | (.string bytes, d) => bytes.length + uptoBulk d + 1
  | (_, d) => uptoBulk d + 1
 end
def uptoSmall : (H : Type) → List (DataW H) → Bool := fun _ ds => decide (uptoBulkAll ds ≤ 1048576)
def OpenSpec.upto (s : _root_.Go.ChangeSpec) : _root_.Go.OpenSpec := { _root_.Go.OpenSpec.ofChange s with cond := some uptoSmall }

/-- 'bastillelaw17.DiskKeeps', WHERE WHAT IT READS IS OF BULK AT MOST 1048576: true; the input reads as it did. -/
def diskKeepsUptoRow : OpenClaim := { program := "ytlmdgmgbijfaoaa", sum := "7ef1623c7d4a94771870ea79190f00098432f54fe892fb654928fc4f516b688c", func := "bastille/bastillelaw17.DiskKeeps", spec := "diskKeeps", plainKeys := false, apart := false, narrowed := true }
def DiskKeepsUptoSaid : Prop := diskKeepsUptoRow.holds Try.pinned (OpenSpec.upto diskKeepsSpec)

/-- 'bastillelaw17.DiskDoes', WHERE WHAT IT READS IS OF BULK AT MOST 1048576: true; the input reads as it did. -/
def diskDoesUptoRow : OpenClaim := { program := "ytlmdgmgbijfaoaa", sum := "7ef1623c7d4a94771870ea79190f00098432f54fe892fb654928fc4f516b688c", func := "bastille/bastillelaw17.DiskDoes", spec := "diskDoes", plainKeys := false, apart := false, narrowed := true }
def DiskDoesUptoSaid : Prop := diskDoesUptoRow.holds Try.pinned (OpenSpec.upto diskDoesSpec)

/-- 'bastillelaw17.DiskFuse', WHERE WHAT IT READS IS OF BULK AT MOST 1048576: true; the input reads as it did. -/
def diskFuseUptoRow : OpenClaim := { program := "ytlmdgmgbijfaoaa", sum := "7ef1623c7d4a94771870ea79190f00098432f54fe892fb654928fc4f516b688c", func := "bastille/bastillelaw17.DiskFuse", spec := "diskFuse", plainKeys := false, apart := false, narrowed := true }
def DiskFuseUptoSaid : Prop := diskFuseUptoRow.holds Try.pinned (OpenSpec.upto diskFuseSpec)

/-- 'bastillelaw17.DiskApart', WHERE WHAT IT READS IS OF BULK AT MOST 1048576: true; the input reads as it did. -/
def diskApartUptoRow : OpenClaim := { program := "ytlmdgmgbijfaoaa", sum := "7ef1623c7d4a94771870ea79190f00098432f54fe892fb654928fc4f516b688c", func := "bastille/bastillelaw17.DiskApart", spec := "diskApart", plainKeys := false, apart := false, narrowed := true }
def DiskApartUptoSaid : Prop := diskApartUptoRow.holds Try.pinned (OpenSpec.upto diskApartSpec)

/-- 'bastillelaw26.LatticePath', WHERE WHAT IT READS IS OF BULK AT MOST 1048576: true; the input reads as it did. -/
def latticePathUptoRow : OpenClaim := { program := "ytlmdgmgbijfaoaa", sum := "7ef1623c7d4a94771870ea79190f00098432f54fe892fb654928fc4f516b688c", func := "bastille/bastillelaw26.LatticePath", spec := "latticePath", plainKeys := false, apart := false, narrowed := true }
def LatticePathUptoSaid : Prop := latticePathUptoRow.holds Try.pinned (OpenSpec.upto latticePathSpec)

/-- 'bastillelaw26.LatticeMore', WHERE WHAT IT READS IS OF BULK AT MOST 1048576: true; the input reads as it did. -/
def latticeMoreUptoRow : OpenClaim := { program := "ytlmdgmgbijfaoaa", sum := "7ef1623c7d4a94771870ea79190f00098432f54fe892fb654928fc4f516b688c", func := "bastille/bastillelaw26.LatticeMore", spec := "latticeMore", plainKeys := false, apart := false, narrowed := true }
def LatticeMoreUptoSaid : Prop := latticeMoreUptoRow.holds Try.pinned (OpenSpec.upto latticeMoreSpec)

/-- 'bastillelaw26.LatticeReach', WHERE WHAT IT READS IS OF BULK AT MOST 1048576: true; the input reads as it did. -/
def latticeReachUptoRow : OpenClaim := { program := "ytlmdgmgbijfaoaa", sum := "7ef1623c7d4a94771870ea79190f00098432f54fe892fb654928fc4f516b688c", func := "bastille/bastillelaw26.LatticeReach", spec := "latticeReach", plainKeys := false, apart := false, narrowed := true }
def LatticeReachUptoSaid : Prop := latticeReachUptoRow.holds Try.pinned (OpenSpec.upto latticeReachSpec)

/-- 'bastillelaw26.LatticeOrder', WHERE WHAT IT READS IS OF BULK AT MOST 1048576: true; the input reads as it did. -/
def latticeOrderUptoRow : OpenClaim := { program := "ytlmdgmgbijfaoaa", sum := "7ef1623c7d4a94771870ea79190f00098432f54fe892fb654928fc4f516b688c", func := "bastille/bastillelaw26.LatticeOrder", spec := "latticeOrder", plainKeys := false, apart := false, narrowed := true }
def LatticeOrderUptoSaid : Prop := latticeOrderUptoRow.holds Try.pinned (OpenSpec.upto latticeOrderSpec)

/-- 'bastillelaw14.TermPuts', WHERE WHAT IT READS IS OF BULK AT MOST 1048576: true; the input reads as it did. -/
def termPutsUptoRow : OpenClaim := { program := "ytlmdgmgbijfaoaa", sum := "7ef1623c7d4a94771870ea79190f00098432f54fe892fb654928fc4f516b688c", func := "bastille/bastillelaw14.TermPuts", spec := "termPuts", unfollowed := true, recurses := true, plainKeys := false, apart := false, narrowed := true }
def TermPutsUptoSaid : Prop := termPutsUptoRow.holds Try.pinned (OpenSpec.upto termPutsSpec)

/-- 'bastillelaw14.TermOnce', WHERE WHAT IT READS IS OF BULK AT MOST 1048576: true; the input reads as it did. -/
def termOnceUptoRow : OpenClaim := { program := "ytlmdgmgbijfaoaa", sum := "7ef1623c7d4a94771870ea79190f00098432f54fe892fb654928fc4f516b688c", func := "bastille/bastillelaw14.TermOnce", spec := "termOnce", unfollowed := true, recurses := true, plainKeys := false, apart := false, narrowed := true }
def TermOnceUptoSaid : Prop := termOnceUptoRow.holds Try.pinned (OpenSpec.upto termOnceSpec)

/-- 'bastillelaw15.DeduceFrom', WHERE WHAT IT READS IS OF BULK AT MOST 1048576: true; the input reads as it did. -/
def deduceFromUptoRow : OpenClaim := { program := "ytlmdgmgbijfaoaa", sum := "7ef1623c7d4a94771870ea79190f00098432f54fe892fb654928fc4f516b688c", func := "bastille/bastillelaw15.DeduceFrom", spec := "deduceFrom", unfollowed := true, recurses := true, plainKeys := false, apart := false, narrowed := true }
def DeduceFromUptoSaid : Prop := deduceFromUptoRow.holds Try.pinned (OpenSpec.upto deduceFromSpec)

/-- 'bastillelaw15.DeduceMore', WHERE WHAT IT READS IS OF BULK AT MOST 1048576: true; the input reads as it did. -/
def deduceMoreUptoRow : OpenClaim := { program := "ytlmdgmgbijfaoaa", sum := "7ef1623c7d4a94771870ea79190f00098432f54fe892fb654928fc4f516b688c", func := "bastille/bastillelaw15.DeduceMore", spec := "deduceMore", unfollowed := true, recurses := true, plainKeys := false, apart := false, narrowed := true }
def DeduceMoreUptoSaid : Prop := deduceMoreUptoRow.holds Try.pinned (OpenSpec.upto deduceMoreSpec)

/-- 'bastillelaw15.DeduceOpens', WHERE WHAT IT READS IS OF BULK AT MOST 1048576: true; the input reads as it did. -/
def deduceOpensUptoRow : OpenClaim := { program := "ytlmdgmgbijfaoaa", sum := "7ef1623c7d4a94771870ea79190f00098432f54fe892fb654928fc4f516b688c", func := "bastille/bastillelaw15.DeduceOpens", spec := "deduceOpens", unfollowed := true, recurses := true, plainKeys := false, apart := false, narrowed := true }
def DeduceOpensUptoSaid : Prop := deduceOpensUptoRow.holds Try.pinned (OpenSpec.upto deduceOpensSpec)

end Rows
end Go.Proofs.Ytlmdgmgbijfaoaa
