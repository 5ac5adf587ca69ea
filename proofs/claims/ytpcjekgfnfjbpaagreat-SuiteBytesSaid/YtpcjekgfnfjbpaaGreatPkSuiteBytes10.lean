/- Part 10 of SuiteBytes; conditions: in each theorem. -/
import Derived.Test.YtpcjekgfnfjbpaaGreatPkSuiteBytes4
import Derived.Maps.AppendAt
import Derived.Maps.Range
set_option linter.unusedVariables false
set_option linter.unusedSimpArgs false
namespace Go.bC
open Go.RowKit
theorem Gr.refl (w:World) (b:Nat):w.grownBy w (some b):=⟨rfl,rfl,rfl,bB _,fun _ _ _=>rfl⟩
theorem Gr.drew {w w':World} {r:Option Nat} (h:w.grownBy w' r):w.grownBy w'.drew r:=⟨h.os,h.tape,h.output,h.size,h.block⟩
theorem Gr.set {w w':World} {b:Nat} (h:w.grownBy w' (some b)) (i:Nat) (v:Value):w.grownBy (w'.setCell ⟨b,i,none⟩ v) (some b):=
 ⟨h.os,h.tape,h.output,by rw[size_setCell];exact h.size,fun j hj gB=>by rw[Below.heap_setCell _ _ _ _ (fun e=>gB (by rw[e]))];exact h.block j hj gB⟩
theorem Gr.below {w w':World} {b:Nat} (h:w.grownBy w' (some b)) {B:Nat} (hB:B<=b) (hw:B<=w.heap.size):Below B w w':=
 (bT B w).grown h hw fun k e=>by cases e;exact hB
end Go.bC
