/-
  Part 7 of the texts that the proof of RegressReach rests on, one after the other. Conditions: named in each theorem.
-/
import Derived.BigQuiet
import Derived.ChangeKeysEq
import Derived.ChangeMaps5
import Derived.ChangeOld
import Derived.Deep.DrawnRows
import Derived.Deep.QuietTactic
import Derived.Deep.RegionHeld3
import Derived.Deep.Slices
import Derived.Deep.Strs
import Derived.Deep.WholeRow
import Derived.Great.BuildSlice
import Derived.Laws.CopyOwn
import Derived.Laws.StructEq
import Derived.Lib.Hide
import Derived.OpenShut
import Derived.Orders
import Derived.ProofKit
import Derived.ShutString
import Derived.Test.YtpcjekgfnfjbpaaArr
import Derived.Test.YtpcjekgfnfjbpaaFlow
import Derived.Test.YtpcjekgfnfjbpaaKit
import Derived.Test.YtpcjekgfnfjbpaaOpen
import Derived.Test.YtpcjekgfnfjbpaaOpenT
import Derived.Test.YtpcjekgfnfjbpaaTxt
import Derived.WalkKit
import Derived.WalkLawsBesides
import Derived.WalkSmall
import Derived.WalkSpells
set_option linter.unusedVariables false
set_option linter.unusedSimpArgs false
namespace Go.Bas
open Go.RowKit Go.ChangeShapes Go.WideShapes Go.ChangeAt
def Mat (w:World) (v:Value) (m c:Nat) (q:Nat→Nat→Value):Prop:=
 ∃a cap,v=.slice a m cap∧m≤cap∧cap≤9223372036854775807∧(0<m→∃b o,a=some ⟨b,o,none⟩∧b<w.heap.size∧∀j,j<m→∀i,i<c→w.cell? ⟨b,o+j * c+i,none⟩=some (q j i))
theorem Mat.below {w w':World} {v:Value} {m c:Nat} {q:Nat→Nat→Value} (h:Mat w v m c q) (hb:Below w.heap.size w w'):Mat w' v m c q:=by
 obtain ⟨a,cap,rfl,h1,h2,h3⟩:=h
 refine ⟨a,cap,rfl,h1,h2,fun hm=> ?_⟩
 obtain ⟨b,o,rfl,hlt,hc⟩:=h3 hm
 have:=hb.size
 exact ⟨b,o,rfl,by omega,fun j hj i hi=> (hb.cell (p:=⟨b,o+j * c+i,none⟩) hlt).trans (hc j hj i hi)⟩
section
variable {H : Type} {enc : TypeId × Value → H} {P : Program} {w : World} {base : Nat} {spare : Nat → Bool} {held : Bool}
end
end Go.Bas
