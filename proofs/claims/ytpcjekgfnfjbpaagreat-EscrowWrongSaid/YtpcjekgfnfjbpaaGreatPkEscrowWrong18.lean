/-
  Part 18 of the texts that the proof of EscrowWrong rests on, one after the other. Conditions: named in each theorem.
-/
import Derived.Test.YtpcjekgfnfjbpaaGreatPkEscrowWrong4
import Derived.BigFrame
import Derived.Deep.RegionLaw
import Derived.Maps.AppendAt
import Derived.Maps.Range
set_option linter.unusedVariables false
set_option linter.unusedSimpArgs false
namespace Go.aG
open Go.RowKit
section
variable {P : Program} {ops : Array Oper} {rest : List Oper} {o : Oper} {a : Act} {w : World} {Q : Exit → Act → World → Prop}
end
end Go.aG
namespace Go.aG
open Go.RowKit
section
variable {P : Program} {ops : Array Oper} {rest : List Oper} {o : Oper} {a : Act} {w : World} {Q : Exit → Act → World → Prop}
theorem gM {fn:Func} {p q:Tmp} {T:TypeId} (h:fn.results=#[.cell p T,.tmp q]) (tmps:Array Value) (w:World) (k:IntKind) (b n:Nat) (f:Nat→Int) {d:TypeDesc}
  (hp:tmps.getD p undef=.pointer (some ⟨b,0,none⟩)) (ha:dH k w b n f) (hu:P.underlying T=some d) (hd:xZ d=true) (hi:(P.info? T).map (·.size)=some n):
  (results fn tmps).run P w=.ok (.tuple #[.agg (arr k n f),tmps.getD q undef]) w:=by
 obtain ⟨t,ht⟩:=ha
 have hp':tmps[p]?.getD undef=.pointer (some ⟨b,0,none⟩):=by simpa using hp
 simp [results,h,hp',asAddr,run_loadVar_row w b t T (arr k n f) (0,0) _ ht hu (by cases d<;> first | rfl | cases hd) (by rw [hi,gY])]
end
end Go.aG
namespace Go.aG
open Go.RowKit
section
variable {P : Program} {ops : Array Oper} {o : Oper} {a : Act} {w : World} {rest : List Oper} {K : Act → World → Prop} {Q : Exit → Act → World → Prop} {E : Prop}
end
end Go.aG
