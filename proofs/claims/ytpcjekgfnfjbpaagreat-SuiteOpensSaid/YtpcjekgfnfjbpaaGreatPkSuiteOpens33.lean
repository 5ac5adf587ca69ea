/-
  Part 33 of the texts that the proof of SuiteOpens rests on, one after the other. Conditions: named in each theorem.
-/
import Derived.Test.YtpcjekgfnfjbpaaGreatPkSuiteOpens27
import Derived.Test.YtpcjekgfnfjbpaaGreatPkSuiteOpens5
set_option linter.unusedVariables false
set_option linter.unusedSimpArgs false
namespace Go.aG
def nJ (n:Nat) (key:Nat→Int) (i:Nat):Int:=if 128<n then (if i<64 then gJ n key i else 0) else if i<n then key i else 0
def qR (n:Nat) (key:Nat→Int) (c:Int) (i:Nat):Int:=bits .xor .u8 (nJ n key i) c
theorem rV (a b:Int):0≤bits .xor .u8 a b∧bits .xor .u8 a b<256:=by
 show 0≤IntKind.u8.wrap _∧IntKind.u8.wrap _<256
 rw [IntKind.wrap_u8];omega
theorem mq (n:Nat) (key:Nat→Int) (c:Int) (i:Nat):0≤qR n key c i∧qR n key c i<256:=rV _ _
theorem tu {n:Nat} {key:Nat→Int} (h:∀i,i<n→0≤key i∧key i<256) (i:Nat):0≤nJ n key i∧nJ n key i<256:=by
 unfold nJ
 split
 ·split
  ·exact iO _ _ _
  ·decide
 ·split
  ·exact h i (by assumption)
  ·decide
def qB (nk:Nat) (key:Nat→Int) (n:Nat) (f:Nat→Int):Nat→Int:=gJ (128+64) (gF 128 (qR nk key 92) (gJ (128+n) (gF 128 (qR nk key 54) f)))
theorem sw (nk:Nat) (key:Nat→Int) (n:Nat) (f:Nat→Int) (i:Nat):0≤qB nk key n f i∧qB nk key n f i<256:=iO _ _ _
end Go.aG
