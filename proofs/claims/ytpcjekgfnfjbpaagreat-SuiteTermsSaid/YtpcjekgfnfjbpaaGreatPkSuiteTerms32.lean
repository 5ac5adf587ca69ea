/-
  Part 32 of the texts that the proof of SuiteTerms rests on, one after the other. Conditions: named in each theorem.
-/
import Derived.Test.YtpcjekgfnfjbpaaGreatPkSuiteTerms26
import Derived.Test.YtpcjekgfnfjbpaaGreatPkSuiteTerms4
set_option linter.unusedVariables false
set_option linter.unusedSimpArgs false
namespace Go.aG
def ny (n:Nat) (key:Nat→Int) (i:Nat):Int:=if 128<n then (if i<64 then gG n key i else 0) else if i<n then key i else 0
def qE (n:Nat) (key:Nat→Int) (c:Int) (i:Nat):Int:=bits .xor .u8 (ny n key i) c
theorem rG (a b:Int):0≤bits .xor .u8 a b∧bits .xor .u8 a b<256:=by
 show 0≤IntKind.u8.wrap _∧IntKind.u8.wrap _<256
 rw [IntKind.wrap_u8];omega
theorem lU (n:Nat) (key:Nat→Int) (c:Int) (i:Nat):0≤qE n key c i∧qE n key c i<256:=rG _ _
theorem sN {n:Nat} {key:Nat→Int} (h:∀i,i<n→0≤key i∧key i<256) (i:Nat):0≤ny n key i∧ny n key i<256:=by
 unfold ny
 split
 ·split
  ·exact iL _ _ _
  ·decide
 ·split
  ·exact h i (by assumption)
  ·decide
def qh (nk:Nat) (key:Nat→Int) (n:Nat) (f:Nat→Int):Nat→Int:=gG (128+64) (gB 128 (qE nk key 92) (gG (128+n) (gB 128 (qE nk key 54) f)))
theorem rQ (nk:Nat) (key:Nat→Int) (n:Nat) (f:Nat→Int) (i:Nat):0≤qh nk key n f i∧qh nk key n f i<256:=iL _ _ _
end Go.aG
