/-
  Part 38 of EscrowTake. Conditions: named in each theorem.
-/
import Derived.Test.YtpcjekgfnfjbpaaGreatPkEscrowTake27
import Derived.Test.YtpcjekgfnfjbpaaGreatPkEscrowTake6
set_option linter.unusedVariables false
set_option linter.unusedSimpArgs false
namespace Go.aZ
def Bw (n:Nat) (key:Nat->Int) (i:Nat):Int:=if 128<n then (if i<64 then oK n key i else 0) else if i<n then key i else 0
def GQ (n:Nat) (key:Nat->Int) (c:Int) (i:Nat):Int:=bits .xor .u8 (Bw n key i) c
theorem JK (a b:Int):0<=bits .xor .u8 a b/\bits .xor .u8 a b<256:=by
 show 0<=IntKind.u8.wrap _/\IntKind.u8.wrap _<256;rw [IntKind.wrap_u8];omega
theorem zA (n:Nat) (key:Nat->Int) (c:Int) (i:Nat):0<=GQ n key c i/\GQ n key c i<256:=JK _ _
theorem KW {n:Nat} {key:Nat->Int} (h:∀i,i<n->0<=key i/\key i<256) (i:Nat):0<=Bw n key i/\Bw n key i<256:=by
 unfold Bw
 split
 ·split
  ·exact oJ _ _ _
  ·decide
 ·split
  ·exact h i (by assumption)
  ·decide
def Dr (nk:Nat) (key:Nat->Int) (n:Nat) (f:Nat->Int):Nat->Int:=oK (128+64) (lH 128 (GQ nk key 92) (oK (128+n) (lH 128 (GQ nk key 54) f)))
theorem yT (nk:Nat) (key:Nat->Int) (n:Nat) (f:Nat->Int) (i:Nat):0<=Dr nk key n f i/\Dr nk key n f i<256:=oJ _ _ _
end Go.aZ
