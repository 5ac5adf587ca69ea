/- Part 38 of EscrowComes; conditions: in each theorem. -/
import Derived.Test.YtpcjekgfnfjbpaaGreatPkEC27
import Derived.Test.YtpcjekgfnfjbpaaGreatPkEC6
set_option linter.unusedVariables false
set_option linter.unusedSimpArgs false
namespace Go.bI
def EF (n:Nat) (key:Nat->Int) (i:Nat):Int:=if 128<n then (if i<64 then rC n key i else 0) else if i<n then key i else 0
def KQ (n:Nat) (key:Nat->Int) (c:Int) (i:Nat):Int:=bits .xor .u8 (EF n key i) c
theorem Nt (a b:Int):0<=bits .xor .u8 a b/\bits .xor .u8 a b<256:=by
 show 0<=IntKind.u8.wrap _/\IntKind.u8.wrap _<256;rw[IntKind.wrap_u8];omega
theorem Cx (n:Nat) (key:Nat->Int) (c:Int) (i:Nat):0<=KQ n key c i/\KQ n key c i<256:=Nt _ _
theorem OT {n:Nat} {key:Nat->Int} (h:∀i,i<n->0<=key i/\key i<256) (i:Nat):0<=EF n key i/\EF n key i<256:=by
 unfold EF
 split
 ·split
  ·exact rA _ _ _
  ·decide
 ·split
  ·exact h i (by assumption)
  ·decide
def Gz (nk:Nat) (key:Nat->Int) (n:Nat) (f:Nat->Int):Nat->Int:=rC (128+64) (nN 128 (KQ nk key 92) (rC (128+n) (nN 128 (KQ nk key 54) f)))
theorem BQ (nk:Nat) (key:Nat->Int) (n:Nat) (f:Nat->Int) (i:Nat):0<=Gz nk key n f i/\Gz nk key n f i<256:=rA _ _ _
end Go.bI
