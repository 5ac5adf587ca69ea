/-
  Part 25 of SuiteNone. Conditions: named in each theorem.
-/
import Derived.Test.YtpcjekgfnfjbpaaGreatPkSuiteNone20
import Derived.Test.YtpcjekgfnfjbpaaGreatPkSuiteNone6
set_option linter.unusedVariables false
set_option linter.unusedSimpArgs false
namespace Go.bI
def CW (n:Nat) (key:Nat->Int) (i:Nat):Int:=if 128<n then (if i<64 then mK n key i else 0) else if i<n then key i else 0
def Ju (n:Nat) (key:Nat->Int) (c:Int) (i:Nat):Int:=bits .xor .u8 (CW n key i) c
theorem Lp (a b:Int):0<=bits .xor .u8 a b/\bits .xor .u8 a b<256:=by
 show 0<=IntKind.u8.wrap _/\IntKind.u8.wrap _<256;rw [IntKind.wrap_u8];omega
theorem Al (n:Nat) (key:Nat->Int) (c:Int) (i:Nat):0<=Ju n key c i/\Ju n key c i<256:=Lp _ _
theorem MQ {n:Nat} {key:Nat->Int} (h:∀i,i<n->0<=key i/\key i<256) (i:Nat):0<=CW n key i/\CW n key i<256:=by
 unfold CW
 split
 ·split
  ·exact kR _ _ _
  ·decide
 ·split
  ·exact h i (by assumption)
  ·decide
def ES (nk:Nat) (key:Nat->Int) (n:Nat) (f:Nat->Int):Nat->Int:=mK (128+64) (fH 128 (Ju nk key 92) (mK (128+n) (fH 128 (Ju nk key 54) f)))
theorem zO (nk:Nat) (key:Nat->Int) (n:Nat) (f:Nat->Int) (i:Nat):0<=ES nk key n f i/\ES nk key n f i<256:=kR _ _ _
end Go.bI
