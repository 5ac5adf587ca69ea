/-
  Part 24 of SuiteHides. Conditions: named in each theorem.
-/
import Derived.Test.YtpcjekgfnfjbpaaGreatPkSuiteHides19
import Derived.Test.YtpcjekgfnfjbpaaGreatPkSuiteHides6
set_option linter.unusedVariables false
set_option linter.unusedSimpArgs false
namespace Go.aQ
def uT (n:Nat) (key:Nat->Int) (i:Nat):Int:=if 128<n then (if i<64 then kr n key i else 0) else if i<n then key i else 0
def sj (n:Nat) (key:Nat->Int) (c:Int) (i:Nat):Int:=bits .xor .u8 (uT n key i) c
theorem Ko (a b:Int):0<=bits .xor .u8 a b/\bits .xor .u8 a b<256:=by
 show 0<=IntKind.u8.wrap _/\IntKind.u8.wrap _<256;rw [IntKind.wrap_u8];omega
theorem Ow:∀c:Fin 256,bits .xor .u8 0 (c.val:Int)=(c.val:Int):=by decide+kernel
theorem aak {c:Int} (h:0<=c/\c<256):bits .xor .u8 0 c=c:=by
 obtain ⟨q,rfl⟩:=Dv h.1;exact Ow ⟨q,by omega⟩
theorem pK (n:Nat) (key:Nat->Int) (c:Int) (i:Nat):0<=sj n key c i/\sj n key c i<256:=Ko _ _
theorem LG {n:Nat} {key:Nat->Int} (h:∀i,i<n->0<=key i/\key i<256) (i:Nat):0<=uT n key i/\uT n key i<256:=by
 unfold uT
 split
 ·split
  ·exact kG _ _ _
  ·decide
 ·split
  ·exact h i (by assumption)
  ·decide
def uh (nk:Nat) (key:Nat->Int) (n:Nat) (f:Nat->Int):Nat->Int:=kr (128+64) (gK 128 (sj nk key 92) (kr (128+n) (gK 128 (sj nk key 54) f)))
theorem yQ (nk:Nat) (key:Nat->Int) (n:Nat) (f:Nat->Int) (i:Nat):0<=uh nk key n f i/\uh nk key n f i<256:=kG _ _ _
end Go.aQ
