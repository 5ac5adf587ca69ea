/- Part 27 of SuiteBytes; conditions: in each theorem. -/
import Derived.Test.YtpcjekgfnfjbpaaGreatPkSuiteBytes22
import Derived.Test.YtpcjekgfnfjbpaaGreatPkSuiteBytes6
set_option linter.unusedVariables false
set_option linter.unusedSimpArgs false
namespace Go.bC
def qP (n:Nat) (key:Nat->Int) (i:Nat):Int:=if 128<n then (if i<64 then gJ n key i else 0) else if i<n then key i else 0
def sO (n:Nat) (key:Nat->Int) (c:Int) (i:Nat):Int:=bits .xor .u8 (qP n key i) c
theorem Lm (a b:Int):0<=bits .xor .u8 a b/\bits .xor .u8 a b<256:=by
 show 0<=IntKind.u8.wrap _/\IntKind.u8.wrap _<256;rw[IntKind.wrap_u8];omega
theorem Pp:∀c:Fin 256,bits .xor .u8 0 (c.val:Int)=(c.val:Int):=by decide+kernel
theorem abb {c:Int} (h:0<=c/\c<256):bits .xor .u8 0 c=c:=by
 obtain⟨q,rfl⟩:=IL h.1;exact Pp ⟨q,by omega⟩
theorem qM (n:Nat) (key:Nat->Int) (c:Int) (i:Nat):0<=sO n key c i/\sO n key c i<256:=Lm _ _
theorem ML {n:Nat} {key:Nat->Int} (h:∀i,i<n->0<=key i/\key i<256) (i:Nat):0<=qP n key i/\qP n key i<256:=by
 unfold qP
 split
 ·split
  ·exact fM _ _ _
  ·decide
 ·split
  ·exact h i (by assumption)
  ·decide
def pK (nk:Nat) (key:Nat->Int) (n:Nat) (f:Nat->Int):Nat->Int:=gJ (128+64) (fO 128 (sO nk key 92) (gJ (128+n) (fO 128 (sO nk key 54) f)))
theorem nT (nk:Nat) (key:Nat->Int) (n:Nat) (f:Nat->Int) (i:Nat):0<=pK nk key n f i/\pK nk key n f i<256:=fM _ _ _
theorem MK {n:Nat} {k k':Nat->Int} (h:∀i,i<n->k i=k' i):qP n k=qP n k':=by
 funext i
 unfold qP;rw[Ap h]
 split
 ·rfl
 ·split
  ·exact h i (by assumption)
  ·rfl
theorem Al {nk n:Nat} {k k' f f':Nat->Int} (hk:∀i,i<nk->k i=k' i) (hf:∀i,i<n->f i=f' i):pK nk k n f=pK nk k' n f':=by
 unfold pK sO;rw[MK hk];have:gJ (128+n) (fO 128 (fun i=>bits .xor .u8 (qP nk k' i) 54) f)=gJ (128+n) (fO 128 (fun i=>bits .xor .u8 (qP nk k' i) 54) f'):=Ap (Np (fun _ _=>rfl) hf);rw[this]
end Go.bC
