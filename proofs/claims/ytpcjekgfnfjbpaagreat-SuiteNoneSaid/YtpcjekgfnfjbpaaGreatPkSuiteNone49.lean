/-
  Part 49 of SuiteNone. Conditions: named in each theorem.
-/
import Derived.Test.YtpcjekgfnfjbpaaGreatPkSuiteNone48
import Derived.Test.YtpcjekgfnfjbpaaGreatPkSuiteNone6
set_option linter.unusedVariables false
set_option linter.unusedSimpArgs false
namespace Go.bI
theorem Pd (n:Nat):(Ed.zero:Ed C7).mul n=.zero:=by
 induction n with
 | zero=> rfl
 | succ n ih=> rw [Ed.mul_add,Ed.mul_one,ih];exact Ed.add_zero _
theorem EI (n:Nat):Bp.mul (n % iW)=Bp.mul n:=by
 have h:Bp.mul n=(Bp.mul (iW * (n / iW))).add (Bp.mul (n % iW)):=by rw [<-Ed.mul_add,Nat.div_add_mod]
 rw [h,Ed.nN,Bu,Pd,Ed.add_comm,Ed.add_zero]
theorem abg {x x' y d:Fp} (h:y ^ 2 - x ^ 2=1+d * x ^ 2 * y ^ 2) (h':y ^ 2 - x' ^ 2=1+d * x' ^ 2 * y ^ 2):(x - x') * (x+x') * (1+d * (y * y))=0:=by grind
theorem Kh {x y:Fp} (h:x - y=0):x=y:=by grind
theorem Ki {x:Fp} (h:x=0): -x=x:=by rw [h,←fK,←jO];rfl
theorem Kj {x y:Fp} (h:x+y=0):x= -y:=by grind
theorem Nv {p q:Ed C7} (h:dB p=dB q):p=q:=by
 unfold dB at h;have hx:=lJ p.x;have hx':=lJ q.x;have hy:=lJ p.y;have hy':=lJ q.y;have hP:Pr<2 ^ 255:=by decide
 have hP2:Pr % 2=1:=by decide
 unfold OT wK at h;have e1:((p.y.val:Nat):Int)=((q.y.val:Nat):Int):=by omega
 have e2:((p.x.val:Nat):Int) % 2=((q.x.val:Nat):Int) % 2:=by omega
 have ey:p.y=q.y:=nJ e1;have ho:p.y ^ 2 - p.x ^ 2=1+dE * p.x ^ 2 * p.y ^ 2:=p.on;have ho':q.y ^ 2 - q.x ^ 2=1+dE * q.x ^ 2 * q.y ^ 2:=q.on;rw [<-ey] at ho';rcases fP (abg ho ho') with h1 | h1
 ·rcases fP h1 with h2 | h2
  ·exact Ed.ext (Kh h2) ey
  ·have h3:=Kj h2;refine Ed.ext ?_ ey;by_cases hz:q.x=0
   ·rw [h3];exact Ki hz
   ·exfalso
    have h4:((p.x.val:Nat):Int)= -((q.x.val:Nat):Int) % Pr:=by rw [h3,←uf q.x,←jO,gN,uf]
    have hn:((q.x.val:Nat):Int)≠0:=fun e=> hz (nJ (by rw [e];rfl));have h5: -((q.x.val:Nat):Int) % Pr=Pr - ((q.x.val:Nat):Int):=by
     have e3: -((q.x.val:Nat):Int) % Pr=(Pr - ((q.x.val:Nat):Int)) % Pr:=jV (c:= -1) (by omega);rw [e3];exact sS (by omega) (by omega)
    omega
 ·exact absurd h1 (DZ _)
theorem qh (p:Ed C7):0<=dB p/\dB p<2 ^ 256:=by
 unfold dB OT wK;have hy:=lJ p.y;have hP:Pr<2 ^ 255:=by decide
 omega
end Go.bI
namespace Go.Proofs.YtpcjekgfnfjbpaaGreat
open Go.bI
theorem Aw (p:Ed C7):MC (dB p):=by
 have hy:=lJ p.y;have hP:Pr<2 ^ 255:=by decide
 have e1:dB p % 2 ^ 255=OT p:=by unfold dB OT wK;omega
 have e2:dB p / 2 ^ 255=wK p % 2:=by unfold dB OT wK;omega
 unfold MC;rw [e1,e2];have hy2:toF (OT p)=p.y:=agP p;refine ⟨hy.2,AU hy2,fun h=> ?_⟩;have h1:wK p * wK p % Pr=kG (OT p) % Pr:=Na hy2;have h2:=(oC h1).2 h.1;have hx:=lJ p.x;rw [sS (by exact hx.1) (by exact hx.2)] at h2;rw [h2] at h;exact absurd h.2 (by decide)
end Go.Proofs.YtpcjekgfnfjbpaaGreat
