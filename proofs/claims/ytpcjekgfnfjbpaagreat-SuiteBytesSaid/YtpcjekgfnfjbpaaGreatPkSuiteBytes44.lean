/- Part 44 of SuiteBytes; conditions: in each theorem. -/
import Derived.Test.YtpcjekgfnfjbpaaGreatPkSuiteBytes43
import Derived.Test.YtpcjekgfnfjbpaaGreatPkSuiteBytes6
set_option linter.unusedVariables false
set_option linter.unusedSimpArgs false
namespace Go.bC
theorem Po (n:Nat):(Ed.zero:Ed C7).mul n=.zero:=by
 induction n with
 | zero=>rfl
 | succ n ih=>rw[Ed.mul_add,Ed.mul_one,ih];exact Ed.add_zero _
theorem Fz (n:Nat):Bp.mul (n % jo)=Bp.mul n:=by
 have h:Bp.mul n=(Bp.mul (jo * (n / jo))).add (Bp.mul (n % jo)):=by rw[<-Ed.mul_add,Nat.div_add_mod]
 rw[h,Ed.GI,NH,Po,Ed.add_comm,Ed.add_zero]
theorem abe {x x' y d:Fp} (h:y ^ 2 - x ^ 2=1+d * x ^ 2 * y ^ 2) (h':y ^ 2 - x' ^ 2=1+d * x' ^ 2 * y ^ 2):(x - x') * (x+x') * (1+d * (y * y))=0:=by grind
theorem KD {x y:Fp} (h:x - y=0):x=y:=by grind
theorem KE {x:Fp} (h:x=0): -x=x:=by rw[h,←gQ,←ny];rfl
theorem KF {x y:Fp} (h:x+y=0):x= -y:=by grind
theorem Ny {p q:Ed C7} (h:dB p=dB q):p=q:=by
 unfold dB at h;have hx:=mE p.x;have hx':=mE q.x;have hy:=mE p.y;have hy':=mE q.y;have hP:Pr<2 ^ 255:=by decide
 have hP2:Pr % 2=1:=by decide
 unfold OV vJ at h;have e1:((p.y.val:Nat):Int)=((q.y.val:Nat):Int):=by omega
 have e2:((p.x.val:Nat):Int) % 2=((q.x.val:Nat):Int) % 2:=by omega
 have ey:p.y=q.y:=oG e1;have ho:p.y ^ 2 - p.x ^ 2=1+dE * p.x ^ 2 * p.y ^ 2:=p.on;have ho':q.y ^ 2 - q.x ^ 2=1+dE * q.x ^ 2 * q.y ^ 2:=q.on;rw[<-ey] at ho';rcases mG (abe ho ho') with h1 | h1
 ·rcases mG h1 with h2 | h2
  ·exact Ed.ext (KD h2) ey
  ·have h3:=KF h2;refine Ed.ext ?_ ey;by_cases hz:q.x=0
   ·rw[h3];exact KE hz
   ·exfalso
    have h4:((p.x.val:Nat):Int)= -((q.x.val:Nat):Int) % Pr:=by rw[h3,←xW q.x,←ny,gY,xW]
    have hn:((q.x.val:Nat):Int)≠0:=fun e=>hz (oG (by rw[e];rfl));have h5: -((q.x.val:Nat):Int) % Pr=Pr - ((q.x.val:Nat):Int):=by
     have e3: -((q.x.val:Nat):Int) % Pr=(Pr - ((q.x.val:Nat):Int)) % Pr:=kH (c:= -1) aH;rw[e3];exact uO aH aH
    omega
 ·exact absurd h1 (EG _)
theorem qX (p:Ed C7):0<=dB p/\dB p<2 ^ 256:=by
 unfold dB OV vJ;have hy:=mE p.y;have hP:Pr<2 ^ 255:=by decide
 omega
end Go.bC
namespace Go.Proofs.YtpcjekgfnfjbpaaGreat
open Go.bC
theorem Bq (p:Ed C7):Mv (dB p):=by
 have hy:=mE p.y;have hP:Pr<2 ^ 255:=by decide
 have e1:dB p % 2 ^ 255=OV p:=by unfold dB OV vJ;omega
 have e2:dB p / 2 ^ 255=vJ p % 2:=by unfold dB OV vJ;omega
 unfold Mv;rw[e1,e2];have hy2:toF (OV p)=p.y:=agC p;refine⟨hy.2,BI hy2,fun h=>?_⟩;have h1:vJ p * vJ p % Pr=kX (OV p) % Pr:=Nb hy2;have h2:=(pV h1).2 h.1;have hx:=mE p.x;rw[uO (by exact hx.1) (by exact hx.2)] at h2;rw[h2] at h;exact absurd h.2 aN
end Go.Proofs.YtpcjekgfnfjbpaaGreat
