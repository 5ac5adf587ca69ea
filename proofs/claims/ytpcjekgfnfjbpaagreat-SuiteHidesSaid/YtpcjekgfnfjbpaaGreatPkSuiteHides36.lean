/-
  Part 36 of SuiteHides. Conditions: named in each theorem.
-/
import Derived.Test.YtpcjekgfnfjbpaaGreatPkSuiteHides34
import Derived.Test.YtpcjekgfnfjbpaaGreatPkSuiteHides23
import Derived.Test.YtpcjekgfnfjbpaaGreatPkSuiteHides14
set_option linter.unusedVariables false
set_option linter.unusedSimpArgs false
namespace Go.aQ
def raL (X Y Z U V R D:Int):Int:=(Z * R) * (Z * R) - D * ((X * U) * (Y * V))
def raM (X Y Z U V R D:Int):Int:=(Z * R) * (Z * R)+D * ((X * U) * (Y * V))
def raC (X Y U V:Int):Int:=(X+Y) * (U+V) - X * U - Y * V
def raX (X Y Z U V R D:Int):Int:=(Z * R) * (raL X Y Z U V R D * raC X Y U V)
def raY (X Y Z U V R D:Int):Int:=(Z * R) * (raM X Y Z U V R D * (Y * V+X * U))
def raZ (X Y Z U V R D:Int):Int:=raL X Y Z U V R D * raM X Y Z U V R D
end Go.aQ
namespace Go.aQ
open Go.RowKit
def BX:Int:=15112221349535400772501151409588531511454012693041857206046113283949847762202
def BY:Int:=46316835694926478169428394003475163141307993866256225615783033603165251855960
theorem VF:Cg (121666 * (BY * BY - BX * BX - 1)) (-121665 * (BX * BX * (BY * BY))):=by unfold Cg BX BY;decide+kernel
theorem Pv {x y d a b:Fp} (hd:d * b= -a) (hb:b≠0) (h:b * (y * y - x * x - 1)= -a * (x * x * (y * y))):y ^ 2 - x ^ 2=1+d * x ^ 2 * y ^ 2:=by
 refine fH hb ?_
 grind
noncomputable def Bp:Ed C7:=⟨toF BX,toF BY,Pv Ob (jr.2 (by decide)) (by
 have h:=gV.2 VF;simp only [dG,lY,oW,dL] at h;exact h)⟩
end Go.aQ
namespace Go.aQ
def FE (X Y Z:Int) (p:Ed C7):Prop:=toF Z≠0/\toF X=p.x * toF Z/\toF Y=p.y * toF Z
theorem Sr {x1 y1 z1 x2 y2 z2 d sx sy A B C D:Fp} (hB:B=1+d * (x1 * x2 * (y1 * y2))) (hD:D=1 - d * (x1 * x2 * (y1 * y2))) (hA:A=x1 * y2+x2 * y1) (hC:C=y1 * y2+x1 * x2) (hsx:sx * B=A) (hsy:sy * D=C):
  let w:=z1 * z2
  let L:=w * w - d * ((x1 * z1 * (x2 * z2)) * (y1 * z1 * (y2 * z2)))
  let M:=w * w+d * ((x1 * z1 * (x2 * z2)) * (y1 * z1 * (y2 * z2)))
  let K:=(x1 * z1+y1 * z1) * (x2 * z2+y2 * z2) - x1 * z1 * (x2 * z2) - y1 * z1 * (y2 * z2)
  w * (L * K)=sx * (L * M)/\w * (M * (y1 * z1 * (y2 * z2)+x1 * z1 * (x2 * z2)))=sy * (L * M)/\L=w * w * D/\M=w * w * B:=by
 intro w L M K;have hL:L=w * w * D:=by show _= _;rw [hD];grind
 have hM:M=w * w * B:=by show _= _;rw [hB];grind
 have hK:K=w * A:=by show _= _;rw [hA];grind
 have hE:y1 * z1 * (y2 * z2)+x1 * z1 * (x2 * z2)=w * C:=by rw [hC];grind
 rw [hL,hM,hK,hE];clear hL hM hK hE hB hD hA hC L M K
 generalize w=v
 subst hsx;subst hsy;exact ⟨by grind,by grind,rfl,rfl⟩
theorem FE.add {X Y Z U V R D:Int} {p q:Ed C7} (hp:FE X Y Z p) (hq:FE U V R q) (hD:toF D=dE):FE (raX X Y Z U V R D) (raY X Y Z U V R D) (raZ X Y Z U V R D) (p.add q):=by
 obtain ⟨h0,h1,h2⟩:=hp;obtain ⟨k0,k1,k2⟩:=hq;obtain ⟨r1,r2,r3,r4⟩:=Sr (z1:=toF Z) (z2:=toF R) (d:=dE) rfl rfl rfl rfl (p.lU q) (p.jZ q);unfold FE raX raY raZ raL raM raC;simp only [dG,eY,lY,h1,h2,k1,k2,hD];refine ⟨?_,r1,r2⟩;rw [r3,r4];have hw:=aW h0 k0;exact aW (aW (aW hw hw) (p.gY q)) (aW (aW hw hw) (p.jE q))
theorem FE.zero:FE 0 1 1 .zero:=by
 refine ⟨?_,?_,?_⟩
 ·rw [dL];exact dN
 ·rw [jN,dL];show (0:Fp)=0 * 1;grind
 ·rw [dL];show (1:Fp)=1 * 1;grind
def UZ:Nat:=37095705934669439343138083508754565189542113879843219016388785533085940283555
theorem RB:toF (UZ:Int)=dE:=by
 have h:Cg ((UZ:Int) * 121666) (-121665):=by unfold Cg;decide+kernel
 have h2:=gV.2 h;rw [dG,oW] at h2;exact fH (jr.2 (by decide)) (h2.trans Ob.symm)
def nR (x y z u v r:Nat):Nat × Nat × Nat:=
 let w:=nM z r
 let c:=nM x u
 let e:=nM y v
 let ww:=nM w w
 let f:=nM UZ (nM c e)
 let l:=nS ww f
 let m:=nA ww f
 let k:=nS (nS (nM (nA x y) (nA u v)) c) e
 (nM w (nM l k),nM w (nM m (nA e c)),nM l m)
def sI (x y z:Nat) (p:Ed C7):Prop:=∃X Y Z,jy x X/\jy y Y/\jy z Z/\FE X Y Z p
theorem sI.add {x y z u v r:Nat} {p q:Ed C7} (hp:sI x y z p) (hq:sI u v r q):sI (nR x y z u v r).1 (nR x y z u v r).2.1 (nR x y z u v r).2.2 (p.add q):=by
 obtain ⟨X,Y,Z,hx,hy,hz,h1⟩:=hp;obtain ⟨U,V,R,hu,hv,hr,h2⟩:=hq;have hd:jy UZ UZ:=⟨by decide,rfl⟩
 have w:=hz.mul hr;have c:=hx.mul hu;have e:=hy.mul hv;have f:=hd.mul (c.mul e);have l:=(w.mul w).sub f;have m:=(w.mul w).add f;have k:=(((hx.add hy).mul (hu.add hv)).sub c).sub e;exact ⟨_,_,_,w.mul (l.mul k),w.mul (m.mul (e.add c)),l.mul m,h1.add h2 RB⟩
def bX:Nat:=15112221349535400772501151409588531511454012693041857206046113283949847762202
def bY:Nat:=46316835694926478169428394003475163141307993866256225615783033603165251855960
theorem sI.base:sI bX bY 1 Bp:=by
 refine ⟨BX,BY,1,⟨by decide,rfl⟩,⟨by decide,rfl⟩,⟨by decide,rfl⟩,?_,?_,?_⟩
 ·rw [dL];exact dN
 ·rw [dL];show toF BX=toF BX * 1;generalize toF BX=x;grind
 ·rw [dL];show toF BY=toF BY * 1;generalize toF BY=x;grind
def Ey (n:Nat):Nat->Nat->Nat->Nat->Nat × Nat × Nat
 | 0,x,y,z=> (x,y,z)
 | k+1,x,y,z=> if n / 2 ^ k % 2=1 then Ey n k (nR (nR x y z x y z).1 (nR x y z x y z).2.1 (nR x y z x y z).2.2 bX bY 1).1 (nR (nR x y z x y z).1 (nR x y z x y z).2.1 (nR x y z x y z).2.2 bX bY 1).2.1 (nR (nR x y z x y z).1 (nR x y z x y z).2.1 (nR x y z x y z).2.2 bX bY 1).2.2 else Ey n k (nR x y z x y z).1 (nR x y z x y z).2.1 (nR x y z x y z).2.2
theorem sI.ord {n:Nat}:∀(k x y z:Nat),sI x y z (Bp.mul (n / 2 ^ k))->sI (Ey n k x y z).1 (Ey n k x y z).2.1 (Ey n k x y z).2.2 (Bp.mul n)
 | 0,_,_,_,h=> by rw [Nat.pow_zero,Nat.div_one] at h;exact h
 | k+1,x,y,z,h=> by
  unfold Ey;have h2:=h.add h;rw [<-Ed.mul_add] at h2;have hq:n / 2 ^ (k+1)=n / 2 ^ k / 2:=by rw [Nat.pow_succ,Nat.div_div_eq_div_mul]
  by_cases hb:n / 2 ^ k % 2=1
  ·rw [if_pos hb];have h3:=h2.add sI.base;rw [show (Bp.mul (n / 2 ^ (k+1)+n / 2 ^ (k+1))).add Bp=Bp.mul (n / 2 ^ k) by
    rw [<-show Bp.mul (n / 2 ^ (k+1)+n / 2 ^ (k+1)+1)=(Bp.mul (n / 2 ^ (k+1)+n / 2 ^ (k+1))).add Bp from by rw [Ed.mul_add,Ed.mul_one],show n / 2 ^ (k+1)+n / 2 ^ (k+1)+1=n / 2 ^ k by omega]] at h3
   exact sI.ord k _ _ _ h3
  ·rw [if_neg hb];rw [show n / 2 ^ (k+1)+n / 2 ^ (k+1)=n / 2 ^ k by omega] at h2;exact sI.ord k _ _ _ h2
def qP:Nat:=2 ^ 252+27742317777372353535851937790883648493
theorem uL:(Ey qP 253 0 1 1).1=0/\(Ey qP 253 0 1 1).2.1=(Ey qP 253 0 1 1).2.2:=by decide+kernel
theorem sI.zero:sI 0 1 1 .zero:=⟨0,1,1,⟨by decide,rfl⟩,⟨by decide,rfl⟩,⟨by decide,rfl⟩,FE.zero⟩
theorem MJ:Bp.mul qP=.zero:=by
 have h:=sI.ord (n:=qP) 253 0 1 1 (by rw [show qP / 2 ^ 253=0 by decide];exact sI.zero);obtain ⟨X,Y,Z,hx,hy,hz,h0,h1,h2⟩:=h;rw [uL.1] at hx;rw [uL.2] at hy;have ex:toF X=0:=by rw [<-jN];exact gV.2 hx.2.symm
 have ey:toF Y=toF Z:=gV.2 (hy.2.symm.trans hz.2);rw [ex] at h1;rw [ey] at h2;refine Ed.ext ?_ ?_
 ·refine fH h0 ?_;rw [<-h1];show (0:Fp)=0 * toF Z;generalize toF Z=t;grind
 ·refine fH h0 ?_;rw [<-h2];show toF Z=1 * toF Z;generalize toF Z=t;grind
theorem Ia:qP=7237005577332262213973186563042994240857116359379907606001950938285454250989:=by decide
theorem JY:(1:Fp) - Bp.y≠0:=by
 have e:(1:Fp) - Bp.y=toF (1 - BY):=by rw [lY,dL];rfl
 rw [e];exact jr.2 (by decide+kernel)
theorem Wv:(1:Fp)+Bp.y≠0:=by
 have e:(1:Fp)+Bp.y=toF (1+BY):=by rw [eY,dL];rfl
 rw [e];exact jr.2 (by decide+kernel)
theorem Te:Cg (1 * 9 * (1 - BY)) (1+BY):=by unfold Cg;decide+kernel
theorem Zj:ni K1 Bp (toF 9):=by
 refine ⟨?_,JY,Wv⟩;have h:=gV.2 Te;simp only [dG,lY,eY,dL] at h;exact h
theorem Yy (a:Fp):a - a=0:=by grind
theorem aag:Bp≠.zero:=by
 intro e;have h:Bp.y=(1:Fp):=by rw [e];rfl
 exact JY (by rw [h];exact Yy 1)
theorem XD {p:Ed C7} {k L:Nat} (hf:k ^ (L - 1) % L=1) (hb:p.mul L=.zero) (hL:2<=L) (h:p.mul k=.zero):p=.zero:=by
 obtain ⟨m,rfl⟩:∃m,L=m+2:=⟨L - 2,by omega⟩
 rw [show m+2 - 1=m+1 by omega,Nat.pow_succ,Nat.mul_comm] at hf;obtain ⟨E,hE⟩:∃E,E=k * k ^ m:=⟨_,rfl⟩
 rw [<-hE] at hf;have h1:p.mul E=.zero:=by rw [hE,Ed.rJ,h];exact qU (K:=K1) _
 have e2:E=(m+2) * (E / (m+2))+1:=by
  have:=Nat.div_add_mod E (m+2);rw [hf] at this;exact this.symm
 have h2:(Ed.zero:Ed C7).mul (E / (m+2))=.zero:=qU (K:=K1) _;rw [e2,Ed.mul_add,Ed.rJ,hb,Ed.mul_one,h2,Ed.zero_add] at h1;exact h1
theorem QY {k:Nat} (hk:¬ qP ∣ k):Bp.mul k≠.zero:=by
 intro h;have hp:bM qP:=by rw [Ia];exact Ns
 have hf:=hp.EX hk;have hb:=MJ;have h2:=hp.1
 generalize qP=L at hf hb h2
 exact aag (XD hf hb h2 h)
theorem Vo (S:Int):∃m:Nat,dx S=(m:Int)/\m<2 ^ 255/\m % 8=0/\2 ^ 254<=m/\(m:Int) / 2 ^ 254 % 2=1:=by
 obtain ⟨m,hm,h1,_,h3⟩:=wM S;have e:dx S=8 * (S % 2 ^ 254 / 8+2 ^ 251):=by unfold dx;omega
 have h2:(m:Int)=8 * (S % 2 ^ 254 / 8+2 ^ 251):=by rw [<-hm,e]
 refine ⟨m,hm,h1,?_,?_,h3⟩
 ·omega
 ·have h4:0<=S % 2 ^ 254 / 8:=by omega
  omega
theorem Am {m:Nat} (h1:m<2 ^ 255) (h2:m % 8=0) (h3:2 ^ 254<=m):¬ qP ∣ m:=by
 rintro ⟨c,hc⟩;have hc8:c<8:=by
  rcases Nat.lt_or_ge c 8 with h | h
  ·exact h
  ·exfalso
   have h4:=Nat.mul_le_mul_left qP h;rw [<-hc] at h4;have h5:2 ^ 255<=qP * 8:=by decide
   exact Nat.lt_irrefl _ (tN h1 (qw h5 h4))
 subst hc;have key:∀c:Fin 8,qP * c.val % 8=0->¬ 2 ^ 254<=qP * c.val:=by decide
 exact key ⟨c,hc8⟩ h2 h3
theorem KL {m n:Nat} (m1:m<2 ^ 255) (m2:m % 8=0) (m3:2 ^ 254<=m) (m4:(m:Int) / 2 ^ 254 % 2=1) (n1:n<2 ^ 255) (n2:n % 8=0) (n3:2 ^ 254<=n):toF (iq m (iq n 9 % Pr))≠0:=by
 have h:=EI (K:=K1) rfl Bp Zj m n m1 n1 (by clear m1 m3 m4 n1 n2 n3;omega) m4;intro h9;rw [h9] at h;have hz:=Ii h.symm;have hz2:Bp.mul (n * m * 2)=.zero:=by
  rw [Ed.rJ];show ((Ed.mul (Bp.mul (n * m)) 1).add (Bp.mul (n * m)))= _;rw [Ed.mul_one];exact hz
 have hp:bM qP:=by rw [Ia];exact Ns
 have hn2:¬ qP ∣ 2:=by decide
 refine QY ?_ hz2;intro hd;rcases hp.dvd_mul hd with h1 | h1
 ·rcases hp.dvd_mul h1 with h2 | h2
  ·exact Am n1 n2 n3 h2
  ·exact Am m1 m2 m3 h2
 ·exact hn2 h1
theorem vR (S T:Int):iq (dx S) (iq (dx T) (9 % 2 ^ 255) % Pr % 2 ^ 255) % Pr≠0:=by
 obtain ⟨m,em,m1,m2,m3,m4⟩:=Vo S;obtain ⟨n,en,n1,n2,n3,n4⟩:=Vo T;have e9:(9:Int) % 2 ^ 255=9:=by decide
 rw [qX,e9,em,en];exact jr.1 (KL m1 m2 m3 m4 n1 n2 n3)
end Go.aQ
