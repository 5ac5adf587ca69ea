/-
  Part 48 of EscrowTake. Conditions: named in each theorem.
-/
import Derived.Test.YtpcjekgfnfjbpaaGreatPkEscrowTake47
import Derived.Test.YtpcjekgfnfjbpaaGreatPkEscrowTake18
set_option linter.unusedVariables false
set_option linter.unusedSimpArgs false
set_option maxRecDepth 100000
set_option maxHeartbeats 12800000
namespace Go.aZ
open Go.RowKit
def rQ (F:Nat->Int) (p:Ed C7):Prop:=∃f g h e X Y Z T,F=pt f g h e/\wH f g h e X Y Z T/\Ay X Y Z T p
theorem Ay.zero:Ay 0 1 1 (0 * 1) .zero:=by
 refine ⟨?_,?_,?_,?_⟩
 ·rw [dz];exact eu
 ·rw [iw,dz];show (0:Fp)=0 * 1;grind
 ·rw [dz];show (1:Fp)=1 * 1;grind
 ·rw [Int.zero_mul,iw,dz];show (0:Fp)=0 * 1 * 1;grind
theorem rQ.pick (b:Bool) {f g h e u v r s:Nat->Int} {X Y Z T U V W S:Int} {p q:Ed C7} (h1:wH f g h e X Y Z T) (h2:wH u v r s U V W S) (k1:Ay X Y Z T p) (k2:Ay U V W S q):rQ (pt (aS b f u) (aS b g v) (aS b h r) (aS b e s)) (if b then q else p):=by
 cases b
 ·exact ⟨f,g,h,e,X,Y,Z,T,rfl,h1,k1⟩
 ·exact ⟨u,v,r,s,U,V,W,S,rfl,h2,k2⟩
theorem SQ (p:Ed C7) (N:Nat) (b:Bool) (hb:b=(N % 2==1)) {F G:Nat->Int}
  (h7:rQ F (if b=true then (if b=true then p.mul (N / 2) else p.mul (N / 2+1)).add (if b=true then p.mul (N / 2+1) else p.mul (N / 2)) else (if b=true then p.mul (N / 2+1) else p.mul (N / 2)).add (if b=true then p.mul (N / 2+1) else p.mul (N / 2))))
  (h8:rQ G (if b=true then (if b=true then p.mul (N / 2+1) else p.mul (N / 2)).add (if b=true then p.mul (N / 2+1) else p.mul (N / 2)) else (if b=true then p.mul (N / 2) else p.mul (N / 2+1)).add (if b=true then p.mul (N / 2+1) else p.mul (N / 2)))):
  rQ F (p.mul N)/\rQ G (p.mul (N+1)):=by
 obtain ⟨M,hM⟩:∃M,M=N / 2:=⟨_,rfl⟩
 rw [<-hM] at h7 h8;cases b
 ·have hN:N=M+M:=by
   have:¬ N % 2=1:=by intro e;rw [e] at hb;exact absurd hb (by decide)
   omega
  have h7':rQ F ((p.mul M).add (p.mul M)):=h7;have h8':rQ G ((p.mul (M+1)).add (p.mul M)):=h8;rw [<-Ed.mul_add] at h7' h8';rw [hN,show M+M+1=M+1+M by omega];exact ⟨h7',h8'⟩
 ·have hN:N=M+(M+1):=by
   have:N % 2=1:=by have h:=hb.symm;rwa [beq_iff_eq] at h
   omega
  have h7':rQ F ((p.mul M).add (p.mul (M+1))):=h7;have h8':rQ G ((p.mul (M+1)).add (p.mul (M+1))):=h8;rw [<-Ed.mul_add] at h7' h8';rw [hN,show M+(M+1)+1=M+1+(M+1) by omega];exact ⟨h7',h8'⟩
def EJ (p:Ed C7):Int:=((p.x.val:Nat):Int)
def edY (p:Ed C7):Int:=((p.y.val:Nat):Int)
def mK (p:Ed C7):Int:=edY p+(EJ p % 2) * 2 ^ 255
theorem Uo (x:Fp):0<=((x.val:Nat):Int)/\((x.val:Nat):Int)<Pr:=by
 have:=x.isLt;rw [mM];omega
theorem Gs {Y Z:Int} {y:Fp} (h0:toF Z≠0) (h:toF Y=y * toF Z):Y * Z ^ (PN - 2) % Pr=((y.val:Nat):Int):=by
 rw [<-ig];have e:toF (Y * Z ^ (PN - 2))=y:=by
  rw [dx,tV,h];have:=inv_mul h0
  generalize toF Z=z at *
  generalize inv z=i at *
  grind
 rw [e]
theorem Vq (Y:Int) (h0:0<=Y) (h1:Y<2 ^ 255):∀i,i<32->upd (dg 256 Y) 31 (dg 256 Y 31+128) i=dg 256 (Y+1 * 2 ^ 255) i:=by
 have key:∀i:Fin 32,upd (dg 256 Y) 31 (dg 256 Y 31+128) i.val=dg 256 (Y+1 * 2 ^ 255) i.val:=by
  intro ⟨i,hi⟩;have e:∀j,dg 256 (Y+1 * 2 ^ 255) j=(Y+1 * 2 ^ 255) / 256 ^ j % 256:=fun _=> rfl;have e':∀j,dg 256 Y j=Y / 256 ^ j % 256:=fun _=> rfl;rcases i with _ | _ | _ | _ | _ | _ | _ | _ | _ | _ | _ | _ | _ | _ | _ | _ | _ | _ | _ | _ | _ | _ | _ | _ | _ | _ | _ | _ | _ | _ | _ | _ | i
  all_goals first
   | omega
   | (simp only [upd,e,e'];simp;omega)
 exact fun i h=> key ⟨i,h⟩
theorem NW (Y:Int) (h0:0<=Y) (h1:Y<2 ^ 255):0<=dg 256 Y 31/\dg 256 Y 31<128:=by
 show 0<=Y / 256 ^ 31 % 256/\Y / 256 ^ 31 % 256<128;omega
theorem aaW (x:Int) (h0:0<=x) (h1:x<128):bits .or .u8 x 128=x+128:=by
 obtain ⟨n,rfl⟩:=Db h0;have key:∀n:Fin 128,bits .or .u8 ((n.val:Nat):Int) 128=(n.val:Int)+128:=by decide+kernel
 exact key ⟨n,by omega⟩
end Go.aZ
namespace Go.aZ
theorem wp_assign {P:Program} {o:Oper} {a:Act} {w:World} {K:Act->World->Prop} {Q:Exit->Act->World->Prop} (x:Operand) (d:Nat) (hop:o.op=.assign x) (hd:o.dst=some d) (h:K (a.put (some d) (a.eval x)) w):o.wp P a w K Q:=by
 rw [<-hd] at h;unfold Oper.wp execOp;simp only [hop];exact h
end Go.aZ
namespace Go.aZ
open Go.RowKit
theorem acM (p:Ed C7):p.x ^ 2 * (1+dE * p.y ^ 2)=p.y ^ 2 - 1:=by
 have ho:p.y ^ 2 - p.x ^ 2=1+dE * p.x ^ 2 * p.y ^ 2:=p.on
 generalize p.x=x at *
 generalize p.y=y at *
 generalize dE=d at *
 grind
theorem LD (p:Ed C7):1+dE * p.y ^ 2≠0:=by
 intro h;have ho:p.y ^ 2 - p.x ^ 2=1+dE * p.x ^ 2 * p.y ^ 2:=p.on;have hd:dE= -1:=by
  generalize p.x=x at *
  generalize p.y=y at *
  generalize dE=d at *
  grind
 exact ZJ iE (by rw [Nh,hd])
theorem agb {x y d i:Fp} (h:x ^ 2 * (1+d * y ^ 2)=y ^ 2 - 1) (hi:(d * (y * y)+1) * i=1):x * x=(y * y - 1) * i:=by grind
theorem ZI (p:Ed C7):toF (EJ p)=p.x:=Dp _
def BX:Int:=15112221349535400772501151409588531511454012693041857206046113283949847762202
def BY:Int:=46316835694926478169428394003475163141307993866256225615783033603165251855960
theorem VH:Cg (121666 * (BY * BY - BX * BX - 1)) (-121665 * (BX * BX * (BY * BY))):=by unfold Cg BX BY;decide+kernel
theorem OL {x y d a b:Fp} (hd:d * b= -a) (hb:b≠0) (h:b * (y * y - x * x - 1)= -a * (x * x * (y * y))):y ^ 2 - x ^ 2=1+d * x ^ 2 * y ^ 2:=by
 refine fZ hb ?_
 grind
noncomputable def Bp:Ed C7:=⟨toF BX,toF BY,OL Nz (iL.2 (by decide)) (by
 have h:=fQ.2 VH;simp only [dx,jK,mY,dz] at h;exact h)⟩
theorem alo:EJ Bp=BX:=by unfold EJ Bp;rw [ig];decide+kernel
theorem Pv:Cg (BY * 5) 4:=by unfold Cg BY;decide+kernel
end Go.aZ
namespace Go.aZ
def Fb (X Y Z:Int) (p:Ed C7):Prop:=toF Z≠0/\toF X=p.x * toF Z/\toF Y=p.y * toF Z
theorem RY {x1 y1 z1 x2 y2 z2 d sx sy A B C D:Fp} (hB:B=1+d * (x1 * x2 * (y1 * y2))) (hD:D=1 - d * (x1 * x2 * (y1 * y2))) (hA:A=x1 * y2+x2 * y1) (hC:C=y1 * y2+x1 * x2) (hsx:sx * B=A) (hsy:sy * D=C):
  let w:=z1 * z2
  let L:=w * w - d * ((x1 * z1 * (x2 * z2)) * (y1 * z1 * (y2 * z2)))
  let M:=w * w+d * ((x1 * z1 * (x2 * z2)) * (y1 * z1 * (y2 * z2)))
  let K:=(x1 * z1+y1 * z1) * (x2 * z2+y2 * z2) - x1 * z1 * (x2 * z2) - y1 * z1 * (y2 * z2)
  w * (L * K)=sx * (L * M)/\w * (M * (y1 * z1 * (y2 * z2)+x1 * z1 * (x2 * z2)))=sy * (L * M)/\L=w * w * D/\M=w * w * B:=by
 intro w L M K;have hL:L=w * w * D:=by show _= _;rw [hD];grind
 have hM:M=w * w * B:=by show _= _;rw [hB];grind
 have hK:K=w * A:=by show _= _;rw [hA];grind
 have hE:y1 * z1 * (y2 * z2)+x1 * z1 * (x2 * z2)=w * C:=by rw [hC];grind
 rw [hL,hM,hK,hE];clear hL hM hK hE hB hD hA hC L M K
 generalize w=v
 subst hsx;subst hsy;exact ⟨by grind,by grind,rfl,rfl⟩
theorem Fb.add {X Y Z U V R D:Int} {p q:Ed C7} (hp:Fb X Y Z p) (hq:Fb U V R q) (hD:toF D=dE):Fb (raX X Y Z U V R D) (raY X Y Z U V R D) (raZ X Y Z U V R D) (p.add q):=by
 obtain ⟨h0,h1,h2⟩:=hp;obtain ⟨k0,k1,k2⟩:=hq;obtain ⟨r1,r2,r3,r4⟩:=RY (z1:=toF Z) (z2:=toF R) (d:=dE) rfl rfl rfl rfl (p.lq q) (p.jF q);unfold Fb raX raY raZ raL raM raC;simp only [dx,eY,jK,h1,h2,k1,k2,hD];refine ⟨?_,r1,r2⟩;rw [r3,r4];have hw:=aV h0 k0;exact aV (aV (aV hw hw) (p.gL q)) (aV (aV hw hw) (p.jg q))
theorem Fb.zero:Fb 0 1 1 .zero:=by
 refine ⟨?_,?_,?_⟩
 ·rw [dz];exact eu
 ·rw [iw,dz];show (0:Fp)=0 * 1;grind
 ·rw [dz];show (1:Fp)=1 * 1;grind
end Go.aZ
namespace Go.aZ
open Go.RowKit
section
variable {P : Program} {ops : Array Oper} {Q : Exit -> Act -> World -> Prop}
end
def YL (v:Value) (p:Ed C7):Prop:=∃F,v=.agg (arr .i64 64 F)/\rQ F p
theorem YL.keep {E:Prop} {v:Value} {p:Ed C7} (h:YL v p) (_:E):YL v p:=h
end Go.aZ
namespace Go.aZ
def UU:Nat:=37095705934669439343138083508754565189542113879843219016388785533085940283555
theorem Rl:toF (UU:Int)=dE:=by
 have h:Cg ((UU:Int) * 121666) (-121665):=by unfold Cg;decide+kernel
 have h2:=fQ.2 h;rw [dx,mY] at h2;exact fZ (iL.2 (by decide)) (h2.trans Nz.symm)
def nR (x y z u v r:Nat):Nat × Nat × Nat:=
 let w:=nM z r
 let c:=nM x u
 let e:=nM y v
 let ww:=nM w w
 let f:=nM UU (nM c e)
 let l:=nS ww f
 let m:=nA ww f
 let k:=nS (nS (nM (nA x y) (nA u v)) c) e
 (nM w (nM l k),nM w (nM m (nA e c)),nM l m)
def rP (x y z:Nat) (p:Ed C7):Prop:=∃X Y Z,jr x X/\jr y Y/\jr z Z/\Fb X Y Z p
theorem rP.add {x y z u v r:Nat} {p q:Ed C7} (hp:rP x y z p) (hq:rP u v r q):rP (nR x y z u v r).1 (nR x y z u v r).2.1 (nR x y z u v r).2.2 (p.add q):=by
 obtain ⟨X,Y,Z,hx,hy,hz,h1⟩:=hp;obtain ⟨U,V,R,hu,hv,hr,h2⟩:=hq;have hd:jr UU UU:=⟨by decide,rfl⟩
 have w:=hz.mul hr;have c:=hx.mul hu;have e:=hy.mul hv;have f:=hd.mul (c.mul e);have l:=(w.mul w).sub f;have m:=(w.mul w).add f;have k:=(((hx.add hy).mul (hu.add hv)).sub c).sub e;exact ⟨_,_,_,w.mul (l.mul k),w.mul (m.mul (e.add c)),l.mul m,h1.add h2 Rl⟩
def bX:Nat:=15112221349535400772501151409588531511454012693041857206046113283949847762202
def bY:Nat:=46316835694926478169428394003475163141307993866256225615783033603165251855960
theorem rP.base:rP bX bY 1 Bp:=by
 refine ⟨BX,BY,1,⟨by decide,rfl⟩,⟨by decide,rfl⟩,⟨by decide,rfl⟩,?_,?_,?_⟩
 ·rw [dz];exact eu
 ·rw [dz];show toF BX=toF BX * 1;generalize toF BX=x;grind
 ·rw [dz];show toF BY=toF BY * 1;generalize toF BY=x;grind
def Ei (n:Nat):Nat->Nat->Nat->Nat->Nat × Nat × Nat
 | 0,x,y,z=> (x,y,z)
 | k+1,x,y,z=> if n / 2 ^ k % 2=1 then Ei n k (nR (nR x y z x y z).1 (nR x y z x y z).2.1 (nR x y z x y z).2.2 bX bY 1).1 (nR (nR x y z x y z).1 (nR x y z x y z).2.1 (nR x y z x y z).2.2 bX bY 1).2.1 (nR (nR x y z x y z).1 (nR x y z x y z).2.1 (nR x y z x y z).2.2 bX bY 1).2.2 else Ei n k (nR x y z x y z).1 (nR x y z x y z).2.1 (nR x y z x y z).2.2
theorem rP.ord {n:Nat}:∀(k x y z:Nat),rP x y z (Bp.mul (n / 2 ^ k))->rP (Ei n k x y z).1 (Ei n k x y z).2.1 (Ei n k x y z).2.2 (Bp.mul n)
 | 0,_,_,_,h=> by rw [Nat.pow_zero,Nat.div_one] at h;exact h
 | k+1,x,y,z,h=> by
  unfold Ei;have h2:=h.add h;rw [<-Ed.mul_add] at h2;have hq:n / 2 ^ (k+1)=n / 2 ^ k / 2:=by rw [Nat.pow_succ,Nat.div_div_eq_div_mul]
  by_cases hb:n / 2 ^ k % 2=1
  ·rw [if_pos hb];have h3:=h2.add rP.base;rw [show (Bp.mul (n / 2 ^ (k+1)+n / 2 ^ (k+1))).add Bp=Bp.mul (n / 2 ^ k) by
    rw [<-show Bp.mul (n / 2 ^ (k+1)+n / 2 ^ (k+1)+1)=(Bp.mul (n / 2 ^ (k+1)+n / 2 ^ (k+1))).add Bp from by rw [Ed.mul_add,Ed.mul_one],show n / 2 ^ (k+1)+n / 2 ^ (k+1)+1=n / 2 ^ k by omega]] at h3
   exact rP.ord k _ _ _ h3
  ·rw [if_neg hb];rw [show n / 2 ^ (k+1)+n / 2 ^ (k+1)=n / 2 ^ k by omega] at h2;exact rP.ord k _ _ _ h2
def qj:Nat:=2 ^ 252+27742317777372353535851937790883648493
theorem uG:(Ei qj 253 0 1 1).1=0/\(Ei qj 253 0 1 1).2.1=(Ei qj 253 0 1 1).2.2:=by decide+kernel
theorem rP.zero:rP 0 1 1 .zero:=⟨0,1,1,⟨by decide,rfl⟩,⟨by decide,rfl⟩,⟨by decide,rfl⟩,Fb.zero⟩
theorem LY:Bp.mul qj=.zero:=by
 have h:=rP.ord (n:=qj) 253 0 1 1 (by rw [show qj / 2 ^ 253=0 by decide];exact rP.zero);obtain ⟨X,Y,Z,hx,hy,hz,h0,h1,h2⟩:=h;rw [uG.1] at hx;rw [uG.2] at hy;have ex:toF X=0:=by rw [<-iw];exact fQ.2 hx.2.symm
 have ey:toF Y=toF Z:=fQ.2 (hy.2.symm.trans hz.2);rw [ex] at h1;rw [ey] at h2;refine Ed.ext ?_ ?_
 ·refine fZ h0 ?_;rw [<-h1];show (0:Fp)=0 * toF Z;generalize toF Z=t;grind
 ·refine fZ h0 ?_;rw [<-h2];show toF Z=1 * toF Z;generalize toF Z=t;grind
theorem GV:qj=7237005577332262213973186563042994240857116359379907606001950938285454250989:=by decide
theorem JC:(1:Fp) - Bp.y≠0:=by
 have e:(1:Fp) - Bp.y=toF (1 - BY):=by rw [jK,dz];rfl
 rw [e];exact iL.2 (by decide+kernel)
theorem Wo:(1:Fp)+Bp.y≠0:=by
 have e:(1:Fp)+Bp.y=toF (1+BY):=by rw [eY,dz];rfl
 rw [e];exact iL.2 (by decide+kernel)
theorem SK:Cg (1 * 9 * (1 - BY)) (1+BY):=by unfold Cg;decide+kernel
theorem Zc:mO K1 Bp (toF 9):=by
 refine ⟨?_,JC,Wo⟩;have h:=fQ.2 SK;simp only [dx,jK,eY,dz] at h;exact h
theorem Ym (a:Fp):a - a=0:=by grind
theorem aae:Bp≠.zero:=by
 intro e;have h:Bp.y=(1:Fp):=by rw [e];rfl
 exact JC (by rw [h];exact Ym 1)
theorem Xx {p:Ed C7} {k L:Nat} (hf:k ^ (L - 1) % L=1) (hb:p.mul L=.zero) (hL:2<=L) (h:p.mul k=.zero):p=.zero:=by
 obtain ⟨m,rfl⟩:∃m,L=m+2:=⟨L - 2,by omega⟩
 rw [show m+2 - 1=m+1 by omega,Nat.pow_succ,Nat.mul_comm] at hf;obtain ⟨E,hE⟩:∃E,E=k * k ^ m:=⟨_,rfl⟩
 rw [<-hE] at hf;have h1:p.mul E=.zero:=by rw [hE,Ed.qZ,h];exact qw (K:=K1) _
 have e2:E=(m+2) * (E / (m+2))+1:=by
  have:=Nat.div_add_mod E (m+2);rw [hf] at this;exact this.symm
 have h2:(Ed.zero:Ed C7).mul (E / (m+2))=.zero:=qw (K:=K1) _;rw [e2,Ed.mul_add,Ed.qZ,hb,Ed.mul_one,h2,Ed.zero_add] at h1;exact h1
theorem QC {k:Nat} (hk:¬ qj ∣ k):Bp.mul k≠.zero:=by
 intro h;have hp:bW qj:=by rw [GV];exact MP
 have hf:=hp.ED hk;have hb:=LY;have h2:=hp.1
 generalize qj=L at hf hb h2
 exact aae (Xx hf hb h2 h)
theorem Vl (S:Int):∃m:Nat,dP S=(m:Int)/\m<2 ^ 255/\m % 8=0/\2 ^ 254<=m/\(m:Int) / 2 ^ 254 % 2=1:=by
 obtain ⟨m,hm,h1,_,h3⟩:=wD S;have e:dP S=8 * (S % 2 ^ 254 / 8+2 ^ 251):=by unfold dP;omega
 have h2:(m:Int)=8 * (S % 2 ^ 254 / 8+2 ^ 251):=by rw [<-hm,e]
 refine ⟨m,hm,h1,?_,?_,h3⟩
 ·omega
 ·have h4:0<=S % 2 ^ 254 / 8:=by omega
  omega
theorem Aa {m:Nat} (h1:m<2 ^ 255) (h2:m % 8=0) (h3:2 ^ 254<=m):¬ qj ∣ m:=by
 rintro ⟨c,hc⟩;have hc8:c<8:=by
  rcases Nat.lt_or_ge c 8 with h | h
  ·exact h
  ·exfalso
   have h4:=Nat.mul_le_mul_left qj h;rw [<-hc] at h4;have h5:2 ^ 255<=qj * 8:=by decide
   exact Nat.lt_irrefl _ (pJ h1 (gQ h5 h4))
 subst hc;have key:∀c:Fin 8,qj * c.val % 8=0->¬ 2 ^ 254<=qj * c.val:=by decide
 exact key ⟨c,hc8⟩ h2 h3
theorem Kj {m n:Nat} (m1:m<2 ^ 255) (m2:m % 8=0) (m3:2 ^ 254<=m) (m4:(m:Int) / 2 ^ 254 % 2=1) (n1:n<2 ^ 255) (n2:n % 8=0) (n3:2 ^ 254<=n):toF (iH m (iH n 9 % Pr))≠0:=by
 have h:=Er (K:=K1) rfl Bp Zc m n m1 n1 (by clear m1 m3 m4 n1 n2 n3;omega) m4;intro h9;rw [h9] at h;have hz:=Ho h.symm;have hz2:Bp.mul (n * m * 2)=.zero:=by
  rw [Ed.qZ];show ((Ed.mul (Bp.mul (n * m)) 1).add (Bp.mul (n * m)))= _;rw [Ed.mul_one];exact hz
 have hp:bW qj:=by rw [GV];exact MP
 have hn2:¬ qj ∣ 2:=by decide
 refine QC ?_ hz2;intro hd;rcases hp.dvd_mul hd with h1 | h1
 ·rcases hp.dvd_mul h1 with h2 | h2
  ·exact Aa n1 n2 n3 h2
  ·exact Aa m1 m2 m3 h2
 ·exact hn2 h1
theorem Oi (S T:Int):iH (dP S) (iH (dP T) (9 % 2 ^ 255) % Pr % 2 ^ 255) % Pr≠0:=by
 obtain ⟨m,em,m1,m2,m3,m4⟩:=Vl S;obtain ⟨n,en,n1,n2,n3,n4⟩:=Vl T;have e9:(9:Int) % 2 ^ 255=9:=by decide
 rw [qy,e9,em,en];exact iL.1 (Kj m1 m2 m3 m4 n1 n2 n3)
end Go.aZ
namespace Go.Proofs.YtpcjekgfnfjbpaaGreat
open Go.RowKit Go.aZ Go.ChangeShapes
attribute [local go_sem ↓] Go.wp_at_zero Go.wp_at_succ
abbrev Jw (F:Nat->Int):Value:=.agg (arr .i64 64 F)
theorem MQ {A B:Nat->Int} {p q:Ed C7} (hA:rQ A p) (hB:rQ B q):∃F,rQ F (p.add q)/\∀w,Calls Tryz.prog 221 #[Jw A,Jw B,El ddF] w fun e w'=> e=.returned (Jw F)/\Below w.heap.size w w':=by
 obtain ⟨f,g,h,e,X,Y,Z,T,rfl,h1,h2⟩:=hA;obtain ⟨u,v,r,s,U,V,W,S,rfl,k1,k2⟩:=hB;exact ⟨_,⟨_,_,_,_,_,_,_,_,rfl,wH.sum h1 k1 ZF,h2.sum k2 aay⟩,fun w=> OD f g h e u v r s ddF X Y Z T U V W S _ h1 k1 ZF w⟩
theorem GR (b:Bool) {A B:Nat->Int} {p q:Ed C7} (hA:rQ A p) (hB:rQ B q):∃F G,rQ F (if b then q else p)/\rQ G (if b then p else q)/\∀w,Calls Tryz.prog 220 #[Jw A,Jw B,.bool b] w fun e w'=> e=.returned (.tuple #[Jw F,Jw G])/\Below w.heap.size w w':=by
 obtain ⟨f,g,h,e,X,Y,Z,T,rfl,h1,h2⟩:=hA;obtain ⟨u,v,r,s,U,V,W,S,rfl,k1,k2⟩:=hB;exact ⟨_,_,rQ.pick b h1 k1 h2 k2,rQ.pick b k1 h1 k2 h2,fun w=> Bq b f g h e u v r s X Y Z T U V W S h1 k1 w⟩
theorem KD:∃F,rQ F .zero/\∀w,Calls Tryz.prog 219 #[] w fun e w'=> e=.returned (Jw F)/\Below w.heap.size w w':=
 ⟨_,⟨_,_,_,_,_,_,_,_,rfl,⟨Ns,pI,pI,Ns.aM pI⟩,Ay.zero⟩,fun w=> Eb w⟩
theorem Xu {A:Nat->Int} {p:Ed C7} (hp:rQ A p) (n:Nat) (hn:n<2 ^ 256) (w:World):
  Calls Tryz.prog 158 #[Jw A,.agg (arr .u8 32 (dg 256 (n:Int)))] w fun e w'=> ∃F,e=.returned (Jw F)/\rQ F (p.mul n)/\Below w.heap.size w w':=by
 have AB:=ak hp;obtain ⟨f,g,h,e,X,Y,Z,T,hA0,h1,h2⟩:=hp;have HP:=ak h1;have HZ0:Hid (¬ Z % Pr=0 % Pr):=fun e=> h2.1 (by rw [<-iw];exact fQ.2 e);have HA0:=ak hA0;obtain ⟨FN,hFN,hNO⟩:=KD;have HN0:=ak hNO;have HFN:=ak hFN;obtain ⟨N,hN⟩:∃N,N=(n:Int):=⟨_,rfl⟩
 have Mi:=ak hN;rw [<-hN];have aoj:=ak hn;have HM0:Hid (p.mul (n / 2 ^ (256 - 0))=.zero):=by
  unfold Hid;rw [Nat.sub_zero,Nat.div_eq_of_lt hn];rfl
 have HM1:Hid (p.mul (n / 2 ^ (256 - 0)+1)=p):=by
  unfold Hid;rw [Nat.sub_zero,Nat.div_eq_of_lt hn];exact p.mul_one
 obtain ⟨dd,hdd⟩:∃x,x=ddF:=⟨_,rfl⟩
 have HDD:=ak hdd;have alk:Hid (∀w,Calls Tryz.prog 218 #[.agg (arr .i64 16 jq),.agg (arr .i64 16 jq)] w fun e w'=> e=.returned (.agg (arr .i64 16 dd))/\Below w.heap.size w w'):=fun w=> by rw [hdd];exact gq _ _ _ _ jS jS w
 clear h1 h2 hA0 hNO hFN hN hdd hn
 go_enter Tryz.func158,Tryz.ntmps158
 go_upto_region 1 with (fail)
 refine aD (fun w1=> aF .i64 w1 w.heap.size 64 A/\aF .u8 w1 (w.heap.size+1) 32 (dg 256 N)/\aF .i64 w1 (w.heap.size+2) 64 (fun _=> 0)/\Below w.heap.size w w1)
  ⟨.alloc (.alloc (bM rfl rfl) _) _,.alloc (bM (by first | omega | (simp<;> omega)) rfl) _,bM (by first | omega | (simp<;> omega)) (by rfl),(((bN _ _).alloc (bA _) _).alloc (by first | omega | (simp<;> omega)) _).alloc (by first | omega | (simp<;> omega)) _⟩ ?_
 rintro w1 ⟨hA,hNb,hZ,hbel⟩;have hAp:=hA;rw [HA0.out] at hAp
 refine aT (n:=59) (by kernel_rfl) (by kernel_rfl) (by kernel_rfl) rfl
  (fun ii vv _=> (match ii with | 0=> vv=.pointer (some ⟨w.heap.size,32,none⟩) | 1=> vv=.agg (arr .i64 16 (h)) | 2=> vv=.agg (arr .i64 16 (aN 0)) | 3=> vv=.bool false | _=> True))
  (fun w w'=> Below w.heap.size w w') (fun _ _ h=> h) (fun _ _ _ _ h _=> h) ?_ ?_
 ·refine cO ?_;refine ⟨?_,?_,?_,?_,trivial⟩
  ·intro a w2 hB hF hd;refine aH <| aP (aW (m:=15) (k:=32) rfl (hF.same 2 rfl) (by kernel_rfl)) ?_;exact rfl
  ·intro a w2 hB hF hd;exact aH <| aP (bH rfl (hd 0 _ rfl (aj rfl)) bZ rfl bC (fun i hi=> (hB.cell (p:=⟨w.heap.size,32+i,none⟩) hAp.lt).trans (Oy hAp i hi))) rfl
  ·intro a w2 hB hF hd;refine aH <| aC _ _ _ rfl Tryz.call200 _ (args1 rfl) (by simp) ((dW 0 w2).mono ?_);rintro e w3 ⟨rfl,hb⟩;exact ⟨_,rfl,rfl,hb⟩
  ·intro a w2 hB hF hd;refine aH <| aC _ _ _ rfl Tryz.call210 _ (args2 (hd 1 _ rfl (aj rfl)) (hd 2 _ rfl (aj rfl))) (by simp) ((zR _ _ _ _ HP.out.2.2.1 Ns HZ0.out w2).mono ?_);rintro e w3 ⟨rfl,hb⟩;exact ⟨_,rfl,rfl,hb⟩
 ·intro a w2 hB hF hS;have ha:=aI rfl rfl hF [_,_,_,_] rfl ⟨hS 0 _ rfl,hS 1 _ rfl,hS 2 _ rfl,hS 3 _ rfl,trivial⟩;simp only [puts,Act.put,dQ,dR,dS] at ha;subst ha;clear hS hF;replace hA:=hA.kept hB;replace hNb:=hNb.kept hB;replace hZ:=hZ.kept hB;replace hbel:=hbel.trans (hB.mono hbel.size);clear hB hAp;go_upto_region 3 with (fail)
  refine bB (n:=59) (by kernel_rfl) (by kernel_rfl) (by kernel_rfl) rfl
   (jh [(2,1)]) (fJ [(2,1)]) (fun _=> arr .i64 16 (fun _=> 0)) (fun _=> (arr .i64 16 (jq))) (fun _=> 191) (fun _=> 5)
   (fun ii vv _=> (match ii with | 0=> vv=.agg (arr .i64 16 (jq)) | _=> True)) (fun _ _=> True) (fun _ _ _=> trivial) (fun _ _ _ _ _ _ _=> trivial) (fun _ _ _ _ h _=> h)
   (gF rfl) (eG rfl) ?_ ?_ ?_ ?_
  ·refine cO ?_;refine ⟨?_,(fun h=> by cases h),(fun _ h=> by cases h),trivial⟩
   ·intro _ _ a w2 hB hF hd;refine aH <| aC _ _ _ rfl Tryz.call217 _ xH (by simp) ((wW w2).mono ?_);rintro e w3 ⟨rfl,hb⟩;exact ⟨_,rfl,rfl,hb⟩
  ·refine cO ?_;refine ⟨(fun h=> by cases h),?_,(fun h=> by cases h),trivial⟩
   ·exact fun _=> ⟨rfl,rfl,fun a w2 K h=> aU rfl rfl Tryz.zeroValue191 (by simp) h⟩
  ·refine cO ?_;refine ⟨(fun _ h=> by cases h),(fun _ h=> by cases h),?_,trivial⟩
   ·intro p hp;obtain rfl:1=p:=fO hp;exact ⟨rfl,rfl,⟨_,rfl⟩,aj rfl,fun a w2 b K hB hF hd hx hb h=> bD rfl rfl bC hx (hd 0 _ rfl rfl rfl (aj rfl)) hb h⟩
  ·intro a w3 blk hB hF hS hv hfin dD;obtain ⟨v1,v1l,v1u⟩:=hv 1 _ rfl rfl;have ha:=aI rfl rfl hF [_,_,undef] rfl ⟨hS 0 _ rfl rfl rfl,v1,trivial,trivial⟩;have f1:=hfin 2 _ 1 rfl rfl;simp only [puts,Act.put,dQ,dR,dS] at ha;subst ha;have V1:aF .i64 w3 (blk 1) 16 (jq):=⟨_,f1⟩
   clear hS hv hfin dD hF v1 f1;replace hA:=hA.kept hB;replace hNb:=hNb.kept hB;replace hZ:=hZ.kept hB;replace hbel:=hbel.trans (hB.mono hbel.size);obtain ⟨x5,e5⟩:∃x,x=blk 1:=⟨_,rfl⟩
   rw [<-e5] at V1 ⊢;have h5:=V1;clear V1 hB e5 v1l v1u;go_upto_region 4 with (fail)
   refine bB (n:=59) (by kernel_rfl) (by kernel_rfl) (by kernel_rfl) rfl
    (jh [(4,3)]) (fJ [(4,3)]) (fun _=> arr .i64 16 (fun _=> 0)) (fun _=> (arr .i64 16 (dd))) (fun _=> 191) (fun _=> 6)
    (fun ii vv _=> (match ii with | 0 | 1=> vv=.agg (arr .i64 16 (jq)) | 2=> vv=.agg (arr .i64 16 (dd)) | _=> True)) (fun _ _=> True) (fun _ _ _=> trivial) (fun _ _ _ _ _ _ _=> trivial) (fun _ _ _ _ h _=> h)
    (gF rfl) (eG rfl) ?_ ?_ ?_ ?_
   ·refine cO ?_;refine ⟨?_,?_,?_,(fun h=> by cases h),(fun _ h=> by cases h),trivial⟩
    ·intro _ _ a w2 hB hF hd;exact aH <| aP (aB rfl bZ rfl bC (hF.same 5 rfl) (h5.below hB h5.lt)) rfl
    ·intro _ _ a w2 hB hF hd;exact aH <| aP (aB rfl bZ rfl bC (hF.same 5 rfl) (h5.below hB h5.lt)) rfl
    ·intro _ _ a w2 hB hF hd;refine aH <| aC _ _ _ rfl Tryz.call218 _ (args2 (hd 0 _ rfl rfl rfl (aj rfl)) (hd 1 _ rfl rfl rfl (aj rfl))) (by simp) ((alk.out w2).mono ?_);rintro e w3 ⟨rfl,hb⟩;exact ⟨_,rfl,rfl,hb⟩
   ·refine cO ?_;refine ⟨(fun h=> by cases h),(fun h=> by cases h),(fun h=> by cases h),?_,(fun h=> by cases h),trivial⟩
    ·exact fun _=> ⟨rfl,rfl,fun a w2 K h=> aU rfl rfl Tryz.zeroValue191 (by simp) h⟩
   ·refine cO ?_;refine ⟨(fun _ h=> by cases h),(fun _ h=> by cases h),(fun _ h=> by cases h),(fun _ h=> by cases h),?_,trivial⟩
    ·intro p hp;obtain rfl:3=p:=fO hp;exact ⟨rfl,rfl,⟨_,rfl⟩,aj rfl,fun a w2 b K hB hF hd hx hb h=> bD rfl rfl bC hx (hd 2 _ rfl rfl rfl (aj rfl)) hb h⟩
   ·intro a w4 blk hB hF hS hv hfin dD;obtain ⟨v3,Dn,NU⟩:=hv 3 _ rfl rfl;have ha:=aI rfl rfl hF [_,_,_,_,undef] rfl ⟨hS 0 _ rfl rfl rfl,hS 1 _ rfl rfl rfl,hS 2 _ rfl rfl rfl,v3,trivial,trivial⟩;have f3:=hfin 4 _ 3 rfl rfl;simp only [puts,Act.put,dQ,dR,dS] at ha;subst ha;have V3:aF .i64 w4 (blk 3) 16 (dd):=⟨_,f3⟩
    clear hS hv hfin dD hF v3 f3;have hz4:=hZ.lt;replace hA:=hA.kept hB;replace hNb:=hNb.kept hB;replace hZ:=hZ.kept hB;replace hbel:=hbel.trans (hB.mono hbel.size);obtain ⟨x6,e6⟩:∃x,x=blk 3:=⟨_,rfl⟩
    rw [<-e6] at V3 Dn ⊢;have h6:=V3;have l6:w.heap.size+2<x6:=by omega
    clear V3 hB e6 Dn NU h5 hz4;go_upto_region 5 with (fail)
    refine bB (n:=59) (by kernel_rfl) (by kernel_rfl) (by kernel_rfl) rfl
     (jh [(4,2),(5,3)]) (fJ [(4,2),(5,3)]) (fun _=> arr .i64 64 (fun _=> 0)) (fun i=> match i with | 2=> (arr .i64 64 (FN)) | 3=> (arr .i64 64 (A)) | _=> #[]) (fun _=> 193) (fun i=> match i with | 2=> 7 | 3=> 8 | _=> 0)
     (fun ii vv _=> (match ii with | 0=> vv=.agg (arr .i64 64 (FN)) | 1=> vv=.agg (arr .i64 64 (A)) | _=> True)) (fun _ _=> True) (fun _ _ _=> trivial) (fun _ _ _ _ _ _ _=> trivial) (fun _ _ _ _ h _=> h)
     (gF rfl) (eG rfl) ?_ ?_ ?_ ?_
    ·refine cO ?_;refine ⟨?_,?_,(fun h=> by cases h),(fun h=> by cases h),(fun _ h=> by cases h),(fun _ h=> by cases h),trivial⟩
     ·intro _ _ a w2 hB hF hd;refine aH <| aC _ _ _ rfl Tryz.call219 _ xH (by simp) ((HN0.out w2).mono ?_);rintro e w3 ⟨rfl,hb⟩;exact ⟨_,rfl,rfl,hb⟩
     ·intro _ _ a w2 hB hF hd;exact aH <| aP (aB rfl EZ rfl Tryz.size193 (hF.same 2 rfl) (hA.below hB hA.lt)) rfl
    ·refine cO ?_;refine ⟨(fun h=> by cases h),(fun h=> by cases h),?_,?_,(fun h=> by cases h),(fun h=> by cases h),trivial⟩
     ·exact fun _=> ⟨rfl,rfl,fun a w2 K h=> aU rfl rfl Tryz.zeroValue193 (by simp) h⟩
     ·exact fun _=> ⟨rfl,rfl,fun a w2 K h=> aU rfl rfl Tryz.zeroValue193 (by simp) h⟩
    ·refine cO ?_;refine ⟨(fun _ h=> by cases h),(fun _ h=> by cases h),(fun _ h=> by cases h),(fun _ h=> by cases h),?_,?_,trivial⟩
     ·intro p hp;obtain rfl:2=p:=fO hp;exact ⟨rfl,rfl,⟨_,rfl⟩,aj rfl,fun a w2 b K hB hF hd hx hb h=> bD rfl rfl Tryz.size193 hx (hd 0 _ rfl rfl rfl (aj rfl)) hb h⟩
     ·intro p hp;obtain rfl:3=p:=fO hp;exact ⟨rfl,rfl,⟨_,rfl⟩,aj rfl,fun a w2 b K hB hF hd hx hb h=> bD rfl rfl Tryz.size193 hx (hd 1 _ rfl rfl rfl (aj rfl)) hb h⟩
    ·intro a w5 blk hB hF hS hv hfin dD;obtain ⟨v2,v2l,v2u⟩:=hv 2 _ rfl rfl;obtain ⟨v3,Dn,NU⟩:=hv 3 _ rfl rfl;have ha:=aI rfl rfl hF [_,_,_,_,undef,undef] rfl ⟨hS 0 _ rfl rfl rfl,hS 1 _ rfl rfl rfl,v2,v3,trivial,trivial,trivial⟩;have f2:=hfin 4 _ 2 rfl rfl;have f3:=hfin 5 _ 3 rfl rfl;have IV:=dD 2 3 _ _ rfl rfl rfl rfl (by decide);simp only [puts,Act.put,dQ,dR,dS] at ha;subst ha;have V2:aF .i64 w5 (blk 2) 64 (FN):=⟨_,f2⟩
     have V3:aF .i64 w5 (blk 3) 64 (A):=⟨_,f3⟩
     clear hS hv hfin dD hF v2 v3 f2 f3;have hx6:=h6.lt;replace hNb:=hNb.kept hB;replace hZ:=hZ.kept hB;replace h6:=h6.kept hB;replace hbel:=hbel.trans (hB.mono hbel.size);obtain ⟨x7,e7⟩:∃x,x=blk 2:=⟨_,rfl⟩
     obtain ⟨x8,e8⟩:∃x,x=blk 3:=⟨_,rfl⟩
     rw [<-e7] at V2 v2l IV ⊢;rw [<-e8] at V3 Dn IV ⊢;have h7:=V2;have h8:=V3;have l7:x6<x7:=by omega
     have l8:x6<x8:=by omega
     have l78:x7≠x8:=IV;clear V2 V3 hB e7 e8 v2l v2u Dn NU IV hx6 hA;have F7:Hid (rQ FN (p.mul (n / 2 ^ (256 - 0)))):=by rw [HM0.out];exact HFN.out
     have F8:Hid (rQ A (p.mul (n / 2 ^ (256 - 0)+1))):=by rw [HM1.out];exact AB.out
     go_wp2
     go_loopw [9] (fun i wr=> ∃(k:Nat) (G H:Nat->Int),k<=256/\i=.int .i64 (255 - (k:Int))/\Hid (rQ G (p.mul (n / 2 ^ (256 - k))))/\Hid (rQ H (p.mul (n / 2 ^ (256 - k)+1)))/\(aF .i64 wr x7 64 G/\aF .i64 wr x8 64 H)/\(aF .i64 wr x6 16 dd/\aF .u8 wr (w.heap.size+1) 32 (dg 256 N)/\aF .i64 wr (w.heap.size+2) 64 (fun _=> 0))/\Below w.heap.size w wr) (fun i _=> (intOf i+1).toNat)
     case atStart=> exact ⟨0,_,_,iY _,rfl,F7,F8,⟨h7,h8⟩,⟨h6,hNb,hZ⟩,hbel⟩
     case round=>
      clear h7 h8 h6 hNb hZ hbel F7 F8;obtain ⟨k,G,H,hk,rfl,F7,F8,⟨h7,h8⟩,⟨h6,hNb,hZ⟩,hbel⟩:=hrel;obtain rfl | hlt:=(by omega:k=256\/k<256)
      ·have ei:(255:Int) - ((256:Nat):Int)= -1:=by decide
       rw [ei];clear ei;go_wp2_with (first | (refine aY rfl 193 _ rfl .i64 x7 64 G EZ rfl Tryz.size193 rfl h7 ?_) | (refine aG rfl 193 _ _ rfl .i64 (w.heap.size+2) 64 (fun _=> 0) G Tryz.size193 rfl rfl hZ ?_));have hR:rQ G (p.mul n):=by have h:=F7.out;rwa [Nat.sub_self,Nat.pow_zero,Nat.div_one] at h
       exact bodyPost_ret (dn rfl _ _ .i64 (w.heap.size+2) 64 _ rfl (hZ.setRow _ _) EZ rfl Tryz.size193) rfl ⟨_,rfl,hR,ay hbel (by omega) _⟩
      ·obtain ⟨m,hm⟩:∃m,m=255 - k:=⟨_,rfl⟩
       have ei:(255:Int) - (k:Int)=(m:Int):=by omega
       have HKM:Hid ((m:Int)=255 - (k:Int)):=ei.symm;have HKL:=ak hlt;have afv:m<=255:=by omega
       rw [ei];have hm9:m % 8<8:=Nat.mod_lt _ (by decide);have hq:IntKind.i64.wrap (Int.tdiv (m:Int) 8)=((m / 8:Nat):Int):=by rw [Int.tdiv_eq_ediv_of_nonneg (by omega),jC] <;> omega
       have hr:Int.tmod (m:Int) 8=((m % 8:Nat):Int):=by rw [Int.tmod_eq_emod_of_nonneg (by omega)];omega
       have hc:IntKind.u64.wrap ((m % 8:Nat):Int)=((m % 8:Nat):Int):=pR (by omega) (by omega);obtain ⟨d0,d1⟩:=bE (by decide:(0:Int)<256) N (m / 8);have hsh:=Af (x:=dg 256 N (m / 8)) (m % 8) hm9;have hand:bits .and .u8 (dg 256 N (m / 8) / 2 ^ (m % 8)) 1=N / 2 ^ m % 2:=by
        rw [uY (Int.ediv_nonneg d0 (Int.le_of_lt (gB (by decide) _))) (Int.lt_of_le_of_lt (Int.ediv_le_self _ d0) d1),LV N m]
       have hpl:((m / 8:Nat):Int).toNat=m / 8:=Jt _;have Zu:m / 8<32:=by omega
       have hce:=hNb.cell (m / 8) Zu;have hBl:=hNb.lt;obtain ⟨bb,hbb⟩:∃bb,bb=(N / 2 ^ m % 2==1):=⟨_,rfl⟩
       go_upto_region 9 with (fail)
       refine aT (n:=59) (by kernel_rfl) (by kernel_rfl) (by kernel_rfl) rfl
        (fun ii vv _=> (match ii with | 0 | 4=> vv=.int .i64 ((m:Int)) | 1=> vv=.int .i64 ((m / 8:Nat)) | 2=> vv=.pointer (some ⟨(w.heap.size+1),(m / 8),none⟩) | 3=> vv=.int .u8 (dg 256 N (m / 8)) | 5=> vv=.int .i64 ((m % 8:Nat)) | 6=> vv=.int .u64 ((m % 8:Nat)) | 7=> vv=.int .u8 (dg 256 N (m / 8) / 2 ^ (m % 8)) | 8=> vv=.int .u8 (N / 2 ^ m % 2) | 9 | 10=> vv=.bool bb | _=> True))
        (fun w w'=> Below w.heap.size w w') (fun _ _ h=> h) (fun _ _ _ _ h _=> h) ?_ ?_
       ·refine cO ?_;refine ⟨?_,?_,?_,?_,?_,?_,?_,?_,?_,?_,?_,trivial⟩
        ·intro a w2 hB hF hd;exact aH <| dJ rfl (hF.same 9 rfl)
        ·intro a w2 hB hF hd;exact aH <| aP (Go.aZ.DI rfl (hd 0 _ rfl (aj rfl)) rfl (by decide)) (congrArg (Value.int .i64) (hq))
        ·intro a w2 hB hF hd;exact aH <| aP (aO rfl (hF.same 3 rfl) (hd 1 _ rfl (aj rfl)) gH (by kernel_rfl) (by omega) (by omega)) (congrArg (fun z=> Value.pointer (some ⟨w.heap.size+1,z,none⟩)) hpl)
        ·intro a w2 hB hF hd;exact aH <| aP (aR rfl (hd 2 _ rfl (aj rfl)) Tryz.underlying5 ((hB.cell (p:=⟨w.heap.size+1,m / 8,none⟩) hBl).trans hce)) rfl
        ·intro a w2 hB hF hd;exact aH <| dJ rfl (hF.same 9 rfl)
        ·intro a w2 hB hF hd;exact aH <| aP (Go.aZ.oM rfl (hd 4 _ rfl (aj rfl)) rfl (by decide)) (congrArg (Value.int .i64) (hr))
        ·intro a w2 hB hF hd;exact aH <| aP (qh rfl (hd 5 _ rfl (aj rfl)) Tryz.underlying3 Tryz.underlying212) (congrArg (Value.int .u64) (hc))
        ·intro a w2 hB hF hd;exact aH <| aP (Go.aZ.qU rfl (hd 3 _ rfl (aj rfl)) (hd 6 _ rfl (aj rfl)) (by omega)) (congrArg (Value.int .u8) (hsh))
        ·intro a w2 hB hF hd;exact aH <| aP (Go.aZ.lK rfl (hd 7 _ rfl (aj rfl)) rfl) (congrArg (Value.int .u8) (hand))
        ·intro a w2 hB hF hd;refine aH <| aP (Go.aZ.fI rfl (hd 8 _ rfl (aj rfl)) rfl) ?_;exact congrArg Value.bool hbb.symm
        ·intro a w2 hB hF hd;exact aH <| mH rfl (hd 9 _ rfl (aj rfl))
       ·intro a w7 hB hF hS;have ha:=aI rfl rfl hF [_,_,_,_,_,_,_,_,_,_,_] rfl ⟨hS 0 _ rfl,hS 1 _ rfl,hS 2 _ rfl,hS 3 _ rfl,hS 4 _ rfl,hS 5 _ rfl,hS 6 _ rfl,hS 7 _ rfl,hS 8 _ rfl,hS 9 _ rfl,hS 10 _ rfl,trivial⟩;simp only [puts,Act.put,dQ,dR,dS] at ha;subst ha;clear hS hF;replace h7:=h7.kept hB;replace h8:=h8.kept hB;replace h6:=h6.kept hB;replace hNb:=hNb.kept hB;replace hZ:=hZ.kept hB;replace hbel:=hbel.trans (hB.mono hbel.size);have Di:=ak hbb;have HM:=ak hm;clear hB hq hr hc hsh hand hce hpl hbb hm Zu hm9 hBl d0 d1 ei hlt hk;obtain ⟨S1,R1,K7,K8,hsw⟩:=GR bb F7.out F8.out;have HSW:=ak hsw;clear hsw;go_wp2_with (first | (refine aY rfl 193 _ rfl .i64 x7 64 G EZ rfl Tryz.size193 rfl h7 ?_) | (refine aY rfl 193 _ rfl .i64 x8 64 H EZ rfl Tryz.size193 rfl h8 ?_));refine (HSW.out _).mono ?_;rintro e_ u1 ⟨rfl,hb⟩;replace h7:=h7.kept hb;replace h8:=h8.kept hb;replace h6:=h6.kept hb;replace hNb:=hNb.kept hb;replace hZ:=hZ.kept hb;replace hbel:=hbel.trans (hb.mono hbel.size);have s2:=h8.aA x7 (by omega) (arr .i64 64 S1);replace F7:=ak K7;replace F8:=ak K8;clear K7 K8 HSW hb;go_upto_region 11 with (first | (refine aG rfl 193 _ _ rfl .i64 x7 64 G S1 Tryz.size193 rfl rfl h7 ?_) | (refine aG rfl 193 _ _ rfl .i64 x8 64 H R1 Tryz.size193 rfl rfl s2 ?_))
        refine aD (fun w9=> aF .i64 w9 x7 64 S1/\aF .i64 w9 x8 64 R1/\aF .i64 w9 x6 16 dd/\aF .u8 w9 (w.heap.size+1) 32 (dg 256 N)/\aF .i64 w9 (w.heap.size+2) 64 (fun _=> 0)/\Below w.heap.size w w9)
         ⟨(h7.setRow _ _).aA _ (by omega) _,s2.setRow _ _,(h6.aA _ (by omega) _).aA _ (by omega) _,(hNb.aA _ (by omega) _).aA _ (by omega) _,(hZ.aA _ (by omega) _).aA _ (by omega) _,ay (ay hbel (by omega) _) (by omega) _⟩ ?_
        clear s2 h7 h8 h6 hNb hZ hbel;rintro aoK ⟨h7,h8,h6,hNb,hZ,hbel⟩
        try simp only [Act.put,dQ,dR,dS]
        obtain ⟨S2,K,hsu⟩:=MQ F8.out F7.out;rw [<-HDD.out] at hsu;have YR:=ak hsu;clear hsu;go_wp2_with (first | (refine aY rfl 193 _ rfl .i64 x7 64 S1 EZ rfl Tryz.size193 rfl h7 ?_) | (refine aY rfl 193 _ rfl .i64 x8 64 R1 EZ rfl Tryz.size193 rfl h8 ?_) | (refine aY rfl 191 _ rfl .i64 x6 16 dd bZ rfl bC rfl h6 ?_));refine (YR.out _).mono ?_;rintro e_ u2 ⟨rfl,hb⟩;replace h7:=h7.kept hb;replace h8:=h8.kept hb;replace h6:=h6.kept hb;replace hNb:=hNb.kept hb;replace hZ:=hZ.kept hb;replace hbel:=hbel.trans (hb.mono hbel.size);replace F8:=ak K;clear K YR hb;go_upto_region 12 with (refine aG rfl 193 _ _ rfl .i64 x8 64 R1 S2 Tryz.size193 rfl rfl h8 ?_)
        refine aD (fun w9=> aF .i64 w9 x7 64 S1/\aF .i64 w9 x8 64 S2/\aF .i64 w9 x6 16 dd/\aF .u8 w9 (w.heap.size+1) 32 (dg 256 N)/\aF .i64 w9 (w.heap.size+2) 64 (fun _=> 0)/\Below w.heap.size w w9)
         ⟨h7.aA _ (by omega) _,h8.setRow _ _,h6.aA _ (by omega) _,hNb.aA _ (by omega) _,hZ.aA _ (by omega) _,ay hbel (by omega) _⟩ ?_
        clear h7 h8 h6 hNb hZ hbel;rintro aoJ ⟨h7,h8,h6,hNb,hZ,hbel⟩
        try simp only [Act.put,dQ,dR,dS]
        obtain ⟨S3,K,hsu⟩:=MQ F7.out F7.out;rw [<-HDD.out] at hsu;have YR:=ak hsu;clear hsu;go_wp2_with (first | (refine aY rfl 193 _ rfl .i64 x7 64 S1 EZ rfl Tryz.size193 rfl h7 ?_) | (refine aY rfl 193 _ rfl .i64 x8 64 S2 EZ rfl Tryz.size193 rfl h8 ?_) | (refine aY rfl 191 _ rfl .i64 x6 16 dd bZ rfl bC rfl h6 ?_));refine (YR.out _).mono ?_;rintro e_ u3 ⟨rfl,hb⟩;replace h7:=h7.kept hb;replace h8:=h8.kept hb;replace h6:=h6.kept hb;replace hNb:=hNb.kept hb;replace hZ:=hZ.kept hb;replace hbel:=hbel.trans (hb.mono hbel.size);replace F7:=ak K;clear K YR hb;go_upto_region 13 with (refine aG rfl 193 _ _ rfl .i64 x7 64 S1 S3 Tryz.size193 rfl rfl h7 ?_)
        refine aD (fun w9=> aF .i64 w9 x7 64 S3/\aF .i64 w9 x8 64 S2/\aF .i64 w9 x6 16 dd/\aF .u8 w9 (w.heap.size+1) 32 (dg 256 N)/\aF .i64 w9 (w.heap.size+2) 64 (fun _=> 0)/\Below w.heap.size w w9)
         ⟨h7.setRow _ _,h8.aA _ (by omega) _,h6.aA _ (by omega) _,hNb.aA _ (by omega) _,hZ.aA _ (by omega) _,ay hbel (by omega) _⟩ ?_
        clear h7 h8 h6 hNb hZ hbel;rintro aoI ⟨h7,h8,h6,hNb,hZ,hbel⟩
        try simp only [Act.put,dQ,dR,dS]
        obtain ⟨S4,R4,K7,K8,hsw⟩:=GR bb F7.out F8.out;have HSW:=ak hsw;clear hsw;go_wp2_with (first | (refine aY rfl 193 _ rfl .i64 x7 64 S3 EZ rfl Tryz.size193 rfl h7 ?_) | (refine aY rfl 193 _ rfl .i64 x8 64 S2 EZ rfl Tryz.size193 rfl h8 ?_));refine (HSW.out _).mono ?_;rintro e_ u4 ⟨rfl,hb⟩;replace h7:=h7.kept hb;replace h8:=h8.kept hb;replace h6:=h6.kept hb;replace hNb:=hNb.kept hb;replace hZ:=hZ.kept hb;replace hbel:=hbel.trans (hb.mono hbel.size);have s2:=h8.aA x7 (by omega) (arr .i64 64 S4);replace F7:=ak K7;replace F8:=ak K8;clear K7 K8 HSW hb;have e7:=(h7.setRow 64 S4).aA x8 (by omega) (arr .i64 64 R4);have e8:=s2.setRow 64 R4;have h6e:=(h6.aA x7 (by omega) (arr .i64 64 S4)).aA x8 (by omega) (arr .i64 64 R4);have ajG:=(hNb.aA x7 (by omega) (arr .i64 64 S4)).aA x8 (by omega) (arr .i64 64 R4);have hZe:=(hZ.aA x7 (by omega) (arr .i64 64 S4)).aA x8 (by omega) (arr .i64 64 R4);have hbe:=ay (ay hbel (by omega:w.heap.size<=x7) (arr .i64 64 S4)) (by omega:w.heap.size<=x8) (arr .i64 64 R4);have H7:=ak h7;have SH2:=ak s2;clear h7 h8 s2 h6 hNb hZ hbel;have HE:Hid (rQ S4 (p.mul (n / 2 ^ (256 - (k+1))))/\rQ R4 (p.mul (n / 2 ^ (256 - (k+1))+1))):=by
         have hh7:=F7.out;have hh8:=F8.out;have hbit:bb=(n / 2 ^ (255 - k) % 2==1):=by
          rw [Di.out,Mi.out,HM.out,Bool.eq_iff_iff,beq_iff_eq,beq_iff_eq];have e:((n / 2 ^ (255 - k) % 2:Nat):Int)=(n:Int) / 2 ^ (255 - k) % 2:=by simp
          omega
         have Np:n / 2 ^ (256 - k)=n / 2 ^ (255 - k) / 2:=by
          rw [show 256 - k=255 - k+1 by have:=HKL.out;omega,Nat.pow_succ,Nat.div_div_eq_div_mul]
         rw [show 256 - (k+1)=255 - k by omega];rw [Np] at hh7 hh8;exact SQ p (n / 2 ^ (255 - k)) bb hbit hh7 hh8
        clear F7 F8;go_wp2_with (first | (refine aG rfl 193 _ _ rfl .i64 x7 64 S3 S4 Tryz.size193 rfl rfl H7.out ?_) | (refine aG rfl 193 _ _ rfl .i64 x8 64 S2 R4 Tryz.size193 rfl rfl SH2.out ?_));go_roundw
        case rel=> exact ⟨k+1,_,_,by have:=HKL.out;omega,congrArg (Value.int .i64) (by have:=HKM.out;omega),HE.out.1,HE.out.2,⟨e7,e8⟩,⟨h6e,ajG,hZe⟩,hbe⟩
        case measure=> simp [intOf] <;> (have:=HKM.out;omega)
theorem KG (f g h e:Nat->Int) (X Y Z T VX VY:Int) (hp:wH f g h e X Y Z T) (hx:X * Z ^ (PN - 2) % Pr=VX) (hy:Y * Z ^ (PN - 2) % Pr=VY) (w:World):
  Calls Tryz.prog 161 #[Jw (pt f g h e)] w fun e_ w'=> e_=.returned (.agg (arr .u8 32 (dg 256 (VY+(VX % 2) * 2 ^ 255))))/\Below w.heap.size w w':=by
 have HP:=ak hp;have HBY:Hid (∀w,Calls Tryz.prog 205 #[.agg (arr .i64 16 (aM g (ji h)))] w fun e w'=> e=.returned (.agg (arr .u8 32 (dg 256 VY)))/\Below w.heap.size w w'):=fun w=> by
  have h1:=lg _ _ (hp.2.1.aM (jB hp.2.2.1)) w;unfold vP at h1;rw [hy] at h1;exact h1
 have hVX:0<=VX:=by rw [<-hx];exact (XL _).1
 have hVY:0<=VY/\VY<2 ^ 255:=by (rw [<-hy];have h1:=XL (Y * Z ^ (PN - 2));have h2:Pr<2 ^ 255:=by decide);exact ⟨h1.1,by omega⟩
 have HHI:=ak (Vq VY hVY.1 hVY.2);have HTS:=ak (NW VY hVY.1 hVY.2);have adt:Hid (VX % 2=1->∀w,Calls Tryz.prog 222 #[.agg (arr .i64 16 (aM f (ji h)))] w fun e w'=> e=.returned (.bool true)/\Below w.heap.size w w'):=fun h1 w=> by
  refine vX _ _ (hp.1.aM (jB hp.2.2.1)) ?_ w;unfold vP;rw [hx];exact h1
 have adu:Hid (VX % 2=0->∀w,Calls Tryz.prog 222 #[.agg (arr .i64 16 (aM f (ji h)))] w fun e w'=> e=.returned (.bool false)/\Below w.heap.size w w'):=fun h1 w=> by
  refine zQ _ _ (hp.1.aM (jB hp.2.2.1)) ?_ w;unfold vP;rw [hx];exact h1
 clear hp hx hy hVY
 go_enter Tryz.func161,Tryz.ntmps161
 go_upto_region 1 with (fail);refine aD (fun w1=> aF .i64 w1 w.heap.size 64 (pt f g h e)/\aF .u8 w1 (w.heap.size+1) 32 (fun _=> 0)/\Below w.heap.size w w1) ⟨.alloc (bM rfl rfl) _,bM (by first | omega | (simp<;> omega)) (by rfl),((bN _ _).alloc (bA _) _).alloc (by first | omega | (simp<;> omega)) _⟩ ?_;rintro w1 ⟨hA,hZ,hbel⟩
 refine bB (n:=23) (by kernel_rfl) (by kernel_rfl) (by kernel_rfl) rfl
  (jh [(4,3)]) (fJ [(4,3)]) (fun _=> arr .i64 16 (fun _=> 0)) (fun _=> (arr .i64 16 (ji (h)))) (fun _=> 191) (fun _=> 3)
  (fun ii vv _=> (match ii with | 0=> vv=.pointer (some ⟨w.heap.size,32,none⟩) | 1=> vv=.agg (arr .i64 16 (h)) | 2=> vv=.agg (arr .i64 16 (ji (h))) | _=> True)) (fun _ _=> True) (fun _ _ _=> trivial) (fun _ _ _ _ _ _ _=> trivial) (fun _ _ _ _ h _=> h)
  (gF rfl) (eG rfl) ?_ ?_ ?_ ?_
 ·refine cO ?_;refine ⟨?_,?_,?_,(fun h=> by cases h),(fun _ h=> by cases h),trivial⟩
  ·intro _ _ a w2 hB hF hd;refine aH <| aP (aW (m:=15) (k:=32) rfl (hF.same 1 rfl) (by kernel_rfl)) ?_;exact rfl
  ·intro _ _ a w2 hB hF hd;exact aH <| aP (bH rfl (hd 0 _ rfl rfl rfl (aj rfl)) bZ rfl bC (fun i hi=> (hB.cell (p:=⟨w.heap.size,32+i,none⟩) hA.lt).trans (Oy hA i hi))) rfl
  ·intro _ _ a w2 hB hF hd;refine aH <| aC _ _ _ rfl Tryz.call204 _ (args1 (hd 1 _ rfl rfl rfl (aj rfl))) (by simp) ((jw _ _ HP.out.2.2.1 w2).mono ?_);rintro e w3 ⟨rfl,hb⟩;exact ⟨_,rfl,rfl,hb⟩
 ·refine cO ?_;refine ⟨(fun h=> by cases h),(fun h=> by cases h),(fun h=> by cases h),?_,(fun h=> by cases h),trivial⟩
  ·exact fun _=> ⟨rfl,rfl,fun a w2 K h=> aU rfl rfl Tryz.zeroValue191 (by simp) h⟩
 ·refine cO ?_;refine ⟨(fun _ h=> by cases h),(fun _ h=> by cases h),(fun _ h=> by cases h),(fun _ h=> by cases h),?_,trivial⟩
  ·intro p hp;obtain rfl:3=p:=fO hp;exact ⟨rfl,rfl,⟨_,rfl⟩,aj rfl,fun a w2 b K hB hF hd hx hb h=> bD rfl rfl bC hx (hd 2 _ rfl rfl rfl (aj rfl)) hb h⟩
 ·intro a w2 blk hB hF hS hv hfin dD;obtain ⟨v3,Dn,NU⟩:=hv 3 _ rfl rfl;have ha:=aI rfl rfl hF [_,_,_,_,undef] rfl ⟨hS 0 _ rfl rfl rfl,hS 1 _ rfl rfl rfl,hS 2 _ rfl rfl rfl,v3,trivial,trivial⟩;have f3:=hfin 4 _ 3 rfl rfl;simp only [puts,Act.put,dQ,dR,dS] at ha;subst ha;have V3:aF .i64 w2 (blk 3) 16 (ji (h)):=⟨_,f3⟩
  clear hS hv hfin dD hF v3 f3;replace hA:=hA.kept hB;replace hZ:=hZ.kept hB;replace hbel:=hbel.trans (hB.mono hbel.size);have hz:=hZ.lt;obtain ⟨x3,e3⟩:∃x,x=blk 3:=⟨_,rfl⟩
  rw [<-e3] at V3 ⊢;have h3:=V3;clear V3 hB e3 Dn NU;go_upto_region 2 with (fail)
  refine bB (n:=23) (by kernel_rfl) (by kernel_rfl) (by kernel_rfl) rfl
   (jh [(6,5)]) (fJ [(6,5)]) (fun _=> arr .u8 32 (fun _=> 0)) (fun _=> (arr .u8 32 (dg 256 VY))) (fun _=> 22) (fun _=> 4)
   (fun ii vv _=> (match ii with | 0=> vv=.pointer (some ⟨w.heap.size,16,none⟩) | 1=> vv=.agg (arr .i64 16 (g)) | 2=> vv=.agg (arr .i64 16 (ji h)) | 3=> vv=.agg (arr .i64 16 (aM (g) (ji h))) | 4=> vv=.agg (arr .u8 32 (dg 256 VY)) | _=> True)) (fun _ _=> True) (fun _ _ _=> trivial) (fun _ _ _ _ _ _ _=> trivial) (fun _ _ _ _ h _=> h)
   (gF rfl) (eG rfl) ?_ ?_ ?_ ?_
  ·refine cO ?_;refine ⟨?_,?_,?_,?_,?_,(fun h=> by cases h),(fun _ h=> by cases h),trivial⟩
   ·intro _ _ a w2 hB hF hd;refine aH <| aP (aW (m:=15) (k:=16) rfl (hF.same 1 rfl) (by kernel_rfl)) ?_;exact rfl
   ·intro _ _ a w2 hB hF hd;exact aH <| aP (bH rfl (hd 0 _ rfl rfl rfl (aj rfl)) bZ rfl bC (fun i hi=> (hB.cell (p:=⟨w.heap.size,16+i,none⟩) hA.lt).trans (Kv hA i hi))) rfl
   ·intro _ _ a w2 hB hF hd;exact aH <| aP (aB rfl bZ rfl bC (hF.same 3 rfl) (h3.below hB h3.lt)) rfl
   ·intro _ _ a w2 hB hF hd;refine aH <| aC _ _ _ rfl Tryz.call203 _ (args2 (hd 1 _ rfl rfl rfl (aj rfl)) (hd 2 _ rfl rfl rfl (aj rfl))) (by simp) ((bI _ _ _ _ HP.out.2.1 (jB HP.out.2.2.1) w2).mono ?_);rintro e w3 ⟨rfl,hb⟩;exact ⟨_,rfl,rfl,hb⟩
   ·intro _ _ a w2 hB hF hd;refine aH <| aC _ _ _ rfl Tryz.call205 _ (args1 (hd 3 _ rfl rfl rfl (aj rfl))) (by simp) ((HBY.out w2).mono ?_);rintro e w3 ⟨rfl,hb⟩;exact ⟨_,rfl,rfl,hb⟩
  ·refine cO ?_;refine ⟨(fun h=> by cases h),(fun h=> by cases h),(fun h=> by cases h),(fun h=> by cases h),(fun h=> by cases h),?_,(fun h=> by cases h),trivial⟩
   ·exact fun _=> ⟨rfl,rfl,fun a w2 K h=> aU rfl rfl Tryz.zeroValue22 (by simp) h⟩
  ·refine cO ?_;refine ⟨(fun _ h=> by cases h),(fun _ h=> by cases h),(fun _ h=> by cases h),(fun _ h=> by cases h),(fun _ h=> by cases h),(fun _ h=> by cases h),?_,trivial⟩
   ·intro p hp;obtain rfl:5=p:=fO hp;exact ⟨rfl,rfl,⟨_,rfl⟩,aj rfl,fun a w2 b K hB hF hd hx hb h=> bD rfl rfl eT hx (hd 4 _ rfl rfl rfl (aj rfl)) hb h⟩
  ·intro a w3 blk hB hF hS hv hfin dD;obtain ⟨v5,Fu,Wq⟩:=hv 5 _ rfl rfl;have ha:=aI rfl rfl hF [_,_,_,_,_,_,undef] rfl ⟨hS 0 _ rfl rfl rfl,hS 1 _ rfl rfl rfl,hS 2 _ rfl rfl rfl,hS 3 _ rfl rfl rfl,hS 4 _ rfl rfl rfl,v5,trivial,trivial⟩;have f5:=hfin 6 _ 5 rfl rfl;simp only [puts,Act.put,dQ,dR,dS] at ha;subst ha;have V5:aF .u8 w3 (blk 5) 32 (dg 256 VY):=⟨_,f5⟩
   clear hS hv hfin dD hF v5 f5;replace hA:=hA.kept hB;replace hZ:=hZ.kept hB;replace h3:=h3.kept hB;replace hbel:=hbel.trans (hB.mono hbel.size);obtain ⟨x4,e4⟩:∃x,x=blk 5:=⟨_,rfl⟩
   rw [<-e4] at V5 Fu ⊢;have h4:=V5;have l4:w.heap.size+1<x4:=by omega
   clear V5 hB e4 Fu Wq hz;go_upto_region 3 with (fail);rcases (by omega:VX % 2=0\/VX % 2=1) with ho | ho
   ·have HO:=ak ho;clear ho
    refine aT (n:=23) (by kernel_rfl) (by kernel_rfl) (by kernel_rfl) rfl
     (fun ii vv _=> (match ii with | 0=> vv=.pointer (some ⟨w.heap.size,0,none⟩) | 1=> vv=.agg (arr .i64 16 (f)) | 2=> vv=.agg (arr .i64 16 (ji h)) | 3=> vv=.agg (arr .i64 16 (aM (f) (ji h))) | 4=> vv=.bool false | _=> True))
     (fun w w'=> Below w.heap.size w w') (fun _ _ h=> h) (fun _ _ _ _ h _=> h) ?_ ?_
    ·refine cO ?_;refine ⟨?_,?_,?_,?_,?_,trivial⟩
     ·intro a w2 hB hF hd;refine aH <| aP (aW (m:=15) (k:=0) rfl (hF.same 1 rfl) (by kernel_rfl)) ?_;exact rfl
     ·intro a w2 hB hF hd;exact aH <| aP (bH rfl (hd 0 _ rfl (aj rfl)) bZ rfl bC (fun i hi=> (hB.cell (p:=⟨w.heap.size,0+i,none⟩) hA.lt).trans (Gv hA i hi))) rfl
     ·intro a w2 hB hF hd;exact aH <| aP (aB rfl bZ rfl bC (hF.same 3 rfl) (h3.below hB h3.lt)) rfl
     ·intro a w2 hB hF hd;refine aH <| aC _ _ _ rfl Tryz.call203 _ (args2 (hd 1 _ rfl (aj rfl)) (hd 2 _ rfl (aj rfl))) (by simp) ((bI _ _ _ _ HP.out.1 (jB HP.out.2.2.1) w2).mono ?_);rintro e w3 ⟨rfl,hb⟩;exact ⟨_,rfl,rfl,hb⟩
     ·intro a w2 hB hF hd;refine aH <| aC _ _ _ rfl Tryz.call222 _ (args1 (hd 3 _ rfl (aj rfl))) (by simp) ((adu.out HO.out w2).mono ?_);rintro e w3 ⟨rfl,hb⟩;exact ⟨_,rfl,rfl,hb⟩
    ·intro a w4 hB hF hS;have ha:=aI rfl rfl hF [_,_,_,_,_] rfl ⟨hS 0 _ rfl,hS 1 _ rfl,hS 2 _ rfl,hS 3 _ rfl,hS 4 _ rfl,trivial⟩;simp only [puts,Act.put,dQ,dR,dS] at ha;subst ha;clear hS hF;replace hZ:=hZ.kept hB;replace h4:=h4.kept hB;replace hbel:=hbel.trans (hB.mono hbel.size);clear hA h3 hB HBY adt adu;have h5:aF .u8 w4 x4 32 (dg 256 (VY+(VX % 2) * 2 ^ 255)):=by rw [HO.out,Int.zero_mul,Int.add_zero];exact h4
     obtain ⟨R,hR⟩:∃R,R=VY+(VX % 2) * 2 ^ 255:=⟨_,rfl⟩
     rw [<-hR] at h5;have HR:=ak hR;clear hR;go_wp2_with (first | (refine aQ rfl 22 _ rfl .u8 x4 32 (dg 256 R) 5 gH eT rfl h5 ?_) | (refine aG rfl 22 _ _ rfl .u8 (w.heap.size+1) 32 (fun _=> 0) (dg 256 R) eT rfl rfl hZ ?_));exact bodyPost_ret (bG rfl _ _ .u8 (w.heap.size+1) 32 _ 5 rfl (hZ.setRow 32 (dg 256 R)) gH eT) rfl ⟨by rw [HR.out],ay hbel (by omega) _⟩
   ·have HO:=ak ho;clear ho
    refine aT (n:=23) (by kernel_rfl) (by kernel_rfl) (by kernel_rfl) rfl
     (fun ii vv _=> (match ii with | 0=> vv=.pointer (some ⟨w.heap.size,0,none⟩) | 1=> vv=.agg (arr .i64 16 (f)) | 2=> vv=.agg (arr .i64 16 (ji h)) | 3=> vv=.agg (arr .i64 16 (aM (f) (ji h))) | 4=> vv=.bool true | _=> True))
     (fun w w'=> Below w.heap.size w w') (fun _ _ h=> h) (fun _ _ _ _ h _=> h) ?_ ?_
    ·refine cO ?_;refine ⟨?_,?_,?_,?_,?_,trivial⟩
     ·intro a w2 hB hF hd;refine aH <| aP (aW (m:=15) (k:=0) rfl (hF.same 1 rfl) (by kernel_rfl)) ?_;exact rfl
     ·intro a w2 hB hF hd;exact aH <| aP (bH rfl (hd 0 _ rfl (aj rfl)) bZ rfl bC (fun i hi=> (hB.cell (p:=⟨w.heap.size,0+i,none⟩) hA.lt).trans (Gv hA i hi))) rfl
     ·intro a w2 hB hF hd;exact aH <| aP (aB rfl bZ rfl bC (hF.same 3 rfl) (h3.below hB h3.lt)) rfl
     ·intro a w2 hB hF hd;refine aH <| aC _ _ _ rfl Tryz.call203 _ (args2 (hd 1 _ rfl (aj rfl)) (hd 2 _ rfl (aj rfl))) (by simp) ((bI _ _ _ _ HP.out.1 (jB HP.out.2.2.1) w2).mono ?_);rintro e w3 ⟨rfl,hb⟩;exact ⟨_,rfl,rfl,hb⟩
     ·intro a w2 hB hF hd;refine aH <| aC _ _ _ rfl Tryz.call222 _ (args1 (hd 3 _ rfl (aj rfl))) (by simp) ((adt.out HO.out w2).mono ?_);rintro e w3 ⟨rfl,hb⟩;exact ⟨_,rfl,rfl,hb⟩
    ·intro a w4 hB hF hS;have ha:=aI rfl rfl hF [_,_,_,_,_] rfl ⟨hS 0 _ rfl,hS 1 _ rfl,hS 2 _ rfl,hS 3 _ rfl,hS 4 _ rfl,trivial⟩;simp only [puts,Act.put,dQ,dR,dS] at ha;subst ha;clear hS hF;replace hZ:=hZ.kept hB;replace h4:=h4.kept hB;replace hbel:=hbel.trans (hB.mono hbel.size);clear hA h3 hB HBY adt adu;have e1:=h4.cell 31 (by decide);have f1:=h4.free 31;obtain ⟨t0,t1⟩:=HTS.out;obtain ⟨t,ht⟩:∃t,t=dg 256 VY 31:=⟨_,rfl⟩
     rw [<-ht] at e1 t0 t1;have a1:=aaW t t0 t1;have HT:=ak ht;have H4:=ak h4;clear ht h4;go_upto_region 5 with (fail);refine aD (fun w9=> aF .u8 w9 x4 32 (dg 256 (VY+(VX % 2) * 2 ^ 255))/\aF .u8 w9 (w.heap.size+1) 32 (fun _=> 0)/\Below w.heap.size w w9) ⟨(H4.out.set 31 (t+128)).congr (fun i hi=> by rw [HT.out,HO.out];exact HHI.out i hi),hZ.other (by first | omega | (simp<;> omega)) _,hbel.setCell (by first | omega | (simp<;> omega)) _⟩ ?_;rintro w9 ⟨h5,hZ,hbel⟩
     try simp only [Act.put,dQ,dR,dS]
     obtain ⟨R,hR⟩:∃R,R=VY+(VX % 2) * 2 ^ 255:=⟨_,rfl⟩
     rw [<-hR] at h5;have HR:=ak hR;clear hR;go_wp2_with (first | (refine aQ rfl 22 _ rfl .u8 x4 32 (dg 256 R) 5 gH eT rfl h5 ?_) | (refine aG rfl 22 _ _ rfl .u8 (w.heap.size+1) 32 (fun _=> 0) (dg 256 R) eT rfl rfl hZ ?_));exact bodyPost_ret (bG rfl _ _ .u8 (w.heap.size+1) 32 _ 5 rfl (hZ.setRow 32 (dg 256 R)) gH eT) rfl ⟨by rw [HR.out],ay hbel (by omega) _⟩
theorem OH {A:Nat->Int} {p:Ed C7} (hA:rQ A p) (w:World):Calls Tryz.prog 161 #[Jw A] w fun e_ w'=> e_=.returned (.agg (arr .u8 32 (dg 256 (mK p))))/\Below w.heap.size w w':=by
 obtain ⟨f,g,h,e,X,Y,Z,T,rfl,h1,h2⟩:=hA;exact KG f g h e X Y Z T (EJ p) (edY p) h1 (Gs h2.1 h2.2.1) (Gs h2.1 h2.2.2.1) w
def EC (Y:Int):Int:=(Y * Y - 1) * vP (dN * (Y * Y)+1)
def Pq (f:Nat->Int):Nat->Int:=aM (dU (aM f f) (aN 1)) (ji (bU (aM jq (aM f f)) (aN 1)))
theorem Ux {f:Nat->Int} {Y:Int} (hf:Fe f Y):Fe (Pq f) (EC Y):=((hf.aM hf).dU pI).aM (jB ((jS.aM (hf.aM hf)).bU pI))
theorem KF (q:Bool) (H f:Nat->Int) (Y:Int) (hf:Fe f Y) (hrt:∀w,Calls Tryz.prog 252 #[El (Pq f)] w fun e w'=> e=.returned (.tuple #[El H,.bool q])/\Below w.heap.size w w') (w:World):
  Calls Tryz.prog 209 #[El f] w fun e w'=> e=.returned (.tuple #[El H,.bool q])/\Below w.heap.size w w':=by
 have HF:=ak hf;have HRT:=ak hrt;clear hf hrt;unfold El;unfold El at HRT
 go_enter Tryz.func209,Tryz.ntmps209
 go_upto_region 1 with (fail);refine aD (fun w1=> aF .i64 w1 w.heap.size 16 f/\aF .i64 w1 (w.heap.size+1) 16 (fun _=> 0)/\Below w.heap.size w w1) ⟨.alloc (bM rfl rfl) _,bM (by first | omega | (simp<;> omega)) (by rfl),((bN _ _).alloc (bA _) _).alloc (by first | omega | (simp<;> omega)) _⟩ ?_;rintro w1 ⟨hA,hZ,hbel⟩
 refine bB (n:=23) (by kernel_rfl) (by kernel_rfl) (by kernel_rfl) rfl
  (jh [(6,4),(7,5)]) (fJ [(6,4),(7,5)]) (fun _=> arr .i64 16 (fun _=> 0)) (fun i=> match i with | 4=> (arr .i64 16 (aM (f) (f))) | 5=> (arr .i64 16 (aN 1)) | _=> #[]) (fun _=> 191) (fun i=> match i with | 4=> 4 | 5=> 5 | _=> 0)
  (fun ii vv _=> (match ii with | 0 | 1=> vv=.agg (arr .i64 16 (f)) | 2=> vv=.agg (arr .i64 16 (aM (f) (f))) | 3=> vv=.agg (arr .i64 16 (aN 1)) | _=> True)) (fun _ _=> True) (fun _ _ _=> trivial) (fun _ _ _ _ _ _ _=> trivial) (fun _ _ _ _ h _=> h)
  (gF rfl) (eG rfl) ?_ ?_ ?_ ?_
 ·refine cO ?_;refine ⟨?_,?_,?_,?_,(fun h=> by cases h),(fun h=> by cases h),(fun _ h=> by cases h),(fun _ h=> by cases h),trivial⟩
  ·intro _ _ a w2 hB hF hd;exact aH <| aP (aB rfl bZ rfl bC (hF.same 1 rfl) (hA.below hB hA.lt)) rfl
  ·intro _ _ a w2 hB hF hd;exact aH <| aP (aB rfl bZ rfl bC (hF.same 1 rfl) (hA.below hB hA.lt)) rfl
  ·intro _ _ a w2 hB hF hd;refine aH <| aC _ _ _ rfl Tryz.call203 _ (args2 (hd 0 _ rfl rfl rfl (aj rfl)) (hd 1 _ rfl rfl rfl (aj rfl))) (by simp) ((bI _ _ _ _ HF.out HF.out w2).mono ?_);rintro e w3 ⟨rfl,hb⟩;exact ⟨_,rfl,rfl,hb⟩
  ·intro _ _ a w2 hB hF hd;refine aH <| aC _ _ _ rfl Tryz.call200 _ (args1 rfl) (by simp) ((dW 1 w2).mono ?_);rintro e w3 ⟨rfl,hb⟩;exact ⟨_,rfl,rfl,hb⟩
 ·refine cO ?_;refine ⟨(fun h=> by cases h),(fun h=> by cases h),(fun h=> by cases h),(fun h=> by cases h),?_,?_,(fun h=> by cases h),(fun h=> by cases h),trivial⟩
  ·exact fun _=> ⟨rfl,rfl,fun a w2 K h=> aU rfl rfl Tryz.zeroValue191 (by simp) h⟩
  ·exact fun _=> ⟨rfl,rfl,fun a w2 K h=> aU rfl rfl Tryz.zeroValue191 (by simp) h⟩
 ·refine cO ?_;refine ⟨(fun _ h=> by cases h),(fun _ h=> by cases h),(fun _ h=> by cases h),(fun _ h=> by cases h),(fun _ h=> by cases h),(fun _ h=> by cases h),?_,?_,trivial⟩
  ·intro p hp;obtain rfl:4=p:=fO hp;exact ⟨rfl,rfl,⟨_,rfl⟩,aj rfl,fun a w2 b K hB hF hd hx hb h=> bD rfl rfl bC hx (hd 2 _ rfl rfl rfl (aj rfl)) hb h⟩
  ·intro p hp;obtain rfl:5=p:=fO hp;exact ⟨rfl,rfl,⟨_,rfl⟩,aj rfl,fun a w2 b K hB hF hd hx hb h=> bD rfl rfl bC hx (hd 3 _ rfl rfl rfl (aj rfl)) hb h⟩
 ·intro a w2 blk hB hF hS hv hfin dD;obtain ⟨v4,QU,WG⟩:=hv 4 _ rfl rfl;obtain ⟨v5,Fu,Wq⟩:=hv 5 _ rfl rfl;have ha:=aI rfl rfl hF [_,_,_,_,_,_,undef,undef] rfl ⟨hS 0 _ rfl rfl rfl,hS 1 _ rfl rfl rfl,hS 2 _ rfl rfl rfl,hS 3 _ rfl rfl rfl,v4,v5,trivial,trivial,trivial⟩;have f4:=hfin 6 _ 4 rfl rfl;have f5:=hfin 7 _ 5 rfl rfl;have acQ:=dD 4 5 _ _ rfl rfl rfl rfl (by decide);simp only [puts,Act.put,dQ,dR,dS] at ha;subst ha;have V4:aF .i64 w2 (blk 4) 16 (aM (f) (f)):=⟨_,f4⟩
  have V5:aF .i64 w2 (blk 5) 16 (aN 1):=⟨_,f5⟩
  clear hS hv hfin dD hF v4 v5 f4 f5;have hz:=hZ.lt;replace hZ:=hZ.kept hB;replace hbel:=hbel.trans (hB.mono hbel.size);obtain ⟨x4,e4⟩:∃x,x=blk 4:=⟨_,rfl⟩
  obtain ⟨x5,e5⟩:∃x,x=blk 5:=⟨_,rfl⟩
  rw [<-e4] at V4 QU ⊢;rw [<-e5] at V5 Fu ⊢;have h4:=V4;have h5:=V5;have l4:w.heap.size+1<x4:=by omega
  have l5:w.heap.size+1<x5:=by omega
  clear V4 V5 hB e4 e5 QU WG Fu Wq hA hz;go_upto_region 2 with (fail)
  refine nH (n:=23) 14 rfl (by decide) (by kernel_rfl) (by kernel_rfl) (by kernel_rfl) (by kernel_rfl) rfl
   (fun ii vv ww=> (match ii with | 0 | 4=> vv=.agg (arr .i64 16 (aM f f)) | 1 | 6=> vv=.agg (arr .i64 16 (aN 1)) | 2=> vv=.agg (arr .i64 16 (dU (aM f f) (aN 1))) | 3=> vv=.agg (arr .i64 16 (jq)) | 5=> vv=.agg (arr .i64 16 (aM (jq) (aM f f))) | 7=> vv=.agg (arr .i64 16 (bU (aM (jq) (aM f f)) (aN 1))) | 8=> vv=.agg (arr .i64 16 (ji (bU (aM (jq) (aM f f)) (aN 1)))) | 9=> vv=.agg (arr .i64 16 (aM (dU (aM f f) (aN 1)) (ji (bU (aM (jq) (aM f f)) (aN 1))))) | 10=> vv=.tuple #[.agg (arr .i64 16 (H)),.bool q] | 11=> vv=.agg (arr .i64 16 (H)) | 12=> vv=.bool q | _=> True)/\(ii=13->aF .i64 ww (w.heap.size+1) 16 (H))) 13
   (fun b ww=> (aF .i64 ww (x4) 16 (aM f f)/\aF .i64 ww (x5) 16 (aN 1)/\Below w.heap.size w ww)/\(b=false->aF .i64 ww ((w.heap.size+1)) 16 (fun _=> 0))) ⟨⟨h4.drew,h5.drew,hbel.drew⟩,fun _=> hZ.drew⟩
   (fun i ww w'=> match i with | 13=> ((aF .i64 ww (x4) 16 (aM f f)/\aF .i64 ww (x5) 16 (aN 1)/\Below w.heap.size w ww)->(aF .i64 w' (x4) 16 (aM f f)/\aF .i64 w' (x5) 16 (aN 1)/\Below w.heap.size w w')) | _=> Below ww.heap.size ww w') ?_ ?_ ?_ ?_ rfl ?_ ?_
  ·intro i ww;(try dsimp only);split
   ·exact id
   ·exact bN _ _
  ·intro i b ww w' hi hR hE;have hE':Below ww.heap.size ww w':=by (try dsimp only at hE);split at hE;(· exact absurd rfl hi);exact hE
   obtain ⟨⟨q0,q1,qb⟩,lC⟩:=hR;exact ⟨⟨q0.kept hE',q1.kept hE',qb.trans (hE'.mono qb.size)⟩,fun hb=> (lC hb).kept hE'⟩
  ·intro ww w' hR hE;exact ⟨hE hR.1,fun h=> by cases h⟩
  ·intro i j b v ww w' hij hjb hR hS hE;refine ⟨hS.1,fun e=> ?_⟩;subst e;have hE':Below ww.heap.size ww w':=by (try dsimp only at hE);split at hE;(· exact absurd rfl hij);exact hE
   exact (hS.2 rfl).kept hE'
  ·refine cO ?_;refine ⟨?_,?_,?_,?_,?_,?_,?_,?_,?_,?_,?_,?_,?_,?_,(fun h=> absurd rfl h),trivial⟩
   ·intro _ b a w2 hcb hB0 hF hd;obtain ⟨⟨h4,h5,hbel⟩,lC⟩:=hB0;have hB:=bN w2.heap.size w2;exact aH <| aP (aB rfl bZ rfl bC (hF.same 4 rfl) (h4.below hB h4.lt)) ⟨rfl,aJ⟩
   ·intro _ b a w2 hcb hB0 hF hd;obtain ⟨⟨h4,h5,hbel⟩,lC⟩:=hB0;have hB:=bN w2.heap.size w2;exact aH <| aP (aB rfl bZ rfl bC (hF.same 5 rfl) (h5.below hB h5.lt)) ⟨rfl,aJ⟩
   ·intro _ b a w2 hcb hB0 hF hd;obtain ⟨⟨h4,h5,hbel⟩,lC⟩:=hB0;have hB:=bN w2.heap.size w2;refine aH <| aC _ _ _ rfl Tryz.call244 _ (args2 ((hd 0 _ rfl (aj rfl)).1) ((hd 1 _ rfl (aj rfl)).1)) (by simp) ((iD _ _ _ _ (HF.out.aM HF.out) pI w2).mono ?_);rintro e w3 ⟨rfl,hb⟩;exact ⟨_,rfl,⟨rfl,aJ⟩,hb⟩
   ·intro _ b a w2 hcb hB0 hF hd;obtain ⟨⟨h4,h5,hbel⟩,lC⟩:=hB0;have hB:=bN w2.heap.size w2;refine aH <| aC _ _ _ rfl Tryz.call217 _ xH (by simp) ((wW w2).mono ?_);rintro e w3 ⟨rfl,hb⟩;exact ⟨_,rfl,⟨rfl,aJ⟩,hb⟩
   ·intro _ b a w2 hcb hB0 hF hd;obtain ⟨⟨h4,h5,hbel⟩,lC⟩:=hB0;have hB:=bN w2.heap.size w2;exact aH <| aP (aB rfl bZ rfl bC (hF.same 4 rfl) (h4.below hB h4.lt)) ⟨rfl,aJ⟩
   ·intro _ b a w2 hcb hB0 hF hd;obtain ⟨⟨h4,h5,hbel⟩,lC⟩:=hB0;have hB:=bN w2.heap.size w2;refine aH <| aC _ _ _ rfl Tryz.call203 _ (args2 ((hd 3 _ rfl (aj rfl)).1) ((hd 4 _ rfl (aj rfl)).1)) (by simp) ((bI _ _ _ _ jS (HF.out.aM HF.out) w2).mono ?_);rintro e w3 ⟨rfl,hb⟩;exact ⟨_,rfl,⟨rfl,aJ⟩,hb⟩
   ·intro _ b a w2 hcb hB0 hF hd;obtain ⟨⟨h4,h5,hbel⟩,lC⟩:=hB0;have hB:=bN w2.heap.size w2;exact aH <| aP (aB rfl bZ rfl bC (hF.same 5 rfl) (h5.below hB h5.lt)) ⟨rfl,aJ⟩
   ·intro _ b a w2 hcb hB0 hF hd;obtain ⟨⟨h4,h5,hbel⟩,lC⟩:=hB0;have hB:=bN w2.heap.size w2;refine aH <| aC _ _ _ rfl Tryz.call218 _ (args2 ((hd 5 _ rfl (aj rfl)).1) ((hd 6 _ rfl (aj rfl)).1)) (by simp) ((gq _ _ _ _ ((jS).aM (HF.out.aM HF.out)) pI w2).mono ?_);rintro e w3 ⟨rfl,hb⟩;exact ⟨_,rfl,⟨rfl,aJ⟩,hb⟩
   ·intro _ b a w2 hcb hB0 hF hd;obtain ⟨⟨h4,h5,hbel⟩,lC⟩:=hB0;have hB:=bN w2.heap.size w2;refine aH <| aC _ _ _ rfl Tryz.call204 _ (args1 ((hd 7 _ rfl (aj rfl)).1)) (by simp) ((jw _ _ ((((jS).aM (HF.out.aM HF.out))).bU pI) w2).mono ?_);rintro e w3 ⟨rfl,hb⟩;exact ⟨_,rfl,⟨rfl,aJ⟩,hb⟩
   ·intro _ b a w2 hcb hB0 hF hd;obtain ⟨⟨h4,h5,hbel⟩,lC⟩:=hB0;have hB:=bN w2.heap.size w2;refine aH <| aC _ _ _ rfl Tryz.call203 _ (args2 ((hd 2 _ rfl (aj rfl)).1) ((hd 8 _ rfl (aj rfl)).1)) (by simp) ((bI _ _ _ _ (((HF.out.aM HF.out)).dU pI) (jB ((((jS).aM (HF.out.aM HF.out))).bU pI)) w2).mono ?_);rintro e w3 ⟨rfl,hb⟩;exact ⟨_,rfl,⟨rfl,aJ⟩,hb⟩
   ·intro _ b a w2 hcb hB0 hF hd;obtain ⟨⟨h4,h5,hbel⟩,lC⟩:=hB0;have hB:=bN w2.heap.size w2;refine aH <| aC _ _ _ rfl Tryz.call252 _ (args1 ((hd 9 _ rfl (aj rfl)).1)) (by simp) ((HRT.out w2).mono ?_);rintro e w3 ⟨rfl,hb⟩;exact ⟨_,rfl,⟨rfl,aJ⟩,hb⟩
   ·intro _ b a w2 hcb hB0 hF hd;obtain ⟨⟨h4,h5,hbel⟩,lC⟩:=hB0;have hB:=bN w2.heap.size w2;exact aH <| aP (bg rfl ((hd 10 _ rfl (aj rfl)).1) rfl) ⟨rfl,aJ⟩
   ·intro _ b a w2 hcb hB0 hF hd;obtain ⟨⟨h4,h5,hbel⟩,lC⟩:=hB0;have hB:=bN w2.heap.size w2;exact aH <| aP (bg rfl ((hd 10 _ rfl (aj rfl)).1) rfl) ⟨rfl,aJ⟩
   ·intro _ b a w2 hcb hB0 hF hd;obtain ⟨⟨h4,h5,hbel⟩,lC⟩:=hB0;have hB:=bN w2.heap.size w2;refine aH <| aX 191 _ _ rfl .i64 ((w.heap.size+1)) 16 (fun _=> 0) (H) bC (hF.same 2 rfl) ((hd 11 _ rfl (aj rfl)).1) (lC (hcb rfl)) ?_;exact ⟨_,rfl,fun _=> rfl,⟨trivial,fun _=> (lC (hcb rfl)).setRow _ _⟩,fun ⟨p0,p1,p2⟩=> ⟨p0.aA _ (by omega) _,p1.aA _ (by omega) _,ay p2 (by omega) _⟩⟩
  ·intro b a w3 hB0 hF hS;have ZM:=(hS 13 _ rfl (by decide)).2 rfl;obtain ⟨⟨h4,h5,hbel⟩,_⟩:=hB0;obtain ⟨xl,hxl⟩:∃x,x=a.tmps.getD 3 undef:=⟨_,rfl⟩
   have ha:=aI rfl rfl hF [_,_,_,_,_,_,_,_,_,_,_,_,_,undef,xl] rfl ⟨(hS 0 _ rfl (by decide)).1,(hS 1 _ rfl (by decide)).1,(hS 2 _ rfl (by decide)).1,(hS 3 _ rfl (by decide)).1,(hS 4 _ rfl (by decide)).1,(hS 5 _ rfl (by decide)).1,(hS 6 _ rfl (by decide)).1,(hS 7 _ rfl (by decide)).1,(hS 8 _ rfl (by decide)).1,(hS 9 _ rfl (by decide)).1,(hS 10 _ rfl (by decide)).1,(hS 11 _ rfl (by decide)).1,(hS 12 _ rfl (by decide)).1,trivial,hxl.symm,trivial⟩;simp only [puts,Act.put,dQ,dR,dS] at ha;subst ha;clear hS hF hxl;refine wp_assign (.tmp 22) 3 rfl rfl ?_;simp only [Act.put,dQ,dR,dS];go_wp2;exact bodyPost_ret (gK rfl _ _ .i64 (w.heap.size+1) 16 _ rfl ZM bZ rfl bC) rfl ⟨rfl,hbel⟩
theorem KE (f:Nat->Int) (Y:Int) (hf:Fe f Y) (Zn:sQ (EC Y)=true) (w:World):Calls Tryz.prog 209 #[El f] w fun e w'=> e=.returned (.tuple #[El (oh (Pq f) (EC Y)),.bool true])/\Below w.heap.size w w':=
 KF true _ f Y hf (fun w=> Lv (Pq f) (EC Y) (Ux hf) Zn w) w
theorem Uk {p:Ed C7} {Y:Int} (hy:toF Y=p.y):Cg (EJ p * EJ p) (EC Y):=by
 refine fQ.1 ?_;unfold EC vP;rw [dx,dx,tV];simp only [jK,eY,dx,dz,Rm,hy,ZI];refine agb (acM p) (inv_mul ?_);have h:=LD p;intro e;apply h
 generalize p.y=y at *
 generalize dE=d at *
 grind
theorem Iw {p:Ed C7} {Y:Int} (hy:toF Y=p.y):sQ (EC Y)=true:=yu (Uk hy)
theorem Ul {p:Ed C7} {f:Nat->Int} {Y:Int} (hf:Fe f Y) (hy:toF Y=p.y) (he:EJ p % 2=0):∃R,Fe (oh (Pq f) (EC Y)) R/\toF R=p.x:=by
 obtain ⟨R,h1,h2,h3⟩:=RH (Ux hf) (Iw hy);refine ⟨R,h1,?_⟩;have h4:R * R % Pr=EJ p * EJ p % Pr:=h2.trans (Uk hy).symm;have hb:=Uo p.x;have hx:EJ p % Pr=EJ p:=Ju hb.1 hb.2;rw [<-ZI];refine fQ.2 ?_;rcases BP h4 with h5 | h5
 ·exact h5
 ·by_cases h0:EJ p=0
  ·rw [h0] at h5 ⊢;exact h5
  ·exfalso
   have e: -EJ p % Pr=Pr - EJ p:=by
    have e1: -EJ p % Pr=(Pr - EJ p) % Pr:=lY (c:= -1) (by omega);rw [e1];have hb':0<=EJ p/\EJ p<Pr:=hb;exact Ju (by omega) (by omega)
   rw [h5,e] at h3;have hp:Pr % 2=1:=by decide
   omega
theorem XP {f g:Nat->Int} {X Y:Int} {p:Ed C7} (hf:Fe f X) (hg:Fe g Y) (hx:toF X=p.x) (hy:toF Y=p.y):rQ (pt f g (aN 1) (aM f g)) p:=by
 refine ⟨f,g,aN 1,aM f g,X,Y,1,X * Y,rfl,⟨hf,hg,pI,hf.aM hg⟩,?_,?_,?_,?_⟩
 ·rw [dz];exact eu
 ·rw [dz,hx];generalize p.x=x;grind
 ·rw [dz,hy];generalize p.y=y;grind
 ·rw [dz,dx,hx,hy];generalize p.x * p.y=z;grind
theorem ZE:Fe (aN 4) 4:=mo _ (by decide)
theorem Uw:Fe (aN 5) 5:=mo _ (by decide)
theorem LX:toF (4 * vP 5)=Bp.y:=by
 unfold vP;have h5:toF 5≠0:=iL.2 (by decide);have h:=fQ.2 Pv;rw [dx] at h;have hi:=inv_mul h5;rw [dx,tV];show _=toF BY
 generalize toF 4=a at *
 generalize toF 5=b at *
 generalize toF BY=c at *
 generalize inv b=i at *
 grind
def oZ:Nat->Int:=aM (aN 4) (ji (aN 5))
theorem qF:Fe oZ (4 * vP 5):=ZE.aM (jB Uw)
def tu:Nat->Int:=oh (Pq oZ) (EC (4 * vP 5))
theorem IC:∃R,Fe tu R/\toF R=Bp.x:=Ul qF LX (by rw [alo];decide)
def Jo:Nat->Int:=pt tu oZ (aN 1) (aM tu oZ)
theorem Xq:rQ Jo Bp:=by
 obtain ⟨R,h1,h2⟩:=IC;exact XP h1 qF h2 LX
theorem Sw (w:World):Calls Tryz.prog 157 #[] w fun e w'=> e=.returned (Jw Jo)/\Below w.heap.size w w':=by
 have HX:Hid (∃R,Fe tu R):=by obtain ⟨R,h,_⟩:=IC;exact ⟨R,h⟩
 obtain ⟨RX,hRX⟩:=HX.out;have HFX:=ak hRX;have HFY:=ak qF;have HFI:Hid (∀w,Calls Tryz.prog 209 #[.agg (arr .i64 16 oZ)] w fun e w'=> e=.returned (.tuple #[.agg (arr .i64 16 tu),.bool true])/\Below w.heap.size w w'):=fun w=> KE oZ _ qF (Iw LX) w;have HMD:Hid (∀w,Calls Tryz.prog 212 #[.agg (arr .i64 16 tu),.agg (arr .i64 16 oZ)] w fun e w'=> e=.returned (.agg (arr .i64 64 Jo))/\Below w.heap.size w w'):=fun w=> zw _ _ _ _ hRX qF w;have HM:Hid (∀w,Calls Tryz.prog 203 #[.agg (arr .i64 16 (aN 4)),.agg (arr .i64 16 (ji (aN 5)))] w fun e w'=> e=.returned (.agg (arr .i64 16 oZ))/\Below w.heap.size w w'):=fun w=> bI _ _ _ _ ZE (jB Uw) w;clear hRX;obtain ⟨bxF,hbx⟩:∃x,x=tu:=⟨_,rfl⟩
 obtain ⟨byF,hby⟩:∃x,x=oZ:=⟨_,rfl⟩
 obtain ⟨bF,hbF⟩:∃x,x=Jo:=⟨_,rfl⟩
 rw [<-hbF] at HMD ⊢;rw [<-hbx] at HFX HFI HMD;rw [<-hby] at HFY HFI HMD HM;clear hbx hby hbF HX
 go_enter Tryz.func157,Tryz.ntmps157
 go_upto_region 1 with (fail);refine aD (fun w1=> aF .i64 w1 w.heap.size 64 (fun _=> 0)/\Below w.heap.size w w1) ⟨bM rfl (by rfl),(bN _ _).alloc (bA _) _⟩ ?_;rintro w1 ⟨hZ,hbel⟩
 refine bB (n:=16) (by kernel_rfl) (by kernel_rfl) (by kernel_rfl) rfl
  (jh [(5,4)]) (fJ [(5,4)]) (fun _=> arr .i64 16 (fun _=> 0)) (fun _=> (arr .i64 16 (byF))) (fun _=> 191) (fun _=> 1)
  (fun ii vv _=> (match ii with | 0=> vv=.agg (arr .i64 16 (aN 4)) | 1=> vv=.agg (arr .i64 16 (aN 5)) | 2=> vv=.agg (arr .i64 16 (ji (aN 5))) | 3=> vv=.agg (arr .i64 16 (byF)) | _=> True)) (fun _ _=> True) (fun _ _ _=> trivial) (fun _ _ _ _ _ _ _=> trivial) (fun _ _ _ _ h _=> h)
  (gF rfl) (eG rfl) ?_ ?_ ?_ ?_
 ·refine cO ?_;refine ⟨?_,?_,?_,?_,(fun h=> by cases h),(fun _ h=> by cases h),trivial⟩
  ·intro _ _ a w2 hB hF hd;refine aH <| aC _ _ _ rfl Tryz.call200 _ (args1 rfl) (by simp) ((dW 4 w2).mono ?_);rintro e w3 ⟨rfl,hb⟩;exact ⟨_,rfl,rfl,hb⟩
  ·intro _ _ a w2 hB hF hd;refine aH <| aC _ _ _ rfl Tryz.call200 _ (args1 rfl) (by simp) ((dW 5 w2).mono ?_);rintro e w3 ⟨rfl,hb⟩;exact ⟨_,rfl,rfl,hb⟩
  ·intro _ _ a w2 hB hF hd;refine aH <| aC _ _ _ rfl Tryz.call204 _ (args1 (hd 1 _ rfl rfl rfl (aj rfl))) (by simp) ((jw _ _ Uw w2).mono ?_);rintro e w3 ⟨rfl,hb⟩;exact ⟨_,rfl,rfl,hb⟩
  ·intro _ _ a w2 hB hF hd;refine aH <| aC _ _ _ rfl Tryz.call203 _ (args2 (hd 0 _ rfl rfl rfl (aj rfl)) (hd 2 _ rfl rfl rfl (aj rfl))) (by simp) ((HM.out w2).mono ?_);rintro e w3 ⟨rfl,hb⟩;exact ⟨_,rfl,rfl,hb⟩
 ·refine cO ?_;refine ⟨(fun h=> by cases h),(fun h=> by cases h),(fun h=> by cases h),(fun h=> by cases h),?_,(fun h=> by cases h),trivial⟩
  ·exact fun _=> ⟨rfl,rfl,fun a w2 K h=> aU rfl rfl Tryz.zeroValue191 (by simp) h⟩
 ·refine cO ?_;refine ⟨(fun _ h=> by cases h),(fun _ h=> by cases h),(fun _ h=> by cases h),(fun _ h=> by cases h),(fun _ h=> by cases h),?_,trivial⟩
  ·intro p hp;obtain rfl:4=p:=fO hp;exact ⟨rfl,rfl,⟨_,rfl⟩,aj rfl,fun a w2 b K hB hF hd hx hb h=> bD rfl rfl bC hx (hd 3 _ rfl rfl rfl (aj rfl)) hb h⟩
 ·intro a w2 blk hB hF hS hv hfin dD;obtain ⟨v4,QU,WG⟩:=hv 4 _ rfl rfl;have ha:=aI rfl rfl hF [_,_,_,_,_,undef] rfl ⟨hS 0 _ rfl rfl rfl,hS 1 _ rfl rfl rfl,hS 2 _ rfl rfl rfl,hS 3 _ rfl rfl rfl,v4,trivial,trivial⟩;have f4:=hfin 5 _ 4 rfl rfl;simp only [puts,Act.put,dQ,dR,dS] at ha;subst ha;have V4:aF .i64 w2 (blk 4) 16 (byF):=⟨_,f4⟩
  clear hS hv hfin dD hF v4 f4;replace hZ:=hZ.kept hB;replace hbel:=hbel.trans (hB.mono hbel.size);obtain ⟨x1,e1⟩:∃x,x=blk 4:=⟨_,rfl⟩
  rw [<-e1] at V4 ⊢;have h1:=V4;clear V4 hB e1 QU WG;go_upto_region 2 with (fail)
  refine bB (n:=16) (by kernel_rfl) (by kernel_rfl) (by kernel_rfl) rfl
   (jh [(6,5)]) (fJ [(6,5)]) (fun _=> arr .i64 16 (fun _=> 0)) (fun _=> (arr .i64 16 (bxF))) (fun _=> 191) (fun _=> 2)
   (fun ii vv _=> (match ii with | 0=> vv=.agg (arr .i64 16 (byF)) | 1 | 2=> vv=.tuple #[.agg (arr .i64 16 (bxF)),.bool true] | 3=> vv=.agg (arr .i64 16 (bxF)) | 4 | 7=> vv=.bool true | _=> True)) (fun _ _=> True) (fun _ _ _=> trivial) (fun _ _ _ _ _ _ _=> trivial) (fun _ _ _ _ h _=> h)
   (gF rfl) (eG rfl) ?_ ?_ ?_ ?_
  ·refine cO ?_;refine ⟨?_,?_,?_,?_,?_,(fun h=> by cases h),(fun _ h=> by cases h),?_,trivial⟩
   ·intro _ _ a w2 hB hF hd;exact aH <| aP (aB rfl bZ rfl bC (hF.same 1 rfl) (h1.below hB h1.lt)) rfl
   ·intro _ _ a w2 hB hF hd;refine aH <| aC _ _ _ rfl Tryz.call209 _ (args1 (hd 0 _ rfl rfl rfl (aj rfl))) (by simp) ((HFI.out w2).mono ?_);rintro e w3 ⟨rfl,hb⟩;exact ⟨_,rfl,rfl,hb⟩
   ·intro _ _ a w2 hB hF hd;exact aH <| dJ rfl (hd 1 _ rfl rfl rfl (aj rfl))
   ·intro _ _ a w2 hB hF hd;exact aH <| aP (bg rfl (hd 2 _ rfl rfl rfl (aj rfl)) rfl) rfl
   ·intro _ _ a w2 hB hF hd;exact aH <| aP (bg rfl (hd 2 _ rfl rfl rfl (aj rfl)) rfl) rfl
   ·intro _ _ a w2 hB hF hd;exact aH <| mH rfl (hd 4 _ rfl rfl rfl (aj rfl))
  ·refine cO ?_;refine ⟨(fun h=> by cases h),(fun h=> by cases h),(fun h=> by cases h),(fun h=> by cases h),(fun h=> by cases h),?_,(fun h=> by cases h),(fun h=> by cases h),trivial⟩
   ·exact fun _=> ⟨rfl,rfl,fun a w2 K h=> aU rfl rfl Tryz.zeroValue191 (by simp) h⟩
  ·refine cO ?_;refine ⟨(fun _ h=> by cases h),(fun _ h=> by cases h),(fun _ h=> by cases h),(fun _ h=> by cases h),(fun _ h=> by cases h),(fun _ h=> by cases h),?_,(fun _ h=> by cases h),trivial⟩
   ·intro p hp;obtain rfl:5=p:=fO hp;exact ⟨rfl,rfl,⟨_,rfl⟩,aj rfl,fun a w2 b K hB hF hd hx hb h=> bD rfl rfl bC hx (hd 3 _ rfl rfl rfl (aj rfl)) hb h⟩
  ·intro a w3 blk hB hF hS hv hfin dD;obtain ⟨v5,Fu,Wq⟩:=hv 5 _ rfl rfl;have ha:=aI rfl rfl hF [_,_,_,_,_,_,undef,_] rfl ⟨hS 0 _ rfl rfl rfl,hS 1 _ rfl rfl rfl,hS 2 _ rfl rfl rfl,hS 3 _ rfl rfl rfl,hS 4 _ rfl rfl rfl,v5,trivial,hS 7 _ rfl rfl rfl,trivial⟩;have f5:=hfin 6 _ 5 rfl rfl;simp only [puts,Act.put,dQ,dR,dS] at ha;subst ha;have V5:aF .i64 w3 (blk 5) 16 (bxF):=⟨_,f5⟩
   clear hS hv hfin dD hF v5 f5;replace hZ:=hZ.kept hB;replace h1:=h1.kept hB;replace hbel:=hbel.trans (hB.mono hbel.size);obtain ⟨x2,e2⟩:∃x,x=blk 5:=⟨_,rfl⟩
   rw [<-e2] at V5 ⊢;have h2:=V5;clear V5 hB e2 Fu Wq;go_upto_region 3 with (fail)
   refine dw (n:=16) (fun i=> i==3) (by kernel_rfl) (by kernel_rfl) (by kernel_rfl) (by kernel_rfl) rfl
    (fun ii vv _=> (match ii with | 0=> vv=.agg (arr .i64 16 (bxF)) | 1=> vv=.agg (arr .i64 16 (byF)) | 2=> vv=.agg (arr .i64 64 (bF)) | _=> True))
    (fun w w'=> Below w.heap.size w w') (fun _ _ h=> h) (fun _ _ _ _ h _=> h)
    (fun _=> w.heap.size) (fun _=> (arr .i64 64 (fun _=> 0))) (fun _=> (arr .i64 64 (bF)))
    (by intro i j _ _ hpi iI hne;simp only [beq_iff_eq] at hpi iI;omega)
    (by intro i _ hpi;exact (hZ).row)
    ?_ ?_ ?_
   ·refine cO ?_;refine ⟨?_,?_,?_,(aJ),trivial⟩
    ·intro _ a w2 hB hF hd;exact aH <| aP (aB rfl bZ rfl bC (hF.same 2 rfl) (h2.below hB h2.lt)) rfl
    ·intro _ a w2 hB hF hd;exact aH <| aP (aB rfl bZ rfl bC (hF.same 1 rfl) (h1.below hB h1.lt)) rfl
    ·intro _ a w2 hB hF hd;refine aH <| aC _ _ _ rfl Tryz.call212 _ (args2 (hd 0 _ rfl rfl (aj rfl)) (hd 1 _ rfl rfl (aj rfl))) (by simp) ((HMD.out w2).mono ?_);rintro e w3 ⟨rfl,hb⟩;exact ⟨_,rfl,rfl,hb⟩
   ·refine cO ?_;refine ⟨(aJ),(aJ),(aJ),?_,trivial⟩
    ·intro _ a w1 w2 K hB hF hS hr hK;exact aX 193 _ _ rfl .i64 (w.heap.size) 64 (fun _=> 0) (bF) Tryz.size193 (hF.same 0 rfl) (hS 2 _ rfl rfl) hr hK
   ·intro a wf w4 hB hF hS hfil;have other:∀{k:IntKind} {qb n:Nat} {f:Nat->Int},qb≠w.heap.size->aF k wf qb n f->aF k w4 qb n f:=fun {k qb n f} e0 hA=> hfil.arr (by intro i _ hpi;simp only [jG,beq_iff_eq] at hpi;subst hpi<;> ((try simp only []);(try dsimp only);omega)) hA;have dF:∀{B:Nat} {w0:World},B<=w.heap.size->Below B w0 wf->Below B w0 w4:=fun {B w0} e0 hA=> hfil.below (by intro i _ hpi;simp only [jG,beq_iff_eq] at hpi;subst hpi<;> ((try simp only []);(try dsimp only);omega)) hA;have V3:aF .i64 w4 (w.heap.size) 64 (bF):=hfil.at 3 (by decide) rfl;have qz:=hfil.size;clear hfil;have ha:=aI rfl rfl hF [_,_,_,undef] rfl ⟨hS 0 _ rfl rfl,hS 1 _ rfl rfl,hS 2 _ rfl rfl,trivial,trivial⟩;simp only [puts,Act.put,dQ,dR,dS] at ha;subst ha;clear hS hF;have hb:=dF (bA _) (hbel.trans (hB.mono hbel.size));go_wp2;exact bodyPost_ret (dn rfl _ _ .i64 w.heap.size 64 _ rfl V3 EZ rfl Tryz.size193) rfl ⟨rfl,hb⟩
end Go.Proofs.YtpcjekgfnfjbpaaGreat
namespace Go.Proofs.YtpcjekgfnfjbpaaGreat
open Go.RowKit Go.aZ
theorem aeP {v:Value} {p:Ed C7} (n:Nat) (hn:n<2 ^ 256) (w:World) (hp:YL v p):
  Calls Tryz.prog 158 #[v,.agg (arr .u8 32 (dg 256 (n:Int)))] w fun e w'=> ∃r,e=.returned r/\YL r (p.mul n)/\Below w.heap.size w w':=by
 obtain ⟨F,rfl,h⟩:=hp;refine (Xu h n hn w).mono ?_;rintro e w' ⟨G,rfl,hG,hb⟩;exact ⟨_,rfl,⟨G,rfl,hG⟩,hb⟩
theorem Xv {v:Value} {p:Ed C7} (w:World) (hp:YL v p):Calls Tryz.prog 161 #[v] w fun e w'=> e=.returned (.agg (arr .u8 32 (dg 256 (mK p))))/\Below w.heap.size w w':=by
 obtain ⟨F,rfl,h⟩:=hp;exact OH h w
end Go.Proofs.YtpcjekgfnfjbpaaGreat
