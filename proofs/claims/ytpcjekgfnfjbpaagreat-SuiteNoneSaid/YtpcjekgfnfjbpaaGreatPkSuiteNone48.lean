/-
  Part 48 of SuiteNone. Conditions: named in each theorem.
-/
import Derived.Test.YtpcjekgfnfjbpaaGreatPkSuiteNone47
import Derived.Test.YtpcjekgfnfjbpaaGreatPkSuiteNone14
set_option linter.unusedVariables false
set_option linter.unusedSimpArgs false
set_option maxRecDepth 100000
set_option maxHeartbeats 12800000
namespace Go.bI
open Go.RowKit
def qm (F:Nat->Int) (p:Ed C7):Prop:=∃f g h e X Y Z T,F=pt f g h e/\rP f g h e X Y Z T/\wG X Y Z T p
theorem wG.zero:wG 0 1 1 (0 * 1) .zero:=by
 refine ⟨?_,?_,?_,?_⟩
 ·rw [dF];exact eB
 ·rw [fK,dF];show (0:Fp)=0 * 1;grind
 ·rw [dF];show (1:Fp)=1 * 1;grind
 ·rw [Int.zero_mul,fK,dF];show (0:Fp)=0 * 1 * 1;grind
theorem wG.neg {X Y Z T:Int} {p:Ed C7} (h:wG X Y Z T p):wG (-X) Y Z (-T) p.neg:=by
 obtain ⟨h0,h1,h2,h3⟩:=h;refine ⟨h0,?_,h2,?_⟩
 ·rw [jO,h1];show -(p.x * toF Z)= -p.x * toF Z;generalize p.x=a;generalize toF Z=b;grind
 ·rw [jO,h3];show -(p.x * p.y * toF Z)= -p.x * p.y * toF Z;generalize p.x=a;generalize p.y=c;generalize toF Z=b;grind
theorem qm.pick (b:Bool) {f g h e u v r s:Nat->Int} {X Y Z T U V W S:Int} {p q:Ed C7} (h1:rP f g h e X Y Z T) (h2:rP u v r s U V W S) (k1:wG X Y Z T p) (k2:wG U V W S q):qm (pt (aV b f u) (aV b g v) (aV b h r) (aV b e s)) (if b then q else p):=by
 cases b
 ·exact ⟨f,g,h,e,X,Y,Z,T,rfl,h1,k1⟩
 ·exact ⟨u,v,r,s,U,V,W,S,rfl,h2,k2⟩
theorem UF (p:Ed C7) (N:Nat) (b:Bool) (hb:b=(N % 2==1)) {F G:Nat->Int}
  (h7:qm F (if b=true then (if b=true then p.mul (N / 2) else p.mul (N / 2+1)).add (if b=true then p.mul (N / 2+1) else p.mul (N / 2)) else (if b=true then p.mul (N / 2+1) else p.mul (N / 2)).add (if b=true then p.mul (N / 2+1) else p.mul (N / 2))))
  (h8:qm G (if b=true then (if b=true then p.mul (N / 2+1) else p.mul (N / 2)).add (if b=true then p.mul (N / 2+1) else p.mul (N / 2)) else (if b=true then p.mul (N / 2) else p.mul (N / 2+1)).add (if b=true then p.mul (N / 2+1) else p.mul (N / 2)))):
  qm F (p.mul N)/\qm G (p.mul (N+1)):=by
 obtain ⟨M,hM⟩:∃M,M=N / 2:=⟨_,rfl⟩
 rw [<-hM] at h7 h8;cases b
 ·have hN:N=M+M:=by
   have:¬ N % 2=1:=by intro e;rw [e] at hb;exact absurd hb (by decide)
   omega
  have h7':qm F ((p.mul M).add (p.mul M)):=h7;have h8':qm G ((p.mul (M+1)).add (p.mul M)):=h8;rw [<-Ed.mul_add] at h7' h8';rw [hN,show M+M+1=M+1+M by omega];exact ⟨h7',h8'⟩
 ·have hN:N=M+(M+1):=by
   have:N % 2=1:=by have h:=hb.symm;rwa [beq_iff_eq] at h
   omega
  have h7':qm F ((p.mul M).add (p.mul (M+1))):=h7;have h8':qm G ((p.mul (M+1)).add (p.mul (M+1))):=h8;rw [<-Ed.mul_add] at h7' h8';rw [hN,show M+(M+1)+1=M+1+(M+1) by omega];exact ⟨h7',h8'⟩
def wK (p:Ed C7):Int:=((p.x.val:Nat):Int)
def OT (p:Ed C7):Int:=((p.y.val:Nat):Int)
def dB (p:Ed C7):Int:=OT p+(wK p % 2) * 2 ^ 255
theorem lJ (x:Fp):0<=((x.val:Nat):Int)/\((x.val:Nat):Int)<Pr:=by
 have:=x.isLt;rw [ni];omega
theorem Jd {Y Z:Int} {y:Fp} (h0:toF Z≠0) (h:toF Y=y * toF Z):Y * Z ^ (PN - 2) % Pr=((y.val:Nat):Int):=by
 rw [<-gN];have e:toF (Y * Z ^ (PN - 2))=y:=by
  rw [bZ,rR,h];have:=inv_mul h0
  generalize toF Z=z at *
  generalize inv z=i at *
  grind
 rw [e]
theorem KL (Y:Int) (h0:0<=Y) (h1:Y<2 ^ 255):∀i,i<32->upd (dg 256 Y) 31 (dg 256 Y 31+128) i=dg 256 (Y+1 * 2 ^ 255) i:=by
 have key:∀i:Fin 32,upd (dg 256 Y) 31 (dg 256 Y 31+128) i.val=dg 256 (Y+1 * 2 ^ 255) i.val:=by
  intro ⟨i,hi⟩;have e:∀j,dg 256 (Y+1 * 2 ^ 255) j=(Y+1 * 2 ^ 255) / 256 ^ j % 256:=fun _=> rfl;have e':∀j,dg 256 Y j=Y / 256 ^ j % 256:=fun _=> rfl;rcases i with _ | _ | _ | _ | _ | _ | _ | _ | _ | _ | _ | _ | _ | _ | _ | _ | _ | _ | _ | _ | _ | _ | _ | _ | _ | _ | _ | _ | _ | _ | _ | _ | i
  all_goals first
   | omega
   | (simp only [upd,e,e'];simp;omega)
 exact fun i h=> key ⟨i,h⟩
theorem Dr (Y:Int) (h0:0<=Y) (h1:Y<2 ^ 255):0<=dg 256 Y 31/\dg 256 Y 31<128:=by
 show 0<=Y / 256 ^ 31 % 256/\Y / 256 ^ 31 % 256<128;omega
theorem abP (x:Int) (h0:0<=x) (h1:x<128):bits .or .u8 x 128=x+128:=by
 obtain ⟨n,rfl⟩:=Ca h0;have key:∀n:Fin 128,bits .or .u8 ((n.val:Nat):Int) 128=(n.val:Int)+128:=by decide+kernel
 exact key ⟨n,by omega⟩
end Go.bI
namespace Go.bI
theorem wp_assign {P:Program} {o:Oper} {a:Act} {w:World} {K:Act->World->Prop} {Q:Exit->Act->World->Prop} (x:Operand) (d:Nat) (hop:o.op=.assign x) (hd:o.dst=some d) (h:K (a.put (some d) (a.eval x)) w):o.wp P a w K Q:=by
 rw [<-hd] at h;unfold Oper.wp execOp;simp only [hop];exact h
end Go.bI
namespace Go.bI
open Go.RowKit
theorem adz (p:Ed C7):p.x ^ 2 * (1+dE * p.y ^ 2)=p.y ^ 2 - 1:=by
 have ho:p.y ^ 2 - p.x ^ 2=1+dE * p.x ^ 2 * p.y ^ 2:=p.on
 generalize p.x=x at *
 generalize p.y=y at *
 generalize dE=d at *
 grind
theorem Np (p:Ed C7):1+dE * p.y ^ 2≠0:=by
 intro h;have ho:p.y ^ 2 - p.x ^ 2=1+dE * p.x ^ 2 * p.y ^ 2:=p.on;have hd:dE= -1:=by
  generalize p.x=x at *
  generalize p.y=y at *
  generalize dE=d at *
  grind
 exact Wu iE (by rw [JW,hd])
theorem agJ {x y d i:Fp} (h:x ^ 2 * (1+d * y ^ 2)=y ^ 2 - 1) (hi:(d * (y * y)+1) * i=1):x * x=(y * y - 1) * i:=by grind
theorem aaL (p:Ed C7):toF (wK p)=p.x:=uf _
theorem agP (p:Ed C7):toF (OT p)=p.y:=uf _
def BX:Int:=15112221349535400772501151409588531511454012693041857206046113283949847762202
def BY:Int:=46316835694926478169428394003475163141307993866256225615783033603165251855960
theorem Xb:Cg (121666 * (BY * BY - BX * BX - 1)) (-121665 * (BX * BX * (BY * BY))):=by unfold Cg BX BY;decide+kernel
theorem Qo {x y d a b:Fp} (hd:d * b= -a) (hb:b≠0) (h:b * (y * y - x * x - 1)= -a * (x * x * (y * y))):y ^ 2 - x ^ 2=1+d * x ^ 2 * y ^ 2:=by
 refine gK hb ?_
 grind
noncomputable def Bp:Ed C7:=⟨toF BX,toF BY,Qo OU (jh.2 (by decide)) (by
 have h:=fB.2 Xb;simp only [bZ,jN,jO,dF] at h;exact h)⟩
theorem alj:wK Bp=BX:=by unfold wK Bp;rw [gN];decide+kernel
theorem QT:Cg (BY * 5) 4:=by unfold Cg BY;decide+kernel
end Go.bI
namespace Go.bI
def Hf (X Y Z:Int) (p:Ed C7):Prop:=toF Z≠0/\toF X=p.x * toF Z/\toF Y=p.y * toF Z
theorem Uc {x1 y1 z1 x2 y2 z2 d sx sy A B C D:Fp} (hB:B=1+d * (x1 * x2 * (y1 * y2))) (hD:D=1 - d * (x1 * x2 * (y1 * y2))) (hA:A=x1 * y2+x2 * y1) (hC:C=y1 * y2+x1 * x2) (hsx:sx * B=A) (hsy:sy * D=C):
  let w:=z1 * z2
  let L:=w * w - d * ((x1 * z1 * (x2 * z2)) * (y1 * z1 * (y2 * z2)))
  let M:=w * w+d * ((x1 * z1 * (x2 * z2)) * (y1 * z1 * (y2 * z2)))
  let K:=(x1 * z1+y1 * z1) * (x2 * z2+y2 * z2) - x1 * z1 * (x2 * z2) - y1 * z1 * (y2 * z2)
  w * (L * K)=sx * (L * M)/\w * (M * (y1 * z1 * (y2 * z2)+x1 * z1 * (x2 * z2)))=sy * (L * M)/\L=w * w * D/\M=w * w * B:=by
 intro w L M K;have hL:L=w * w * D:=by show _= _;rw [hD];grind
 have hM:M=w * w * B:=by show _= _;rw [hB];grind
 have hK:K=w * A:=by show _= _;rw [hA];grind
 have hE:y1 * z1 * (y2 * z2)+x1 * z1 * (x2 * z2)=w * C:=by rw [hC];grind
 rw [hL,hM,hK,hE];clear hL hM hK hE hB hD hA hC L M K
 generalize w=v
 subst hsx;subst hsy;exact ⟨by grind,by grind,rfl,rfl⟩
theorem Hf.add {X Y Z U V R D:Int} {p q:Ed C7} (hp:Hf X Y Z p) (hq:Hf U V R q) (hD:toF D=dE):Hf (raX X Y Z U V R D) (raY X Y Z U V R D) (raZ X Y Z U V R D) (p.add q):=by
 obtain ⟨h0,h1,h2⟩:=hp;obtain ⟨k0,k1,k2⟩:=hq;obtain ⟨r1,r2,r3,r4⟩:=Uc (z1:=toF Z) (z2:=toF R) (d:=dE) rfl rfl rfl rfl (p.lM q) (p.jX q);unfold Hf raX raY raZ raL raM raC;simp only [bZ,fA,jN,h1,h2,k1,k2,hD];refine ⟨?_,r1,r2⟩;rw [r3,r4];have hw:=bq h0 k0;exact bq (bq (bq hw hw) (p.gZ q)) (bq (bq hw hw) (p.jC q))
theorem Hf.zero:Hf 0 1 1 .zero:=by
 refine ⟨?_,?_,?_⟩
 ·rw [dF];exact eB
 ·rw [fK,dF];show (0:Fp)=0 * 1;grind
 ·rw [dF];show (1:Fp)=1 * 1;grind
end Go.bI
namespace Go.bI
open Go.RowKit
section
variable {P : Program} {ops : Array Oper} {Q : Exit -> Act -> World -> Prop}
end
def tu (v:Value) (p:Ed C7):Prop:=∃F,v=.agg (arr .i64 64 F)/\qm F p
theorem tu.keep {E:Prop} {v:Value} {p:Ed C7} (h:tu v p) (_:E):tu v p:=h
end Go.bI
namespace Go.bI
theorem Xe (x:Int) (h0:0<=x) (h1:x<256):bits .and .u8 x 128=x / 128 * 128:=by
 obtain ⟨n,rfl⟩:=Ca h0;have key:∀n:Fin 256,bits .and .u8 ((n.val:Nat):Int) 128=(n.val:Int) / 128 * 128:=by decide+kernel
 exact key ⟨n,by omega⟩
theorem Xf (x:Int) (h0:0<=x) (h1:x<256):bits .and .u8 x 127=x % 128:=by
 obtain ⟨n,rfl⟩:=Ca h0;have key:∀n:Fin 256,bits .and .u8 ((n.val:Nat):Int) 127=(n.val:Int) % 128:=by decide+kernel
 exact key ⟨n,by omega⟩
theorem YD (o d x:Fp) (ho:o≠0) (hx:x=0) (h:o+d * (x * x)=0):False:=by
 have e:o+d * (x * x)=o:=by rw [hx];clear h ho;grind
 exact ho (e.symm.trans h)
theorem DZ (y:Fp):1+dE * (y * y)≠0:=by
 intro h;have h1:=eB;have hy:y≠0:=by
  intro hy;exact YD 1 dE y h1 hy h
 have hi:=inv_mul hy
 apply Wu (iE * inv y)
 have hs:=JW
 generalize dE=d at *
 generalize iE=i at *
 generalize inv y=z at *
 clear h1
 grind
theorem afq {x y d i:Fp} (h:x * x=(y * y - 1) * i) (hi:(d * (y * y)+1) * i=1):y ^ 2 - x ^ 2=1+d * x ^ 2 * y ^ 2:=by grind
theorem zZ {A:Int} (h0:0<=A) (h1:A<2 ^ 256):A=A % 2 ^ 255+A / 2 ^ 255 * 2 ^ 255/\0<=A % 2 ^ 255/\A % 2 ^ 255<2 ^ 255/\(A / 2 ^ 255=0\/A / 2 ^ 255=1):=by omega
theorem acf {A:Int} (h0:0<=A) (h1:A<2 ^ 256):∀i,i<32->upd (dg 256 A) 31 (dg 256 A 31 % 128) i=dg 256 (A % 2 ^ 255) i:=by
 intro i hi;obtain ⟨e,y0,y1,hb⟩:=zZ h0 h1;obtain ⟨Y,hY⟩:∃Y,Y=A % 2 ^ 255:=⟨_,rfl⟩
 rw [<-hY] at e y0 y1 ⊢;have ht:=Dr Y y0 y1;rcases hb with hb | hb
 ·rw [hb] at e;have e':A=Y:=by omega
  rw [e'];unfold upd
  split
  ·rename_i h;subst h;omega
  ·rfl
 ·rw [hb] at e;have hh:=KL Y y0 y1;rw [<-e] at hh;have h31:=hh 31 (by decide);have hi':=hh i hi;unfold upd at *
  split
  ·rename_i h;subst h
   rw [if_pos rfl] at h31;omega
  ·rename_i h
   rw [if_neg h] at hi';exact hi'.symm
theorem abw {A:Int} (h0:0<=A) (h1:A<2 ^ 256):dg 256 A 31 / 128=A / 2 ^ 255:=by
 show A / 256 ^ 31 % 256 / 128=A / 2 ^ 255;omega
def Ws:Nat:=37095705934669439343138083508754565189542113879843219016388785533085940283555
theorem Tf:toF (Ws:Int)=dE:=by
 have h:Cg ((Ws:Int) * 121666) (-121665):=by unfold Cg;decide+kernel
 have h2:=fB.2 h;rw [bZ,jO] at h2;exact gK (jh.2 (by decide)) (h2.trans OU.symm)
def nR (x y z u v r:Nat):Nat × Nat × Nat:=
 let w:=nM z r
 let c:=nM x u
 let e:=nM y v
 let ww:=nM w w
 let f:=nM Ws (nM c e)
 let l:=nS ww f
 let m:=nA ww f
 let k:=nS (nS (nM (nA x y) (nA u v)) c) e
 (nM w (nM l k),nM w (nM m (nA e c)),nM l m)
def tq (x y z:Nat) (p:Ed C7):Prop:=∃X Y Z,jI x X/\jI y Y/\jI z Z/\Hf X Y Z p
theorem tq.add {x y z u v r:Nat} {p q:Ed C7} (hp:tq x y z p) (hq:tq u v r q):tq (nR x y z u v r).1 (nR x y z u v r).2.1 (nR x y z u v r).2.2 (p.add q):=by
 obtain ⟨X,Y,Z,hx,hy,hz,h1⟩:=hp;obtain ⟨U,V,R,hu,hv,hr,h2⟩:=hq;have hd:jI Ws Ws:=⟨by decide,rfl⟩
 have w:=hz.mul hr;have c:=hx.mul hu;have e:=hy.mul hv;have f:=hd.mul (c.mul e);have l:=(w.mul w).sub f;have m:=(w.mul w).add f;have k:=(((hx.add hy).mul (hu.add hv)).sub c).sub e;exact ⟨_,_,_,w.mul (l.mul k),w.mul (m.mul (e.add c)),l.mul m,h1.add h2 Tf⟩
def bX:Nat:=15112221349535400772501151409588531511454012693041857206046113283949847762202
def bY:Nat:=46316835694926478169428394003475163141307993866256225615783033603165251855960
theorem tq.base:tq bX bY 1 Bp:=by
 refine ⟨BX,BY,1,⟨by decide,rfl⟩,⟨by decide,rfl⟩,⟨by decide,rfl⟩,?_,?_,?_⟩
 ·rw [dF];exact eB
 ·rw [dF];show toF BX=toF BX * 1;generalize toF BX=x;grind
 ·rw [dF];show toF BY=toF BY * 1;generalize toF BY=x;grind
def FU (n:Nat):Nat->Nat->Nat->Nat->Nat × Nat × Nat
 | 0,x,y,z=> (x,y,z)
 | k+1,x,y,z=> if n / 2 ^ k % 2=1 then FU n k (nR (nR x y z x y z).1 (nR x y z x y z).2.1 (nR x y z x y z).2.2 bX bY 1).1 (nR (nR x y z x y z).1 (nR x y z x y z).2.1 (nR x y z x y z).2.2 bX bY 1).2.1 (nR (nR x y z x y z).1 (nR x y z x y z).2.1 (nR x y z x y z).2.2 bX bY 1).2.2 else FU n k (nR x y z x y z).1 (nR x y z x y z).2.1 (nR x y z x y z).2.2
theorem tq.ord {n:Nat}:∀(k x y z:Nat),tq x y z (Bp.mul (n / 2 ^ k))->tq (FU n k x y z).1 (FU n k x y z).2.1 (FU n k x y z).2.2 (Bp.mul n)
 | 0,_,_,_,h=> by rw [Nat.pow_zero,Nat.div_one] at h;exact h
 | k+1,x,y,z,h=> by
  unfold FU;have h2:=h.add h;rw [<-Ed.mul_add] at h2;have hq:n / 2 ^ (k+1)=n / 2 ^ k / 2:=by rw [Nat.pow_succ,Nat.div_div_eq_div_mul]
  by_cases hb:n / 2 ^ k % 2=1
  ·rw [if_pos hb];have h3:=h2.add tq.base;rw [show (Bp.mul (n / 2 ^ (k+1)+n / 2 ^ (k+1))).add Bp=Bp.mul (n / 2 ^ k) by
    rw [<-show Bp.mul (n / 2 ^ (k+1)+n / 2 ^ (k+1)+1)=(Bp.mul (n / 2 ^ (k+1)+n / 2 ^ (k+1))).add Bp from by rw [Ed.mul_add,Ed.mul_one],show n / 2 ^ (k+1)+n / 2 ^ (k+1)+1=n / 2 ^ k by omega]] at h3
   exact tq.ord k _ _ _ h3
  ·rw [if_neg hb];rw [show n / 2 ^ (k+1)+n / 2 ^ (k+1)=n / 2 ^ k by omega] at h2;exact tq.ord k _ _ _ h2
def iW:Nat:=2 ^ 252+27742317777372353535851937790883648493
theorem vL:(FU iW 253 0 1 1).1=0/\(FU iW 253 0 1 1).2.1=(FU iW 253 0 1 1).2.2:=by decide+kernel
theorem tq.zero:tq 0 1 1 .zero:=⟨0,1,1,⟨by decide,rfl⟩,⟨by decide,rfl⟩,⟨by decide,rfl⟩,Hf.zero⟩
theorem Bu:Bp.mul iW=.zero:=by
 have h:=tq.ord (n:=iW) 253 0 1 1 (by rw [show iW / 2 ^ 253=0 by decide];exact tq.zero);obtain ⟨X,Y,Z,hx,hy,hz,h0,h1,h2⟩:=h;rw [vL.1] at hx;rw [vL.2] at hy;have ex:toF X=0:=by rw [<-fK];exact fB.2 hx.2.symm
 have ey:toF Y=toF Z:=fB.2 (hy.2.symm.trans hz.2);rw [ex] at h1;rw [ey] at h2;refine Ed.ext ?_ ?_
 ·refine gK h0 ?_;rw [<-h1];show (0:Fp)=0 * toF Z;generalize toF Z=t;grind
 ·refine gK h0 ?_;rw [<-h2];show toF Z=1 * toF Z;generalize toF Z=t;grind
theorem Jw:iW=7237005577332262213973186563042994240857116359379907606001950938285454250989:=by decide
theorem Lf:(1:Fp) - Bp.y≠0:=by
 have e:(1:Fp) - Bp.y=toF (1 - BY):=by rw [jN,dF];rfl
 rw [e];exact jh.2 (by decide+kernel)
theorem Xz:(1:Fp)+Bp.y≠0:=by
 have e:(1:Fp)+Bp.y=toF (1+BY):=by rw [fA,dF];rfl
 rw [e];exact jh.2 (by decide+kernel)
theorem UD:Cg (1 * 9 * (1 - BY)) (1+BY):=by unfold Cg;decide+kernel
theorem aae:nu K1 Bp (toF 9):=by
 refine ⟨?_,Lf,Xz⟩;have h:=fB.2 UD;simp only [bZ,jN,fA,dF] at h;exact h
theorem Zt (a:Fp):a - a=0:=by grind
theorem abe:Bp≠.zero:=by
 intro e;have h:Bp.y=(1:Fp):=by rw [e];rfl
 exact Lf (by rw [h];exact Zt 1)
theorem Yz {p:Ed C7} {k L:Nat} (hf:k ^ (L - 1) % L=1) (hb:p.mul L=.zero) (hL:2<=L) (h:p.mul k=.zero):p=.zero:=by
 obtain ⟨m,rfl⟩:∃m,L=m+2:=⟨L - 2,by omega⟩
 rw [show m+2 - 1=m+1 by omega,Nat.pow_succ,Nat.mul_comm] at hf;obtain ⟨E,hE⟩:∃E,E=k * k ^ m:=⟨_,rfl⟩
 rw [<-hE] at hf;have h1:p.mul E=.zero:=by rw [hE,Ed.nN,h];exact qZ (K:=K1) _
 have e2:E=(m+2) * (E / (m+2))+1:=by
  have:=Nat.div_add_mod E (m+2);rw [hf] at this;exact this.symm
 have h2:(Ed.zero:Ed C7).mul (E / (m+2))=.zero:=qZ (K:=K1) _;rw [e2,Ed.mul_add,Ed.nN,hb,Ed.mul_one,h2,Ed.zero_add] at h1;exact h1
theorem Sb {k:Nat} (hk:¬ iW ∣ k):Bp.mul k≠.zero:=by
 intro h;have hp:cB iW:=by rw [Jw];exact Oo
 have hf:=hp.Gt hk;have hb:=Bu;have h2:=hp.1
 generalize iW=L at hf hb h2
 exact abe (Yz hf hb h2 h)
theorem WJ (S:Int):∃m:Nat,eD S=(m:Int)/\m<2 ^ 255/\m % 8=0/\2 ^ 254<=m/\(m:Int) / 2 ^ 254 % 2=1:=by
 obtain ⟨m,hm,h1,_,h3⟩:=xH S;have e:eD S=8 * (S % 2 ^ 254 / 8+2 ^ 251):=by unfold eD;omega
 have h2:(m:Int)=8 * (S % 2 ^ 254 / 8+2 ^ 251):=by rw [<-hm,e]
 refine ⟨m,hm,h1,?_,?_,h3⟩
 ·omega
 ·have h4:0<=S % 2 ^ 254 / 8:=by omega
  omega
theorem Bf {m:Nat} (h1:m<2 ^ 255) (h2:m % 8=0) (h3:2 ^ 254<=m):¬ iW ∣ m:=by
 rintro ⟨c,hc⟩;have hc8:c<8:=by
  rcases Nat.lt_or_ge c 8 with h | h
  ·exact h
  ·exfalso
   have h4:=Nat.mul_le_mul_left iW h;rw [<-hc] at h4;have h5:2 ^ 255<=iW * 8:=by decide
   exact Nat.lt_irrefl _ (uK h1 (jG h5 h4))
 subst hc;have key:∀c:Fin 8,iW * c.val % 8=0->¬ 2 ^ 254<=iW * c.val:=by decide
 exact key ⟨c,hc8⟩ h2 h3
theorem Md {m n:Nat} (m1:m<2 ^ 255) (m2:m % 8=0) (m3:2 ^ 254<=m) (m4:(m:Int) / 2 ^ 254 % 2=1) (n1:n<2 ^ 255) (n2:n % 8=0) (n3:2 ^ 254<=n):toF (iX m (iX n 9 % Pr))≠0:=by
 have h:=Gd (K:=K1) rfl Bp aae m n m1 n1 (by clear m1 m3 m4 n1 n2 n3;omega) m4;intro h9;rw [h9] at h;have hz:=JC h.symm;have hz2:Bp.mul (n * m * 2)=.zero:=by
  rw [Ed.nN];show ((Ed.mul (Bp.mul (n * m)) 1).add (Bp.mul (n * m)))= _;rw [Ed.mul_one];exact hz
 have hp:cB iW:=by rw [Jw];exact Oo
 have hn2:¬ iW ∣ 2:=by decide
 refine Sb ?_ hz2;intro hd;rcases hp.dvd_mul hd with h1 | h1
 ·rcases hp.dvd_mul h1 with h2 | h2
  ·exact Bf n1 n2 n3 h2
  ·exact Bf m1 m2 m3 h2
 ·exact hn2 h1
theorem PO (S T:Int):iX (eD S) (iX (eD T) (9 % 2 ^ 255) % Pr % 2 ^ 255) % Pr≠0:=by
 obtain ⟨m,em,m1,m2,m3,m4⟩:=WJ S;obtain ⟨n,en,n1,n2,n3,n4⟩:=WJ T;have e9:(9:Int) % 2 ^ 255=9:=by decide
 rw [rz,e9,em,en];exact jh.1 (Md m1 m2 m3 m4 n1 n2 n3)
end Go.bI
namespace Go.Proofs.YtpcjekgfnfjbpaaGreat
open Go.RowKit Go.bI Go.ChangeShapes
attribute [local go_sem ↓] Go.wp_at_zero Go.wp_at_succ
abbrev Ho (F:Nat->Int):Value:=.agg (arr .i64 64 F)
theorem Oq {A B:Nat->Int} {p q:Ed C7} (hA:qm A p) (hB:qm B q):∃F,qm F (p.add q)/\∀w,Calls Tryz.prog 221 #[Ho A,Ho B,El yV] w fun e w'=> e=.returned (Ho F)/\Below w.heap.size w w':=by
 obtain ⟨f,g,h,e,X,Y,Z,T,rfl,h1,h2⟩:=hA;obtain ⟨u,v,r,s,U,V,W,S,rfl,k1,k2⟩:=hB;exact ⟨_,⟨_,_,_,_,_,_,_,_,rfl,rP.sum h1 k1 OO,h2.sum k2 Tc⟩,fun w=> DT f g h e u v r s yV X Y Z T U V W S _ h1 k1 OO w⟩
theorem Yx {A B:Nat->Int} {p q:Ed C7} (hA:qm A p) (hB:qm B q):∃F,qm F (p.add q)/\∀w,Calls Tryz.prog 159 #[Ho A,Ho B] w fun e w'=> e=.returned (Ho F)/\Below w.heap.size w w':=by
 obtain ⟨f,g,h,e,X,Y,Z,T,rfl,h1,h2⟩:=hA;obtain ⟨u,v,r,s,U,V,W,S,rfl,k1,k2⟩:=hB;exact ⟨_,⟨_,_,_,_,_,_,_,_,rfl,rP.sum h1 k1 OO,h2.sum k2 Tc⟩,fun w=> Qg f g h e u v r s X Y Z T U V W S h1 k1 w⟩
theorem Yv {A:Nat->Int} {p:Ed C7} (hA:qm A p):∃F,qm F p.neg/\∀w,Calls Tryz.prog 160 #[Ho A] w fun e w'=> e=.returned (Ho F)/\Below w.heap.size w w':=by
 obtain ⟨f,g,h,e,X,Y,Z,T,rfl,h1,h2⟩:=hA;exact ⟨_,⟨_,_,_,_,_,_,_,_,rfl,⟨h1.1.iy,h1.2.1,h1.2.2.1,h1.2.2.2.iy⟩,h2.neg⟩,fun w=> Qf f g h e X Y Z T h1 w⟩
theorem Jv (b:Bool) {A B:Nat->Int} {p q:Ed C7} (hA:qm A p) (hB:qm B q):∃F G,qm F (if b then q else p)/\qm G (if b then p else q)/\∀w,Calls Tryz.prog 220 #[Ho A,Ho B,.bool b] w fun e w'=> e=.returned (.tuple #[Ho F,Ho G])/\Below w.heap.size w w':=by
 obtain ⟨f,g,h,e,X,Y,Z,T,rfl,h1,h2⟩:=hA;obtain ⟨u,v,r,s,U,V,W,S,rfl,k1,k2⟩:=hB;exact ⟨_,_,qm.pick b h1 k1 h2 k2,qm.pick b k1 h1 k2 h2,fun w=> CO b f g h e u v r s X Y Z T U V W S h1 k1 w⟩
theorem Mw:∃F,qm F .zero/\∀w,Calls Tryz.prog 219 #[] w fun e w'=> e=.returned (Ho F)/\Below w.heap.size w w':=
 ⟨_,⟨_,_,_,_,_,_,_,_,rfl,⟨Km,qy,qy,Km.aL qy⟩,wG.zero⟩,fun w=> FL w⟩
theorem Yw {A:Nat->Int} {p:Ed C7} (hp:qm A p) (n:Nat) (hn:n<2 ^ 256) (w:World):
  Calls Tryz.prog 158 #[Ho A,.agg (arr .u8 32 (dg 256 (n:Int)))] w fun e w'=> ∃F,e=.returned (Ho F)/\qm F (p.mul n)/\Below w.heap.size w w':=by
 have Sr:=ak hp;obtain ⟨f,g,h,e,X,Y,Z,T,hA0,h1,h2⟩:=hp;have HP:=ak h1;have HZ0:Hid (¬ Z % Pr=0 % Pr):=fun e=> h2.1 (by rw [<-fK];exact fB.2 e);have HA0:=ak hA0;obtain ⟨FN,hFN,hNO⟩:=Mw;have HN0:=ak hNO;have HFN:=ak hFN;obtain ⟨N,hN⟩:∃N,N=(n:Int):=⟨_,rfl⟩
 have Xw:=ak hN;rw [<-hN];have anW:=ak hn;have HM0:Hid (p.mul (n / 2 ^ (256 - 0))=.zero):=by
  unfold Hid;rw [Nat.sub_zero,Nat.div_eq_of_lt hn];rfl
 have HM1:Hid (p.mul (n / 2 ^ (256 - 0)+1)=p):=by
  unfold Hid;rw [Nat.sub_zero,Nat.div_eq_of_lt hn];exact p.mul_one
 obtain ⟨dd,hdd⟩:∃x,x=yV:=⟨_,rfl⟩
 have HDD:=ak hdd;have alh:Hid (∀w,Calls Tryz.prog 218 #[.agg (arr .i64 16 iG),.agg (arr .i64 16 iG)] w fun e w'=> e=.returned (.agg (arr .i64 16 dd))/\Below w.heap.size w w'):=fun w=> by rw [hdd];exact fZ _ _ _ _ jr jr w
 clear h1 h2 hA0 hNO hFN hN hdd hn
 go_enter Tryz.func158,Tryz.ntmps158
 go_upto_region 1 with (fail)
 refine aG (fun w1=> aH .i64 w1 w.heap.size 64 A/\aH .u8 w1 (w.heap.size+1) 32 (dg 256 N)/\aH .i64 w1 (w.heap.size+2) 64 (fun _=> 0)/\Below w.heap.size w w1)
  ⟨.alloc (.alloc (bG rfl rfl) _) _,.alloc (bG (by first | omega | (simp<;> omega)) rfl) _,bG (by first | omega | (simp<;> omega)) (by rfl),(((bM _ _).alloc (bB _) _).alloc (by first | omega | (simp<;> omega)) _).alloc (by first | omega | (simp<;> omega)) _⟩ ?_
 rintro w1 ⟨hA,hNb,hZ,hbel⟩;have hAp:=hA;rw [HA0.out] at hAp
 refine aR (n:=59) (by kernel_rfl) (by kernel_rfl) (by kernel_rfl) rfl
  (fun ii vv _=> (match ii with | 0=> vv=.pointer (some ⟨w.heap.size,32,none⟩) | 1=> vv=.agg (arr .i64 16 (h)) | 2=> vv=.agg (arr .i64 16 (aN 0)) | 3=> vv=.bool false | _=> True))
  (fun w w'=> Below w.heap.size w w') (fun _ _ h=> h) (fun _ _ _ _ h _=> h) ?_ ?_
 ·refine bQ ?_;refine ⟨?_,?_,?_,?_,trivial⟩
  ·intro a w2 hB hF hd;refine aJ <| aO (bC (m:=15) (k:=32) rfl (hF.same 2 rfl) (by kernel_rfl)) ?_;exact rfl
  ·intro a w2 hB hF hd;exact aJ <| aO (bH rfl (hd 0 _ rfl (aj rfl)) bT rfl bE (fun i hi=> (hB.cell (p:=⟨w.heap.size,32+i,none⟩) hAp.lt).trans (Mq hAp i hi))) rfl
  ·intro a w2 hB hF hd;refine aJ <| aD _ _ _ rfl Tryz.call200 _ (args1 rfl) (by simp) ((dR 0 w2).mono ?_);rintro e w3 ⟨rfl,hb⟩;exact ⟨_,rfl,rfl,hb⟩
  ·intro a w2 hB hF hd;refine aJ <| aD _ _ _ rfl Tryz.call210 _ (args2 (hd 1 _ rfl (aj rfl)) (hd 2 _ rfl (aj rfl))) (by simp) ((qc _ _ _ _ HP.out.2.2.1 Km HZ0.out w2).mono ?_);rintro e w3 ⟨rfl,hb⟩;exact ⟨_,rfl,rfl,hb⟩
 ·intro a w2 hB hF hS;have ha:=aI rfl rfl hF [_,_,_,_] rfl ⟨hS 0 _ rfl,hS 1 _ rfl,hS 2 _ rfl,hS 3 _ rfl,trivial⟩;simp only [puts,Act.put,dH,dI,dJ] at ha;subst ha;clear hS hF;replace hA:=hA.kept hB;replace hNb:=hNb.kept hB;replace hZ:=hZ.kept hB;replace hbel:=hbel.trans (hB.mono hbel.size);clear hB hAp;go_upto_region 3 with (fail)
  refine aT (n:=59) (by kernel_rfl) (by kernel_rfl) (by kernel_rfl) rfl
   (gJ [(2,1)]) (dS [(2,1)]) (fun _=> arr .i64 16 (fun _=> 0)) (fun _=> (arr .i64 16 (iG))) (fun _=> 191) (fun _=> 5)
   (fun ii vv _=> (match ii with | 0=> vv=.agg (arr .i64 16 (iG)) | _=> True)) (fun _ _=> True) (fun _ _ _=> trivial) (fun _ _ _ _ _ _ _=> trivial) (fun _ _ _ _ h _=> h)
   (eT rfl) (dA rfl) ?_ ?_ ?_ ?_
  ·refine bQ ?_;refine ⟨?_,(fun h=> by cases h),(fun _ h=> by cases h),trivial⟩
   ·intro _ _ a w2 hB hF hd;refine aJ <| aD _ _ _ rfl Tryz.call217 _ pz (by simp) ((qV w2).mono ?_);rintro e w3 ⟨rfl,hb⟩;exact ⟨_,rfl,rfl,hb⟩
  ·refine bQ ?_;refine ⟨(fun h=> by cases h),?_,(fun h=> by cases h),trivial⟩
   ·exact fun _=> ⟨rfl,rfl,fun a w2 K h=> aP rfl rfl Tryz.zeroValue191 (by simp) h⟩
  ·refine bQ ?_;refine ⟨(fun _ h=> by cases h),(fun _ h=> by cases h),?_,trivial⟩
   ·intro p hp;obtain rfl:1=p:=fT hp;exact ⟨rfl,rfl,⟨_,rfl⟩,aj rfl,fun a w2 b K hB hF hd hx hb h=> aY rfl rfl bE hx (hd 0 _ rfl rfl rfl (aj rfl)) hb h⟩
  ·intro a w3 blk hB hF hS hv hfin bU;obtain ⟨v1,v1l,v1u⟩:=hv 1 _ rfl rfl;have ha:=aI rfl rfl hF [_,_,undef] rfl ⟨hS 0 _ rfl rfl rfl,v1,trivial,trivial⟩;have f1:=hfin 2 _ 1 rfl rfl;simp only [puts,Act.put,dH,dI,dJ] at ha;subst ha;have V1:aH .i64 w3 (blk 1) 16 (iG):=⟨_,f1⟩
   clear hS hv hfin bU hF v1 f1;replace hA:=hA.kept hB;replace hNb:=hNb.kept hB;replace hZ:=hZ.kept hB;replace hbel:=hbel.trans (hB.mono hbel.size);obtain ⟨x5,e5⟩:∃x,x=blk 1:=⟨_,rfl⟩
   rw [<-e5] at V1 ⊢;have h5:=V1;clear V1 hB e5 v1l v1u;go_upto_region 4 with (fail)
   refine aT (n:=59) (by kernel_rfl) (by kernel_rfl) (by kernel_rfl) rfl
    (gJ [(4,3)]) (dS [(4,3)]) (fun _=> arr .i64 16 (fun _=> 0)) (fun _=> (arr .i64 16 (dd))) (fun _=> 191) (fun _=> 6)
    (fun ii vv _=> (match ii with | 0 | 1=> vv=.agg (arr .i64 16 (iG)) | 2=> vv=.agg (arr .i64 16 (dd)) | _=> True)) (fun _ _=> True) (fun _ _ _=> trivial) (fun _ _ _ _ _ _ _=> trivial) (fun _ _ _ _ h _=> h)
    (eT rfl) (dA rfl) ?_ ?_ ?_ ?_
   ·refine bQ ?_;refine ⟨?_,?_,?_,(fun h=> by cases h),(fun _ h=> by cases h),trivial⟩
    ·intro _ _ a w2 hB hF hd;exact aJ <| aO (aB rfl bT rfl bE (hF.same 5 rfl) (h5.below hB h5.lt)) rfl
    ·intro _ _ a w2 hB hF hd;exact aJ <| aO (aB rfl bT rfl bE (hF.same 5 rfl) (h5.below hB h5.lt)) rfl
    ·intro _ _ a w2 hB hF hd;refine aJ <| aD _ _ _ rfl Tryz.call218 _ (args2 (hd 0 _ rfl rfl rfl (aj rfl)) (hd 1 _ rfl rfl rfl (aj rfl))) (by simp) ((alh.out w2).mono ?_);rintro e w3 ⟨rfl,hb⟩;exact ⟨_,rfl,rfl,hb⟩
   ·refine bQ ?_;refine ⟨(fun h=> by cases h),(fun h=> by cases h),(fun h=> by cases h),?_,(fun h=> by cases h),trivial⟩
    ·exact fun _=> ⟨rfl,rfl,fun a w2 K h=> aP rfl rfl Tryz.zeroValue191 (by simp) h⟩
   ·refine bQ ?_;refine ⟨(fun _ h=> by cases h),(fun _ h=> by cases h),(fun _ h=> by cases h),(fun _ h=> by cases h),?_,trivial⟩
    ·intro p hp;obtain rfl:3=p:=fT hp;exact ⟨rfl,rfl,⟨_,rfl⟩,aj rfl,fun a w2 b K hB hF hd hx hb h=> aY rfl rfl bE hx (hd 2 _ rfl rfl rfl (aj rfl)) hb h⟩
   ·intro a w4 blk hB hF hS hv hfin bU;obtain ⟨v3,BR,LB⟩:=hv 3 _ rfl rfl;have ha:=aI rfl rfl hF [_,_,_,_,undef] rfl ⟨hS 0 _ rfl rfl rfl,hS 1 _ rfl rfl rfl,hS 2 _ rfl rfl rfl,v3,trivial,trivial⟩;have f3:=hfin 4 _ 3 rfl rfl;simp only [puts,Act.put,dH,dI,dJ] at ha;subst ha;have V3:aH .i64 w4 (blk 3) 16 (dd):=⟨_,f3⟩
    clear hS hv hfin bU hF v3 f3;have hz4:=hZ.lt;replace hA:=hA.kept hB;replace hNb:=hNb.kept hB;replace hZ:=hZ.kept hB;replace hbel:=hbel.trans (hB.mono hbel.size);obtain ⟨x6,e6⟩:∃x,x=blk 3:=⟨_,rfl⟩
    rw [<-e6] at V3 BR ⊢;have h6:=V3;have l6:w.heap.size+2<x6:=by omega
    clear V3 hB e6 BR LB h5 hz4;go_upto_region 5 with (fail)
    refine aT (n:=59) (by kernel_rfl) (by kernel_rfl) (by kernel_rfl) rfl
     (gJ [(4,2),(5,3)]) (dS [(4,2),(5,3)]) (fun _=> arr .i64 64 (fun _=> 0)) (fun i=> match i with | 2=> (arr .i64 64 (FN)) | 3=> (arr .i64 64 (A)) | _=> #[]) (fun _=> 193) (fun i=> match i with | 2=> 7 | 3=> 8 | _=> 0)
     (fun ii vv _=> (match ii with | 0=> vv=.agg (arr .i64 64 (FN)) | 1=> vv=.agg (arr .i64 64 (A)) | _=> True)) (fun _ _=> True) (fun _ _ _=> trivial) (fun _ _ _ _ _ _ _=> trivial) (fun _ _ _ _ h _=> h)
     (eT rfl) (dA rfl) ?_ ?_ ?_ ?_
    ·refine bQ ?_;refine ⟨?_,?_,(fun h=> by cases h),(fun h=> by cases h),(fun _ h=> by cases h),(fun _ h=> by cases h),trivial⟩
     ·intro _ _ a w2 hB hF hd;refine aJ <| aD _ _ _ rfl Tryz.call219 _ pz (by simp) ((HN0.out w2).mono ?_);rintro e w3 ⟨rfl,hb⟩;exact ⟨_,rfl,rfl,hb⟩
     ·intro _ _ a w2 hB hF hd;exact aJ <| aO (aB rfl uH rfl Tryz.size193 (hF.same 2 rfl) (hA.below hB hA.lt)) rfl
    ·refine bQ ?_;refine ⟨(fun h=> by cases h),(fun h=> by cases h),?_,?_,(fun h=> by cases h),(fun h=> by cases h),trivial⟩
     ·exact fun _=> ⟨rfl,rfl,fun a w2 K h=> aP rfl rfl Tryz.zeroValue193 (by simp) h⟩
     ·exact fun _=> ⟨rfl,rfl,fun a w2 K h=> aP rfl rfl Tryz.zeroValue193 (by simp) h⟩
    ·refine bQ ?_;refine ⟨(fun _ h=> by cases h),(fun _ h=> by cases h),(fun _ h=> by cases h),(fun _ h=> by cases h),?_,?_,trivial⟩
     ·intro p hp;obtain rfl:2=p:=fT hp;exact ⟨rfl,rfl,⟨_,rfl⟩,aj rfl,fun a w2 b K hB hF hd hx hb h=> aY rfl rfl Tryz.size193 hx (hd 0 _ rfl rfl rfl (aj rfl)) hb h⟩
     ·intro p hp;obtain rfl:3=p:=fT hp;exact ⟨rfl,rfl,⟨_,rfl⟩,aj rfl,fun a w2 b K hB hF hd hx hb h=> aY rfl rfl Tryz.size193 hx (hd 1 _ rfl rfl rfl (aj rfl)) hb h⟩
    ·intro a w5 blk hB hF hS hv hfin bU;obtain ⟨v2,Sd,v2u⟩:=hv 2 _ rfl rfl;obtain ⟨v3,BR,LB⟩:=hv 3 _ rfl rfl;have ha:=aI rfl rfl hF [_,_,_,_,undef,undef] rfl ⟨hS 0 _ rfl rfl rfl,hS 1 _ rfl rfl rfl,v2,v3,trivial,trivial,trivial⟩;have f2:=hfin 4 _ 2 rfl rfl;have f3:=hfin 5 _ 3 rfl rfl;have Kw:=bU 2 3 _ _ rfl rfl rfl rfl (by decide);simp only [puts,Act.put,dH,dI,dJ] at ha;subst ha;have V2:aH .i64 w5 (blk 2) 64 (FN):=⟨_,f2⟩
     have V3:aH .i64 w5 (blk 3) 64 (A):=⟨_,f3⟩
     clear hS hv hfin bU hF v2 v3 f2 f3;have hx6:=h6.lt;replace hNb:=hNb.kept hB;replace hZ:=hZ.kept hB;replace h6:=h6.kept hB;replace hbel:=hbel.trans (hB.mono hbel.size);obtain ⟨x7,e7⟩:∃x,x=blk 2:=⟨_,rfl⟩
     obtain ⟨x8,e8⟩:∃x,x=blk 3:=⟨_,rfl⟩
     rw [<-e7] at V2 Sd Kw ⊢;rw [<-e8] at V3 BR Kw ⊢;have h7:=V2;have h8:=V3;have l7:x6<x7:=by omega
     have l8:x6<x8:=by omega
     have l78:x7≠x8:=Kw;clear V2 V3 hB e7 e8 Sd v2u BR LB Kw hx6 hA;have F7:Hid (qm FN (p.mul (n / 2 ^ (256 - 0)))):=by rw [HM0.out];exact HFN.out
     have F8:Hid (qm A (p.mul (n / 2 ^ (256 - 0)+1))):=by rw [HM1.out];exact Sr.out
     go_wp2
     go_loopw [9] (fun i wr=> ∃(k:Nat) (G H:Nat->Int),k<=256/\i=.int .i64 (255 - (k:Int))/\Hid (qm G (p.mul (n / 2 ^ (256 - k))))/\Hid (qm H (p.mul (n / 2 ^ (256 - k)+1)))/\(aH .i64 wr x7 64 G/\aH .i64 wr x8 64 H)/\(aH .i64 wr x6 16 dd/\aH .u8 wr (w.heap.size+1) 32 (dg 256 N)/\aH .i64 wr (w.heap.size+2) 64 (fun _=> 0))/\Below w.heap.size w wr) (fun i _=> (intOf i+1).toNat)
     case atStart=> exact ⟨0,_,_,je _,rfl,F7,F8,⟨h7,h8⟩,⟨h6,hNb,hZ⟩,hbel⟩
     case round=>
      clear h7 h8 h6 hNb hZ hbel F7 F8;obtain ⟨k,G,H,hk,rfl,F7,F8,⟨h7,h8⟩,⟨h6,hNb,hZ⟩,hbel⟩:=hrel;obtain rfl | hlt:=(by omega:k=256\/k<256)
      ·have ei:(255:Int) - ((256:Nat):Int)= -1:=by decide
       rw [ei];clear ei;go_wp2_with (first | (refine bA rfl 193 _ rfl .i64 x7 64 G uH rfl Tryz.size193 rfl h7 ?_) | (refine aF rfl 193 _ _ rfl .i64 (w.heap.size+2) 64 (fun _=> 0) G Tryz.size193 rfl rfl hZ ?_));have hR:qm G (p.mul n):=by have h:=F7.out;rwa [Nat.sub_self,Nat.pow_zero,Nat.div_one] at h
       exact bodyPost_ret (cO rfl _ _ .i64 (w.heap.size+2) 64 _ rfl (hZ.setRow _ _) uH rfl Tryz.size193) rfl ⟨_,rfl,hR,aA hbel (by omega) _⟩
      ·obtain ⟨m,hm⟩:∃m,m=255 - k:=⟨_,rfl⟩
       have ei:(255:Int) - (k:Int)=(m:Int):=by omega
       have HKM:Hid ((m:Int)=255 - (k:Int)):=ei.symm;have HKL:=ak hlt;have afV:m<=255:=by omega
       rw [ei];have Zl:m % 8<8:=Nat.mod_lt _ (by decide);have hq:IntKind.i64.wrap (Int.tdiv (m:Int) 8)=((m / 8:Nat):Int):=by rw [Int.tdiv_eq_ediv_of_nonneg (by omega),gU] <;> omega
       have hr:Int.tmod (m:Int) 8=((m % 8:Nat):Int):=by rw [Int.tmod_eq_emod_of_nonneg (by omega)];omega
       have hc:IntKind.u64.wrap ((m % 8:Nat):Int)=((m % 8:Nat):Int):=jf (by omega) (by omega);obtain ⟨d0,d1⟩:=aX (by decide:(0:Int)<256) N (m / 8);have hsh:=wh (x:=dg 256 N (m / 8)) (m % 8) Zl;have hand:bits .and .u8 (dg 256 N (m / 8) / 2 ^ (m % 8)) 1=N / 2 ^ m % 2:=by
        rw [rM (Int.ediv_nonneg d0 (Int.le_of_lt (gD (by decide) _))) (Int.lt_of_le_of_lt (Int.ediv_le_self _ d0) d1),GQ N m]
       have hpl:((m / 8:Nat):Int).toNat=m / 8:=EM _;have Si:m / 8<32:=by omega
       have hce:=hNb.cell (m / 8) Si;have hBl:=hNb.lt;obtain ⟨bb,hbb⟩:∃bb,bb=(N / 2 ^ m % 2==1):=⟨_,rfl⟩
       go_upto_region 9 with (fail)
       refine aR (n:=59) (by kernel_rfl) (by kernel_rfl) (by kernel_rfl) rfl
        (fun ii vv _=> (match ii with | 0 | 4=> vv=.int .i64 ((m:Int)) | 1=> vv=.int .i64 ((m / 8:Nat)) | 2=> vv=.pointer (some ⟨(w.heap.size+1),(m / 8),none⟩) | 3=> vv=.int .u8 (dg 256 N (m / 8)) | 5=> vv=.int .i64 ((m % 8:Nat)) | 6=> vv=.int .u64 ((m % 8:Nat)) | 7=> vv=.int .u8 (dg 256 N (m / 8) / 2 ^ (m % 8)) | 8=> vv=.int .u8 (N / 2 ^ m % 2) | 9 | 10=> vv=.bool bb | _=> True))
        (fun w w'=> Below w.heap.size w w') (fun _ _ h=> h) (fun _ _ _ _ h _=> h) ?_ ?_
       ·refine bQ ?_;refine ⟨?_,?_,?_,?_,?_,?_,?_,?_,?_,?_,?_,trivial⟩
        ·intro a w2 hB hF hd;exact aJ <| fq rfl (hF.same 9 rfl)
        ·intro a w2 hB hF hd;exact aJ <| aO (Go.bI.zw rfl (hd 0 _ rfl (aj rfl)) rfl (by decide)) (congrArg (Value.int .i64) (hq))
        ·intro a w2 hB hF hd;exact aJ <| aO (aQ rfl (hF.same 3 rfl) (hd 1 _ rfl (aj rfl)) dU (by kernel_rfl) (by omega) (by omega)) (congrArg (fun z=> Value.pointer (some ⟨w.heap.size+1,z,none⟩)) hpl)
        ·intro a w2 hB hF hd;exact aJ <| aO (aU rfl (hd 2 _ rfl (aj rfl)) Tryz.underlying5 ((hB.cell (p:=⟨w.heap.size+1,m / 8,none⟩) hBl).trans hce)) rfl
        ·intro a w2 hB hF hd;exact aJ <| fq rfl (hF.same 9 rfl)
        ·intro a w2 hB hF hd;exact aJ <| aO (Go.bI.zu rfl (hd 4 _ rfl (aj rfl)) rfl (by decide)) (congrArg (Value.int .i64) (hr))
        ·intro a w2 hB hF hd;exact aJ <| aO (mP rfl (hd 5 _ rfl (aj rfl)) Tryz.underlying3 Tryz.underlying212) (congrArg (Value.int .u64) (hc))
        ·intro a w2 hB hF hd;exact aJ <| aO (Go.bI.pQ rfl (hd 3 _ rfl (aj rfl)) (hd 6 _ rfl (aj rfl)) (by omega)) (congrArg (Value.int .u8) (hsh))
        ·intro a w2 hB hF hd;exact aJ <| aO (Go.bI.kr rfl (hd 7 _ rfl (aj rfl)) rfl) (congrArg (Value.int .u8) (hand))
        ·intro a w2 hB hF hd;refine aJ <| aO (Go.bI.qQ rfl (hd 8 _ rfl (aj rfl)) rfl) ?_;exact congrArg Value.bool hbb.symm
        ·intro a w2 hB hF hd;exact aJ <| pE rfl (hd 9 _ rfl (aj rfl))
       ·intro a w7 hB hF hS;have ha:=aI rfl rfl hF [_,_,_,_,_,_,_,_,_,_,_] rfl ⟨hS 0 _ rfl,hS 1 _ rfl,hS 2 _ rfl,hS 3 _ rfl,hS 4 _ rfl,hS 5 _ rfl,hS 6 _ rfl,hS 7 _ rfl,hS 8 _ rfl,hS 9 _ rfl,hS 10 _ rfl,trivial⟩;simp only [puts,Act.put,dH,dI,dJ] at ha;subst ha;clear hS hF;replace h7:=h7.kept hB;replace h8:=h8.kept hB;replace h6:=h6.kept hB;replace hNb:=hNb.kept hB;replace hZ:=hZ.kept hB;replace hbel:=hbel.trans (hB.mono hbel.size);have zk:=ak hbb;have HM:=ak hm;clear hB hq hr hc hsh hand hce hpl hbb hm Si Zl hBl d0 d1 ei hlt hk;obtain ⟨S1,R1,K7,K8,hsw⟩:=Jv bb F7.out F8.out;have HSW:=ak hsw;clear hsw;go_wp2_with (first | (refine bA rfl 193 _ rfl .i64 x7 64 G uH rfl Tryz.size193 rfl h7 ?_) | (refine bA rfl 193 _ rfl .i64 x8 64 H uH rfl Tryz.size193 rfl h8 ?_));refine (HSW.out _).mono ?_;rintro e_ u1 ⟨rfl,hb⟩;replace h7:=h7.kept hb;replace h8:=h8.kept hb;replace h6:=h6.kept hb;replace hNb:=hNb.kept hb;replace hZ:=hZ.kept hb;replace hbel:=hbel.trans (hb.mono hbel.size);have s2:=h8.aC x7 (by omega) (arr .i64 64 S1);replace F7:=ak K7;replace F8:=ak K8;clear K7 K8 HSW hb;go_upto_region 11 with (first | (refine aF rfl 193 _ _ rfl .i64 x7 64 G S1 Tryz.size193 rfl rfl h7 ?_) | (refine aF rfl 193 _ _ rfl .i64 x8 64 H R1 Tryz.size193 rfl rfl s2 ?_))
        refine aG (fun w9=> aH .i64 w9 x7 64 S1/\aH .i64 w9 x8 64 R1/\aH .i64 w9 x6 16 dd/\aH .u8 w9 (w.heap.size+1) 32 (dg 256 N)/\aH .i64 w9 (w.heap.size+2) 64 (fun _=> 0)/\Below w.heap.size w w9)
         ⟨(h7.setRow _ _).aC _ (by omega) _,s2.setRow _ _,(h6.aC _ (by omega) _).aC _ (by omega) _,(hNb.aC _ (by omega) _).aC _ (by omega) _,(hZ.aC _ (by omega) _).aC _ (by omega) _,aA (aA hbel (by omega) _) (by omega) _⟩ ?_
        clear s2 h7 h8 h6 hNb hZ hbel;rintro aor ⟨h7,h8,h6,hNb,hZ,hbel⟩
        try simp only [Act.put,dH,dI,dJ]
        obtain ⟨S2,K,hsu⟩:=Oq F8.out F7.out;rw [<-HDD.out] at hsu;have ZR:=ak hsu;clear hsu;go_wp2_with (first | (refine bA rfl 193 _ rfl .i64 x7 64 S1 uH rfl Tryz.size193 rfl h7 ?_) | (refine bA rfl 193 _ rfl .i64 x8 64 R1 uH rfl Tryz.size193 rfl h8 ?_) | (refine bA rfl 191 _ rfl .i64 x6 16 dd bT rfl bE rfl h6 ?_));refine (ZR.out _).mono ?_;rintro e_ u2 ⟨rfl,hb⟩;replace h7:=h7.kept hb;replace h8:=h8.kept hb;replace h6:=h6.kept hb;replace hNb:=hNb.kept hb;replace hZ:=hZ.kept hb;replace hbel:=hbel.trans (hb.mono hbel.size);replace F8:=ak K;clear K ZR hb;go_upto_region 12 with (refine aF rfl 193 _ _ rfl .i64 x8 64 R1 S2 Tryz.size193 rfl rfl h8 ?_)
        refine aG (fun w9=> aH .i64 w9 x7 64 S1/\aH .i64 w9 x8 64 S2/\aH .i64 w9 x6 16 dd/\aH .u8 w9 (w.heap.size+1) 32 (dg 256 N)/\aH .i64 w9 (w.heap.size+2) 64 (fun _=> 0)/\Below w.heap.size w w9)
         ⟨h7.aC _ (by omega) _,h8.setRow _ _,h6.aC _ (by omega) _,hNb.aC _ (by omega) _,hZ.aC _ (by omega) _,aA hbel (by omega) _⟩ ?_
        clear h7 h8 h6 hNb hZ hbel;rintro aoq ⟨h7,h8,h6,hNb,hZ,hbel⟩
        try simp only [Act.put,dH,dI,dJ]
        obtain ⟨S3,K,hsu⟩:=Oq F7.out F7.out;rw [<-HDD.out] at hsu;have ZR:=ak hsu;clear hsu;go_wp2_with (first | (refine bA rfl 193 _ rfl .i64 x7 64 S1 uH rfl Tryz.size193 rfl h7 ?_) | (refine bA rfl 193 _ rfl .i64 x8 64 S2 uH rfl Tryz.size193 rfl h8 ?_) | (refine bA rfl 191 _ rfl .i64 x6 16 dd bT rfl bE rfl h6 ?_));refine (ZR.out _).mono ?_;rintro e_ u3 ⟨rfl,hb⟩;replace h7:=h7.kept hb;replace h8:=h8.kept hb;replace h6:=h6.kept hb;replace hNb:=hNb.kept hb;replace hZ:=hZ.kept hb;replace hbel:=hbel.trans (hb.mono hbel.size);replace F7:=ak K;clear K ZR hb;go_upto_region 13 with (refine aF rfl 193 _ _ rfl .i64 x7 64 S1 S3 Tryz.size193 rfl rfl h7 ?_)
        refine aG (fun w9=> aH .i64 w9 x7 64 S3/\aH .i64 w9 x8 64 S2/\aH .i64 w9 x6 16 dd/\aH .u8 w9 (w.heap.size+1) 32 (dg 256 N)/\aH .i64 w9 (w.heap.size+2) 64 (fun _=> 0)/\Below w.heap.size w w9)
         ⟨h7.setRow _ _,h8.aC _ (by omega) _,h6.aC _ (by omega) _,hNb.aC _ (by omega) _,hZ.aC _ (by omega) _,aA hbel (by omega) _⟩ ?_
        clear h7 h8 h6 hNb hZ hbel;rintro aop ⟨h7,h8,h6,hNb,hZ,hbel⟩
        try simp only [Act.put,dH,dI,dJ]
        obtain ⟨S4,R4,K7,K8,hsw⟩:=Jv bb F7.out F8.out;have HSW:=ak hsw;clear hsw;go_wp2_with (first | (refine bA rfl 193 _ rfl .i64 x7 64 S3 uH rfl Tryz.size193 rfl h7 ?_) | (refine bA rfl 193 _ rfl .i64 x8 64 S2 uH rfl Tryz.size193 rfl h8 ?_));refine (HSW.out _).mono ?_;rintro e_ u4 ⟨rfl,hb⟩;replace h7:=h7.kept hb;replace h8:=h8.kept hb;replace h6:=h6.kept hb;replace hNb:=hNb.kept hb;replace hZ:=hZ.kept hb;replace hbel:=hbel.trans (hb.mono hbel.size);have s2:=h8.aC x7 (by omega) (arr .i64 64 S4);replace F7:=ak K7;replace F8:=ak K8;clear K7 K8 HSW hb;have e7:=(h7.setRow 64 S4).aC x8 (by omega) (arr .i64 64 R4);have e8:=s2.setRow 64 R4;have h6e:=(h6.aC x7 (by omega) (arr .i64 64 S4)).aC x8 (by omega) (arr .i64 64 R4);have ajV:=(hNb.aC x7 (by omega) (arr .i64 64 S4)).aC x8 (by omega) (arr .i64 64 R4);have hZe:=(hZ.aC x7 (by omega) (arr .i64 64 S4)).aC x8 (by omega) (arr .i64 64 R4);have hbe:=aA (aA hbel (by omega:w.heap.size<=x7) (arr .i64 64 S4)) (by omega:w.heap.size<=x8) (arr .i64 64 R4);have H7:=ak h7;have SH2:=ak s2;clear h7 h8 s2 h6 hNb hZ hbel;have HE:Hid (qm S4 (p.mul (n / 2 ^ (256 - (k+1))))/\qm R4 (p.mul (n / 2 ^ (256 - (k+1))+1))):=by
         have hh7:=F7.out;have hh8:=F8.out;have hbit:bb=(n / 2 ^ (255 - k) % 2==1):=by
          rw [zk.out,Xw.out,HM.out,Bool.eq_iff_iff,beq_iff_eq,beq_iff_eq];have e:((n / 2 ^ (255 - k) % 2:Nat):Int)=(n:Int) / 2 ^ (255 - k) % 2:=by simp
          omega
         have OJ:n / 2 ^ (256 - k)=n / 2 ^ (255 - k) / 2:=by
          rw [show 256 - k=255 - k+1 by have:=HKL.out;omega,Nat.pow_succ,Nat.div_div_eq_div_mul]
         rw [show 256 - (k+1)=255 - k by omega];rw [OJ] at hh7 hh8;exact UF p (n / 2 ^ (255 - k)) bb hbit hh7 hh8
        clear F7 F8;go_wp2_with (first | (refine aF rfl 193 _ _ rfl .i64 x7 64 S3 S4 Tryz.size193 rfl rfl H7.out ?_) | (refine aF rfl 193 _ _ rfl .i64 x8 64 S2 R4 Tryz.size193 rfl rfl SH2.out ?_));go_roundw
        case rel=> exact ⟨k+1,_,_,by have:=HKL.out;omega,congrArg (Value.int .i64) (by have:=HKM.out;omega),HE.out.1,HE.out.2,⟨e7,e8⟩,⟨h6e,ajV,hZe⟩,hbe⟩
        case measure=> simp [intOf] <;> (have:=HKM.out;omega)
theorem Mx (f g h e:Nat->Int) (X Y Z T VX VY:Int) (hp:rP f g h e X Y Z T) (hx:X * Z ^ (PN - 2) % Pr=VX) (hy:Y * Z ^ (PN - 2) % Pr=VY) (w:World):
  Calls Tryz.prog 161 #[Ho (pt f g h e)] w fun e_ w'=> e_=.returned (.agg (arr .u8 32 (dg 256 (VY+(VX % 2) * 2 ^ 255))))/\Below w.heap.size w w':=by
 have HP:=ak hp;have HBY:Hid (∀w,Calls Tryz.prog 205 #[.agg (arr .i64 16 (aL g (jD h)))] w fun e w'=> e=.returned (.agg (arr .u8 32 (dg 256 VY)))/\Below w.heap.size w w'):=fun w=> by
  have h1:=iq _ _ (hp.2.1.aL (jR hp.2.2.1)) w;unfold vT at h1;rw [hy] at h1;exact h1
 have hVX:0<=VX:=by rw [<-hx];exact (Qw _).1
 have hVY:0<=VY/\VY<2 ^ 255:=by (rw [<-hy];have h1:=Qw (Y * Z ^ (PN - 2));have h2:Pr<2 ^ 255:=by decide);exact ⟨h1.1,by omega⟩
 have HHI:=ak (KL VY hVY.1 hVY.2);have HTS:=ak (Dr VY hVY.1 hVY.2);have adW:Hid (VX % 2=1->∀w,Calls Tryz.prog 222 #[.agg (arr .i64 16 (aL f (jD h)))] w fun e w'=> e=.returned (.bool true)/\Below w.heap.size w w'):=fun h1 w=> by
  refine xB _ _ (hp.1.aL (jR hp.2.2.1)) ?_ w;unfold vT;rw [hx];exact h1
 have adX:Hid (VX % 2=0->∀w,Calls Tryz.prog 222 #[.agg (arr .i64 16 (aL f (jD h)))] w fun e w'=> e=.returned (.bool false)/\Below w.heap.size w w'):=fun h1 w=> by
  refine AY _ _ (hp.1.aL (jR hp.2.2.1)) ?_ w;unfold vT;rw [hx];exact h1
 clear hp hx hy hVY
 go_enter Tryz.func161,Tryz.ntmps161
 go_upto_region 1 with (fail);refine aG (fun w1=> aH .i64 w1 w.heap.size 64 (pt f g h e)/\aH .u8 w1 (w.heap.size+1) 32 (fun _=> 0)/\Below w.heap.size w w1) ⟨.alloc (bG rfl rfl) _,bG (by first | omega | (simp<;> omega)) (by rfl),((bM _ _).alloc (bB _) _).alloc (by first | omega | (simp<;> omega)) _⟩ ?_;rintro w1 ⟨hA,hZ,hbel⟩
 refine aT (n:=23) (by kernel_rfl) (by kernel_rfl) (by kernel_rfl) rfl
  (gJ [(4,3)]) (dS [(4,3)]) (fun _=> arr .i64 16 (fun _=> 0)) (fun _=> (arr .i64 16 (jD (h)))) (fun _=> 191) (fun _=> 3)
  (fun ii vv _=> (match ii with | 0=> vv=.pointer (some ⟨w.heap.size,32,none⟩) | 1=> vv=.agg (arr .i64 16 (h)) | 2=> vv=.agg (arr .i64 16 (jD (h))) | _=> True)) (fun _ _=> True) (fun _ _ _=> trivial) (fun _ _ _ _ _ _ _=> trivial) (fun _ _ _ _ h _=> h)
  (eT rfl) (dA rfl) ?_ ?_ ?_ ?_
 ·refine bQ ?_;refine ⟨?_,?_,?_,(fun h=> by cases h),(fun _ h=> by cases h),trivial⟩
  ·intro _ _ a w2 hB hF hd;refine aJ <| aO (bC (m:=15) (k:=32) rfl (hF.same 1 rfl) (by kernel_rfl)) ?_;exact rfl
  ·intro _ _ a w2 hB hF hd;exact aJ <| aO (bH rfl (hd 0 _ rfl rfl rfl (aj rfl)) bT rfl bE (fun i hi=> (hB.cell (p:=⟨w.heap.size,32+i,none⟩) hA.lt).trans (Mq hA i hi))) rfl
  ·intro _ _ a w2 hB hF hd;refine aJ <| aD _ _ _ rfl Tryz.call204 _ (args1 (hd 1 _ rfl rfl rfl (aj rfl))) (by simp) ((jL _ _ HP.out.2.2.1 w2).mono ?_);rintro e w3 ⟨rfl,hb⟩;exact ⟨_,rfl,rfl,hb⟩
 ·refine bQ ?_;refine ⟨(fun h=> by cases h),(fun h=> by cases h),(fun h=> by cases h),?_,(fun h=> by cases h),trivial⟩
  ·exact fun _=> ⟨rfl,rfl,fun a w2 K h=> aP rfl rfl Tryz.zeroValue191 (by simp) h⟩
 ·refine bQ ?_;refine ⟨(fun _ h=> by cases h),(fun _ h=> by cases h),(fun _ h=> by cases h),(fun _ h=> by cases h),?_,trivial⟩
  ·intro p hp;obtain rfl:3=p:=fT hp;exact ⟨rfl,rfl,⟨_,rfl⟩,aj rfl,fun a w2 b K hB hF hd hx hb h=> aY rfl rfl bE hx (hd 2 _ rfl rfl rfl (aj rfl)) hb h⟩
 ·intro a w2 blk hB hF hS hv hfin bU;obtain ⟨v3,BR,LB⟩:=hv 3 _ rfl rfl;have ha:=aI rfl rfl hF [_,_,_,_,undef] rfl ⟨hS 0 _ rfl rfl rfl,hS 1 _ rfl rfl rfl,hS 2 _ rfl rfl rfl,v3,trivial,trivial⟩;have f3:=hfin 4 _ 3 rfl rfl;simp only [puts,Act.put,dH,dI,dJ] at ha;subst ha;have V3:aH .i64 w2 (blk 3) 16 (jD (h)):=⟨_,f3⟩
  clear hS hv hfin bU hF v3 f3;replace hA:=hA.kept hB;replace hZ:=hZ.kept hB;replace hbel:=hbel.trans (hB.mono hbel.size);have hz:=hZ.lt;obtain ⟨x3,e3⟩:∃x,x=blk 3:=⟨_,rfl⟩
  rw [<-e3] at V3 ⊢;have h3:=V3;clear V3 hB e3 BR LB;go_upto_region 2 with (fail)
  refine aT (n:=23) (by kernel_rfl) (by kernel_rfl) (by kernel_rfl) rfl
   (gJ [(6,5)]) (dS [(6,5)]) (fun _=> arr .u8 32 (fun _=> 0)) (fun _=> (arr .u8 32 (dg 256 VY))) (fun _=> 22) (fun _=> 4)
   (fun ii vv _=> (match ii with | 0=> vv=.pointer (some ⟨w.heap.size,16,none⟩) | 1=> vv=.agg (arr .i64 16 (g)) | 2=> vv=.agg (arr .i64 16 (jD h)) | 3=> vv=.agg (arr .i64 16 (aL (g) (jD h))) | 4=> vv=.agg (arr .u8 32 (dg 256 VY)) | _=> True)) (fun _ _=> True) (fun _ _ _=> trivial) (fun _ _ _ _ _ _ _=> trivial) (fun _ _ _ _ h _=> h)
   (eT rfl) (dA rfl) ?_ ?_ ?_ ?_
  ·refine bQ ?_;refine ⟨?_,?_,?_,?_,?_,(fun h=> by cases h),(fun _ h=> by cases h),trivial⟩
   ·intro _ _ a w2 hB hF hd;refine aJ <| aO (bC (m:=15) (k:=16) rfl (hF.same 1 rfl) (by kernel_rfl)) ?_;exact rfl
   ·intro _ _ a w2 hB hF hd;exact aJ <| aO (bH rfl (hd 0 _ rfl rfl rfl (aj rfl)) bT rfl bE (fun i hi=> (hB.cell (p:=⟨w.heap.size,16+i,none⟩) hA.lt).trans (Jg hA i hi))) rfl
   ·intro _ _ a w2 hB hF hd;exact aJ <| aO (aB rfl bT rfl bE (hF.same 3 rfl) (h3.below hB h3.lt)) rfl
   ·intro _ _ a w2 hB hF hd;refine aJ <| aD _ _ _ rfl Tryz.call203 _ (args2 (hd 1 _ rfl rfl rfl (aj rfl)) (hd 2 _ rfl rfl rfl (aj rfl))) (by simp) ((bJ _ _ _ _ HP.out.2.1 (jR HP.out.2.2.1) w2).mono ?_);rintro e w3 ⟨rfl,hb⟩;exact ⟨_,rfl,rfl,hb⟩
   ·intro _ _ a w2 hB hF hd;refine aJ <| aD _ _ _ rfl Tryz.call205 _ (args1 (hd 3 _ rfl rfl rfl (aj rfl))) (by simp) ((HBY.out w2).mono ?_);rintro e w3 ⟨rfl,hb⟩;exact ⟨_,rfl,rfl,hb⟩
  ·refine bQ ?_;refine ⟨(fun h=> by cases h),(fun h=> by cases h),(fun h=> by cases h),(fun h=> by cases h),(fun h=> by cases h),?_,(fun h=> by cases h),trivial⟩
   ·exact fun _=> ⟨rfl,rfl,fun a w2 K h=> aP rfl rfl Tryz.zeroValue22 (by simp) h⟩
  ·refine bQ ?_;refine ⟨(fun _ h=> by cases h),(fun _ h=> by cases h),(fun _ h=> by cases h),(fun _ h=> by cases h),(fun _ h=> by cases h),(fun _ h=> by cases h),?_,trivial⟩
   ·intro p hp;obtain rfl:5=p:=fT hp;exact ⟨rfl,rfl,⟨_,rfl⟩,aj rfl,fun a w2 b K hB hF hd hx hb h=> aY rfl rfl dz hx (hd 4 _ rfl rfl rfl (aj rfl)) hb h⟩
  ·intro a w3 blk hB hF hS hv hfin bU;obtain ⟨v5,uU,Dl⟩:=hv 5 _ rfl rfl;have ha:=aI rfl rfl hF [_,_,_,_,_,_,undef] rfl ⟨hS 0 _ rfl rfl rfl,hS 1 _ rfl rfl rfl,hS 2 _ rfl rfl rfl,hS 3 _ rfl rfl rfl,hS 4 _ rfl rfl rfl,v5,trivial,trivial⟩;have f5:=hfin 6 _ 5 rfl rfl;simp only [puts,Act.put,dH,dI,dJ] at ha;subst ha;have V5:aH .u8 w3 (blk 5) 32 (dg 256 VY):=⟨_,f5⟩
   clear hS hv hfin bU hF v5 f5;replace hA:=hA.kept hB;replace hZ:=hZ.kept hB;replace h3:=h3.kept hB;replace hbel:=hbel.trans (hB.mono hbel.size);obtain ⟨x4,e4⟩:∃x,x=blk 5:=⟨_,rfl⟩
   rw [<-e4] at V5 uU ⊢;have h4:=V5;have l4:w.heap.size+1<x4:=by omega
   clear V5 hB e4 uU Dl hz;go_upto_region 3 with (fail);rcases (by omega:VX % 2=0\/VX % 2=1) with ho | ho
   ·have HO:=ak ho;clear ho
    refine aR (n:=23) (by kernel_rfl) (by kernel_rfl) (by kernel_rfl) rfl
     (fun ii vv _=> (match ii with | 0=> vv=.pointer (some ⟨w.heap.size,0,none⟩) | 1=> vv=.agg (arr .i64 16 (f)) | 2=> vv=.agg (arr .i64 16 (jD h)) | 3=> vv=.agg (arr .i64 16 (aL (f) (jD h))) | 4=> vv=.bool false | _=> True))
     (fun w w'=> Below w.heap.size w w') (fun _ _ h=> h) (fun _ _ _ _ h _=> h) ?_ ?_
    ·refine bQ ?_;refine ⟨?_,?_,?_,?_,?_,trivial⟩
     ·intro a w2 hB hF hd;refine aJ <| aO (bC (m:=15) (k:=0) rfl (hF.same 1 rfl) (by kernel_rfl)) ?_;exact rfl
     ·intro a w2 hB hF hd;exact aJ <| aO (bH rfl (hd 0 _ rfl (aj rfl)) bT rfl bE (fun i hi=> (hB.cell (p:=⟨w.heap.size,0+i,none⟩) hA.lt).trans (FH hA i hi))) rfl
     ·intro a w2 hB hF hd;exact aJ <| aO (aB rfl bT rfl bE (hF.same 3 rfl) (h3.below hB h3.lt)) rfl
     ·intro a w2 hB hF hd;refine aJ <| aD _ _ _ rfl Tryz.call203 _ (args2 (hd 1 _ rfl (aj rfl)) (hd 2 _ rfl (aj rfl))) (by simp) ((bJ _ _ _ _ HP.out.1 (jR HP.out.2.2.1) w2).mono ?_);rintro e w3 ⟨rfl,hb⟩;exact ⟨_,rfl,rfl,hb⟩
     ·intro a w2 hB hF hd;refine aJ <| aD _ _ _ rfl Tryz.call222 _ (args1 (hd 3 _ rfl (aj rfl))) (by simp) ((adX.out HO.out w2).mono ?_);rintro e w3 ⟨rfl,hb⟩;exact ⟨_,rfl,rfl,hb⟩
    ·intro a w4 hB hF hS;have ha:=aI rfl rfl hF [_,_,_,_,_] rfl ⟨hS 0 _ rfl,hS 1 _ rfl,hS 2 _ rfl,hS 3 _ rfl,hS 4 _ rfl,trivial⟩;simp only [puts,Act.put,dH,dI,dJ] at ha;subst ha;clear hS hF;replace hZ:=hZ.kept hB;replace h4:=h4.kept hB;replace hbel:=hbel.trans (hB.mono hbel.size);clear hA h3 hB HBY adW adX;have h5:aH .u8 w4 x4 32 (dg 256 (VY+(VX % 2) * 2 ^ 255)):=by rw [HO.out,Int.zero_mul,Int.add_zero];exact h4
     obtain ⟨R,hR⟩:∃R,R=VY+(VX % 2) * 2 ^ 255:=⟨_,rfl⟩
     rw [<-hR] at h5;have HR:=ak hR;clear hR;go_wp2_with (first | (refine aM rfl 22 _ rfl .u8 x4 32 (dg 256 R) 5 dU dz rfl h5 ?_) | (refine aF rfl 22 _ _ rfl .u8 (w.heap.size+1) 32 (fun _=> 0) (dg 256 R) dz rfl rfl hZ ?_));exact bodyPost_ret (aZ rfl _ _ .u8 (w.heap.size+1) 32 _ 5 rfl (hZ.setRow 32 (dg 256 R)) dU dz) rfl ⟨by rw [HR.out],aA hbel (by omega) _⟩
   ·have HO:=ak ho;clear ho
    refine aR (n:=23) (by kernel_rfl) (by kernel_rfl) (by kernel_rfl) rfl
     (fun ii vv _=> (match ii with | 0=> vv=.pointer (some ⟨w.heap.size,0,none⟩) | 1=> vv=.agg (arr .i64 16 (f)) | 2=> vv=.agg (arr .i64 16 (jD h)) | 3=> vv=.agg (arr .i64 16 (aL (f) (jD h))) | 4=> vv=.bool true | _=> True))
     (fun w w'=> Below w.heap.size w w') (fun _ _ h=> h) (fun _ _ _ _ h _=> h) ?_ ?_
    ·refine bQ ?_;refine ⟨?_,?_,?_,?_,?_,trivial⟩
     ·intro a w2 hB hF hd;refine aJ <| aO (bC (m:=15) (k:=0) rfl (hF.same 1 rfl) (by kernel_rfl)) ?_;exact rfl
     ·intro a w2 hB hF hd;exact aJ <| aO (bH rfl (hd 0 _ rfl (aj rfl)) bT rfl bE (fun i hi=> (hB.cell (p:=⟨w.heap.size,0+i,none⟩) hA.lt).trans (FH hA i hi))) rfl
     ·intro a w2 hB hF hd;exact aJ <| aO (aB rfl bT rfl bE (hF.same 3 rfl) (h3.below hB h3.lt)) rfl
     ·intro a w2 hB hF hd;refine aJ <| aD _ _ _ rfl Tryz.call203 _ (args2 (hd 1 _ rfl (aj rfl)) (hd 2 _ rfl (aj rfl))) (by simp) ((bJ _ _ _ _ HP.out.1 (jR HP.out.2.2.1) w2).mono ?_);rintro e w3 ⟨rfl,hb⟩;exact ⟨_,rfl,rfl,hb⟩
     ·intro a w2 hB hF hd;refine aJ <| aD _ _ _ rfl Tryz.call222 _ (args1 (hd 3 _ rfl (aj rfl))) (by simp) ((adW.out HO.out w2).mono ?_);rintro e w3 ⟨rfl,hb⟩;exact ⟨_,rfl,rfl,hb⟩
    ·intro a w4 hB hF hS;have ha:=aI rfl rfl hF [_,_,_,_,_] rfl ⟨hS 0 _ rfl,hS 1 _ rfl,hS 2 _ rfl,hS 3 _ rfl,hS 4 _ rfl,trivial⟩;simp only [puts,Act.put,dH,dI,dJ] at ha;subst ha;clear hS hF;replace hZ:=hZ.kept hB;replace h4:=h4.kept hB;replace hbel:=hbel.trans (hB.mono hbel.size);clear hA h3 hB HBY adW adX;have e1:=h4.cell 31 (by decide);have f1:=h4.free 31;obtain ⟨t0,t1⟩:=HTS.out;obtain ⟨t,ht⟩:∃t,t=dg 256 VY 31:=⟨_,rfl⟩
     rw [<-ht] at e1 t0 t1;have a1:=abP t t0 t1;have HT:=ak ht;have H4:=ak h4;clear ht h4;go_upto_region 5 with (fail);refine aG (fun w9=> aH .u8 w9 x4 32 (dg 256 (VY+(VX % 2) * 2 ^ 255))/\aH .u8 w9 (w.heap.size+1) 32 (fun _=> 0)/\Below w.heap.size w w9) ⟨(H4.out.set 31 (t+128)).congr (fun i hi=> by rw [HT.out,HO.out];exact HHI.out i hi),hZ.other (by first | omega | (simp<;> omega)) _,hbel.setCell (by first | omega | (simp<;> omega)) _⟩ ?_;rintro w9 ⟨h5,hZ,hbel⟩
     try simp only [Act.put,dH,dI,dJ]
     obtain ⟨R,hR⟩:∃R,R=VY+(VX % 2) * 2 ^ 255:=⟨_,rfl⟩
     rw [<-hR] at h5;have HR:=ak hR;clear hR;go_wp2_with (first | (refine aM rfl 22 _ rfl .u8 x4 32 (dg 256 R) 5 dU dz rfl h5 ?_) | (refine aF rfl 22 _ _ rfl .u8 (w.heap.size+1) 32 (fun _=> 0) (dg 256 R) dz rfl rfl hZ ?_));exact bodyPost_ret (aZ rfl _ _ .u8 (w.heap.size+1) 32 _ 5 rfl (hZ.setRow 32 (dg 256 R)) dU dz) rfl ⟨by rw [HR.out],aA hbel (by omega) _⟩
theorem Qk {A:Nat->Int} {p:Ed C7} (hA:qm A p) (w:World):Calls Tryz.prog 161 #[Ho A] w fun e_ w'=> e_=.returned (.agg (arr .u8 32 (dg 256 (dB p))))/\Below w.heap.size w w':=by
 obtain ⟨f,g,h,e,X,Y,Z,T,rfl,h1,h2⟩:=hA;exact Mx f g h e X Y Z T (wK p) (OT p) h1 (Jd h2.1 h2.2.1) (Jd h2.1 h2.2.2.1) w
def kG (Y:Int):Int:=(Y * Y - 1) * vT (dN * (Y * Y)+1)
def Nb (f:Nat->Int):Nat->Int:=aL (eG (aL f f) (aN 1)) (jD (bW (aL iG (aL f f)) (aN 1)))
theorem Gu {f:Nat->Int} {Y:Int} (hf:Fe f Y):Fe (Nb f) (kG Y):=((hf.aL hf).eG qy).aL (jR ((jr.aL (hf.aL hf)).bW qy))
theorem Ao (q:Bool) (H f:Nat->Int) (Y:Int) (hf:Fe f Y) (hrt:∀w,Calls Tryz.prog 252 #[El (Nb f)] w fun e w'=> e=.returned (.tuple #[El H,.bool q])/\Below w.heap.size w w') (w:World):
  Calls Tryz.prog 209 #[El f] w fun e w'=> e=.returned (.tuple #[El H,.bool q])/\Below w.heap.size w w':=by
 have HF:=ak hf;have Xv:=ak hrt;clear hf hrt;unfold El;unfold El at Xv
 go_enter Tryz.func209,Tryz.ntmps209
 go_upto_region 1 with (fail);refine aG (fun w1=> aH .i64 w1 w.heap.size 16 f/\aH .i64 w1 (w.heap.size+1) 16 (fun _=> 0)/\Below w.heap.size w w1) ⟨.alloc (bG rfl rfl) _,bG (by first | omega | (simp<;> omega)) (by rfl),((bM _ _).alloc (bB _) _).alloc (by first | omega | (simp<;> omega)) _⟩ ?_;rintro w1 ⟨hA,hZ,hbel⟩
 refine aT (n:=23) (by kernel_rfl) (by kernel_rfl) (by kernel_rfl) rfl
  (gJ [(6,4),(7,5)]) (dS [(6,4),(7,5)]) (fun _=> arr .i64 16 (fun _=> 0)) (fun i=> match i with | 4=> (arr .i64 16 (aL (f) (f))) | 5=> (arr .i64 16 (aN 1)) | _=> #[]) (fun _=> 191) (fun i=> match i with | 4=> 4 | 5=> 5 | _=> 0)
  (fun ii vv _=> (match ii with | 0 | 1=> vv=.agg (arr .i64 16 (f)) | 2=> vv=.agg (arr .i64 16 (aL (f) (f))) | 3=> vv=.agg (arr .i64 16 (aN 1)) | _=> True)) (fun _ _=> True) (fun _ _ _=> trivial) (fun _ _ _ _ _ _ _=> trivial) (fun _ _ _ _ h _=> h)
  (eT rfl) (dA rfl) ?_ ?_ ?_ ?_
 ·refine bQ ?_;refine ⟨?_,?_,?_,?_,(fun h=> by cases h),(fun h=> by cases h),(fun _ h=> by cases h),(fun _ h=> by cases h),trivial⟩
  ·intro _ _ a w2 hB hF hd;exact aJ <| aO (aB rfl bT rfl bE (hF.same 1 rfl) (hA.below hB hA.lt)) rfl
  ·intro _ _ a w2 hB hF hd;exact aJ <| aO (aB rfl bT rfl bE (hF.same 1 rfl) (hA.below hB hA.lt)) rfl
  ·intro _ _ a w2 hB hF hd;refine aJ <| aD _ _ _ rfl Tryz.call203 _ (args2 (hd 0 _ rfl rfl rfl (aj rfl)) (hd 1 _ rfl rfl rfl (aj rfl))) (by simp) ((bJ _ _ _ _ HF.out HF.out w2).mono ?_);rintro e w3 ⟨rfl,hb⟩;exact ⟨_,rfl,rfl,hb⟩
  ·intro _ _ a w2 hB hF hd;refine aJ <| aD _ _ _ rfl Tryz.call200 _ (args1 rfl) (by simp) ((dR 1 w2).mono ?_);rintro e w3 ⟨rfl,hb⟩;exact ⟨_,rfl,rfl,hb⟩
 ·refine bQ ?_;refine ⟨(fun h=> by cases h),(fun h=> by cases h),(fun h=> by cases h),(fun h=> by cases h),?_,?_,(fun h=> by cases h),(fun h=> by cases h),trivial⟩
  ·exact fun _=> ⟨rfl,rfl,fun a w2 K h=> aP rfl rfl Tryz.zeroValue191 (by simp) h⟩
  ·exact fun _=> ⟨rfl,rfl,fun a w2 K h=> aP rfl rfl Tryz.zeroValue191 (by simp) h⟩
 ·refine bQ ?_;refine ⟨(fun _ h=> by cases h),(fun _ h=> by cases h),(fun _ h=> by cases h),(fun _ h=> by cases h),(fun _ h=> by cases h),(fun _ h=> by cases h),?_,?_,trivial⟩
  ·intro p hp;obtain rfl:4=p:=fT hp;exact ⟨rfl,rfl,⟨_,rfl⟩,aj rfl,fun a w2 b K hB hF hd hx hb h=> aY rfl rfl bE hx (hd 2 _ rfl rfl rfl (aj rfl)) hb h⟩
  ·intro p hp;obtain rfl:5=p:=fT hp;exact ⟨rfl,rfl,⟨_,rfl⟩,aj rfl,fun a w2 b K hB hF hd hx hb h=> aY rfl rfl bE hx (hd 3 _ rfl rfl rfl (aj rfl)) hb h⟩
 ·intro a w2 blk hB hF hS hv hfin bU;obtain ⟨v4,Hq,LA⟩:=hv 4 _ rfl rfl;obtain ⟨v5,uU,Dl⟩:=hv 5 _ rfl rfl;have ha:=aI rfl rfl hF [_,_,_,_,_,_,undef,undef] rfl ⟨hS 0 _ rfl rfl rfl,hS 1 _ rfl rfl rfl,hS 2 _ rfl rfl rfl,hS 3 _ rfl rfl rfl,v4,v5,trivial,trivial,trivial⟩;have f4:=hfin 6 _ 4 rfl rfl;have f5:=hfin 7 _ 5 rfl rfl;have Bc:=bU 4 5 _ _ rfl rfl rfl rfl (by decide);simp only [puts,Act.put,dH,dI,dJ] at ha;subst ha;have V4:aH .i64 w2 (blk 4) 16 (aL (f) (f)):=⟨_,f4⟩
  have V5:aH .i64 w2 (blk 5) 16 (aN 1):=⟨_,f5⟩
  clear hS hv hfin bU hF v4 v5 f4 f5;have hz:=hZ.lt;replace hZ:=hZ.kept hB;replace hbel:=hbel.trans (hB.mono hbel.size);obtain ⟨x4,e4⟩:∃x,x=blk 4:=⟨_,rfl⟩
  obtain ⟨x5,e5⟩:∃x,x=blk 5:=⟨_,rfl⟩
  rw [<-e4] at V4 Hq ⊢;rw [<-e5] at V5 uU ⊢;have h4:=V4;have h5:=V5;have l4:w.heap.size+1<x4:=by omega
  have l5:w.heap.size+1<x5:=by omega
  clear V4 V5 hB e4 e5 Hq LA uU Dl hA hz;go_upto_region 2 with (fail)
  refine nX (n:=23) 14 rfl (by decide) (by kernel_rfl) (by kernel_rfl) (by kernel_rfl) (by kernel_rfl) rfl
   (fun ii vv ww=> (match ii with | 0 | 4=> vv=.agg (arr .i64 16 (aL f f)) | 1 | 6=> vv=.agg (arr .i64 16 (aN 1)) | 2=> vv=.agg (arr .i64 16 (eG (aL f f) (aN 1))) | 3=> vv=.agg (arr .i64 16 (iG)) | 5=> vv=.agg (arr .i64 16 (aL (iG) (aL f f))) | 7=> vv=.agg (arr .i64 16 (bW (aL (iG) (aL f f)) (aN 1))) | 8=> vv=.agg (arr .i64 16 (jD (bW (aL (iG) (aL f f)) (aN 1)))) | 9=> vv=.agg (arr .i64 16 (aL (eG (aL f f) (aN 1)) (jD (bW (aL (iG) (aL f f)) (aN 1))))) | 10=> vv=.tuple #[.agg (arr .i64 16 (H)),.bool q] | 11=> vv=.agg (arr .i64 16 (H)) | 12=> vv=.bool q | _=> True)/\(ii=13->aH .i64 ww (w.heap.size+1) 16 (H))) 13
   (fun b ww=> (aH .i64 ww (x4) 16 (aL f f)/\aH .i64 ww (x5) 16 (aN 1)/\Below w.heap.size w ww)/\(b=false->aH .i64 ww ((w.heap.size+1)) 16 (fun _=> 0))) ⟨⟨h4.drew,h5.drew,hbel.drew⟩,fun _=> hZ.drew⟩
   (fun i ww w'=> match i with | 13=> ((aH .i64 ww (x4) 16 (aL f f)/\aH .i64 ww (x5) 16 (aN 1)/\Below w.heap.size w ww)->(aH .i64 w' (x4) 16 (aL f f)/\aH .i64 w' (x5) 16 (aN 1)/\Below w.heap.size w w')) | _=> Below ww.heap.size ww w') ?_ ?_ ?_ ?_ rfl ?_ ?_
  ·intro i ww;(try dsimp only);split
   ·exact id
   ·exact bM _ _
  ·intro i b ww w' hi hR hE;have hE':Below ww.heap.size ww w':=by (try dsimp only at hE);split at hE;(· exact absurd rfl hi);exact hE
   obtain ⟨⟨q0,q1,qb⟩,lN⟩:=hR;exact ⟨⟨q0.kept hE',q1.kept hE',qb.trans (hE'.mono qb.size)⟩,fun hb=> (lN hb).kept hE'⟩
  ·intro ww w' hR hE;exact ⟨hE hR.1,fun h=> by cases h⟩
  ·intro i j b v ww w' hij hjb hR hS hE;refine ⟨hS.1,fun e=> ?_⟩;subst e;have hE':Below ww.heap.size ww w':=by (try dsimp only at hE);split at hE;(· exact absurd rfl hij);exact hE
   exact (hS.2 rfl).kept hE'
  ·refine bQ ?_;refine ⟨?_,?_,?_,?_,?_,?_,?_,?_,?_,?_,?_,?_,?_,?_,(fun h=> absurd rfl h),trivial⟩
   ·intro _ b a w2 hcb hB0 hF hd;obtain ⟨⟨h4,h5,hbel⟩,lN⟩:=hB0;have hB:=bM w2.heap.size w2;exact aJ <| aO (aB rfl bT rfl bE (hF.same 4 rfl) (h4.below hB h4.lt)) ⟨rfl,aK⟩
   ·intro _ b a w2 hcb hB0 hF hd;obtain ⟨⟨h4,h5,hbel⟩,lN⟩:=hB0;have hB:=bM w2.heap.size w2;exact aJ <| aO (aB rfl bT rfl bE (hF.same 5 rfl) (h5.below hB h5.lt)) ⟨rfl,aK⟩
   ·intro _ b a w2 hcb hB0 hF hd;obtain ⟨⟨h4,h5,hbel⟩,lN⟩:=hB0;have hB:=bM w2.heap.size w2;refine aJ <| aD _ _ _ rfl Tryz.call244 _ (args2 ((hd 0 _ rfl (aj rfl)).1) ((hd 1 _ rfl (aj rfl)).1)) (by simp) ((iU _ _ _ _ (HF.out.aL HF.out) qy w2).mono ?_);rintro e w3 ⟨rfl,hb⟩;exact ⟨_,rfl,⟨rfl,aK⟩,hb⟩
   ·intro _ b a w2 hcb hB0 hF hd;obtain ⟨⟨h4,h5,hbel⟩,lN⟩:=hB0;have hB:=bM w2.heap.size w2;refine aJ <| aD _ _ _ rfl Tryz.call217 _ pz (by simp) ((qV w2).mono ?_);rintro e w3 ⟨rfl,hb⟩;exact ⟨_,rfl,⟨rfl,aK⟩,hb⟩
   ·intro _ b a w2 hcb hB0 hF hd;obtain ⟨⟨h4,h5,hbel⟩,lN⟩:=hB0;have hB:=bM w2.heap.size w2;exact aJ <| aO (aB rfl bT rfl bE (hF.same 4 rfl) (h4.below hB h4.lt)) ⟨rfl,aK⟩
   ·intro _ b a w2 hcb hB0 hF hd;obtain ⟨⟨h4,h5,hbel⟩,lN⟩:=hB0;have hB:=bM w2.heap.size w2;refine aJ <| aD _ _ _ rfl Tryz.call203 _ (args2 ((hd 3 _ rfl (aj rfl)).1) ((hd 4 _ rfl (aj rfl)).1)) (by simp) ((bJ _ _ _ _ jr (HF.out.aL HF.out) w2).mono ?_);rintro e w3 ⟨rfl,hb⟩;exact ⟨_,rfl,⟨rfl,aK⟩,hb⟩
   ·intro _ b a w2 hcb hB0 hF hd;obtain ⟨⟨h4,h5,hbel⟩,lN⟩:=hB0;have hB:=bM w2.heap.size w2;exact aJ <| aO (aB rfl bT rfl bE (hF.same 5 rfl) (h5.below hB h5.lt)) ⟨rfl,aK⟩
   ·intro _ b a w2 hcb hB0 hF hd;obtain ⟨⟨h4,h5,hbel⟩,lN⟩:=hB0;have hB:=bM w2.heap.size w2;refine aJ <| aD _ _ _ rfl Tryz.call218 _ (args2 ((hd 5 _ rfl (aj rfl)).1) ((hd 6 _ rfl (aj rfl)).1)) (by simp) ((fZ _ _ _ _ ((jr).aL (HF.out.aL HF.out)) qy w2).mono ?_);rintro e w3 ⟨rfl,hb⟩;exact ⟨_,rfl,⟨rfl,aK⟩,hb⟩
   ·intro _ b a w2 hcb hB0 hF hd;obtain ⟨⟨h4,h5,hbel⟩,lN⟩:=hB0;have hB:=bM w2.heap.size w2;refine aJ <| aD _ _ _ rfl Tryz.call204 _ (args1 ((hd 7 _ rfl (aj rfl)).1)) (by simp) ((jL _ _ ((((jr).aL (HF.out.aL HF.out))).bW qy) w2).mono ?_);rintro e w3 ⟨rfl,hb⟩;exact ⟨_,rfl,⟨rfl,aK⟩,hb⟩
   ·intro _ b a w2 hcb hB0 hF hd;obtain ⟨⟨h4,h5,hbel⟩,lN⟩:=hB0;have hB:=bM w2.heap.size w2;refine aJ <| aD _ _ _ rfl Tryz.call203 _ (args2 ((hd 2 _ rfl (aj rfl)).1) ((hd 8 _ rfl (aj rfl)).1)) (by simp) ((bJ _ _ _ _ (((HF.out.aL HF.out)).eG qy) (jR ((((jr).aL (HF.out.aL HF.out))).bW qy)) w2).mono ?_);rintro e w3 ⟨rfl,hb⟩;exact ⟨_,rfl,⟨rfl,aK⟩,hb⟩
   ·intro _ b a w2 hcb hB0 hF hd;obtain ⟨⟨h4,h5,hbel⟩,lN⟩:=hB0;have hB:=bM w2.heap.size w2;refine aJ <| aD _ _ _ rfl Tryz.call252 _ (args1 ((hd 9 _ rfl (aj rfl)).1)) (by simp) ((Xv.out w2).mono ?_);rintro e w3 ⟨rfl,hb⟩;exact ⟨_,rfl,⟨rfl,aK⟩,hb⟩
   ·intro _ b a w2 hcb hB0 hF hd;obtain ⟨⟨h4,h5,hbel⟩,lN⟩:=hB0;have hB:=bM w2.heap.size w2;exact aJ <| aO (bD rfl ((hd 10 _ rfl (aj rfl)).1) rfl) ⟨rfl,aK⟩
   ·intro _ b a w2 hcb hB0 hF hd;obtain ⟨⟨h4,h5,hbel⟩,lN⟩:=hB0;have hB:=bM w2.heap.size w2;exact aJ <| aO (bD rfl ((hd 10 _ rfl (aj rfl)).1) rfl) ⟨rfl,aK⟩
   ·intro _ b a w2 hcb hB0 hF hd;obtain ⟨⟨h4,h5,hbel⟩,lN⟩:=hB0;have hB:=bM w2.heap.size w2;refine aJ <| aW 191 _ _ rfl .i64 ((w.heap.size+1)) 16 (fun _=> 0) (H) bE (hF.same 2 rfl) ((hd 11 _ rfl (aj rfl)).1) (lN (hcb rfl)) ?_;exact ⟨_,rfl,fun _=> rfl,⟨trivial,fun _=> (lN (hcb rfl)).setRow _ _⟩,fun ⟨p0,p1,p2⟩=> ⟨p0.aC _ (by omega) _,p1.aC _ (by omega) _,aA p2 (by omega) _⟩⟩
  ·intro b a w3 hB0 hF hS;have V13:=(hS 13 _ rfl (by decide)).2 rfl;obtain ⟨⟨h4,h5,hbel⟩,_⟩:=hB0;obtain ⟨xl,hxl⟩:∃x,x=a.tmps.getD 3 undef:=⟨_,rfl⟩
   have ha:=aI rfl rfl hF [_,_,_,_,_,_,_,_,_,_,_,_,_,undef,xl] rfl ⟨(hS 0 _ rfl (by decide)).1,(hS 1 _ rfl (by decide)).1,(hS 2 _ rfl (by decide)).1,(hS 3 _ rfl (by decide)).1,(hS 4 _ rfl (by decide)).1,(hS 5 _ rfl (by decide)).1,(hS 6 _ rfl (by decide)).1,(hS 7 _ rfl (by decide)).1,(hS 8 _ rfl (by decide)).1,(hS 9 _ rfl (by decide)).1,(hS 10 _ rfl (by decide)).1,(hS 11 _ rfl (by decide)).1,(hS 12 _ rfl (by decide)).1,trivial,hxl.symm,trivial⟩;simp only [puts,Act.put,dH,dI,dJ] at ha;subst ha;clear hS hF hxl;refine wp_assign (.tmp 22) 3 rfl rfl ?_;simp only [Act.put,dH,dI,dJ];go_wp2;exact bodyPost_ret (dM rfl _ _ .i64 (w.heap.size+1) 16 _ rfl V13 bT rfl bE) rfl ⟨rfl,hbel⟩
theorem Am (f:Nat->Int) (Y:Int) (hf:Fe f Y) (QL:mY (kG Y)=true) (w:World):Calls Tryz.prog 209 #[El f] w fun e w'=> e=.returned (.tuple #[El (oD (Nb f) (kG Y)),.bool true])/\Below w.heap.size w w':=
 Ao true _ f Y hf (fun w=> Ni (Nb f) (kG Y) (Gu hf) QL w) w
theorem Qj (f:Nat->Int) (Y:Int) (hf:Fe f Y) (QL:mY (kG Y)=false) (w:World):Calls Tryz.prog 209 #[El f] w fun e w'=> e=.returned (.tuple #[El (fun _=> 0),.bool false])/\Below w.heap.size w w':=
 Ao false _ f Y hf (fun w=> QX (Nb f) (kG Y) (Gu hf) QL w) w
theorem Na {p:Ed C7} {Y:Int} (hy:toF Y=p.y):Cg (wK p * wK p) (kG Y):=by
 refine fB.1 ?_;unfold kG vT;rw [bZ,bZ,rR];simp only [jN,fA,bZ,dF,LJ,hy,aaL];refine agJ (adz p) (inv_mul ?_);have h:=Np p;intro e;apply h
 generalize p.y=y at *
 generalize dE=d at *
 grind
theorem AU {p:Ed C7} {Y:Int} (hy:toF Y=p.y):mY (kG Y)=true:=zq (Na hy)
theorem VP {p:Ed C7} {f:Nat->Int} {Y:Int} (hf:Fe f Y) (hy:toF Y=p.y) (he:wK p % 2=0):∃R,Fe (oD (Nb f) (kG Y)) R/\toF R=p.x:=by
 obtain ⟨R,h1,h2,h3⟩:=IY (Gu hf) (AU hy);refine ⟨R,h1,?_⟩;have h4:R * R % Pr=wK p * wK p % Pr:=h2.trans (Na hy).symm;have hb:=lJ p.x;have hx:wK p % Pr=wK p:=sS hb.1 hb.2;rw [<-aaL];refine fB.2 ?_;rcases Dp h4 with h5 | h5
 ·exact h5
 ·by_cases h0:wK p=0
  ·rw [h0] at h5 ⊢;exact h5
  ·exfalso
   have e: -wK p % Pr=Pr - wK p:=by
    have e1: -wK p % Pr=(Pr - wK p) % Pr:=jV (c:= -1) (by omega);rw [e1];have hb':0<=wK p/\wK p<Pr:=hb;exact sS (by omega) (by omega)
   rw [h5,e] at h3;have hp:Pr % 2=1:=by decide
   omega
theorem zA {f g:Nat->Int} {X Y:Int} {p:Ed C7} (hf:Fe f X) (hg:Fe g Y) (hx:toF X=p.x) (hy:toF Y=p.y):qm (pt f g (aN 1) (aL f g)) p:=by
 refine ⟨f,g,aN 1,aL f g,X,Y,1,X * Y,rfl,⟨hf,hg,qy,hf.aL hg⟩,?_,?_,?_,?_⟩
 ·rw [dF];exact eB
 ·rw [dF,hx];generalize p.x=x;grind
 ·rw [dF,hy];generalize p.y=y;grind
 ·rw [dF,bZ,hx,hy];generalize p.x * p.y=z;grind
theorem aaJ:Fe (aN 4) 4:=mH _ (by decide)
theorem Wi:Fe (aN 5) 5:=mH _ (by decide)
theorem ND:toF (4 * vT 5)=Bp.y:=by
 unfold vT;have h5:toF 5≠0:=jh.2 (by decide);have h:=fB.2 QT;rw [bZ] at h;have hi:=inv_mul h5;rw [bZ,rR];show _=toF BY
 generalize toF 4=a at *
 generalize toF 5=b at *
 generalize toF BY=c at *
 generalize inv b=i at *
 grind
def qj:Nat->Int:=aL (aN 4) (jD (aN 5))
theorem rC:Fe qj (4 * vT 5):=aaJ.aL (jR Wi)
def uF:Nat->Int:=oD (Nb qj) (kG (4 * vT 5))
theorem Kn:∃R,Fe uF R/\toF R=Bp.x:=VP rC ND (by rw [alj];decide)
def Bv:Nat->Int:=pt uF qj (aN 1) (aL uF qj)
theorem FP:qm Bv Bp:=by
 obtain ⟨R,h1,h2⟩:=Kn;exact zA h1 rC h2 ND
theorem Ap (w:World):Calls Tryz.prog 157 #[] w fun e w'=> e=.returned (Ho Bv)/\Below w.heap.size w w':=by
 have HX:Hid (∃R,Fe uF R):=by obtain ⟨R,h,_⟩:=Kn;exact ⟨R,h⟩
 obtain ⟨RX,hRX⟩:=HX.out;have HFX:=ak hRX;have HFY:=ak rC;have HFI:Hid (∀w,Calls Tryz.prog 209 #[.agg (arr .i64 16 qj)] w fun e w'=> e=.returned (.tuple #[.agg (arr .i64 16 uF),.bool true])/\Below w.heap.size w w'):=fun w=> Am qj _ rC (AU ND) w;have HMD:Hid (∀w,Calls Tryz.prog 212 #[.agg (arr .i64 16 uF),.agg (arr .i64 16 qj)] w fun e w'=> e=.returned (.agg (arr .i64 64 Bv))/\Below w.heap.size w w'):=fun w=> mU _ _ _ _ hRX rC w;have HM:Hid (∀w,Calls Tryz.prog 203 #[.agg (arr .i64 16 (aN 4)),.agg (arr .i64 16 (jD (aN 5)))] w fun e w'=> e=.returned (.agg (arr .i64 16 qj))/\Below w.heap.size w w'):=fun w=> bJ _ _ _ _ aaJ (jR Wi) w;clear hRX;obtain ⟨bxF,hbx⟩:∃x,x=uF:=⟨_,rfl⟩
 obtain ⟨byF,hby⟩:∃x,x=qj:=⟨_,rfl⟩
 obtain ⟨bF,hbF⟩:∃x,x=Bv:=⟨_,rfl⟩
 rw [<-hbF] at HMD ⊢;rw [<-hbx] at HFX HFI HMD;rw [<-hby] at HFY HFI HMD HM;clear hbx hby hbF HX
 go_enter Tryz.func157,Tryz.ntmps157
 go_upto_region 1 with (fail);refine aG (fun w1=> aH .i64 w1 w.heap.size 64 (fun _=> 0)/\Below w.heap.size w w1) ⟨bG rfl (by rfl),(bM _ _).alloc (bB _) _⟩ ?_;rintro w1 ⟨hZ,hbel⟩
 refine aT (n:=16) (by kernel_rfl) (by kernel_rfl) (by kernel_rfl) rfl
  (gJ [(5,4)]) (dS [(5,4)]) (fun _=> arr .i64 16 (fun _=> 0)) (fun _=> (arr .i64 16 (byF))) (fun _=> 191) (fun _=> 1)
  (fun ii vv _=> (match ii with | 0=> vv=.agg (arr .i64 16 (aN 4)) | 1=> vv=.agg (arr .i64 16 (aN 5)) | 2=> vv=.agg (arr .i64 16 (jD (aN 5))) | 3=> vv=.agg (arr .i64 16 (byF)) | _=> True)) (fun _ _=> True) (fun _ _ _=> trivial) (fun _ _ _ _ _ _ _=> trivial) (fun _ _ _ _ h _=> h)
  (eT rfl) (dA rfl) ?_ ?_ ?_ ?_
 ·refine bQ ?_;refine ⟨?_,?_,?_,?_,(fun h=> by cases h),(fun _ h=> by cases h),trivial⟩
  ·intro _ _ a w2 hB hF hd;refine aJ <| aD _ _ _ rfl Tryz.call200 _ (args1 rfl) (by simp) ((dR 4 w2).mono ?_);rintro e w3 ⟨rfl,hb⟩;exact ⟨_,rfl,rfl,hb⟩
  ·intro _ _ a w2 hB hF hd;refine aJ <| aD _ _ _ rfl Tryz.call200 _ (args1 rfl) (by simp) ((dR 5 w2).mono ?_);rintro e w3 ⟨rfl,hb⟩;exact ⟨_,rfl,rfl,hb⟩
  ·intro _ _ a w2 hB hF hd;refine aJ <| aD _ _ _ rfl Tryz.call204 _ (args1 (hd 1 _ rfl rfl rfl (aj rfl))) (by simp) ((jL _ _ Wi w2).mono ?_);rintro e w3 ⟨rfl,hb⟩;exact ⟨_,rfl,rfl,hb⟩
  ·intro _ _ a w2 hB hF hd;refine aJ <| aD _ _ _ rfl Tryz.call203 _ (args2 (hd 0 _ rfl rfl rfl (aj rfl)) (hd 2 _ rfl rfl rfl (aj rfl))) (by simp) ((HM.out w2).mono ?_);rintro e w3 ⟨rfl,hb⟩;exact ⟨_,rfl,rfl,hb⟩
 ·refine bQ ?_;refine ⟨(fun h=> by cases h),(fun h=> by cases h),(fun h=> by cases h),(fun h=> by cases h),?_,(fun h=> by cases h),trivial⟩
  ·exact fun _=> ⟨rfl,rfl,fun a w2 K h=> aP rfl rfl Tryz.zeroValue191 (by simp) h⟩
 ·refine bQ ?_;refine ⟨(fun _ h=> by cases h),(fun _ h=> by cases h),(fun _ h=> by cases h),(fun _ h=> by cases h),(fun _ h=> by cases h),?_,trivial⟩
  ·intro p hp;obtain rfl:4=p:=fT hp;exact ⟨rfl,rfl,⟨_,rfl⟩,aj rfl,fun a w2 b K hB hF hd hx hb h=> aY rfl rfl bE hx (hd 3 _ rfl rfl rfl (aj rfl)) hb h⟩
 ·intro a w2 blk hB hF hS hv hfin bU;obtain ⟨v4,Hq,LA⟩:=hv 4 _ rfl rfl;have ha:=aI rfl rfl hF [_,_,_,_,_,undef] rfl ⟨hS 0 _ rfl rfl rfl,hS 1 _ rfl rfl rfl,hS 2 _ rfl rfl rfl,hS 3 _ rfl rfl rfl,v4,trivial,trivial⟩;have f4:=hfin 5 _ 4 rfl rfl;simp only [puts,Act.put,dH,dI,dJ] at ha;subst ha;have V4:aH .i64 w2 (blk 4) 16 (byF):=⟨_,f4⟩
  clear hS hv hfin bU hF v4 f4;replace hZ:=hZ.kept hB;replace hbel:=hbel.trans (hB.mono hbel.size);obtain ⟨x1,e1⟩:∃x,x=blk 4:=⟨_,rfl⟩
  rw [<-e1] at V4 ⊢;have h1:=V4;clear V4 hB e1 Hq LA;go_upto_region 2 with (fail)
  refine aT (n:=16) (by kernel_rfl) (by kernel_rfl) (by kernel_rfl) rfl
   (gJ [(6,5)]) (dS [(6,5)]) (fun _=> arr .i64 16 (fun _=> 0)) (fun _=> (arr .i64 16 (bxF))) (fun _=> 191) (fun _=> 2)
   (fun ii vv _=> (match ii with | 0=> vv=.agg (arr .i64 16 (byF)) | 1 | 2=> vv=.tuple #[.agg (arr .i64 16 (bxF)),.bool true] | 3=> vv=.agg (arr .i64 16 (bxF)) | 4 | 7=> vv=.bool true | _=> True)) (fun _ _=> True) (fun _ _ _=> trivial) (fun _ _ _ _ _ _ _=> trivial) (fun _ _ _ _ h _=> h)
   (eT rfl) (dA rfl) ?_ ?_ ?_ ?_
  ·refine bQ ?_;refine ⟨?_,?_,?_,?_,?_,(fun h=> by cases h),(fun _ h=> by cases h),?_,trivial⟩
   ·intro _ _ a w2 hB hF hd;exact aJ <| aO (aB rfl bT rfl bE (hF.same 1 rfl) (h1.below hB h1.lt)) rfl
   ·intro _ _ a w2 hB hF hd;refine aJ <| aD _ _ _ rfl Tryz.call209 _ (args1 (hd 0 _ rfl rfl rfl (aj rfl))) (by simp) ((HFI.out w2).mono ?_);rintro e w3 ⟨rfl,hb⟩;exact ⟨_,rfl,rfl,hb⟩
   ·intro _ _ a w2 hB hF hd;exact aJ <| fq rfl (hd 1 _ rfl rfl rfl (aj rfl))
   ·intro _ _ a w2 hB hF hd;exact aJ <| aO (bD rfl (hd 2 _ rfl rfl rfl (aj rfl)) rfl) rfl
   ·intro _ _ a w2 hB hF hd;exact aJ <| aO (bD rfl (hd 2 _ rfl rfl rfl (aj rfl)) rfl) rfl
   ·intro _ _ a w2 hB hF hd;exact aJ <| pE rfl (hd 4 _ rfl rfl rfl (aj rfl))
  ·refine bQ ?_;refine ⟨(fun h=> by cases h),(fun h=> by cases h),(fun h=> by cases h),(fun h=> by cases h),(fun h=> by cases h),?_,(fun h=> by cases h),(fun h=> by cases h),trivial⟩
   ·exact fun _=> ⟨rfl,rfl,fun a w2 K h=> aP rfl rfl Tryz.zeroValue191 (by simp) h⟩
  ·refine bQ ?_;refine ⟨(fun _ h=> by cases h),(fun _ h=> by cases h),(fun _ h=> by cases h),(fun _ h=> by cases h),(fun _ h=> by cases h),(fun _ h=> by cases h),?_,(fun _ h=> by cases h),trivial⟩
   ·intro p hp;obtain rfl:5=p:=fT hp;exact ⟨rfl,rfl,⟨_,rfl⟩,aj rfl,fun a w2 b K hB hF hd hx hb h=> aY rfl rfl bE hx (hd 3 _ rfl rfl rfl (aj rfl)) hb h⟩
  ·intro a w3 blk hB hF hS hv hfin bU;obtain ⟨v5,uU,Dl⟩:=hv 5 _ rfl rfl;have ha:=aI rfl rfl hF [_,_,_,_,_,_,undef,_] rfl ⟨hS 0 _ rfl rfl rfl,hS 1 _ rfl rfl rfl,hS 2 _ rfl rfl rfl,hS 3 _ rfl rfl rfl,hS 4 _ rfl rfl rfl,v5,trivial,hS 7 _ rfl rfl rfl,trivial⟩;have f5:=hfin 6 _ 5 rfl rfl;simp only [puts,Act.put,dH,dI,dJ] at ha;subst ha;have V5:aH .i64 w3 (blk 5) 16 (bxF):=⟨_,f5⟩
   clear hS hv hfin bU hF v5 f5;replace hZ:=hZ.kept hB;replace h1:=h1.kept hB;replace hbel:=hbel.trans (hB.mono hbel.size);obtain ⟨x2,e2⟩:∃x,x=blk 5:=⟨_,rfl⟩
   rw [<-e2] at V5 ⊢;have h2:=V5;clear V5 hB e2 uU Dl;go_upto_region 3 with (fail)
   refine bV (n:=16) (fun i=> i==3) (by kernel_rfl) (by kernel_rfl) (by kernel_rfl) (by kernel_rfl) rfl
    (fun ii vv _=> (match ii with | 0=> vv=.agg (arr .i64 16 (bxF)) | 1=> vv=.agg (arr .i64 16 (byF)) | 2=> vv=.agg (arr .i64 64 (bF)) | _=> True))
    (fun w w'=> Below w.heap.size w w') (fun _ _ h=> h) (fun _ _ _ _ h _=> h)
    (fun _=> w.heap.size) (fun _=> (arr .i64 64 (fun _=> 0))) (fun _=> (arr .i64 64 (bF)))
    (by intro i j _ _ hpi iL hne;simp only [beq_iff_eq] at hpi iL;omega)
    (by intro i _ hpi;exact (hZ).row)
    ?_ ?_ ?_
   ·refine bQ ?_;refine ⟨?_,?_,?_,(aK),trivial⟩
    ·intro _ a w2 hB hF hd;exact aJ <| aO (aB rfl bT rfl bE (hF.same 2 rfl) (h2.below hB h2.lt)) rfl
    ·intro _ a w2 hB hF hd;exact aJ <| aO (aB rfl bT rfl bE (hF.same 1 rfl) (h1.below hB h1.lt)) rfl
    ·intro _ a w2 hB hF hd;refine aJ <| aD _ _ _ rfl Tryz.call212 _ (args2 (hd 0 _ rfl rfl (aj rfl)) (hd 1 _ rfl rfl (aj rfl))) (by simp) ((HMD.out w2).mono ?_);rintro e w3 ⟨rfl,hb⟩;exact ⟨_,rfl,rfl,hb⟩
   ·refine bQ ?_;refine ⟨(aK),(aK),(aK),?_,trivial⟩
    ·intro _ a w1 w2 K hB hF hS hr hK;exact aW 193 _ _ rfl .i64 (w.heap.size) 64 (fun _=> 0) (bF) Tryz.size193 (hF.same 0 rfl) (hS 2 _ rfl rfl) hr hK
   ·intro a wf w4 hB hF hS hfil;have other:∀{k:IntKind} {qb n:Nat} {f:Nat->Int},qb≠w.heap.size->aH k wf qb n f->aH k w4 qb n f:=fun {k qb n f} e0 hA=> hfil.arr (by intro i _ hpi;simp only [jY,beq_iff_eq] at hpi;subst hpi<;> ((try simp only []);(try dsimp only);omega)) hA;have dx:∀{B:Nat} {w0:World},B<=w.heap.size->Below B w0 wf->Below B w0 w4:=fun {B w0} e0 hA=> hfil.below (by intro i _ hpi;simp only [jY,beq_iff_eq] at hpi;subst hpi<;> ((try simp only []);(try dsimp only);omega)) hA;have V3:aH .i64 w4 (w.heap.size) 64 (bF):=hfil.at 3 (by decide) rfl;have oL:=hfil.size;clear hfil;have ha:=aI rfl rfl hF [_,_,_,undef] rfl ⟨hS 0 _ rfl rfl,hS 1 _ rfl rfl,hS 2 _ rfl rfl,trivial,trivial⟩;simp only [puts,Act.put,dH,dI,dJ] at ha;subst ha;clear hS hF;have hb:=dx (bB _) (hbel.trans (hB.mono hbel.size));go_wp2;exact bodyPost_ret (cO rfl _ _ .i64 w.heap.size 64 _ rfl V3 uH rfl Tryz.size193) rfl ⟨rfl,hb⟩
end Go.Proofs.YtpcjekgfnfjbpaaGreat
namespace Go.Proofs.YtpcjekgfnfjbpaaGreat
open Go.RowKit Go.bI
theorem DV {v:Value} {p:Ed C7} (n:Nat) (hn:n<2 ^ 256) (w:World) (hp:tu v p):
  Calls Tryz.prog 158 #[v,.agg (arr .u8 32 (dg 256 (n:Int)))] w fun e w'=> ∃r,e=.returned r/\tu r (p.mul n)/\Below w.heap.size w w':=by
 obtain ⟨F,rfl,h⟩:=hp;refine (Yw h n hn w).mono ?_;rintro e w' ⟨G,rfl,hG,hb⟩;exact ⟨_,rfl,⟨G,rfl,hG⟩,hb⟩
theorem aat {v u:Value} {p q:Ed C7} (w:World) (hp:tu v p) (hq:tu u q):
  Calls Tryz.prog 159 #[v,u] w fun e w'=> ∃r,e=.returned r/\tu r (p.add q)/\Below w.heap.size w w':=by
 obtain ⟨F,rfl,h⟩:=hp;obtain ⟨G,rfl,k⟩:=hq;obtain ⟨R,hR,hc⟩:=Yx h k;refine (hc w).mono ?_;rintro e w' ⟨rfl,hb⟩;exact ⟨_,rfl,⟨R,rfl,hR⟩,hb⟩
theorem aas {v:Value} {p:Ed C7} (w:World) (hp:tu v p):Calls Tryz.prog 160 #[v] w fun e w'=> ∃r,e=.returned r/\tu r p.neg/\Below w.heap.size w w':=by
 obtain ⟨F,rfl,h⟩:=hp;obtain ⟨R,hR,hc⟩:=Yv h;refine (hc w).mono ?_;rintro e w' ⟨rfl,hb⟩;exact ⟨_,rfl,⟨R,rfl,hR⟩,hb⟩
theorem zx {v:Value} {p:Ed C7} (w:World) (hp:tu v p):Calls Tryz.prog 161 #[v] w fun e w'=> e=.returned (.agg (arr .u8 32 (dg 256 (dB p))))/\Below w.heap.size w w':=by
 obtain ⟨F,rfl,h⟩:=hp;exact Qk h w
end Go.Proofs.YtpcjekgfnfjbpaaGreat
namespace Go.Proofs.YtpcjekgfnfjbpaaGreat
open Go.RowKit Go.bI Go.ChangeShapes
attribute [local go_sem ↓] Go.wp_at_zero Go.wp_at_succ
theorem PU {Y:Int} (h0:0<=Y) (h1:Y<2 ^ 255):jk 32 (dg 256 (Y % Pr)) (dg 256 Y)=decide (Y<Pr):=by
 by_cases h:Y<Pr
 ·rw [sS h0 h,decide_eq_true h];exact mO
 ·rw [decide_eq_false h];refine ow fun e=> h ?_;have h2:=gB (B:=256) (n:=32) e;rw [jF (by decide),jF (by decide)] at h2;have hm:=Qw Y;have e1:Y % Pr % 256 ^ 32=Y % Pr:=sS hm.1 (by (have:Pr<256 ^ 32:=by decide);omega);have e2:Y % 256 ^ 32=Y:=sS h0 (by omega);rw [e1,e2] at h2;omega
theorem Ep {X Y:Int} (h:X * X % Pr=kG Y % Pr):∃p:Ed C7,toF X=p.x/\toF Y=p.y:=by
 have h2:=fB.2 h;unfold kG vT at h2;rw [bZ,bZ,rR] at h2;simp only [jN,fA,bZ,dF,LJ] at h2;have hi:=inv_mul (x:=dE * (toF Y * toF Y)+1) (by
  have h3:=DZ (toF Y);intro e;apply h3
  generalize toF Y=y at *
  generalize dE=d at *
  grind)
 exact ⟨⟨toF X,toF Y,afq h2 hi⟩,rfl,rfl⟩
def MC (A:Int):Prop:=A % 2 ^ 255<Pr/\mY (kG (A % 2 ^ 255))=true/\¬ (kG (A % 2 ^ 255) % Pr=0/\A / 2 ^ 255=1)
theorem Uw {A R Y:Int} (h0:0<=A) (h1:A<2 ^ 256) (hy:Y=A % 2 ^ 255) (hY:Y<Pr) (hR:R * R % Pr=kG Y % Pr) (he:R % Pr % 2=0) (hz:¬ (R % Pr=0/\A / 2 ^ 255=1)):
  ∃p:Ed C7,toF (if A / 2 ^ 255=1 then -R else R)=p.x/\toF Y=p.y/\dB p=A:=by
 obtain ⟨e,y0,y1,hb⟩:=zZ h0 h1;rw [<-hy] at e y0 y1;have hyy:∀p:Ed C7,toF Y=p.y->OT p=Y:=fun p h=> by unfold OT;rw [<-h,gN];exact sS y0 hY
 have hxx:∀(p:Ed C7) (X:Int),toF X=p.x->wK p=X % Pr:=fun p X h=> by unfold wK;rw [<-h,gN]
 have hm:=Qw R;by_cases ho:A / 2 ^ 255=1
 ·rw [if_pos ho];have hR2: -R * -R % Pr=kG Y % Pr:=by rw [Int.neg_mul_neg];exact hR
  obtain ⟨p,hx,hp⟩:=Ep hR2;refine ⟨p,hx,hp,?_⟩;unfold dB;have e3: -R % Pr=Pr - R % Pr:=by
   have e1: -R % Pr=(Pr - R % Pr) % Pr:=jV (c:= -(R / Pr) - 1) (by have:=BZ R Pr;rw [Int.mul_sub,Int.mul_neg];omega);have hn:R % Pr≠0:=fun h=> hz ⟨h,ho⟩;rw [e1];exact sS (by omega) (by omega)
  rw [hyy p hp,hxx p _ hx,e3];have hp2:Pr % 2=1:=by decide
  rw [show (Pr - R % Pr) % 2=1 by omega,←ho];omega
 ·rw [if_neg ho];obtain ⟨p,hx,hp⟩:=Ep hR;refine ⟨p,hx,hp,?_⟩;unfold dB;rw [hyy p hp,hxx p _ hx,he];omega
theorem oC {R Y:Int} (hR:R * R % Pr=kG Y % Pr):R % Pr=0 ↔ kG Y % Pr=0:=by
 have h2:=fB.2 hR
 constructor
 ·intro h;have h3:toF R=0:=by rw [<-fK];exact fB.2 h
  have h4:toF (kG Y)=toF 0:=by rw [<-h2,bZ,h3,fK];decide
  exact fB.1 h4
 ·intro h;have h3:toF (kG Y)=0:=by rw [<-fK];exact fB.2 h
  rw [h3,bZ] at h2;have h4:toF R=toF 0:=by rw [fK];exact (fP h2).elim id id
  exact fB.1 h4
theorem QV (f:Nat->Int) (Y:Int) (hf:Fe f Y):∃H R,Fe H R/\(mY (kG Y)=true->R * R % Pr=kG Y % Pr/\R % Pr % 2=0)/\∀w,Calls Tryz.prog 209 #[El f] w fun e w'=> e=.returned (.tuple #[El H,.bool (mY (kG Y))])/\Below w.heap.size w w':=by
 cases hq:mY (kG Y)
 ·exact ⟨fun _=> 0,0,zC,fun h=> (by cases h),fun w=> Qj f Y hf hq w⟩
 ·obtain ⟨R,h1,h2,h3⟩:=IY (Gu hf) hq;exact ⟨_,R,h1,fun _=> ⟨h2,h3⟩,fun w=> Am f Y hf hq w⟩
theorem WR {a:Act} (w:World):(Instr.build 193 ((#[] :Array (Nat × Operand)).map fun (i,x)=> (i,a.eval x))).run Tryz.prog w=.ok (.agg (arr .i64 64 (fun _=> 0))) w:=Go.run_build w _ _ _ (by kernel_rfl)
def OfR (A:Int) (r:Value) (c:Int):Prop:=(c=0/\MC A/\∃p:Ed C7,tu r p/\dB p=A)\/(c=21/\r=.agg (arr .i64 64 (fun _=> 0))/\¬ MC A)
theorem Yu (A:Int) (h0:0<=A) (h1:A<2 ^ 256) (w:World):
  Calls Tryz.prog 154 #[.agg (arr .u8 32 (dg 256 A))] w fun e w'=> ∃r c,e=.returned (.tuple #[r,.int .i64 c])/\OfR A r c/\Below w.heap.size w w':=by
 obtain ⟨eA,y0,y1,hb⟩:=zZ h0 h1;have HL:=ak (acf h0 h1);have HT:=ak (abw h0 h1);have HB:=ak (fun R (hY:A % 2 ^ 255<Pr)=> Uw (A:=A) (R:=R) h0 h1 rfl hY);have Lb:Hid (MC A ↔ A % 2 ^ 255<Pr/\mY (kG (A % 2 ^ 255))=true/\¬ (kG (A % 2 ^ 255) % Pr=0/\A / 2 ^ 255=1)):=Iff.rfl;obtain ⟨Y,hY⟩:∃Y,Y=A % 2 ^ 255:=⟨_,rfl⟩
 rw [<-hY] at y0 y1 HL HB Lb;have Lc:Hid (∀w,Calls Tryz.prog 199 #[.agg (arr .u8 32 (dg 256 Y))] w fun e w'=> e=.returned (.agg (arr .i64 16 (dg 65536 Y)))/\Below w.heap.size w w'):=fun w=> by
  have h:=AX Y w
  rwa [sS y0 y1] at h
 have HF:Hid (Fe (dg 65536 Y) Y):=by have h:=Gw Y;rwa [sS y0 y1] at h
 have HSL:=ak (PU y0 y1);obtain ⟨H,R,hfh,hrt,agf⟩:=QV _ Y HF.out;have HFH:=ak hfh;have Xv:=ak hrt;have ahw:=ak agf;have HEQ:Hid (∀w,Calls Tryz.prog 210 #[.agg (arr .i64 16 H),.agg (arr .i64 16 (aN 0))] w fun e w'=> e=.returned (.bool (XE R 0))/\Below w.heap.size w w'):=fun w=> rE _ _ _ _ HFH.out Km w;have HP0:=ak (fun (a:Act) w=> WR (a:=a) w);obtain ⟨ok,hok⟩:∃ok,ok=mY (kG Y):=⟨_,rfl⟩
 rw [<-hok] at ahw Xv Lb;obtain ⟨ze,hze⟩:∃ze,ze=XE R 0:=⟨_,rfl⟩
 rw [<-hze] at HEQ;obtain ⟨od,hod⟩:∃od,od=decide (A / 2 ^ 255=1):=⟨_,rfl⟩
 obtain ⟨lt,hlt⟩:∃lt,lt=decide (Y<Pr):=⟨_,rfl⟩
 rw [<-hlt] at HSL;have HZE:=ak hze;have HOD:=ak hod;have Hw:=ak hlt;have zk:=ak hb;clear hfh hrt agf hok hze hod hlt h0 h1 eA hb hY;obtain ⟨dd,hdd⟩:∃dd,dd=dg 256 A 31:=⟨_,rfl⟩
 obtain ⟨g0,g1⟩:0<=dd/\dd<256:=by rw [hdd];exact aX (by decide) _ _
 rw [<-hdd] at HL HT;have HDD:=ak hdd;have Vr:((dd / 128 * 128) !=0)=od:=by
  rw [HOD.out,HT.out];rcases zk.out with h | h<;> rw [h] <;> decide
 have h128:=Xe dd g0 g1;have h127:=Xf dd g0 g1;have ali:=ak h128;have ahs:=ak Vr;clear hdd Vr h128
 go_enter Tryz.func154,Tryz.ntmps154
 go_upto_region 1 with (fail);refine aG (fun w1=> aH .u8 w1 w.heap.size 32 (dg 256 A)/\aH .i64 w1 (w.heap.size+1) 64 (fun _=> 0)/\Below w.heap.size w w1) ⟨.alloc (bG rfl rfl) _,bG (by first | omega | (simp<;> omega)) (by rfl),((bM _ _).alloc (bB _) _).alloc (by first | omega | (simp<;> omega)) _⟩ ?_;rintro w1 ⟨h1,h2,hbel⟩;have c31:=h1.cell 31 (by decide);rw [<-HDD.out] at c31;have hl1:=h1.lt
 refine aR (n:=48) (by kernel_rfl) (by kernel_rfl) (by kernel_rfl) rfl
  (fun ii vv _=> (match ii with | 0=> vv=.pointer (some ⟨w.heap.size,31,none⟩) | 1=> vv=.int .u8 (dd) | 2=> vv=.int .u8 (dd / 128 * 128) | 3 | 4=> vv=.bool od | _=> True))
  (fun w w'=> Below w.heap.size w w') (fun _ _ h=> h) (fun _ _ _ _ h _=> h) ?_ ?_
 ·refine bQ ?_;refine ⟨?_,?_,?_,?_,?_,trivial⟩
  ·intro a w2 hB hF hd;exact aJ <| aO (aQ rfl (hF.same 1 rfl) rfl dU (by kernel_rfl) (by decide) (by decide)) rfl
  ·intro a w2 hB hF hd;exact aJ <| aO (aU rfl (hd 0 _ rfl (aj rfl)) Tryz.underlying5 ((hB.cell (p:=⟨w.heap.size,31,none⟩) hl1).trans c31)) rfl
  ·intro a w2 hB hF hd;exact aJ <| aO (Go.bI.kr rfl (hd 1 _ rfl (aj rfl)) rfl) (congrArg (Value.int .u8) (ali.out))
  ·intro a w2 hB hF hd;exact aJ <| aO (Go.bI.IV rfl (hd 2 _ rfl (aj rfl)) rfl) (congrArg Value.bool (ahs.out))
  ·intro a w2 hB hF hd;exact aJ <| pE rfl (hd 3 _ rfl (aj rfl))
 ·intro a w2 hB hF hS;have ha:=aI rfl rfl hF [_,_,_,_,_] rfl ⟨hS 0 _ rfl,hS 1 _ rfl,hS 2 _ rfl,hS 3 _ rfl,hS 4 _ rfl,trivial⟩;simp only [puts,Act.put,dH,dI,dJ] at ha;subst ha;clear hS hF;replace h1:=h1.kept hB;replace h2:=h2.kept hB;replace hbel:=hbel.trans (hB.mono hbel.size);have e31:=h1.cell 31 (by decide);rw [<-HDD.out] at e31;have f31:=h1.free 31;clear hB c31 hl1;go_upto_region 3 with (fail);refine aG (fun w3=> aH .u8 w3 w.heap.size 32 (dg 256 Y)/\aH .i64 w3 (w.heap.size+1) 64 (fun _=> 0)/\Below w.heap.size w w3) ⟨(h1.set 31 (dd % 128)).congr HL.out,h2.other (by simp) _,hbel.setCell (bB _) _⟩ ?_;clear h1 h2 hbel e31 f31 h127 g0 g1;rintro w3 ⟨h1,h2,hbel⟩;have hl2:=h2.lt
  try simp only [Act.put,dH,dI,dJ]
  refine aT (n:=48) (by kernel_rfl) (by kernel_rfl) (by kernel_rfl) rfl
   (gJ [(3,2)]) (dS [(3,2)]) (fun _=> arr .i64 16 (fun _=> 0)) (fun _=> (arr .i64 16 (dg 65536 Y))) (fun _=> 191) (fun _=> 5)
   (fun ii vv _=> (match ii with | 0=> vv=.agg (arr .u8 32 (dg 256 Y)) | 1=> vv=.agg (arr .i64 16 (dg 65536 Y)) | _=> True)) (fun _ _=> True) (fun _ _ _=> trivial) (fun _ _ _ _ _ _ _=> trivial) (fun _ _ _ _ h _=> h)
   (eT rfl) (dA rfl) ?_ ?_ ?_ ?_
  ·refine bQ ?_;refine ⟨?_,?_,(fun h=> by cases h),(fun _ h=> by cases h),trivial⟩
   ·intro _ _ a w2 hB hF hd;exact aJ <| aO (aB rfl dU rfl dz (hF.same 1 rfl) (h1.below hB h1.lt)) rfl
   ·intro _ _ a w2 hB hF hd;refine aJ <| aD _ _ _ rfl Tryz.call199 _ (args1 (hd 0 _ rfl rfl rfl (aj rfl))) (by simp) ((Lc.out w2).mono ?_);rintro e w3 ⟨rfl,hb⟩;exact ⟨_,rfl,rfl,hb⟩
  ·refine bQ ?_;refine ⟨(fun h=> by cases h),(fun h=> by cases h),?_,(fun h=> by cases h),trivial⟩
   ·exact fun _=> ⟨rfl,rfl,fun a w2 K h=> aP rfl rfl Tryz.zeroValue191 (by simp) h⟩
  ·refine bQ ?_;refine ⟨(fun _ h=> by cases h),(fun _ h=> by cases h),(fun _ h=> by cases h),?_,trivial⟩
   ·intro p hp;obtain rfl:2=p:=fT hp;exact ⟨rfl,rfl,⟨_,rfl⟩,aj rfl,fun a w2 b K hB hF hd hx hb h=> aY rfl rfl bE hx (hd 1 _ rfl rfl rfl (aj rfl)) hb h⟩
  ·intro a w4 blk hB hF hS hv hfin bU;obtain ⟨v2,Sd,v2u⟩:=hv 2 _ rfl rfl;have ha:=aI rfl rfl hF [_,_,_,undef] rfl ⟨hS 0 _ rfl rfl rfl,hS 1 _ rfl rfl rfl,v2,trivial,trivial⟩;have f2:=hfin 3 _ 2 rfl rfl;simp only [puts,Act.put,dH,dI,dJ] at ha;subst ha;have V2:aH .i64 w4 (blk 2) 16 (dg 65536 Y):=⟨_,f2⟩
   clear hS hv hfin bU hF v2 f2;replace h1:=h1.kept hB;replace h2:=h2.kept hB;replace hbel:=hbel.trans (hB.mono hbel.size);obtain ⟨x5,e5⟩:∃x,x=blk 2:=⟨_,rfl⟩
   rw [<-e5] at V2 Sd ⊢;have h5:=V2;have l5:w.heap.size+1<x5:=by omega
   have hl5:=h5.lt;clear hB Sd v2u V2 e5 hl2;go_upto_region 4 with (fail)
   refine aT (n:=48) (by kernel_rfl) (by kernel_rfl) (by kernel_rfl) rfl
    (gJ [(6,5)]) (dS [(6,5)]) (fun _=> arr .i64 16 (fun _=> 0)) (fun _=> (arr .i64 16 (H))) (fun _=> 191) (fun _=> 6)
    (fun ii vv _=> (match ii with | 0=> vv=.agg (arr .i64 16 (dg 65536 Y)) | 1 | 2=> vv=.tuple #[.agg (arr .i64 16 (H)),.bool ok] | 3=> vv=.agg (arr .i64 16 (H)) | 4 | 7=> vv=.bool ok | _=> True)) (fun _ _=> True) (fun _ _ _=> trivial) (fun _ _ _ _ _ _ _=> trivial) (fun _ _ _ _ h _=> h)
    (eT rfl) (dA rfl) ?_ ?_ ?_ ?_
   ·refine bQ ?_;refine ⟨?_,?_,?_,?_,?_,(fun h=> by cases h),(fun _ h=> by cases h),?_,trivial⟩
    ·intro _ _ a w2 hB hF hd;exact aJ <| aO (aB rfl bT rfl bE (hF.same 5 rfl) (h5.below hB h5.lt)) rfl
    ·intro _ _ a w2 hB hF hd;refine aJ <| aD _ _ _ rfl Tryz.call209 _ (args1 (hd 0 _ rfl rfl rfl (aj rfl))) (by simp) ((ahw.out w2).mono ?_);rintro e w3 ⟨rfl,hb⟩;exact ⟨_,rfl,rfl,hb⟩
    ·intro _ _ a w2 hB hF hd;exact aJ <| fq rfl (hd 1 _ rfl rfl rfl (aj rfl))
    ·intro _ _ a w2 hB hF hd;exact aJ <| aO (bD rfl (hd 2 _ rfl rfl rfl (aj rfl)) rfl) rfl
    ·intro _ _ a w2 hB hF hd;exact aJ <| aO (bD rfl (hd 2 _ rfl rfl rfl (aj rfl)) rfl) rfl
    ·intro _ _ a w2 hB hF hd;exact aJ <| pE rfl (hd 4 _ rfl rfl rfl (aj rfl))
   ·refine bQ ?_;refine ⟨(fun h=> by cases h),(fun h=> by cases h),(fun h=> by cases h),(fun h=> by cases h),(fun h=> by cases h),?_,(fun h=> by cases h),(fun h=> by cases h),trivial⟩
    ·exact fun _=> ⟨rfl,rfl,fun a w2 K h=> aP rfl rfl Tryz.zeroValue191 (by simp) h⟩
   ·refine bQ ?_;refine ⟨(fun _ h=> by cases h),(fun _ h=> by cases h),(fun _ h=> by cases h),(fun _ h=> by cases h),(fun _ h=> by cases h),(fun _ h=> by cases h),?_,(fun _ h=> by cases h),trivial⟩
    ·intro p hp;obtain rfl:5=p:=fT hp;exact ⟨rfl,rfl,⟨_,rfl⟩,aj rfl,fun a w2 b K hB hF hd hx hb h=> aY rfl rfl bE hx (hd 3 _ rfl rfl rfl (aj rfl)) hb h⟩
   ·intro a w5 blk hB hF hS hv hfin bU;obtain ⟨v5,uU,Dl⟩:=hv 5 _ rfl rfl;have ha:=aI rfl rfl hF [_,_,_,_,_,_,undef,_] rfl ⟨hS 0 _ rfl rfl rfl,hS 1 _ rfl rfl rfl,hS 2 _ rfl rfl rfl,hS 3 _ rfl rfl rfl,hS 4 _ rfl rfl rfl,v5,trivial,hS 7 _ rfl rfl rfl,trivial⟩;have f5:=hfin 6 _ 5 rfl rfl;simp only [puts,Act.put,dH,dI,dJ] at ha;subst ha;have V5:aH .i64 w5 (blk 5) 16 (H):=⟨_,f5⟩
    clear hS hv hfin bU hF v5 f5;replace h1:=h1.kept hB;replace h2:=h2.kept hB;replace h5:=h5.kept hB;replace hbel:=hbel.trans (hB.mono hbel.size);obtain ⟨x6,e6⟩:∃x,x=blk 5:=⟨_,rfl⟩
    rw [<-e6] at V5 uU ⊢;have h6:=V5;have l6:x5<x6:=by omega
    clear hB uU Dl V5 e6 hl5;go_upto_region 5 with (fail)
    refine aR (n:=48) (by kernel_rfl) (by kernel_rfl) (by kernel_rfl) rfl
     (fun ii vv _=> (match ii with | 0=> vv=.agg (arr .i64 16 (H)) | 1=> vv=.agg (arr .i64 16 (aN 0)) | 2 | 3=> vv=.bool ze | _=> True))
     (fun w w'=> Below w.heap.size w w') (fun _ _ h=> h) (fun _ _ _ _ h _=> h) ?_ ?_
    ·refine bQ ?_;refine ⟨?_,?_,?_,?_,trivial⟩
     ·intro a w2 hB hF hd;exact aJ <| aO (aB rfl bT rfl bE (hF.same 6 rfl) (h6.below hB h6.lt)) rfl
     ·intro a w2 hB hF hd;refine aJ <| aD _ _ _ rfl Tryz.call200 _ (args1 rfl) (by simp) ((dR 0 w2).mono ?_);rintro e w3 ⟨rfl,hb⟩;exact ⟨_,rfl,rfl,hb⟩
     ·intro a w2 hB hF hd;refine aJ <| aD _ _ _ rfl Tryz.call210 _ (args2 (hd 0 _ rfl (aj rfl)) (hd 1 _ rfl (aj rfl))) (by simp) ((HEQ.out w2).mono ?_);rintro e w3 ⟨rfl,hb⟩;exact ⟨_,rfl,rfl,hb⟩
     ·intro a w2 hB hF hd;exact aJ <| pE rfl (hd 2 _ rfl (aj rfl))
    ·intro a w6 hB hF hS;have ha:=aI rfl rfl hF [_,_,_,_] rfl ⟨hS 0 _ rfl,hS 1 _ rfl,hS 2 _ rfl,hS 3 _ rfl,trivial⟩;simp only [puts,Act.put,dH,dI,dJ] at ha;subst ha;clear hS hF;replace h1:=h1.kept hB;replace h2:=h2.kept hB;replace h5:=h5.kept hB;replace h6:=h6.kept hB;replace hbel:=hbel.trans (hB.mono hbel.size);clear hB;go_upto_region 6 with (fail);cases ok
     case false=>
      refine aR (n:=48) (by kernel_rfl) (by kernel_rfl) (by kernel_rfl) rfl
       (fun ii vv _=> (match ii with | 0=> vv=.bool false | 1 | 2 | 7 | 8 | 13=> vv=.bool true | 3 | 4 | 5 | 6 | 9 | 10 | 11 | 12=> vv=undef | _=> True))
       (fun w w'=> Below w.heap.size w w') (fun _ _ h=> h) (fun _ _ _ _ h _=> h) ?_ ?_
      ·refine bQ ?_;refine ⟨?_,?_,?_,?_,?_,?_,?_,?_,?_,?_,?_,?_,?_,?_,trivial⟩
       ·intro a w2 hB hF hd;exact aJ <| fq rfl (hF.same 7 rfl)
       ·intro a w2 hB hF hd;exact aJ <| aO (jP rfl (hd 0 _ rfl (aj rfl))) rfl
       ·intro a w2 hB hF hd;exact aJ <| fq rfl (hd 1 _ rfl (aj rfl))
       ·intro a w2 hB hF hd;rw [if_neg (by rw [bR rfl rfl (hd 2 _ rfl (aj rfl))];decide)];exact rfl
       ·intro a w2 hB hF hd;rw [if_neg (by rw [bR rfl rfl (hd 2 _ rfl (aj rfl))];decide)];exact rfl
       ·intro a w2 hB hF hd;rw [if_neg (by rw [bR rfl rfl (hd 2 _ rfl (aj rfl))];decide)];exact rfl
       ·intro a w2 hB hF hd;rw [if_neg (by rw [bR rfl rfl (hd 2 _ rfl (aj rfl))];decide)];exact rfl
       ·intro a w2 hB hF hd;exact aJ <| aO (fO rfl (hd 2 _ rfl (aj rfl))) (rfl)
       ·intro a w2 hB hF hd;exact aJ <| fq rfl (hd 7 _ rfl (aj rfl))
       ·intro a w2 hB hF hd;rw [if_neg (by rw [bR rfl rfl (hd 8 _ rfl (aj rfl))];decide)];exact rfl
       ·intro a w2 hB hF hd;rw [if_neg (by rw [bR rfl rfl (hd 8 _ rfl (aj rfl))];decide)];exact rfl
       ·intro a w2 hB hF hd;rw [if_neg (by rw [uS rfl rfl (hd 10 _ rfl (aj rfl))];decide)];exact rfl
       ·intro a w2 hB hF hd;rw [if_neg (by rw [bR rfl rfl (hd 8 _ rfl (aj rfl))];decide)];exact rfl
       ·intro a w2 hB hF hd;exact aJ <| aO (fO rfl (hd 8 _ rfl (aj rfl))) (rfl)
      ·intro a w7 hB hF hS;have ha:=aI rfl rfl hF [_,_,_,_,_,_,_,_,_,_,_,_,_,_] rfl ⟨hS 0 _ rfl,hS 1 _ rfl,hS 2 _ rfl,hS 3 _ rfl,hS 4 _ rfl,hS 5 _ rfl,hS 6 _ rfl,hS 7 _ rfl,hS 8 _ rfl,hS 9 _ rfl,hS 10 _ rfl,hS 11 _ rfl,hS 12 _ rfl,hS 13 _ rfl,trivial⟩;simp only [puts,Act.put,dH,dI,dJ] at ha;subst ha;clear hS hF;replace h1:=h1.kept hB;replace h2:=h2.kept hB;replace h5:=h5.kept hB;replace h6:=h6.kept hB;replace hbel:=hbel.trans (hB.mono hbel.size);clear hB;go_wp2_with (first | (refine dV rfl (dL rfl (HP0.out _ _)) ?_) | (refine aF rfl 193 _ _ rfl .i64 (w.heap.size+1) 64 (fun _=> 0) (fun _=> 0) Tryz.size193 rfl rfl h2 ?_));exact bodyPost_ret (dM rfl _ _ .i64 (w.heap.size+1) 64 (fun _=> 0) rfl (h2.setRow _ _) uH rfl Tryz.size193) rfl ⟨_,_,rfl,.inr ⟨rfl,rfl,fun hh=> absurd (Lb.out.1 hh).2.1 (by decide)⟩,aA hbel (by omega) _⟩
     case true=>
      cases lt
      case false=>
       refine aR (n:=48) (by kernel_rfl) (by kernel_rfl) (by kernel_rfl) rfl
        (fun ii vv _=> (match ii with | 0 | 6 | 7 | 8 | 13=> vv=.bool true | 1 | 2=> vv=.bool false | 3=> vv=.agg (arr .i64 16 (dg 65536 Y)) | 4=> vv=.agg (arr .u8 32 (dg 256 (Y % Pr))) | 5=> vv=.agg (arr .u8 32 (dg 256 Y)) | 9 | 10 | 11 | 12=> vv=undef | _=> True))
        (fun w w'=> Below w.heap.size w w') (fun _ _ h=> h) (fun _ _ _ _ h _=> h) ?_ ?_
       ·refine bQ ?_;refine ⟨?_,?_,?_,?_,?_,?_,?_,?_,?_,?_,?_,?_,?_,?_,trivial⟩
        ·intro a w2 hB hF hd;exact aJ <| fq rfl (hF.same 7 rfl)
        ·intro a w2 hB hF hd;exact aJ <| aO (jP rfl (hd 0 _ rfl (aj rfl))) rfl
        ·intro a w2 hB hF hd;exact aJ <| fq rfl (hd 1 _ rfl (aj rfl))
        ·intro a w2 hB hF hd;refine aS (bg rfl rfl (hd 2 _ rfl (aj rfl)) rfl) ?_;exact aO (aB rfl bT rfl bE (hF.same 5 rfl) (h5.below hB h5.lt)) rfl
        ·intro a w2 hB hF hd;refine aS (bg rfl rfl (hd 2 _ rfl (aj rfl)) rfl) ?_;refine aD _ _ _ rfl Tryz.call205 _ (args1 (hd 3 _ rfl (aj rfl))) (by simp) ((iq _ _ HF.out w2).mono ?_);rintro e w3 ⟨rfl,hb⟩;exact ⟨_,rfl,rfl,hb⟩
        ·intro a w2 hB hF hd;refine aS (bg rfl rfl (hd 2 _ rfl (aj rfl)) rfl) ?_;exact aO (aB rfl dU rfl dz (hF.same 1 rfl) (h1.below hB h1.lt)) rfl
        ·intro a w2 hB hF hd;refine aS (bg rfl rfl (hd 2 _ rfl (aj rfl)) rfl) ?_;exact aO (jU false rfl (hd 4 _ rfl (aj rfl)) (hd 5 _ rfl (aj rfl)) dU (by kernel_rfl) (by kernel_rfl) (by kernel_rfl) (by kernel_rfl) (by kernel_rfl) HSL.out) rfl
        ·intro a w2 hB hF hd;exact aJ <| aO (fO rfl (hd 2 _ rfl (aj rfl))) ((hd 6 _ rfl (aj rfl)))
        ·intro a w2 hB hF hd;exact aJ <| fq rfl (hd 7 _ rfl (aj rfl))
        ·intro a w2 hB hF hd;rw [if_neg (by rw [bR rfl rfl (hd 8 _ rfl (aj rfl))];decide)];exact rfl
        ·intro a w2 hB hF hd;rw [if_neg (by rw [bR rfl rfl (hd 8 _ rfl (aj rfl))];decide)];exact rfl
        ·intro a w2 hB hF hd;rw [if_neg (by rw [uS rfl rfl (hd 10 _ rfl (aj rfl))];decide)];exact rfl
        ·intro a w2 hB hF hd;rw [if_neg (by rw [bR rfl rfl (hd 8 _ rfl (aj rfl))];decide)];exact rfl
        ·intro a w2 hB hF hd;exact aJ <| aO (fO rfl (hd 8 _ rfl (aj rfl))) (rfl)
       ·intro a w7 hB hF hS;have ha:=aI rfl rfl hF [_,_,_,_,_,_,_,_,_,_,_,_,_,_] rfl ⟨hS 0 _ rfl,hS 1 _ rfl,hS 2 _ rfl,hS 3 _ rfl,hS 4 _ rfl,hS 5 _ rfl,hS 6 _ rfl,hS 7 _ rfl,hS 8 _ rfl,hS 9 _ rfl,hS 10 _ rfl,hS 11 _ rfl,hS 12 _ rfl,hS 13 _ rfl,trivial⟩;simp only [puts,Act.put,dH,dI,dJ] at ha;subst ha;clear hS hF;replace h1:=h1.kept hB;replace h2:=h2.kept hB;replace h5:=h5.kept hB;replace h6:=h6.kept hB;replace hbel:=hbel.trans (hB.mono hbel.size);clear hB;go_wp2_with (first | (refine dV rfl (dL rfl (HP0.out _ _)) ?_) | (refine aF rfl 193 _ _ rfl .i64 (w.heap.size+1) 64 (fun _=> 0) (fun _=> 0) Tryz.size193 rfl rfl h2 ?_));exact bodyPost_ret (dM rfl _ _ .i64 (w.heap.size+1) 64 (fun _=> 0) rfl (h2.setRow _ _) uH rfl Tryz.size193) rfl ⟨_,_,rfl,.inr ⟨rfl,rfl,fun hh=> absurd (Lb.out.1 hh).1 (of_decide_eq_false Hw.out.symm)⟩,aA hbel (by omega) _⟩
      case true=>
       cases ze
       case true=>
        have HRZ:Hid (R % Pr=0):=by
         have h:R % Pr=0 % Pr:=of_decide_eq_true HZE.out.symm;rw [show (0:Int) % Pr=0 by decide] at h;exact h
        cases od
        case true=>
         refine aR (n:=48) (by kernel_rfl) (by kernel_rfl) (by kernel_rfl) rfl
          (fun ii vv _=> (match ii with | 0 | 9 | 10 | 11 | 12 | 13=> vv=.bool true | 1 | 2 | 6 | 7 | 8=> vv=.bool false | 3=> vv=.agg (arr .i64 16 (dg 65536 Y)) | 4=> vv=.agg (arr .u8 32 (dg 256 (Y % Pr))) | 5=> vv=.agg (arr .u8 32 (dg 256 Y)) | _=> True))
          (fun w w'=> Below w.heap.size w w') (fun _ _ h=> h) (fun _ _ _ _ h _=> h) ?_ ?_
         ·refine bQ ?_;refine ⟨?_,?_,?_,?_,?_,?_,?_,?_,?_,?_,?_,?_,?_,?_,trivial⟩
          ·intro a w2 hB hF hd;exact aJ <| fq rfl (hF.same 7 rfl)
          ·intro a w2 hB hF hd;exact aJ <| aO (jP rfl (hd 0 _ rfl (aj rfl))) rfl
          ·intro a w2 hB hF hd;exact aJ <| fq rfl (hd 1 _ rfl (aj rfl))
          ·intro a w2 hB hF hd;refine aS (bg rfl rfl (hd 2 _ rfl (aj rfl)) rfl) ?_;exact aO (aB rfl bT rfl bE (hF.same 5 rfl) (h5.below hB h5.lt)) rfl
          ·intro a w2 hB hF hd;refine aS (bg rfl rfl (hd 2 _ rfl (aj rfl)) rfl) ?_;refine aD _ _ _ rfl Tryz.call205 _ (args1 (hd 3 _ rfl (aj rfl))) (by simp) ((iq _ _ HF.out w2).mono ?_);rintro e w3 ⟨rfl,hb⟩;exact ⟨_,rfl,rfl,hb⟩
          ·intro a w2 hB hF hd;refine aS (bg rfl rfl (hd 2 _ rfl (aj rfl)) rfl) ?_;exact aO (aB rfl dU rfl dz (hF.same 1 rfl) (h1.below hB h1.lt)) rfl
          ·intro a w2 hB hF hd;refine aS (bg rfl rfl (hd 2 _ rfl (aj rfl)) rfl) ?_;exact aO (jU true rfl (hd 4 _ rfl (aj rfl)) (hd 5 _ rfl (aj rfl)) dU (by kernel_rfl) (by kernel_rfl) (by kernel_rfl) (by kernel_rfl) (by kernel_rfl) HSL.out) rfl
          ·intro a w2 hB hF hd;exact aJ <| aO (fO rfl (hd 2 _ rfl (aj rfl))) ((hd 6 _ rfl (aj rfl)))
          ·intro a w2 hB hF hd;exact aJ <| fq rfl (hd 7 _ rfl (aj rfl))
          ·intro a w2 hB hF hd;refine aS (bg rfl rfl (hd 8 _ rfl (aj rfl)) rfl) ?_;exact fq rfl (hF.same 8 rfl)
          ·intro a w2 hB hF hd;refine aS (bg rfl rfl (hd 8 _ rfl (aj rfl)) rfl) ?_;exact fq rfl (hd 9 _ rfl (aj rfl))
          ·intro a w2 hB hF hd;refine aS (bg rfl rfl (hd 10 _ rfl (aj rfl)) rfl) ?_;exact fq rfl (hF.same 4 rfl)
          ·intro a w2 hB hF hd;refine aS (bg rfl rfl (hd 8 _ rfl (aj rfl)) rfl) ?_;exact aO (fO rfl (hd 10 _ rfl (aj rfl))) ((hd 11 _ rfl (aj rfl)))
          ·intro a w2 hB hF hd;exact aJ <| aO (fO rfl (hd 8 _ rfl (aj rfl))) ((hd 12 _ rfl (aj rfl)))
         ·intro a w7 hB hF hS;have ha:=aI rfl rfl hF [_,_,_,_,_,_,_,_,_,_,_,_,_,_] rfl ⟨hS 0 _ rfl,hS 1 _ rfl,hS 2 _ rfl,hS 3 _ rfl,hS 4 _ rfl,hS 5 _ rfl,hS 6 _ rfl,hS 7 _ rfl,hS 8 _ rfl,hS 9 _ rfl,hS 10 _ rfl,hS 11 _ rfl,hS 12 _ rfl,hS 13 _ rfl,trivial⟩;simp only [puts,Act.put,dH,dI,dJ] at ha;subst ha;clear hS hF;replace h1:=h1.kept hB;replace h2:=h2.kept hB;replace h5:=h5.kept hB;replace h6:=h6.kept hB;replace hbel:=hbel.trans (hB.mono hbel.size);clear hB;go_wp2_with (first | (refine dV rfl (dL rfl (HP0.out _ _)) ?_) | (refine aF rfl 193 _ _ rfl .i64 (w.heap.size+1) 64 (fun _=> 0) (fun _=> 0) Tryz.size193 rfl rfl h2 ?_));exact bodyPost_ret (dM rfl _ _ .i64 (w.heap.size+1) 64 (fun _=> 0) rfl (h2.setRow _ _) uH rfl Tryz.size193) rfl ⟨_,_,rfl,.inr ⟨rfl,rfl,fun hh=> (Lb.out.1 hh).2.2 ⟨(oC (Xv.out (by trivial)).1).1 HRZ.out,of_decide_eq_true HOD.out.symm⟩⟩,aA hbel (by omega) _⟩
        case false=>
         have HNZ:Hid (¬ (R % Pr=0/\A / 2 ^ 255=1)):=fun h=> of_decide_eq_false HOD.out.symm h.2
         refine aR (n:=48) (by kernel_rfl) (by kernel_rfl) (by kernel_rfl) rfl
          (fun ii vv _=> (match ii with | 0 | 9 | 10=> vv=.bool true | 1 | 2 | 6 | 7 | 8 | 11 | 12 | 13=> vv=.bool false | 3=> vv=.agg (arr .i64 16 (dg 65536 Y)) | 4=> vv=.agg (arr .u8 32 (dg 256 (Y % Pr))) | 5=> vv=.agg (arr .u8 32 (dg 256 Y)) | _=> True))
          (fun w w'=> Below w.heap.size w w') (fun _ _ h=> h) (fun _ _ _ _ h _=> h) ?_ ?_
         ·refine bQ ?_;refine ⟨?_,?_,?_,?_,?_,?_,?_,?_,?_,?_,?_,?_,?_,?_,trivial⟩
          ·intro a w2 hB hF hd;exact aJ <| fq rfl (hF.same 7 rfl)
          ·intro a w2 hB hF hd;exact aJ <| aO (jP rfl (hd 0 _ rfl (aj rfl))) rfl
          ·intro a w2 hB hF hd;exact aJ <| fq rfl (hd 1 _ rfl (aj rfl))
          ·intro a w2 hB hF hd;refine aS (bg rfl rfl (hd 2 _ rfl (aj rfl)) rfl) ?_;exact aO (aB rfl bT rfl bE (hF.same 5 rfl) (h5.below hB h5.lt)) rfl
          ·intro a w2 hB hF hd;refine aS (bg rfl rfl (hd 2 _ rfl (aj rfl)) rfl) ?_;refine aD _ _ _ rfl Tryz.call205 _ (args1 (hd 3 _ rfl (aj rfl))) (by simp) ((iq _ _ HF.out w2).mono ?_);rintro e w3 ⟨rfl,hb⟩;exact ⟨_,rfl,rfl,hb⟩
          ·intro a w2 hB hF hd;refine aS (bg rfl rfl (hd 2 _ rfl (aj rfl)) rfl) ?_;exact aO (aB rfl dU rfl dz (hF.same 1 rfl) (h1.below hB h1.lt)) rfl
          ·intro a w2 hB hF hd;refine aS (bg rfl rfl (hd 2 _ rfl (aj rfl)) rfl) ?_;exact aO (jU true rfl (hd 4 _ rfl (aj rfl)) (hd 5 _ rfl (aj rfl)) dU (by kernel_rfl) (by kernel_rfl) (by kernel_rfl) (by kernel_rfl) (by kernel_rfl) HSL.out) rfl
          ·intro a w2 hB hF hd;exact aJ <| aO (fO rfl (hd 2 _ rfl (aj rfl))) ((hd 6 _ rfl (aj rfl)))
          ·intro a w2 hB hF hd;exact aJ <| fq rfl (hd 7 _ rfl (aj rfl))
          ·intro a w2 hB hF hd;refine aS (bg rfl rfl (hd 8 _ rfl (aj rfl)) rfl) ?_;exact fq rfl (hF.same 8 rfl)
          ·intro a w2 hB hF hd;refine aS (bg rfl rfl (hd 8 _ rfl (aj rfl)) rfl) ?_;exact fq rfl (hd 9 _ rfl (aj rfl))
          ·intro a w2 hB hF hd;refine aS (bg rfl rfl (hd 10 _ rfl (aj rfl)) rfl) ?_;exact fq rfl (hF.same 4 rfl)
          ·intro a w2 hB hF hd;refine aS (bg rfl rfl (hd 8 _ rfl (aj rfl)) rfl) ?_;exact aO (fO rfl (hd 10 _ rfl (aj rfl))) ((hd 11 _ rfl (aj rfl)))
          ·intro a w2 hB hF hd;exact aJ <| aO (fO rfl (hd 8 _ rfl (aj rfl))) ((hd 12 _ rfl (aj rfl)))
         ·intro a w7 hB hF hS;have ha:=aI rfl rfl hF [_,_,_,_,_,_,_,_,_,_,_,_,_,_] rfl ⟨hS 0 _ rfl,hS 1 _ rfl,hS 2 _ rfl,hS 3 _ rfl,hS 4 _ rfl,hS 5 _ rfl,hS 6 _ rfl,hS 7 _ rfl,hS 8 _ rfl,hS 9 _ rfl,hS 10 _ rfl,hS 11 _ rfl,hS 12 _ rfl,hS 13 _ rfl,trivial⟩;simp only [puts,Act.put,dH,dI,dJ] at ha;subst ha;clear hS hF;replace h1:=h1.kept hB;replace h2:=h2.kept hB;replace h5:=h5.kept hB;replace h6:=h6.kept hB;replace hbel:=hbel.trans (hB.mono hbel.size);clear hB;go_wp2_with (first | (refine bA rfl 191 _ rfl .i64 x6 16 H bT rfl bE rfl h6 ?_) | (refine bA rfl 191 _ rfl .i64 x5 16 (dg 65536 Y) bT rfl bE rfl h5 ?_));refine (mU H (dg 65536 Y) (R) Y HFH.out HF.out _).mono ?_;rintro e wm ⟨rfl,hb⟩;replace h2:=h2.kept hb;replace hbel:=hbel.trans (hb.mono hbel.size);clear hb;go_wp2_with (refine aF rfl 193 _ _ rfl .i64 (w.heap.size+1) 64 (fun _=> 0) (pt H (dg 65536 Y) (aN 1) (aL H (dg 65536 Y))) Tryz.size193 rfl rfl h2 ?_);have hz:¬ (R % Pr=0/\A / 2 ^ 255=1):=HNZ.out;obtain ⟨hr2,hr3⟩:=Xv.out (by trivial);obtain ⟨p,hx,hy,hbn⟩:=HB.out R (of_decide_eq_true Hw.out.symm) hr2 hr3 hz;rw [if_neg (of_decide_eq_false HOD.out.symm)] at hx;exact bodyPost_ret (dM rfl _ _ .i64 (w.heap.size+1) 64 (pt H (dg 65536 Y) (aN 1) (aL H (dg 65536 Y))) rfl (h2.setRow _ _) uH rfl Tryz.size193) rfl ⟨_,_,rfl,.inl ⟨rfl,Lb.out.2 ⟨of_decide_eq_true Hw.out.symm,(by trivial),fun h=> hz ⟨(oC hr2).2 h.1,h.2⟩⟩,p,⟨_,rfl,zA HFH.out HF.out hx hy⟩,hbn⟩,aA hbel (by omega) _⟩
       case false=>
        have HNZ:Hid (¬ (R % Pr=0/\A / 2 ^ 255=1)):=fun h=> of_decide_eq_false HZE.out.symm h.1
        refine aR (n:=48) (by kernel_rfl) (by kernel_rfl) (by kernel_rfl) rfl
         (fun ii vv _=> (match ii with | 0=> vv=.bool true | 1 | 2 | 6 | 7 | 8 | 9 | 10 | 12 | 13=> vv=.bool false | 3=> vv=.agg (arr .i64 16 (dg 65536 Y)) | 4=> vv=.agg (arr .u8 32 (dg 256 (Y % Pr))) | 5=> vv=.agg (arr .u8 32 (dg 256 Y)) | 11=> vv=undef | _=> True))
         (fun w w'=> Below w.heap.size w w') (fun _ _ h=> h) (fun _ _ _ _ h _=> h) ?_ ?_
        ·refine bQ ?_;refine ⟨?_,?_,?_,?_,?_,?_,?_,?_,?_,?_,?_,?_,?_,?_,trivial⟩
         ·intro a w2 hB hF hd;exact aJ <| fq rfl (hF.same 7 rfl)
         ·intro a w2 hB hF hd;exact aJ <| aO (jP rfl (hd 0 _ rfl (aj rfl))) rfl
         ·intro a w2 hB hF hd;exact aJ <| fq rfl (hd 1 _ rfl (aj rfl))
         ·intro a w2 hB hF hd;refine aS (bg rfl rfl (hd 2 _ rfl (aj rfl)) rfl) ?_;exact aO (aB rfl bT rfl bE (hF.same 5 rfl) (h5.below hB h5.lt)) rfl
         ·intro a w2 hB hF hd;refine aS (bg rfl rfl (hd 2 _ rfl (aj rfl)) rfl) ?_;refine aD _ _ _ rfl Tryz.call205 _ (args1 (hd 3 _ rfl (aj rfl))) (by simp) ((iq _ _ HF.out w2).mono ?_);rintro e w3 ⟨rfl,hb⟩;exact ⟨_,rfl,rfl,hb⟩
         ·intro a w2 hB hF hd;refine aS (bg rfl rfl (hd 2 _ rfl (aj rfl)) rfl) ?_;exact aO (aB rfl dU rfl dz (hF.same 1 rfl) (h1.below hB h1.lt)) rfl
         ·intro a w2 hB hF hd;refine aS (bg rfl rfl (hd 2 _ rfl (aj rfl)) rfl) ?_;exact aO (jU true rfl (hd 4 _ rfl (aj rfl)) (hd 5 _ rfl (aj rfl)) dU (by kernel_rfl) (by kernel_rfl) (by kernel_rfl) (by kernel_rfl) (by kernel_rfl) HSL.out) rfl
         ·intro a w2 hB hF hd;exact aJ <| aO (fO rfl (hd 2 _ rfl (aj rfl))) ((hd 6 _ rfl (aj rfl)))
         ·intro a w2 hB hF hd;exact aJ <| fq rfl (hd 7 _ rfl (aj rfl))
         ·intro a w2 hB hF hd;refine aS (bg rfl rfl (hd 8 _ rfl (aj rfl)) rfl) ?_;exact fq rfl (hF.same 8 rfl)
         ·intro a w2 hB hF hd;refine aS (bg rfl rfl (hd 8 _ rfl (aj rfl)) rfl) ?_;exact fq rfl (hd 9 _ rfl (aj rfl))
         ·intro a w2 hB hF hd;rw [if_neg (by rw [bR rfl rfl (hd 10 _ rfl (aj rfl))];decide)];exact rfl
         ·intro a w2 hB hF hd;refine aS (bg rfl rfl (hd 8 _ rfl (aj rfl)) rfl) ?_;exact aO (fO rfl (hd 10 _ rfl (aj rfl))) (rfl)
         ·intro a w2 hB hF hd;exact aJ <| aO (fO rfl (hd 8 _ rfl (aj rfl))) ((hd 12 _ rfl (aj rfl)))
        ·intro a w7 hB hF hS;have ha:=aI rfl rfl hF [_,_,_,_,_,_,_,_,_,_,_,_,_,_] rfl ⟨hS 0 _ rfl,hS 1 _ rfl,hS 2 _ rfl,hS 3 _ rfl,hS 4 _ rfl,hS 5 _ rfl,hS 6 _ rfl,hS 7 _ rfl,hS 8 _ rfl,hS 9 _ rfl,hS 10 _ rfl,hS 11 _ rfl,hS 12 _ rfl,hS 13 _ rfl,trivial⟩;simp only [puts,Act.put,dH,dI,dJ] at ha;subst ha;clear hS hF;replace h1:=h1.kept hB;replace h2:=h2.kept hB;replace h5:=h5.kept hB;replace h6:=h6.kept hB;replace hbel:=hbel.trans (hB.mono hbel.size);clear hB;cases od
         case true=>
          go_wp2_with (refine bA rfl 191 _ rfl .i64 x6 16 H bT rfl bE rfl h6 ?_);refine (mI _ _ HFH.out _).mono ?_;rintro e wn ⟨rfl,hb⟩;replace h2:=h2.kept hb;replace h5:=h5.kept hb;replace h6:=h6.kept hb;replace hbel:=hbel.trans (hb.mono hbel.size);clear hb;go_upto_region 10 with (refine aF rfl 191 _ _ rfl .i64 x6 16 H (iy H) bE rfl rfl h6 ?_);refine aG (fun w9=> aH .i64 w9 (w.heap.size+1) 64 (fun _=> 0)/\aH .i64 w9 x5 16 (dg 65536 Y)/\aH .i64 w9 x6 16 (iy H)/\Below w.heap.size w w9) ⟨h2.aC _ (by omega) _,h5.aC _ (by omega) _,h6.setRow _ _,aA hbel (by omega) _⟩ ?_;clear h1 h2 h5 h6 hbel;rintro w9 ⟨h2,h5,h6,hbel⟩
          try simp only [Act.put,dH,dI,dJ]
          go_wp2_with (first | (refine bA rfl 191 _ rfl .i64 x6 16 (iy H) bT rfl bE rfl h6 ?_) | (refine bA rfl 191 _ rfl .i64 x5 16 (dg 65536 Y) bT rfl bE rfl h5 ?_));refine (mU (iy H) (dg 65536 Y) (-R) Y HFH.out.iy HF.out _).mono ?_;rintro e wm ⟨rfl,hb⟩;replace h2:=h2.kept hb;replace hbel:=hbel.trans (hb.mono hbel.size);clear hb;go_wp2_with (refine aF rfl 193 _ _ rfl .i64 (w.heap.size+1) 64 (fun _=> 0) (pt (iy H) (dg 65536 Y) (aN 1) (aL (iy H) (dg 65536 Y))) Tryz.size193 rfl rfl h2 ?_);have hz:¬ (R % Pr=0/\A / 2 ^ 255=1):=HNZ.out;obtain ⟨hr2,hr3⟩:=Xv.out (by trivial);obtain ⟨p,hx,hy,hbn⟩:=HB.out R (of_decide_eq_true Hw.out.symm) hr2 hr3 hz;rw [if_pos (of_decide_eq_true HOD.out.symm)] at hx;exact bodyPost_ret (dM rfl _ _ .i64 (w.heap.size+1) 64 (pt (iy H) (dg 65536 Y) (aN 1) (aL (iy H) (dg 65536 Y))) rfl (h2.setRow _ _) uH rfl Tryz.size193) rfl ⟨_,_,rfl,.inl ⟨rfl,Lb.out.2 ⟨of_decide_eq_true Hw.out.symm,(by trivial),fun h=> hz ⟨(oC hr2).2 h.1,h.2⟩⟩,p,⟨_,rfl,zA HFH.out.iy HF.out hx hy⟩,hbn⟩,aA hbel (by omega) _⟩
         case false=>
          go_wp2_with (first | (refine bA rfl 191 _ rfl .i64 x6 16 H bT rfl bE rfl h6 ?_) | (refine bA rfl 191 _ rfl .i64 x5 16 (dg 65536 Y) bT rfl bE rfl h5 ?_));refine (mU H (dg 65536 Y) (R) Y HFH.out HF.out _).mono ?_;rintro e wm ⟨rfl,hb⟩;replace h2:=h2.kept hb;replace hbel:=hbel.trans (hb.mono hbel.size);clear hb;go_wp2_with (refine aF rfl 193 _ _ rfl .i64 (w.heap.size+1) 64 (fun _=> 0) (pt H (dg 65536 Y) (aN 1) (aL H (dg 65536 Y))) Tryz.size193 rfl rfl h2 ?_);have hz:¬ (R % Pr=0/\A / 2 ^ 255=1):=HNZ.out;obtain ⟨hr2,hr3⟩:=Xv.out (by trivial);obtain ⟨p,hx,hy,hbn⟩:=HB.out R (of_decide_eq_true Hw.out.symm) hr2 hr3 hz;rw [if_neg (of_decide_eq_false HOD.out.symm)] at hx;exact bodyPost_ret (dM rfl _ _ .i64 (w.heap.size+1) 64 (pt H (dg 65536 Y) (aN 1) (aL H (dg 65536 Y))) rfl (h2.setRow _ _) uH rfl Tryz.size193) rfl ⟨_,_,rfl,.inl ⟨rfl,Lb.out.2 ⟨of_decide_eq_true Hw.out.symm,(by trivial),fun h=> hz ⟨(oC hr2).2 h.1,h.2⟩⟩,p,⟨_,rfl,zA HFH.out HF.out hx hy⟩,hbn⟩,aA hbel (by omega) _⟩
end Go.Proofs.YtpcjekgfnfjbpaaGreat
