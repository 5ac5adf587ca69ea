/- Part 47 of EscrowComes; conditions: in each theorem. -/
import Derived.Test.YtpcjekgfnfjbpaaGreatPkEC46
import Derived.Test.YtpcjekgfnfjbpaaGreatPkEC18
set_option linter.unusedVariables false
set_option linter.unusedSimpArgs false
set_option maxRecDepth 100000
set_option maxHeartbeats 12800000
namespace Go.bI
open Go.RowKit
def vB (F:Nat->Int) (p:Ed C7):Prop:=∃f g h e X Y Z T,F=pt f g h e/\zJ f g h e X Y Z T/\DU X Y Z T p
theorem DU.zero:DU 0 1 1 (0 * 1) .zero:=by
 refine⟨?_,?_,?_,?_⟩
 ·rw[dP];exact fM
 ·rw[jw,dP];show (0:Fp)=0 * 1;grind
 ·rw[dP];show (1:Fp)=1 * 1;grind
 ·rw[Int.zero_mul,jw,dP];show (0:Fp)=0 * 1 * 1;grind
theorem vB.pick (b:Bool) {f g h e u v r s:Nat->Int} {X Y Z T U V W S:Int} {p q:Ed C7} (h1:zJ f g h e X Y Z T) (h2:zJ u v r s U V W S) (k1:DU X Y Z T p) (k2:DU U V W S q):vB (pt (bA b f u) (bA b g v) (bA b h r) (bA b e s)) (if b then q else p):=by
 cases b
 ·exact⟨f,g,h,e,X,Y,Z,T,rfl,h1,k1⟩
 ·exact⟨u,v,r,s,U,V,W,S,rfl,h2,k2⟩
theorem XY (p:Ed C7) (N:Nat) (b:Bool) (hb:b=(N % 2==1)) {F G:Nat->Int}
  (h7:vB F (if b=true then (if b=true then p.mul (N / 2) else p.mul (N / 2+1)).add (if b=true then p.mul (N / 2+1) else p.mul (N / 2)) else (if b=true then p.mul (N / 2+1) else p.mul (N / 2)).add (if b=true then p.mul (N / 2+1) else p.mul (N / 2))))
  (h8:vB G (if b=true then (if b=true then p.mul (N / 2+1) else p.mul (N / 2)).add (if b=true then p.mul (N / 2+1) else p.mul (N / 2)) else (if b=true then p.mul (N / 2) else p.mul (N / 2+1)).add (if b=true then p.mul (N / 2+1) else p.mul (N / 2)))):
  vB F (p.mul N)/\vB G (p.mul (N+1)):=by
 obtain⟨M,hM⟩:∃M,M=N / 2:=⟨_,rfl⟩
 rw[<-hM] at h7 h8;cases b
 ·have hN:N=M+M:=by
   have:¬ N % 2=1:=by intro e;rw[e] at hb;exact absurd hb aM
   omega
  have h7':vB F ((p.mul M).add (p.mul M)):=h7;have h8':vB G ((p.mul (M+1)).add (p.mul M)):=h8;rw[<-Ed.mul_add] at h7' h8';rw[hN,show M+M+1=M+1+M by omega];exact⟨h7',h8'⟩
 ·have hN:N=M+(M+1):=by
   have:N % 2=1:=by have h:=hb.symm;rwa [beq_iff_eq] at h
   omega
  have h7':vB F ((p.mul M).add (p.mul (M+1))):=h7;have h8':vB G ((p.mul (M+1)).add (p.mul (M+1))):=h8;rw[<-Ed.mul_add] at h7' h8';rw[hN,show M+(M+1)+1=M+1+(M+1) by omega];exact⟨h7',h8'⟩
def IL (p:Ed C7):Int:=((p.x.val:Nat):Int)
def edY (p:Ed C7):Int:=((p.y.val:Nat):Int)
def oP (p:Ed C7):Int:=edY p+(IL p % 2) * 2 ^ 255
theorem Zb (x:Fp):0<=((x.val:Nat):Int)/\((x.val:Nat):Int)<Pr:=by
 have:=x.isLt;rw[oU];omega
theorem Ky {Y Z:Int} {y:Fp} (h0:toF Z≠0) (h:toF Y=y * toF Z):Y * Z ^ (PN - 2) % Pr=((y.val:Nat):Int):=by
 rw[<-jh];have e:toF (Y * Z ^ (PN - 2))=y:=by
  rw[dK,wX,h];have:=inv_mul h0
  generalize toF Z=z at *
  generalize inv z=i at *
  grind
 rw[e]
theorem ZU (Y:Int) (h0:0<=Y) (h1:Y<2 ^ 255):∀i,i<32->upd (dg 256 Y) 31 (dg 256 Y 31+128) i=dg 256 (Y+1 * 2 ^ 255) i:=by
 have key:∀i:Fin 32,upd (dg 256 Y) 31 (dg 256 Y 31+128) i.val=dg 256 (Y+1 * 2 ^ 255) i.val:=by
  intro ⟨i,hi⟩;have e:∀j,dg 256 (Y+1 * 2 ^ 255) j=(Y+1 * 2 ^ 255) / 256 ^ j % 256:=fun _=>rfl;have e':∀j,dg 256 Y j=Y / 256 ^ j % 256:=fun _=>rfl;rcases i with _ | _ | _ | _ | _ | _ | _ | _ | _ | _ | _ | _ | _ | _ | _ | _ | _ | _ | _ | _ | _ | _ | _ | _ | _ | _ | _ | _ | _ | _ | _ | _ | i
  all_goals first
   | omega
   | (simp only[upd,e,e'];simp;omega)
 exact fun i h=>key ⟨i,h⟩
theorem Sv (Y:Int) (h0:0<=Y) (h1:Y<2 ^ 255):0<=dg 256 Y 31/\dg 256 Y 31<128:=by
 show 0<=Y / 256 ^ 31 % 256/\Y / 256 ^ 31 % 256<128;omega
theorem afP (x:Int) (h0:0<=x) (h1:x<128):bits .or .u8 x 128=x+128:=by
 obtain⟨n,rfl⟩:=Gl h0;have key:∀n:Fin 128,bits .or .u8 ((n.val:Nat):Int) 128=(n.val:Int)+128:=by decide+kernel
 exact key ⟨n,by omega⟩
end Go.bI
namespace Go.bI
theorem wp_assign {P:Program} {o:Oper} {a:Act} {w:World} {K:Act->World->Prop} {Q:Exit->Act->World->Prop} (x:Operand) (d:Nat) (hop:o.op=.assign x) (hd:o.dst=some d) (h:K (a.put (some d) (a.eval x)) w):o.wp P a w K Q:=by
 rw[<-hd] at h;unfold Oper.wp execOp;simp only[hop];exact h
end Go.bI
namespace Go.bI
open Go.RowKit
theorem ahz (p:Ed C7):p.x ^ 2 * (1+dE * p.y ^ 2)=p.y ^ 2 - 1:=by
 have ho:p.y ^ 2 - p.x ^ 2=1+dE * p.x ^ 2 * p.y ^ 2:=p.on
 generalize p.x=x at *
 generalize p.y=y at *
 generalize dE=d at *
 grind
theorem PI (p:Ed C7):1+dE * p.y ^ 2≠0:=by
 intro h;have ho:p.y ^ 2 - p.x ^ 2=1+dE * p.x ^ 2 * p.y ^ 2:=p.on;have hd:dE= -1:=by
  generalize p.x=x at *
  generalize p.y=y at *
  generalize dE=d at *
  grind
 exact aeB iE (by rw[Ro,hd])
theorem alr {x y d i:Fp} (h:x ^ 2 * (1+d * y ^ 2)=y ^ 2 - 1) (hi:(d * (y * y)+1) * i=1):x * x=(y * y - 1) * i:=by grind
theorem aeA (p:Ed C7):toF (IL p)=p.x:=Gw _
def BX:Int:=15112221349535400772501151409588531511454012693041857206046113283949847762202
def BY:Int:=46316835694926478169428394003475163141307993866256225615783033603165251855960
theorem aal:Cg (121666 * (BY * BY - BX * BX - 1)) (-121665 * (BX * BX * (BY * BY))):=by unfold Cg BX BY;decide+kernel
theorem Tz {x y d a b:Fp} (hd:d * b= -a) (hb:b≠0) (h:b * (y * y - x * x - 1)= -a * (x * x * (y * y))):y ^ 2 - x ^ 2=1+d * x ^ 2 * y ^ 2:=by
 refine iC hb ?_
 grind
noncomputable def Bp:Ed C7:=⟨toF BX,toF BY,Tz RJ (jM.2 aM) (by
 have h:=gY.2 aal;simp only[dK,lu,pG,dP] at h;exact h)⟩
theorem arN:IL Bp=BX:=by unfold IL Bp;rw[jh];decide+kernel
theorem arM:edY Bp=BY:=by unfold edY Bp;rw[jh];decide+kernel
theorem Uo:Cg (BY * 5) 4:=by unfold Cg BY;decide+kernel
end Go.bI
namespace Go.bI
def Jl (X Y Z:Int) (p:Ed C7):Prop:=toF Z≠0/\toF X=p.x * toF Z/\toF Y=p.y * toF Z
theorem Xm {x1 y1 z1 x2 y2 z2 d sx sy A B C D:Fp} (hB:B=1+d * (x1 * x2 * (y1 * y2))) (hD:D=1 - d * (x1 * x2 * (y1 * y2))) (hA:A=x1 * y2+x2 * y1) (hC:C=y1 * y2+x1 * x2) (hsx:sx * B=A) (hsy:sy * D=C):
  let w:=z1 * z2
  let L:=w * w - d * ((x1 * z1 * (x2 * z2)) * (y1 * z1 * (y2 * z2)))
  let M:=w * w+d * ((x1 * z1 * (x2 * z2)) * (y1 * z1 * (y2 * z2)))
  let K:=(x1 * z1+y1 * z1) * (x2 * z2+y2 * z2) - x1 * z1 * (x2 * z2) - y1 * z1 * (y2 * z2)
  w * (L * K)=sx * (L * M)/\w * (M * (y1 * z1 * (y2 * z2)+x1 * z1 * (x2 * z2)))=sy * (L * M)/\L=w * w * D/\M=w * w * B:=by
 intro w L M K;have hL:L=w * w * D:=by show _= _;rw[hD];grind
 have hM:M=w * w * B:=by show _= _;rw[hB];grind
 have hK:K=w * A:=by show _= _;rw[hA];grind
 have hE:y1 * z1 * (y2 * z2)+x1 * z1 * (x2 * z2)=w * C:=by rw[hC];grind
 rw[hL,hM,hK,hE];clear hL hM hK hE hB hD hA hC L M K
 generalize w=v
 subst hsx;subst hsy;exact⟨by grind,by grind,rfl,rfl⟩
theorem Jl.add {X Y Z U V R D:Int} {p q:Ed C7} (hp:Jl X Y Z p) (hq:Jl U V R q) (hD:toF D=dE):Jl (raX X Y Z U V R D) (raY X Y Z U V R D) (raZ X Y Z U V R D) (p.add q):=by
 obtain⟨h0,h1,h2⟩:=hp;obtain⟨k0,k1,k2⟩:=hq;obtain⟨r1,r2,r3,r4⟩:=Xm (z1:=toF Z) (z2:=toF R) (d:=dE) rfl rfl rfl rfl (p.nE q) (p.kY q);unfold Jl raX raY raZ raL raM raC;simp only[dK,gq,lu,h1,h2,k1,k2,hD];refine⟨?_,r1,r2⟩;rw[r3,r4];have hw:=bE h0 k0;exact bE (bE (bE hw hw) (p.iX q)) (bE (bE hw hw) (p.kg q))
theorem Jl.zero:Jl 0 1 1 .zero:=by
 refine⟨?_,?_,?_⟩
 ·rw[dP];exact fM
 ·rw[jw,dP];show (0:Fp)=0 * 1;grind
 ·rw[dP];show (1:Fp)=1 * 1;grind
end Go.bI
namespace Go.bI
open Go.RowKit
section
variable {P : Program} {ops : Array Oper} {Q : Exit -> Act -> World -> Prop}
end
def NPt (v:Value) (p:Ed C7):Prop:=∃F,v=.agg (arr .i64 64 F)/\vB F p
theorem NPt.keep {E:Prop} {v:Value} {p:Ed C7} (h:NPt v p) (_:E):NPt v p:=h
end Go.bI
namespace Go.bI
def ZA:Nat:=37095705934669439343138083508754565189542113879843219016388785533085940283555
theorem WI:toF (ZA:Int)=dE:=by
 have h:Cg ((ZA:Int) * 121666) (-121665):=by unfold Cg;decide+kernel
 have h2:=gY.2 h;rw[dK,pG] at h2;exact iC (jM.2 aM) (h2.trans RJ.symm)
def nR (x y z u v r:Nat):Nat × Nat × Nat:=
 let w:=nM z r
 let c:=nM x u
 let e:=nM y v
 let ww:=nM w w
 let f:=nM ZA (nM c e)
 let l:=nS ww f
 let m:=nA ww f
 let k:=nS (nS (nM (nA x y) (nA u v)) c) e
 (nM w (nM l k),nM w (nM m (nA e c)),nM l m)
def vw (x y z:Nat) (p:Ed C7):Prop:=∃X Y Z,kI x X/\kI y Y/\kI z Z/\Jl X Y Z p
theorem vw.add {x y z u v r:Nat} {p q:Ed C7} (hp:vw x y z p) (hq:vw u v r q):vw (nR x y z u v r).1 (nR x y z u v r).2.1 (nR x y z u v r).2.2 (p.add q):=by
 obtain⟨X,Y,Z,hx,hy,hz,h1⟩:=hp;obtain⟨U,V,R,hu,hv,hr,h2⟩:=hq;have hd:kI ZA ZA:=⟨by decide,rfl⟩
 have w:=hz.mul hr;have c:=hx.mul hu;have e:=hy.mul hv;have f:=hd.mul (c.mul e);have l:=(w.mul w).sub f;have m:=(w.mul w).add f;have k:=(((hx.add hy).mul (hu.add hv)).sub c).sub e;exact⟨_,_,_,w.mul (l.mul k),w.mul (m.mul (e.add c)),l.mul m,h1.add h2 WI⟩
def bX:Nat:=15112221349535400772501151409588531511454012693041857206046113283949847762202
def bY:Nat:=46316835694926478169428394003475163141307993866256225615783033603165251855960
theorem vw.base:vw bX bY 1 Bp:=by
 refine⟨BX,BY,1,⟨by decide,rfl⟩,⟨by decide,rfl⟩,⟨by decide,rfl⟩,?_,?_,?_⟩
 ·rw[dP];exact fM
 ·rw[dP];show toF BX=toF BX * 1;generalize toF BX=x;grind
 ·rw[dP];show toF BY=toF BY * 1;generalize toF BY=x;grind
def Ic (n:Nat):Nat->Nat->Nat->Nat->Nat × Nat × Nat
 | 0,x,y,z=>(x,y,z)
 | k+1,x,y,z=>if n / 2 ^ k % 2=1 then Ic n k (nR (nR x y z x y z).1 (nR x y z x y z).2.1 (nR x y z x y z).2.2 bX bY 1).1 (nR (nR x y z x y z).1 (nR x y z x y z).2.1 (nR x y z x y z).2.2 bX bY 1).2.1 (nR (nR x y z x y z).1 (nR x y z x y z).2.1 (nR x y z x y z).2.2 bX bY 1).2.2 else Ic n k (nR x y z x y z).1 (nR x y z x y z).2.1 (nR x y z x y z).2.2
theorem vw.ord {n:Nat}:∀(k x y z:Nat),vw x y z (Bp.mul (n / 2 ^ k))->vw (Ic n k x y z).1 (Ic n k x y z).2.1 (Ic n k x y z).2.2 (Bp.mul n)
 | 0,_,_,_,h=>by rw[Nat.pow_zero,Nat.div_one] at h;exact h
 | k+1,x,y,z,h=>by
  unfold Ic;have h2:=h.add h;rw[<-Ed.mul_add] at h2;have hq:n / 2 ^ (k+1)=n / 2 ^ k / 2:=by rw[Nat.pow_succ,Nat.div_div_eq_div_mul]
  by_cases hb:n / 2 ^ k % 2=1
  ·rw[if_pos hb];have h3:=h2.add vw.base;rw[show (Bp.mul (n / 2 ^ (k+1)+n / 2 ^ (k+1))).add Bp=Bp.mul (n / 2 ^ k) by
    rw[<-show Bp.mul (n / 2 ^ (k+1)+n / 2 ^ (k+1)+1)=(Bp.mul (n / 2 ^ (k+1)+n / 2 ^ (k+1))).add Bp from by rw[Ed.mul_add,Ed.mul_one],show n / 2 ^ (k+1)+n / 2 ^ (k+1)+1=n / 2 ^ k by omega]] at h3
   exact vw.ord k _ _ _ h3
  ·rw[if_neg hb];rw[show n / 2 ^ (k+1)+n / 2 ^ (k+1)=n / 2 ^ k by omega] at h2;exact vw.ord k _ _ _ h2
def tu:Nat:=2 ^ 252+27742317777372353535851937790883648493
theorem xK:(Ic tu 253 0 1 1).1=0/\(Ic tu 253 0 1 1).2.1=(Ic tu 253 0 1 1).2.2:=by decide+kernel
theorem vw.zero:vw 0 1 1 .zero:=⟨0,1,1,⟨by decide,rfl⟩,⟨by decide,rfl⟩,⟨by decide,rfl⟩,Jl.zero⟩
theorem Qg:Bp.mul tu=.zero:=by
 have h:=vw.ord (n:=tu) 253 0 1 1 (by rw[show tu / 2 ^ 253=0 by decide];exact vw.zero);obtain⟨X,Y,Z,hx,hy,hz,h0,h1,h2⟩:=h;rw[xK.1] at hx;rw[xK.2] at hy;have ex:toF X=0:=by rw[<-jw];exact gY.2 hx.2.symm
 have ey:toF Y=toF Z:=gY.2 (hy.2.symm.trans hz.2);rw[ex] at h1;rw[ey] at h2;refine Ed.ext ?_ ?_
 ·refine iC h0 ?_;rw[<-h1];show (0:Fp)=0 * toF Z;generalize toF Z=t;grind
 ·refine iC h0 ?_;rw[<-h2];show toF Z=1 * toF Z;generalize toF Z=t;grind
end Go.bI
namespace Go.Proofs.YtpcjekgfnfjbpaaGreat
open Go.RowKit Go.bI Go.ChangeShapes
attribute [local go_sem ↓] Go.wp_at_zero Go.wp_at_succ
abbrev Qo (F:Nat->Int):Value:=.agg (arr .i64 64 F)
theorem QX {A B:Nat->Int} {p q:Ed C7} (hA:vB A p) (hB:vB B q):∃F,vB F (p.add q)/\∀w,Calls Tryz.prog 221 #[Qo A,Qo B,El ddF] w fun e w'=>e=.returned (Qo F)/\Below w.heap.size w w':=by
 obtain⟨f,g,h,e,X,Y,Z,T,rfl,h1,h2⟩:=hA;obtain⟨u,v,r,s,U,V,W,S,rfl,k1,k2⟩:=hB;exact⟨_,⟨_,_,_,_,_,_,_,_,rfl,zJ.sum h1 k1 aex,h2.sum k2 afn⟩,fun w=>Tn f g h e u v r s ddF X Y Z T U V W S _ h1 k1 aex w⟩
theorem KS (b:Bool) {A B:Nat->Int} {p q:Ed C7} (hA:vB A p) (hB:vB B q):∃F G,vB F (if b then q else p)/\vB G (if b then p else q)/\∀w,Calls Tryz.prog 220 #[Qo A,Qo B,.bool b] w fun e w'=>e=.returned (.tuple #[Qo F,Qo G])/\Below w.heap.size w w':=by
 obtain⟨f,g,h,e,X,Y,Z,T,rfl,h1,h2⟩:=hA;obtain⟨u,v,r,s,U,V,W,S,rfl,k1,k2⟩:=hB;exact⟨_,_,vB.pick b h1 k1 h2 k2,vB.pick b k1 h1 k2 h2,fun w=>Ez b f g h e u v r s X Y Z T U V W S h1 k1 w⟩
theorem Ov:∃F,vB F .zero/\∀w,Calls Tryz.prog 219 #[] w fun e w'=>e=.returned (Qo F)/\Below w.heap.size w w':=
 ⟨_,⟨_,_,_,_,_,_,_,_,rfl,⟨RA,rX,rX,RA.aS rX⟩,DU.zero⟩,fun w=>Hy w⟩
theorem abV {A:Nat->Int} {p:Ed C7} (hp:vB A p) (n:Nat) (hn:n<2 ^ 256) (w:World):
  Calls Tryz.prog 158 #[Qo A,.agg (arr .u8 32 (dg 256 (n:Int)))] w fun e w'=> ∃F,e=.returned (Qo F)/\vB F (p.mul n)/\Below w.heap.size w w':=by
 have Nh:=ay hp;obtain⟨f,g,h,e,X,Y,Z,T,hA0,h1,h2⟩:=hp;have HP:=ay h1;have HZ0:Hid (¬ Z % Pr=0 % Pr):=fun e=>h2.1 (by rw[<-jw];exact gY.2 e);have HA0:=ay hA0;obtain⟨FN,hFN,hNO⟩:=Ov;have HN0:=ay hNO;have HFN:=ay hFN;obtain⟨N,hN⟩:∃N,N=(n:Int):=⟨_,rfl⟩
 have Qs:=ay hN;rw[<-hN];have avg:=ay hn;have HM0:Hid (p.mul (n / 2 ^ (256 - 0))=.zero):=by
  unfold Hid;rw[Nat.sub_zero,Nat.div_eq_of_lt hn];rfl
 have HM1:Hid (p.mul (n / 2 ^ (256 - 0)+1)=p):=by
  unfold Hid;rw[Nat.sub_zero,Nat.div_eq_of_lt hn];exact p.mul_one
 obtain⟨dd,hdd⟩:∃x,x=ddF:=⟨_,rfl⟩
 have VW:=ay hdd;have arF:Hid (∀w,Calls Tryz.prog 218 #[.agg (arr .i64 16 kH),.agg (arr .i64 16 kH)] w fun e w'=>e=.returned (.agg (arr .i64 16 dd))/\Below w.heap.size w w'):=fun w=>by rw[hdd];exact iD _ _ _ _ lK lK w
 clear h1 h2 hA0 hNO hFN hN hdd hn
 go_enter Tryz.func158,Tryz.ntmps158
 go_upto_region 1 with(fail)
 refine aJ (fun w1=>aK .i64 w1 w.heap.size 64 A/\aK .u8 w1 (w.heap.size+1) 32 (dg 256 N)/\aK .i64 w1 (w.heap.size+2) 64 (fun _=>0)/\Below w.heap.size w w1)
  ⟨.alloc (.alloc (cB rfl rfl) _) _,.alloc (cB dO rfl) _,cB dO (by rfl),(((bT _ _).alloc (bH _) _).alloc dO _).alloc dO _⟩ ?_
 rintro w1 ⟨hA,hNb,hZ,aD⟩;have hAp:=hA;rw[HA0.out] at hAp
 refine bC (n:=59) aQ aQ aQ rfl
  (fun ii vv _=>(match ii with | 0=>vv=.pointer (some ⟨w.heap.size,32,none⟩) | 1=>vv=.agg (arr .i64 16 (h)) | 2=>vv=.agg (arr .i64 16 (aV 0)) | 3=>vv=.bool false | _=>True))
  (fun w w'=>Below w.heap.size w w') (fun _ _ h=>h) (fun _ _ _ _ h _=>h) ?_ ?_
 ·refine dG ?_;refine⟨?_,?_,?_,?_,trivial⟩
  ·intro a w2 hB hF hd;refine aN <| aW (bB (m:=15) (k:=32) rfl (hF.same 2 rfl) aQ) ?_;exact rfl
  ·intro a w2 hB hF hd;exact aN <| aW (bW rfl (hd 0 _ rfl (aj rfl)) dB rfl bP (fun i hi=>(hB.cell (p:=⟨w.heap.size,32+i,none⟩) hAp.lt).trans (Tf hAp i hi))) rfl
  ·intro a w2 hB hF hd;refine aN <| aI _ _ _ rfl Tryz.call200 _ (args1 rfl) aR ((fI 0 w2).mono ?_);rintro e w3 ⟨rfl,hb⟩;exact⟨_,rfl,rfl,hb⟩
  ·intro a w2 hB hF hd;refine aN <| aI _ _ _ rfl Tryz.call210 _ (args2 (hd 1 _ rfl (aj rfl)) (hd 2 _ rfl (aj rfl))) aR ((Da _ _ _ _ HP.out.2.2.1 RA HZ0.out w2).mono ?_);rintro e w3 ⟨rfl,hb⟩;exact⟨_,rfl,rfl,hb⟩
 ·intro a w2 hB hF hS;have ha:=aO rfl rfl hF [_,_,_,_] rfl ⟨hS 0 _ rfl,hS 1 _ rfl,hS 2 _ rfl,hS 3 _ rfl,trivial⟩;simp only[puts,Act.put,fB,fD,fF] at ha;subst ha;clear hS hF;replace hA:=hA.kept hB;replace hNb:=hNb.kept hB;replace hZ:=hZ.kept hB;replace aD:=aD.trans (hB.mono aD.size);clear hB hAp;go_upto_region 3 with(fail)
  refine bN (n:=59) aQ aQ aQ rfl
   (ku [(2,1)]) (gH [(2,1)]) (fun _=>arr .i64 16 (fun _=>0)) (fun _=>(arr .i64 16 (kH))) (fun _=>191) (fun _=>5)
   (fun ii vv _=>(match ii with | 0=>vv=.agg (arr .i64 16 (kH)) | _=>True)) (fun _ _=>True) (fun _ _ _=>trivial) (fun _ _ _ _ _ _ _=>trivial) (fun _ _ _ _ h _=>h)
   (iJ rfl) (fT rfl) ?_ ?_ ?_ ?_
  ·refine dG ?_;refine⟨?_,(fun h=>by cases h),(fun _ h=>by cases h),trivial⟩
   ·intro _ _ a w2 hB hF hd;refine aN <| aI _ _ _ rfl Tryz.call217 _ Ak aR ((zW w2).mono ?_);rintro e w3 ⟨rfl,hb⟩;exact⟨_,rfl,rfl,hb⟩
  ·refine dG ?_;refine⟨(fun h=>by cases h),?_,(fun h=>by cases h),trivial⟩
   ·exact fun _=>⟨rfl,rfl,fun a w2 K h=>bD rfl rfl Tryz.zeroValue191 aR h⟩
  ·refine dG ?_;refine⟨(fun _ h=>by cases h),(fun _ h=>by cases h),?_,trivial⟩
   ·intro p hp;obtain rfl:1=p:=gJ hp;exact⟨rfl,rfl,⟨_,rfl⟩,aj rfl,fun a w2 b K hB hF hd hx hb h=>bQ rfl rfl bP hx (hd 0 _ rfl rfl rfl (aj rfl)) hb h⟩
  ·intro a w3 blk hB hF hS hv hfin dS;obtain⟨v1,v1l,v1u⟩:=hv 1 _ rfl rfl;have ha:=aO rfl rfl hF [_,_,undef] rfl ⟨hS 0 _ rfl rfl rfl,v1,trivial,trivial⟩;have f1:=hfin 2 _ 1 rfl rfl;simp only[puts,Act.put,fB,fD,fF] at ha;subst ha;have V1:aK .i64 w3 (blk 1) 16 (kH):=⟨_,f1⟩
   clear hS hv hfin dS hF v1 f1;replace hA:=hA.kept hB;replace hNb:=hNb.kept hB;replace hZ:=hZ.kept hB;replace aD:=aD.trans (hB.mono aD.size);obtain⟨x5,e5⟩:∃x,x=blk 1:=⟨_,rfl⟩
   rw[<-e5] at V1 ⊢;have h5:=V1;clear V1 hB e5 v1l v1u;go_upto_region 4 with(fail)
   refine bN (n:=59) aQ aQ aQ rfl
    (ku [(4,3)]) (gH [(4,3)]) (fun _=>arr .i64 16 (fun _=>0)) (fun _=>(arr .i64 16 (dd))) (fun _=>191) (fun _=>6)
    (fun ii vv _=>(match ii with | 0 | 1=>vv=.agg (arr .i64 16 (kH)) | 2=>vv=.agg (arr .i64 16 (dd)) | _=>True)) (fun _ _=>True) (fun _ _ _=>trivial) (fun _ _ _ _ _ _ _=>trivial) (fun _ _ _ _ h _=>h)
    (iJ rfl) (fT rfl) ?_ ?_ ?_ ?_
   ·refine dG ?_;refine⟨?_,?_,?_,(fun h=>by cases h),(fun _ h=>by cases h),trivial⟩
    ·intro _ _ a w2 hB hF hd;exact aN <| aW (aF rfl dB rfl bP (hF.same 5 rfl) (h5.below hB h5.lt)) rfl
    ·intro _ _ a w2 hB hF hd;exact aN <| aW (aF rfl dB rfl bP (hF.same 5 rfl) (h5.below hB h5.lt)) rfl
    ·intro _ _ a w2 hB hF hd;refine aN <| aI _ _ _ rfl Tryz.call218 _ (args2 (hd 0 _ rfl rfl rfl (aj rfl)) (hd 1 _ rfl rfl rfl (aj rfl))) aR ((arF.out w2).mono ?_);rintro e w3 ⟨rfl,hb⟩;exact⟨_,rfl,rfl,hb⟩
   ·refine dG ?_;refine⟨(fun h=>by cases h),(fun h=>by cases h),(fun h=>by cases h),?_,(fun h=>by cases h),trivial⟩
    ·exact fun _=>⟨rfl,rfl,fun a w2 K h=>bD rfl rfl Tryz.zeroValue191 aR h⟩
   ·refine dG ?_;refine⟨(fun _ h=>by cases h),(fun _ h=>by cases h),(fun _ h=>by cases h),(fun _ h=>by cases h),?_,trivial⟩
    ·intro p hp;obtain rfl:3=p:=gJ hp;exact⟨rfl,rfl,⟨_,rfl⟩,aj rfl,fun a w2 b K hB hF hd hx hb h=>bQ rfl rfl bP hx (hd 2 _ rfl rfl rfl (aj rfl)) hb h⟩
   ·intro a w4 blk hB hF hS hv hfin dS;obtain⟨v3,Gv,Sn⟩:=hv 3 _ rfl rfl;have ha:=aO rfl rfl hF [_,_,_,_,undef] rfl ⟨hS 0 _ rfl rfl rfl,hS 1 _ rfl rfl rfl,hS 2 _ rfl rfl rfl,v3,trivial,trivial⟩;have f3:=hfin 4 _ 3 rfl rfl;simp only[puts,Act.put,fB,fD,fF] at ha;subst ha;have V3:aK .i64 w4 (blk 3) 16 (dd):=⟨_,f3⟩
    clear hS hv hfin dS hF v3 f3;have hz4:=hZ.lt;replace hA:=hA.kept hB;replace hNb:=hNb.kept hB;replace hZ:=hZ.kept hB;replace aD:=aD.trans (hB.mono aD.size);obtain⟨x6,e6⟩:∃x,x=blk 3:=⟨_,rfl⟩
    rw[<-e6] at V3 Gv ⊢;have h6:=V3;have l6:w.heap.size+2<x6:=by omega
    clear V3 hB e6 Gv Sn h5 hz4;go_upto_region 5 with(fail)
    refine bN (n:=59) aQ aQ aQ rfl
     (ku [(4,2),(5,3)]) (gH [(4,2),(5,3)]) (fun _=>arr .i64 64 (fun _=>0)) (fun i=>match i with | 2=>(arr .i64 64 (FN)) | 3=>(arr .i64 64 (A)) | _=> #[]) (fun _=>193) (fun i=>match i with | 2=>7 | 3=>8 | _=>0)
     (fun ii vv _=>(match ii with | 0=>vv=.agg (arr .i64 64 (FN)) | 1=>vv=.agg (arr .i64 64 (A)) | _=>True)) (fun _ _=>True) (fun _ _ _=>trivial) (fun _ _ _ _ _ _ _=>trivial) (fun _ _ _ _ h _=>h)
     (iJ rfl) (fT rfl) ?_ ?_ ?_ ?_
    ·refine dG ?_;refine⟨?_,?_,(fun h=>by cases h),(fun h=>by cases h),(fun _ h=>by cases h),(fun _ h=>by cases h),trivial⟩
     ·intro _ _ a w2 hB hF hd;refine aN <| aI _ _ _ rfl Tryz.call219 _ Ak aR ((HN0.out w2).mono ?_);rintro e w3 ⟨rfl,hb⟩;exact⟨_,rfl,rfl,hb⟩
     ·intro _ _ a w2 hB hF hd;exact aN <| aW (aF rfl Jj rfl Tryz.size193 (hF.same 2 rfl) (hA.below hB hA.lt)) rfl
    ·refine dG ?_;refine⟨(fun h=>by cases h),(fun h=>by cases h),?_,?_,(fun h=>by cases h),(fun h=>by cases h),trivial⟩
     ·exact fun _=>⟨rfl,rfl,fun a w2 K h=>bD rfl rfl Tryz.zeroValue193 aR h⟩
     ·exact fun _=>⟨rfl,rfl,fun a w2 K h=>bD rfl rfl Tryz.zeroValue193 aR h⟩
    ·refine dG ?_;refine⟨(fun _ h=>by cases h),(fun _ h=>by cases h),(fun _ h=>by cases h),(fun _ h=>by cases h),?_,?_,trivial⟩
     ·intro p hp;obtain rfl:2=p:=gJ hp;exact⟨rfl,rfl,⟨_,rfl⟩,aj rfl,fun a w2 b K hB hF hd hx hb h=>bQ rfl rfl Tryz.size193 hx (hd 0 _ rfl rfl rfl (aj rfl)) hb h⟩
     ·intro p hp;obtain rfl:3=p:=gJ hp;exact⟨rfl,rfl,⟨_,rfl⟩,aj rfl,fun a w2 b K hB hF hd hx hb h=>bQ rfl rfl Tryz.size193 hx (hd 1 _ rfl rfl rfl (aj rfl)) hb h⟩
    ·intro a w5 blk hB hF hS hv hfin dS;obtain⟨v2,v2l,v2u⟩:=hv 2 _ rfl rfl;obtain⟨v3,Gv,Sn⟩:=hv 3 _ rfl rfl;have ha:=aO rfl rfl hF [_,_,_,_,undef,undef] rfl ⟨hS 0 _ rfl rfl rfl,hS 1 _ rfl rfl rfl,v2,v3,trivial,trivial,trivial⟩;have f2:=hfin 4 _ 2 rfl rfl;have f3:=hfin 5 _ 3 rfl rfl;have Mr:=dS 2 3 _ _ rfl rfl rfl rfl aM;simp only[puts,Act.put,fB,fD,fF] at ha;subst ha;have V2:aK .i64 w5 (blk 2) 64 (FN):=⟨_,f2⟩
     have V3:aK .i64 w5 (blk 3) 64 (A):=⟨_,f3⟩
     clear hS hv hfin dS hF v2 v3 f2 f3;have hx6:=h6.lt;replace hNb:=hNb.kept hB;replace hZ:=hZ.kept hB;replace h6:=h6.kept hB;replace aD:=aD.trans (hB.mono aD.size);obtain⟨x7,e7⟩:∃x,x=blk 2:=⟨_,rfl⟩
     obtain⟨x8,e8⟩:∃x,x=blk 3:=⟨_,rfl⟩
     rw[<-e7] at V2 v2l Mr ⊢;rw[<-e8] at V3 Gv Mr ⊢;have h7:=V2;have h8:=V3;have l7:x6<x7:=by omega
     have l8:x6<x8:=by omega
     have l78:x7≠x8:=Mr;clear V2 V3 hB e7 e8 v2l v2u Gv Sn Mr hx6 hA;have F7:Hid (vB FN (p.mul (n / 2 ^ (256 - 0)))):=by rw[HM0.out];exact HFN.out
     have F8:Hid (vB A (p.mul (n / 2 ^ (256 - 0)+1))):=by rw[HM1.out];exact Nh.out
     go_wp2
     go_loopw [9] (fun i wr=> ∃(k:Nat) (G H:Nat->Int),k<=256/\i=.int .i64 (255 - (k:Int))/\Hid (vB G (p.mul (n / 2 ^ (256 - k))))/\Hid (vB H (p.mul (n / 2 ^ (256 - k)+1)))/\(aK .i64 wr x7 64 G/\aK .i64 wr x8 64 H)/\(aK .i64 wr x6 16 dd/\aK .u8 wr (w.heap.size+1) 32 (dg 256 N)/\aK .i64 wr (w.heap.size+2) 64 (fun _=>0))/\Below w.heap.size w wr) (fun i _=>(intOf i+1).toNat)
     case atStart=>exact⟨0,_,_,jm _,rfl,F7,F8,⟨h7,h8⟩,⟨h6,hNb,hZ⟩,aD⟩
     case round=>
      clear h7 h8 h6 hNb hZ aD F7 F8;obtain⟨k,G,H,hk,rfl,F7,F8,⟨h7,h8⟩,⟨h6,hNb,hZ⟩,aD⟩:=hrel;obtain rfl | hlt:=(by omega:k=256\/k<256)
      ·have ei:(255:Int) - ((256:Nat):Int)= -1:=by decide
       rw[ei];clear ei;go_wp2_with (first | (refine bJ rfl 193 _ rfl .i64 x7 64 G Jj rfl Tryz.size193 rfl h7 ?_) | (refine aL rfl 193 _ _ rfl .i64 (w.heap.size+2) 64 (fun _=>0) G Tryz.size193 rfl rfl hZ ?_));have hR:vB G (p.mul n):=by have h:=F7.out;rwa [Nat.sub_self,Nat.pow_zero,Nat.div_one] at h
       exact bodyPost_ret (dI rfl _ _ .i64 (w.heap.size+2) 64 _ rfl (hZ.setRow _ _) Jj rfl Tryz.size193) rfl ⟨_,rfl,hR,aB aD aH _⟩
      ·obtain⟨m,hm⟩:∃m,m=255 - k:=⟨_,rfl⟩
       have ei:(255:Int) - (k:Int)=(m:Int):=by omega
       have HKM:Hid ((m:Int)=255 - (k:Int)):=ei.symm;have HKL:=ay hlt;have akC:m<=255:=by omega
       rw[ei];have hm9:m % 8<8:=Nat.mod_lt _ aM;have hq:IntKind.i64.wrap (Int.tdiv (m:Int) 8)=((m / 8:Nat):Int):=by rw[Zqg aH,jq] <;> omega
       have hr:Int.tmod (m:Int) 8=((m % 8:Nat):Int):=by rw[Int.tmod_eq_emod_of_nonneg aH];omega
       have hc:IntKind.u64.wrap ((m % 8:Nat):Int)=((m % 8:Nat):Int):=sG aH aH;obtain⟨d0,d1⟩:=bR (by decide:(0:Int)<256) N (m / 8);have hsh:=Dr (x:=dg 256 N (m / 8)) (m % 8) hm9;have hand:bits .and .u8 (dg 256 N (m / 8) / 2 ^ (m % 8)) 1=N / 2 ^ m % 2:=by
        rw[yE (Int.ediv_nonneg d0 (EM (iH aM _))) (Int.lt_of_le_of_lt (Int.ediv_le_self _ d0) d1),Qd N m]
       have hpl:((m / 8:Nat):Int).toNat=m / 8:=MZ _;have hm8:m / 8<32:=by omega
       have hce:=hNb.cell (m / 8) hm8;have hBl:=hNb.lt;obtain⟨bb,hbb⟩:∃bb,bb=(N / 2 ^ m % 2==1):=⟨_,rfl⟩
       go_upto_region 9 with(fail)
       refine bC (n:=59) aQ aQ aQ rfl
        (fun ii vv _=>(match ii with | 0 | 4=>vv=.int .i64 ((m:Int)) | 1=>vv=.int .i64 ((m / 8:Nat)) | 2=>vv=.pointer (some ⟨(w.heap.size+1),(m / 8),none⟩) | 3=>vv=.int .u8 (dg 256 N (m / 8)) | 5=>vv=.int .i64 ((m % 8:Nat)) | 6=>vv=.int .u64 ((m % 8:Nat)) | 7=>vv=.int .u8 (dg 256 N (m / 8) / 2 ^ (m % 8)) | 8=>vv=.int .u8 (N / 2 ^ m % 2) | 9 | 10=>vv=.bool bb | _=>True))
        (fun w w'=>Below w.heap.size w w') (fun _ _ h=>h) (fun _ _ _ _ h _=>h) ?_ ?_
       ·refine dG ?_;refine⟨?_,?_,?_,?_,?_,?_,?_,?_,?_,?_,?_,trivial⟩
        ·intro a w2 hB hF hd;exact aN <| aG _ (.inl rfl) aR (hF.same 9 rfl)
        ·intro a w2 hB hF hd;exact aN <| aW (Go.bI.GU rfl (hd 0 _ rfl (aj rfl)) rfl aM) (congrArg (Value.int .i64) (hq))
        ·intro a w2 hB hF hd;exact aN <| aW (aU rfl (hF.same 3 rfl) (hd 1 _ rfl (aj rfl)) iL aQ aH aH) (congrArg (fun z=>Value.pointer (some ⟨w.heap.size+1,z,none⟩)) hpl)
        ·intro a w2 hB hF hd;exact aN <| aW (bg rfl (hd 2 _ rfl (aj rfl)) Tryz.underlying5 ((hB.cell (p:=⟨w.heap.size+1,m / 8,none⟩) hBl).trans hce)) rfl
        ·intro a w2 hB hF hd;exact aN <| aG _ (.inl rfl) aR (hF.same 9 rfl)
        ·intro a w2 hB hF hd;exact aN <| aW (Go.bI.xA rfl (hd 4 _ rfl (aj rfl)) rfl aM) (congrArg (Value.int .i64) (hr))
        ·intro a w2 hB hF hd;exact aN <| aW (sV rfl (hd 5 _ rfl (aj rfl)) Tryz.underlying3 Tryz.underlying212) (congrArg (Value.int .u64) (hc))
        ·intro a w2 hB hF hd;exact aN <| aW (Go.bI.uH rfl (hd 3 _ rfl (aj rfl)) (hd 6 _ rfl (aj rfl)) aH) (congrArg (Value.int .u8) (hsh))
        ·intro a w2 hB hF hd;exact aN <| aW (Go.bI.nT rfl (hd 7 _ rfl (aj rfl)) rfl) (congrArg (Value.int .u8) (hand))
        ·intro a w2 hB hF hd;refine aN <| aW (Go.bI.mZ rfl (hd 8 _ rfl (aj rfl)) rfl) ?_;exact congrArg Value.bool hbb.symm
        ·intro a w2 hB hF hd;exact aN <| aG _ (.inr rfl) aR (hd 9 _ rfl (aj rfl))
       ·intro a w7 hB hF hS;have ha:=aO rfl rfl hF [_,_,_,_,_,_,_,_,_,_,_] rfl ⟨hS 0 _ rfl,hS 1 _ rfl,hS 2 _ rfl,hS 3 _ rfl,hS 4 _ rfl,hS 5 _ rfl,hS 6 _ rfl,hS 7 _ rfl,hS 8 _ rfl,hS 9 _ rfl,hS 10 _ rfl,trivial⟩;simp only[puts,Act.put,fB,fD,fF] at ha;subst ha;clear hS hF;replace h7:=h7.kept hB;replace h8:=h8.kept hB;replace h6:=h6.kept hB;replace hNb:=hNb.kept hB;replace hZ:=hZ.kept hB;replace aD:=aD.trans (hB.mono aD.size);have yJ:=ay hbb;have HM:=ay hm;clear hB hq hr hc hsh hand hce hpl hbb hm hm8 hm9 hBl d0 d1 ei hlt hk;obtain⟨S1,R1,K7,K8,hsw⟩:=KS bb F7.out F8.out;have HSW:=ay hsw;clear hsw;go_wp2_with (first | (refine bJ rfl 193 _ rfl .i64 x7 64 G Jj rfl Tryz.size193 rfl h7 ?_) | (refine bJ rfl 193 _ rfl .i64 x8 64 H Jj rfl Tryz.size193 rfl h8 ?_));refine(HSW.out _).mono ?_;rintro e_ u1 ⟨rfl,hb⟩;replace h7:=h7.kept hb;replace h8:=h8.kept hb;replace h6:=h6.kept hb;replace hNb:=hNb.kept hb;replace hZ:=hZ.kept hb;replace aD:=aD.trans (hb.mono aD.size);have s2:=h8.aC x7 aH (arr .i64 64 S1);replace F7:=ay K7;replace F8:=ay K8;clear K7 K8 HSW hb;go_upto_region 11 with(first | (refine aL rfl 193 _ _ rfl .i64 x7 64 G S1 Tryz.size193 rfl rfl h7 ?_) | (refine aL rfl 193 _ _ rfl .i64 x8 64 H R1 Tryz.size193 rfl rfl s2 ?_))
        refine aJ (fun w9=>aK .i64 w9 x7 64 S1/\aK .i64 w9 x8 64 R1/\aK .i64 w9 x6 16 dd/\aK .u8 w9 (w.heap.size+1) 32 (dg 256 N)/\aK .i64 w9 (w.heap.size+2) 64 (fun _=>0)/\Below w.heap.size w w9)
         ⟨(h7.setRow _ _).aC _ aH _,s2.setRow _ _,(h6.aC _ aH _).aC _ aH _,(hNb.aC _ aH _).aC _ aH _,(hZ.aC _ aH _).aC _ aH _,aB (aB aD aH _) aH _⟩ ?_
        clear s2 h7 h8 h6 hNb hZ aD;rintro avD ⟨h7,h8,h6,hNb,hZ,aD⟩
        try simp only[Act.put,fB,fD,fF]
        obtain⟨S2,K,hsu⟩:=QX F8.out F7.out;rw[<-VW.out] at hsu;have HSU:=ay hsu;clear hsu;go_wp2_with (first | (refine bJ rfl 193 _ rfl .i64 x7 64 S1 Jj rfl Tryz.size193 rfl h7 ?_) | (refine bJ rfl 193 _ rfl .i64 x8 64 R1 Jj rfl Tryz.size193 rfl h8 ?_) | (refine bJ rfl 191 _ rfl .i64 x6 16 dd dB rfl bP rfl h6 ?_));refine(HSU.out _).mono ?_;rintro e_ u2 ⟨rfl,hb⟩;replace h7:=h7.kept hb;replace h8:=h8.kept hb;replace h6:=h6.kept hb;replace hNb:=hNb.kept hb;replace hZ:=hZ.kept hb;replace aD:=aD.trans (hb.mono aD.size);replace F8:=ay K;clear K HSU hb;go_upto_region 12 with(refine aL rfl 193 _ _ rfl .i64 x8 64 R1 S2 Tryz.size193 rfl rfl h8 ?_)
        refine aJ (fun w9=>aK .i64 w9 x7 64 S1/\aK .i64 w9 x8 64 S2/\aK .i64 w9 x6 16 dd/\aK .u8 w9 (w.heap.size+1) 32 (dg 256 N)/\aK .i64 w9 (w.heap.size+2) 64 (fun _=>0)/\Below w.heap.size w w9)
         ⟨h7.aC _ aH _,h8.setRow _ _,h6.aC _ aH _,hNb.aC _ aH _,hZ.aC _ aH _,aB aD aH _⟩ ?_
        clear h7 h8 h6 hNb hZ aD;rintro avC ⟨h7,h8,h6,hNb,hZ,aD⟩
        try simp only[Act.put,fB,fD,fF]
        obtain⟨S3,K,hsu⟩:=QX F7.out F7.out;rw[<-VW.out] at hsu;have HSU:=ay hsu;clear hsu;go_wp2_with (first | (refine bJ rfl 193 _ rfl .i64 x7 64 S1 Jj rfl Tryz.size193 rfl h7 ?_) | (refine bJ rfl 193 _ rfl .i64 x8 64 S2 Jj rfl Tryz.size193 rfl h8 ?_) | (refine bJ rfl 191 _ rfl .i64 x6 16 dd dB rfl bP rfl h6 ?_));refine(HSU.out _).mono ?_;rintro e_ u3 ⟨rfl,hb⟩;replace h7:=h7.kept hb;replace h8:=h8.kept hb;replace h6:=h6.kept hb;replace hNb:=hNb.kept hb;replace hZ:=hZ.kept hb;replace aD:=aD.trans (hb.mono aD.size);replace F7:=ay K;clear K HSU hb;go_upto_region 13 with(refine aL rfl 193 _ _ rfl .i64 x7 64 S1 S3 Tryz.size193 rfl rfl h7 ?_)
        refine aJ (fun w9=>aK .i64 w9 x7 64 S3/\aK .i64 w9 x8 64 S2/\aK .i64 w9 x6 16 dd/\aK .u8 w9 (w.heap.size+1) 32 (dg 256 N)/\aK .i64 w9 (w.heap.size+2) 64 (fun _=>0)/\Below w.heap.size w w9)
         ⟨h7.setRow _ _,h8.aC _ aH _,h6.aC _ aH _,hNb.aC _ aH _,hZ.aC _ aH _,aB aD aH _⟩ ?_
        clear h7 h8 h6 hNb hZ aD;rintro avB ⟨h7,h8,h6,hNb,hZ,aD⟩
        try simp only[Act.put,fB,fD,fF]
        obtain⟨S4,R4,K7,K8,hsw⟩:=KS bb F7.out F8.out;have HSW:=ay hsw;clear hsw;go_wp2_with (first | (refine bJ rfl 193 _ rfl .i64 x7 64 S3 Jj rfl Tryz.size193 rfl h7 ?_) | (refine bJ rfl 193 _ rfl .i64 x8 64 S2 Jj rfl Tryz.size193 rfl h8 ?_));refine(HSW.out _).mono ?_;rintro e_ u4 ⟨rfl,hb⟩;replace h7:=h7.kept hb;replace h8:=h8.kept hb;replace h6:=h6.kept hb;replace hNb:=hNb.kept hb;replace hZ:=hZ.kept hb;replace aD:=aD.trans (hb.mono aD.size);have s2:=h8.aC x7 aH (arr .i64 64 S4);replace F7:=ay K7;replace F8:=ay K8;clear K7 K8 HSW hb;have e7:=(h7.setRow 64 S4).aC x8 aH (arr .i64 64 R4);have e8:=s2.setRow 64 R4;have h6e:=(h6.aC x7 aH (arr .i64 64 S4)).aC x8 aH (arr .i64 64 R4);have apO:=(hNb.aC x7 aH (arr .i64 64 S4)).aC x8 aH (arr .i64 64 R4);have hZe:=(hZ.aC x7 aH (arr .i64 64 S4)).aC x8 aH (arr .i64 64 R4);have hbe:=aB (aB aD (by omega:w.heap.size<=x7) (arr .i64 64 S4)) (by omega:w.heap.size<=x8) (arr .i64 64 R4);have H7:=ay h7;have SH2:=ay s2;clear h7 h8 s2 h6 hNb hZ aD;have HE:Hid (vB S4 (p.mul (n / 2 ^ (256 - (k+1))))/\vB R4 (p.mul (n / 2 ^ (256 - (k+1))+1))):=by
         have hh7:=F7.out;have hh8:=F8.out;have hbit:bb=(n / 2 ^ (255 - k) % 2==1):=by
          rw[yJ.out,Qs.out,HM.out,Bool.eq_iff_iff,beq_iff_eq,beq_iff_eq];have e:((n / 2 ^ (255 - k) % 2:Nat):Int)=(n:Int) / 2 ^ (255 - k) % 2:=by simp
          omega
         have Rx:n / 2 ^ (256 - k)=n / 2 ^ (255 - k) / 2:=by
          rw[show 256 - k=255 - k+1 by have:=HKL.out;omega,Nat.pow_succ,Nat.div_div_eq_div_mul]
         rw[show 256 - (k+1)=255 - k by omega];rw[Rx] at hh7 hh8;exact XY p (n / 2 ^ (255 - k)) bb hbit hh7 hh8
        clear F7 F8;go_wp2_with (first | (refine aL rfl 193 _ _ rfl .i64 x7 64 S3 S4 Tryz.size193 rfl rfl H7.out ?_) | (refine aL rfl 193 _ _ rfl .i64 x8 64 S2 R4 Tryz.size193 rfl rfl SH2.out ?_));go_roundw
        case rel=>exact⟨k+1,_,_,by have:=HKL.out;omega,congrArg (Value.int .i64) (by have:=HKM.out;omega),HE.out.1,HE.out.2,⟨e7,e8⟩,⟨h6e,apO,hZe⟩,hbe⟩
        case measure=>simp[intOf] <;> (have:=HKM.out;omega)
theorem Oy (f g h e:Nat->Int) (X Y Z T VX VY:Int) (hp:zJ f g h e X Y Z T) (hx:X * Z ^ (PN - 2) % Pr=VX) (hy:Y * Z ^ (PN - 2) % Pr=VY) (w:World):
  Calls Tryz.prog 161 #[Qo (pt f g h e)] w fun e_ w'=>e_=.returned (.agg (arr .u8 32 (dg 256 (VY+(VX % 2) * 2 ^ 255))))/\Below w.heap.size w w':=by
 have HP:=ay hp;have HBY:Hid (∀w,Calls Tryz.prog 205 #[.agg (arr .i64 16 (aS g (kC h)))] w fun e w'=>e=.returned (.agg (arr .u8 32 (dg 256 VY)))/\Below w.heap.size w w'):=fun w=>by
  have h1:=nD _ _ (hp.2.1.aS (kR hp.2.2.1)) w;unfold zh at h1;rw[hy] at h1;exact h1
 have hVX:0<=VX:=by rw[<-hx];exact(acB _).1
 have hVY:0<=VY/\VY<2 ^ 255:=by(rw[<-hy];have h1:=acB (Y * Z ^ (PN - 2));have h2:Pr<2 ^ 255:=by decide);exact⟨h1.1,by omega⟩
 have HHI:=ay (ZU VY hVY.1 hVY.2);have HTS:=ay (Sv VY hVY.1 hVY.2);have aio:Hid (VX % 2=1->∀w,Calls Tryz.prog 222 #[.agg (arr .i64 16 (aS f (kC h)))] w fun e w'=>e=.returned (.bool true)/\Below w.heap.size w w'):=fun h1 w=>by
  refine zu _ _ (hp.1.aS (kR hp.2.2.1)) ?_ w;unfold zh;rw[hx];exact h1
 have aip:Hid (VX % 2=0->∀w,Calls Tryz.prog 222 #[.agg (arr .i64 16 (aS f (kC h)))] w fun e w'=>e=.returned (.bool false)/\Below w.heap.size w w'):=fun h1 w=>by
  refine CZ _ _ (hp.1.aS (kR hp.2.2.1)) ?_ w;unfold zh;rw[hx];exact h1
 clear hp hx hy hVY
 go_enter Tryz.func161,Tryz.ntmps161
 go_upto_region 1 with(fail);refine aJ (fun w1=>aK .i64 w1 w.heap.size 64 (pt f g h e)/\aK .u8 w1 (w.heap.size+1) 32 (fun _=>0)/\Below w.heap.size w w1) ⟨.alloc (cB rfl rfl) _,cB dO (by rfl),((bT _ _).alloc (bH _) _).alloc dO _⟩ ?_;rintro w1 ⟨hA,hZ,aD⟩
 refine bN (n:=23) aQ aQ aQ rfl
  (ku [(4,3)]) (gH [(4,3)]) (fun _=>arr .i64 16 (fun _=>0)) (fun _=>(arr .i64 16 (kC (h)))) (fun _=>191) (fun _=>3)
  (fun ii vv _=>(match ii with | 0=>vv=.pointer (some ⟨w.heap.size,32,none⟩) | 1=>vv=.agg (arr .i64 16 (h)) | 2=>vv=.agg (arr .i64 16 (kC (h))) | _=>True)) (fun _ _=>True) (fun _ _ _=>trivial) (fun _ _ _ _ _ _ _=>trivial) (fun _ _ _ _ h _=>h)
  (iJ rfl) (fT rfl) ?_ ?_ ?_ ?_
 ·refine dG ?_;refine⟨?_,?_,?_,(fun h=>by cases h),(fun _ h=>by cases h),trivial⟩
  ·intro _ _ a w2 hB hF hd;refine aN <| aW (bB (m:=15) (k:=32) rfl (hF.same 1 rfl) aQ) ?_;exact rfl
  ·intro _ _ a w2 hB hF hd;exact aN <| aW (bW rfl (hd 0 _ rfl rfl rfl (aj rfl)) dB rfl bP (fun i hi=>(hB.cell (p:=⟨w.heap.size,32+i,none⟩) hA.lt).trans (Tf hA i hi))) rfl
  ·intro _ _ a w2 hB hF hd;refine aN <| aI _ _ _ rfl Tryz.call204 _ (args1 (hd 1 _ rfl rfl rfl (aj rfl))) aR ((kL _ _ HP.out.2.2.1 w2).mono ?_);rintro e w3 ⟨rfl,hb⟩;exact⟨_,rfl,rfl,hb⟩
 ·refine dG ?_;refine⟨(fun h=>by cases h),(fun h=>by cases h),(fun h=>by cases h),?_,(fun h=>by cases h),trivial⟩
  ·exact fun _=>⟨rfl,rfl,fun a w2 K h=>bD rfl rfl Tryz.zeroValue191 aR h⟩
 ·refine dG ?_;refine⟨(fun _ h=>by cases h),(fun _ h=>by cases h),(fun _ h=>by cases h),(fun _ h=>by cases h),?_,trivial⟩
  ·intro p hp;obtain rfl:3=p:=gJ hp;exact⟨rfl,rfl,⟨_,rfl⟩,aj rfl,fun a w2 b K hB hF hd hx hb h=>bQ rfl rfl bP hx (hd 2 _ rfl rfl rfl (aj rfl)) hb h⟩
 ·intro a w2 blk hB hF hS hv hfin dS;obtain⟨v3,Gv,Sn⟩:=hv 3 _ rfl rfl;have ha:=aO rfl rfl hF [_,_,_,_,undef] rfl ⟨hS 0 _ rfl rfl rfl,hS 1 _ rfl rfl rfl,hS 2 _ rfl rfl rfl,v3,trivial,trivial⟩;have f3:=hfin 4 _ 3 rfl rfl;simp only[puts,Act.put,fB,fD,fF] at ha;subst ha;have V3:aK .i64 w2 (blk 3) 16 (kC (h)):=⟨_,f3⟩
  clear hS hv hfin dS hF v3 f3;replace hA:=hA.kept hB;replace hZ:=hZ.kept hB;replace aD:=aD.trans (hB.mono aD.size);have hz:=hZ.lt;obtain⟨x3,e3⟩:∃x,x=blk 3:=⟨_,rfl⟩
  rw[<-e3] at V3 ⊢;have h3:=V3;clear V3 hB e3 Gv Sn;go_upto_region 2 with(fail)
  refine bN (n:=23) aQ aQ aQ rfl
   (ku [(6,5)]) (gH [(6,5)]) (fun _=>arr .u8 32 (fun _=>0)) (fun _=>(arr .u8 32 (dg 256 VY))) (fun _=>22) (fun _=>4)
   (fun ii vv _=>(match ii with | 0=>vv=.pointer (some ⟨w.heap.size,16,none⟩) | 1=>vv=.agg (arr .i64 16 (g)) | 2=>vv=.agg (arr .i64 16 (kC h)) | 3=>vv=.agg (arr .i64 16 (aS (g) (kC h))) | 4=>vv=.agg (arr .u8 32 (dg 256 VY)) | _=>True)) (fun _ _=>True) (fun _ _ _=>trivial) (fun _ _ _ _ _ _ _=>trivial) (fun _ _ _ _ h _=>h)
   (iJ rfl) (fT rfl) ?_ ?_ ?_ ?_
  ·refine dG ?_;refine⟨?_,?_,?_,?_,?_,(fun h=>by cases h),(fun _ h=>by cases h),trivial⟩
   ·intro _ _ a w2 hB hF hd;refine aN <| aW (bB (m:=15) (k:=16) rfl (hF.same 1 rfl) aQ) ?_;exact rfl
   ·intro _ _ a w2 hB hF hd;exact aN <| aW (bW rfl (hd 0 _ rfl rfl rfl (aj rfl)) dB rfl bP (fun i hi=>(hB.cell (p:=⟨w.heap.size,16+i,none⟩) hA.lt).trans (Ol hA i hi))) rfl
   ·intro _ _ a w2 hB hF hd;exact aN <| aW (aF rfl dB rfl bP (hF.same 3 rfl) (h3.below hB h3.lt)) rfl
   ·intro _ _ a w2 hB hF hd;refine aN <| aI _ _ _ rfl Tryz.call203 _ (args2 (hd 1 _ rfl rfl rfl (aj rfl)) (hd 2 _ rfl rfl rfl (aj rfl))) aR ((bZ _ _ _ _ HP.out.2.1 (kR HP.out.2.2.1) w2).mono ?_);rintro e w3 ⟨rfl,hb⟩;exact⟨_,rfl,rfl,hb⟩
   ·intro _ _ a w2 hB hF hd;refine aN <| aI _ _ _ rfl Tryz.call205 _ (args1 (hd 3 _ rfl rfl rfl (aj rfl))) aR ((HBY.out w2).mono ?_);rintro e w3 ⟨rfl,hb⟩;exact⟨_,rfl,rfl,hb⟩
  ·refine dG ?_;refine⟨(fun h=>by cases h),(fun h=>by cases h),(fun h=>by cases h),(fun h=>by cases h),(fun h=>by cases h),?_,(fun h=>by cases h),trivial⟩
   ·exact fun _=>⟨rfl,rfl,fun a w2 K h=>bD rfl rfl Tryz.zeroValue22 aR h⟩
  ·refine dG ?_;refine⟨(fun _ h=>by cases h),(fun _ h=>by cases h),(fun _ h=>by cases h),(fun _ h=>by cases h),(fun _ h=>by cases h),(fun _ h=>by cases h),?_,trivial⟩
   ·intro p hp;obtain rfl:5=p:=gJ hp;exact⟨rfl,rfl,⟨_,rfl⟩,aj rfl,fun a w2 b K hB hF hd hx hb h=>bQ rfl rfl fZ hx (hd 4 _ rfl rfl rfl (aj rfl)) hb h⟩
  ·intro a w3 blk hB hF hS hv hfin dS;obtain⟨v5,Jt,v5u⟩:=hv 5 _ rfl rfl;have ha:=aO rfl rfl hF [_,_,_,_,_,_,undef] rfl ⟨hS 0 _ rfl rfl rfl,hS 1 _ rfl rfl rfl,hS 2 _ rfl rfl rfl,hS 3 _ rfl rfl rfl,hS 4 _ rfl rfl rfl,v5,trivial,trivial⟩;have f5:=hfin 6 _ 5 rfl rfl;simp only[puts,Act.put,fB,fD,fF] at ha;subst ha;have V5:aK .u8 w3 (blk 5) 32 (dg 256 VY):=⟨_,f5⟩
   clear hS hv hfin dS hF v5 f5;replace hA:=hA.kept hB;replace hZ:=hZ.kept hB;replace h3:=h3.kept hB;replace aD:=aD.trans (hB.mono aD.size);obtain⟨x4,e4⟩:∃x,x=blk 5:=⟨_,rfl⟩
   rw[<-e4] at V5 Jt ⊢;have h4:=V5;have l4:w.heap.size+1<x4:=by omega
   clear V5 hB e4 Jt v5u hz;go_upto_region 3 with(fail);rcases(by omega:VX % 2=0\/VX % 2=1) with ho | ho
   ·have HO:=ay ho;clear ho
    refine bC (n:=23) aQ aQ aQ rfl
     (fun ii vv _=>(match ii with | 0=>vv=.pointer (some ⟨w.heap.size,0,none⟩) | 1=>vv=.agg (arr .i64 16 (f)) | 2=>vv=.agg (arr .i64 16 (kC h)) | 3=>vv=.agg (arr .i64 16 (aS (f) (kC h))) | 4=>vv=.bool false | _=>True))
     (fun w w'=>Below w.heap.size w w') (fun _ _ h=>h) (fun _ _ _ _ h _=>h) ?_ ?_
    ·refine dG ?_;refine⟨?_,?_,?_,?_,?_,trivial⟩
     ·intro a w2 hB hF hd;refine aN <| aW (bB (m:=15) (k:=0) rfl (hF.same 1 rfl) aQ) ?_;exact rfl
     ·intro a w2 hB hF hd;exact aN <| aW (bW rfl (hd 0 _ rfl (aj rfl)) dB rfl bP (fun i hi=>(hB.cell (p:=⟨w.heap.size,0+i,none⟩) hA.lt).trans (KC hA i hi))) rfl
     ·intro a w2 hB hF hd;exact aN <| aW (aF rfl dB rfl bP (hF.same 3 rfl) (h3.below hB h3.lt)) rfl
     ·intro a w2 hB hF hd;refine aN <| aI _ _ _ rfl Tryz.call203 _ (args2 (hd 1 _ rfl (aj rfl)) (hd 2 _ rfl (aj rfl))) aR ((bZ _ _ _ _ HP.out.1 (kR HP.out.2.2.1) w2).mono ?_);rintro e w3 ⟨rfl,hb⟩;exact⟨_,rfl,rfl,hb⟩
     ·intro a w2 hB hF hd;refine aN <| aI _ _ _ rfl Tryz.call222 _ (args1 (hd 3 _ rfl (aj rfl))) aR ((aip.out HO.out w2).mono ?_);rintro e w3 ⟨rfl,hb⟩;exact⟨_,rfl,rfl,hb⟩
    ·intro a w4 hB hF hS;have ha:=aO rfl rfl hF [_,_,_,_,_] rfl ⟨hS 0 _ rfl,hS 1 _ rfl,hS 2 _ rfl,hS 3 _ rfl,hS 4 _ rfl,trivial⟩;simp only[puts,Act.put,fB,fD,fF] at ha;subst ha;clear hS hF;replace hZ:=hZ.kept hB;replace h4:=h4.kept hB;replace aD:=aD.trans (hB.mono aD.size);clear hA h3 hB HBY aio aip;have h5:aK .u8 w4 x4 32 (dg 256 (VY+(VX % 2) * 2 ^ 255)):=by rw[HO.out,Int.zero_mul,Int.add_zero];exact h4
     obtain⟨R,hR⟩:∃R,R=VY+(VX % 2) * 2 ^ 255:=⟨_,rfl⟩
     rw[<-hR] at h5;have HR:=ay hR;clear hR;go_wp2_with (first | (refine aZ rfl 22 _ rfl .u8 x4 32 (dg 256 R) 5 iL fZ rfl h5 ?_) | (refine aL rfl 22 _ _ rfl .u8 (w.heap.size+1) 32 (fun _=>0) (dg 256 R) fZ rfl rfl hZ ?_));exact bodyPost_ret (bV rfl _ _ .u8 (w.heap.size+1) 32 _ 5 rfl (hZ.setRow 32 (dg 256 R)) iL fZ) rfl ⟨by rw[HR.out],aB aD aH _⟩
   ·have HO:=ay ho;clear ho
    refine bC (n:=23) aQ aQ aQ rfl
     (fun ii vv _=>(match ii with | 0=>vv=.pointer (some ⟨w.heap.size,0,none⟩) | 1=>vv=.agg (arr .i64 16 (f)) | 2=>vv=.agg (arr .i64 16 (kC h)) | 3=>vv=.agg (arr .i64 16 (aS (f) (kC h))) | 4=>vv=.bool true | _=>True))
     (fun w w'=>Below w.heap.size w w') (fun _ _ h=>h) (fun _ _ _ _ h _=>h) ?_ ?_
    ·refine dG ?_;refine⟨?_,?_,?_,?_,?_,trivial⟩
     ·intro a w2 hB hF hd;refine aN <| aW (bB (m:=15) (k:=0) rfl (hF.same 1 rfl) aQ) ?_;exact rfl
     ·intro a w2 hB hF hd;exact aN <| aW (bW rfl (hd 0 _ rfl (aj rfl)) dB rfl bP (fun i hi=>(hB.cell (p:=⟨w.heap.size,0+i,none⟩) hA.lt).trans (KC hA i hi))) rfl
     ·intro a w2 hB hF hd;exact aN <| aW (aF rfl dB rfl bP (hF.same 3 rfl) (h3.below hB h3.lt)) rfl
     ·intro a w2 hB hF hd;refine aN <| aI _ _ _ rfl Tryz.call203 _ (args2 (hd 1 _ rfl (aj rfl)) (hd 2 _ rfl (aj rfl))) aR ((bZ _ _ _ _ HP.out.1 (kR HP.out.2.2.1) w2).mono ?_);rintro e w3 ⟨rfl,hb⟩;exact⟨_,rfl,rfl,hb⟩
     ·intro a w2 hB hF hd;refine aN <| aI _ _ _ rfl Tryz.call222 _ (args1 (hd 3 _ rfl (aj rfl))) aR ((aio.out HO.out w2).mono ?_);rintro e w3 ⟨rfl,hb⟩;exact⟨_,rfl,rfl,hb⟩
    ·intro a w4 hB hF hS;have ha:=aO rfl rfl hF [_,_,_,_,_] rfl ⟨hS 0 _ rfl,hS 1 _ rfl,hS 2 _ rfl,hS 3 _ rfl,hS 4 _ rfl,trivial⟩;simp only[puts,Act.put,fB,fD,fF] at ha;subst ha;clear hS hF;replace hZ:=hZ.kept hB;replace h4:=h4.kept hB;replace aD:=aD.trans (hB.mono aD.size);clear hA h3 hB HBY aio aip;have e1:=h4.cell 31 aM;have f1:=h4.free 31;obtain⟨t0,t1⟩:=HTS.out;obtain⟨t,ht⟩:∃t,t=dg 256 VY 31:=⟨_,rfl⟩
     rw[<-ht] at e1 t0 t1;have a1:=afP t t0 t1;have HT:=ay ht;have H4:=ay h4;clear ht h4;go_upto_region 5 with(fail);refine aJ (fun w9=>aK .u8 w9 x4 32 (dg 256 (VY+(VX % 2) * 2 ^ 255))/\aK .u8 w9 (w.heap.size+1) 32 (fun _=>0)/\Below w.heap.size w w9) ⟨(H4.out.set 31 (t+128)).congr (fun i hi=>by rw[HT.out,HO.out];exact HHI.out i hi),hZ.other dO _,aD.setCell dO _⟩ ?_;rintro w9 ⟨h5,hZ,aD⟩
     try simp only[Act.put,fB,fD,fF]
     obtain⟨R,hR⟩:∃R,R=VY+(VX % 2) * 2 ^ 255:=⟨_,rfl⟩
     rw[<-hR] at h5;have HR:=ay hR;clear hR;go_wp2_with (first | (refine aZ rfl 22 _ rfl .u8 x4 32 (dg 256 R) 5 iL fZ rfl h5 ?_) | (refine aL rfl 22 _ _ rfl .u8 (w.heap.size+1) 32 (fun _=>0) (dg 256 R) fZ rfl rfl hZ ?_));exact bodyPost_ret (bV rfl _ _ .u8 (w.heap.size+1) 32 _ 5 rfl (hZ.setRow 32 (dg 256 R)) iL fZ) rfl ⟨by rw[HR.out],aB aD aH _⟩
theorem Tt {A:Nat->Int} {p:Ed C7} (hA:vB A p) (w:World):Calls Tryz.prog 161 #[Qo A] w fun e_ w'=>e_=.returned (.agg (arr .u8 32 (dg 256 (oP p))))/\Below w.heap.size w w':=by
 obtain⟨f,g,h,e,X,Y,Z,T,rfl,h1,h2⟩:=hA;exact Oy f g h e X Y Z T (IL p) (edY p) h1 (Ky h2.1 h2.2.1) (Ky h2.1 h2.2.2.1) w
def IB (Y:Int):Int:=(Y * Y - 1) * zh (dN * (Y * Y)+1)
def Un (f:Nat->Int):Nat->Int:=aS (fG (aS f f) (aV 1)) (kC (dw (aS kH (aS f f)) (aV 1)))
theorem Zj {f:Nat->Int} {Y:Int} (hf:Fe f Y):Fe (Un f) (IB Y):=((hf.aS hf).fG rX).aS (kR ((lK.aS (hf.aS hf)).dw rX))
theorem Ox (q:Bool) (H f:Nat->Int) (Y:Int) (hf:Fe f Y) (hrt:∀w,Calls Tryz.prog 252 #[El (Un f)] w fun e w'=>e=.returned (.tuple #[El H,.bool q])/\Below w.heap.size w w') (w:World):
  Calls Tryz.prog 209 #[El f] w fun e w'=>e=.returned (.tuple #[El H,.bool q])/\Below w.heap.size w w':=by
 have HF:=ay hf;have HRT:=ay hrt;clear hf hrt;unfold El;unfold El at HRT
 go_enter Tryz.func209,Tryz.ntmps209
 go_upto_region 1 with(fail);refine aJ (fun w1=>aK .i64 w1 w.heap.size 16 f/\aK .i64 w1 (w.heap.size+1) 16 (fun _=>0)/\Below w.heap.size w w1) ⟨.alloc (cB rfl rfl) _,cB dO (by rfl),((bT _ _).alloc (bH _) _).alloc dO _⟩ ?_;rintro w1 ⟨hA,hZ,aD⟩
 refine bN (n:=23) aQ aQ aQ rfl
  (ku [(6,4),(7,5)]) (gH [(6,4),(7,5)]) (fun _=>arr .i64 16 (fun _=>0)) (fun i=>match i with | 4=>(arr .i64 16 (aS (f) (f))) | 5=>(arr .i64 16 (aV 1)) | _=> #[]) (fun _=>191) (fun i=>match i with | 4=>4 | 5=>5 | _=>0)
  (fun ii vv _=>(match ii with | 0 | 1=>vv=.agg (arr .i64 16 (f)) | 2=>vv=.agg (arr .i64 16 (aS (f) (f))) | 3=>vv=.agg (arr .i64 16 (aV 1)) | _=>True)) (fun _ _=>True) (fun _ _ _=>trivial) (fun _ _ _ _ _ _ _=>trivial) (fun _ _ _ _ h _=>h)
  (iJ rfl) (fT rfl) ?_ ?_ ?_ ?_
 ·refine dG ?_;refine⟨?_,?_,?_,?_,(fun h=>by cases h),(fun h=>by cases h),(fun _ h=>by cases h),(fun _ h=>by cases h),trivial⟩
  ·intro _ _ a w2 hB hF hd;exact aN <| aW (aF rfl dB rfl bP (hF.same 1 rfl) (hA.below hB hA.lt)) rfl
  ·intro _ _ a w2 hB hF hd;exact aN <| aW (aF rfl dB rfl bP (hF.same 1 rfl) (hA.below hB hA.lt)) rfl
  ·intro _ _ a w2 hB hF hd;refine aN <| aI _ _ _ rfl Tryz.call203 _ (args2 (hd 0 _ rfl rfl rfl (aj rfl)) (hd 1 _ rfl rfl rfl (aj rfl))) aR ((bZ _ _ _ _ HF.out HF.out w2).mono ?_);rintro e w3 ⟨rfl,hb⟩;exact⟨_,rfl,rfl,hb⟩
  ·intro _ _ a w2 hB hF hd;refine aN <| aI _ _ _ rfl Tryz.call200 _ (args1 rfl) aR ((fI 1 w2).mono ?_);rintro e w3 ⟨rfl,hb⟩;exact⟨_,rfl,rfl,hb⟩
 ·refine dG ?_;refine⟨(fun h=>by cases h),(fun h=>by cases h),(fun h=>by cases h),(fun h=>by cases h),?_,?_,(fun h=>by cases h),(fun h=>by cases h),trivial⟩
  ·exact fun _=>⟨rfl,rfl,fun a w2 K h=>bD rfl rfl Tryz.zeroValue191 aR h⟩
  ·exact fun _=>⟨rfl,rfl,fun a w2 K h=>bD rfl rfl Tryz.zeroValue191 aR h⟩
 ·refine dG ?_;refine⟨(fun _ h=>by cases h),(fun _ h=>by cases h),(fun _ h=>by cases h),(fun _ h=>by cases h),(fun _ h=>by cases h),(fun _ h=>by cases h),?_,?_,trivial⟩
  ·intro p hp;obtain rfl:4=p:=gJ hp;exact⟨rfl,rfl,⟨_,rfl⟩,aj rfl,fun a w2 b K hB hF hd hx hb h=>bQ rfl rfl bP hx (hd 2 _ rfl rfl rfl (aj rfl)) hb h⟩
  ·intro p hp;obtain rfl:5=p:=gJ hp;exact⟨rfl,rfl,⟨_,rfl⟩,aj rfl,fun a w2 b K hB hF hd hx hb h=>bQ rfl rfl bP hx (hd 3 _ rfl rfl rfl (aj rfl)) hb h⟩
 ·intro a w2 blk hB hF hS hv hfin dS;obtain⟨v4,Wt,v4u⟩:=hv 4 _ rfl rfl;obtain⟨v5,Jt,v5u⟩:=hv 5 _ rfl rfl;have ha:=aO rfl rfl hF [_,_,_,_,_,_,undef,undef] rfl ⟨hS 0 _ rfl rfl rfl,hS 1 _ rfl rfl rfl,hS 2 _ rfl rfl rfl,hS 3 _ rfl rfl rfl,v4,v5,trivial,trivial,trivial⟩;have f4:=hfin 6 _ 4 rfl rfl;have f5:=hfin 7 _ 5 rfl rfl;have ahE:=dS 4 5 _ _ rfl rfl rfl rfl aM;simp only[puts,Act.put,fB,fD,fF] at ha;subst ha;have V4:aK .i64 w2 (blk 4) 16 (aS (f) (f)):=⟨_,f4⟩
  have V5:aK .i64 w2 (blk 5) 16 (aV 1):=⟨_,f5⟩
  clear hS hv hfin dS hF v4 v5 f4 f5;have hz:=hZ.lt;replace hZ:=hZ.kept hB;replace aD:=aD.trans (hB.mono aD.size);obtain⟨x4,e4⟩:∃x,x=blk 4:=⟨_,rfl⟩
  obtain⟨x5,e5⟩:∃x,x=blk 5:=⟨_,rfl⟩
  rw[<-e4] at V4 Wt ⊢;rw[<-e5] at V5 Jt ⊢;have h4:=V4;have h5:=V5;have l4:w.heap.size+1<x4:=by omega
  have l5:w.heap.size+1<x5:=by omega
  clear V4 V5 hB e4 e5 Wt v4u Jt v5u hA hz;go_upto_region 2 with(fail)
  refine qc (n:=23) 14 rfl aM aQ aQ aQ aQ rfl
   (fun ii vv ww=>(match ii with | 0 | 4=>vv=.agg (arr .i64 16 (aS f f)) | 1 | 6=>vv=.agg (arr .i64 16 (aV 1)) | 2=>vv=.agg (arr .i64 16 (fG (aS f f) (aV 1))) | 3=>vv=.agg (arr .i64 16 (kH)) | 5=>vv=.agg (arr .i64 16 (aS (kH) (aS f f))) | 7=>vv=.agg (arr .i64 16 (dw (aS (kH) (aS f f)) (aV 1))) | 8=>vv=.agg (arr .i64 16 (kC (dw (aS (kH) (aS f f)) (aV 1)))) | 9=>vv=.agg (arr .i64 16 (aS (fG (aS f f) (aV 1)) (kC (dw (aS (kH) (aS f f)) (aV 1))))) | 10=>vv=.tuple #[.agg (arr .i64 16 (H)),.bool q] | 11=>vv=.agg (arr .i64 16 (H)) | 12=>vv=.bool q | _=>True)/\(ii=13->aK .i64 ww (w.heap.size+1) 16 (H))) 13
   (fun b ww=>(aK .i64 ww (x4) 16 (aS f f)/\aK .i64 ww (x5) 16 (aV 1)/\Below w.heap.size w ww)/\(b=false->aK .i64 ww ((w.heap.size+1)) 16 (fun _=>0))) ⟨⟨h4.drew,h5.drew,aD.drew⟩,fun _=>hZ.drew⟩
   (fun i ww w'=>match i with | 13=>((aK .i64 ww (x4) 16 (aS f f)/\aK .i64 ww (x5) 16 (aV 1)/\Below w.heap.size w ww)->(aK .i64 w' (x4) 16 (aS f f)/\aK .i64 w' (x5) 16 (aV 1)/\Below w.heap.size w w')) | _=>Below ww.heap.size ww w') ?_ ?_ ?_ ?_ rfl ?_ ?_
  ·intro i ww;(try dsimp only);split
   ·exact id
   ·exact bT _ _
  ·intro i b ww w' hi hR hE;have hE':Below ww.heap.size ww w':=by(try dsimp only at hE);split at hE;(· exact absurd rfl hi);exact hE
   obtain⟨⟨q0,q1,qb⟩,nH⟩:=hR;exact⟨⟨q0.kept hE',q1.kept hE',qb.trans (hE'.mono qb.size)⟩,fun hb=>(nH hb).kept hE'⟩
  ·intro ww w' hR hE;exact⟨hE hR.1,fun h=>by cases h⟩
  ·intro i j b v ww w' gI hjb hR hS hE;refine⟨hS.1,fun e=>?_⟩;subst e;have hE':Below ww.heap.size ww w':=by(try dsimp only at hE);split at hE;(· exact absurd rfl gI);exact hE
   exact(hS.2 rfl).kept hE'
  ·refine dG ?_;refine⟨?_,?_,?_,?_,?_,?_,?_,?_,?_,?_,?_,?_,?_,?_,(fun h=>absurd rfl h),trivial⟩
   ·intro _ b a w2 hcb hB0 hF hd;obtain⟨⟨h4,h5,aD⟩,nH⟩:=hB0;have hB:=bT w2.heap.size w2;exact aN <| aW (aF rfl dB rfl bP (hF.same 4 rfl) (h4.below hB h4.lt)) ⟨rfl,aP⟩
   ·intro _ b a w2 hcb hB0 hF hd;obtain⟨⟨h4,h5,aD⟩,nH⟩:=hB0;have hB:=bT w2.heap.size w2;exact aN <| aW (aF rfl dB rfl bP (hF.same 5 rfl) (h5.below hB h5.lt)) ⟨rfl,aP⟩
   ·intro _ b a w2 hcb hB0 hF hd;obtain⟨⟨h4,h5,aD⟩,nH⟩:=hB0;have hB:=bT w2.heap.size w2;refine aN <| aI _ _ _ rfl Tryz.call244 _ (args2 ((hd 0 _ rfl (aj rfl)).1) ((hd 1 _ rfl (aj rfl)).1)) aR ((jD _ _ _ _ (HF.out.aS HF.out) rX w2).mono ?_);rintro e w3 ⟨rfl,hb⟩;exact⟨_,rfl,⟨rfl,aP⟩,hb⟩
   ·intro _ b a w2 hcb hB0 hF hd;obtain⟨⟨h4,h5,aD⟩,nH⟩:=hB0;have hB:=bT w2.heap.size w2;refine aN <| aI _ _ _ rfl Tryz.call217 _ Ak aR ((zW w2).mono ?_);rintro e w3 ⟨rfl,hb⟩;exact⟨_,rfl,⟨rfl,aP⟩,hb⟩
   ·intro _ b a w2 hcb hB0 hF hd;obtain⟨⟨h4,h5,aD⟩,nH⟩:=hB0;have hB:=bT w2.heap.size w2;exact aN <| aW (aF rfl dB rfl bP (hF.same 4 rfl) (h4.below hB h4.lt)) ⟨rfl,aP⟩
   ·intro _ b a w2 hcb hB0 hF hd;obtain⟨⟨h4,h5,aD⟩,nH⟩:=hB0;have hB:=bT w2.heap.size w2;refine aN <| aI _ _ _ rfl Tryz.call203 _ (args2 ((hd 3 _ rfl (aj rfl)).1) ((hd 4 _ rfl (aj rfl)).1)) aR ((bZ _ _ _ _ lK (HF.out.aS HF.out) w2).mono ?_);rintro e w3 ⟨rfl,hb⟩;exact⟨_,rfl,⟨rfl,aP⟩,hb⟩
   ·intro _ b a w2 hcb hB0 hF hd;obtain⟨⟨h4,h5,aD⟩,nH⟩:=hB0;have hB:=bT w2.heap.size w2;exact aN <| aW (aF rfl dB rfl bP (hF.same 5 rfl) (h5.below hB h5.lt)) ⟨rfl,aP⟩
   ·intro _ b a w2 hcb hB0 hF hd;obtain⟨⟨h4,h5,aD⟩,nH⟩:=hB0;have hB:=bT w2.heap.size w2;refine aN <| aI _ _ _ rfl Tryz.call218 _ (args2 ((hd 5 _ rfl (aj rfl)).1) ((hd 6 _ rfl (aj rfl)).1)) aR ((iD _ _ _ _ ((lK).aS (HF.out.aS HF.out)) rX w2).mono ?_);rintro e w3 ⟨rfl,hb⟩;exact⟨_,rfl,⟨rfl,aP⟩,hb⟩
   ·intro _ b a w2 hcb hB0 hF hd;obtain⟨⟨h4,h5,aD⟩,nH⟩:=hB0;have hB:=bT w2.heap.size w2;refine aN <| aI _ _ _ rfl Tryz.call204 _ (args1 ((hd 7 _ rfl (aj rfl)).1)) aR ((kL _ _ ((((lK).aS (HF.out.aS HF.out))).dw rX) w2).mono ?_);rintro e w3 ⟨rfl,hb⟩;exact⟨_,rfl,⟨rfl,aP⟩,hb⟩
   ·intro _ b a w2 hcb hB0 hF hd;obtain⟨⟨h4,h5,aD⟩,nH⟩:=hB0;have hB:=bT w2.heap.size w2;refine aN <| aI _ _ _ rfl Tryz.call203 _ (args2 ((hd 2 _ rfl (aj rfl)).1) ((hd 8 _ rfl (aj rfl)).1)) aR ((bZ _ _ _ _ (((HF.out.aS HF.out)).fG rX) (kR ((((lK).aS (HF.out.aS HF.out))).dw rX)) w2).mono ?_);rintro e w3 ⟨rfl,hb⟩;exact⟨_,rfl,⟨rfl,aP⟩,hb⟩
   ·intro _ b a w2 hcb hB0 hF hd;obtain⟨⟨h4,h5,aD⟩,nH⟩:=hB0;have hB:=bT w2.heap.size w2;refine aN <| aI _ _ _ rfl Tryz.call252 _ (args1 ((hd 9 _ rfl (aj rfl)).1)) aR ((HRT.out w2).mono ?_);rintro e w3 ⟨rfl,hb⟩;exact⟨_,rfl,⟨rfl,aP⟩,hb⟩
   ·intro _ b a w2 hcb hB0 hF hd;obtain⟨⟨h4,h5,aD⟩,nH⟩:=hB0;have hB:=bT w2.heap.size w2;exact aN <| aW (bU rfl ((hd 10 _ rfl (aj rfl)).1) rfl) ⟨rfl,aP⟩
   ·intro _ b a w2 hcb hB0 hF hd;obtain⟨⟨h4,h5,aD⟩,nH⟩:=hB0;have hB:=bT w2.heap.size w2;exact aN <| aW (bU rfl ((hd 10 _ rfl (aj rfl)).1) rfl) ⟨rfl,aP⟩
   ·intro _ b a w2 hcb hB0 hF hd;obtain⟨⟨h4,h5,aD⟩,nH⟩:=hB0;have hB:=bT w2.heap.size w2;refine aN <| bG 191 _ _ rfl .i64 ((w.heap.size+1)) 16 (fun _=>0) (H) bP (hF.same 2 rfl) ((hd 11 _ rfl (aj rfl)).1) (nH (hcb rfl)) ?_;exact⟨_,rfl,fun _=>rfl,⟨trivial,fun _=>(nH (hcb rfl)).setRow _ _⟩,fun⟨p0,p1,p2⟩=>⟨p0.aC _ aH _,p1.aC _ aH _,aB p2 aH _⟩⟩
  ·intro b a w3 hB0 hF hS;have V13:=(hS 13 _ rfl aM).2 rfl;obtain⟨⟨h4,h5,aD⟩,_⟩:=hB0;obtain⟨xl,hxl⟩:∃x,x=a.tmps.getD 3 undef:=⟨_,rfl⟩
   have ha:=aO rfl rfl hF [_,_,_,_,_,_,_,_,_,_,_,_,_,undef,xl] rfl ⟨(hS 0 _ rfl aM).1,(hS 1 _ rfl aM).1,(hS 2 _ rfl aM).1,(hS 3 _ rfl aM).1,(hS 4 _ rfl aM).1,(hS 5 _ rfl aM).1,(hS 6 _ rfl aM).1,(hS 7 _ rfl aM).1,(hS 8 _ rfl aM).1,(hS 9 _ rfl aM).1,(hS 10 _ rfl aM).1,(hS 11 _ rfl aM).1,(hS 12 _ rfl aM).1,trivial,hxl.symm,trivial⟩;simp only[puts,Act.put,fB,fD,fF] at ha;subst ha;clear hS hF hxl;refine wp_assign (.tmp 22) 3 rfl rfl ?_;simp only[Act.put,fB,fD,fF];go_wp2;exact bodyPost_ret (iW rfl _ _ .i64 (w.heap.size+1) 16 _ rfl V13 dB rfl bP) rfl ⟨rfl,aD⟩
theorem Ow (f:Nat->Int) (Y:Int) (hf:Fe f Y) (hsq:wD (IB Y)=true) (w:World):Calls Tryz.prog 209 #[El f] w fun e w'=>e=.returned (.tuple #[El (qL (Un f) (IB Y)),.bool true])/\Below w.heap.size w w':=
 Ox true _ f Y hf (fun w=>Pw (Un f) (IB Y) (Zj hf) hsq w) w
theorem YW {p:Ed C7} {Y:Int} (hy:toF Y=p.y):Cg (IL p * IL p) (IB Y):=by
 refine gY.1 ?_;unfold IB zh;rw[dK,dK,wX];simp only[lu,gq,dK,dP,WJ,hy,aeA];refine alr (ahz p) (inv_mul ?_);have h:=PI p;intro e;apply h
 generalize p.y=y at *
 generalize dE=d at *
 grind
theorem LY {p:Ed C7} {Y:Int} (hy:toF Y=p.y):wD (IB Y)=true:=Bc (YW hy)
theorem YX {p:Ed C7} {f:Nat->Int} {Y:Int} (hf:Fe f Y) (hy:toF Y=p.y) (he:IL p % 2=0):∃R,Fe (qL (Un f) (IB Y)) R/\toF R=p.x:=by
 obtain⟨R,h1,h2,h3⟩:=Xd (Zj hf) (LY hy);refine⟨R,h1,?_⟩;have h4:R * R % Pr=IL p * IL p % Pr:=h2.trans (YW hy).symm;have hb:=Zb p.x;have hx:IL p % Pr=IL p:=Nb hb.1 hb.2;rw[<-aeA];refine gY.2 ?_;rcases Fa h4 with h5 | h5
 ·exact h5
 ·by_cases h0:IL p=0
  ·rw[h0] at h5 ⊢;exact h5
  ·exfalso
   have e: -IL p % Pr=Pr - IL p:=by
    have e1: -IL p % Pr=(Pr - IL p) % Pr:=ow (c:= -1) aH;rw[e1];have hb':0<=IL p/\IL p<Pr:=hb;exact Nb aH aH
   rw[h5,e] at h3;have hp:Pr % 2=1:=by decide
   omega
theorem acE {f g:Nat->Int} {X Y:Int} {p:Ed C7} (hf:Fe f X) (hg:Fe g Y) (hx:toF X=p.x) (hy:toF Y=p.y):vB (pt f g (aV 1) (aS f g)) p:=by
 refine⟨f,g,aV 1,aS f g,X,Y,1,X * Y,rfl,⟨hf,hg,rX,hf.aS hg⟩,?_,?_,?_,?_⟩
 ·rw[dP];exact fM
 ·rw[dP,hx];generalize p.x=x;grind
 ·rw[dP,hy];generalize p.y=y;grind
 ·rw[dP,dK,hx,hy];generalize p.x * p.y=z;grind
theorem aew:Fe (aV 4) 4:=oF _ aM
theorem Zi:Fe (aV 5) 5:=oF _ aM
theorem Qf:toF (4 * zh 5)=Bp.y:=by
 unfold zh;have h5:toF 5≠0:=jM.2 aM;have h:=gY.2 Uo;rw[dK] at h;have hi:=inv_mul h5;rw[dK,wX];show _=toF BY
 generalize toF 4=a at *
 generalize toF 5=b at *
 generalize toF BY=c at *
 generalize inv b=i at *
 grind
def rQ:Nat->Int:=aS (aV 4) (kC (aV 5))
theorem tV:Fe rQ (4 * zh 5):=aew.aS (kR Zi)
def wI:Nat->Int:=qL (Un rQ) (IB (4 * zh 5))
theorem Md:∃R,Fe wI R/\toF R=Bp.x:=YX tV Qf (by rw[arN];decide)
def MR:Nat->Int:=pt wI rQ (aV 1) (aS wI rQ)
theorem abS:vB MR Bp:=by
 obtain⟨R,h1,h2⟩:=Md;exact acE h1 tV h2 Qf
theorem XF (w:World):Calls Tryz.prog 157 #[] w fun e w'=>e=.returned (Qo MR)/\Below w.heap.size w w':=by
 have HX:Hid (∃R,Fe wI R):=by obtain⟨R,h,_⟩:=Md;exact⟨R,h⟩
 obtain⟨RX,hRX⟩:=HX.out;have HFX:=ay hRX;have HFY:=ay tV;have HFI:Hid (∀w,Calls Tryz.prog 209 #[.agg (arr .i64 16 rQ)] w fun e w'=>e=.returned (.tuple #[.agg (arr .i64 16 wI),.bool true])/\Below w.heap.size w w'):=fun w=>Ow rQ _ tV (LY Qf) w;have HMD:Hid (∀w,Calls Tryz.prog 212 #[.agg (arr .i64 16 wI),.agg (arr .i64 16 rQ)] w fun e w'=>e=.returned (.agg (arr .i64 64 MR))/\Below w.heap.size w w'):=fun w=>Cw _ _ _ _ hRX tV w;have HM:Hid (∀w,Calls Tryz.prog 203 #[.agg (arr .i64 16 (aV 4)),.agg (arr .i64 16 (kC (aV 5)))] w fun e w'=>e=.returned (.agg (arr .i64 16 rQ))/\Below w.heap.size w w'):=fun w=>bZ _ _ _ _ aew (kR Zi) w;clear hRX;obtain⟨bxF,hbx⟩:∃x,x=wI:=⟨_,rfl⟩
 obtain⟨byF,hby⟩:∃x,x=rQ:=⟨_,rfl⟩
 obtain⟨bF,hbF⟩:∃x,x=MR:=⟨_,rfl⟩
 rw[<-hbF] at HMD ⊢;rw[<-hbx] at HFX HFI HMD;rw[<-hby] at HFY HFI HMD HM;clear hbx hby hbF HX
 go_enter Tryz.func157,Tryz.ntmps157
 go_upto_region 1 with(fail);refine aJ (fun w1=>aK .i64 w1 w.heap.size 64 (fun _=>0)/\Below w.heap.size w w1) ⟨cB rfl (by rfl),(bT _ _).alloc (bH _) _⟩ ?_;rintro w1 ⟨hZ,aD⟩
 refine bN (n:=16) aQ aQ aQ rfl
  (ku [(5,4)]) (gH [(5,4)]) (fun _=>arr .i64 16 (fun _=>0)) (fun _=>(arr .i64 16 (byF))) (fun _=>191) (fun _=>1)
  (fun ii vv _=>(match ii with | 0=>vv=.agg (arr .i64 16 (aV 4)) | 1=>vv=.agg (arr .i64 16 (aV 5)) | 2=>vv=.agg (arr .i64 16 (kC (aV 5))) | 3=>vv=.agg (arr .i64 16 (byF)) | _=>True)) (fun _ _=>True) (fun _ _ _=>trivial) (fun _ _ _ _ _ _ _=>trivial) (fun _ _ _ _ h _=>h)
  (iJ rfl) (fT rfl) ?_ ?_ ?_ ?_
 ·refine dG ?_;refine⟨?_,?_,?_,?_,(fun h=>by cases h),(fun _ h=>by cases h),trivial⟩
  ·intro _ _ a w2 hB hF hd;refine aN <| aI _ _ _ rfl Tryz.call200 _ (args1 rfl) aR ((fI 4 w2).mono ?_);rintro e w3 ⟨rfl,hb⟩;exact⟨_,rfl,rfl,hb⟩
  ·intro _ _ a w2 hB hF hd;refine aN <| aI _ _ _ rfl Tryz.call200 _ (args1 rfl) aR ((fI 5 w2).mono ?_);rintro e w3 ⟨rfl,hb⟩;exact⟨_,rfl,rfl,hb⟩
  ·intro _ _ a w2 hB hF hd;refine aN <| aI _ _ _ rfl Tryz.call204 _ (args1 (hd 1 _ rfl rfl rfl (aj rfl))) aR ((kL _ _ Zi w2).mono ?_);rintro e w3 ⟨rfl,hb⟩;exact⟨_,rfl,rfl,hb⟩
  ·intro _ _ a w2 hB hF hd;refine aN <| aI _ _ _ rfl Tryz.call203 _ (args2 (hd 0 _ rfl rfl rfl (aj rfl)) (hd 2 _ rfl rfl rfl (aj rfl))) aR ((HM.out w2).mono ?_);rintro e w3 ⟨rfl,hb⟩;exact⟨_,rfl,rfl,hb⟩
 ·refine dG ?_;refine⟨(fun h=>by cases h),(fun h=>by cases h),(fun h=>by cases h),(fun h=>by cases h),?_,(fun h=>by cases h),trivial⟩
  ·exact fun _=>⟨rfl,rfl,fun a w2 K h=>bD rfl rfl Tryz.zeroValue191 aR h⟩
 ·refine dG ?_;refine⟨(fun _ h=>by cases h),(fun _ h=>by cases h),(fun _ h=>by cases h),(fun _ h=>by cases h),(fun _ h=>by cases h),?_,trivial⟩
  ·intro p hp;obtain rfl:4=p:=gJ hp;exact⟨rfl,rfl,⟨_,rfl⟩,aj rfl,fun a w2 b K hB hF hd hx hb h=>bQ rfl rfl bP hx (hd 3 _ rfl rfl rfl (aj rfl)) hb h⟩
 ·intro a w2 blk hB hF hS hv hfin dS;obtain⟨v4,Wt,v4u⟩:=hv 4 _ rfl rfl;have ha:=aO rfl rfl hF [_,_,_,_,_,undef] rfl ⟨hS 0 _ rfl rfl rfl,hS 1 _ rfl rfl rfl,hS 2 _ rfl rfl rfl,hS 3 _ rfl rfl rfl,v4,trivial,trivial⟩;have f4:=hfin 5 _ 4 rfl rfl;simp only[puts,Act.put,fB,fD,fF] at ha;subst ha;have V4:aK .i64 w2 (blk 4) 16 (byF):=⟨_,f4⟩
  clear hS hv hfin dS hF v4 f4;replace hZ:=hZ.kept hB;replace aD:=aD.trans (hB.mono aD.size);obtain⟨x1,e1⟩:∃x,x=blk 4:=⟨_,rfl⟩
  rw[<-e1] at V4 ⊢;have h1:=V4;clear V4 hB e1 Wt v4u;go_upto_region 2 with(fail)
  refine bN (n:=16) aQ aQ aQ rfl
   (ku [(6,5)]) (gH [(6,5)]) (fun _=>arr .i64 16 (fun _=>0)) (fun _=>(arr .i64 16 (bxF))) (fun _=>191) (fun _=>2)
   (fun ii vv _=>(match ii with | 0=>vv=.agg (arr .i64 16 (byF)) | 1 | 2=>vv=.tuple #[.agg (arr .i64 16 (bxF)),.bool true] | 3=>vv=.agg (arr .i64 16 (bxF)) | 4 | 7=>vv=.bool true | _=>True)) (fun _ _=>True) (fun _ _ _=>trivial) (fun _ _ _ _ _ _ _=>trivial) (fun _ _ _ _ h _=>h)
   (iJ rfl) (fT rfl) ?_ ?_ ?_ ?_
  ·refine dG ?_;refine⟨?_,?_,?_,?_,?_,(fun h=>by cases h),(fun _ h=>by cases h),?_,trivial⟩
   ·intro _ _ a w2 hB hF hd;exact aN <| aW (aF rfl dB rfl bP (hF.same 1 rfl) (h1.below hB h1.lt)) rfl
   ·intro _ _ a w2 hB hF hd;refine aN <| aI _ _ _ rfl Tryz.call209 _ (args1 (hd 0 _ rfl rfl rfl (aj rfl))) aR ((HFI.out w2).mono ?_);rintro e w3 ⟨rfl,hb⟩;exact⟨_,rfl,rfl,hb⟩
   ·intro _ _ a w2 hB hF hd;exact aN <| aG _ (.inl rfl) aR (hd 1 _ rfl rfl rfl (aj rfl))
   ·intro _ _ a w2 hB hF hd;exact aN <| aW (bU rfl (hd 2 _ rfl rfl rfl (aj rfl)) rfl) rfl
   ·intro _ _ a w2 hB hF hd;exact aN <| aW (bU rfl (hd 2 _ rfl rfl rfl (aj rfl)) rfl) rfl
   ·intro _ _ a w2 hB hF hd;exact aN <| aG _ (.inr rfl) aR (hd 4 _ rfl rfl rfl (aj rfl))
  ·refine dG ?_;refine⟨(fun h=>by cases h),(fun h=>by cases h),(fun h=>by cases h),(fun h=>by cases h),(fun h=>by cases h),?_,(fun h=>by cases h),(fun h=>by cases h),trivial⟩
   ·exact fun _=>⟨rfl,rfl,fun a w2 K h=>bD rfl rfl Tryz.zeroValue191 aR h⟩
  ·refine dG ?_;refine⟨(fun _ h=>by cases h),(fun _ h=>by cases h),(fun _ h=>by cases h),(fun _ h=>by cases h),(fun _ h=>by cases h),(fun _ h=>by cases h),?_,(fun _ h=>by cases h),trivial⟩
   ·intro p hp;obtain rfl:5=p:=gJ hp;exact⟨rfl,rfl,⟨_,rfl⟩,aj rfl,fun a w2 b K hB hF hd hx hb h=>bQ rfl rfl bP hx (hd 3 _ rfl rfl rfl (aj rfl)) hb h⟩
  ·intro a w3 blk hB hF hS hv hfin dS;obtain⟨v5,Jt,v5u⟩:=hv 5 _ rfl rfl;have ha:=aO rfl rfl hF [_,_,_,_,_,_,undef,_] rfl ⟨hS 0 _ rfl rfl rfl,hS 1 _ rfl rfl rfl,hS 2 _ rfl rfl rfl,hS 3 _ rfl rfl rfl,hS 4 _ rfl rfl rfl,v5,trivial,hS 7 _ rfl rfl rfl,trivial⟩;have f5:=hfin 6 _ 5 rfl rfl;simp only[puts,Act.put,fB,fD,fF] at ha;subst ha;have V5:aK .i64 w3 (blk 5) 16 (bxF):=⟨_,f5⟩
   clear hS hv hfin dS hF v5 f5;replace hZ:=hZ.kept hB;replace h1:=h1.kept hB;replace aD:=aD.trans (hB.mono aD.size);obtain⟨x2,e2⟩:∃x,x=blk 5:=⟨_,rfl⟩
   rw[<-e2] at V5 ⊢;have h2:=V5;clear V5 hB e2 Jt v5u;go_upto_region 3 with(fail)
   refine dJ (n:=16) (fun i=>i==3) aQ aQ aQ aQ rfl
    (fun ii vv _=>(match ii with | 0=>vv=.agg (arr .i64 16 (bxF)) | 1=>vv=.agg (arr .i64 16 (byF)) | 2=>vv=.agg (arr .i64 64 (bF)) | _=>True))
    (fun w w'=>Below w.heap.size w w') (fun _ _ h=>h) (fun _ _ _ _ h _=>h)
    (fun _=>w.heap.size) (fun _=>(arr .i64 64 (fun _=>0))) (fun _=>(arr .i64 64 (bF)))
    (by intro i j _ _ dD jJ gW;simp only[beq_iff_eq] at dD jJ;omega)
    (by intro i _ dD;exact(hZ).row)
    ?_ ?_ ?_
   ·refine dG ?_;refine⟨?_,?_,?_,(aP),trivial⟩
    ·intro _ a w2 hB hF hd;exact aN <| aW (aF rfl dB rfl bP (hF.same 2 rfl) (h2.below hB h2.lt)) rfl
    ·intro _ a w2 hB hF hd;exact aN <| aW (aF rfl dB rfl bP (hF.same 1 rfl) (h1.below hB h1.lt)) rfl
    ·intro _ a w2 hB hF hd;refine aN <| aI _ _ _ rfl Tryz.call212 _ (args2 (hd 0 _ rfl rfl (aj rfl)) (hd 1 _ rfl rfl (aj rfl))) aR ((HMD.out w2).mono ?_);rintro e w3 ⟨rfl,hb⟩;exact⟨_,rfl,rfl,hb⟩
   ·refine dG ?_;refine⟨(aP),(aP),(aP),?_,trivial⟩
    ·intro _ a w1 w2 K hB hF hS hr hK;exact bG 193 _ _ rfl .i64 (w.heap.size) 64 (fun _=>0) (bF) Tryz.size193 (hF.same 0 rfl) (hS 2 _ rfl rfl) hr hK
   ·intro a wf w4 hB hF hS hfil;have other:∀{k:IntKind} {qb n:Nat} {f:Nat->Int},qb≠w.heap.size->aK k wf qb n f->aK k w4 qb n f:=fun {k qb n f} e0 hA=>hfil.arr (by intro i _ dD;simp only[kZ,beq_iff_eq] at dD;subst dD<;> ((try simp only[]);(try dsimp only);omega)) hA;have dU:∀{B:Nat} {w0:World},B<=w.heap.size->Below B w0 wf->Below B w0 w4:=fun {B w0} e0 hA=>hfil.below (by intro i _ dD;simp only[kZ,beq_iff_eq] at dD;subst dD<;> ((try simp only[]);(try dsimp only);omega)) hA;have V3:aK .i64 w4 (w.heap.size) 64 (bF):=hfil.at 3 aM rfl;have tO:=hfil.size;clear hfil;have ha:=aO rfl rfl hF [_,_,_,undef] rfl ⟨hS 0 _ rfl rfl,hS 1 _ rfl rfl,hS 2 _ rfl rfl,trivial,trivial⟩;simp only[puts,Act.put,fB,fD,fF] at ha;subst ha;clear hS hF;have hb:=dU (bH _) (aD.trans (hB.mono aD.size));go_wp2;exact bodyPost_ret (dI rfl _ _ .i64 w.heap.size 64 _ rfl V3 Jj rfl Tryz.size193) rfl ⟨rfl,hb⟩
end Go.Proofs.YtpcjekgfnfjbpaaGreat
namespace Go.Proofs.YtpcjekgfnfjbpaaGreat
open Go.RowKit Go.bI
theorem ajR {v:Value} {p:Ed C7} (n:Nat) (hn:n<2 ^ 256) (w:World) (hp:NPt v p):
  Calls Tryz.prog 158 #[v,.agg (arr .u8 32 (dg 256 (n:Int)))] w fun e w'=> ∃r,e=.returned r/\NPt r (p.mul n)/\Below w.heap.size w w':=by
 obtain⟨F,rfl,h⟩:=hp;refine(abV h n hn w).mono ?_;rintro e w' ⟨G,rfl,hG,hb⟩;exact⟨_,rfl,⟨G,rfl,hG⟩,hb⟩
theorem abW {v:Value} {p:Ed C7} (w:World) (hp:NPt v p):Calls Tryz.prog 161 #[v] w fun e w'=>e=.returned (.agg (arr .u8 32 (dg 256 (oP p))))/\Below w.heap.size w w':=by
 obtain⟨F,rfl,h⟩:=hp;exact Tt h w
end Go.Proofs.YtpcjekgfnfjbpaaGreat
