/- Part 43 of SuiteBytes; conditions: in each theorem. -/
import Derived.Test.YtpcjekgfnfjbpaaGreatPkSuiteBytes42
import Derived.Test.YtpcjekgfnfjbpaaGreatPkSuiteBytes15
set_option linter.unusedVariables false
set_option linter.unusedSimpArgs false
set_option maxRecDepth 100000
set_option maxHeartbeats 12800000
namespace Go.bC
open Go.RowKit
def rD (F:Nat->Int) (p:Ed C7):Prop:=∃f g h e X Y Z T,F=pt f g h e/\tV f g h e X Y Z T/\xM X Y Z T p
theorem xM.zero:xM 0 1 1 (0 * 1) .zero:=by
 refine⟨?_,?_,?_,?_⟩
 ·rw[fI];exact jN
 ·rw[gQ,fI];show (0:Fp)=0 * 1;grind
 ·rw[fI];show (1:Fp)=1 * 1;grind
 ·rw[Int.zero_mul,gQ,fI];show (0:Fp)=0 * 1 * 1;grind
theorem xM.neg {X Y Z T:Int} {p:Ed C7} (h:xM X Y Z T p):xM (-X) Y Z (-T) p.neg:=by
 obtain⟨h0,h1,h2,h3⟩:=h;refine⟨h0,?_,h2,?_⟩
 ·rw[ny,h1];show -(p.x * toF Z)= -p.x * toF Z;generalize p.x=a;generalize toF Z=b;grind
 ·rw[ny,h3];show -(p.x * p.y * toF Z)= -p.x * p.y * toF Z;generalize p.x=a;generalize p.y=c;generalize toF Z=b;grind
theorem rD.pick (b:Bool) {f g h e u v r s:Nat->Int} {X Y Z T U V W S:Int} {p q:Ed C7} (h1:tV f g h e X Y Z T) (h2:tV u v r s U V W S) (k1:xM X Y Z T p) (k2:xM U V W S q):rD (pt (bD b f u) (bD b g v) (bD b h r) (bD b e s)) (if b then q else p):=by
 cases b
 ·exact⟨f,g,h,e,X,Y,Z,T,rfl,h1,k1⟩
 ·exact⟨u,v,r,s,U,V,W,S,rfl,h2,k2⟩
theorem Uf (p:Ed C7) (N:Nat) (b:Bool) (hb:b=(N % 2==1)) {F G:Nat->Int}
  (h7:rD F (if b=true then (if b=true then p.mul (N / 2) else p.mul (N / 2+1)).add (if b=true then p.mul (N / 2+1) else p.mul (N / 2)) else (if b=true then p.mul (N / 2+1) else p.mul (N / 2)).add (if b=true then p.mul (N / 2+1) else p.mul (N / 2))))
  (h8:rD G (if b=true then (if b=true then p.mul (N / 2+1) else p.mul (N / 2)).add (if b=true then p.mul (N / 2+1) else p.mul (N / 2)) else (if b=true then p.mul (N / 2) else p.mul (N / 2+1)).add (if b=true then p.mul (N / 2+1) else p.mul (N / 2)))):
  rD F (p.mul N)/\rD G (p.mul (N+1)):=by
 obtain⟨M,hM⟩:∃M,M=N / 2:=⟨_,rfl⟩
 rw[<-hM] at h7 h8;cases b
 ·have hN:N=M+M:=by
   have:¬ N % 2=1:=by intro e;rw[e] at hb;exact absurd hb aN
   omega
  have h7':rD F ((p.mul M).add (p.mul M)):=h7;have h8':rD G ((p.mul (M+1)).add (p.mul M)):=h8;rw[<-Ed.mul_add] at h7' h8';rw[hN,show M+M+1=M+1+M by omega];exact⟨h7',h8'⟩
 ·have hN:N=M+(M+1):=by
   have:N % 2=1:=by have h:=hb.symm;rwa [beq_iff_eq] at h
   omega
  have h7':rD F ((p.mul M).add (p.mul (M+1))):=h7;have h8':rD G ((p.mul (M+1)).add (p.mul (M+1))):=h8;rw[<-Ed.mul_add] at h7' h8';rw[hN,show M+(M+1)+1=M+1+(M+1) by omega];exact⟨h7',h8'⟩
def vJ (p:Ed C7):Int:=((p.x.val:Nat):Int)
def OV (p:Ed C7):Int:=((p.y.val:Nat):Int)
def dB (p:Ed C7):Int:=OV p+(vJ p % 2) * 2 ^ 255
theorem mE (x:Fp):0<=((x.val:Nat):Int)/\((x.val:Nat):Int)<Pr:=by
 have:=x.isLt;rw[qz];omega
theorem wL {Y Z:Int} {y:Fp} (h0:toF Z≠0) (h:toF Y=y * toF Z):Y * Z ^ (PN - 2) % Pr=((y.val:Nat):Int):=by
 rw[<-gY];have e:toF (Y * Z ^ (PN - 2))=y:=by
  rw[fG,qC,h];have:=inv_mul h0
  generalize toF Z=z at *
  generalize inv z=i at *
  grind
 rw[e]
theorem Ch (Y:Int) (h0:0<=Y) (h1:Y<2 ^ 255):∀i,i<32->upd (dg 256 Y) 31 (dg 256 Y 31+128) i=dg 256 (Y+1 * 2 ^ 255) i:=by
 have key:∀i:Fin 32,upd (dg 256 Y) 31 (dg 256 Y 31+128) i.val=dg 256 (Y+1 * 2 ^ 255) i.val:=by
  intro ⟨i,hi⟩;have e:∀j,dg 256 (Y+1 * 2 ^ 255) j=(Y+1 * 2 ^ 255) / 256 ^ j % 256:=fun _=>rfl;have e':∀j,dg 256 Y j=Y / 256 ^ j % 256:=fun _=>rfl;rcases i with _ | _ | _ | _ | _ | _ | _ | _ | _ | _ | _ | _ | _ | _ | _ | _ | _ | _ | _ | _ | _ | _ | _ | _ | _ | _ | _ | _ | _ | _ | _ | _ | i
  all_goals first
   | omega
   | (simp only[upd,e,e'];simp;omega)
 exact fun i h=>key ⟨i,h⟩
theorem xV (Y:Int) (h0:0<=Y) (h1:Y<2 ^ 255):0<=dg 256 Y 31/\dg 256 Y 31<128:=by
 show 0<=Y / 256 ^ 31 % 256/\Y / 256 ^ 31 % 256<128;omega
theorem abN (x:Int) (h0:0<=x) (h1:x<128):bits .or .u8 x 128=x+128:=by
 obtain⟨n,rfl⟩:=IL h0;have key:∀n:Fin 128,bits .or .u8 ((n.val:Nat):Int) 128=(n.val:Int)+128:=by decide+kernel
 exact key ⟨n,by omega⟩
end Go.bC
namespace Go.bC
theorem wp_assign {P:Program} {o:Oper} {a:Act} {w:World} {K:Act->World->Prop} {Q:Exit->Act->World->Prop} (x:Operand) (d:Nat) (hop:o.op=.assign x) (hd:o.dst=some d) (h:K (a.put (some d) (a.eval x)) w):o.wp P a w K Q:=by
 rw[<-hd] at h;unfold Oper.wp execOp;simp only[hop];exact h
end Go.bC
namespace Go.bC
open Go.RowKit
theorem adx (p:Ed C7):p.x ^ 2 * (1+dE * p.y ^ 2)=p.y ^ 2 - 1:=by
 have ho:p.y ^ 2 - p.x ^ 2=1+dE * p.x ^ 2 * p.y ^ 2:=p.on
 generalize p.x=x at *
 generalize p.y=y at *
 generalize dE=d at *
 grind
theorem Nk (p:Ed C7):1+dE * p.y ^ 2≠0:=by
 intro h;have ho:p.y ^ 2 - p.x ^ 2=1+dE * p.x ^ 2 * p.y ^ 2:=p.on;have hd:dE= -1:=by
  generalize p.x=x at *
  generalize p.y=y at *
  generalize dE=d at *
  grind
 exact Wh iE (by rw[OH,hd])
theorem agB {x y d i:Fp} (h:x ^ 2 * (1+d * y ^ 2)=y ^ 2 - 1) (hi:(d * (y * y)+1) * i=1):x * x=(y * y - 1) * i:=by grind
theorem aaF (p:Ed C7):toF (vJ p)=p.x:=xW _
theorem agC (p:Ed C7):toF (OV p)=p.y:=xW _
def BX:Int:=15112221349535400772501151409588531511454012693041857206046113283949847762202
def BY:Int:=46316835694926478169428394003475163141307993866256225615783033603165251855960
theorem WJ:Cg (121666 * (BY * BY - BX * BX - 1)) (-121665 * (BX * BX * (BY * BY))):=by unfold Cg BX BY;decide+kernel
theorem Qt {x y d a b:Fp} (hd:d * b= -a) (hb:b≠0) (h:b * (y * y - x * x - 1)= -a * (x * x * (y * y))):y ^ 2 - x ^ 2=1+d * x ^ 2 * y ^ 2:=by
 refine jO hb ?_
 grind
noncomputable def Bp:Ed C7:=⟨toF BX,toF BY,Qt Wi (rY.2 aN) (by
 have h:=iA.2 WJ;simp only[fG,tY,ny,fI] at h;exact h)⟩
theorem alT:vJ Bp=BX:=by unfold vJ Bp;rw[gY];decide+kernel
theorem Fg:Cg (BY * 5) 4:=by unfold Cg BY;decide+kernel
end Go.bC
namespace Go.bC
def uF (X Y Z:Int) (p:Ed C7):Prop:=toF Z≠0/\toF X=p.x * toF Z/\toF Y=p.y * toF Z
theorem Tz {x1 y1 z1 x2 y2 z2 d sx sy A B C D:Fp} (hB:B=1+d * (x1 * x2 * (y1 * y2))) (hD:D=1 - d * (x1 * x2 * (y1 * y2))) (hA:A=x1 * y2+x2 * y1) (hC:C=y1 * y2+x1 * x2) (hsx:sx * B=A) (hsy:sy * D=C):
  let w:=z1 * z2
  let L:=w * w - d * ((x1 * z1 * (x2 * z2)) * (y1 * z1 * (y2 * z2)))
  let M:=w * w+d * ((x1 * z1 * (x2 * z2)) * (y1 * z1 * (y2 * z2)))
  let K:=(x1 * z1+y1 * z1) * (x2 * z2+y2 * z2) - x1 * z1 * (x2 * z2) - y1 * z1 * (y2 * z2)
  w * (L * K)=sx * (L * M)/\w * (M * (y1 * z1 * (y2 * z2)+x1 * z1 * (x2 * z2)))=sy * (L * M)/\L=w * w * D/\M=w * w * B:=by
 intro w L M K;have hL:L=w * w * D:=by show _= _;rw[hD];grind
 have hM:M=w * w * B:=by show _= _;rw[hB];grind
 have hK:K=w * A:=by show _= _;rw[hA];grind
 have hE:y1 * z1 * (y2 * z2)+x1 * z1 * (x2 * z2)=w * C:=by rw[hC];grind
 rw[hL,hM,hK,hE];clear hL hM hK hE hB hD hA hC L M K
 generalize w=v
 subst hsx;subst hsy;exact⟨by grind,by grind,rfl,rfl⟩
theorem uF.add {X Y Z U V R D:Int} {p q:Ed C7} (hp:uF X Y Z p) (hq:uF U V R q) (hD:toF D=dE):uF (raX X Y Z U V R D) (raY X Y Z U V R D) (raZ X Y Z U V R D) (p.add q):=by
 obtain⟨h0,h1,h2⟩:=hp;obtain⟨k0,k1,k2⟩:=hq;obtain⟨r1,r2,r3,r4⟩:=Tz (z1:=toF Z) (z2:=toF R) (d:=dE) rfl rfl rfl rfl (p.nu q) (p.ni q);unfold uF raX raY raZ raL raM raC;simp only[fG,oH,tY,h1,h2,k1,k2,hD];refine⟨?_,r1,r2⟩;rw[r3,r4];have hw:=eX h0 k0;exact eX (eX (eX hw hw) (p.jh q)) (eX (eX hw hw) (p.jZ q))
theorem uF.zero:uF 0 1 1 .zero:=by
 refine⟨?_,?_,?_⟩
 ·rw[fI];exact jN
 ·rw[gQ,fI];show (0:Fp)=0 * 1;grind
 ·rw[fI];show (1:Fp)=1 * 1;grind
theorem uF.base:uF BX (4 * 5 ^ (PN - 2)) 1 Bp:=by
 have hb:toF (4 * 5 ^ (PN - 2))=Bp.y:=by
  have h5:toF 5≠0:=rY.2 aN;have h:=iA.2 Fg;rw[fG] at h;have hi:=inv_mul h5;rw[fG,qC];show _=toF BY
  generalize toF 4=a at *
  generalize toF 5=b at *
  generalize toF BY=c at *
  generalize inv b=i at *
  grind
 refine⟨?_,?_,?_⟩
 ·rw[fI];exact jN
 ·rw[fI];show toF BX=toF BX * 1;generalize toF BX=x;grind
 ·rw[fI,hb];generalize Bp.y=y;grind
theorem uF.bytes {X Y Z:Int} {p:Ed C7} (h:uF X Y Z p):X * Z ^ (PN - 2) % Pr=vJ p/\Y * Z ^ (PN - 2) % Pr=OV p:=⟨wL h.1 h.2.1,wL h.1 h.2.2⟩
theorem fB.other {w:World} {b b' j:Nat} {cs:Array Value} (h:fB w b cs) (hb:b≠b') (u:Value):fB (w.setCell ⟨b',j,none⟩ u) b cs:=by
 obtain⟨T,h⟩:=h;exact⟨T,by rw[heap_setCell_other w ⟨b',j,none⟩ b u hb];exact h⟩
def qy:ByteArray:=⟨([49,53,49,49,50,50,50,49,51,52,57,53,51,53,52,48,48,55,55,50,53,48,49,49,53,49,52,48,57,53,56,56,53,51,49,53,49,49].append [52,53,52,48,49,50,54,57,51,48,52,49,56,53,55,50,48,54,48,52,54,49,49,51,50,56,51,57,52,57,56,52,55,55,54,50,50,48,50]).toArray⟩
theorem ru:qy.size=77:=by decide+kernel
theorem Rw:∀i,i<77->48<=jJ qy i/\jJ qy i<=57:=by
 have key:∀i:Fin 77,48<=jJ qy i.val/\jJ qy i.val<=57:=by decide+kernel
 exact fun i h=>key ⟨i,h⟩
def TT:Nat->Int
 | 0=>0
 | k+1=>10 * TT k+(jJ qy k - 48)
theorem Ye:TT 77=BX:=by decide+kernel
end Go.bC
namespace Go.bC
open Go.RowKit
def FH (w:World) (a b c:Value) (p:Ed C7):Prop:=∃A B C,uF A B C p/\Rd .i64 w a 16 (dg 65536 (A % Pr))/\Rd .i64 w b 16 (dg 65536 (B % Pr))/\Rd .i64 w c 16 (dg 65536 (C % Pr))
theorem FH.below {w w':World} {a b c:Value} {p:Ed C7} (h:FH w a b c p) (hb:Below w.heap.size w w'):FH w' a b c p:=by
 obtain⟨A,B,C,h0,h1,h2,h3⟩:=h;exact⟨A,B,C,h0,h1.below hb,h2.below hb,h3.below hb⟩
theorem FH.slices {w:World} {a b c:Value} {p:Ed C7} (h:FH w a b c p):(∃r n k,a=.slice r n k)/\(∃r n k,b=.slice r n k)/\(∃r n k,c=.slice r n k):=by
 obtain⟨A,B,C,h0,h1,h2,h3⟩:=h;exact⟨h1.isSlice,h2.isSlice,h3.isSlice⟩
theorem Rd.jr {k:IntKind} {w:World} {v:Value} {n:Nat} {f:Nat->Int} {b:Nat} {cs:Array Value} (h:Rd k w v n f) (hr:fB w b cs) (hcs:∀(i:Nat) (x:Value),cs[i]? =some x->∃a n c,x=Value.slice a n c) (cs':Array Value):Rd k (w.setRow b cs') v n f:=by
 obtain⟨a,c,rfl,h1,h2,h3,h4⟩:=h;refine⟨a,c,rfl,h1,h2,h3,fun hn=>?_⟩;obtain⟨b',o,rfl,hlt,hc⟩:=h4 hn;have gB:b'≠b:=by
  rintro rfl;obtain⟨T,hT⟩:=hr;have h0:=hc 0 hn;rw[cell_of_row w b' _ _ T (0,0) hT] at h0;obtain⟨_,_,_,e⟩:=hcs _ _ h0;cases e
 refine⟨b',o,rfl,by rw[setRow_size];exact hlt,fun i hi=>?_⟩;rw[<-hc i hi];exact World.cell?_of_block (setRow_other w b b' _ gB)
theorem FH.jr {w:World} {a b c x y z:Value} {p:Ed C7} {g:Nat} (h:FH w a b c p) (hr:fB w g #[x,y,z]) (h1:∃r n k,x=.slice r n k) (h2:∃r n k,y=.slice r n k) (h3:∃r n k,z=.slice r n k) (cs':Array Value):FH (w.setRow g cs') a b c p:=by
 obtain⟨A,B,C,h0,k1,k2,k3⟩:=h;exact⟨A,B,C,h0,k1.jr hr (kR h1 h2 h3) _,k2.jr hr (kR h1 h2 h3) _,k3.jr hr (kR h1 h2 h3) _⟩
theorem YA (p:Ed C7) (n m:Nat) (h:n / 2 ^ m % 2=1):(p.mul (n % 2 ^ m)).add (p.mul (2 ^ m))=p.mul (n % 2 ^ (m+1)):=by
 rw[<-Ed.mul_add]
 congr 1
 rw[Nat.mod_pow_succ,h];omega
theorem Qz (p:Ed C7) (n m:Nat) (h:¬ n / 2 ^ m % 2=1):p.mul (n % 2 ^ m)=p.mul (n % 2 ^ (m+1)):=by
 congr 1
 rw[Nat.mod_pow_succ,show n / 2 ^ m % 2=0 by omega];omega
theorem Oz (p:Ed C7) (m:Nat):(p.mul (2 ^ m)).add (p.mul (2 ^ m))=p.mul (2 ^ (m+1)):=by
 rw[<-Ed.mul_add]
 congr 1
 rw[Nat.pow_succ];omega
theorem OD (n:Nat) (hn:n<2 ^ 256):∀(k m:Nat),k+m=32->(∀j,m<=j->j<32->dg 256 (n:Int) j=0)->n % 2 ^ (8 * m)=n
 | 0,m,hm,_=>by rw[show m=32 by omega];exact Nat.mod_eq_of_lt hn
 | k+1,m,hm,h=>by
  have ih:=OD n hn k (m+1) aH (fun j hj hj'=>h j aH hj');have h0:=h m (bB _) aH;have e:n / 2 ^ (8 * m) % 256=0:=by
   have h1:(((n / 256 ^ m % 256:Nat)):Int)=0:=by rw[<-h0];unfold dg;simp
   rw[Nat.pow_mul];exact Int.ofNat.inj h1
  rw[show 8 * (m+1)=8 * m+8 by omega,Nat.pow_add,Nat.mod_mul] at ih;rw[show (2:Nat) ^ 8=256 by decide,e] at ih;omega
section
variable {P : Program} {ops : Array Oper} {Q : Exit -> Act -> World -> Prop}
end
def uG (v:Value) (p:Ed C7):Prop:=∃F,v=.agg (arr .i64 64 F)/\rD F p
theorem uG.keep {E:Prop} {v:Value} {p:Ed C7} (h:uG v p) (_:E):uG v p:=h
def CV (w:World) (v:Value) (p:Ed C7):Prop:=∃r1 n1 c1 r2 n2 c2 r3 n3 c3,v=.agg #[.slice r1 n1 c1,.slice r2 n2 c2,.slice r3 n3 c3] /\FH w (.slice r1 n1 c1) (.slice r2 n2 c2) (.slice r3 n3 c3) p
theorem CV.below {w w':World} {v:Value} {p:Ed C7} (h:CV w v p) (hb:Below w.heap.size w w'):CV w' v p:=by
 obtain⟨r1,n1,c1,r2,n2,c2,r3,n3,c3,e,h⟩:=h;exact⟨r1,n1,c1,r2,n2,c2,r3,n3,c3,e,h.below hb⟩
theorem CV.of {w:World} {a b c:Value} {p:Ed C7} (h:FH w a b c p):CV w (.agg #[a,b,c]) p:=by
 obtain⟨⟨a1,a2,a3,rfl⟩,⟨b1,b2,b3,rfl⟩,⟨c1,c2,c3,rfl⟩⟩:=h.slices;exact⟨_,_,_,_,_,_,_,_,_,rfl,h⟩
end Go.bC
namespace Go.bC
theorem WL (x:Int) (h0:0<=x) (h1:x<256):bits .and .u8 x 128=x / 128 * 128:=by
 obtain⟨n,rfl⟩:=IL h0;have key:∀n:Fin 256,bits .and .u8 ((n.val:Nat):Int) 128=(n.val:Int) / 128 * 128:=by decide+kernel
 exact key ⟨n,by omega⟩
theorem WM (x:Int) (h0:0<=x) (h1:x<256):bits .and .u8 x 127=x % 128:=by
 obtain⟨n,rfl⟩:=IL h0;have key:∀n:Fin 256,bits .and .u8 ((n.val:Nat):Int) 127=(n.val:Int) % 128:=by decide+kernel
 exact key ⟨n,by omega⟩
theorem Yq (o d x:Fp) (ho:o≠0) (hx:x=0) (h:o+d * (x * x)=0):False:=by
 have e:o+d * (x * x)=o:=by rw[hx];clear h ho;grind
 exact ho (e.symm.trans h)
theorem EG (y:Fp):1+dE * (y * y)≠0:=by
 intro h;have h1:=jN;have hy:y≠0:=by
  intro hy;exact Yq 1 dE y h1 hy h
 have hi:=inv_mul hy
 apply Wh (iE * inv y)
 have hs:=OH
 generalize dE=d at *
 generalize iE=i at *
 generalize inv y=z at *
 clear h1
 grind
theorem afd {x y d i:Fp} (h:x * x=(y * y - 1) * i) (hi:(d * (y * y)+1) * i=1):y ^ 2 - x ^ 2=1+d * x ^ 2 * y ^ 2:=by grind
theorem Az {A:Int} (h0:0<=A) (h1:A<2 ^ 256):A=A % 2 ^ 255+A / 2 ^ 255 * 2 ^ 255/\0<=A % 2 ^ 255/\A % 2 ^ 255<2 ^ 255/\(A / 2 ^ 255=0\/A / 2 ^ 255=1):=by omega
theorem abY {A:Int} (h0:0<=A) (h1:A<2 ^ 256):∀i,i<32->upd (dg 256 A) 31 (dg 256 A 31 % 128) i=dg 256 (A % 2 ^ 255) i:=by
 intro i hi;obtain⟨e,y0,y1,hb⟩:=Az h0 h1;obtain⟨Y,hY⟩:∃Y,Y=A % 2 ^ 255:=⟨_,rfl⟩
 rw[<-hY] at e y0 y1 ⊢;have ht:=xV Y y0 y1;rcases hb with hb | hb
 ·rw[hb] at e;have e':A=Y:=by omega
  rw[e'];unfold upd
  split
  ·rename_i h;subst h;omega
  ·rfl
 ·rw[hb] at e;have hh:=Ch Y y0 y1;rw[<-e] at hh;have h31:=hh 31 aN;have hi':=hh i hi;unfold upd at *
  split
  ·rename_i h;subst h
   rw[if_pos rfl] at h31;omega
  ·rename_i h
   rw[if_neg h] at hi';exact hi'.symm
theorem abr {A:Int} (h0:0<=A) (h1:A<2 ^ 256):dg 256 A 31 / 128=A / 2 ^ 255:=by
 show A / 256 ^ 31 % 256 / 128=A / 2 ^ 255;omega
def VZ:Nat:=37095705934669439343138083508754565189542113879843219016388785533085940283555
theorem SK:toF (VZ:Int)=dE:=by
 have h:Cg ((VZ:Int) * 121666) (-121665):=by unfold Cg;decide+kernel
 have h2:=iA.2 h;rw[fG,ny] at h2;exact jO (rY.2 aN) (h2.trans Wi.symm)
def nR (x y z u v r:Nat):Nat × Nat × Nat:=
 let w:=nM z r
 let c:=nM x u
 let e:=nM y v
 let ww:=nM w w
 let f:=nM VZ (nM c e)
 let l:=nS ww f
 let m:=nA ww f
 let k:=nS (nS (nM (nA x y) (nA u v)) c) e
 (nM w (nM l k),nM w (nM m (nA e c)),nM l m)
def uE (x y z:Nat) (p:Ed C7):Prop:=∃X Y Z,jW x X/\jW y Y/\jW z Z/\uF X Y Z p
theorem uE.add {x y z u v r:Nat} {p q:Ed C7} (hp:uE x y z p) (hq:uE u v r q):uE (nR x y z u v r).1 (nR x y z u v r).2.1 (nR x y z u v r).2.2 (p.add q):=by
 obtain⟨X,Y,Z,hx,hy,hz,h1⟩:=hp;obtain⟨U,V,R,hu,hv,hr,h2⟩:=hq;have hd:jW VZ VZ:=⟨by decide,rfl⟩
 have w:=hz.mul hr;have c:=hx.mul hu;have e:=hy.mul hv;have f:=hd.mul (c.mul e);have l:=(w.mul w).sub f;have m:=(w.mul w).add f;have k:=(((hx.add hy).mul (hu.add hv)).sub c).sub e;exact⟨_,_,_,w.mul (l.mul k),w.mul (m.mul (e.add c)),l.mul m,h1.add h2 SK⟩
def bX:Nat:=15112221349535400772501151409588531511454012693041857206046113283949847762202
def bY:Nat:=46316835694926478169428394003475163141307993866256225615783033603165251855960
theorem uE.base:uE bX bY 1 Bp:=by
 refine⟨BX,BY,1,⟨by decide,rfl⟩,⟨by decide,rfl⟩,⟨by decide,rfl⟩,?_,?_,?_⟩
 ·rw[fI];exact jN
 ·rw[fI];show toF BX=toF BX * 1;generalize toF BX=x;grind
 ·rw[fI];show toF BY=toF BY * 1;generalize toF BY=x;grind
def GD (n:Nat):Nat->Nat->Nat->Nat->Nat × Nat × Nat
 | 0,x,y,z=>(x,y,z)
 | k+1,x,y,z=>if n / 2 ^ k % 2=1 then GD n k (nR (nR x y z x y z).1 (nR x y z x y z).2.1 (nR x y z x y z).2.2 bX bY 1).1 (nR (nR x y z x y z).1 (nR x y z x y z).2.1 (nR x y z x y z).2.2 bX bY 1).2.1 (nR (nR x y z x y z).1 (nR x y z x y z).2.1 (nR x y z x y z).2.2 bX bY 1).2.2 else GD n k (nR x y z x y z).1 (nR x y z x y z).2.1 (nR x y z x y z).2.2
theorem uE.ord {n:Nat}:∀(k x y z:Nat),uE x y z (Bp.mul (n / 2 ^ k))->uE (GD n k x y z).1 (GD n k x y z).2.1 (GD n k x y z).2.2 (Bp.mul n)
 | 0,_,_,_,h=>by rw[Nat.pow_zero,Nat.div_one] at h;exact h
 | k+1,x,y,z,h=>by
  unfold GD;have h2:=h.add h;rw[<-Ed.mul_add] at h2;have hq:n / 2 ^ (k+1)=n / 2 ^ k / 2:=by rw[Nat.pow_succ,Nat.div_div_eq_div_mul]
  by_cases hb:n / 2 ^ k % 2=1
  ·rw[if_pos hb];have h3:=h2.add uE.base;rw[show (Bp.mul (n / 2 ^ (k+1)+n / 2 ^ (k+1))).add Bp=Bp.mul (n / 2 ^ k) by
    rw[<-show Bp.mul (n / 2 ^ (k+1)+n / 2 ^ (k+1)+1)=(Bp.mul (n / 2 ^ (k+1)+n / 2 ^ (k+1))).add Bp from by rw[Ed.mul_add,Ed.mul_one],show n / 2 ^ (k+1)+n / 2 ^ (k+1)+1=n / 2 ^ k by omega]] at h3
   exact uE.ord k _ _ _ h3
  ·rw[if_neg hb];rw[show n / 2 ^ (k+1)+n / 2 ^ (k+1)=n / 2 ^ k by omega] at h2;exact uE.ord k _ _ _ h2
def jo:Nat:=2 ^ 252+27742317777372353535851937790883648493
theorem wO:(GD jo 253 0 1 1).1=0/\(GD jo 253 0 1 1).2.1=(GD jo 253 0 1 1).2.2:=by decide+kernel
theorem uE.zero:uE 0 1 1 .zero:=⟨0,1,1,⟨by decide,rfl⟩,⟨by decide,rfl⟩,⟨by decide,rfl⟩,uF.zero⟩
theorem NH:Bp.mul jo=.zero:=by
 have h:=uE.ord (n:=jo) 253 0 1 1 (by rw[show jo / 2 ^ 253=0 by decide];exact uE.zero);obtain⟨X,Y,Z,hx,hy,hz,h0,h1,h2⟩:=h;rw[wO.1] at hx;rw[wO.2] at hy;have ex:toF X=0:=by rw[<-gQ];exact iA.2 hx.2.symm
 have ey:toF Y=toF Z:=iA.2 (hy.2.symm.trans hz.2);rw[ex] at h1;rw[ey] at h2;refine Ed.ext ?_ ?_
 ·refine jO h0 ?_;rw[<-h1];show (0:Fp)=0 * toF Z;generalize toF Z=t;grind
 ·refine jO h0 ?_;rw[<-h2];show toF Z=1 * toF Z;generalize toF Z=t;grind
end Go.bC
namespace Go.Proofs.YtpcjekgfnfjbpaaGreat
open Go.RowKit Go.bC Go.ChangeShapes
attribute [local go_sem ↓] Go.wp_at_zero Go.wp_at_succ
abbrev Iu (F:Nat->Int):Value:=.agg (arr .i64 64 F)
theorem Ou {A B:Nat->Int} {p q:Ed C7} (hA:rD A p) (hB:rD B q):∃F,rD F (p.add q)/\∀w,Calls Tryz.prog 221 #[Iu A,Iu B,El zK] w fun e w'=>e=.returned (Iu F)/\Below w.heap.size w w':=by
 obtain⟨f,g,h,e,X,Y,Z,T,rfl,h1,h2⟩:=hA;obtain⟨u,v,r,s,U,V,W,S,rfl,k1,k2⟩:=hB;exact⟨_,⟨_,_,_,_,_,_,_,_,rfl,tV.sum h1 k1 OT,h2.sum k2 SI⟩,fun w=>EB f g h e u v r s zK X Y Z T U V W S _ h1 k1 OT w⟩
theorem Yn {A B:Nat->Int} {p q:Ed C7} (hA:rD A p) (hB:rD B q):∃F,rD F (p.add q)/\∀w,Calls Tryz.prog 159 #[Iu A,Iu B] w fun e w'=>e=.returned (Iu F)/\Below w.heap.size w w':=by
 obtain⟨f,g,h,e,X,Y,Z,T,rfl,h1,h2⟩:=hA;obtain⟨u,v,r,s,U,V,W,S,rfl,k1,k2⟩:=hB;exact⟨_,⟨_,_,_,_,_,_,_,_,rfl,tV.sum h1 k1 OT,h2.sum k2 SI⟩,fun w=>Qn f g h e u v r s X Y Z T U V W S h1 k1 w⟩
theorem Yl {A:Nat->Int} {p:Ed C7} (hA:rD A p):∃F,rD F p.neg/\∀w,Calls Tryz.prog 160 #[Iu A] w fun e w'=>e=.returned (Iu F)/\Below w.heap.size w w':=by
 obtain⟨f,g,h,e,X,Y,Z,T,rfl,h1,h2⟩:=hA;exact⟨_,⟨_,_,_,_,_,_,_,_,rfl,⟨h1.1.iJ,h1.2.1,h1.2.2.1,h1.2.2.2.iJ⟩,h2.neg⟩,fun w=>Qm f g h e X Y Z T h1 w⟩
theorem JU (b:Bool) {A B:Nat->Int} {p q:Ed C7} (hA:rD A p) (hB:rD B q):∃F G,rD F (if b then q else p)/\rD G (if b then p else q)/\∀w,Calls Tryz.prog 220 #[Iu A,Iu B,.bool b] w fun e w'=>e=.returned (.tuple #[Iu F,Iu G])/\Below w.heap.size w w':=by
 obtain⟨f,g,h,e,X,Y,Z,T,rfl,h1,h2⟩:=hA;obtain⟨u,v,r,s,U,V,W,S,rfl,k1,k2⟩:=hB;exact⟨_,_,rD.pick b h1 k1 h2 k2,rD.pick b k1 h1 k2 h2,fun w=>Dz b f g h e u v r s X Y Z T U V W S h1 k1 w⟩
theorem Ms:∃F,rD F .zero/\∀w,Calls Tryz.prog 219 #[] w fun e w'=>e=.returned (Iu F)/\Below w.heap.size w w':=
 ⟨_,⟨_,_,_,_,_,_,_,_,rfl,⟨KH,rM,rM,KH.aU rM⟩,xM.zero⟩,fun w=>Gy w⟩
theorem Ym {A:Nat->Int} {p:Ed C7} (hp:rD A p) (n:Nat) (hn:n<2 ^ 256) (w:World):
  Calls Tryz.prog 158 #[Iu A,.agg (arr .u8 32 (dg 256 (n:Int)))] w fun e w'=> ∃F,e=.returned (Iu F)/\rD F (p.mul n)/\Below w.heap.size w w':=by
 have Sk:=ak hp;obtain⟨f,g,h,e,X,Y,Z,T,hA0,h1,h2⟩:=hp;have HP:=ak h1;have HZ0:Hid (¬ Z % Pr=0 % Pr):=fun e=>h2.1 (by rw[<-gQ];exact iA.2 e);have HA0:=ak hA0;obtain⟨FN,hFN,hNO⟩:=Ms;have Xl:=ak hNO;have HFN:=ak hFN;obtain⟨N,hN⟩:∃N,N=(n:Int):=⟨_,rfl⟩
 have Ll:=ak hN;rw[<-hN];have aaQ:=ak hn;have HM0:Hid (p.mul (n / 2 ^ (256 - 0))=.zero):=by
  unfold Hid;rw[Nat.sub_zero,Nat.div_eq_of_lt hn];rfl
 have HM1:Hid (p.mul (n / 2 ^ (256 - 0)+1)=p):=by
  unfold Hid;rw[Nat.sub_zero,Nat.div_eq_of_lt hn];exact p.mul_one
 obtain⟨dd,hdd⟩:∃x,x=zK:=⟨_,rfl⟩
 have Xp:=ak hdd;have alO:Hid (∀w,Calls Tryz.prog 218 #[.agg (arr .i64 16 iU),.agg (arr .i64 16 iU)] w fun e w'=>e=.returned (.agg (arr .i64 16 dd))/\Below w.heap.size w w'):=fun w=>by rw[hdd];exact gG _ _ _ _ jF jF w
 clear h1 h2 hA0 hNO hFN hN hdd hn
 go_enter Tryz.func158,Tryz.ntmps158
 go_upto_region 1 with(fail)
 refine aJ (fun w1=>aQ .i64 w1 w.heap.size 64 A/\aQ .u8 w1 (w.heap.size+1) 32 (dg 256 N)/\aQ .i64 w1 (w.heap.size+2) 64 (fun _=>0)/\Below w.heap.size w w1)
  ⟨.alloc (.alloc (bU rfl rfl) _) _,.alloc (bU (by first | omega | (simp<;> omega)) rfl) _,bU (by first | omega | (simp<;> omega)) (by rfl),(((bT _ _).alloc (bB _) _).alloc (by first | omega | (simp<;> omega)) _).alloc (by first | omega | (simp<;> omega)) _⟩ ?_
 rintro w1 ⟨hA,hNb,hZ,aA⟩;have hAp:=hA;rw[HA0.out] at hAp
 refine aX (n:=59) aS aS aS rfl
  (fun ii vv _=>(match ii with | 0=>vv=.pointer (some ⟨w.heap.size,32,none⟩) | 1=>vv=.agg (arr .i64 16 (h)) | 2=>vv=.agg (arr .i64 16 (aW 0)) | 3=>vv=.bool false | _=>True))
  (fun w w'=>Below w.heap.size w w') (fun _ _ h=>h) (fun _ _ _ _ h _=>h) ?_ ?_
 ·refine cB ?_;refine⟨?_,?_,?_,?_,trivial⟩
  ·intro a w2 hB hF hd;refine aO <| aT (bP (m:=15) (k:=32) rfl (hF.same 2 rfl) aS) ?_;exact rfl
  ·intro a w2 hB hF hd;exact aO <| aT (bR rfl (hd 0 _ rfl (aj rfl)) cZ rfl bQ (fun i hi=>(hB.cell (p:=⟨w.heap.size,32+i,none⟩) hAp.lt).trans (Ml hAp i hi))) rfl
  ·intro a w2 hB hF hd;refine aO <| aD _ _ _ rfl Tryz.call200 _ (args1 rfl) aR ((eO 0 w2).mono ?_);rintro e w3 ⟨rfl,hb⟩;exact⟨_,rfl,rfl,hb⟩
  ·intro a w2 hB hF hd;refine aO <| aD _ _ _ rfl Tryz.call210 _ (args2 (hd 1 _ rfl (aj rfl)) (hd 2 _ rfl (aj rfl))) aR ((qV _ _ _ _ HP.out.2.2.1 KH HZ0.out w2).mono ?_);rintro e w3 ⟨rfl,hb⟩;exact⟨_,rfl,rfl,hb⟩
 ·intro a w2 hB hF hS;have ha:=aP rfl rfl hF [_,_,_,_] rfl ⟨hS 0 _ rfl,hS 1 _ rfl,hS 2 _ rfl,hS 3 _ rfl,trivial⟩;simp only[puts,Act.put,dK,dL,dM] at ha;subst ha;clear hS hF;replace hA:=hA.kept hB;replace hNb:=hNb.kept hB;replace hZ:=hZ.kept hB;replace aA:=aA.trans (hB.mono aA.size);clear hB hAp;go_upto_region 3 with(fail)
  refine bG (n:=59) aS aS aS rfl
   (gZ [(2,1)]) (eZ [(2,1)]) (fun _=>arr .i64 16 (fun _=>0)) (fun _=>(arr .i64 16 (iU))) (fun _=>191) (fun _=>5)
   (fun ii vv _=>(match ii with | 0=>vv=.agg (arr .i64 16 (iU)) | _=>True)) (fun _ _=>True) (fun _ _ _=>trivial) (fun _ _ _ _ _ _ _=>trivial) (fun _ _ _ _ h _=>h)
   (fJ rfl) (dU rfl) ?_ ?_ ?_ ?_
  ·refine cB ?_;refine⟨?_,(fun h=>by cases h),(fun _ h=>by cases h),trivial⟩
   ·intro _ _ a w2 hB hF hd;refine aO <| aD _ _ _ rfl Tryz.call217 _ mZ aR ((sN w2).mono ?_);rintro e w3 ⟨rfl,hb⟩;exact⟨_,rfl,rfl,hb⟩
  ·refine cB ?_;refine⟨(fun h=>by cases h),?_,(fun h=>by cases h),trivial⟩
   ·exact fun _=>⟨rfl,rfl,fun a w2 K h=>aZ rfl rfl Tryz.zeroValue191 aR h⟩
  ·refine cB ?_;refine⟨(fun _ h=>by cases h),(fun _ h=>by cases h),?_,trivial⟩
   ·intro p hp;obtain rfl:1=p:=iy hp;exact⟨rfl,rfl,⟨_,rfl⟩,aj rfl,fun a w2 b K hB hF hd hx hb h=>bJ rfl rfl bQ hx (hd 0 _ rfl rfl rfl (aj rfl)) hb h⟩
  ·intro a w3 blk hB hF hS hv hfin dw;obtain⟨v1,v1l,v1u⟩:=hv 1 _ rfl rfl;have ha:=aP rfl rfl hF [_,_,undef] rfl ⟨hS 0 _ rfl rfl rfl,v1,trivial,trivial⟩;have f1:=hfin 2 _ 1 rfl rfl;simp only[puts,Act.put,dK,dL,dM] at ha;subst ha;have V1:aQ .i64 w3 (blk 1) 16 (iU):=⟨_,f1⟩
   clear hS hv hfin dw hF v1 f1;replace hA:=hA.kept hB;replace hNb:=hNb.kept hB;replace hZ:=hZ.kept hB;replace aA:=aA.trans (hB.mono aA.size);obtain⟨x5,e5⟩:∃x,x=blk 1:=⟨_,rfl⟩
   rw[<-e5] at V1 ⊢;have h5:=V1;clear V1 hB e5 v1l v1u;go_upto_region 4 with(fail)
   refine bG (n:=59) aS aS aS rfl
    (gZ [(4,3)]) (eZ [(4,3)]) (fun _=>arr .i64 16 (fun _=>0)) (fun _=>(arr .i64 16 (dd))) (fun _=>191) (fun _=>6)
    (fun ii vv _=>(match ii with | 0 | 1=>vv=.agg (arr .i64 16 (iU)) | 2=>vv=.agg (arr .i64 16 (dd)) | _=>True)) (fun _ _=>True) (fun _ _ _=>trivial) (fun _ _ _ _ _ _ _=>trivial) (fun _ _ _ _ h _=>h)
    (fJ rfl) (dU rfl) ?_ ?_ ?_ ?_
   ·refine cB ?_;refine⟨?_,?_,?_,(fun h=>by cases h),(fun _ h=>by cases h),trivial⟩
    ·intro _ _ a w2 hB hF hd;exact aO <| aT (aF rfl cZ rfl bQ (hF.same 5 rfl) (h5.below hB h5.lt)) rfl
    ·intro _ _ a w2 hB hF hd;exact aO <| aT (aF rfl cZ rfl bQ (hF.same 5 rfl) (h5.below hB h5.lt)) rfl
    ·intro _ _ a w2 hB hF hd;refine aO <| aD _ _ _ rfl Tryz.call218 _ (args2 (hd 0 _ rfl rfl rfl (aj rfl)) (hd 1 _ rfl rfl rfl (aj rfl))) aR ((alO.out w2).mono ?_);rintro e w3 ⟨rfl,hb⟩;exact⟨_,rfl,rfl,hb⟩
   ·refine cB ?_;refine⟨(fun h=>by cases h),(fun h=>by cases h),(fun h=>by cases h),?_,(fun h=>by cases h),trivial⟩
    ·exact fun _=>⟨rfl,rfl,fun a w2 K h=>aZ rfl rfl Tryz.zeroValue191 aR h⟩
   ·refine cB ?_;refine⟨(fun _ h=>by cases h),(fun _ h=>by cases h),(fun _ h=>by cases h),(fun _ h=>by cases h),?_,trivial⟩
    ·intro p hp;obtain rfl:3=p:=iy hp;exact⟨rfl,rfl,⟨_,rfl⟩,aj rfl,fun a w2 b K hB hF hd hx hb h=>bJ rfl rfl bQ hx (hd 2 _ rfl rfl rfl (aj rfl)) hb h⟩
   ·intro a w4 blk hB hF hS hv hfin dw;obtain⟨v3,Ah,Le⟩:=hv 3 _ rfl rfl;have ha:=aP rfl rfl hF [_,_,_,_,undef] rfl ⟨hS 0 _ rfl rfl rfl,hS 1 _ rfl rfl rfl,hS 2 _ rfl rfl rfl,v3,trivial,trivial⟩;have f3:=hfin 4 _ 3 rfl rfl;simp only[puts,Act.put,dK,dL,dM] at ha;subst ha;have V3:aQ .i64 w4 (blk 3) 16 (dd):=⟨_,f3⟩
    clear hS hv hfin dw hF v3 f3;have hz4:=hZ.lt;replace hA:=hA.kept hB;replace hNb:=hNb.kept hB;replace hZ:=hZ.kept hB;replace aA:=aA.trans (hB.mono aA.size);obtain⟨x6,e6⟩:∃x,x=blk 3:=⟨_,rfl⟩
    rw[<-e6] at V3 Ah ⊢;have h6:=V3;have l6:w.heap.size+2<x6:=by omega
    clear V3 hB e6 Ah Le h5 hz4;go_upto_region 5 with(fail)
    refine bG (n:=59) aS aS aS rfl
     (gZ [(4,2),(5,3)]) (eZ [(4,2),(5,3)]) (fun _=>arr .i64 64 (fun _=>0)) (fun i=>match i with | 2=>(arr .i64 64 (FN)) | 3=>(arr .i64 64 (A)) | _=> #[]) (fun _=>193) (fun i=>match i with | 2=>7 | 3=>8 | _=>0)
     (fun ii vv _=>(match ii with | 0=>vv=.agg (arr .i64 64 (FN)) | 1=>vv=.agg (arr .i64 64 (A)) | _=>True)) (fun _ _=>True) (fun _ _ _=>trivial) (fun _ _ _ _ _ _ _=>trivial) (fun _ _ _ _ h _=>h)
     (fJ rfl) (dU rfl) ?_ ?_ ?_ ?_
    ·refine cB ?_;refine⟨?_,?_,(fun h=>by cases h),(fun h=>by cases h),(fun _ h=>by cases h),(fun _ h=>by cases h),trivial⟩
     ·intro _ _ a w2 hB hF hd;refine aO <| aD _ _ _ rfl Tryz.call219 _ mZ aR ((Xl.out w2).mono ?_);rintro e w3 ⟨rfl,hb⟩;exact⟨_,rfl,rfl,hb⟩
     ·intro _ _ a w2 hB hF hd;exact aO <| aT (aF rfl vH rfl Tryz.size193 (hF.same 2 rfl) (hA.below hB hA.lt)) rfl
    ·refine cB ?_;refine⟨(fun h=>by cases h),(fun h=>by cases h),?_,?_,(fun h=>by cases h),(fun h=>by cases h),trivial⟩
     ·exact fun _=>⟨rfl,rfl,fun a w2 K h=>aZ rfl rfl Tryz.zeroValue193 aR h⟩
     ·exact fun _=>⟨rfl,rfl,fun a w2 K h=>aZ rfl rfl Tryz.zeroValue193 aR h⟩
    ·refine cB ?_;refine⟨(fun _ h=>by cases h),(fun _ h=>by cases h),(fun _ h=>by cases h),(fun _ h=>by cases h),?_,?_,trivial⟩
     ·intro p hp;obtain rfl:2=p:=iy hp;exact⟨rfl,rfl,⟨_,rfl⟩,aj rfl,fun a w2 b K hB hF hd hx hb h=>bJ rfl rfl Tryz.size193 hx (hd 0 _ rfl rfl rfl (aj rfl)) hb h⟩
     ·intro p hp;obtain rfl:3=p:=iy hp;exact⟨rfl,rfl,⟨_,rfl⟩,aj rfl,fun a w2 b K hB hF hd hx hb h=>bJ rfl rfl Tryz.size193 hx (hd 1 _ rfl rfl rfl (aj rfl)) hb h⟩
    ·intro a w5 blk hB hF hS hv hfin dw;obtain⟨v2,Px,XJ⟩:=hv 2 _ rfl rfl;obtain⟨v3,Ah,Le⟩:=hv 3 _ rfl rfl;have ha:=aP rfl rfl hF [_,_,_,_,undef,undef] rfl ⟨hS 0 _ rfl rfl rfl,hS 1 _ rfl rfl rfl,v2,v3,trivial,trivial,trivial⟩;have f2:=hfin 4 _ 2 rfl rfl;have f3:=hfin 5 _ 3 rfl rfl;have KL:=dw 2 3 _ _ rfl rfl rfl rfl aN;simp only[puts,Act.put,dK,dL,dM] at ha;subst ha;have V2:aQ .i64 w5 (blk 2) 64 (FN):=⟨_,f2⟩
     have V3:aQ .i64 w5 (blk 3) 64 (A):=⟨_,f3⟩
     clear hS hv hfin dw hF v2 v3 f2 f3;have hx6:=h6.lt;replace hNb:=hNb.kept hB;replace hZ:=hZ.kept hB;replace h6:=h6.kept hB;replace aA:=aA.trans (hB.mono aA.size);obtain⟨x7,e7⟩:∃x,x=blk 2:=⟨_,rfl⟩
     obtain⟨x8,e8⟩:∃x,x=blk 3:=⟨_,rfl⟩
     rw[<-e7] at V2 Px KL ⊢;rw[<-e8] at V3 Ah KL ⊢;have h7:=V2;have h8:=V3;have l7:x6<x7:=by omega
     have l8:x6<x8:=by omega
     have l78:x7≠x8:=KL;clear V2 V3 hB e7 e8 Px XJ Ah Le KL hx6 hA;have F7:Hid (rD FN (p.mul (n / 2 ^ (256 - 0)))):=by rw[HM0.out];exact HFN.out
     have F8:Hid (rD A (p.mul (n / 2 ^ (256 - 0)+1))):=by rw[HM1.out];exact Sk.out
     go_wp2
     go_loopw [9] (fun i wr=> ∃(k:Nat) (G H:Nat->Int),k<=256/\i=.int .i64 (255 - (k:Int))/\Hid (rD G (p.mul (n / 2 ^ (256 - k))))/\Hid (rD H (p.mul (n / 2 ^ (256 - k)+1)))/\(aQ .i64 wr x7 64 G/\aQ .i64 wr x8 64 H)/\(aQ .i64 wr x6 16 dd/\aQ .u8 wr (w.heap.size+1) 32 (dg 256 N)/\aQ .i64 wr (w.heap.size+2) 64 (fun _=>0))/\Below w.heap.size w wr) (fun i _=>(intOf i+1).toNat)
     case atStart=>exact⟨0,_,_,gX _,rfl,F7,F8,⟨h7,h8⟩,⟨h6,hNb,hZ⟩,aA⟩
     case round=>
      clear h7 h8 h6 hNb hZ aA F7 F8;obtain⟨k,G,H,hk,rfl,F7,F8,⟨h7,h8⟩,⟨h6,hNb,hZ⟩,aA⟩:=hrel;obtain rfl | hlt:=(by omega:k=256\/k<256)
      ·have ei:(255:Int) - ((256:Nat):Int)= -1:=by decide
       rw[ei];clear ei;go_wp2_with (first | (refine bN rfl 193 _ rfl .i64 x7 64 G vH rfl Tryz.size193 rfl h7 ?_) | (refine aM rfl 193 _ _ rfl .i64 (w.heap.size+2) 64 (fun _=>0) G Tryz.size193 rfl rfl hZ ?_));have hR:rD G (p.mul n):=by have h:=F7.out;rwa [Nat.sub_self,Nat.pow_zero,Nat.div_one] at h
       exact bodyPost_ret (dG rfl _ _ .i64 (w.heap.size+2) 64 _ rfl (hZ.setRow _ _) vH rfl Tryz.size193) rfl ⟨_,rfl,hR,aC aA aH _⟩
      ·obtain⟨m,hm⟩:∃m,m=255 - k:=⟨_,rfl⟩
       have ei:(255:Int) - (k:Int)=(m:Int):=by omega
       have XC:Hid ((m:Int)=255 - (k:Int)):=ei.symm;have Xm:=ak hlt;have aau:m<=255:=by omega
       rw[ei];have Xw:m % 8<8:=Nat.mod_lt _ aN;have hq:IntKind.i64.wrap (Int.tdiv (m:Int) 8)=((m / 8:Nat):Int):=by rw[Pg aH,bI] <;> omega
       have hr:Int.tmod (m:Int) 8=((m % 8:Nat):Int):=by rw[Int.tmod_eq_emod_of_nonneg aH];omega
       have hc:IntKind.u64.wrap ((m % 8:Nat):Int)=((m % 8:Nat):Int):=iY aH aH;obtain⟨d0,d1⟩:=aV (by decide:(0:Int)<256) N (m / 8);have hsh:=xD (x:=dg 256 N (m / 8)) (m % 8) Xw;have hand:bits .and .u8 (dg 256 N (m / 8) / 2 ^ (m % 8)) 1=N / 2 ^ m % 2:=by
        rw[tN (Int.ediv_nonneg d0 (vF (eG aN _))) (Int.lt_of_le_of_lt (Int.ediv_le_self _ d0) d1),vC N m]
       have hpl:((m / 8:Nat):Int).toNat=m / 8:=Ct _;have MP:m / 8<32:=by omega
       have hce:=hNb.cell (m / 8) MP;have hBl:=hNb.lt;obtain⟨bb,hbb⟩:∃bb,bb=(N / 2 ^ m % 2==1):=⟨_,rfl⟩
       go_upto_region 9 with(fail)
       refine aX (n:=59) aS aS aS rfl
        (fun ii vv _=>(match ii with | 0 | 4=>vv=.int .i64 ((m:Int)) | 1=>vv=.int .i64 ((m / 8:Nat)) | 2=>vv=.pointer (some ⟨(w.heap.size+1),(m / 8),none⟩) | 3=>vv=.int .u8 (dg 256 N (m / 8)) | 5=>vv=.int .i64 ((m % 8:Nat)) | 6=>vv=.int .u64 ((m % 8:Nat)) | 7=>vv=.int .u8 (dg 256 N (m / 8) / 2 ^ (m % 8)) | 8=>vv=.int .u8 (N / 2 ^ m % 2) | 9 | 10=>vv=.bool bb | _=>True))
        (fun w w'=>Below w.heap.size w w') (fun _ _ h=>h) (fun _ _ _ _ h _=>h) ?_ ?_
       ·refine cB ?_;refine⟨?_,?_,?_,?_,?_,?_,?_,?_,?_,?_,?_,trivial⟩
        ·intro a w2 hB hF hd;exact aO <| aB _ (.inl rfl) aR (hF.same 9 rfl)
        ·intro a w2 hB hF hd;exact aO <| aT (Go.bC.qJ rfl (hd 0 _ rfl (aj rfl)) rfl aN) (congrArg (Value.int .i64) (hq))
        ·intro a w2 hB hF hd;exact aO <| aT (bH rfl (hF.same 3 rfl) (hd 1 _ rfl (aj rfl)) dY aS aH aH) (congrArg (fun z=>Value.pointer (some ⟨w.heap.size+1,z,none⟩)) hpl)
        ·intro a w2 hB hF hd;exact aO <| aT (aY rfl (hd 2 _ rfl (aj rfl)) Tryz.underlying5 ((hB.cell (p:=⟨w.heap.size+1,m / 8,none⟩) hBl).trans hce)) rfl
        ·intro a w2 hB hF hd;exact aO <| aB _ (.inl rfl) aR (hF.same 9 rfl)
        ·intro a w2 hB hF hd;exact aO <| aT (Go.bC.vZ rfl (hd 4 _ rfl (aj rfl)) rfl aN) (congrArg (Value.int .i64) (hr))
        ·intro a w2 hB hF hd;exact aO <| aT (kU rfl (hd 5 _ rfl (aj rfl)) Tryz.underlying3 Tryz.underlying212) (congrArg (Value.int .u64) (hc))
        ·intro a w2 hB hF hd;exact aO <| aT (Go.bC.qI rfl (hd 3 _ rfl (aj rfl)) (hd 6 _ rfl (aj rfl)) aH) (congrArg (Value.int .u8) (hsh))
        ·intro a w2 hB hF hd;exact aO <| aT (Go.bC.iQ rfl (hd 7 _ rfl (aj rfl)) rfl) (congrArg (Value.int .u8) (hand))
        ·intro a w2 hB hF hd;refine aO <| aT (Go.bC.iF rfl (hd 8 _ rfl (aj rfl)) rfl) ?_;exact congrArg Value.bool hbb.symm
        ·intro a w2 hB hF hd;exact aO <| aB _ (.inr rfl) aR (hd 9 _ rfl (aj rfl))
       ·intro a w7 hB hF hS;have ha:=aP rfl rfl hF [_,_,_,_,_,_,_,_,_,_,_] rfl ⟨hS 0 _ rfl,hS 1 _ rfl,hS 2 _ rfl,hS 3 _ rfl,hS 4 _ rfl,hS 5 _ rfl,hS 6 _ rfl,hS 7 _ rfl,hS 8 _ rfl,hS 9 _ rfl,hS 10 _ rfl,trivial⟩;simp only[puts,Act.put,dK,dL,dM] at ha;subst ha;clear hS hF;replace h7:=h7.kept hB;replace h8:=h8.kept hB;replace h6:=h6.kept hB;replace hNb:=hNb.kept hB;replace hZ:=hZ.kept hB;replace aA:=aA.trans (hB.mono aA.size);have zT:=ak hbb;have HM:=ak hm;clear hB hq hr hc hsh hand hce hpl hbb hm MP Xw hBl d0 d1 ei hlt hk;obtain⟨S1,R1,K7,K8,hsw⟩:=JU bb F7.out F8.out;have HSW:=ak hsw;clear hsw;go_wp2_with (first | (refine bN rfl 193 _ rfl .i64 x7 64 G vH rfl Tryz.size193 rfl h7 ?_) | (refine bN rfl 193 _ rfl .i64 x8 64 H vH rfl Tryz.size193 rfl h8 ?_));refine(HSW.out _).mono ?_;rintro e_ u1 ⟨rfl,hb⟩;replace h7:=h7.kept hb;replace h8:=h8.kept hb;replace h6:=h6.kept hb;replace hNb:=hNb.kept hb;replace hZ:=hZ.kept hb;replace aA:=aA.trans (hb.mono aA.size);have s2:=h8.aG x7 aH (arr .i64 64 S1);replace F7:=ak K7;replace F8:=ak K8;clear K7 K8 HSW hb;go_upto_region 11 with(first | (refine aM rfl 193 _ _ rfl .i64 x7 64 G S1 Tryz.size193 rfl rfl h7 ?_) | (refine aM rfl 193 _ _ rfl .i64 x8 64 H R1 Tryz.size193 rfl rfl s2 ?_))
        refine aJ (fun w9=>aQ .i64 w9 x7 64 S1/\aQ .i64 w9 x8 64 R1/\aQ .i64 w9 x6 16 dd/\aQ .u8 w9 (w.heap.size+1) 32 (dg 256 N)/\aQ .i64 w9 (w.heap.size+2) 64 (fun _=>0)/\Below w.heap.size w w9)
         ⟨(h7.setRow _ _).aG _ aH _,s2.setRow _ _,(h6.aG _ aH _).aG _ aH _,(hNb.aG _ aH _).aG _ aH _,(hZ.aG _ aH _).aG _ aH _,aC (aC aA aH _) aH _⟩ ?_
        clear s2 h7 h8 h6 hNb hZ aA;rintro apH ⟨h7,h8,h6,hNb,hZ,aA⟩
        try simp only[Act.put,dK,dL,dM]
        obtain⟨S2,K,hsu⟩:=Ou F8.out F7.out;rw[<-Xp.out] at hsu;have Lj:=ak hsu;clear hsu;go_wp2_with (first | (refine bN rfl 193 _ rfl .i64 x7 64 S1 vH rfl Tryz.size193 rfl h7 ?_) | (refine bN rfl 193 _ rfl .i64 x8 64 R1 vH rfl Tryz.size193 rfl h8 ?_) | (refine bN rfl 191 _ rfl .i64 x6 16 dd cZ rfl bQ rfl h6 ?_));refine(Lj.out _).mono ?_;rintro e_ u2 ⟨rfl,hb⟩;replace h7:=h7.kept hb;replace h8:=h8.kept hb;replace h6:=h6.kept hb;replace hNb:=hNb.kept hb;replace hZ:=hZ.kept hb;replace aA:=aA.trans (hb.mono aA.size);replace F8:=ak K;clear K Lj hb;go_upto_region 12 with(refine aM rfl 193 _ _ rfl .i64 x8 64 R1 S2 Tryz.size193 rfl rfl h8 ?_)
        refine aJ (fun w9=>aQ .i64 w9 x7 64 S1/\aQ .i64 w9 x8 64 S2/\aQ .i64 w9 x6 16 dd/\aQ .u8 w9 (w.heap.size+1) 32 (dg 256 N)/\aQ .i64 w9 (w.heap.size+2) 64 (fun _=>0)/\Below w.heap.size w w9)
         ⟨h7.aG _ aH _,h8.setRow _ _,h6.aG _ aH _,hNb.aG _ aH _,hZ.aG _ aH _,aC aA aH _⟩ ?_
        clear h7 h8 h6 hNb hZ aA;rintro apG ⟨h7,h8,h6,hNb,hZ,aA⟩
        try simp only[Act.put,dK,dL,dM]
        obtain⟨S3,K,hsu⟩:=Ou F7.out F7.out;rw[<-Xp.out] at hsu;have Lj:=ak hsu;clear hsu;go_wp2_with (first | (refine bN rfl 193 _ rfl .i64 x7 64 S1 vH rfl Tryz.size193 rfl h7 ?_) | (refine bN rfl 193 _ rfl .i64 x8 64 S2 vH rfl Tryz.size193 rfl h8 ?_) | (refine bN rfl 191 _ rfl .i64 x6 16 dd cZ rfl bQ rfl h6 ?_));refine(Lj.out _).mono ?_;rintro e_ u3 ⟨rfl,hb⟩;replace h7:=h7.kept hb;replace h8:=h8.kept hb;replace h6:=h6.kept hb;replace hNb:=hNb.kept hb;replace hZ:=hZ.kept hb;replace aA:=aA.trans (hb.mono aA.size);replace F7:=ak K;clear K Lj hb;go_upto_region 13 with(refine aM rfl 193 _ _ rfl .i64 x7 64 S1 S3 Tryz.size193 rfl rfl h7 ?_)
        refine aJ (fun w9=>aQ .i64 w9 x7 64 S3/\aQ .i64 w9 x8 64 S2/\aQ .i64 w9 x6 16 dd/\aQ .u8 w9 (w.heap.size+1) 32 (dg 256 N)/\aQ .i64 w9 (w.heap.size+2) 64 (fun _=>0)/\Below w.heap.size w w9)
         ⟨h7.setRow _ _,h8.aG _ aH _,h6.aG _ aH _,hNb.aG _ aH _,hZ.aG _ aH _,aC aA aH _⟩ ?_
        clear h7 h8 h6 hNb hZ aA;rintro apF ⟨h7,h8,h6,hNb,hZ,aA⟩
        try simp only[Act.put,dK,dL,dM]
        obtain⟨S4,R4,K7,K8,hsw⟩:=JU bb F7.out F8.out;have HSW:=ak hsw;clear hsw;go_wp2_with (first | (refine bN rfl 193 _ rfl .i64 x7 64 S3 vH rfl Tryz.size193 rfl h7 ?_) | (refine bN rfl 193 _ rfl .i64 x8 64 S2 vH rfl Tryz.size193 rfl h8 ?_));refine(HSW.out _).mono ?_;rintro e_ u4 ⟨rfl,hb⟩;replace h7:=h7.kept hb;replace h8:=h8.kept hb;replace h6:=h6.kept hb;replace hNb:=hNb.kept hb;replace hZ:=hZ.kept hb;replace aA:=aA.trans (hb.mono aA.size);have s2:=h8.aG x7 aH (arr .i64 64 S4);replace F7:=ak K7;replace F8:=ak K8;clear K7 K8 HSW hb;have e7:=(h7.setRow 64 S4).aG x8 aH (arr .i64 64 R4);have e8:=s2.setRow 64 R4;have h6e:=(h6.aG x7 aH (arr .i64 64 S4)).aG x8 aH (arr .i64 64 R4);have akn:=(hNb.aG x7 aH (arr .i64 64 S4)).aG x8 aH (arr .i64 64 R4);have hZe:=(hZ.aG x7 aH (arr .i64 64 S4)).aG x8 aH (arr .i64 64 R4);have hbe:=aC (aC aA (by omega:w.heap.size<=x7) (arr .i64 64 S4)) (by omega:w.heap.size<=x8) (arr .i64 64 R4);have H7:=ak h7;have SH2:=ak s2;clear h7 h8 s2 h6 hNb hZ aA;have HE:Hid (rD S4 (p.mul (n / 2 ^ (256 - (k+1))))/\rD R4 (p.mul (n / 2 ^ (256 - (k+1))+1))):=by
         have hh7:=F7.out;have hh8:=F8.out;have hbit:bb=(n / 2 ^ (255 - k) % 2==1):=by
          rw[zT.out,Ll.out,HM.out,Bool.eq_iff_iff,beq_iff_eq,beq_iff_eq];have e:((n / 2 ^ (255 - k) % 2:Nat):Int)=(n:Int) / 2 ^ (255 - k) % 2:=by simp
          omega
         have hN2:n / 2 ^ (256 - k)=n / 2 ^ (255 - k) / 2:=by
          rw[show 256 - k=255 - k+1 by have:=Xm.out;omega,Nat.pow_succ,Nat.div_div_eq_div_mul]
         rw[show 256 - (k+1)=255 - k by omega];rw[hN2] at hh7 hh8;exact Uf p (n / 2 ^ (255 - k)) bb hbit hh7 hh8
        clear F7 F8;go_wp2_with (first | (refine aM rfl 193 _ _ rfl .i64 x7 64 S3 S4 Tryz.size193 rfl rfl H7.out ?_) | (refine aM rfl 193 _ _ rfl .i64 x8 64 S2 R4 Tryz.size193 rfl rfl SH2.out ?_));go_roundw
        case rel=>exact⟨k+1,_,_,by have:=Xm.out;omega,congrArg (Value.int .i64) (by have:=XC.out;omega),HE.out.1,HE.out.2,⟨e7,e8⟩,⟨h6e,akn,hZe⟩,hbe⟩
        case measure=>simp[intOf] <;> (have:=XC.out;omega)
theorem Mt (f g h e:Nat->Int) (X Y Z T VX VY:Int) (hp:tV f g h e X Y Z T) (hx:X * Z ^ (PN - 2) % Pr=VX) (hy:Y * Z ^ (PN - 2) % Pr=VY) (w:World):
  Calls Tryz.prog 161 #[Iu (pt f g h e)] w fun e_ w'=>e_=.returned (.agg (arr .u8 32 (dg 256 (VY+(VX % 2) * 2 ^ 255))))/\Below w.heap.size w w':=by
 have HP:=ak hp;have Lc:Hid (∀w,Calls Tryz.prog 205 #[.agg (arr .i64 16 (aU g (jL h)))] w fun e w'=>e=.returned (.agg (arr .u8 32 (dg 256 VY)))/\Below w.heap.size w w'):=fun w=>by
  have h1:=iH _ _ (hp.2.1.aU (ku hp.2.2.1)) w;unfold wY at h1;rw[hy] at h1;exact h1
 have hVX:0<=VX:=by rw[<-hx];exact(Bw _).1
 have Vr:0<=VY/\VY<2 ^ 255:=by(rw[<-hy];have h1:=Bw (Y * Z ^ (PN - 2));have h2:Pr<2 ^ 255:=by decide);exact⟨h1.1,by omega⟩
 have HHI:=ak (Ch VY Vr.1 Vr.2);have HTS:=ak (xV VY Vr.1 Vr.2);have adP:Hid (VX % 2=1->∀w,Calls Tryz.prog 222 #[.agg (arr .i64 16 (aU f (jL h)))] w fun e w'=>e=.returned (.bool true)/\Below w.heap.size w w'):=fun h1 w=>by
  refine yF _ _ (hp.1.aU (ku hp.2.2.1)) ?_ w;unfold wY;rw[hx];exact h1
 have adQ:Hid (VX % 2=0->∀w,Calls Tryz.prog 222 #[.agg (arr .i64 16 (aU f (jL h)))] w fun e w'=>e=.returned (.bool false)/\Below w.heap.size w w'):=fun h1 w=>by
  refine BN _ _ (hp.1.aU (ku hp.2.2.1)) ?_ w;unfold wY;rw[hx];exact h1
 clear hp hx hy Vr
 go_enter Tryz.func161,Tryz.ntmps161
 go_upto_region 1 with(fail);refine aJ (fun w1=>aQ .i64 w1 w.heap.size 64 (pt f g h e)/\aQ .u8 w1 (w.heap.size+1) 32 (fun _=>0)/\Below w.heap.size w w1) ⟨.alloc (bU rfl rfl) _,bU (by first | omega | (simp<;> omega)) (by rfl),((bT _ _).alloc (bB _) _).alloc (by first | omega | (simp<;> omega)) _⟩ ?_;rintro w1 ⟨hA,hZ,aA⟩
 refine bG (n:=23) aS aS aS rfl
  (gZ [(4,3)]) (eZ [(4,3)]) (fun _=>arr .i64 16 (fun _=>0)) (fun _=>(arr .i64 16 (jL (h)))) (fun _=>191) (fun _=>3)
  (fun ii vv _=>(match ii with | 0=>vv=.pointer (some ⟨w.heap.size,32,none⟩) | 1=>vv=.agg (arr .i64 16 (h)) | 2=>vv=.agg (arr .i64 16 (jL (h))) | _=>True)) (fun _ _=>True) (fun _ _ _=>trivial) (fun _ _ _ _ _ _ _=>trivial) (fun _ _ _ _ h _=>h)
  (fJ rfl) (dU rfl) ?_ ?_ ?_ ?_
 ·refine cB ?_;refine⟨?_,?_,?_,(fun h=>by cases h),(fun _ h=>by cases h),trivial⟩
  ·intro _ _ a w2 hB hF hd;refine aO <| aT (bP (m:=15) (k:=32) rfl (hF.same 1 rfl) aS) ?_;exact rfl
  ·intro _ _ a w2 hB hF hd;exact aO <| aT (bR rfl (hd 0 _ rfl rfl rfl (aj rfl)) cZ rfl bQ (fun i hi=>(hB.cell (p:=⟨w.heap.size,32+i,none⟩) hA.lt).trans (Ml hA i hi))) rfl
  ·intro _ _ a w2 hB hF hd;refine aO <| aD _ _ _ rfl Tryz.call204 _ (args1 (hd 1 _ rfl rfl rfl (aj rfl))) aR ((jY _ _ HP.out.2.2.1 w2).mono ?_);rintro e w3 ⟨rfl,hb⟩;exact⟨_,rfl,rfl,hb⟩
 ·refine cB ?_;refine⟨(fun h=>by cases h),(fun h=>by cases h),(fun h=>by cases h),?_,(fun h=>by cases h),trivial⟩
  ·exact fun _=>⟨rfl,rfl,fun a w2 K h=>aZ rfl rfl Tryz.zeroValue191 aR h⟩
 ·refine cB ?_;refine⟨(fun _ h=>by cases h),(fun _ h=>by cases h),(fun _ h=>by cases h),(fun _ h=>by cases h),?_,trivial⟩
  ·intro p hp;obtain rfl:3=p:=iy hp;exact⟨rfl,rfl,⟨_,rfl⟩,aj rfl,fun a w2 b K hB hF hd hx hb h=>bJ rfl rfl bQ hx (hd 2 _ rfl rfl rfl (aj rfl)) hb h⟩
 ·intro a w2 blk hB hF hS hv hfin dw;obtain⟨v3,Ah,Le⟩:=hv 3 _ rfl rfl;have ha:=aP rfl rfl hF [_,_,_,_,undef] rfl ⟨hS 0 _ rfl rfl rfl,hS 1 _ rfl rfl rfl,hS 2 _ rfl rfl rfl,v3,trivial,trivial⟩;have f3:=hfin 4 _ 3 rfl rfl;simp only[puts,Act.put,dK,dL,dM] at ha;subst ha;have V3:aQ .i64 w2 (blk 3) 16 (jL (h)):=⟨_,f3⟩
  clear hS hv hfin dw hF v3 f3;replace hA:=hA.kept hB;replace hZ:=hZ.kept hB;replace aA:=aA.trans (hB.mono aA.size);have hz:=hZ.lt;obtain⟨x3,e3⟩:∃x,x=blk 3:=⟨_,rfl⟩
  rw[<-e3] at V3 ⊢;have h3:=V3;clear V3 hB e3 Ah Le;go_upto_region 2 with(fail)
  refine bG (n:=23) aS aS aS rfl
   (gZ [(6,5)]) (eZ [(6,5)]) (fun _=>arr .u8 32 (fun _=>0)) (fun _=>(arr .u8 32 (dg 256 VY))) (fun _=>22) (fun _=>4)
   (fun ii vv _=>(match ii with | 0=>vv=.pointer (some ⟨w.heap.size,16,none⟩) | 1=>vv=.agg (arr .i64 16 (g)) | 2=>vv=.agg (arr .i64 16 (jL h)) | 3=>vv=.agg (arr .i64 16 (aU (g) (jL h))) | 4=>vv=.agg (arr .u8 32 (dg 256 VY)) | _=>True)) (fun _ _=>True) (fun _ _ _=>trivial) (fun _ _ _ _ _ _ _=>trivial) (fun _ _ _ _ h _=>h)
   (fJ rfl) (dU rfl) ?_ ?_ ?_ ?_
  ·refine cB ?_;refine⟨?_,?_,?_,?_,?_,(fun h=>by cases h),(fun _ h=>by cases h),trivial⟩
   ·intro _ _ a w2 hB hF hd;refine aO <| aT (bP (m:=15) (k:=16) rfl (hF.same 1 rfl) aS) ?_;exact rfl
   ·intro _ _ a w2 hB hF hd;exact aO <| aT (bR rfl (hd 0 _ rfl rfl rfl (aj rfl)) cZ rfl bQ (fun i hi=>(hB.cell (p:=⟨w.heap.size,16+i,none⟩) hA.lt).trans (JI hA i hi))) rfl
   ·intro _ _ a w2 hB hF hd;exact aO <| aT (aF rfl cZ rfl bQ (hF.same 3 rfl) (h3.below hB h3.lt)) rfl
   ·intro _ _ a w2 hB hF hd;refine aO <| aD _ _ _ rfl Tryz.call203 _ (args2 (hd 1 _ rfl rfl rfl (aj rfl)) (hd 2 _ rfl rfl rfl (aj rfl))) aR ((bV _ _ _ _ HP.out.2.1 (ku HP.out.2.2.1) w2).mono ?_);rintro e w3 ⟨rfl,hb⟩;exact⟨_,rfl,rfl,hb⟩
   ·intro _ _ a w2 hB hF hd;refine aO <| aD _ _ _ rfl Tryz.call205 _ (args1 (hd 3 _ rfl rfl rfl (aj rfl))) aR ((Lc.out w2).mono ?_);rintro e w3 ⟨rfl,hb⟩;exact⟨_,rfl,rfl,hb⟩
  ·refine cB ?_;refine⟨(fun h=>by cases h),(fun h=>by cases h),(fun h=>by cases h),(fun h=>by cases h),(fun h=>by cases h),?_,(fun h=>by cases h),trivial⟩
   ·exact fun _=>⟨rfl,rfl,fun a w2 K h=>aZ rfl rfl Tryz.zeroValue22 aR h⟩
  ·refine cB ?_;refine⟨(fun _ h=>by cases h),(fun _ h=>by cases h),(fun _ h=>by cases h),(fun _ h=>by cases h),(fun _ h=>by cases h),(fun _ h=>by cases h),?_,trivial⟩
   ·intro p hp;obtain rfl:5=p:=iy hp;exact⟨rfl,rfl,⟨_,rfl⟩,aj rfl,fun a w2 b K hB hF hd hx hb h=>bJ rfl rfl dh hx (hd 4 _ rfl rfl rfl (aj rfl)) hb h⟩
  ·intro a w3 blk hB hF hS hv hfin dw;obtain⟨v5,xQ,FR⟩:=hv 5 _ rfl rfl;have ha:=aP rfl rfl hF [_,_,_,_,_,_,undef] rfl ⟨hS 0 _ rfl rfl rfl,hS 1 _ rfl rfl rfl,hS 2 _ rfl rfl rfl,hS 3 _ rfl rfl rfl,hS 4 _ rfl rfl rfl,v5,trivial,trivial⟩;have f5:=hfin 6 _ 5 rfl rfl;simp only[puts,Act.put,dK,dL,dM] at ha;subst ha;have V5:aQ .u8 w3 (blk 5) 32 (dg 256 VY):=⟨_,f5⟩
   clear hS hv hfin dw hF v5 f5;replace hA:=hA.kept hB;replace hZ:=hZ.kept hB;replace h3:=h3.kept hB;replace aA:=aA.trans (hB.mono aA.size);obtain⟨x4,e4⟩:∃x,x=blk 5:=⟨_,rfl⟩
   rw[<-e4] at V5 xQ ⊢;have h4:=V5;have l4:w.heap.size+1<x4:=by omega
   clear V5 hB e4 xQ FR hz;go_upto_region 3 with(fail);rcases(by omega:VX % 2=0\/VX % 2=1) with ho | ho
   ·have HO:=ak ho;clear ho
    refine aX (n:=23) aS aS aS rfl
     (fun ii vv _=>(match ii with | 0=>vv=.pointer (some ⟨w.heap.size,0,none⟩) | 1=>vv=.agg (arr .i64 16 (f)) | 2=>vv=.agg (arr .i64 16 (jL h)) | 3=>vv=.agg (arr .i64 16 (aU (f) (jL h))) | 4=>vv=.bool false | _=>True))
     (fun w w'=>Below w.heap.size w w') (fun _ _ h=>h) (fun _ _ _ _ h _=>h) ?_ ?_
    ·refine cB ?_;refine⟨?_,?_,?_,?_,?_,trivial⟩
     ·intro a w2 hB hF hd;refine aO <| aT (bP (m:=15) (k:=0) rfl (hF.same 1 rfl) aS) ?_;exact rfl
     ·intro a w2 hB hF hd;exact aO <| aT (bR rfl (hd 0 _ rfl (aj rfl)) cZ rfl bQ (fun i hi=>(hB.cell (p:=⟨w.heap.size,0+i,none⟩) hA.lt).trans (Gv hA i hi))) rfl
     ·intro a w2 hB hF hd;exact aO <| aT (aF rfl cZ rfl bQ (hF.same 3 rfl) (h3.below hB h3.lt)) rfl
     ·intro a w2 hB hF hd;refine aO <| aD _ _ _ rfl Tryz.call203 _ (args2 (hd 1 _ rfl (aj rfl)) (hd 2 _ rfl (aj rfl))) aR ((bV _ _ _ _ HP.out.1 (ku HP.out.2.2.1) w2).mono ?_);rintro e w3 ⟨rfl,hb⟩;exact⟨_,rfl,rfl,hb⟩
     ·intro a w2 hB hF hd;refine aO <| aD _ _ _ rfl Tryz.call222 _ (args1 (hd 3 _ rfl (aj rfl))) aR ((adQ.out HO.out w2).mono ?_);rintro e w3 ⟨rfl,hb⟩;exact⟨_,rfl,rfl,hb⟩
    ·intro a w4 hB hF hS;have ha:=aP rfl rfl hF [_,_,_,_,_] rfl ⟨hS 0 _ rfl,hS 1 _ rfl,hS 2 _ rfl,hS 3 _ rfl,hS 4 _ rfl,trivial⟩;simp only[puts,Act.put,dK,dL,dM] at ha;subst ha;clear hS hF;replace hZ:=hZ.kept hB;replace h4:=h4.kept hB;replace aA:=aA.trans (hB.mono aA.size);clear hA h3 hB Lc adP adQ;have h5:aQ .u8 w4 x4 32 (dg 256 (VY+(VX % 2) * 2 ^ 255)):=by rw[HO.out,Int.zero_mul,Int.add_zero];exact h4
     obtain⟨R,hR⟩:∃R,R=VY+(VX % 2) * 2 ^ 255:=⟨_,rfl⟩
     rw[<-hR] at h5;have HR:=ak hR;clear hR;go_wp2_with (first | (refine bq rfl 22 _ rfl .u8 x4 32 (dg 256 R) 5 dY dh rfl h5 ?_) | (refine aM rfl 22 _ _ rfl .u8 (w.heap.size+1) 32 (fun _=>0) (dg 256 R) dh rfl rfl hZ ?_));exact bodyPost_ret (bg rfl _ _ .u8 (w.heap.size+1) 32 _ 5 rfl (hZ.setRow 32 (dg 256 R)) dY dh) rfl ⟨by rw[HR.out],aC aA aH _⟩
   ·have HO:=ak ho;clear ho
    refine aX (n:=23) aS aS aS rfl
     (fun ii vv _=>(match ii with | 0=>vv=.pointer (some ⟨w.heap.size,0,none⟩) | 1=>vv=.agg (arr .i64 16 (f)) | 2=>vv=.agg (arr .i64 16 (jL h)) | 3=>vv=.agg (arr .i64 16 (aU (f) (jL h))) | 4=>vv=.bool true | _=>True))
     (fun w w'=>Below w.heap.size w w') (fun _ _ h=>h) (fun _ _ _ _ h _=>h) ?_ ?_
    ·refine cB ?_;refine⟨?_,?_,?_,?_,?_,trivial⟩
     ·intro a w2 hB hF hd;refine aO <| aT (bP (m:=15) (k:=0) rfl (hF.same 1 rfl) aS) ?_;exact rfl
     ·intro a w2 hB hF hd;exact aO <| aT (bR rfl (hd 0 _ rfl (aj rfl)) cZ rfl bQ (fun i hi=>(hB.cell (p:=⟨w.heap.size,0+i,none⟩) hA.lt).trans (Gv hA i hi))) rfl
     ·intro a w2 hB hF hd;exact aO <| aT (aF rfl cZ rfl bQ (hF.same 3 rfl) (h3.below hB h3.lt)) rfl
     ·intro a w2 hB hF hd;refine aO <| aD _ _ _ rfl Tryz.call203 _ (args2 (hd 1 _ rfl (aj rfl)) (hd 2 _ rfl (aj rfl))) aR ((bV _ _ _ _ HP.out.1 (ku HP.out.2.2.1) w2).mono ?_);rintro e w3 ⟨rfl,hb⟩;exact⟨_,rfl,rfl,hb⟩
     ·intro a w2 hB hF hd;refine aO <| aD _ _ _ rfl Tryz.call222 _ (args1 (hd 3 _ rfl (aj rfl))) aR ((adP.out HO.out w2).mono ?_);rintro e w3 ⟨rfl,hb⟩;exact⟨_,rfl,rfl,hb⟩
    ·intro a w4 hB hF hS;have ha:=aP rfl rfl hF [_,_,_,_,_] rfl ⟨hS 0 _ rfl,hS 1 _ rfl,hS 2 _ rfl,hS 3 _ rfl,hS 4 _ rfl,trivial⟩;simp only[puts,Act.put,dK,dL,dM] at ha;subst ha;clear hS hF;replace hZ:=hZ.kept hB;replace h4:=h4.kept hB;replace aA:=aA.trans (hB.mono aA.size);clear hA h3 hB Lc adP adQ;have e1:=h4.cell 31 aN;have f1:=h4.free 31;obtain⟨t0,t1⟩:=HTS.out;obtain⟨t,ht⟩:∃t,t=dg 256 VY 31:=⟨_,rfl⟩
     rw[<-ht] at e1 t0 t1;have a1:=abN t t0 t1;have HT:=ak ht;have H4:=ak h4;clear ht h4;go_upto_region 5 with(fail);refine aJ (fun w9=>aQ .u8 w9 x4 32 (dg 256 (VY+(VX % 2) * 2 ^ 255))/\aQ .u8 w9 (w.heap.size+1) 32 (fun _=>0)/\Below w.heap.size w w9) ⟨(H4.out.set 31 (t+128)).congr (fun i hi=>by rw[HT.out,HO.out];exact HHI.out i hi),hZ.other (by first | omega | (simp<;> omega)) _,aA.setCell (by first | omega | (simp<;> omega)) _⟩ ?_;rintro w9 ⟨h5,hZ,aA⟩
     try simp only[Act.put,dK,dL,dM]
     obtain⟨R,hR⟩:∃R,R=VY+(VX % 2) * 2 ^ 255:=⟨_,rfl⟩
     rw[<-hR] at h5;have HR:=ak hR;clear hR;go_wp2_with (first | (refine bq rfl 22 _ rfl .u8 x4 32 (dg 256 R) 5 dY dh rfl h5 ?_) | (refine aM rfl 22 _ _ rfl .u8 (w.heap.size+1) 32 (fun _=>0) (dg 256 R) dh rfl rfl hZ ?_));exact bodyPost_ret (bg rfl _ _ .u8 (w.heap.size+1) 32 _ 5 rfl (hZ.setRow 32 (dg 256 R)) dY dh) rfl ⟨by rw[HR.out],aC aA aH _⟩
theorem Qq {A:Nat->Int} {p:Ed C7} (hA:rD A p) (w:World):Calls Tryz.prog 161 #[Iu A] w fun e_ w'=>e_=.returned (.agg (arr .u8 32 (dg 256 (dB p))))/\Below w.heap.size w w':=by
 obtain⟨f,g,h,e,X,Y,Z,T,rfl,h1,h2⟩:=hA;exact Mt f g h e X Y Z T (vJ p) (OV p) h1 (wL h2.1 h2.2.1) (wL h2.1 h2.2.2.1) w
def kX (Y:Int):Int:=(Y * Y - 1) * wY (dN * (Y * Y)+1)
def Nc (f:Nat->Int):Nat->Int:=aU (fE (aU f f) (aW 1)) (jL (dD (aU iU (aU f f)) (aW 1)))
theorem Hw {f:Nat->Int} {Y:Int} (hf:Fe f Y):Fe (Nc f) (kX Y):=((hf.aU hf).fE rM).aU (ku ((jF.aU (hf.aU hf)).dD rM))
theorem Bf (q:Bool) (H f:Nat->Int) (Y:Int) (hf:Fe f Y) (hrt:∀w,Calls Tryz.prog 252 #[El (Nc f)] w fun e w'=>e=.returned (.tuple #[El H,.bool q])/\Below w.heap.size w w') (w:World):
  Calls Tryz.prog 209 #[El f] w fun e w'=>e=.returned (.tuple #[El H,.bool q])/\Below w.heap.size w w':=by
 have HF:=ak hf;have Xg:=ak hrt;clear hf hrt;unfold El;unfold El at Xg
 go_enter Tryz.func209,Tryz.ntmps209
 go_upto_region 1 with(fail);refine aJ (fun w1=>aQ .i64 w1 w.heap.size 16 f/\aQ .i64 w1 (w.heap.size+1) 16 (fun _=>0)/\Below w.heap.size w w1) ⟨.alloc (bU rfl rfl) _,bU (by first | omega | (simp<;> omega)) (by rfl),((bT _ _).alloc (bB _) _).alloc (by first | omega | (simp<;> omega)) _⟩ ?_;rintro w1 ⟨hA,hZ,aA⟩
 refine bG (n:=23) aS aS aS rfl
  (gZ [(6,4),(7,5)]) (eZ [(6,4),(7,5)]) (fun _=>arr .i64 16 (fun _=>0)) (fun i=>match i with | 4=>(arr .i64 16 (aU (f) (f))) | 5=>(arr .i64 16 (aW 1)) | _=> #[]) (fun _=>191) (fun i=>match i with | 4=>4 | 5=>5 | _=>0)
  (fun ii vv _=>(match ii with | 0 | 1=>vv=.agg (arr .i64 16 (f)) | 2=>vv=.agg (arr .i64 16 (aU (f) (f))) | 3=>vv=.agg (arr .i64 16 (aW 1)) | _=>True)) (fun _ _=>True) (fun _ _ _=>trivial) (fun _ _ _ _ _ _ _=>trivial) (fun _ _ _ _ h _=>h)
  (fJ rfl) (dU rfl) ?_ ?_ ?_ ?_
 ·refine cB ?_;refine⟨?_,?_,?_,?_,(fun h=>by cases h),(fun h=>by cases h),(fun _ h=>by cases h),(fun _ h=>by cases h),trivial⟩
  ·intro _ _ a w2 hB hF hd;exact aO <| aT (aF rfl cZ rfl bQ (hF.same 1 rfl) (hA.below hB hA.lt)) rfl
  ·intro _ _ a w2 hB hF hd;exact aO <| aT (aF rfl cZ rfl bQ (hF.same 1 rfl) (hA.below hB hA.lt)) rfl
  ·intro _ _ a w2 hB hF hd;refine aO <| aD _ _ _ rfl Tryz.call203 _ (args2 (hd 0 _ rfl rfl rfl (aj rfl)) (hd 1 _ rfl rfl rfl (aj rfl))) aR ((bV _ _ _ _ HF.out HF.out w2).mono ?_);rintro e w3 ⟨rfl,hb⟩;exact⟨_,rfl,rfl,hb⟩
  ·intro _ _ a w2 hB hF hd;refine aO <| aD _ _ _ rfl Tryz.call200 _ (args1 rfl) aR ((eO 1 w2).mono ?_);rintro e w3 ⟨rfl,hb⟩;exact⟨_,rfl,rfl,hb⟩
 ·refine cB ?_;refine⟨(fun h=>by cases h),(fun h=>by cases h),(fun h=>by cases h),(fun h=>by cases h),?_,?_,(fun h=>by cases h),(fun h=>by cases h),trivial⟩
  ·exact fun _=>⟨rfl,rfl,fun a w2 K h=>aZ rfl rfl Tryz.zeroValue191 aR h⟩
  ·exact fun _=>⟨rfl,rfl,fun a w2 K h=>aZ rfl rfl Tryz.zeroValue191 aR h⟩
 ·refine cB ?_;refine⟨(fun _ h=>by cases h),(fun _ h=>by cases h),(fun _ h=>by cases h),(fun _ h=>by cases h),(fun _ h=>by cases h),(fun _ h=>by cases h),?_,?_,trivial⟩
  ·intro p hp;obtain rfl:4=p:=iy hp;exact⟨rfl,rfl,⟨_,rfl⟩,aj rfl,fun a w2 b K hB hF hd hx hb h=>bJ rfl rfl bQ hx (hd 2 _ rfl rfl rfl (aj rfl)) hb h⟩
  ·intro p hp;obtain rfl:5=p:=iy hp;exact⟨rfl,rfl,⟨_,rfl⟩,aj rfl,fun a w2 b K hB hF hd hx hb h=>bJ rfl rfl bQ hx (hd 3 _ rfl rfl rfl (aj rfl)) hb h⟩
 ·intro a w2 blk hB hF hS hv hfin dw;obtain⟨v4,IE,Lv⟩:=hv 4 _ rfl rfl;obtain⟨v5,xQ,FR⟩:=hv 5 _ rfl rfl;have ha:=aP rfl rfl hF [_,_,_,_,_,_,undef,undef] rfl ⟨hS 0 _ rfl rfl rfl,hS 1 _ rfl rfl rfl,hS 2 _ rfl rfl rfl,hS 3 _ rfl rfl rfl,v4,v5,trivial,trivial,trivial⟩;have f4:=hfin 6 _ 4 rfl rfl;have f5:=hfin 7 _ 5 rfl rfl;have Cb:=dw 4 5 _ _ rfl rfl rfl rfl aN;simp only[puts,Act.put,dK,dL,dM] at ha;subst ha;have V4:aQ .i64 w2 (blk 4) 16 (aU (f) (f)):=⟨_,f4⟩
  have V5:aQ .i64 w2 (blk 5) 16 (aW 1):=⟨_,f5⟩
  clear hS hv hfin dw hF v4 v5 f4 f5;have hz:=hZ.lt;replace hZ:=hZ.kept hB;replace aA:=aA.trans (hB.mono aA.size);obtain⟨x4,e4⟩:∃x,x=blk 4:=⟨_,rfl⟩
  obtain⟨x5,e5⟩:∃x,x=blk 5:=⟨_,rfl⟩
  rw[<-e4] at V4 IE ⊢;rw[<-e5] at V5 xQ ⊢;have h4:=V4;have h5:=V5;have l4:w.heap.size+1<x4:=by omega
  have l5:w.heap.size+1<x5:=by omega
  clear V4 V5 hB e4 e5 IE Lv xQ FR hA hz;go_upto_region 2 with(fail)
  refine oW (n:=23) 14 rfl aN aS aS aS aS rfl
   (fun ii vv ww=>(match ii with | 0 | 4=>vv=.agg (arr .i64 16 (aU f f)) | 1 | 6=>vv=.agg (arr .i64 16 (aW 1)) | 2=>vv=.agg (arr .i64 16 (fE (aU f f) (aW 1))) | 3=>vv=.agg (arr .i64 16 (iU)) | 5=>vv=.agg (arr .i64 16 (aU (iU) (aU f f))) | 7=>vv=.agg (arr .i64 16 (dD (aU (iU) (aU f f)) (aW 1))) | 8=>vv=.agg (arr .i64 16 (jL (dD (aU (iU) (aU f f)) (aW 1)))) | 9=>vv=.agg (arr .i64 16 (aU (fE (aU f f) (aW 1)) (jL (dD (aU (iU) (aU f f)) (aW 1))))) | 10=>vv=.tuple #[.agg (arr .i64 16 (H)),.bool q] | 11=>vv=.agg (arr .i64 16 (H)) | 12=>vv=.bool q | _=>True)/\(ii=13->aQ .i64 ww (w.heap.size+1) 16 (H))) 13
   (fun b ww=>(aQ .i64 ww (x4) 16 (aU f f)/\aQ .i64 ww (x5) 16 (aW 1)/\Below w.heap.size w ww)/\(b=false->aQ .i64 ww ((w.heap.size+1)) 16 (fun _=>0))) ⟨⟨h4.drew,h5.drew,aA.drew⟩,fun _=>hZ.drew⟩
   (fun i ww w'=>match i with | 13=>((aQ .i64 ww (x4) 16 (aU f f)/\aQ .i64 ww (x5) 16 (aW 1)/\Below w.heap.size w ww)->(aQ .i64 w' (x4) 16 (aU f f)/\aQ .i64 w' (x5) 16 (aW 1)/\Below w.heap.size w w')) | _=>Below ww.heap.size ww w') ?_ ?_ ?_ ?_ rfl ?_ ?_
  ·intro i ww;(try dsimp only);split
   ·exact id
   ·exact bT _ _
  ·intro i b ww w' hi hR hE;have hE':Below ww.heap.size ww w':=by(try dsimp only at hE);split at hE;(· exact absurd rfl hi);exact hE
   obtain⟨⟨q0,q1,qb⟩,mQ⟩:=hR;exact⟨⟨q0.kept hE',q1.kept hE',qb.trans (hE'.mono qb.size)⟩,fun hb=>(mQ hb).kept hE'⟩
  ·intro ww w' hR hE;exact⟨hE hR.1,fun h=>by cases h⟩
  ·intro i j b v ww w' jw hjb hR hS hE;refine⟨hS.1,fun e=>?_⟩;subst e;have hE':Below ww.heap.size ww w':=by(try dsimp only at hE);split at hE;(· exact absurd rfl jw);exact hE
   exact(hS.2 rfl).kept hE'
  ·refine cB ?_;refine⟨?_,?_,?_,?_,?_,?_,?_,?_,?_,?_,?_,?_,?_,?_,(fun h=>absurd rfl h),trivial⟩
   ·intro _ b a w2 hcb hB0 hF hd;obtain⟨⟨h4,h5,aA⟩,mQ⟩:=hB0;have hB:=bT w2.heap.size w2;exact aO <| aT (aF rfl cZ rfl bQ (hF.same 4 rfl) (h4.below hB h4.lt)) ⟨rfl,aL⟩
   ·intro _ b a w2 hcb hB0 hF hd;obtain⟨⟨h4,h5,aA⟩,mQ⟩:=hB0;have hB:=bT w2.heap.size w2;exact aO <| aT (aF rfl cZ rfl bQ (hF.same 5 rfl) (h5.below hB h5.lt)) ⟨rfl,aL⟩
   ·intro _ b a w2 hcb hB0 hF hd;obtain⟨⟨h4,h5,aA⟩,mQ⟩:=hB0;have hB:=bT w2.heap.size w2;refine aO <| aD _ _ _ rfl Tryz.call244 _ (args2 ((hd 0 _ rfl (aj rfl)).1) ((hd 1 _ rfl (aj rfl)).1)) aR ((jk _ _ _ _ (HF.out.aU HF.out) rM w2).mono ?_);rintro e w3 ⟨rfl,hb⟩;exact⟨_,rfl,⟨rfl,aL⟩,hb⟩
   ·intro _ b a w2 hcb hB0 hF hd;obtain⟨⟨h4,h5,aA⟩,mQ⟩:=hB0;have hB:=bT w2.heap.size w2;refine aO <| aD _ _ _ rfl Tryz.call217 _ mZ aR ((sN w2).mono ?_);rintro e w3 ⟨rfl,hb⟩;exact⟨_,rfl,⟨rfl,aL⟩,hb⟩
   ·intro _ b a w2 hcb hB0 hF hd;obtain⟨⟨h4,h5,aA⟩,mQ⟩:=hB0;have hB:=bT w2.heap.size w2;exact aO <| aT (aF rfl cZ rfl bQ (hF.same 4 rfl) (h4.below hB h4.lt)) ⟨rfl,aL⟩
   ·intro _ b a w2 hcb hB0 hF hd;obtain⟨⟨h4,h5,aA⟩,mQ⟩:=hB0;have hB:=bT w2.heap.size w2;refine aO <| aD _ _ _ rfl Tryz.call203 _ (args2 ((hd 3 _ rfl (aj rfl)).1) ((hd 4 _ rfl (aj rfl)).1)) aR ((bV _ _ _ _ jF (HF.out.aU HF.out) w2).mono ?_);rintro e w3 ⟨rfl,hb⟩;exact⟨_,rfl,⟨rfl,aL⟩,hb⟩
   ·intro _ b a w2 hcb hB0 hF hd;obtain⟨⟨h4,h5,aA⟩,mQ⟩:=hB0;have hB:=bT w2.heap.size w2;exact aO <| aT (aF rfl cZ rfl bQ (hF.same 5 rfl) (h5.below hB h5.lt)) ⟨rfl,aL⟩
   ·intro _ b a w2 hcb hB0 hF hd;obtain⟨⟨h4,h5,aA⟩,mQ⟩:=hB0;have hB:=bT w2.heap.size w2;refine aO <| aD _ _ _ rfl Tryz.call218 _ (args2 ((hd 5 _ rfl (aj rfl)).1) ((hd 6 _ rfl (aj rfl)).1)) aR ((gG _ _ _ _ ((jF).aU (HF.out.aU HF.out)) rM w2).mono ?_);rintro e w3 ⟨rfl,hb⟩;exact⟨_,rfl,⟨rfl,aL⟩,hb⟩
   ·intro _ b a w2 hcb hB0 hF hd;obtain⟨⟨h4,h5,aA⟩,mQ⟩:=hB0;have hB:=bT w2.heap.size w2;refine aO <| aD _ _ _ rfl Tryz.call204 _ (args1 ((hd 7 _ rfl (aj rfl)).1)) aR ((jY _ _ ((((jF).aU (HF.out.aU HF.out))).dD rM) w2).mono ?_);rintro e w3 ⟨rfl,hb⟩;exact⟨_,rfl,⟨rfl,aL⟩,hb⟩
   ·intro _ b a w2 hcb hB0 hF hd;obtain⟨⟨h4,h5,aA⟩,mQ⟩:=hB0;have hB:=bT w2.heap.size w2;refine aO <| aD _ _ _ rfl Tryz.call203 _ (args2 ((hd 2 _ rfl (aj rfl)).1) ((hd 8 _ rfl (aj rfl)).1)) aR ((bV _ _ _ _ (((HF.out.aU HF.out)).fE rM) (ku ((((jF).aU (HF.out.aU HF.out))).dD rM)) w2).mono ?_);rintro e w3 ⟨rfl,hb⟩;exact⟨_,rfl,⟨rfl,aL⟩,hb⟩
   ·intro _ b a w2 hcb hB0 hF hd;obtain⟨⟨h4,h5,aA⟩,mQ⟩:=hB0;have hB:=bT w2.heap.size w2;refine aO <| aD _ _ _ rfl Tryz.call252 _ (args1 ((hd 9 _ rfl (aj rfl)).1)) aR ((Xg.out w2).mono ?_);rintro e w3 ⟨rfl,hb⟩;exact⟨_,rfl,⟨rfl,aL⟩,hb⟩
   ·intro _ b a w2 hcb hB0 hF hd;obtain⟨⟨h4,h5,aA⟩,mQ⟩:=hB0;have hB:=bT w2.heap.size w2;exact aO <| aT (fV rfl ((hd 10 _ rfl (aj rfl)).1) rfl) ⟨rfl,aL⟩
   ·intro _ b a w2 hcb hB0 hF hd;obtain⟨⟨h4,h5,aA⟩,mQ⟩:=hB0;have hB:=bT w2.heap.size w2;exact aO <| aT (fV rfl ((hd 10 _ rfl (aj rfl)).1) rfl) ⟨rfl,aL⟩
   ·intro _ b a w2 hcb hB0 hF hd;obtain⟨⟨h4,h5,aA⟩,mQ⟩:=hB0;have hB:=bT w2.heap.size w2;refine aO <| bE 191 _ _ rfl .i64 ((w.heap.size+1)) 16 (fun _=>0) (H) bQ (hF.same 2 rfl) ((hd 11 _ rfl (aj rfl)).1) (mQ (hcb rfl)) ?_;exact⟨_,rfl,fun _=>rfl,⟨trivial,fun _=>(mQ (hcb rfl)).setRow _ _⟩,fun⟨p0,p1,p2⟩=>⟨p0.aG _ aH _,p1.aG _ aH _,aC p2 aH _⟩⟩
  ·intro b a w3 hB0 hF hS;have V13:=(hS 13 _ rfl aN).2 rfl;obtain⟨⟨h4,h5,aA⟩,_⟩:=hB0;obtain⟨xl,hxl⟩:∃x,x=a.tmps.getD 3 undef:=⟨_,rfl⟩
   have ha:=aP rfl rfl hF [_,_,_,_,_,_,_,_,_,_,_,_,_,undef,xl] rfl ⟨(hS 0 _ rfl aN).1,(hS 1 _ rfl aN).1,(hS 2 _ rfl aN).1,(hS 3 _ rfl aN).1,(hS 4 _ rfl aN).1,(hS 5 _ rfl aN).1,(hS 6 _ rfl aN).1,(hS 7 _ rfl aN).1,(hS 8 _ rfl aN).1,(hS 9 _ rfl aN).1,(hS 10 _ rfl aN).1,(hS 11 _ rfl aN).1,(hS 12 _ rfl aN).1,trivial,hxl.symm,trivial⟩;simp only[puts,Act.put,dK,dL,dM] at ha;subst ha;clear hS hF hxl;refine wp_assign (.tmp 22) 3 rfl rfl ?_;simp only[Act.put,dK,dL,dM];go_wp2;exact bodyPost_ret (eD rfl _ _ .i64 (w.heap.size+1) 16 _ rfl V13 cZ rfl bQ) rfl ⟨rfl,aA⟩
theorem Bd (f:Nat->Int) (Y:Int) (hf:Fe f Y) (QS:qQ (kX Y)=true) (w:World):Calls Tryz.prog 209 #[El f] w fun e w'=>e=.returned (.tuple #[El (pW (Nc f) (kX Y)),.bool true])/\Below w.heap.size w w':=
 Bf true _ f Y hf (fun w=>Nh (Nc f) (kX Y) (Hw hf) QS w) w
theorem Qp (f:Nat->Int) (Y:Int) (hf:Fe f Y) (QS:qQ (kX Y)=false) (w:World):Calls Tryz.prog 209 #[El f] w fun e w'=>e=.returned (.tuple #[El (fun _=>0),.bool false])/\Below w.heap.size w w':=
 Bf false _ f Y hf (fun w=>QZ (Nc f) (kX Y) (Hw hf) QS w) w
theorem Nb {p:Ed C7} {Y:Int} (hy:toF Y=p.y):Cg (vJ p * vJ p) (kX Y):=by
 refine iA.1 ?_;unfold kX wY;rw[fG,fG,qC];simp only[tY,oH,fG,fI,LB,hy,aaF];refine agB (adx p) (inv_mul ?_);have h:=Nk p;intro e;apply h
 generalize p.y=y at *
 generalize dE=d at *
 grind
theorem BI {p:Ed C7} {Y:Int} (hy:toF Y=p.y):qQ (kX Y)=true:=Oc (Nb hy)
theorem Vy {p:Ed C7} {f:Nat->Int} {Y:Int} (hf:Fe f Y) (hy:toF Y=p.y) (he:vJ p % 2=0):∃R,Fe (pW (Nc f) (kX Y)) R/\toF R=p.x:=by
 obtain⟨R,h1,h2,h3⟩:=JC (Hw hf) (BI hy);refine⟨R,h1,?_⟩;have h4:R * R % Pr=vJ p * vJ p % Pr:=h2.trans (Nb hy).symm;have hb:=mE p.x;have hx:vJ p % Pr=vJ p:=uO hb.1 hb.2;rw[<-aaF];refine iA.2 ?_;rcases Py h4 with h5 | h5
 ·exact h5
 ·by_cases h0:vJ p=0
  ·rw[h0] at h5 ⊢;exact h5
  ·exfalso
   have e: -vJ p % Pr=Pr - vJ p:=by
    have e1: -vJ p % Pr=(Pr - vJ p) % Pr:=kH (c:= -1) aH;rw[e1];have hb':0<=vJ p/\vJ p<Pr:=hb;exact uO aH aH
   rw[h5,e] at h3;have hp:Pr % 2=1:=by decide
   omega
theorem zY {f g:Nat->Int} {X Y:Int} {p:Ed C7} (hf:Fe f X) (hg:Fe g Y) (hx:toF X=p.x) (hy:toF Y=p.y):rD (pt f g (aW 1) (aU f g)) p:=by
 refine⟨f,g,aW 1,aU f g,X,Y,1,X * Y,rfl,⟨hf,hg,rM,hf.aU hg⟩,?_,?_,?_,?_⟩
 ·rw[fI];exact jN
 ·rw[fI,hx];generalize p.x=x;grind
 ·rw[fI,hy];generalize p.y=y;grind
 ·rw[fI,fG,hx,hy];generalize p.x * p.y=z;grind
theorem aaE:Fe (aW 4) 4:=nO _ aN
theorem VI:Fe (aW 5) 5:=nO _ aN
theorem NG:toF (4 * wY 5)=Bp.y:=by
 unfold wY;have h5:toF 5≠0:=rY.2 aN;have h:=iA.2 Fg;rw[fG] at h;have hi:=inv_mul h5;rw[fG,qC];show _=toF BY
 generalize toF 4=a at *
 generalize toF 5=b at *
 generalize toF BY=c at *
 generalize inv b=i at *
 grind
def qZ:Nat->Int:=aU (aW 4) (jL (aW 5))
theorem tu:Fe qZ (4 * wY 5):=aaE.aU (ku VI)
def vE:Nat->Int:=pW (Nc qZ) (kX (4 * wY 5))
theorem KI:∃R,Fe vE R/\toF R=Bp.x:=Vy tu NG (by rw[alT];decide)
def Cm:Nat->Int:=pt vE qZ (aW 1) (aU vE qZ)
theorem GA:rD Cm Bp:=by
 obtain⟨R,h1,h2⟩:=KI;exact zY h1 tu h2 NG
theorem Bg (w:World):Calls Tryz.prog 157 #[] w fun e w'=>e=.returned (Iu Cm)/\Below w.heap.size w w':=by
 have HX:Hid (∃R,Fe vE R):=by obtain⟨R,h,_⟩:=KI;exact⟨R,h⟩
 obtain⟨RX,hRX⟩:=HX.out;have HFX:=ak hRX;have HFY:=ak tu;have HFI:Hid (∀w,Calls Tryz.prog 209 #[.agg (arr .i64 16 qZ)] w fun e w'=>e=.returned (.tuple #[.agg (arr .i64 16 vE),.bool true])/\Below w.heap.size w w'):=fun w=>Bd qZ _ tu (BI NG) w;have HMD:Hid (∀w,Calls Tryz.prog 212 #[.agg (arr .i64 16 vE),.agg (arr .i64 16 qZ)] w fun e w'=>e=.returned (.agg (arr .i64 64 Cm))/\Below w.heap.size w w'):=fun w=>nX _ _ _ _ hRX tu w;have HM:Hid (∀w,Calls Tryz.prog 203 #[.agg (arr .i64 16 (aW 4)),.agg (arr .i64 16 (jL (aW 5)))] w fun e w'=>e=.returned (.agg (arr .i64 16 qZ))/\Below w.heap.size w w'):=fun w=>bV _ _ _ _ aaE (ku VI) w;clear hRX;obtain⟨bxF,hbx⟩:∃x,x=vE:=⟨_,rfl⟩
 obtain⟨byF,hby⟩:∃x,x=qZ:=⟨_,rfl⟩
 obtain⟨bF,hbF⟩:∃x,x=Cm:=⟨_,rfl⟩
 rw[<-hbF] at HMD ⊢;rw[<-hbx] at HFX HFI HMD;rw[<-hby] at HFY HFI HMD HM;clear hbx hby hbF HX
 go_enter Tryz.func157,Tryz.ntmps157
 go_upto_region 1 with(fail);refine aJ (fun w1=>aQ .i64 w1 w.heap.size 64 (fun _=>0)/\Below w.heap.size w w1) ⟨bU rfl (by rfl),(bT _ _).alloc (bB _) _⟩ ?_;rintro w1 ⟨hZ,aA⟩
 refine bG (n:=16) aS aS aS rfl
  (gZ [(5,4)]) (eZ [(5,4)]) (fun _=>arr .i64 16 (fun _=>0)) (fun _=>(arr .i64 16 (byF))) (fun _=>191) (fun _=>1)
  (fun ii vv _=>(match ii with | 0=>vv=.agg (arr .i64 16 (aW 4)) | 1=>vv=.agg (arr .i64 16 (aW 5)) | 2=>vv=.agg (arr .i64 16 (jL (aW 5))) | 3=>vv=.agg (arr .i64 16 (byF)) | _=>True)) (fun _ _=>True) (fun _ _ _=>trivial) (fun _ _ _ _ _ _ _=>trivial) (fun _ _ _ _ h _=>h)
  (fJ rfl) (dU rfl) ?_ ?_ ?_ ?_
 ·refine cB ?_;refine⟨?_,?_,?_,?_,(fun h=>by cases h),(fun _ h=>by cases h),trivial⟩
  ·intro _ _ a w2 hB hF hd;refine aO <| aD _ _ _ rfl Tryz.call200 _ (args1 rfl) aR ((eO 4 w2).mono ?_);rintro e w3 ⟨rfl,hb⟩;exact⟨_,rfl,rfl,hb⟩
  ·intro _ _ a w2 hB hF hd;refine aO <| aD _ _ _ rfl Tryz.call200 _ (args1 rfl) aR ((eO 5 w2).mono ?_);rintro e w3 ⟨rfl,hb⟩;exact⟨_,rfl,rfl,hb⟩
  ·intro _ _ a w2 hB hF hd;refine aO <| aD _ _ _ rfl Tryz.call204 _ (args1 (hd 1 _ rfl rfl rfl (aj rfl))) aR ((jY _ _ VI w2).mono ?_);rintro e w3 ⟨rfl,hb⟩;exact⟨_,rfl,rfl,hb⟩
  ·intro _ _ a w2 hB hF hd;refine aO <| aD _ _ _ rfl Tryz.call203 _ (args2 (hd 0 _ rfl rfl rfl (aj rfl)) (hd 2 _ rfl rfl rfl (aj rfl))) aR ((HM.out w2).mono ?_);rintro e w3 ⟨rfl,hb⟩;exact⟨_,rfl,rfl,hb⟩
 ·refine cB ?_;refine⟨(fun h=>by cases h),(fun h=>by cases h),(fun h=>by cases h),(fun h=>by cases h),?_,(fun h=>by cases h),trivial⟩
  ·exact fun _=>⟨rfl,rfl,fun a w2 K h=>aZ rfl rfl Tryz.zeroValue191 aR h⟩
 ·refine cB ?_;refine⟨(fun _ h=>by cases h),(fun _ h=>by cases h),(fun _ h=>by cases h),(fun _ h=>by cases h),(fun _ h=>by cases h),?_,trivial⟩
  ·intro p hp;obtain rfl:4=p:=iy hp;exact⟨rfl,rfl,⟨_,rfl⟩,aj rfl,fun a w2 b K hB hF hd hx hb h=>bJ rfl rfl bQ hx (hd 3 _ rfl rfl rfl (aj rfl)) hb h⟩
 ·intro a w2 blk hB hF hS hv hfin dw;obtain⟨v4,IE,Lv⟩:=hv 4 _ rfl rfl;have ha:=aP rfl rfl hF [_,_,_,_,_,undef] rfl ⟨hS 0 _ rfl rfl rfl,hS 1 _ rfl rfl rfl,hS 2 _ rfl rfl rfl,hS 3 _ rfl rfl rfl,v4,trivial,trivial⟩;have f4:=hfin 5 _ 4 rfl rfl;simp only[puts,Act.put,dK,dL,dM] at ha;subst ha;have V4:aQ .i64 w2 (blk 4) 16 (byF):=⟨_,f4⟩
  clear hS hv hfin dw hF v4 f4;replace hZ:=hZ.kept hB;replace aA:=aA.trans (hB.mono aA.size);obtain⟨x1,e1⟩:∃x,x=blk 4:=⟨_,rfl⟩
  rw[<-e1] at V4 ⊢;have h1:=V4;clear V4 hB e1 IE Lv;go_upto_region 2 with(fail)
  refine bG (n:=16) aS aS aS rfl
   (gZ [(6,5)]) (eZ [(6,5)]) (fun _=>arr .i64 16 (fun _=>0)) (fun _=>(arr .i64 16 (bxF))) (fun _=>191) (fun _=>2)
   (fun ii vv _=>(match ii with | 0=>vv=.agg (arr .i64 16 (byF)) | 1 | 2=>vv=.tuple #[.agg (arr .i64 16 (bxF)),.bool true] | 3=>vv=.agg (arr .i64 16 (bxF)) | 4 | 7=>vv=.bool true | _=>True)) (fun _ _=>True) (fun _ _ _=>trivial) (fun _ _ _ _ _ _ _=>trivial) (fun _ _ _ _ h _=>h)
   (fJ rfl) (dU rfl) ?_ ?_ ?_ ?_
  ·refine cB ?_;refine⟨?_,?_,?_,?_,?_,(fun h=>by cases h),(fun _ h=>by cases h),?_,trivial⟩
   ·intro _ _ a w2 hB hF hd;exact aO <| aT (aF rfl cZ rfl bQ (hF.same 1 rfl) (h1.below hB h1.lt)) rfl
   ·intro _ _ a w2 hB hF hd;refine aO <| aD _ _ _ rfl Tryz.call209 _ (args1 (hd 0 _ rfl rfl rfl (aj rfl))) aR ((HFI.out w2).mono ?_);rintro e w3 ⟨rfl,hb⟩;exact⟨_,rfl,rfl,hb⟩
   ·intro _ _ a w2 hB hF hd;exact aO <| aB _ (.inl rfl) aR (hd 1 _ rfl rfl rfl (aj rfl))
   ·intro _ _ a w2 hB hF hd;exact aO <| aT (fV rfl (hd 2 _ rfl rfl rfl (aj rfl)) rfl) rfl
   ·intro _ _ a w2 hB hF hd;exact aO <| aT (fV rfl (hd 2 _ rfl rfl rfl (aj rfl)) rfl) rfl
   ·intro _ _ a w2 hB hF hd;exact aO <| aB _ (.inr rfl) aR (hd 4 _ rfl rfl rfl (aj rfl))
  ·refine cB ?_;refine⟨(fun h=>by cases h),(fun h=>by cases h),(fun h=>by cases h),(fun h=>by cases h),(fun h=>by cases h),?_,(fun h=>by cases h),(fun h=>by cases h),trivial⟩
   ·exact fun _=>⟨rfl,rfl,fun a w2 K h=>aZ rfl rfl Tryz.zeroValue191 aR h⟩
  ·refine cB ?_;refine⟨(fun _ h=>by cases h),(fun _ h=>by cases h),(fun _ h=>by cases h),(fun _ h=>by cases h),(fun _ h=>by cases h),(fun _ h=>by cases h),?_,(fun _ h=>by cases h),trivial⟩
   ·intro p hp;obtain rfl:5=p:=iy hp;exact⟨rfl,rfl,⟨_,rfl⟩,aj rfl,fun a w2 b K hB hF hd hx hb h=>bJ rfl rfl bQ hx (hd 3 _ rfl rfl rfl (aj rfl)) hb h⟩
  ·intro a w3 blk hB hF hS hv hfin dw;obtain⟨v5,xQ,FR⟩:=hv 5 _ rfl rfl;have ha:=aP rfl rfl hF [_,_,_,_,_,_,undef,_] rfl ⟨hS 0 _ rfl rfl rfl,hS 1 _ rfl rfl rfl,hS 2 _ rfl rfl rfl,hS 3 _ rfl rfl rfl,hS 4 _ rfl rfl rfl,v5,trivial,hS 7 _ rfl rfl rfl,trivial⟩;have f5:=hfin 6 _ 5 rfl rfl;simp only[puts,Act.put,dK,dL,dM] at ha;subst ha;have V5:aQ .i64 w3 (blk 5) 16 (bxF):=⟨_,f5⟩
   clear hS hv hfin dw hF v5 f5;replace hZ:=hZ.kept hB;replace h1:=h1.kept hB;replace aA:=aA.trans (hB.mono aA.size);obtain⟨x2,e2⟩:∃x,x=blk 5:=⟨_,rfl⟩
   rw[<-e2] at V5 ⊢;have h2:=V5;clear V5 hB e2 xQ FR;go_upto_region 3 with(fail)
   refine dz (n:=16) (fun i=>i==3) aS aS aS aS rfl
    (fun ii vv _=>(match ii with | 0=>vv=.agg (arr .i64 16 (bxF)) | 1=>vv=.agg (arr .i64 16 (byF)) | 2=>vv=.agg (arr .i64 64 (bF)) | _=>True))
    (fun w w'=>Below w.heap.size w w') (fun _ _ h=>h) (fun _ _ _ _ h _=>h)
    (fun _=>w.heap.size) (fun _=>(arr .i64 64 (fun _=>0))) (fun _=>(arr .i64 64 (bF)))
    (by intro i j _ _ dx kL gB;simp only[beq_iff_eq] at dx kL;omega)
    (by intro i _ dx;exact(hZ).row)
    ?_ ?_ ?_
   ·refine cB ?_;refine⟨?_,?_,?_,(aL),trivial⟩
    ·intro _ a w2 hB hF hd;exact aO <| aT (aF rfl cZ rfl bQ (hF.same 2 rfl) (h2.below hB h2.lt)) rfl
    ·intro _ a w2 hB hF hd;exact aO <| aT (aF rfl cZ rfl bQ (hF.same 1 rfl) (h1.below hB h1.lt)) rfl
    ·intro _ a w2 hB hF hd;refine aO <| aD _ _ _ rfl Tryz.call212 _ (args2 (hd 0 _ rfl rfl (aj rfl)) (hd 1 _ rfl rfl (aj rfl))) aR ((HMD.out w2).mono ?_);rintro e w3 ⟨rfl,hb⟩;exact⟨_,rfl,rfl,hb⟩
   ·refine cB ?_;refine⟨(aL),(aL),(aL),?_,trivial⟩
    ·intro _ a w1 w2 K hB hF hS hr hK;exact bE 193 _ _ rfl .i64 (w.heap.size) 64 (fun _=>0) (bF) Tryz.size193 (hF.same 0 rfl) (hS 2 _ rfl rfl) hr hK
   ·intro a wf w4 hB hF hS hfil;have other:∀{k:IntKind} {qb n:Nat} {f:Nat->Int},qb≠w.heap.size->aQ k wf qb n f->aQ k w4 qb n f:=fun {k qb n f} e0 hA=>hfil.arr (by intro i _ dx;simp only[mP,beq_iff_eq] at dx;subst dx<;> ((try simp only[]);(try dsimp only);omega)) hA;have dI:∀{B:Nat} {w0:World},B<=w.heap.size->Below B w0 wf->Below B w0 w4:=fun {B w0} e0 hA=>hfil.below (by intro i _ dx;simp only[mP,beq_iff_eq] at dx;subst dx<;> ((try simp only[]);(try dsimp only);omega)) hA;have V3:aQ .i64 w4 (w.heap.size) 64 (bF):=hfil.at 3 aN rfl;have qh:=hfil.size;clear hfil;have ha:=aP rfl rfl hF [_,_,_,undef] rfl ⟨hS 0 _ rfl rfl,hS 1 _ rfl rfl,hS 2 _ rfl rfl,trivial,trivial⟩;simp only[puts,Act.put,dK,dL,dM] at ha;subst ha;clear hS hF;have hb:=dI (bB _) (aA.trans (hB.mono aA.size));go_wp2;exact bodyPost_ret (dG rfl _ _ .i64 w.heap.size 64 _ rfl V3 vH rfl Tryz.size193) rfl ⟨rfl,hb⟩
end Go.Proofs.YtpcjekgfnfjbpaaGreat
namespace Go.Proofs.YtpcjekgfnfjbpaaGreat
open Go.bC
theorem abt:toF dR=dE:=by
 unfold dR dE;rw[tY,fG,qC,gQ]
 generalize toF 121665 * inv (toF 121666)=a
 grind
end Go.Proofs.YtpcjekgfnfjbpaaGreat
namespace Go.Proofs.YtpcjekgfnfjbpaaGreat
open Go.RowKit Go.bC Go.ChangeShapes
attribute [local go_sem ↓] Go.wp_at_zero Go.wp_at_succ
theorem YI (X:Int):Int.tmod (dg 65536 X 0) 2=X % 2:=by
 have h:dg 65536 X 0=X % 65536:=by show X / 65536 ^ 0 % 65536= _;rw[Int.pow_zero,Int.ediv_one]
 rw[h,Int.tmod_eq_emod_of_nonneg aH];omega
theorem JH (x y z:Value) (X Y Z VX VY:Int) (w:World) (hx:Rd .i64 w x 16 (dg 65536 (X % Pr))) (hy:Rd .i64 w y 16 (dg 65536 (Y % Pr))) (hz:Rd .i64 w z 16 (dg 65536 (Z % Pr))) (ex:X * Z ^ (PN - 2) % Pr=VX) (ey:Y * Z ^ (PN - 2) % Pr=VY):
  Calls Tryz.prog 98 #[.agg #[x,y,z]] w fun e w'=>e=.returned (.agg (arr .u8 32 (dg 256 (VY+(VX % 2) * 2 ^ 255))))/\Below w.heap.size w w':=by
 have Vr:0<=VY/\VY<2 ^ 255:=by(rw[<-ey];have h1:=Bw (Y * Z ^ (PN - 2));have h2:Pr<2 ^ 255:=by decide);exact⟨h1.1,by omega⟩
 have HHI:=ak (Ch VY Vr.1 Vr.2);have HTS:=ak (xV VY Vr.1 Vr.2);have EX:=ak ex;have EY:=ak ey;obtain⟨x1,x2,x3,ex0⟩:=hx.isSlice;subst ex0;obtain⟨y1,y2,y3,ey0⟩:=hy.isSlice;subst ey0;obtain⟨z1,z2,z3,ez0⟩:=hz.isSlice;subst ez0;have Hx:=ak hx;have Hy:=ak hy;have Hz:=ak hz;clear hx hy hz ex ey Vr
 go_enter Tryz.func98,Tryz.ntmps98
 go_upto_region 1 with(fail);refine aJ (fun w1=>fB w1 w.heap.size #[.slice x1 x2 x3,.slice y1 y2 y3,.slice z1 z2 z3] /\aQ .u8 w1 (w.heap.size+1) 32 (fun _=>0)/\Below w.heap.size w w1) ⟨.alloc (fB.newAt rfl) _,bU (by first | omega | (simp<;> omega)) (by rfl),((bT _ _).alloc (bB _) _).alloc (by first | omega | (simp<;> omega)) _⟩ ?_;rintro w1 ⟨fQ,hZ,aA⟩;replace Hx:=ak (Hx.out.below aA);replace Hy:=ak (Hy.out.below aA);replace Hz:=ak (Hz.out.below aA);have e10:=fQ.cell 0 rfl;have e11:=fQ.cell 1 rfl;have e12:=fQ.cell 2 rfl;go_wp2_with fail;refine(Ba _ Z _ Hz.out).mono ?_;rintro e aja ⟨vi,rfl,hv,hb⟩;have Hi:=ak hv;replace Hx:=ak (Hx.out.below hb);replace Hy:=ak (Hy.out.below hb);replace Hz:=ak (Hz.out.below hb);replace fQ:=fQ.kept hb;replace hZ:=hZ.kept hb;replace e10:=fQ.cell 0 rfl;replace e11:=fQ.cell 1 rfl;replace e12:=fQ.cell 2 rfl;replace aA:=aA.trans (hb.mono aA.size);clear hv hb;go_wp2_with fail;refine(dF X (Z ^ (PN - 2)) _ _ _ Hx.out Hi.out).mono ?_;rintro e aiZ ⟨vm,rfl,hv,hb⟩;have Hm:=ak hv;replace Hx:=ak (Hx.out.below hb);replace Hy:=ak (Hy.out.below hb);replace Hz:=ak (Hz.out.below hb);replace Hi:=ak (Hi.out.below hb);replace fQ:=fQ.kept hb;replace hZ:=hZ.kept hb;replace e10:=fQ.cell 0 rfl;replace e11:=fQ.cell 1 rfl;replace e12:=fQ.cell 2 rfl;replace aA:=aA.trans (hb.mono aA.size);clear hv hb;go_wp2_with fail;refine(dF Y (Z ^ (PN - 2)) _ _ _ Hy.out Hi.out).mono ?_;rintro e apC ⟨vn,rfl,hv,hb⟩;have Hn:=ak hv;replace Hx:=ak (Hx.out.below hb);replace Hy:=ak (Hy.out.below hb);replace Hz:=ak (Hz.out.below hb);replace Hi:=ak (Hi.out.below hb);replace Hm:=ak (Hm.out.below hb);replace fQ:=fQ.kept hb;replace hZ:=hZ.kept hb;replace e10:=fQ.cell 0 rfl;replace e11:=fQ.cell 1 rfl;replace e12:=fQ.cell 2 rfl;replace aA:=aA.trans (hb.mono aA.size);clear hv hb;rw[EX.out] at Hm;rw[EY.out] at Hn;go_wp2_with fail;refine(kr _ VY 16 aN _ Hn.out).mono ?_;rintro e Sn ⟨rfl,hb⟩;replace Hx:=ak (Hx.out.below hb);replace Hy:=ak (Hy.out.below hb);replace Hz:=ak (Hz.out.below hb);replace Hi:=ak (Hi.out.below hb);replace Hm:=ak (Hm.out.below hb);replace Hn:=ak (Hn.out.below hb);replace fQ:=fQ.kept hb;replace hZ:=hZ.kept hb;replace e10:=fQ.cell 0 rfl;replace e11:=fQ.cell 1 rfl;replace e12:=fQ.cell 2 rfl;replace aA:=aA.trans (hb.mono aA.size);clear hb;have hzl:=hZ.lt;go_upto_region 4 with(refine aM rfl 22 _ _ rfl .u8 Sn.heap.size 32 (fun _=>0) (dg 256 VY) dh rfl rfl (bU rfl (by rfl)) ?_)
 refine aJ (fun w2=>aQ .u8 w2 Sn.heap.size 32 (dg 256 VY)/\aQ .u8 w2 (w.heap.size+1) 32 (fun _=>0)/\Below Sn.heap.size Sn w2)
  ⟨(bU rfl (by rfl):aQ .u8 _ _ 32 (fun _=>0)).setRow _ _,aQ.aG (aQ.alloc hZ _) _ aH _,aC ((bT _ _).alloc (bB _) _) (bB _) _⟩ ?_
 rintro w2 ⟨h5,gy,dP⟩;replace Hm:=ak (Hm.out.below dP);replace aA:=aA.trans (dP.mono aA.size);obtain⟨b5,iX⟩:∃b,b=Sn.heap.size:=⟨_,rfl⟩
 rw[<-iX] at h5 hzl ⊢;clear iX hZ dP fQ e10 e11 e12
 try simp only[Act.put,dK,dL,dM]
 obtain⟨am,cm,em,m1,m2,m3,m4⟩:=Hm.out;obtain⟨bm,om,rfl,mlt,mc⟩:=m4 aN;have ec:=mc 0 aN;rw[Nat.add_zero] at ec;have kM:=YI VX;obtain⟨t,ht⟩:∃t,t=dg 65536 VX 0:=⟨_,rfl⟩
 rw[<-ht] at ec kM;subst em;clear mc ht Hm m4;have e1:=h5.cell 31 aN;have f1:=h5.free 31;obtain⟨s0,s1⟩:=HTS.out;obtain⟨s,hs⟩:∃s,s=dg 256 VY 31:=⟨_,rfl⟩
 rw[<-hs] at e1 s0 s1;have HS:=ak hs;clear hs;have H5:=ak h5;rcases(by omega:VX % 2=0\/VX % 2=1) with ho | ho
 ·have HO:=ak ho;rw[ho] at kM;have h6:aQ .u8 w2 b5 32 (dg 256 (VY+(VX % 2) * 2 ^ 255)):=by rw[HO.out,Int.zero_mul,Int.add_zero];exact H5.out
  obtain⟨RR,hRR⟩:∃R,R=VY+(VX % 2) * 2 ^ 255:=⟨_,rfl⟩
  rw[<-hRR] at h6;have HRR:=ak hRR;clear hRR ho h5;go_wp2_with (first | (refine bq rfl 22 _ rfl .u8 b5 32 (dg 256 RR) 5 dY dh rfl h6 ?_) | (refine aM rfl 22 _ _ rfl .u8 (w.heap.size+1) 32 (fun _=>0) (dg 256 RR) dh rfl rfl gy ?_));exact bodyPost_ret (bg rfl _ _ .u8 (w.heap.size+1) 32 _ 5 rfl (gy.setRow 32 (dg 256 RR)) dY dh) rfl ⟨by rw[HRR.out],aC aA aH _⟩
 ·have HO:=ak ho;rw[ho] at kM;clear ho h5;go_upto_region 6 with(fail);refine aJ (fun w9=>aQ .u8 w9 b5 32 (dg 256 (VY+(VX % 2) * 2 ^ 255))/\aQ .u8 w9 (w.heap.size+1) 32 (fun _=>0)/\Below w.heap.size w w9) ⟨(H5.out.set 31 (s+128)).congr (fun i hi=>by rw[HS.out,HO.out];exact HHI.out i hi),gy.other (by first | omega | (simp<;> omega)) _,aA.setCell (by first | omega | (simp<;> omega)) _⟩ ?_;rintro w9 ⟨h6,gy,aA⟩
  try simp only[Act.put,dK,dL,dM]
  obtain⟨RR,hRR⟩:∃R,R=VY+(VX % 2) * 2 ^ 255:=⟨_,rfl⟩
  rw[<-hRR] at h6;have HRR:=ak hRR;clear hRR;go_wp2_with (first | (refine bq rfl 22 _ rfl .u8 b5 32 (dg 256 RR) 5 dY dh rfl h6 ?_) | (refine aM rfl 22 _ _ rfl .u8 (w.heap.size+1) 32 (fun _=>0) (dg 256 RR) dh rfl rfl gy ?_));exact bodyPost_ret (bg rfl _ _ .u8 (w.heap.size+1) 32 _ 5 rfl (gy.setRow 32 (dg 256 RR)) dY dh) rfl ⟨by rw[HRR.out],aC aA aH _⟩
theorem Mf (w:World):Calls Tryz.prog 100 #[] w fun e w'=> ∃a b c,e=.returned (.agg #[a,b,c])/\(Rd .i64 w' a 16 (dg 65536 (BX % Pr))/\Rd .i64 w' b 16 (dg 65536 (4 * 5 ^ (PN - 2) % Pr))/\Rd .i64 w' c 16 (dg 65536 (1 % Pr)))/\Below w.heap.size w w':=by
 go_enter Tryz.func100,Tryz.ntmps100
 go_upto_region 1 with(fail);refine aJ (fun w1=>fB w1 w.heap.size #[.slice none 0 0,.slice none 0 0,.slice none 0 0] /\Below w.heap.size w w1) ⟨fB.newAt rfl,(bT _ _).alloc (bB _) _⟩ ?_;rintro w1 ⟨hR,aA⟩;have hl1:=hR.lt;go_upto_region 3 with(refine iB rfl _ _ 142 rfl w1.heap.size 3 .i64 8 uP xJ .i64 .i64 16 rfl rfl aN aN (bB _) ?_;intro w2 bM bA);have dP:Below w1.heap.size w1 w2:=dW (bT _ _) bA (bB _);replace hR:=hR.kept dP;have hl:=hR.lt;have hsz1:=aA.size;obtain⟨G,hG⟩:∃G,G=w1.heap.size:=⟨_,rfl⟩
 rw[<-hG] at bM hsz1 ⊢;have hGl:w.heap.size<G:=by rw[hG];exact hl1
 replace aA:=aA.trans (dP.mono (by have:=aA.size;omega));clear hG dP bA;go_wp2
 go_loopw [3] (fun i wr=> ∃k:Nat,k<=77/\i=.int .i64 (k:Int)/\Go.bC.Own .i64 3 G wr (.slice (some ⟨G,0,none⟩) 16 16) 16 (dg 65536 (TT k))/\fB wr w.heap.size #[.slice none 0 0,.slice none 0 0,.slice none 0 0] /\Below w.heap.size w wr) (fun i _=>77 - (intOf i).toNat)
 case atStart=>exact⟨0,gX _,rfl,bM.congr (fun i _=>by show (0:Int)=0 / 65536 ^ i % 65536;rw[Int.zero_ediv];rfl),hR,aA⟩
 case round=>
  clear bM hR aA;obtain⟨k,hk,rfl,ho,hR,aA⟩:=hrel
  rename_i wr
  by_cases hlt:k<77
  ·have hd:=Rw k hlt;obtain⟨X,hX⟩:∃X,X=TT k:=⟨_,rfl⟩
   have HX:Hid (TT (k+1)=10 * X+(jJ qy k - 48)):=by rw[hX];rfl
   rw[<-hX] at ho;have Xb:=ak ru;go_upto_region 4 with(fail)
   refine aX (n:=43) aS aS aS rfl
    (fun ii vv _=>(match ii with | 0=>vv=.int .i64 ((k:Int)) | 1=>vv=.string qy | 2=>vv=.int .i64 ((qy.size:Int)) | 3=>vv=.bool true | _=>True))
    (fun w w'=>Below w.heap.size w w') (fun _ _ h=>h) (fun _ _ _ _ h _=>h) ?_ ?_
   ·refine cB ?_;refine⟨?_,?_,?_,?_,trivial⟩
    ·intro a w2 hB hF hd;exact aO <| aB _ (.inl rfl) aR (hF.same 3 rfl)
    ·intro a w2 hB hF hd;exact aO <| aB _ (.inl rfl) aR (hF.same 1 rfl)
    ·intro a w2 hB hF hd;exact aO <| aT (lY rfl (hd 1 _ rfl (aj rfl)) Tryz.underlying9) rfl
    ·intro a w2 hB hF hd;exact aO <| aT (Go.bC.Og rfl (hd 0 _ rfl (aj rfl)) (hd 2 _ rfl (aj rfl))) (congrArg Value.bool (decide_eq_true (by rw[ru];omega)))
   ·intro a w3 hB hF hS;have ha:=aP rfl rfl hF [_,_,_,_] rfl ⟨hS 0 _ rfl,hS 1 _ rfl,hS 2 _ rfl,hS 3 _ rfl,trivial⟩;simp only[puts,Act.put,dK,dL,dM] at ha;subst ha;clear hS hF;have gU:=aA.trans (hB.mono aA.size);replace hR:=hR.kept hB;have ho3:=ho.below hB;go_upto_region 6 with(fail);have hpk:((k:Int)).toNat=k:=Ct k;obtain⟨sc,hsc⟩:∃sc,sc=jJ qy k:=⟨_,rfl⟩
    rw[<-hsc] at hd HX;have HSC:=ak hsc;clear hB aA ho hsc
    refine aX (n:=43) aS aS aS rfl
     (fun ii vv _=>(match ii with | 0=>vv=.string qy | 1=>vv=.int .i64 ((k:Int)) | 2=>vv=.int .u8 (sc) | 3=>vv=.int .i64 (sc) | 4 | 5=>vv=.int .i64 (sc - 48) | _=>True))
     (fun w w'=>Below w.heap.size w w') (fun _ _ h=>h) (fun _ _ _ _ h _=>h) ?_ ?_
    ·refine cB ?_;refine⟨?_,?_,?_,?_,?_,?_,trivial⟩
     ·intro a w2 hB hF hd;exact aO <| aB _ (.inl rfl) aR (hF.same 1 rfl)
     ·intro a w2 hB hF hd;exact aO <| aB _ (.inl rfl) aR (hF.same 3 rfl)
     ·intro a w2 hB hF hd;exact aO <| aT (Dr rfl (hd 0 _ rfl (aj rfl)) (hd 1 _ rfl (aj rfl)) Tryz.underlying9 aH (by rw[ru];omega)) (congrArg (Value.int .u8) (by rw[hpk,HSC.out]))
     ·intro a w2 hB hF hd;exact aO <| aT (kU rfl (hd 2 _ rfl (aj rfl)) Tryz.underlying5 Tryz.underlying3) (congrArg (Value.int .i64) (bI aH aH))
     ·intro a w2 hB hF hd;exact aO <| aT (Go.bC.kS rfl (hd 3 _ rfl (aj rfl)) rfl) (congrArg (Value.int .i64) (bI aH aH))
     ·intro a w2 hB hF hd;exact aO <| aB _ (.inr rfl) aR (hd 4 _ rfl (aj rfl))
    ·intro a w4 hB hF hS;have ha:=aP rfl rfl hF [_,_,_,_,_,_] rfl ⟨hS 0 _ rfl,hS 1 _ rfl,hS 2 _ rfl,hS 3 _ rfl,hS 4 _ rfl,hS 5 _ rfl,trivial⟩;simp only[puts,Act.put,dK,dL,dM] at ha;subst ha;clear hS hF;replace hR:=hR.kept hB;have Sc:=ho3.below hB;replace gU:=gU.trans (hB.mono gU.size);obtain⟨c,hc⟩:∃c,c=sc - 48:=⟨_,rfl⟩
     rw[<-hc] at HX ⊢;have hc0:0<=c/\c<=9:=by omega
     clear hB ho3 hc hd HSC hpk hX;go_wp2
     go_loopw [4,5] (fun cc j wr=> ∃t:Nat,t<=16/\j=.int .i64 (t:Int)/\cc=.int .i64 (qx X c t)/\Go.bC.Own .i64 3 G wr (.slice (some ⟨G,0,none⟩) 16 16) 16 (upto t (dg 65536 (10 * X+c)) (dg 65536 X))/\fB wr w.heap.size #[.slice none 0 0,.slice none 0 0,.slice none 0 0] /\Below w.heap.size w wr) (fun _ j _=>16 - (intOf j).toNat)
     case atStart=>exact⟨0,gX _,rfl,by rw[Nv],by rw[dH];exact Sc,hR,gU⟩
     case round=>
      clear Sc hR gU;obtain⟨t,ht,rfl,rfl,ho,hR,aA⟩:=hrel;by_cases hlt2:t<16
      ·obtain⟨g,cp,he,hg0,hgl,hc16,hcc,hcell,hfree⟩:=ho.form aN;simp only[DV,CO,Addr.mk.injEq] at he;obtain⟨⟨rfl,q1⟩,q2⟩:=he;have e1:=hcell t hlt2;have f1:=hfree t;rw[upto_at] at e1;obtain⟨d0,d1⟩:=aV (by decide:(0:Int)<65536) X t;obtain⟨s1,s2⟩:=Nw X c t;obtain⟨b0,b1⟩:=KU (X:=X) hc0.1 hc0.2 t;obtain⟨d,hd⟩:∃d,d=dg 65536 X t:=⟨_,rfl⟩
       obtain⟨q,hq⟩:∃q,q=qx X c t:=⟨_,rfl⟩
       rw[<-hd] at e1 d0 d1 s1 s2;rw[<-hq] at b0 b1 s1 s2 ⊢;have S1:=ak s1;have S2:=ak s2;have HO:=ak ho;clear hcell hfree q1 q2 hd hq s1 s2 ho hc16 hcc;go_wp2;go_roundw
       case rel=>exact⟨t+1,by omega,by go_num,by rw[S2.out],by rw[<-bW S1.out];exact HO.out.store t _,hR.other aH _,aA.setCell aH _⟩
       case measure=>simp[intOf] <;> omega
      ·obtain rfl:t=16:=by omega
       have ho5:=ho.congr (dQ _ _ (bB _));have HO:=ak ho5;clear ho ho5;go_wp2;go_roundw
       case rel=>exact⟨k+1,by omega,by go_num,by rw[HX.out];exact HO.out,hR,aA⟩
       case measure=>simp[intOf] <;> omega
  ·obtain rfl:k=77:=by omega
   rw[Ye] at ho;have HO:=ak ho;clear ho;go_upto_region 4 with(fail)
   refine aX (n:=43) aS aS aS rfl
    (fun ii vv _=>(match ii with | 0=>vv=.int .i64 (((77:Nat):Int)) | 1=>vv=.string qy | 2=>vv=.int .i64 ((qy.size:Int)) | 3=>vv=.bool false | _=>True))
    (fun w w'=>Below w.heap.size w w') (fun _ _ h=>h) (fun _ _ _ _ h _=>h) ?_ ?_
   ·refine cB ?_;refine⟨?_,?_,?_,?_,trivial⟩
    ·intro a w2 hB hF hd;exact aO <| aB _ (.inl rfl) aR (hF.same 3 rfl)
    ·intro a w2 hB hF hd;exact aO <| aB _ (.inl rfl) aR (hF.same 1 rfl)
    ·intro a w2 hB hF hd;exact aO <| aT (lY rfl (hd 1 _ rfl (aj rfl)) Tryz.underlying9) rfl
    ·intro a w2 hB hF hd;exact aO <| aT (Go.bC.Og rfl (hd 0 _ rfl (aj rfl)) (hd 2 _ rfl (aj rfl))) (congrArg Value.bool (decide_eq_false (by rw[ru];omega)))
   ·intro a w3 hB hF hS;have ha:=aP rfl rfl hF [_,_,_,_] rfl ⟨hS 0 _ rfl,hS 1 _ rfl,hS 2 _ rfl,hS 3 _ rfl,trivial⟩;simp only[puts,Act.put,dK,dL,dM] at ha;subst ha;clear hS hF;have Hx:Hid (Rd .i64 w3 (.slice (some ⟨G,0,none⟩) 16 16) 16 (dg 65536 (BX % Pr))):=by
     have h:=(HO.out.below hB).rd
     rwa [show BX % Pr=BX by decide]
    replace hR:=hR.kept hB;replace aA:=aA.trans (hB.mono aA.size);clear hB HO;go_wp2_with fail;refine(nK 4 aN aN aN _).mono ?_;rintro e apE ⟨v4,rfl,hv,hb⟩;have H4:=ak hv;replace Hx:=ak (Hx.out.below hb);replace hR:=hR.kept hb;replace aA:=aA.trans (hb.mono aA.size);clear hv hb;go_wp2_with fail;refine(nK 5 aN aN aN _).mono ?_;rintro e apD ⟨v5,rfl,hv,hb⟩;have H5:=ak hv;replace Hx:=ak (Hx.out.below hb);replace H4:=ak (H4.out.below hb);replace hR:=hR.kept hb;replace aA:=aA.trans (hb.mono aA.size);clear hv hb;go_wp2_with fail;refine(Ba _ 5 _ H5.out).mono ?_;rintro e aja ⟨vi,rfl,hv,hb⟩;have Hi:=ak hv;replace Hx:=ak (Hx.out.below hb);replace H4:=ak (H4.out.below hb);replace H5:=ak (H5.out.below hb);replace hR:=hR.kept hb;replace aA:=aA.trans (hb.mono aA.size);clear hv hb;go_wp2_with fail;refine(dF 4 (5 ^ (PN - 2)) _ _ _ H4.out Hi.out).mono ?_;rintro e aiZ ⟨vm,rfl,hv,hb⟩;have Hm:=ak hv;replace Hx:=ak (Hx.out.below hb);replace H4:=ak (H4.out.below hb);replace H5:=ak (H5.out.below hb);replace Hi:=ak (Hi.out.below hb);replace hR:=hR.kept hb;replace aA:=aA.trans (hb.mono aA.size);clear hv hb;go_wp2_with fail;refine(Oo _ _ (BX % Pr) (4 * 5 ^ (PN - 2) % Pr) _ Hx.out Hm.out).mono ?_;rintro e apB ⟨vz,rfl,hv,hb⟩;have Hz:=ak hv;replace Hx:=ak (Hx.out.below hb);replace H4:=ak (H4.out.below hb);replace H5:=ak (H5.out.below hb);replace Hi:=ak (Hi.out.below hb);replace Hm:=ak (Hm.out.below hb);replace hR:=hR.kept hb;replace aA:=aA.trans (hb.mono aA.size);clear hv hb;obtain⟨ma,mb,mc,em⟩:=Hm.out.isSlice;subst em;obtain⟨za,zb,zc,ez⟩:=Hz.out.isSlice;subst ez;have e30:=hR.cell 0 rfl;have f30:=hR.free 0;have e31:=hR.cell 1 rfl;have f31:=hR.free 1;have e32:=hR.cell 2 rfl;have f32:=hR.free 2;have HR3:=ak hR;clear hR;go_wp2;have hrow:=HR3.out.AJ (Value.slice (some ⟨G,0,none⟩) 16 16) (Value.slice ma mb mc) (Value.slice za zb zc);have rx:=Hx.out.AJ (v1:=(Value.slice (some ⟨G,0,none⟩) 16 16)) (v2:=(Value.slice ma mb mc)) (v3:=(Value.slice za zb zc)) HR3.out ⟨_,_,_,rfl⟩ ⟨_,_,_,rfl⟩ ⟨_,_,_,rfl⟩ ⟨_,_,_,rfl⟩ ⟨_,_,_,rfl⟩;have rm:=Hm.out.AJ (v1:=(Value.slice (some ⟨G,0,none⟩) 16 16)) (v2:=(Value.slice ma mb mc)) (v3:=(Value.slice za zb zc)) HR3.out ⟨_,_,_,rfl⟩ ⟨_,_,_,rfl⟩ ⟨_,_,_,rfl⟩ ⟨_,_,_,rfl⟩ ⟨_,_,_,rfl⟩;have rz:=Hz.out.AJ (v1:=(Value.slice (some ⟨G,0,none⟩) 16 16)) (v2:=(Value.slice ma mb mc)) (v3:=(Value.slice za zb zc)) HR3.out ⟨_,_,_,rfl⟩ ⟨_,_,_,rfl⟩ ⟨_,_,_,rfl⟩ ⟨_,_,_,rfl⟩ ⟨_,_,_,rfl⟩;exact bodyPost_ret (nD rfl _ _ w.heap.size _ rfl hrow Tryz.underlying144 rfl Tryz.size144) rfl ⟨_,_,_,rfl,⟨rx,rm,rz⟩,vD (bB _) aA _ _ _⟩
def RF (w:World) (b g:Nat) (vd:Value) (N:Int) (p:Ed C7) (n m:Nat):Prop:=∃r1 n1 c1 r2 n2 c2 r3 n3 c3 s1 m1 d1 s2 m2 d2 s3 m3 d3,fB w b #[.slice r1 n1 c1,.slice r2 n2 c2,.slice r3 n3 c3] /\FH w (.slice r1 n1 c1) (.slice r2 n2 c2) (.slice r3 n3 c3) (p.mul (2 ^ m))/\
 fB w g #[.slice s1 m1 d1,.slice s2 m2 d2,.slice s3 m3 d3] /\FH w (.slice s1 m1 d1) (.slice s2 m2 d2) (.slice s3 m3 d3) (p.mul (n % 2 ^ m))/\fB w (b+2) #[.slice none 0 0,.slice none 0 0,.slice none 0 0] /\aQ .u8 w (b+1) 32 (dg 256 N)/\Rd .i64 w vd 16 (dg 65536 (dR % Pr))
theorem TJ {x y z u v r d:Value} {p q:Ed C7} (w:World) (hp:FH w x y z p) (hq:FH w u v r q) (hd:Rd .i64 w d 16 (dg 65536 (dR % Pr))):
  Calls Tryz.prog 150 #[.agg #[x,y,z],.agg #[u,v,r],d] w fun e w'=> ∃r1 n1 c1 r2 n2 c2 r3 n3 c3,e=.returned (.agg #[.slice r1 n1 c1,.slice r2 n2 c2,.slice r3 n3 c3])/\FH w' (.slice r1 n1 c1) (.slice r2 n2 c2) (.slice r3 n3 c3) (p.add q)/\Below w.heap.size w w':=by
 obtain⟨X,Y,Z,h0,h1,h2,h3⟩:=hp;obtain⟨U,V,R,k0,k1,k2,k3⟩:=hq;refine(TI x y z u v r d X Y Z U V R dR w h1 h2 h3 k1 k2 k3 hd).mono ?_;rintro e w' ⟨a,b,c,rfl,⟨g1,g2,g3⟩,hb⟩;obtain⟨a1,a2,a3,rfl⟩:=g1.isSlice;obtain⟨b1,b2,b3,rfl⟩:=g2.isSlice;obtain⟨c1,c2,c3,rfl⟩:=g3.isSlice;exact⟨_,_,_,_,_,_,_,_,_,rfl,⟨_,_,_,h0.add k0 abt,g1,g2,g3⟩,hb⟩
theorem TD (x y z:Value) (p:Ed C7) (n:Nat) (hn:n<2 ^ 256) (w:World) (hp:FH w x y z p):
  Calls Tryz.prog 99 #[.agg #[x,y,z],.agg (arr .u8 32 (dg 256 (n:Int)))] w fun e w'=> ∃a b c,e=.returned (.agg #[a,b,c])/\FH w' a b c (p.mul n)/\Below w.heap.size w w':=by
 obtain⟨⟨x1,x2,x3,ex⟩,⟨y1,y2,y3,ey⟩,⟨z1,z2,z3,ez⟩⟩:=hp.slices;subst ex;subst ey;subst ez;have HP:=ak hp;have aaQ:=ak hn;obtain⟨N,hN⟩:∃N,N=(n:Int):=⟨_,rfl⟩
 have Ll:=ak hN;rw[<-hN];clear hp hn hN
 go_enter Tryz.func99,Tryz.ntmps99
 go_upto_region 1 with(fail);refine aJ (fun w1=>fB w1 w.heap.size #[(.slice x1 x2 x3),(.slice y1 y2 y3),(.slice z1 z2 z3)] /\aQ .u8 w1 (w.heap.size+1) 32 (dg 256 N)/\fB w1 (w.heap.size+2) #[.slice none 0 0,.slice none 0 0,.slice none 0 0] /\Below w.heap.size w w1) ⟨.alloc (.alloc (fB.newAt rfl) _) _,.alloc (bU (by first | omega | (simp<;> omega)) rfl) _,fB.newAt (by first | omega | (simp<;> omega)),(((bT _ _).alloc (bB _) _).alloc (by first | omega | (simp<;> omega)) _).alloc (by first | omega | (simp<;> omega)) _⟩ ?_;rintro w1 ⟨h2,h3,h4,aA⟩;replace HP:=ak (HP.out.below aA);go_wp2_with fail;refine(abJ _).mono ?_;rintro e wd ⟨vd,rfl,hv,hb⟩;have Hd:=ak hv;replace HP:=ak (HP.out.below hb);replace h2:=h2.kept hb;replace h3:=h3.kept hb;replace h4:=h4.kept hb;replace aA:=aA.trans (hb.mono aA.size);clear hv hb;go_wp2_with fail;refine(nK 0 aN aN aN _).mono ?_;rintro e w_0 ⟨v0,rfl,hv,hb⟩;have H0:=ak hv;replace Hd:=ak (Hd.out.below hb);replace HP:=ak (HP.out.below hb);replace h2:=h2.kept hb;replace h3:=h3.kept hb;replace h4:=h4.kept hb;replace aA:=aA.trans (hb.mono aA.size);clear hv hb;go_wp2_with fail;refine(nK 1 aN aN aN _).mono ?_;rintro e w_1 ⟨v1,rfl,hv,hb⟩;have H1:=ak hv;replace H0:=ak (H0.out.below hb);replace Hd:=ak (Hd.out.below hb);replace HP:=ak (HP.out.below hb);replace h2:=h2.kept hb;replace h3:=h3.kept hb;replace h4:=h4.kept hb;replace aA:=aA.trans (hb.mono aA.size);clear hv hb;go_wp2_with fail;refine(Oo _ _ (0 % Pr) (1 % Pr) _ H0.out H1.out).mono ?_;rintro e w_2 ⟨vz,rfl,hv,hb⟩;replace H1:=ak (H1.out.below hb);replace H0:=ak (H0.out.below hb);replace Hd:=ak (Hd.out.below hb);replace HP:=ak (HP.out.below hb);replace h2:=h2.kept hb;replace h3:=h3.kept hb;replace h4:=h4.kept hb;replace aA:=aA.trans (hb.mono aA.size);have HO:FH w_2 v0 v1 vz .zero:=⟨0,1,1,uF.zero,H0.out,H1.out,hv⟩
 clear hv hb H0 H1;obtain⟨⟨s1,m1,d1,e1⟩,⟨s2,m2,d2,e2⟩,⟨s3,m3,d3,e3⟩⟩:=HO.slices;subst e1;subst e2;subst e3;have HO:=ak HO;go_upto_region 3 with(refine nU rfl 144 _ _ rfl w_2.heap.size #[.slice none 0 0,.slice none 0 0,.slice none 0 0] #[.slice s1 m1 d1,.slice s2 m2 d2,.slice s3 m3 d3] rfl (TY ⟨_,_,_,rfl⟩ ⟨_,_,_,rfl⟩ ⟨_,_,_,rfl⟩) Tryz.size144 rfl rfl (fB.newAt rfl) ?_);refine aJ (fun w6=>fB w6 w_2.heap.size #[.slice s1 m1 d1,.slice s2 m2 d2,.slice s3 m3 d3] /\Below w_2.heap.size w_2 w6) ⟨(fB.newAt rfl:fB _ _ #[.slice none 0 0,.slice none 0 0,.slice none 0 0]).setRow _,aC ((bT _ _).alloc (bB _) _) (bB _) _⟩ ?_;rintro w6 ⟨h6,hb⟩;have hs4:=h4.lt;have HS:RF w6 w.heap.size w_2.heap.size vd N p n 0:=by
  refine⟨_,_,_,_,_,_,_,_,_,_,_,_,_,_,_,_,_,_,h2.kept hb,?_,h6,?_,h4.kept hb,h3.kept hb,Hd.out.below hb⟩
  ·rw[Nat.pow_zero,Ed.mul_one];exact HP.out.below hb
  ·rw[Nat.pow_zero,Nat.mod_one];exact HO.out.below hb
 replace aA:=aA.trans (hb.mono aA.size);obtain⟨dr,dn,dc,ed⟩:=Hd.out.isSlice;subst ed;obtain⟨G,hG⟩:∃G,G=w_2.heap.size:=⟨_,rfl⟩
 rw[<-hG] at HS ⊢;have hGl:w.heap.size+2<G:=by omega
 clear h2 h3 h4 h6 hb Hd HP HO hG hs4;go_wp2
 go_loopw [7,8] (fun l i wr=> ∃k m:Nat,k<=32/\m<=k/\l=.int .i64 (m:Int)/\i=.int .i64 (k:Int)/\Hid (∀j,m<=j->j<k->dg 256 N j=0)/\RF wr w.heap.size G (.slice dr dn dc) N p n 0/\Below w.heap.size w wr) (fun _ i _=>32 - (intOf i).toNat)
 case atStart=>exact⟨0,0,gX _,gX _,rfl,rfl,fun j h h'=>absurd h' aH,HS,aA⟩
 case round=>
  clear HS aA;obtain⟨k,m,hk,hmk,rfl,rfl,HZ,HS,aA⟩:=hrel;by_cases hlt:k<32
  ·obtain⟨q1,q2,q3,q4,q5,q6,q7,q8,q9,t1,t2,t3,t4,t5,t6,t7,t8,t9,g1,g2,g3,g4,g5,g6,g7⟩:=id HS;have e1:=g6.cell k hlt;clear g1 g2 g3 g4 g5 g6 g7;obtain⟨c,hc⟩:∃c,c=dg 256 N k:=⟨_,rfl⟩
   rw[<-hc] at e1;have HC:=ak hc;have c0:0<=c:=by rw[hc];exact(aV aN _ _).1
   clear hc;by_cases hc:0<c
   ·go_wp2;go_roundw
    case rel=>exact⟨k+1,k+1,by omega,by omega,by go_num,by go_num,fun j h h'=>absurd h' aH,HS,aA⟩
    case measure=>simp[intOf] <;> omega
   ·go_wp2;go_roundw
    case rel=>exact⟨k+1,m,by omega,by omega,by go_num,by go_num,fun j h h'=>by
     by_cases hj:j=k
     ·rw[hj,←HC.out];omega
     ·exact HZ.out j h aH,HS,aA⟩
    case measure=>simp[intOf] <;> omega
  ·obtain rfl:k=32:=by omega
   clear hlt hk;have HL:Hid (n % 2 ^ (8 * m)=n):=OD n aaQ.out (32 - m) m aH (fun j hj hj'=>by rw[<-Ll.out];exact HZ.out j hj hj');clear HZ;go_wp2
   go_loopw [9] (fun i wr=> ∃k:Nat,k<=m/\i=.int .i64 (k:Int)/\RF wr w.heap.size G (.slice dr dn dc) N p n (8 * k)/\Below w.heap.size w wr) (fun i _=>m - (intOf i).toNat)
   case atStart=>exact⟨0,gX _,rfl,HS,aA⟩
   case round=>
    clear HS aA;obtain⟨k,hk,rfl,HS,aA⟩:=hrel;by_cases hlt:k<m
    ·have ajS:k<32:=by omega
     obtain⟨q1,q2,q3,q4,q5,q6,q7,q8,q9,t1,t2,t3,t4,t5,t6,t7,t8,t9,g1,g2,g3,g4,g5,g6,g7⟩:=id HS;have e1:=g6.cell k ajS;clear g1 g2 g3 g4 g5 g6 g7;obtain⟨c,hc⟩:∃c,c=dg 256 N k:=⟨_,rfl⟩
     rw[<-hc] at e1;have HC:=ak hc;obtain⟨hc0,hc1⟩:0<=c/\c<256:=by rw[hc];exact aV aN _ _
     clear hc;have hcw:IntKind.i64.wrap c=c:=bI aH aH;go_wp2
     go_loopw [10,11] (fun cc j wr=> ∃t:Nat,t<=8/\j=.int .i64 (t:Int)/\cc=.int .i64 (c / 2 ^ t)/\RF wr w.heap.size G (.slice dr dn dc) N p n (8 * k+t)/\Below w.heap.size w wr) (fun _ j _=>8 - (intOf j).toNat)
     case atStart=>exact⟨0,gX _,rfl,by rw[Int.pow_zero,Int.ediv_one],HS,aA⟩
     case round=>
      clear HS aA e1;obtain⟨t,ht,rfl,rfl,HS,aA⟩:=hrel;by_cases hlt2:t<8
      ·obtain⟨r1,n1,c1,r2,n2,c2,r3,n3,c3,s1,m1,d1,s2,m2,d2,s3,m3,d3,h2,P2,h6,P6,h4,h3,hd⟩:=HS;have P2:=ak P2;have P6:=ak P6;have Hd:=ak hd;obtain⟨q,hq⟩:∃q,q=c / 2 ^ t:=⟨_,rfl⟩
       have q0:0<=q:=by rw[hq];exact Int.ediv_nonneg hc0 (vF (eG aN _))
       have q1:q<256:=by rw[hq];exact Int.lt_of_le_of_lt (Int.ediv_le_self _ hc0) hc1
       have Pj:Hid (q / 2=c / 2 ^ (t+1)):=by unfold Hid;rw[hq,Int.pow_succ,Int.ediv_ediv_of_nonneg (vF (eG aN _))]
       have hbit:q % 2=(((n / 2 ^ (8 * k+t) % 2:Nat)):Int):=by
        have h:=vC N (8 * k+t);rw[show (8 * k+t) / 8=k by omega,show (8 * k+t) % 8=t by omega,←HC.out,←hq] at h;rw[<-h,Ll.out];simp
       have ht2:Int.tmod q 2=q % 2:=Int.tmod_eq_emod_of_nonneg q0;have hd2:IntKind.i64.wrap (Int.tdiv q 2)=q / 2:=by rw[Pg q0];exact bI aH aH
       rw[<-hq];clear hd hq;by_cases eP:n / 2 ^ (8 * k+t) % 2=1
       ·have hqb:q % 2=1:=by rw[hbit,eP];rfl
        have HB1:=ak eP;clear hbit eP;rw[hqb] at ht2;go_wp2_with (first | (refine qc rfl 144 _ rfl G #[.slice s1 m1 d1,.slice s2 m2 d2,.slice s3 m3 d3] Tryz.underlying144 rfl Tryz.size144 rfl h6 ?_) | (refine qc rfl 144 _ rfl w.heap.size #[.slice r1 n1 c1,.slice r2 n2 c2,.slice r3 n3 c3] Tryz.underlying144 rfl Tryz.size144 rfl h2 ?_));refine(TJ _ P6.out P2.out Hd.out).mono ?_;rintro e v1 ⟨p1,p2,p3,p4,p5,p6,p7,p8,p9,rfl,hA,hb⟩;replace h2:=h2.kept hb;replace h6:=h6.kept hb;replace h4:=h4.kept hb;replace h3:=h3.kept hb;replace P2:=ak (P2.out.below hb);replace P6:=ak (P6.out.below hb);replace Hd:=ak (Hd.out.below hb);replace aA:=aA.trans (hb.mono aA.size);have HA:=ak hA;clear hb hA;go_upto_region 18 with(refine nU rfl 144 _ _ rfl G #[.slice s1 m1 d1,.slice s2 m2 d2,.slice s3 m3 d3] #[.slice p1 p2 p3,.slice p4 p5 p6,.slice p7 p8 p9] rfl (TY ⟨_,_,_,rfl⟩ ⟨_,_,_,rfl⟩ ⟨_,_,_,rfl⟩) Tryz.size144 rfl rfl h6 ?_)
        refine aJ (fun w9=>fB w9 w.heap.size #[.slice r1 n1 c1,.slice r2 n2 c2,.slice r3 n3 c3] /\FH w9 (.slice r1 n1 c1) (.slice r2 n2 c2) (.slice r3 n3 c3) (p.mul (2 ^ (8 * k+t)))/\fB w9 G #[.slice p1 p2 p3,.slice p4 p5 p6,.slice p7 p8 p9] /\FH w9 (.slice p1 p2 p3) (.slice p4 p5 p6) (.slice p7 p8 p9) ((p.mul (n % 2 ^ (8 * k+t))).add (p.mul (2 ^ (8 * k+t))))/\fB w9 (w.heap.size+2) #[.slice none 0 0,.slice none 0 0,.slice none 0 0] /\aQ .u8 w9 (w.heap.size+1) 32 (dg 256 N)/\Rd .i64 w9 (.slice dr dn dc) 16 (dg 65536 (dR % Pr))/\Below w.heap.size w w9)
         ⟨h2.aG _ aH _,P2.out.jr h6 ⟨_,_,_,rfl⟩ ⟨_,_,_,rfl⟩ ⟨_,_,_,rfl⟩ _,h6.setRow _,HA.out.jr h6 ⟨_,_,_,rfl⟩ ⟨_,_,_,rfl⟩ ⟨_,_,_,rfl⟩ _,h4.aG _ aH _,h3.aG _ aH _,Hd.out.jr h6 (kR ⟨_,_,_,rfl⟩ ⟨_,_,_,rfl⟩ ⟨_,_,_,rfl⟩) _,aC aA aH _⟩ ?_
        clear h2 h6 h4 h3 P2 P6 HA Hd aA;rintro w9 ⟨h2,P2,h6,P6,h4,h3,Hd,aA⟩;replace P2:=ak P2;replace P6:=ak P6;replace Hd:=ak Hd
        try simp only[Act.put,dK,dL,dM]
        go_wp2_with (refine qc rfl 144 _ rfl w.heap.size #[.slice r1 n1 c1,.slice r2 n2 c2,.slice r3 n3 c3] Tryz.underlying144 rfl Tryz.size144 rfl h2 ?_);refine(TJ _ P2.out P2.out Hd.out).mono ?_;rintro e v2 ⟨u1,u2,u3,u4,u5,u6,u7,u8,u9,rfl,hA,hb⟩;replace h2:=h2.kept hb;replace h6:=h6.kept hb;replace h4:=h4.kept hb;replace h3:=h3.kept hb;replace P2:=ak (P2.out.below hb);replace P6:=ak (P6.out.below hb);replace Hd:=ak (Hd.out.below hb);replace aA:=aA.trans (hb.mono aA.size);have HA:=ak hA;clear hb hA;have HE:Hid (RF (v2.setRow w.heap.size #[.slice u1 u2 u3,.slice u4 u5 u6,.slice u7 u8 u9]) w.heap.size G (.slice dr dn dc) N p n (8 * k+(t+1))/\Below w.heap.size w (v2.setRow w.heap.size #[.slice u1 u2 u3,.slice u4 u5 u6,.slice u7 u8 u9])):=by
         refine⟨⟨_,_,_,_,_,_,_,_,_,_,_,_,_,_,_,_,_,_,h2.setRow _,?_,h6.aG _ aH _,?_,h4.aG _ aH _,h3.aG _ aH _,Hd.out.jr h2 (kR ⟨_,_,_,rfl⟩ ⟨_,_,_,rfl⟩ ⟨_,_,_,rfl⟩) _⟩,aC aA (bB _) _⟩
         ·rw[show 8 * k+(t+1)=8 * k+t+1 by omega,←Oz];exact HA.out.jr h2 ⟨_,_,_,rfl⟩ ⟨_,_,_,rfl⟩ ⟨_,_,_,rfl⟩ _
         ·rw[show 8 * k+(t+1)=8 * k+t+1 by omega,←YA _ _ _ HB1.out];exact P6.out.jr h2 ⟨_,_,_,rfl⟩ ⟨_,_,_,rfl⟩ ⟨_,_,_,rfl⟩ _
        go_wp2_with (refine nU rfl 144 _ _ rfl w.heap.size #[.slice r1 n1 c1,.slice r2 n2 c2,.slice r3 n3 c3] #[.slice u1 u2 u3,.slice u4 u5 u6,.slice u7 u8 u9] rfl (TY ⟨_,_,_,rfl⟩ ⟨_,_,_,rfl⟩ ⟨_,_,_,rfl⟩) Tryz.size144 rfl rfl h2 ?_);go_roundw
        case rel=>first | exact⟨t+1,by omega,by go_num,by rw[Pj.out],HE.out.1,HE.out.2⟩ | ((repeat apply Exists.intro);refine⟨?_,rfl⟩;exact⟨t+1,by omega,by go_num,by rw[Pj.out],HE.out.1,HE.out.2⟩)
        case measure=>simp[intOf] <;> omega
       ·have hqb:q % 2=0:=by rw[hbit];omega
        have HB1:=ak eP;clear hbit eP;rw[hqb] at ht2;go_wp2_with (refine qc rfl 144 _ rfl w.heap.size #[.slice r1 n1 c1,.slice r2 n2 c2,.slice r3 n3 c3] Tryz.underlying144 rfl Tryz.size144 rfl h2 ?_);refine(TJ _ P2.out P2.out Hd.out).mono ?_;rintro e v2 ⟨u1,u2,u3,u4,u5,u6,u7,u8,u9,rfl,hA,hb⟩;replace h2:=h2.kept hb;replace h6:=h6.kept hb;replace h4:=h4.kept hb;replace h3:=h3.kept hb;replace P2:=ak (P2.out.below hb);replace P6:=ak (P6.out.below hb);replace Hd:=ak (Hd.out.below hb);replace aA:=aA.trans (hb.mono aA.size);have HA:=ak hA;clear hb hA;have HE:Hid (RF (v2.setRow w.heap.size #[.slice u1 u2 u3,.slice u4 u5 u6,.slice u7 u8 u9]) w.heap.size G (.slice dr dn dc) N p n (8 * k+(t+1))/\Below w.heap.size w (v2.setRow w.heap.size #[.slice u1 u2 u3,.slice u4 u5 u6,.slice u7 u8 u9])):=by
         refine⟨⟨_,_,_,_,_,_,_,_,_,_,_,_,_,_,_,_,_,_,h2.setRow _,?_,h6.aG _ aH _,?_,h4.aG _ aH _,h3.aG _ aH _,Hd.out.jr h2 (kR ⟨_,_,_,rfl⟩ ⟨_,_,_,rfl⟩ ⟨_,_,_,rfl⟩) _⟩,aC aA (bB _) _⟩
         ·rw[show 8 * k+(t+1)=8 * k+t+1 by omega,←Oz];exact HA.out.jr h2 ⟨_,_,_,rfl⟩ ⟨_,_,_,rfl⟩ ⟨_,_,_,rfl⟩ _
         ·rw[show 8 * k+(t+1)=8 * k+t+1 by omega,←Qz _ _ _ HB1.out];exact P6.out.jr h2 ⟨_,_,_,rfl⟩ ⟨_,_,_,rfl⟩ ⟨_,_,_,rfl⟩ _
        go_wp2_with (refine nU rfl 144 _ _ rfl w.heap.size #[.slice r1 n1 c1,.slice r2 n2 c2,.slice r3 n3 c3] #[.slice u1 u2 u3,.slice u4 u5 u6,.slice u7 u8 u9] rfl (TY ⟨_,_,_,rfl⟩ ⟨_,_,_,rfl⟩ ⟨_,_,_,rfl⟩) Tryz.size144 rfl rfl h2 ?_);go_roundw
        case rel=>first | exact⟨t+1,by omega,by go_num,by rw[Pj.out],HE.out.1,HE.out.2⟩ | ((repeat apply Exists.intro);refine⟨?_,rfl⟩;exact⟨t+1,by omega,by go_num,by rw[Pj.out],HE.out.1,HE.out.2⟩)
        case measure=>simp[intOf] <;> omega
      ·obtain rfl:t=8:=by omega
       go_wp2;go_roundw
       case rel=>exact⟨k+1,by omega,by go_num,HS,aA⟩
       case measure=>simp[intOf] <;> omega
    ·obtain rfl:k=m:=by omega
     obtain⟨r1,n1,c1,r2,n2,c2,r3,n3,c3,s1,m1,d1,s2,m2,d2,s3,m3,d3,h2,P2,h6,P6,h4,h3,hd⟩:=HS;rw[HL.out] at P6;have P6:=ak P6;clear P2 hd h2 h3;go_wp2_with (first | (refine qc rfl 144 _ rfl G #[.slice s1 m1 d1,.slice s2 m2 d2,.slice s3 m3 d3] Tryz.underlying144 rfl Tryz.size144 rfl h6 ?_) | (refine nU rfl 144 _ _ rfl (w.heap.size+2) #[.slice none 0 0,.slice none 0 0,.slice none 0 0] #[.slice s1 m1 d1,.slice s2 m2 d2,.slice s3 m3 d3] rfl (TY ⟨_,_,_,rfl⟩ ⟨_,_,_,rfl⟩ ⟨_,_,_,rfl⟩) Tryz.size144 rfl rfl h4 ?_));exact bodyPost_ret (nD rfl _ _ (w.heap.size+2) _ rfl (h4.setRow #[.slice s1 m1 d1,.slice s2 m2 d2,.slice s3 m3 d3]) Tryz.underlying144 rfl Tryz.size144) rfl ⟨_,_,_,rfl,P6.out.jr h4 ⟨_,_,_,rfl⟩ ⟨_,_,_,rfl⟩ ⟨_,_,_,rfl⟩ _,aC aA aH _⟩
end Go.Proofs.YtpcjekgfnfjbpaaGreat
namespace Go.Proofs.YtpcjekgfnfjbpaaGreat
open Go.RowKit Go.bC
theorem aaf {v:Value} {p:Ed C7} (n:Nat) (hn:n<2 ^ 256) (w:World) (hp:CV w v p):
  Calls Tryz.prog 99 #[v,.agg (arr .u8 32 (dg 256 (n:Int)))] w fun e w'=> ∃r,e=.returned r/\CV w' r (p.mul n)/\Below w.heap.size w w':=by
 obtain⟨r1,n1,c1,r2,n2,c2,r3,n3,c3,rfl,h⟩:=hp;refine(TD _ _ _ p n hn w h).mono ?_;rintro e w' ⟨_,_,_,rfl,hA,hb⟩;exact⟨_,rfl,CV.of hA,hb⟩
theorem TH (w:World):Calls Tryz.prog 100 #[] w fun e w'=> ∃r,e=.returned r/\CV w' r Bp/\Below w.heap.size w w':=by
 refine(Mf w).mono ?_;rintro e w' ⟨a,b,c,rfl,⟨h1,h2,h3⟩,hb⟩;exact⟨_,rfl,CV.of ⟨_,_,_,uF.base,h1,h2,h3⟩,hb⟩
theorem Oq {v:Value} {p:Ed C7} (w:World) (hp:CV w v p):Calls Tryz.prog 98 #[v] w fun e w'=>e=.returned (.agg (arr .u8 32 (dg 256 (dB p))))/\Below w.heap.size w w':=by
 obtain⟨r1,n1,c1,r2,n2,c2,r3,n3,c3,rfl,A,B,C,h0,h1,h2,h3⟩:=hp;exact JH _ _ _ A B C (vJ p) (OV p) w h1 h2 h3 h0.bytes.1 h0.bytes.2
theorem EC {v:Value} {p:Ed C7} (n:Nat) (hn:n<2 ^ 256) (w:World) (hp:uG v p):
  Calls Tryz.prog 158 #[v,.agg (arr .u8 32 (dg 256 (n:Int)))] w fun e w'=> ∃r,e=.returned r/\uG r (p.mul n)/\Below w.heap.size w w':=by
 obtain⟨F,rfl,h⟩:=hp;refine(Ym h n hn w).mono ?_;rintro e w' ⟨G,rfl,hG,hb⟩;exact⟨_,rfl,⟨G,rfl,hG⟩,hb⟩
theorem aak {v u:Value} {p q:Ed C7} (w:World) (hp:uG v p) (hq:uG u q):
  Calls Tryz.prog 159 #[v,u] w fun e w'=> ∃r,e=.returned r/\uG r (p.add q)/\Below w.heap.size w w':=by
 obtain⟨F,rfl,h⟩:=hp;obtain⟨G,rfl,k⟩:=hq;obtain⟨R,hR,hc⟩:=Yn h k;refine(hc w).mono ?_;rintro e w' ⟨rfl,hb⟩;exact⟨_,rfl,⟨R,rfl,hR⟩,hb⟩
theorem aaj {v:Value} {p:Ed C7} (w:World) (hp:uG v p):Calls Tryz.prog 160 #[v] w fun e w'=> ∃r,e=.returned r/\uG r p.neg/\Below w.heap.size w w':=by
 obtain⟨F,rfl,h⟩:=hp;obtain⟨R,hR,hc⟩:=Yl h;refine(hc w).mono ?_;rintro e w' ⟨rfl,hb⟩;exact⟨_,rfl,⟨R,rfl,hR⟩,hb⟩
theorem zX {v:Value} {p:Ed C7} (w:World) (hp:uG v p):Calls Tryz.prog 161 #[v] w fun e w'=>e=.returned (.agg (arr .u8 32 (dg 256 (dB p))))/\Below w.heap.size w w':=by
 obtain⟨F,rfl,h⟩:=hp;exact Qq h w
end Go.Proofs.YtpcjekgfnfjbpaaGreat
namespace Go.Proofs.YtpcjekgfnfjbpaaGreat
open Go.RowKit Go.bC Go.ChangeShapes
attribute [local go_sem ↓] Go.wp_at_zero Go.wp_at_succ
theorem Qb {Y:Int} (h0:0<=Y) (h1:Y<2 ^ 255):lX 32 (dg 256 (Y % Pr)) (dg 256 Y)=decide (Y<Pr):=by
 by_cases h:Y<Pr
 ·rw[uO h0 h,decide_eq_true h];exact nV
 ·rw[decide_eq_false h];refine pU fun e=>h ?_;have h2:=pO (B:=256) (n:=32) e;rw[rF aN,rF aN] at h2;have hm:=Bw Y;have e1:Y % Pr % 256 ^ 32=Y % Pr:=uO hm.1 (by(have:Pr<256 ^ 32:=by decide);omega);have e2:Y % 256 ^ 32=Y:=uO h0 aH;rw[e1,e2] at h2;omega
theorem EW {X Y:Int} (h:X * X % Pr=kX Y % Pr):∃p:Ed C7,toF X=p.x/\toF Y=p.y:=by
 have h2:=iA.2 h;unfold kX wY at h2;rw[fG,fG,qC] at h2;simp only[tY,oH,fG,fI,LB] at h2;have hi:=inv_mul (x:=dE * (toF Y * toF Y)+1) (by
  have h3:=EG (toF Y);intro e;apply h3
  generalize toF Y=y at *
  generalize dE=d at *
  grind)
 exact⟨⟨toF X,toF Y,afd h2 hi⟩,rfl,rfl⟩
def Mv (A:Int):Prop:=A % 2 ^ 255<Pr/\qQ (kX (A % 2 ^ 255))=true/\¬ (kX (A % 2 ^ 255) % Pr=0/\A / 2 ^ 255=1)
theorem Ud {A R Y:Int} (h0:0<=A) (h1:A<2 ^ 256) (hy:Y=A % 2 ^ 255) (hY:Y<Pr) (hR:R * R % Pr=kX Y % Pr) (he:R % Pr % 2=0) (hz:¬ (R % Pr=0/\A / 2 ^ 255=1)):
  ∃p:Ed C7,toF (if A / 2 ^ 255=1 then -R else R)=p.x/\toF Y=p.y/\dB p=A:=by
 obtain⟨e,y0,y1,hb⟩:=Az h0 h1;rw[<-hy] at e y0 y1;have hyy:∀p:Ed C7,toF Y=p.y->OV p=Y:=fun p h=>by unfold OV;rw[<-h,gY];exact uO y0 hY
 have hxx:∀(p:Ed C7) (X:Int),toF X=p.x->vJ p=X % Pr:=fun p X h=>by unfold vJ;rw[<-h,gY]
 have hm:=Bw R;by_cases ho:A / 2 ^ 255=1
 ·rw[if_pos ho];have gI: -R * -R % Pr=kX Y % Pr:=by rw[Int.neg_mul_neg];exact hR
  obtain⟨p,hx,hp⟩:=EW gI;refine⟨p,hx,hp,?_⟩;unfold dB;have e3: -R % Pr=Pr - R % Pr:=by
   have e1: -R % Pr=(Pr - R % Pr) % Pr:=kH (c:= -(R / Pr) - 1) (by have:=DW R Pr;rw[Int.mul_sub,Int.mul_neg];omega);have hn:R % Pr≠0:=fun h=>hz ⟨h,ho⟩;rw[e1];exact uO aH aH
  rw[hyy p hp,hxx p _ hx,e3];have hp2:Pr % 2=1:=by decide
  rw[show (Pr - R % Pr) % 2=1 by omega,←ho];omega
 ·rw[if_neg ho];obtain⟨p,hx,hp⟩:=EW hR;refine⟨p,hx,hp,?_⟩;unfold dB;rw[hyy p hp,hxx p _ hx,he];omega
theorem pV {R Y:Int} (hR:R * R % Pr=kX Y % Pr):R % Pr=0 ↔ kX Y % Pr=0:=by
 have h2:=iA.2 hR
 constructor
 ·intro h;have h3:toF R=0:=by rw[<-gQ];exact iA.2 h
  have h4:toF (kX Y)=toF 0:=by rw[<-h2,fG,h3,gQ];decide
  exact iA.1 h4
 ·intro h;have h3:toF (kX Y)=0:=by rw[<-gQ];exact iA.2 h
  rw[h3,fG] at h2;have h4:toF R=toF 0:=by rw[gQ];exact(mG h2).elim id id
  exact iA.1 h4
theorem QX (f:Nat->Int) (Y:Int) (hf:Fe f Y):∃H R,Fe H R/\(qQ (kX Y)=true->R * R % Pr=kX Y % Pr/\R % Pr % 2=0)/\∀w,Calls Tryz.prog 209 #[El f] w fun e w'=>e=.returned (.tuple #[El H,.bool (qQ (kX Y))])/\Below w.heap.size w w':=by
 cases hq:qQ (kX Y)
 ·exact⟨fun _=>0,0,Ad,fun h=>(by cases h),fun w=>Qp f Y hf hq w⟩
 ·obtain⟨R,h1,h2,h3⟩:=JC (Hw hf) hq;exact⟨_,R,h1,fun _=>⟨h2,h3⟩,fun w=>Bd f Y hf hq w⟩
theorem WG {a:Act} (w:World):(Instr.build 193 ((#[] :Array (Nat × Operand)).map fun(i,x)=>(i,a.eval x))).run Tryz.prog w=.ok (.agg (arr .i64 64 (fun _=>0))) w:=Go.run_build w _ _ _ aS
def OfR (A:Int) (r:Value) (c:Int):Prop:=(c=0/\Mv A/\∃p:Ed C7,uG r p/\dB p=A)\/(c=21/\r=.agg (arr .i64 64 (fun _=>0))/\¬ Mv A)
theorem Yk (A:Int) (h0:0<=A) (h1:A<2 ^ 256) (w:World):
  Calls Tryz.prog 154 #[.agg (arr .u8 32 (dg 256 A))] w fun e w'=> ∃r c,e=.returned (.tuple #[r,.int .i64 c])/\OfR A r c/\Below w.heap.size w w':=by
 obtain⟨eA,y0,y1,hb⟩:=Az h0 h1;have HL:=ak (abY h0 h1);have HT:=ak (abr h0 h1);have HB:=ak (fun R (hY:A % 2 ^ 255<Pr)=>Ud (A:=A) (R:=R) h0 h1 rfl hY);have La:Hid (Mv A ↔ A % 2 ^ 255<Pr/\qQ (kX (A % 2 ^ 255))=true/\¬ (kX (A % 2 ^ 255) % Pr=0/\A / 2 ^ 255=1)):=Iff.rfl;obtain⟨Y,hY⟩:∃Y,Y=A % 2 ^ 255:=⟨_,rfl⟩
 rw[<-hY] at y0 y1 HL HB La;have CW:Hid (∀w,Calls Tryz.prog 199 #[.agg (arr .u8 32 (dg 256 Y))] w fun e w'=>e=.returned (.agg (arr .i64 16 (dg 65536 Y)))/\Below w.heap.size w w'):=fun w=>by
  have h:=BM Y w
  rwa [uO y0 y1] at h
 have HF:Hid (Fe (dg 65536 Y) Y):=by have h:=Ib Y;rwa [uO y0 y1] at h
 have HSL:=ak (Qb y0 y1);obtain⟨H,R,hfh,hrt,afQ⟩:=QX _ Y HF.out;have HFH:=ak hfh;have Xg:=ak hrt;have ahm:=ak afQ;have HEQ:Hid (∀w,Calls Tryz.prog 210 #[.agg (arr .i64 16 H),.agg (arr .i64 16 (aW 0))] w fun e w'=>e=.returned (.bool (Zi R 0))/\Below w.heap.size w w'):=fun w=>tF _ _ _ _ HFH.out KH w;have HP0:=ak (fun(a:Act) w=>WG (a:=a) w);obtain⟨ok,hok⟩:∃ok,ok=qQ (kX Y):=⟨_,rfl⟩
 rw[<-hok] at ahm Xg La;obtain⟨ze,hze⟩:∃ze,ze=Zi R 0:=⟨_,rfl⟩
 rw[<-hze] at HEQ;obtain⟨od,hod⟩:∃od,od=decide (A / 2 ^ 255=1):=⟨_,rfl⟩
 obtain⟨lt,hlt⟩:∃lt,lt=decide (Y<Pr):=⟨_,rfl⟩
 rw[<-hlt] at HSL;have HZE:=ak hze;have HOD:=ak hod;have Pm:=ak hlt;have zT:=ak hb;clear hfh hrt afQ hok hze hod hlt h0 h1 eA hb hY;obtain⟨dd,hdd⟩:∃dd,dd=dg 256 A 31:=⟨_,rfl⟩
 obtain⟨g0,g1⟩:0<=dd/\dd<256:=by rw[hdd];exact aV aN _ _
 rw[<-hdd] at HL HT;have Xp:=ak hdd;have OJ:((dd / 128 * 128) !=0)=od:=by
  rw[HOD.out,HT.out];rcases zT.out with h | h<;> rw[h] <;> decide
 have h128:=WL dd g0 g1;have h127:=WM dd g0 g1;have alS:=ak h128;have ahi:=ak OJ;clear hdd OJ h128
 go_enter Tryz.func154,Tryz.ntmps154
 go_upto_region 1 with(fail);refine aJ (fun w1=>aQ .u8 w1 w.heap.size 32 (dg 256 A)/\aQ .i64 w1 (w.heap.size+1) 64 (fun _=>0)/\Below w.heap.size w w1) ⟨.alloc (bU rfl rfl) _,bU (by first | omega | (simp<;> omega)) (by rfl),((bT _ _).alloc (bB _) _).alloc (by first | omega | (simp<;> omega)) _⟩ ?_;rintro w1 ⟨h1,h2,aA⟩;have c31:=h1.cell 31 aN;rw[<-Xp.out] at c31;have hl1:=h1.lt
 refine aX (n:=48) aS aS aS rfl
  (fun ii vv _=>(match ii with | 0=>vv=.pointer (some ⟨w.heap.size,31,none⟩) | 1=>vv=.int .u8 (dd) | 2=>vv=.int .u8 (dd / 128 * 128) | 3 | 4=>vv=.bool od | _=>True))
  (fun w w'=>Below w.heap.size w w') (fun _ _ h=>h) (fun _ _ _ _ h _=>h) ?_ ?_
 ·refine cB ?_;refine⟨?_,?_,?_,?_,?_,trivial⟩
  ·intro a w2 hB hF hd;exact aO <| aT (bH rfl (hF.same 1 rfl) rfl dY aS aN aN) rfl
  ·intro a w2 hB hF hd;exact aO <| aT (aY rfl (hd 0 _ rfl (aj rfl)) Tryz.underlying5 ((hB.cell (p:=⟨w.heap.size,31,none⟩) hl1).trans c31)) rfl
  ·intro a w2 hB hF hd;exact aO <| aT (Go.bC.iQ rfl (hd 1 _ rfl (aj rfl)) rfl) (congrArg (Value.int .u8) (alS.out))
  ·intro a w2 hB hF hd;exact aO <| aT (Go.bC.iD rfl (hd 2 _ rfl (aj rfl)) rfl) (congrArg Value.bool (ahi.out))
  ·intro a w2 hB hF hd;exact aO <| aB _ (.inr rfl) aR (hd 3 _ rfl (aj rfl))
 ·intro a w2 hB hF hS;have ha:=aP rfl rfl hF [_,_,_,_,_] rfl ⟨hS 0 _ rfl,hS 1 _ rfl,hS 2 _ rfl,hS 3 _ rfl,hS 4 _ rfl,trivial⟩;simp only[puts,Act.put,dK,dL,dM] at ha;subst ha;clear hS hF;replace h1:=h1.kept hB;replace h2:=h2.kept hB;replace aA:=aA.trans (hB.mono aA.size);have e31:=h1.cell 31 aN;rw[<-Xp.out] at e31;have f31:=h1.free 31;clear hB c31 hl1;go_upto_region 3 with(fail);refine aJ (fun w3=>aQ .u8 w3 w.heap.size 32 (dg 256 Y)/\aQ .i64 w3 (w.heap.size+1) 64 (fun _=>0)/\Below w.heap.size w w3) ⟨(h1.set 31 (dd % 128)).congr HL.out,h2.other aR _,aA.setCell (bB _) _⟩ ?_;clear h1 h2 aA e31 f31 h127 g0 g1;rintro w3 ⟨h1,h2,aA⟩;have hl2:=h2.lt
  try simp only[Act.put,dK,dL,dM]
  refine bG (n:=48) aS aS aS rfl
   (gZ [(3,2)]) (eZ [(3,2)]) (fun _=>arr .i64 16 (fun _=>0)) (fun _=>(arr .i64 16 (dg 65536 Y))) (fun _=>191) (fun _=>5)
   (fun ii vv _=>(match ii with | 0=>vv=.agg (arr .u8 32 (dg 256 Y)) | 1=>vv=.agg (arr .i64 16 (dg 65536 Y)) | _=>True)) (fun _ _=>True) (fun _ _ _=>trivial) (fun _ _ _ _ _ _ _=>trivial) (fun _ _ _ _ h _=>h)
   (fJ rfl) (dU rfl) ?_ ?_ ?_ ?_
  ·refine cB ?_;refine⟨?_,?_,(fun h=>by cases h),(fun _ h=>by cases h),trivial⟩
   ·intro _ _ a w2 hB hF hd;exact aO <| aT (aF rfl dY rfl dh (hF.same 1 rfl) (h1.below hB h1.lt)) rfl
   ·intro _ _ a w2 hB hF hd;refine aO <| aD _ _ _ rfl Tryz.call199 _ (args1 (hd 0 _ rfl rfl rfl (aj rfl))) aR ((CW.out w2).mono ?_);rintro e w3 ⟨rfl,hb⟩;exact⟨_,rfl,rfl,hb⟩
  ·refine cB ?_;refine⟨(fun h=>by cases h),(fun h=>by cases h),?_,(fun h=>by cases h),trivial⟩
   ·exact fun _=>⟨rfl,rfl,fun a w2 K h=>aZ rfl rfl Tryz.zeroValue191 aR h⟩
  ·refine cB ?_;refine⟨(fun _ h=>by cases h),(fun _ h=>by cases h),(fun _ h=>by cases h),?_,trivial⟩
   ·intro p hp;obtain rfl:2=p:=iy hp;exact⟨rfl,rfl,⟨_,rfl⟩,aj rfl,fun a w2 b K hB hF hd hx hb h=>bJ rfl rfl bQ hx (hd 1 _ rfl rfl rfl (aj rfl)) hb h⟩
  ·intro a w4 blk hB hF hS hv hfin dw;obtain⟨v2,Px,XJ⟩:=hv 2 _ rfl rfl;have ha:=aP rfl rfl hF [_,_,_,undef] rfl ⟨hS 0 _ rfl rfl rfl,hS 1 _ rfl rfl rfl,v2,trivial,trivial⟩;have f2:=hfin 3 _ 2 rfl rfl;simp only[puts,Act.put,dK,dL,dM] at ha;subst ha;have V2:aQ .i64 w4 (blk 2) 16 (dg 65536 Y):=⟨_,f2⟩
   clear hS hv hfin dw hF v2 f2;replace h1:=h1.kept hB;replace h2:=h2.kept hB;replace aA:=aA.trans (hB.mono aA.size);obtain⟨x5,e5⟩:∃x,x=blk 2:=⟨_,rfl⟩
   rw[<-e5] at V2 Px ⊢;have h5:=V2;have l5:w.heap.size+1<x5:=by omega
   have hl5:=h5.lt;clear hB Px XJ V2 e5 hl2;go_upto_region 4 with(fail)
   refine bG (n:=48) aS aS aS rfl
    (gZ [(6,5)]) (eZ [(6,5)]) (fun _=>arr .i64 16 (fun _=>0)) (fun _=>(arr .i64 16 (H))) (fun _=>191) (fun _=>6)
    (fun ii vv _=>(match ii with | 0=>vv=.agg (arr .i64 16 (dg 65536 Y)) | 1 | 2=>vv=.tuple #[.agg (arr .i64 16 (H)),.bool ok] | 3=>vv=.agg (arr .i64 16 (H)) | 4 | 7=>vv=.bool ok | _=>True)) (fun _ _=>True) (fun _ _ _=>trivial) (fun _ _ _ _ _ _ _=>trivial) (fun _ _ _ _ h _=>h)
    (fJ rfl) (dU rfl) ?_ ?_ ?_ ?_
   ·refine cB ?_;refine⟨?_,?_,?_,?_,?_,(fun h=>by cases h),(fun _ h=>by cases h),?_,trivial⟩
    ·intro _ _ a w2 hB hF hd;exact aO <| aT (aF rfl cZ rfl bQ (hF.same 5 rfl) (h5.below hB h5.lt)) rfl
    ·intro _ _ a w2 hB hF hd;refine aO <| aD _ _ _ rfl Tryz.call209 _ (args1 (hd 0 _ rfl rfl rfl (aj rfl))) aR ((ahm.out w2).mono ?_);rintro e w3 ⟨rfl,hb⟩;exact⟨_,rfl,rfl,hb⟩
    ·intro _ _ a w2 hB hF hd;exact aO <| aB _ (.inl rfl) aR (hd 1 _ rfl rfl rfl (aj rfl))
    ·intro _ _ a w2 hB hF hd;exact aO <| aT (fV rfl (hd 2 _ rfl rfl rfl (aj rfl)) rfl) rfl
    ·intro _ _ a w2 hB hF hd;exact aO <| aT (fV rfl (hd 2 _ rfl rfl rfl (aj rfl)) rfl) rfl
    ·intro _ _ a w2 hB hF hd;exact aO <| aB _ (.inr rfl) aR (hd 4 _ rfl rfl rfl (aj rfl))
   ·refine cB ?_;refine⟨(fun h=>by cases h),(fun h=>by cases h),(fun h=>by cases h),(fun h=>by cases h),(fun h=>by cases h),?_,(fun h=>by cases h),(fun h=>by cases h),trivial⟩
    ·exact fun _=>⟨rfl,rfl,fun a w2 K h=>aZ rfl rfl Tryz.zeroValue191 aR h⟩
   ·refine cB ?_;refine⟨(fun _ h=>by cases h),(fun _ h=>by cases h),(fun _ h=>by cases h),(fun _ h=>by cases h),(fun _ h=>by cases h),(fun _ h=>by cases h),?_,(fun _ h=>by cases h),trivial⟩
    ·intro p hp;obtain rfl:5=p:=iy hp;exact⟨rfl,rfl,⟨_,rfl⟩,aj rfl,fun a w2 b K hB hF hd hx hb h=>bJ rfl rfl bQ hx (hd 3 _ rfl rfl rfl (aj rfl)) hb h⟩
   ·intro a w5 blk hB hF hS hv hfin dw;obtain⟨v5,xQ,FR⟩:=hv 5 _ rfl rfl;have ha:=aP rfl rfl hF [_,_,_,_,_,_,undef,_] rfl ⟨hS 0 _ rfl rfl rfl,hS 1 _ rfl rfl rfl,hS 2 _ rfl rfl rfl,hS 3 _ rfl rfl rfl,hS 4 _ rfl rfl rfl,v5,trivial,hS 7 _ rfl rfl rfl,trivial⟩;have f5:=hfin 6 _ 5 rfl rfl;simp only[puts,Act.put,dK,dL,dM] at ha;subst ha;have V5:aQ .i64 w5 (blk 5) 16 (H):=⟨_,f5⟩
    clear hS hv hfin dw hF v5 f5;replace h1:=h1.kept hB;replace h2:=h2.kept hB;replace h5:=h5.kept hB;replace aA:=aA.trans (hB.mono aA.size);obtain⟨x6,e6⟩:∃x,x=blk 5:=⟨_,rfl⟩
    rw[<-e6] at V5 xQ ⊢;have h6:=V5;have l6:x5<x6:=by omega
    clear hB xQ FR V5 e6 hl5;go_upto_region 5 with(fail)
    refine aX (n:=48) aS aS aS rfl
     (fun ii vv _=>(match ii with | 0=>vv=.agg (arr .i64 16 (H)) | 1=>vv=.agg (arr .i64 16 (aW 0)) | 2 | 3=>vv=.bool ze | _=>True))
     (fun w w'=>Below w.heap.size w w') (fun _ _ h=>h) (fun _ _ _ _ h _=>h) ?_ ?_
    ·refine cB ?_;refine⟨?_,?_,?_,?_,trivial⟩
     ·intro a w2 hB hF hd;exact aO <| aT (aF rfl cZ rfl bQ (hF.same 6 rfl) (h6.below hB h6.lt)) rfl
     ·intro a w2 hB hF hd;refine aO <| aD _ _ _ rfl Tryz.call200 _ (args1 rfl) aR ((eO 0 w2).mono ?_);rintro e w3 ⟨rfl,hb⟩;exact⟨_,rfl,rfl,hb⟩
     ·intro a w2 hB hF hd;refine aO <| aD _ _ _ rfl Tryz.call210 _ (args2 (hd 0 _ rfl (aj rfl)) (hd 1 _ rfl (aj rfl))) aR ((HEQ.out w2).mono ?_);rintro e w3 ⟨rfl,hb⟩;exact⟨_,rfl,rfl,hb⟩
     ·intro a w2 hB hF hd;exact aO <| aB _ (.inr rfl) aR (hd 2 _ rfl (aj rfl))
    ·intro a w6 hB hF hS;have ha:=aP rfl rfl hF [_,_,_,_] rfl ⟨hS 0 _ rfl,hS 1 _ rfl,hS 2 _ rfl,hS 3 _ rfl,trivial⟩;simp only[puts,Act.put,dK,dL,dM] at ha;subst ha;clear hS hF;replace h1:=h1.kept hB;replace h2:=h2.kept hB;replace h5:=h5.kept hB;replace h6:=h6.kept hB;replace aA:=aA.trans (hB.mono aA.size);clear hB;go_upto_region 6 with(fail);cases ok
     case false=>
      refine aX (n:=48) aS aS aS rfl
       (fun ii vv _=>(match ii with | 0=>vv=.bool false | 1 | 2 | 7 | 8 | 13=>vv=.bool true | 3 | 4 | 5 | 6 | 9 | 10 | 11 | 12=>vv=undef | _=>True))
       (fun w w'=>Below w.heap.size w w') (fun _ _ h=>h) (fun _ _ _ _ h _=>h) ?_ ?_
      ·refine cB ?_;refine⟨?_,?_,?_,?_,?_,?_,?_,?_,?_,?_,?_,?_,?_,?_,trivial⟩
       ·intro a w2 hB hF hd;exact aO <| aB _ (.inl rfl) aR (hF.same 7 rfl)
       ·intro a w2 hB hF hd;exact aO <| aT (iO rfl (hd 0 _ rfl (aj rfl))) rfl
       ·intro a w2 hB hF hd;exact aO <| aB _ (.inl rfl) aR (hd 1 _ rfl (aj rfl))
       ·intro a w2 hB hF hd;rw[if_neg (by rw[cK rfl rfl (hd 2 _ rfl (aj rfl))];decide)];exact rfl
       ·intro a w2 hB hF hd;rw[if_neg (by rw[cK rfl rfl (hd 2 _ rfl (aj rfl))];decide)];exact rfl
       ·intro a w2 hB hF hd;rw[if_neg (by rw[cK rfl rfl (hd 2 _ rfl (aj rfl))];decide)];exact rfl
       ·intro a w2 hB hF hd;rw[if_neg (by rw[cK rfl rfl (hd 2 _ rfl (aj rfl))];decide)];exact rfl
       ·intro a w2 hB hF hd;exact aO <| aT (bZ rfl (hd 2 _ rfl (aj rfl))) (rfl)
       ·intro a w2 hB hF hd;exact aO <| aB _ (.inl rfl) aR (hd 7 _ rfl (aj rfl))
       ·intro a w2 hB hF hd;rw[if_neg (by rw[cK rfl rfl (hd 8 _ rfl (aj rfl))];decide)];exact rfl
       ·intro a w2 hB hF hd;rw[if_neg (by rw[cK rfl rfl (hd 8 _ rfl (aj rfl))];decide)];exact rfl
       ·intro a w2 hB hF hd;rw[if_neg (by rw[vM rfl rfl (hd 10 _ rfl (aj rfl))];decide)];exact rfl
       ·intro a w2 hB hF hd;rw[if_neg (by rw[cK rfl rfl (hd 8 _ rfl (aj rfl))];decide)];exact rfl
       ·intro a w2 hB hF hd;exact aO <| aT (bZ rfl (hd 8 _ rfl (aj rfl))) (rfl)
      ·intro a w7 hB hF hS;have ha:=aP rfl rfl hF [_,_,_,_,_,_,_,_,_,_,_,_,_,_] rfl ⟨hS 0 _ rfl,hS 1 _ rfl,hS 2 _ rfl,hS 3 _ rfl,hS 4 _ rfl,hS 5 _ rfl,hS 6 _ rfl,hS 7 _ rfl,hS 8 _ rfl,hS 9 _ rfl,hS 10 _ rfl,hS 11 _ rfl,hS 12 _ rfl,hS 13 _ rfl,trivial⟩;simp only[puts,Act.put,dK,dL,dM] at ha;subst ha;clear hS hF;replace h1:=h1.kept hB;replace h2:=h2.kept hB;replace h5:=h5.kept hB;replace h6:=h6.kept hB;replace aA:=aA.trans (hB.mono aA.size);clear hB;go_wp2_with (first | (refine gq rfl (gN rfl (HP0.out _ _)) ?_) | (refine aM rfl 193 _ _ rfl .i64 (w.heap.size+1) 64 (fun _=>0) (fun _=>0) Tryz.size193 rfl rfl h2 ?_));exact bodyPost_ret (eD rfl _ _ .i64 (w.heap.size+1) 64 (fun _=>0) rfl (h2.setRow _ _) vH rfl Tryz.size193) rfl ⟨_,_,rfl,.inr ⟨rfl,rfl,fun hh=>absurd (La.out.1 hh).2.1 aN⟩,aC aA aH _⟩
     case true=>
      cases lt
      case false=>
       refine aX (n:=48) aS aS aS rfl
        (fun ii vv _=>(match ii with | 0 | 6 | 7 | 8 | 13=>vv=.bool true | 1 | 2=>vv=.bool false | 3=>vv=.agg (arr .i64 16 (dg 65536 Y)) | 4=>vv=.agg (arr .u8 32 (dg 256 (Y % Pr))) | 5=>vv=.agg (arr .u8 32 (dg 256 Y)) | 9 | 10 | 11 | 12=>vv=undef | _=>True))
        (fun w w'=>Below w.heap.size w w') (fun _ _ h=>h) (fun _ _ _ _ h _=>h) ?_ ?_
       ·refine cB ?_;refine⟨?_,?_,?_,?_,?_,?_,?_,?_,?_,?_,?_,?_,?_,?_,trivial⟩
        ·intro a w2 hB hF hd;exact aO <| aB _ (.inl rfl) aR (hF.same 7 rfl)
        ·intro a w2 hB hF hd;exact aO <| aT (iO rfl (hd 0 _ rfl (aj rfl))) rfl
        ·intro a w2 hB hF hd;exact aO <| aB _ (.inl rfl) aR (hd 1 _ rfl (aj rfl))
        ·intro a w2 hB hF hd;refine aI (aK rfl rfl (hd 2 _ rfl (aj rfl)) rfl) ?_;exact aT (aF rfl cZ rfl bQ (hF.same 5 rfl) (h5.below hB h5.lt)) rfl
        ·intro a w2 hB hF hd;refine aI (aK rfl rfl (hd 2 _ rfl (aj rfl)) rfl) ?_;refine aD _ _ _ rfl Tryz.call205 _ (args1 (hd 3 _ rfl (aj rfl))) aR ((iH _ _ HF.out w2).mono ?_);rintro e w3 ⟨rfl,hb⟩;exact⟨_,rfl,rfl,hb⟩
        ·intro a w2 hB hF hd;refine aI (aK rfl rfl (hd 2 _ rfl (aj rfl)) rfl) ?_;exact aT (aF rfl dY rfl dh (hF.same 1 rfl) (h1.below hB h1.lt)) rfl
        ·intro a w2 hB hF hd;refine aI (aK rfl rfl (hd 2 _ rfl (aj rfl)) rfl) ?_;exact aT (kG false rfl (hd 4 _ rfl (aj rfl)) (hd 5 _ rfl (aj rfl)) dY aS aS aS aS aS HSL.out) rfl
        ·intro a w2 hB hF hd;exact aO <| aT (bZ rfl (hd 2 _ rfl (aj rfl))) ((hd 6 _ rfl (aj rfl)))
        ·intro a w2 hB hF hd;exact aO <| aB _ (.inl rfl) aR (hd 7 _ rfl (aj rfl))
        ·intro a w2 hB hF hd;rw[if_neg (by rw[cK rfl rfl (hd 8 _ rfl (aj rfl))];decide)];exact rfl
        ·intro a w2 hB hF hd;rw[if_neg (by rw[cK rfl rfl (hd 8 _ rfl (aj rfl))];decide)];exact rfl
        ·intro a w2 hB hF hd;rw[if_neg (by rw[vM rfl rfl (hd 10 _ rfl (aj rfl))];decide)];exact rfl
        ·intro a w2 hB hF hd;rw[if_neg (by rw[cK rfl rfl (hd 8 _ rfl (aj rfl))];decide)];exact rfl
        ·intro a w2 hB hF hd;exact aO <| aT (bZ rfl (hd 8 _ rfl (aj rfl))) (rfl)
       ·intro a w7 hB hF hS;have ha:=aP rfl rfl hF [_,_,_,_,_,_,_,_,_,_,_,_,_,_] rfl ⟨hS 0 _ rfl,hS 1 _ rfl,hS 2 _ rfl,hS 3 _ rfl,hS 4 _ rfl,hS 5 _ rfl,hS 6 _ rfl,hS 7 _ rfl,hS 8 _ rfl,hS 9 _ rfl,hS 10 _ rfl,hS 11 _ rfl,hS 12 _ rfl,hS 13 _ rfl,trivial⟩;simp only[puts,Act.put,dK,dL,dM] at ha;subst ha;clear hS hF;replace h1:=h1.kept hB;replace h2:=h2.kept hB;replace h5:=h5.kept hB;replace h6:=h6.kept hB;replace aA:=aA.trans (hB.mono aA.size);clear hB;go_wp2_with (first | (refine gq rfl (gN rfl (HP0.out _ _)) ?_) | (refine aM rfl 193 _ _ rfl .i64 (w.heap.size+1) 64 (fun _=>0) (fun _=>0) Tryz.size193 rfl rfl h2 ?_));exact bodyPost_ret (eD rfl _ _ .i64 (w.heap.size+1) 64 (fun _=>0) rfl (h2.setRow _ _) vH rfl Tryz.size193) rfl ⟨_,_,rfl,.inr ⟨rfl,rfl,fun hh=>absurd (La.out.1 hh).1 (of_decide_eq_false Pm.out.symm)⟩,aC aA aH _⟩
      case true=>
       cases ze
       case true=>
        have HRZ:Hid (R % Pr=0):=by
         have h:R % Pr=0 % Pr:=of_decide_eq_true HZE.out.symm;rw[show (0:Int) % Pr=0 by decide] at h;exact h
        cases od
        case true=>
         refine aX (n:=48) aS aS aS rfl
          (fun ii vv _=>(match ii with | 0 | 9 | 10 | 11 | 12 | 13=>vv=.bool true | 1 | 2 | 6 | 7 | 8=>vv=.bool false | 3=>vv=.agg (arr .i64 16 (dg 65536 Y)) | 4=>vv=.agg (arr .u8 32 (dg 256 (Y % Pr))) | 5=>vv=.agg (arr .u8 32 (dg 256 Y)) | _=>True))
          (fun w w'=>Below w.heap.size w w') (fun _ _ h=>h) (fun _ _ _ _ h _=>h) ?_ ?_
         ·refine cB ?_;refine⟨?_,?_,?_,?_,?_,?_,?_,?_,?_,?_,?_,?_,?_,?_,trivial⟩
          ·intro a w2 hB hF hd;exact aO <| aB _ (.inl rfl) aR (hF.same 7 rfl)
          ·intro a w2 hB hF hd;exact aO <| aT (iO rfl (hd 0 _ rfl (aj rfl))) rfl
          ·intro a w2 hB hF hd;exact aO <| aB _ (.inl rfl) aR (hd 1 _ rfl (aj rfl))
          ·intro a w2 hB hF hd;refine aI (aK rfl rfl (hd 2 _ rfl (aj rfl)) rfl) ?_;exact aT (aF rfl cZ rfl bQ (hF.same 5 rfl) (h5.below hB h5.lt)) rfl
          ·intro a w2 hB hF hd;refine aI (aK rfl rfl (hd 2 _ rfl (aj rfl)) rfl) ?_;refine aD _ _ _ rfl Tryz.call205 _ (args1 (hd 3 _ rfl (aj rfl))) aR ((iH _ _ HF.out w2).mono ?_);rintro e w3 ⟨rfl,hb⟩;exact⟨_,rfl,rfl,hb⟩
          ·intro a w2 hB hF hd;refine aI (aK rfl rfl (hd 2 _ rfl (aj rfl)) rfl) ?_;exact aT (aF rfl dY rfl dh (hF.same 1 rfl) (h1.below hB h1.lt)) rfl
          ·intro a w2 hB hF hd;refine aI (aK rfl rfl (hd 2 _ rfl (aj rfl)) rfl) ?_;exact aT (kG true rfl (hd 4 _ rfl (aj rfl)) (hd 5 _ rfl (aj rfl)) dY aS aS aS aS aS HSL.out) rfl
          ·intro a w2 hB hF hd;exact aO <| aT (bZ rfl (hd 2 _ rfl (aj rfl))) ((hd 6 _ rfl (aj rfl)))
          ·intro a w2 hB hF hd;exact aO <| aB _ (.inl rfl) aR (hd 7 _ rfl (aj rfl))
          ·intro a w2 hB hF hd;refine aI (aK rfl rfl (hd 8 _ rfl (aj rfl)) rfl) ?_;exact aB _ (.inl rfl) aR (hF.same 8 rfl)
          ·intro a w2 hB hF hd;refine aI (aK rfl rfl (hd 8 _ rfl (aj rfl)) rfl) ?_;exact aB _ (.inl rfl) aR (hd 9 _ rfl (aj rfl))
          ·intro a w2 hB hF hd;refine aI (aK rfl rfl (hd 10 _ rfl (aj rfl)) rfl) ?_;exact aB _ (.inl rfl) aR (hF.same 4 rfl)
          ·intro a w2 hB hF hd;refine aI (aK rfl rfl (hd 8 _ rfl (aj rfl)) rfl) ?_;exact aT (bZ rfl (hd 10 _ rfl (aj rfl))) ((hd 11 _ rfl (aj rfl)))
          ·intro a w2 hB hF hd;exact aO <| aT (bZ rfl (hd 8 _ rfl (aj rfl))) ((hd 12 _ rfl (aj rfl)))
         ·intro a w7 hB hF hS;have ha:=aP rfl rfl hF [_,_,_,_,_,_,_,_,_,_,_,_,_,_] rfl ⟨hS 0 _ rfl,hS 1 _ rfl,hS 2 _ rfl,hS 3 _ rfl,hS 4 _ rfl,hS 5 _ rfl,hS 6 _ rfl,hS 7 _ rfl,hS 8 _ rfl,hS 9 _ rfl,hS 10 _ rfl,hS 11 _ rfl,hS 12 _ rfl,hS 13 _ rfl,trivial⟩;simp only[puts,Act.put,dK,dL,dM] at ha;subst ha;clear hS hF;replace h1:=h1.kept hB;replace h2:=h2.kept hB;replace h5:=h5.kept hB;replace h6:=h6.kept hB;replace aA:=aA.trans (hB.mono aA.size);clear hB;go_wp2_with (first | (refine gq rfl (gN rfl (HP0.out _ _)) ?_) | (refine aM rfl 193 _ _ rfl .i64 (w.heap.size+1) 64 (fun _=>0) (fun _=>0) Tryz.size193 rfl rfl h2 ?_));exact bodyPost_ret (eD rfl _ _ .i64 (w.heap.size+1) 64 (fun _=>0) rfl (h2.setRow _ _) vH rfl Tryz.size193) rfl ⟨_,_,rfl,.inr ⟨rfl,rfl,fun hh=>(La.out.1 hh).2.2 ⟨(pV (Xg.out (by trivial)).1).1 HRZ.out,of_decide_eq_true HOD.out.symm⟩⟩,aC aA aH _⟩
        case false=>
         have HNZ:Hid (¬ (R % Pr=0/\A / 2 ^ 255=1)):=fun h=>of_decide_eq_false HOD.out.symm h.2
         refine aX (n:=48) aS aS aS rfl
          (fun ii vv _=>(match ii with | 0 | 9 | 10=>vv=.bool true | 1 | 2 | 6 | 7 | 8 | 11 | 12 | 13=>vv=.bool false | 3=>vv=.agg (arr .i64 16 (dg 65536 Y)) | 4=>vv=.agg (arr .u8 32 (dg 256 (Y % Pr))) | 5=>vv=.agg (arr .u8 32 (dg 256 Y)) | _=>True))
          (fun w w'=>Below w.heap.size w w') (fun _ _ h=>h) (fun _ _ _ _ h _=>h) ?_ ?_
         ·refine cB ?_;refine⟨?_,?_,?_,?_,?_,?_,?_,?_,?_,?_,?_,?_,?_,?_,trivial⟩
          ·intro a w2 hB hF hd;exact aO <| aB _ (.inl rfl) aR (hF.same 7 rfl)
          ·intro a w2 hB hF hd;exact aO <| aT (iO rfl (hd 0 _ rfl (aj rfl))) rfl
          ·intro a w2 hB hF hd;exact aO <| aB _ (.inl rfl) aR (hd 1 _ rfl (aj rfl))
          ·intro a w2 hB hF hd;refine aI (aK rfl rfl (hd 2 _ rfl (aj rfl)) rfl) ?_;exact aT (aF rfl cZ rfl bQ (hF.same 5 rfl) (h5.below hB h5.lt)) rfl
          ·intro a w2 hB hF hd;refine aI (aK rfl rfl (hd 2 _ rfl (aj rfl)) rfl) ?_;refine aD _ _ _ rfl Tryz.call205 _ (args1 (hd 3 _ rfl (aj rfl))) aR ((iH _ _ HF.out w2).mono ?_);rintro e w3 ⟨rfl,hb⟩;exact⟨_,rfl,rfl,hb⟩
          ·intro a w2 hB hF hd;refine aI (aK rfl rfl (hd 2 _ rfl (aj rfl)) rfl) ?_;exact aT (aF rfl dY rfl dh (hF.same 1 rfl) (h1.below hB h1.lt)) rfl
          ·intro a w2 hB hF hd;refine aI (aK rfl rfl (hd 2 _ rfl (aj rfl)) rfl) ?_;exact aT (kG true rfl (hd 4 _ rfl (aj rfl)) (hd 5 _ rfl (aj rfl)) dY aS aS aS aS aS HSL.out) rfl
          ·intro a w2 hB hF hd;exact aO <| aT (bZ rfl (hd 2 _ rfl (aj rfl))) ((hd 6 _ rfl (aj rfl)))
          ·intro a w2 hB hF hd;exact aO <| aB _ (.inl rfl) aR (hd 7 _ rfl (aj rfl))
          ·intro a w2 hB hF hd;refine aI (aK rfl rfl (hd 8 _ rfl (aj rfl)) rfl) ?_;exact aB _ (.inl rfl) aR (hF.same 8 rfl)
          ·intro a w2 hB hF hd;refine aI (aK rfl rfl (hd 8 _ rfl (aj rfl)) rfl) ?_;exact aB _ (.inl rfl) aR (hd 9 _ rfl (aj rfl))
          ·intro a w2 hB hF hd;refine aI (aK rfl rfl (hd 10 _ rfl (aj rfl)) rfl) ?_;exact aB _ (.inl rfl) aR (hF.same 4 rfl)
          ·intro a w2 hB hF hd;refine aI (aK rfl rfl (hd 8 _ rfl (aj rfl)) rfl) ?_;exact aT (bZ rfl (hd 10 _ rfl (aj rfl))) ((hd 11 _ rfl (aj rfl)))
          ·intro a w2 hB hF hd;exact aO <| aT (bZ rfl (hd 8 _ rfl (aj rfl))) ((hd 12 _ rfl (aj rfl)))
         ·intro a w7 hB hF hS;have ha:=aP rfl rfl hF [_,_,_,_,_,_,_,_,_,_,_,_,_,_] rfl ⟨hS 0 _ rfl,hS 1 _ rfl,hS 2 _ rfl,hS 3 _ rfl,hS 4 _ rfl,hS 5 _ rfl,hS 6 _ rfl,hS 7 _ rfl,hS 8 _ rfl,hS 9 _ rfl,hS 10 _ rfl,hS 11 _ rfl,hS 12 _ rfl,hS 13 _ rfl,trivial⟩;simp only[puts,Act.put,dK,dL,dM] at ha;subst ha;clear hS hF;replace h1:=h1.kept hB;replace h2:=h2.kept hB;replace h5:=h5.kept hB;replace h6:=h6.kept hB;replace aA:=aA.trans (hB.mono aA.size);clear hB;go_wp2_with (first | (refine bN rfl 191 _ rfl .i64 x6 16 H cZ rfl bQ rfl h6 ?_) | (refine bN rfl 191 _ rfl .i64 x5 16 (dg 65536 Y) cZ rfl bQ rfl h5 ?_));refine(nX H (dg 65536 Y) (R) Y HFH.out HF.out _).mono ?_;rintro e wm ⟨rfl,hb⟩;replace h2:=h2.kept hb;replace aA:=aA.trans (hb.mono aA.size);clear hb;go_wp2_with (refine aM rfl 193 _ _ rfl .i64 (w.heap.size+1) 64 (fun _=>0) (pt H (dg 65536 Y) (aW 1) (aU H (dg 65536 Y))) Tryz.size193 rfl rfl h2 ?_);have hz:¬ (R % Pr=0/\A / 2 ^ 255=1):=HNZ.out;obtain⟨hr2,hr3⟩:=Xg.out (by trivial);obtain⟨p,hx,hy,hbn⟩:=HB.out R (of_decide_eq_true Pm.out.symm) hr2 hr3 hz;rw[if_neg (of_decide_eq_false HOD.out.symm)] at hx;exact bodyPost_ret (eD rfl _ _ .i64 (w.heap.size+1) 64 (pt H (dg 65536 Y) (aW 1) (aU H (dg 65536 Y))) rfl (h2.setRow _ _) vH rfl Tryz.size193) rfl ⟨_,_,rfl,.inl ⟨rfl,La.out.2 ⟨of_decide_eq_true Pm.out.symm,(by trivial),fun h=>hz ⟨(pV hr2).2 h.1,h.2⟩⟩,p,⟨_,rfl,zY HFH.out HF.out hx hy⟩,hbn⟩,aC aA aH _⟩
       case false=>
        have HNZ:Hid (¬ (R % Pr=0/\A / 2 ^ 255=1)):=fun h=>of_decide_eq_false HZE.out.symm h.1
        refine aX (n:=48) aS aS aS rfl
         (fun ii vv _=>(match ii with | 0=>vv=.bool true | 1 | 2 | 6 | 7 | 8 | 9 | 10 | 12 | 13=>vv=.bool false | 3=>vv=.agg (arr .i64 16 (dg 65536 Y)) | 4=>vv=.agg (arr .u8 32 (dg 256 (Y % Pr))) | 5=>vv=.agg (arr .u8 32 (dg 256 Y)) | 11=>vv=undef | _=>True))
         (fun w w'=>Below w.heap.size w w') (fun _ _ h=>h) (fun _ _ _ _ h _=>h) ?_ ?_
        ·refine cB ?_;refine⟨?_,?_,?_,?_,?_,?_,?_,?_,?_,?_,?_,?_,?_,?_,trivial⟩
         ·intro a w2 hB hF hd;exact aO <| aB _ (.inl rfl) aR (hF.same 7 rfl)
         ·intro a w2 hB hF hd;exact aO <| aT (iO rfl (hd 0 _ rfl (aj rfl))) rfl
         ·intro a w2 hB hF hd;exact aO <| aB _ (.inl rfl) aR (hd 1 _ rfl (aj rfl))
         ·intro a w2 hB hF hd;refine aI (aK rfl rfl (hd 2 _ rfl (aj rfl)) rfl) ?_;exact aT (aF rfl cZ rfl bQ (hF.same 5 rfl) (h5.below hB h5.lt)) rfl
         ·intro a w2 hB hF hd;refine aI (aK rfl rfl (hd 2 _ rfl (aj rfl)) rfl) ?_;refine aD _ _ _ rfl Tryz.call205 _ (args1 (hd 3 _ rfl (aj rfl))) aR ((iH _ _ HF.out w2).mono ?_);rintro e w3 ⟨rfl,hb⟩;exact⟨_,rfl,rfl,hb⟩
         ·intro a w2 hB hF hd;refine aI (aK rfl rfl (hd 2 _ rfl (aj rfl)) rfl) ?_;exact aT (aF rfl dY rfl dh (hF.same 1 rfl) (h1.below hB h1.lt)) rfl
         ·intro a w2 hB hF hd;refine aI (aK rfl rfl (hd 2 _ rfl (aj rfl)) rfl) ?_;exact aT (kG true rfl (hd 4 _ rfl (aj rfl)) (hd 5 _ rfl (aj rfl)) dY aS aS aS aS aS HSL.out) rfl
         ·intro a w2 hB hF hd;exact aO <| aT (bZ rfl (hd 2 _ rfl (aj rfl))) ((hd 6 _ rfl (aj rfl)))
         ·intro a w2 hB hF hd;exact aO <| aB _ (.inl rfl) aR (hd 7 _ rfl (aj rfl))
         ·intro a w2 hB hF hd;refine aI (aK rfl rfl (hd 8 _ rfl (aj rfl)) rfl) ?_;exact aB _ (.inl rfl) aR (hF.same 8 rfl)
         ·intro a w2 hB hF hd;refine aI (aK rfl rfl (hd 8 _ rfl (aj rfl)) rfl) ?_;exact aB _ (.inl rfl) aR (hd 9 _ rfl (aj rfl))
         ·intro a w2 hB hF hd;rw[if_neg (by rw[cK rfl rfl (hd 10 _ rfl (aj rfl))];decide)];exact rfl
         ·intro a w2 hB hF hd;refine aI (aK rfl rfl (hd 8 _ rfl (aj rfl)) rfl) ?_;exact aT (bZ rfl (hd 10 _ rfl (aj rfl))) (rfl)
         ·intro a w2 hB hF hd;exact aO <| aT (bZ rfl (hd 8 _ rfl (aj rfl))) ((hd 12 _ rfl (aj rfl)))
        ·intro a w7 hB hF hS;have ha:=aP rfl rfl hF [_,_,_,_,_,_,_,_,_,_,_,_,_,_] rfl ⟨hS 0 _ rfl,hS 1 _ rfl,hS 2 _ rfl,hS 3 _ rfl,hS 4 _ rfl,hS 5 _ rfl,hS 6 _ rfl,hS 7 _ rfl,hS 8 _ rfl,hS 9 _ rfl,hS 10 _ rfl,hS 11 _ rfl,hS 12 _ rfl,hS 13 _ rfl,trivial⟩;simp only[puts,Act.put,dK,dL,dM] at ha;subst ha;clear hS hF;replace h1:=h1.kept hB;replace h2:=h2.kept hB;replace h5:=h5.kept hB;replace h6:=h6.kept hB;replace aA:=aA.trans (hB.mono aA.size);clear hB;cases od
         case true=>
          go_wp2_with (refine bN rfl 191 _ rfl .i64 x6 16 H cZ rfl bQ rfl h6 ?_);refine(nP _ _ HFH.out _).mono ?_;rintro e wn ⟨rfl,hb⟩;replace h2:=h2.kept hb;replace h5:=h5.kept hb;replace h6:=h6.kept hb;replace aA:=aA.trans (hb.mono aA.size);clear hb;go_upto_region 10 with(refine aM rfl 191 _ _ rfl .i64 x6 16 H (iJ H) bQ rfl rfl h6 ?_);refine aJ (fun w9=>aQ .i64 w9 (w.heap.size+1) 64 (fun _=>0)/\aQ .i64 w9 x5 16 (dg 65536 Y)/\aQ .i64 w9 x6 16 (iJ H)/\Below w.heap.size w w9) ⟨h2.aG _ aH _,h5.aG _ aH _,h6.setRow _ _,aC aA aH _⟩ ?_;clear h1 h2 h5 h6 aA;rintro w9 ⟨h2,h5,h6,aA⟩
          try simp only[Act.put,dK,dL,dM]
          go_wp2_with (first | (refine bN rfl 191 _ rfl .i64 x6 16 (iJ H) cZ rfl bQ rfl h6 ?_) | (refine bN rfl 191 _ rfl .i64 x5 16 (dg 65536 Y) cZ rfl bQ rfl h5 ?_));refine(nX (iJ H) (dg 65536 Y) (-R) Y HFH.out.iJ HF.out _).mono ?_;rintro e wm ⟨rfl,hb⟩;replace h2:=h2.kept hb;replace aA:=aA.trans (hb.mono aA.size);clear hb;go_wp2_with (refine aM rfl 193 _ _ rfl .i64 (w.heap.size+1) 64 (fun _=>0) (pt (iJ H) (dg 65536 Y) (aW 1) (aU (iJ H) (dg 65536 Y))) Tryz.size193 rfl rfl h2 ?_);have hz:¬ (R % Pr=0/\A / 2 ^ 255=1):=HNZ.out;obtain⟨hr2,hr3⟩:=Xg.out (by trivial);obtain⟨p,hx,hy,hbn⟩:=HB.out R (of_decide_eq_true Pm.out.symm) hr2 hr3 hz;rw[if_pos (of_decide_eq_true HOD.out.symm)] at hx;exact bodyPost_ret (eD rfl _ _ .i64 (w.heap.size+1) 64 (pt (iJ H) (dg 65536 Y) (aW 1) (aU (iJ H) (dg 65536 Y))) rfl (h2.setRow _ _) vH rfl Tryz.size193) rfl ⟨_,_,rfl,.inl ⟨rfl,La.out.2 ⟨of_decide_eq_true Pm.out.symm,(by trivial),fun h=>hz ⟨(pV hr2).2 h.1,h.2⟩⟩,p,⟨_,rfl,zY HFH.out.iJ HF.out hx hy⟩,hbn⟩,aC aA aH _⟩
         case false=>
          go_wp2_with (first | (refine bN rfl 191 _ rfl .i64 x6 16 H cZ rfl bQ rfl h6 ?_) | (refine bN rfl 191 _ rfl .i64 x5 16 (dg 65536 Y) cZ rfl bQ rfl h5 ?_));refine(nX H (dg 65536 Y) (R) Y HFH.out HF.out _).mono ?_;rintro e wm ⟨rfl,hb⟩;replace h2:=h2.kept hb;replace aA:=aA.trans (hb.mono aA.size);clear hb;go_wp2_with (refine aM rfl 193 _ _ rfl .i64 (w.heap.size+1) 64 (fun _=>0) (pt H (dg 65536 Y) (aW 1) (aU H (dg 65536 Y))) Tryz.size193 rfl rfl h2 ?_);have hz:¬ (R % Pr=0/\A / 2 ^ 255=1):=HNZ.out;obtain⟨hr2,hr3⟩:=Xg.out (by trivial);obtain⟨p,hx,hy,hbn⟩:=HB.out R (of_decide_eq_true Pm.out.symm) hr2 hr3 hz;rw[if_neg (of_decide_eq_false HOD.out.symm)] at hx;exact bodyPost_ret (eD rfl _ _ .i64 (w.heap.size+1) 64 (pt H (dg 65536 Y) (aW 1) (aU H (dg 65536 Y))) rfl (h2.setRow _ _) vH rfl Tryz.size193) rfl ⟨_,_,rfl,.inl ⟨rfl,La.out.2 ⟨of_decide_eq_true Pm.out.symm,(by trivial),fun h=>hz ⟨(pV hr2).2 h.1,h.2⟩⟩,p,⟨_,rfl,zY HFH.out HF.out hx hy⟩,hbn⟩,aC aA aH _⟩
end Go.Proofs.YtpcjekgfnfjbpaaGreat
