/- Part 46 of SuiteBytes; conditions: in each theorem. -/
import Derived.Test.YtpcjekgfnfjbpaaGreatPkSuiteBytes28
import Derived.Test.YtpcjekgfnfjbpaaGreatPkSuiteBytes45
set_option linter.unusedVariables false
set_option linter.unusedSimpArgs false
set_option maxRecDepth 100000
set_option maxHeartbeats 6400000
namespace Go.bC
open Go.RowKit
theorem Co {P:Program} {w:World} {ops:Array Oper} {rest:List Oper} {o:Oper} {a:Act} {Q:Exit->Act->World->Prop} (hg:o.guard=none)
  (s x:Operand) (t:TypeId) (hop:o.op=.call { callee:=.builtin .append,args:=#[s,x],argTypes:=#[t,t] })
  (base:Nat) (e:TypeId) (bytes:Nat) (h1:P.underlying t=some (.slice e)) (hinfo:(P.info? e).map (fun i=>(i.zero,i.size,i.bytes))=some (some (.slice none 0 0),1,bytes))
  (v:Value) (m:Nat) (lens:Nat->Nat) (g:Nat->Nat->Int) (bM:fF e base w v m lens g) (hs:a.eval s=v)
  (u:Value) (m2:Nat) (NZ:Nat->Value) (wV:Nat->Nat) (g2:Nat->Nat->Int) (htx:Cu w u m2 NZ wV g2) (DK:∀j,j<m2->0<wV j->(NZ j).ownBlock≠v.ownBlock) (hx:a.eval x=u)
  (b2:(m+m2) * bytes<=140737488355328) (b3:m+m2<=140737488355328) (b4:base<=w.heap.size)
  (hK:∀v' w',fF e base w' v' (m+m2) (iV m lens wV) (jP m g g2)->w.grownBy w' v.ownBlock->(∀b,v'.ownBlock=some b->base<=b)->Placed w v v'->wpList P ops Q rest (a.put o.dst v') w'):
  wpList P ops Q (o::rest) a w:=
 wpList_plain hg fun _ hK'=>Da s x t hop base e bytes h1 hinfo v m lens g bM hs u m2 NZ wV g2 htx DK hx b2 b3 b4 fun v' w' q1 q2 q3 q4=>hK' _ _ (hK v' w' q1 q2 q3 q4)
theorem KN {P:Program} {w:World} {ops:Array Oper} {rest:List Oper} {o:Oper} {a:Act} {Q:Exit->Act->World->Prop} (hg:o.guard=none) (d s:Operand) (dT sT:TypeId) (ho:o.op=.call { callee:=.builtin .copy,args:=#[d,s],argTypes:=#[dT,sT] }) {e:TypeId} {k:IntKind} (g off dLen dCap n:Nat) (f:Nat->Int) (hu:P.underlying dT=some (.slice e)) (fD:(P.info? e).map (·.size)=some 1)
  (hd:a.eval d=.slice (some ⟨g,off,none⟩) dLen dCap) (hA:aQ k w g n f) (u:Value) (m:Nat) (h:Nat->Int) (hr:Rd k w u m h) (hs:a.eval s=u) (hm:m<=dLen) (hf:off+m<=n)
  (hK:wpList P ops Q rest (a.put o.dst (goInt m)) (w.setRow g (arr k n (laid f off m h)))):wpList P ops Q (o::rest) a w:=
 wpList_plain hg fun _ hK'=>kE d s dT sT ho g off dLen dCap n f hu fD hd hA u m h hr hs hm hf (hK' _ _ hK)
theorem abR {w w':World} {v u:Value} {n m:Nat} {f g:Nat->Int} {T:TypeId} (h:Rd .u8 w v n f) (h':Rd .u8 w u m g) (hb:Below w.heap.size w w'):
  oq (w'.alloc (.cells [v,u].toArray T)) (.slice (some ⟨w'.heap.size,0,none⟩) 2 2) 2 (iV 1 (fun _=>n) (fun _=>m)) (jP 1 (fun _=>f) (fun _=>g)):=
 oq.new aN fun j hj=>by
  rcases(by omega:j=0\/j=1) with rfl | rfl
  ·exact⟨v,rfl,h.below hb⟩
  ·exact⟨u,rfl,h'.below hb⟩
end Go.bC
namespace Go.bC
def JF:ByteArray:=⟨#[114,101,103,114,101,115,115]⟩
def wX:ByteArray:=⟨#[105,116,101,109]⟩
theorem Qf:∀i:Fin 8,fO 1 (fun _=>(7:Int)) (jJ JF) i.val=aap i.val:=by decide+kernel
theorem MN:∀i:Fin 5,fO 1 (fun _=>(4:Int)) (jJ wX) i.val=aaq i.val:=by decide+kernel
def lu (f:Nat->Int):Nat->Int:=pK 32 f 8 aap
def mX (f:Nat->Int):Nat->Int:=pK 32 f 5 aaq
theorem JY (f:Nat->Int) (lens:Nat->Nat) (g:Nat->Nat->Int):pK 32 f (pz JF.size lens 0) (sU JF.size (jJ JF) lens g 0)=lu f:=
 Al (fun _ _=>rfl) fun i hi=>Qf ⟨i,hi⟩
theorem Km (f:Nat->Int) (lens:Nat->Nat) (g:Nat->Nat->Int):pK 32 f (pz wX.size lens 0) (sU wX.size (jJ wX) lens g 0)=mX f:=
 Al (fun _ _=>rfl) fun i hi=>MN ⟨i,hi⟩
theorem JZ (f:Nat->Int) (i:Nat):0<=lu f i/\lu f i<256:=nT _ _ _ _ i
theorem Kn (f:Nat->Int) (i:Nat):0<=mX f i/\mX f i<256:=nT _ _ _ _ i
end Go.bC
namespace Go.bC
open Go.RowKit
def xP (w w':World):Prop:=w.heap.size<=w'.heap.size/\∀b,(∃i x,w.cell? ⟨b,i,none⟩=some (.int .i64 x))->b<w.heap.size->w'.heap[b]? =w.heap[b]?
theorem xP.of {w w':World} (h:Below w.heap.size w w'):xP w w':=⟨h.size,fun b _ hb=>h.block b hb⟩
theorem xP.row {w:World} {b n:Nat} {f:Nat->Int} {cs:Array Value} {T:TypeId} (hz:w.heap[b]? =some (.cells (arr .u8 n f) T (0,0))):xP w (w.setRow b cs):=by
 refine⟨by rw[setRow_size];exact bB _,fun b' hi _=>setRow_other w b b' cs ?_⟩;rintro rfl;obtain⟨i,x,hx⟩:=hi;rw[cell_of_row w b' i _ T (0,0) hz] at hx;by_cases hin:i<n
 ·rw[rA hin] at hx;cases hx
 ·have h2:=(Array.getElem?_eq_some_iff.1 hx).1;rw[gW] at h2;omega
theorem Rd.ES {w w':World} {v:Value} {n:Nat} {f:Nat->Int} (h:Rd .i64 w v n f) (hk:xP w w'):Rd .i64 w' v n f:=by
 obtain⟨a,c,rfl,h1,h2,h3,h4⟩:=h;refine⟨a,c,rfl,h1,h2,h3,fun hn=>?_⟩;obtain⟨b,o,rfl,hlt,hc⟩:=h4 hn;have hb:=hk.2 b ⟨o+0,f 0,hc 0 hn⟩ hlt;exact⟨b,o,rfl,zO hlt hk.1,fun i hi=>(World.cell?_of_block hb).trans (hc i hi)⟩
theorem CV.ES {w w':World} {v:Value} {p:Ed C7} (h:CV w v p) (hb:xP w w'):CV w' v p:=by
 obtain⟨r1,n1,c1,r2,n2,c2,r3,n3,c3,e,A,B,C,h0,h1,h2,h3⟩:=h;exact⟨r1,n1,c1,r2,n2,c2,r3,n3,c3,e,A,B,C,h0,h1.ES hb,h2.ES hb,h3.ES hb⟩
end Go.bC
namespace Go.Proofs.YtpcjekgfnfjbpaaGreat
open Go.RowKit Go.bC
attribute [local go_sem ↓] Go.wp_at_zero Go.wp_at_succ
theorem Tryz.infoTxt:(Tryz.prog.info? 23).map (fun i=>(i.zero,i.size,i.bytes))=some (some (.slice none 0 0),1,24):=by kernel_rfl
theorem Tryz.undTxt:Tryz.prog.underlying 55=some (.slice 23):=by kernel_rfl
theorem yR (v:Value) (a m n:Nat) (lens:Nat->Nat) (f F:Nat->Int) (g:Nat->Nat->Int) (w:World) (hv:oq w v (1+m) (iV 1 (fun _=>a) lens) (jP 1 (fun _=>f) g)) (hg:∀j,j<m->∀i,i<lens j->F (fq lens j+i)=g j i) (hn:fq lens m=n) (hl:a+n<=1000000)
  (hf:∀i,i<a->0<=f i/\f i<256) (hF:∀i,i<n->0<=F i/\F i<256):
  Calls Tryz.prog 139 #[v] w fun e w'=>e=.returned (.agg (arr .u8 64 (gJ (a+n) (fO a f F))))/\Below w.heap.size w w':=by
 have h1:fq (fun _=>a) 1=a:=by simp[fq]
 have h2:=lI (F1:=f) (F2:=F) (uz (f:=f) (n:=a)).1 hg;rw[h1] at h2;exact vQ v (1+m) _ _ (a+n) _ w hv h2 (by rw[mo,h1,hn]) hl (fU hf hF)
theorem KJ (v:Value) (n:Nat) (key:Nat->Int) (c:Int) (w:World) (hv:Rd .u8 w v n key) (hn:n<=1000000) (hk:∀i,i<n->0<=key i/\key i<256) (hc:0<=c/\c<256):
  Calls Tryz.prog 227 #[v,.int .u8 c] w fun e w'=> ∃u,e=.returned u/\Rd .u8 w' u 128 (sO n key c)/\Below w.heap.size w w':=by
 obtain⟨PK,hPK⟩:∃PK,PK=sO n key c:=⟨_,rfl⟩
 have HK:=ak hk;have HKB:Hid (∀i,0<=qP n key i/\qP n key i<256):=ML hk;have HPK:Hid (∀i,bits .xor .u8 (qP n key i) c=PK i):=by rw[hPK];exact fun i=>rfl
 obtain⟨KK,hKK⟩:∃KK,KK=qP n key:=⟨_,rfl⟩
 have HK1:Hid (128<n->∀i,i<128->laid (fun _=>0) 0 64 (gJ n key) i=KK i):=by
  rw[hKK];intro h i hi;unfold laid qP;rw[if_pos h];by_cases q:i<64
  ·rw[if_pos aH,if_pos q,Nat.sub_zero]
  ·rw[if_neg aH,if_neg q]
 have HK2:Hid (¬ 128<n->∀i,i<128->laid (fun _=>0) 0 n key i=KK i):=by
  rw[hKK];intro h i hi;unfold laid qP;rw[if_neg h];by_cases q:i<n
  ·rw[if_pos aH,if_pos q,Nat.sub_zero]
  ·rw[if_neg aH,if_neg q]
 rw[<-hPK];rw[<-hKK] at HKB HPK;have HV:=ak hv;have HS:=ak (fun v w (h:oq w v 1 (fun _=>n) (fun _=>key))=>SY v n key w h hn hk);obtain⟨va,vc,rfl,v1,v2,_,_⟩:=hv;obtain⟨c0,c1⟩:=hc;clear hk hPK hKK;by_cases hlong:128<n
 case' pos=>
  go_enter Tryz.func227,Tryz.ntmps227
  go_wp2_with fail;refine(HS.out _ _ (new1 (T:=23) HV.out (bT _ _))).mono ?_;rintro e w1 ⟨rfl,eP⟩;have mY:Below w.heap.size w w1:=((bT w.heap.size w).alloc (bB _) _).trans (eP.mono aR);clear eP;go_upto_region 3 with(refine aM rfl 47 _ _ rfl .u8 w1.heap.size 64 (fun _=>0) _ zy rfl rfl (bU rfl (by rfl)) ?_);refine aJ (fun w2=>aQ .u8 w2 w1.heap.size 64 (gJ n key)/\Below w.heap.size w w2) ⟨(bU rfl (by rfl):aQ .u8 _ _ 64 (fun _=>0)).setRow _ _,aC (mY.alloc mY.size _) mY.size _⟩ ?_;rintro w2 ⟨hA,dP⟩;obtain⟨q,hq⟩:∃q,q=w1.heap.size:=⟨_,rfl⟩
  rw[<-hq] at hA ⊢;clear hq mY;simp only[Act.put];go_upto_region 3 with(fail)
  refine aX (n:=33) aS aS aS rfl
   (fun ii vv _=>(match ii with | 0 | 1=>vv=.slice (some ⟨q,0,none⟩) 64 64 | _=>True))
   (fun w w'=>Below w.heap.size w w') (fun _ _ h=>h) (fun _ _ _ _ h _=>h) ?_ ?_
  ·refine cB ?_;refine⟨?_,?_,trivial⟩
   ·intro a w2 hB hF hd;exact aO <| aT (fC rfl (hF.same 5 rfl) FD aS) rfl
   ·intro a w2 hB hF hd;exact aO <| aB _ (.inr rfl) aR (hd 0 _ rfl (aj rfl))
  ·intro a w3 hB hF hS;have ha:=aP rfl rfl hF [_,_] rfl ⟨hS 0 _ rfl,hS 1 _ rfl,trivial⟩;simp only[puts,Act.put,dK,dL,dM] at ha;subst ha;clear hS hF;have fP:=dP.trans (hB.mono dP.size);have hs3:=fP.size;have XB:Hid (Rd .u8 w3 (.slice (some ⟨q,0,none⟩) 64 64) 64 (gJ n key)):=(hA.kept hB).rd aN;have HL:Hid (∀i,i<128->laid (fun _=>0) 0 64 (gJ n key) i=KK i):=HK1.out hlong;obtain⟨k0,hk0⟩:∃k0,k0=gJ n key:=⟨_,rfl⟩
   rw[<-hk0] at XB HL;clear hA dP hB hk0
   go_upto_region 6 with(first
    | (refine iB rfl _ _ 23 rfl w.heap.size 5 .u8 1 lK pI .i64 .i64 128 rfl rfl aN aN fP.size ?_;intro w4 bM bA;have Kz:=bM.rows.arr;have Vu:=XB.out.below (dW (bT w3.heap.size w3) bA (bB _)))
    | (refine KN rfl _ _ 23 23 rfl (e:=5) (k:=.u8) w3.heap.size 0 128 128 128 (fun _=>0) lK Tryz.size5 rfl Kz _ 64 k0 Vu rfl aH aH ?_))
   refine aJ (fun w5=>aQ .u8 w5 w3.heap.size 128 KK/\Below w.heap.size w w5) ⟨(Kz.setRow _ _).congr HL.out,aC (dW fP bA hs3) hs3 _⟩ ?_;rintro w5 ⟨CK,iX⟩;obtain⟨G,hG⟩:∃G,G=w3.heap.size:=⟨_,rfl⟩
   have hGl:w.heap.size<=G:=by rw[hG];exact hs3
   rw[<-hG] at CK ⊢;clear hG Kz Vu bM bA XB HL;simp only[Act.put,dK,dL,dM];go_wp2
   go_loopw [21] (fun u wr=> ∃i:Nat,i<=128/\u=.int .i64 (i:Int)/\aQ .u8 wr G 128 (upto i PK KK)/\Below w.heap.size w wr) (fun u _=>128 - (intOf u).toNat)
   case atStart=>exact⟨0,gX _,rfl,by rw[dH];exact CK,iX⟩
   case round=>
    clear CK iX;obtain⟨i,hi,rfl,hA,aA⟩:=hrel;have HA:=ak hA;clear hA;by_cases hlt:i<128
    ·have e1:=HA.out.cell i hlt;rw[upto_at] at e1;have f1:=HA.out.free i;obtain⟨x,hx⟩:∃x,x=KK i:=⟨_,rfl⟩
     have x01:=HKB.out i;have hp:=HPK.out i;rw[<-hx] at e1 x01 hp;have HX:=ak hx;obtain⟨x0,x1⟩:=x01;clear hx;go_wp2;go_roundw
     case rel=>exact⟨i+1,by omega,by go_num,by rw[<-bW (j:=i) (g:=PK) (f:=KK) rfl];exact HA.out.set i _,aA.setCell hGl _⟩
     case measure=>simp[intOf] <;> omega
    ·obtain rfl:i=128:=by omega
     have hR:=(HA.out.congr (g:=PK) (dQ PK KK (bB _))).rd aN;clear HA;go_wp2;go_ret;exact⟨_,rfl,hR,aA⟩
 case' neg=>
  go_enter Tryz.func227,Tryz.ntmps227
  have OJ:n<=128:=by omega
  have XB:=HV;have HL:Hid (∀i,i<128->laid (fun _=>0) 0 n key i=KK i):=HK2.out hlong
  go_upto_region 6 with(first
   | (refine iB rfl _ _ 23 rfl w.heap.size 5 .u8 1 lK pI .i64 .i64 128 rfl rfl aN aN (bB _) ?_;intro w4 bM bA;have Kz:=bM.rows.arr;have Vu:=XB.out.below (dW (bT w.heap.size w) bA (bB _)))
   | (refine KN rfl _ _ 23 23 rfl (e:=5) (k:=.u8) w.heap.size 0 128 128 128 (fun _=>0) lK Tryz.size5 rfl Kz _ n key Vu rfl aH aH ?_))
  refine aJ (fun w5=>aQ .u8 w5 w.heap.size 128 KK/\Below w.heap.size w w5) ⟨(Kz.setRow _ _).congr HL.out,aC (dW (bT _ _) bA (bB _)) (bB _) _⟩ ?_;rintro w5 ⟨CK,iX⟩;obtain⟨G,hG⟩:∃G,G=w.heap.size:=⟨_,rfl⟩
  have hGl:w.heap.size<=G:=by rw[hG];exact(bB _)
  rw[<-hG] at CK ⊢;clear hG Kz Vu bM bA XB HL;simp only[Act.put,dK,dL,dM];go_wp2
  go_loopw [21] (fun u wr=> ∃i:Nat,i<=128/\u=.int .i64 (i:Int)/\aQ .u8 wr G 128 (upto i PK KK)/\Below w.heap.size w wr) (fun u _=>128 - (intOf u).toNat)
  case atStart=>exact⟨0,gX _,rfl,by rw[dH];exact CK,iX⟩
  case round=>
   clear CK iX;obtain⟨i,hi,rfl,hA,aA⟩:=hrel;have HA:=ak hA;clear hA;by_cases hlt:i<128
   ·have e1:=HA.out.cell i hlt;rw[upto_at] at e1;have f1:=HA.out.free i;obtain⟨x,hx⟩:∃x,x=KK i:=⟨_,rfl⟩
    have x01:=HKB.out i;have hp:=HPK.out i;rw[<-hx] at e1 x01 hp;have HX:=ak hx;obtain⟨x0,x1⟩:=x01;clear hx;go_wp2;go_roundw
    case rel=>exact⟨i+1,by omega,by go_num,by rw[<-bW (j:=i) (g:=PK) (f:=KK) rfl];exact HA.out.set i _,aA.setCell hGl _⟩
    case measure=>simp[intOf] <;> omega
   ·obtain rfl:i=128:=by omega
    have hR:=(HA.out.congr (g:=PK) (dQ PK KK (bB _))).rd aN;clear HA;go_wp2;go_ret;exact⟨_,rfl,hR,aA⟩
theorem VW (vk:Value) (nk:Nat) (key:Nat->Int) (vp:Value) (m:Nat) (lens:Nat->Nat) (g:Nat->Nat->Int) (n:Nat) (F:Nat->Int) (w:World) (hv:Rd .u8 w vk nk key) (hk1:nk<=1000000) (hk:∀i,i<nk->0<=key i/\key i<256)
  (hp:oq w vp m lens g) (hm:m<=1000000) (hg:∀j,j<m->∀i,i<lens j->F (fq lens j+i)=g j i) (hn:fq lens m=n) (hn2:n<=900000) (hF:∀i,i<n->0<=F i/\F i<256):
  Calls Tryz.prog 177 #[vk,vp] w fun e w'=>e=.returned (.agg (arr .u8 64 (pK nk key n F)))/\Below w.heap.size w w':=by
 obtain⟨K1,hK1⟩:∃K1,K1=sO nk key 54:=⟨_,rfl⟩
 obtain⟨K2,hK2⟩:∃K2,K2=sO nk key 92:=⟨_,rfl⟩
 have HP1:=ak (fun w h=>KJ vk nk key 54 w h hk1 hk aN);have HP2:=ak (fun w h=>KJ vk nk key 92 w h hk1 hk aN);have HB1:Hid (∀i,i<128->0<=K1 i/\K1 i<256):=by rw[hK1];exact fun i _=>qM _ _ _ i
 have HB2:Hid (∀i,i<128->0<=K2 i/\K2 i<256):=by rw[hK2];exact fun i _=>qM _ _ _ i
 obtain⟨S1,hS1⟩:∃S1,S1=gJ (128+n) (fO 128 K1 F):=⟨_,rfl⟩
 have uq:Hid (∀i,i<64->0<=S1 i/\S1 i<256):=by rw[hS1];exact fun i _=>fM _ _ i
 obtain⟨TG,Na⟩:∃TG,TG=gJ (128+64) (fO 128 K2 S1):=⟨_,rfl⟩
 have IC:=ak (fun v w h=>yR v 128 m n lens K1 F g w h hg hn aH HB1.out hF);have HS2:=ak (fun v w h=>yR v 128 1 64 (fun _=>64) K2 S1 (fun _=>S1) w h (uz (f:=S1) (n:=64)).1 (uz (f:=S1) (n:=64)).2 aN HB2.out uq.out);have e1:pK nk key n F=TG:=by rw[Na,hS1,hK1,hK2];rfl
 rw[e1];rw[<-hS1] at IC;rw[<-Na] at HS2;rw[<-hK1] at HP1;rw[<-hK2] at HP2;have HV:=ak hv;have HT:=ak hp;obtain⟨va,vc,rfl,v1,v2,_,_⟩:=hv;obtain⟨pa,pc,rfl,p1,p2,_⟩:=hp;clear hk hg hn hF hS1 Na e1 hK1 hK2
 go_enter Tryz.func177,Tryz.ntmps177
 go_upto_region 1 with(fail);refine aJ (fun w1=>aQ .u8 w1 w.heap.size 64 (fun _=>0)/\Below w.heap.size w w1/\w1.heap.size=w.heap.size+1) ⟨bU rfl (by rfl),(bT _ _).alloc (bB _) _,by simp⟩ ?_;rintro w1 ⟨hZ,eP,hs1⟩;have ZK:=ak (HV.out.below eP);have HT1:=ak (HT.out.below eP);clear HV HT;go_wp2_with fail;refine(HP1.out _ ZK.out).mono ?_;rintro e w2 ⟨u,rfl,hu,dP⟩;have gy:=hZ.kept dP;have gu:=eP.trans (dP.mono eP.size);have HV2:=ak (ZK.out.below dP);obtain⟨us,hU⟩:=(HT1.out.below dP).aeL;have HU:=ak hU;have HUR:=ak hu;have hs2:=gu.size;clear hZ eP hs1 dP ZK HT1 hU hu;obtain⟨ua,uc,rfl,u1,u2,_,_⟩:=id HUR.out;have hO1:=ak (fF.aju (e:=23) (bB w2.heap.size) HUR.out);have hU1:=ak (HU.out.below ((bT w2.heap.size w2).alloc (bB _) (.cells #[.slice ua 128 uc] 23)));have hF1:=ak (HU.out.far (u:=.slice (some ⟨w2.heap.size,0,none⟩) 1 1) (by intro b hb;simp[Value.ownBlock] at hb;omega));go_wp2_with (at_builtin;refine Co rfl _ _ 55 rfl w2.heap.size 23 24 Tryz.undTxt Tryz.infoTxt _ 1 (fun _=>128) (fun _=>K1) hO1.out rfl _ m us lens g hU1.out hF1.out rfl aH aH aR ?_;intro v3 w3 hown3 GZ akb ajI);have fP:Below w.heap.size w w3:=(gu.alloc hs2 _).grown GZ (by simp;omega) (fun b hb=>by simp[Value.ownBlock] at hb;omega);have hlow:Below w2.heap.size w2 w3:=((bT w2.heap.size w2).alloc (bB _) _).grown GZ aR (fun b hb=>by simp[Value.ownBlock] at hb;omega);have HV3:=ak (HV2.out.below hlow);have jy:=gy.kept hlow;have HT3:=ak hown3.txt;clear hown3 GZ akb ajI gy gu HV2 HU hO1 hU1 hF1 hlow;refine(IC.out _ _ HT3.out).mono ?_;rintro e w4 ⟨rfl,jd⟩;have jT:=fP.trans (jd.mono fP.size);have HV4:=ak (HV3.out.below jd);have xq:=jy.kept jd;have hzl:=xq.lt;clear fP jd HV3 jy HT3;go_upto_region 2 with(refine aM rfl 47 _ _ rfl .u8 w4.heap.size 64 (fun _=>0) S1 zy rfl rfl (bU rfl (by rfl)) ?_)
 refine aJ (fun w5=>aQ .u8 w5 w4.heap.size 64 S1/\aQ .u8 w5 w.heap.size 64 (fun _=>0)/\Below w.heap.size w w5/\Rd .u8 w5 (.slice va nk vc) nk key)
  ⟨(bU rfl (by rfl):aQ .u8 _ _ 64 (fun _=>0)).setRow _ _,aQ.aG (aQ.alloc xq _) _ aH _,aC (jT.alloc jT.size _) jT.size _,HV4.out.below (aC ((bT w4.heap.size w4).alloc (bB _) _) (bB _) _)⟩ ?_
 rintro w5 ⟨CK,rW,iX,hv5⟩;have HV5:=ak hv5;obtain⟨q,hq⟩:∃q,q=w4.heap.size:=⟨_,rfl⟩
 rw[<-hq] at CK ⊢;clear hq xq jT hv5 HV4;simp only[Act.put]
 refine fT (n:=17) 5 rfl aN aS aS aS aS rfl
  (fun ii vv ww=>(match ii with | 0=>vv=.slice va nk vc | 2=>vv=.slice (some ⟨q,0,none⟩) 64 64 | 4=>vv=.agg (arr .u8 64 (TG)) | _=>True)/\(ii=1->Rd .u8 ww vv 128 (K2))/\(ii=3->oq ww vv 2 (iV 1 (fun _=>128) (fun _=>64)) (jP 1 (fun _=>K2) (fun _=>S1))))
  (fun w w'=>Below w.heap.size w w') (fun _ _ h=>h) (fun i v w w' h hE=>⟨h.1,fun e=>Rd.below (h.2.1 e) hE,fun e=>oq.below (h.2.2 e) hE⟩) rfl ?_ ?_
 ·refine cB ?_;refine⟨?_,?_,?_,?_,?_,(fun h=>absurd rfl h),trivial⟩
  ·intro _ a w2 hB hF hd;exact aO <| aB _ (.inl rfl) aR ⟨(hF.same 0 rfl),aL,aL⟩
  ·intro _ a w2 hB hF hd;refine aO <| aD _ _ _ rfl Tryz.call227 _ (args2 ((hd 0 _ rfl (aj rfl)).1) rfl) aR ((HP2.out _ (HV5.out.below hB)).mono ?_);rintro e w3 ⟨u,rfl,hr,hb⟩;exact⟨u,rfl,⟨trivial,fun _=>hr,aL⟩,hb⟩
  ·intro _ a w2 hB hF hd;exact aO <| aT (fC rfl (hF.same 5 rfl) FD aS) ⟨rfl,aL,aL⟩
  ·intro _ a w2 hB hF hd;exact aO <| kI 55 23 2 _ [a.eval (Operand.tmp 13),.slice (some ⟨q,0,none⟩) 64 64] rfl Tryz.underlying55 aS aS rfl aN aN (by intro v hv;simp only[List.mem_cons,List.not_mem_nil,or_false] at hv;rcases hv with rfl | rfl;exact Rd.Ii ((hd 1 _ rfl (aj rfl)).2.1 rfl);rfl) (by simp only[zw,List.map_cons,List.map_nil,show a.eval (Operand.tmp 14)=.slice (some ⟨q,0,none⟩) 64 64 from((hd 2 _ rfl (aj rfl)).1)];rfl) aR ⟨trivial,aL,fun _=>(abR ((hd 1 _ rfl (aj rfl)).2.1 rfl) ((CK.kept hB).rd aN) (bT _ _))⟩
  ·intro _ a w2 hB hF hd;refine aO <| aD _ _ _ rfl Tryz.call139 _ (args1 rfl) aR ((HS2.out _ _ ((hd 3 _ rfl (aj rfl)).2.2 rfl)).mono ?_);rintro e w3 ⟨rfl,hb⟩;exact⟨_,rfl,⟨rfl,aL,aL⟩,hb⟩
 ·intro a w6 hB hF hS;obtain⟨x13,afm⟩:∃x,x=a.tmps.getD 13 undef:=⟨_,rfl⟩
  obtain⟨x15,afl⟩:∃x,x=a.tmps.getD 15 undef:=⟨_,rfl⟩
  have ha:=aP rfl rfl hF [_,x13,_,x15,_,undef] rfl ⟨(hS 0 _ rfl aN).1,afm.symm,(hS 2 _ rfl aN).1,afl.symm,(hS 4 _ rfl aN).1,trivial,trivial⟩;simp only[puts,Act.put,dK,dL,dM] at ha;subst ha;clear afm afl;clear hS hF;have sW:=rW.kept hB;have kg:=iX.trans (hB.mono iX.size);refine bE 47 _ _ rfl .u8 w.heap.size 64 (fun _=>0) TG zy rfl rfl sW ?_;have EU:=sW.setRow 64 TG;have IJ:=aC kg (bB _) (arr .u8 64 TG);clear rW iX CK sW kg hB;go_wp2;exact bodyPost_ret (bg rfl _ _ .u8 w.heap.size 64 _ 5 rfl EU FD zy) rfl ⟨rfl,IJ⟩
theorem Uv (a:Option Addr) (n c:Nat) (h1:n<=1048576) (w:World):Calls Tryz.prog 175 #[.slice a n c] w fun e w'=>e=.returned (.bool false)/\w=w':=by
 have hl:decide ((1048576:Int)<(n:Int))=false:=decide_eq_false aH
 go_enter Tryz.func175,Tryz.ntmps175
 go_wp2;go_ret;exact⟨rfl,rfl⟩
theorem Ko (v:Value) (m:Nat) (lens:Nat->Nat) (g:Nat->Nat->Int) (w:World) (hv:oq w v m lens g) (hl:∀j,j<m->lens j<=1048576):
  Calls Tryz.prog 226 #[v,.func (.func 175) #[] #[]] w fun e w'=>e=.returned (.int .i64 (-1))/\w=w':=by
 have HL:=ak hl;obtain⟨ta,tc,rfl,t1,t2,t3⟩:=hv;have HT3:=ak t3;clear hl t3
 go_enter Tryz.func226,Tryz.ntmps226
 go_wp2
 go_loop [8] (fun i=> ∃k:Nat,k<=m/\i=.int .i64 (k:Int)) (fun i=>m - (intOf i).toNat)
 case atStart=>exact⟨0,gX _,rfl⟩
 case round=>
  obtain⟨k,hk,rfl⟩:=hrel;by_cases hlt:k<m
  ·obtain⟨tb,to,rfl,tlt,rZ⟩:=HT3.out aH;obtain⟨u,hu,RZ⟩:=rZ k hlt;obtain⟨ua,uc,rfl,_,_,_,_⟩:=RZ;have hlk:=HL.out k hlt;clear rZ;go_wp2_with fail;refine(Uv _ _ _ hlk _).mono ?_;rintro e w1 ⟨rfl,rfl⟩;go_wp2
   go_round
   case rel=>exact⟨k+1,by omega,by go_num⟩
   case measure=>simp[intOf];omega
  ·obtain rfl:k=m:=by omega
   go_wp2;go_ret;exact⟨rfl,rfl⟩
theorem Ky (v:Value) (m:Nat) (lens:Nat->Nat) (g:Nat->Nat->Int) (w:World) (hv:oq w v m lens g) (hl:∀j,j<m->lens j<=1048576):
  Calls Tryz.prog 176 #[v,.func (.func 175) #[] #[]] w fun e w'=>e=.returned (.bool false)/\Below w.heap.size w w':=by
 have H:=ak (Ko v m lens g w hv hl);clear hv hl
 go_enter Tryz.func176,Tryz.ntmps176
 go_wp2_with fail;refine H.out.mono ?_;rintro e w1 ⟨rfl,rfl⟩;go_wp2;go_ret;exact⟨rfl,bT _ _⟩
theorem Ca (vf:Value) (nf:Nat) (from_:Nat->Int) (s:ByteArray) (vc:Value) (m:Nat) (lens:Nat->Nat) (g:Nat->Nat->Int) (w:World) (hf:Rd .u8 w vf nf from_) (hf0:0<nf) (hf1:nf<=1000000) (Vn:∀i,i<nf->0<=from_ i/\from_ i<256)
  (hs:s.size<=64) (hc:oq w vc m lens g) (hm:m<=16) (hl:∀j,j<m->lens j<=4000) (hg:∀j,j<m->∀i,i<lens j->0<=g j i/\g j i<256):
  Calls Tryz.prog 120 #[vf,.string s,vc] w fun e w'=>e=.returned (.tuple #[.agg (arr .u8 32 (pK nf from_ (pz s.size lens m) (sU s.size (jJ s) lens g m))),.int .i64 0])/\Below w.heap.size w w':=by
 obtain⟨NN,OO⟩:∃NN,NN=pz s.size lens:=⟨_,rfl⟩
 obtain⟨FF,zn⟩:∃FF,FF=sU s.size (jJ s) lens g:=⟨_,rfl⟩
 have HNB:Hid (NN m<=900000):=by
  unfold Hid;rw[OO];have h1:=OG (L:=s.size) hl m (bB _);have h2:m * (4+4000)<=16 * (4+4000):=Nat.mul_le_mul_right _ hm;omega
 have HFB:Hid (∀i,i<NN m->0<=FF m i/\FF m i<256):=by rw[OO,zn];exact BD aH (fun i _=>Av s i) hg m (bB _)
 have HST:Hid (∀e base w v,fF e base w v 2 (iV 1 (fun _=>1) (fun _=>s.size)) (jP 1 (fun _=>fun _=>(s.size:Int)) (fun _=>jJ s))->Parts e base w v 0 (NN 0) (FF 0)):=by rw[OO,zn];exact fun e base w v h=>Parts.start h
 have Si:Hid (∀e base w' v' k l1 g1,(∀j,j<2+2 * k->∀i,i<l1 j->FF k (fq l1 j+i)=g1 j i)->fq l1 (2+2 * k)=NN k->
   fF e base w' v' (2+2 * k+2) (iV (2+2 * k) l1 (iV 1 (fun _=>4) (fun _=>lens k))) (jP (2+2 * k) g1 (jP 1 (fun _=>Dw (lens k)) (fun _=>g k)))->Parts e base w' v' (k+1) (NN (k+1)) (FF (k+1))):=by
  rw[OO,zn];exact fun e base w' v' k l1 g1 h1 h2 h3=>Parts.step (w:=w') (v:=v') h1 h2 h3
 obtain⟨TG,Na⟩:∃TG,TG=pK nf from_ (NN m) (FF m):=⟨_,rfl⟩
 have adM:Hid (∀vp mm l1 g1 w,Rd .u8 w vf nf from_->oq w vp mm l1 g1->mm<=1000000->(∀j,j<mm->∀i,i<l1 j->FF m (fq l1 j+i)=g1 j i)->fq l1 mm=NN m->
   Calls Tryz.prog 177 #[vf,vp] w fun e w'=>e=.returned (.agg (arr .u8 64 TG))/\Below w.heap.size w w'):=by
  rw[Na];exact fun vp mm l1 g1 w h1 h2 h3 h4 h5=>VW vf nf from_ vp mm l1 g1 (NN m) (FF m) w h1 hf1 Vn h2 h3 h4 h5 HNB.out HFB.out
 have HHL:=ak (fun w h=>Ky vc m lens g w h (fun j hj=>by have:=hl j hj;omega));have e1:pK nf from_ (pz s.size lens m) (sU s.size (jJ s) lens g m)=TG:=by rw[Na,OO,zn]
 rw[e1];obtain⟨L,hL⟩:∃L,L=s.size:=⟨_,rfl⟩
 have HSL:Hid (s.size=L):=hL.symm;have akq:L<=64:=by omega
 rw[<-hL] at HST;obtain⟨lab,hlab⟩:∃lab,lab=jJ s:=⟨_,rfl⟩
 rw[<-hlab] at HST;have alv:Hid (jJ s=lab):=hlab.symm;have HLL:=ak hl;have HFR:=ak hf;have HC:=ak hc;obtain⟨fa,fc,rfl,f1,f2,_,_⟩:=hf;obtain⟨ca,cc,rfl,c1,c2,c3⟩:=hc;have XD:=ak c3;have hlen:s.size<=64:=hs;clear Vn hg hl OO zn Na e1 hL hlab c3 hs
 go_enter Tryz.func120,Tryz.ntmps120
 go_upto_region 1 with(fail);refine aJ (fun w1=>aQ .u8 w1 w.heap.size 32 (fun _=>0)/\Below w.heap.size w w1/\w1.heap.size=w.heap.size+1) ⟨bU rfl (by rfl),(bT _ _).alloc (bB _) _,by simp⟩ ?_;rintro w1 ⟨hZ,eP,hs1⟩;have Xo:=ak (HFR.out.below eP);have CB:=ak (HC.out.below eP);clear HFR HC;have hnf:((nf:Int)==0)=false:=by simp;omega
 go_upto_region 4 with(fail)
 refine aX (n:=64) aS aS aS rfl
  (fun ii vv _=>(match ii with | 0=>vv=.string s | 1=>vv=.int .i64 ((s.size:Int)) | 2 | 3 | 6 | 7 | 8 | 11 | 12=>vv=.bool false | 4 | 9=>vv=.slice ca m cc | 5=>vv=.int .i64 ((m:Int)) | 10=>vv=.func (.func 175) #[] #[] | _=>True))
  (fun w w'=>Below w.heap.size w w') (fun _ _ h=>h) (fun _ _ _ _ h _=>h) ?_ ?_
 ·refine cB ?_;refine⟨?_,?_,?_,?_,?_,?_,?_,?_,?_,?_,?_,?_,?_,trivial⟩
  ·intro a w2 hB hF hd;exact aO <| aB _ (.inl rfl) aR (hF.same 1 rfl)
  ·intro a w2 hB hF hd;exact aO <| aT (lY rfl (hd 0 _ rfl (aj rfl)) Tryz.underlying9) rfl
  ·intro a w2 hB hF hd;exact aO <| aT (Go.bC.zW rfl (hd 1 _ rfl (aj rfl)) rfl) (congrArg Value.bool (decide_eq_false aH))
  ·intro a w2 hB hF hd;exact aO <| aB _ (.inl rfl) aR (hd 2 _ rfl (aj rfl))
  ·intro a w2 hB hF hd;refine aI (aK rfl rfl (hd 3 _ rfl (aj rfl)) rfl) ?_;exact aB _ (.inl rfl) aR (hF.same 2 rfl)
  ·intro a w2 hB hF hd;refine aI (aK rfl rfl (hd 3 _ rfl (aj rfl)) rfl) ?_;exact aT (AU rfl (hd 4 _ rfl (aj rfl)) Tryz.underlying55) rfl
  ·intro a w2 hB hF hd;refine aI (aK rfl rfl (hd 3 _ rfl (aj rfl)) rfl) ?_;exact aT (Go.bC.zW rfl (hd 5 _ rfl (aj rfl)) rfl) (congrArg Value.bool (decide_eq_false aH))
  ·intro a w2 hB hF hd;exact aO <| aT (bZ rfl (hd 3 _ rfl (aj rfl))) ((hd 6 _ rfl (aj rfl)))
  ·intro a w2 hB hF hd;exact aO <| aB _ (.inl rfl) aR (hd 7 _ rfl (aj rfl))
  ·intro a w2 hB hF hd;refine aI (aK rfl rfl (hd 8 _ rfl (aj rfl)) rfl) ?_;exact aB _ (.inl rfl) aR (hF.same 2 rfl)
  ·intro a w2 hB hF hd;refine aI (aK rfl rfl (hd 8 _ rfl (aj rfl)) rfl) ?_;exact aB _ (.inl rfl) aR (hF.same 8 rfl)
  ·intro a w2 hB hF hd;refine aI (aK rfl rfl (hd 8 _ rfl (aj rfl)) rfl) ?_;refine aD _ _ _ rfl Tryz.call176 _ (args2 (hd 9 _ rfl (aj rfl)) (hd 10 _ rfl (aj rfl))) aR ((HHL.out _ (CB.out.below hB)).mono ?_);rintro e w3 ⟨rfl,hb⟩;exact⟨_,rfl,rfl,hb⟩
  ·intro a w2 hB hF hd;exact aO <| aT (bZ rfl (hd 8 _ rfl (aj rfl))) ((hd 11 _ rfl (aj rfl)))
 ·intro a wz hB hF hS;have ha:=aP rfl rfl hF [_,_,_,_,_,_,_,_,_,_,_,_,_] rfl ⟨hS 0 _ rfl,hS 1 _ rfl,hS 2 _ rfl,hS 3 _ rfl,hS 4 _ rfl,hS 5 _ rfl,hS 6 _ rfl,hS 7 _ rfl,hS 8 _ rfl,hS 9 _ rfl,hS 10 _ rfl,hS 11 _ rfl,hS 12 _ rfl,trivial⟩;simp only[puts,Act.put,dK,dL,dM] at ha;subst ha;clear hS hF;have dP:=eP.trans (hB.mono eP.size);have gy:=hZ.kept hB;have ahp:=ak (Xo.out.below hB);have Pn:=ak (CB.out.below hB);have U35:Hid (IntKind.u8.wrap (s.size:Int)=(L:Int)):=by unfold Hid;rw[HSL.out,IntKind.wrap_u8];omega
  clear hZ hs1 hB Xo CB HHL eP;go_upto_region 6 with(fail)
  refine aX (n:=64) aS aS aS rfl
   (fun ii vv ww=>(match ii with | 0 | 4=>vv=.string s | 1=>vv=.int .i64 ((s.size:Int)) | 2=>vv=.int .u8 ((L:Int)) | _=>True)/\(ii=3->Rd .u8 ww vv 1 (fun _=>(L:Int)))/\(ii=5->Rd .u8 ww vv L (lab))/\(ii=6->fF 23 wz.heap.size ww vv 2 (iV 1 (fun _=>1) (fun _=>L)) (jP 1 (fun _=>fun _=>(L:Int)) (fun _=>lab)))/\(ii=7->fF 23 wz.heap.size ww vv 2 (iV 1 (fun _=>1) (fun _=>L)) (jP 1 (fun _=>fun _=>(L:Int)) (fun _=>lab))))
   (fun w w'=>Below w.heap.size w w') (fun _ _ h=>h) (fun i v w w' h hE=>⟨h.1,fun e=>Rd.below (h.2.1 e) hE,fun e=>Rd.below (h.2.2.1 e) hE,fun e=>fF.below (h.2.2.2.1 e) hE,fun e=>fF.below (h.2.2.2.2 e) hE⟩) ?_ ?_
  ·refine cB ?_;refine⟨?_,?_,?_,?_,?_,?_,?_,?_,trivial⟩
   ·intro a w2 hB hF hd;exact aO <| aB _ (.inl rfl) aR ⟨(hF.same 1 rfl),aL,aL,aL,aL⟩
   ·intro a w2 hB hF hd;exact aO <| aT (lY rfl ((hd 0 _ rfl (aj rfl)).1) Tryz.underlying9) ⟨rfl,aL,aL,aL,aL⟩
   ·intro a w2 hB hF hd;exact aO <| aT (kU rfl ((hd 1 _ rfl (aj rfl)).1) Tryz.underlying3 Tryz.underlying5) ⟨(congrArg (Value.int .u8) (U35.out)),aL,aL,aL,aL⟩
   ·intro a w2 hB hF hd;exact aO <| kI 23 5 1 _ [.int .u8 ((L:Int))] rfl lK aS aS rfl aN aN (by intro v hv;simp only[List.mem_cons,List.not_mem_nil,or_false] at hv;rcases hv with rfl<;> rfl) (by simp only[zw,List.map_cons,List.map_nil,show a.eval (Operand.tmp 35)=.int .u8 ((L:Int)) from((hd 2 _ rfl (aj rfl)).1)];rfl) aR ⟨trivial,fun _=>(zZ),aL,aL,aL⟩
   ·intro a w2 hB hF hd;exact aO <| aB _ (.inl rfl) aR ⟨(hF.same 1 rfl),aL,aL,aL,aL⟩
   ·intro a w2 hB hF hd;refine aO <| DR (e:=5) (fun h=>by cases h) rfl ((hd 4 _ rfl (aj rfl)).1) Tryz.underlying9 lK Tryz.underlying5 aH ?_;intro vq wq hq;rw[HSL.out,alv.out] at hq;exact⟨trivial,aL,fun _=>hq,aL,aL⟩
   ·intro a w2 hB hF hd;exact aO <| kI 55 23 2 _ [a.eval (Operand.tmp 36),a.eval (Operand.tmp 38)] rfl Tryz.underlying55 aS aS rfl aN aN (by intro v hv;simp only[List.mem_cons,List.not_mem_nil,or_false] at hv;rcases hv with rfl | rfl;exact Rd.Ii ((hd 3 _ rfl (aj rfl)).2.1 rfl);exact Rd.Ii ((hd 5 _ rfl (aj rfl)).2.2.1 rfl)) (by simp only[zw,List.map_cons,List.map_nil];rfl) aR ⟨trivial,aL,aL,fun _=>(fF.abZ hB.size ((hd 3 _ rfl (aj rfl)).2.1 rfl) ((hd 5 _ rfl (aj rfl)).2.2.1 rfl)),aL⟩
   ·intro a w2 hB hF hd;exact aO <| aB _ (.inr rfl) aR ⟨trivial,aL,aL,aL,fun _=>((hd 6 _ rfl (aj rfl)).2.2.2.1 rfl)⟩
  ·intro a w3 hB hF hS;obtain⟨x36,acB⟩:∃x,x=a.tmps.getD 36 undef:=⟨_,rfl⟩
   have P36:Rd .u8 w3 x36 1 (fun _=>(L:Int)):=by rw[acB];exact(hS 3 _ rfl).2.1 rfl
   obtain⟨x38,hx38⟩:∃x,x=a.tmps.getD 38 undef:=⟨_,rfl⟩
   have P38:Rd .u8 w3 x38 L (lab):=by rw[hx38];exact(hS 5 _ rfl).2.2.1 rfl
   obtain⟨x39,hx39⟩:∃x,x=a.tmps.getD 39 undef:=⟨_,rfl⟩
   have P39:fF 23 wz.heap.size w3 x39 2 (iV 1 (fun _=>1) (fun _=>L)) (jP 1 (fun _=>fun _=>(L:Int)) (fun _=>lab)):=by rw[hx39];exact(hS 6 _ rfl).2.2.2.1 rfl
   obtain⟨x9,hx9⟩:∃x,x=a.tmps.getD 9 undef:=⟨_,rfl⟩
   have P9:fF 23 wz.heap.size w3 x9 2 (iV 1 (fun _=>1) (fun _=>L)) (jP 1 (fun _=>fun _=>(L:Int)) (fun _=>lab)):=by rw[hx9];exact(hS 7 _ rfl).2.2.2.2 rfl
   have ha:=aP rfl rfl hF [_,_,_,x36,_,x38,x39,x9] rfl ⟨(hS 0 _ rfl).1,(hS 1 _ rfl).1,(hS 2 _ rfl).1,acB.symm,(hS 4 _ rfl).1,hx38.symm,hx39.symm,hx9.symm,trivial⟩;simp only[puts,Act.put,dK,dL,dM] at ha;subst ha;clear acB hx38 hx39 hx9;clear hS hF;have hwz:=dP.size;have hP3:=HST.out _ _ _ _ P9;have hBz:=hB;clear hB P9 P39 P38 P36 U35 HST;go_wp2
   go_loopw [9,42] (fun v i wr=> ∃k:Nat,k<=m/\i=.int .i64 (k:Int)/\Parts 23 wz.heap.size wr v k (NN k) (FF k)/\Below wz.heap.size wz wr) (fun _ i _=>m - (intOf i).toNat)
   case atStart=>exact⟨0,gX _,rfl,hP3,hBz⟩
   case round=>
    clear hP3 hBz;obtain⟨k,hk,rfl,⟨l1,g1,ho,Ku,aat⟩,hbz⟩:=hrel;have aA:=dP.trans (hbz.mono hwz);have afs:=hbz.size;have HO:=ak ho;have HFL:=ak Ku;have CW:=ak aat;clear ho Ku aat;by_cases hlt:k<m
    ·obtain⟨tb,to,rfl,tlt,rZ⟩:=XD.out aH;obtain⟨u,hu,RZ⟩:=rZ k hlt;have e1:=(aA.cell (p:=⟨tb,to+k,none⟩) tlt).trans hu;have Sj:=ak (RZ.below aA);have hin:=ak (fun hp=>RZ.in hp);obtain⟨ua,uc,rfl,u1,u2,_,_⟩:=RZ;have hlk:=HLL.out k hlt;obtain⟨n,hn⟩:∃n,n=lens k:=⟨_,rfl⟩
     rw[<-hn] at Sj hin e1 u1 hlk;have HN:=ak hn;have h5:((n:Int) / 2 ^ (8 * 4) !=0)=false:=by
      have:(n:Int) / 2 ^ (8 * 4)=0:=CP aH aH;rw[this];rfl
     have Xh:=ak (fun w=>Mj (n:Int) 4 w aN aN aH aH (fun _=>h5));clear rZ hu hn h5;go_wp2_with fail;refine(Xh.out _).mono ?_;rintro e w5 ⟨nv,rfl,hon,iX⟩;have MR:=hbz.trans (iX.mono afs);have Xj:=ak (HO.out.below iX);have agY:=ak (Sj.out.below iX);have HNV:=ak hon.rd;have hs5:=MR.size;have aqA:=iX.size;obtain⟨ng,nc,rfl,hng,_⟩:=hon.form aN;have aht:Hid (∀j,j<2->0<iV 1 (fun _=>4) (fun _=>n) j->(if j=0 then Value.slice (some ⟨ng,0,none⟩) 4 nc else .slice ua n uc).ownBlock≠u9.ownBlock):=by
      intro j hj hp he;rcases(by omega:j=0\/j=1) with rfl | rfl
      ·have:=HO.out.block ng (by rw[<-he];rfl);omega
      ·obtain⟨b,hb,hlt'⟩:=hin.out hp;have:=HO.out.block b (by rw[<-he];exact hb);omega
     have HOA:=ak (Xj.out.below ((bT w5.heap.size w5).alloc (bB _) (.cells #[.slice (some ⟨ng,0,none⟩) 4 nc,.slice ua n uc] 23)));have HTU:=ak (Cu.abZ (e:=23) HNV.out agY.out);clear hon iX Xj HNV agY hin Xh e1 Sj;go_wp2_with (at_builtin;refine Co rfl _ _ 55 rfl wz.heap.size 23 24 Tryz.undTxt Tryz.infoTxt _ (2+2 * k) l1 g1 HOA.out rfl _ 2 _ _ _ HTU.out aht.out rfl aH aH (by simp;omega) ?_;intro v6 w6 hown6 YZ ajZ ajH);have hP6:=Si.out _ _ _ _ k l1 g1 HFL.out CW.out (by rw[<-HN.out];exact hown6);have MQ:Below wz.heap.size wz w6:=(MR.alloc hs5 _).grown YZ (by simp;omega) (fun b hb=>(HO.out.block b hb).1);clear hown6 YZ ajZ ajH HOA HTU aht MR;go_wp2;go_roundw
     case rel=>first | exact⟨k+1,by omega,by go_num,hP6,MQ⟩ | ((repeat apply Exists.intro);exact⟨⟨k+1,by omega,by go_num,hP6,MQ⟩,rfl⟩)
     case measure=>simp[intOf] <;> omega
    ·obtain rfl:k=m:=by omega
     have hZr:=gy.below hbz gy.lt;have HTX:=ak HO.out.txt;have Xn:=ak (ahp.out.below hbz);clear hbz afs ahp Pn;go_wp2_with fail;refine(adM.out _ _ _ _ _ Xn.out HTX.out aH HFL.out CW.out).mono ?_;rintro e w5 ⟨rfl,iX⟩;have iG:=aA.trans (iX.mono aA.size);have rW:=hZr.kept iX;have hzl:=rW.lt;clear aA iX hZr HTX Xn HO HFL CW;go_upto_region 14 with(refine aM rfl 47 _ _ rfl .u8 w5.heap.size 64 (fun _=>0) TG zy rfl rfl (bU rfl (by rfl)) ?_)
     refine aJ (fun w6=>aQ .u8 w6 w5.heap.size 64 TG/\aQ .u8 w6 w.heap.size 32 (fun _=>0)/\Below w.heap.size w w6)
      ⟨(bU rfl (by rfl):aQ .u8 _ _ 64 (fun _=>0)).setRow _ _,aQ.aG (aQ.alloc rW _) _ aH _,aC (iG.alloc iG.size _) iG.size _⟩ ?_
     rintro w6 ⟨Lg,sW,kg⟩;obtain⟨q,hq⟩:∃q,q=w5.heap.size:=⟨_,rfl⟩
     rw[<-hq] at Lg ⊢;have hql:=Lg.lt;have HC6:Hid (∀i,i<32->w6.cell? ⟨q,0+i,none⟩=some (.int .u8 (TG i))):=fun i hi=>by rw[oD];exact Lg.cell i aH
     clear hq rW iG Lg;simp only[Act.put]
     refine lZ (n:=64) 3 aN aS aS aS aS rfl
      (fun ii vv _=>(match ii with | 0=>vv=.slice (some ⟨q,0,none⟩) 32 64 | 1=>vv=.pointer (some ⟨q,0,none⟩) | 2=>vv=.agg (arr .u8 32 (TG)) | _=>True))
      (fun _ _ _ _ h _=>h) ?_ ?_
     ·refine cB ?_;refine⟨?_,?_,?_,(aL),(aL),trivial⟩
      ·intro _ a w2 hB hF hd;exact aO <| aT (eY rfl (hF.same 14 rfl) (by simp only[Option.map_some,Option.map_none];exact jv (m:=32) FD Tryz.size5 aN)) rfl
      ·intro _ a w2 hB hF hd;exact aO <| aT (jc rfl (hd 0 _ rfl (aj rfl)) dY aN) rfl
      ·intro _ a w2 hB hF hd;exact aO <| aT (gL rfl (hd 1 _ rfl (aj rfl)) dY dh (fun i hi=>(hB.cell (p:=⟨q,0+i,none⟩) hql).trans (HC6.out i hi))) rfl
     ·intro a w7 hB hF hS;have ha:=aP rfl rfl hF [_,_,_] rfl ⟨hS 0 _ rfl aN,hS 1 _ rfl aN,hS 2 _ rfl aN,trivial⟩;simp only[puts,List.take_succ_cons,List.take_zero,Act.put,dK,dL,dM] at ha;subst ha;change tl _ _ _ (_::_:: []) _ _;clear hS hF;have EU:=sW.kept hB;have IJ:=kg.trans (hB.mono kg.size);refine vO rfl (bE 22 _ _ rfl .u8 w.heap.size 32 (fun _=>0) TG dh rfl rfl EU ?_);refine vP rfl _ (.inr rfl) (Ak ?_);have Vq:=EU.setRow 32 TG;have Ac:=aC IJ (bB _) (arr .u8 32 TG);clear sW kg EU IJ hB;simp only[Act.put,Act.eval,dK,dL,dM];go_wp2;exact bodyPost_ret (gK rfl _ _ .u8 w.heap.size 32 _ 5 rfl Vq dY dh) rfl ⟨rfl,Ac⟩
theorem uh (f:Nat->Int) (hf:∀i,i<64->0<=f i/\f i<256) (w:World):
  Calls Tryz.prog 31 #[.agg (arr .u8 64 f)] w fun e w'=> ∃v,e=.returned v/\Go.bC.Own .u8 5 (w.heap.size+1) w' v 64 f/\Below w.heap.size w w':=by
 have HF:=ak hf;clear hf
 go_enter Tryz.func31,Tryz.ntmps31
 have mU:aQ .u8 (w.alloc (.cells (arr .u8 64 f) 47)) w.heap.size 64 f:=bU rfl rfl;have eP:Below w.heap.size w (w.alloc (.cells (arr .u8 64 f) 47)):=(bT _ _).alloc (bB _) _;go_wp2
 go_loopw [3,4] (fun v i wr=> ∃k:Nat,k<=64/\i=.int .i64 (k:Int)/\Go.bC.Own .u8 5 (w.heap.size+1) wr v k f/\aQ .u8 wr w.heap.size 64 f/\Below w.heap.size w wr/\w.heap.size+1<=wr.heap.size) (fun _ i _=>64 - (intOf i).toNat)
 case atStart=>exact⟨0,gX _,rfl,Go.bC.Own.nil _ _ _ _ _,mU,eP,by simp⟩
 case round=>
  clear mU eP;obtain⟨k,hk,rfl,ho,hA,aA,fD⟩:=hrel;have HO:=ak ho;have HA:=ak hA;clear ho hA;by_cases hlt:k<64
  ·obtain⟨x,hx⟩:∃x,x=f k:=⟨_,rfl⟩
   have x01:=HF.out k hlt;have e1:=HA.out.cell k hlt;rw[<-hx] at x01 e1;obtain⟨x0,x1⟩:=x01;have HX:=ak hx;have gB:=HO.out.far (Nat.lt_succ_self w.heap.size);clear hx;go_wp2_with (at_builtin;refine cO rfl _ _ 23 rfl (w.heap.size+1) 5 .u8 1 lK pI _ k f _ _ rfl HO.out rfl 1 rfl rfl ?_ aH aH aH ?_;rotate_right;intro v' w6 bM bA)
   ·go_roundw
    case rel=>exact⟨k+1,by omega,by go_num,bM,(aQ.alloc HA.out _).grown bA gB,below_grown (aA.alloc aH _) bA HO.out (by simp;omega) aH,by have:=bA.size;simp at this;omega⟩
    case measure=>simp[intOf] <;> omega
   ·first | exact HX.out | (intro i hi;exact jU hi (by rw[show k+i=k by omega];exact HX.out))
  ·obtain rfl:k=64:=by omega
   have tT:=HO.out;go_wp2;go_ret;exact⟨_,rfl,tT,aA⟩
theorem jK (f:Nat->Int) (hf:∀i,i<32->0<=f i/\f i<256) (w:World):
  Calls Tryz.prog 14 #[.agg (arr .u8 32 f)] w fun e w'=> ∃v,e=.returned v/\Go.bC.Own .u8 5 (w.heap.size+1) w' v 32 f/\Below w.heap.size w w':=by
 have HF:=ak hf;clear hf
 go_enter Tryz.func14,Tryz.ntmps14
 have mU:aQ .u8 (w.alloc (.cells (arr .u8 32 f) 22)) w.heap.size 32 f:=bU rfl rfl;have eP:Below w.heap.size w (w.alloc (.cells (arr .u8 32 f) 22)):=(bT _ _).alloc (bB _) _;go_wp2
 go_loopw [3,4] (fun v i wr=> ∃k:Nat,k<=32/\i=.int .i64 (k:Int)/\Go.bC.Own .u8 5 (w.heap.size+1) wr v k f/\aQ .u8 wr w.heap.size 32 f/\Below w.heap.size w wr/\w.heap.size+1<=wr.heap.size) (fun _ i _=>32 - (intOf i).toNat)
 case atStart=>exact⟨0,gX _,rfl,Go.bC.Own.nil _ _ _ _ _,mU,eP,by simp⟩
 case round=>
  clear mU eP;obtain⟨k,hk,rfl,ho,hA,aA,fD⟩:=hrel;have HO:=ak ho;have HA:=ak hA;clear ho hA;by_cases hlt:k<32
  ·obtain⟨x,hx⟩:∃x,x=f k:=⟨_,rfl⟩
   have x01:=HF.out k hlt;have e1:=HA.out.cell k hlt;rw[<-hx] at x01 e1;obtain⟨x0,x1⟩:=x01;have HX:=ak hx;have gB:=HO.out.far (Nat.lt_succ_self w.heap.size);clear hx;go_wp2_with (at_builtin;refine cO rfl _ _ 23 rfl (w.heap.size+1) 5 .u8 1 lK pI _ k f _ _ rfl HO.out rfl 1 rfl rfl ?_ aH aH aH ?_;rotate_right;intro v' w6 bM bA)
   ·go_roundw
    case rel=>exact⟨k+1,by omega,by go_num,bM,(aQ.alloc HA.out _).grown bA gB,below_grown (aA.alloc aH _) bA HO.out (by simp;omega) aH,by have:=bA.size;simp at this;omega⟩
    case measure=>simp[intOf] <;> omega
   ·first | exact HX.out | (intro i hi;exact jU hi (by rw[show k+i=k by omega];exact HX.out))
  ·obtain rfl:k=32:=by omega
   have tT:=HO.out;go_wp2;go_ret;exact⟨_,rfl,tT,aA⟩
theorem EA (v:Value) (n:Nat) (key:Nat->Int) (c:Int) (w:World) (hv:Rd .u8 w v n key) (hn:n<=1000000) (hk:∀i,i<n->0<=key i/\key i<256) (hc:0<=c/\c<256):
  Calls Tryz.prog 146 #[v,.int .u8 c] w fun e w'=> ∃u,e=.returned u/\Go.bC.Own .u8 5 w.heap.size w' u 128 (sO n key c)/\Below w.heap.size w w':=by
 obtain⟨PK,hPK⟩:∃PK,PK=sO n key c:=⟨_,rfl⟩
 have HS:=ak (fun w h=>pX v n key w h hn hk);have HLL:=ak (fun w=>uh (gJ n key) (fun i _=>fM n key i) w);have HC0:=ak (abb hc);have HA1:Hid (128<n->(∀i,i<64->bits .xor .u8 (gJ n key i) c=PK i)/\∀i,64<=i->c=PK i):=by
  rw[hPK];intro h;refine⟨fun i hi=>?_,fun i hi=>?_⟩
  ·unfold sO qP;rw[if_pos h,if_pos hi]
  ·unfold sO qP;rw[if_pos h,if_neg aH];exact HC0.out.symm
 have HA2:Hid (¬ 128<n->(∀i,i<n->bits .xor .u8 (key i) c=PK i)/\∀i,n<=i->c=PK i):=by
  rw[hPK];intro h;refine⟨fun i hi=>?_,fun i hi=>?_⟩
  ·unfold sO qP;rw[if_neg h,if_pos hi]
  ·unfold sO qP;rw[if_neg h,if_neg aH];exact HC0.out.symm
 have agX:Hid (∀i,0<=gJ n key i/\gJ n key i<256):=fM n key;rw[<-hPK];have HV:=ak hv;have HK:=ak hk;obtain⟨va,vc,rfl,v1,v2,_,_⟩:=hv;obtain⟨c0,c1⟩:=hc;clear hk hPK;by_cases hlong:128<n
 case' pos=>
  obtain⟨SB,xu⟩:∃SB,SB=gJ n key:=⟨_,rfl⟩
  rw[<-xu] at HS HLL HA1 agX;clear xu;have HL:=ak (HA1.out hlong)
  go_enter Tryz.func146,Tryz.ntmps146
  go_wp2_with fail;refine(HS.out _ HV.out).mono ?_;rintro e w1 ⟨rfl,eP⟩;go_wp2_with fail;refine(HLL.out _).mono ?_;rintro e w2 ⟨kv,rfl,ho,dP⟩;have aA:=eP.trans (dP.mono eP.size);have XB:=ak ho.rd;have HKB:Hid (∀i,i<64->0<=SB i/\SB i<256):=fun i _=>agX.out i;obtain⟨ka,kc,rfl,k1,k2,_,_⟩:=ho.rd;clear eP dP ho
 case' neg=>
  have OJ:n<=128:=by omega
  have HL:=ak (HA2.out hlong);have XB:=HV;have HKB:=HK;have aA:=bT w.heap.size w;obtain⟨k1,k2⟩:n<=vc/\vc<=9223372036854775807:=⟨v1,v2⟩
  go_enter Tryz.func146,Tryz.ntmps146
 case pos=>
  go_wp2
  go_loopw [6,7] (fun u i wr=> ∃k:Nat,k<=128/\i=.int .i64 (k:Int)/\Go.bC.Own .u8 5 w2.heap.size wr u k PK/\Below w2.heap.size w2 wr) (fun _ i _=>128 - (intOf i).toNat)
  case atStart=>exact⟨0,gX _,rfl,Go.bC.Own.nil _ _ _ _ _,bT _ _⟩
  case round=>
   obtain⟨k,hk,rfl,ho,hbw⟩:=hrel;have HO:=ak ho;have hsw:=hbw.size;have hs0:=aA.size;clear ho;by_cases hlt:k<128
   ·by_cases hkn:k<64
    ·obtain⟨x,hx⟩:∃x,x=SB k:=⟨_,rfl⟩
     have x01:=HKB.out k hkn;obtain⟨b,o,rfl,hb,hcc⟩:=XB.out.BK aH;have e1:=(hbw.cell (p:=⟨b,o+k,none⟩) hb).trans (hcc k hkn);have hpk:=HL.out.1 k hkn;rw[<-hx] at x01 e1 hpk;obtain⟨x0,x1⟩:=x01;have Cx:=ak hpk;clear hx hcc hpk;go_wp2_with (at_builtin;refine cO rfl _ _ 23 rfl w2.heap.size 5 .u8 1 lK pI _ k PK _ _ rfl HO.out rfl 1 rfl rfl ?_ aH aH aH ?_;rotate_right;intro v' w6 bM bA)
     ·go_roundw
      case rel=>
       have hbx:Below w2.heap.size w2 w6:=below_grown (hbw.alloc hsw _) bA HO.out (by simp;omega) (bB _);exact⟨k+1,by omega,by go_num,bM,hbx⟩
      case measure=>simp[intOf] <;> omega
     ·first | exact Cx.out | (intro i hi;exact jU hi (by rw[show k+i=k by omega];exact Cx.out))
    ·have Cx:=ak (HL.out.2 k aH);go_wp2_with (at_builtin;refine cO rfl _ _ 23 rfl w2.heap.size 5 .u8 1 lK pI _ k PK _ _ rfl HO.out rfl 1 rfl rfl ?_ aH aH aH ?_;rotate_right;intro v' w6 bM bA)
     ·go_roundw
      case rel=>
       have hbx:Below w2.heap.size w2 w6:=below_grown (hbw.alloc hsw _) bA HO.out (by simp;omega) (bB _);exact⟨k+1,by omega,by go_num,bM,hbx⟩
      case measure=>simp[intOf] <;> omega
     ·first | exact Cx.out | (intro i hi;exact jU hi (by rw[show k+i=k by omega];exact Cx.out))
   ·obtain rfl:k=128:=by omega
    have tT:=HO.out.mono hs0;have hfin:=aA.trans (hbw.mono hs0);go_wp2;go_ret;exact⟨_,rfl,tT,hfin⟩
 case neg=>
  go_wp2
  go_loopw [6,7] (fun u i wr=> ∃k:Nat,k<=128/\i=.int .i64 (k:Int)/\Go.bC.Own .u8 5 w.heap.size wr u k PK/\Below w.heap.size w wr) (fun _ i _=>128 - (intOf i).toNat)
  case atStart=>exact⟨0,gX _,rfl,Go.bC.Own.nil _ _ _ _ _,bT _ _⟩
  case round=>
   obtain⟨k,hk,rfl,ho,hbw⟩:=hrel;have HO:=ak ho;have hsw:=hbw.size;have hs0:=aA.size;clear ho;by_cases hlt:k<128
   ·by_cases hkn:k<n
    ·obtain⟨x,hx⟩:∃x,x=key k:=⟨_,rfl⟩
     have x01:=HKB.out k hkn;obtain⟨b,o,rfl,hb,hcc⟩:=XB.out.BK aH;have e1:=(hbw.cell (p:=⟨b,o+k,none⟩) hb).trans (hcc k hkn);have hpk:=HL.out.1 k hkn;rw[<-hx] at x01 e1 hpk;obtain⟨x0,x1⟩:=x01;have Cx:=ak hpk;clear hx hcc hpk;go_wp2_with (at_builtin;refine cO rfl _ _ 23 rfl w.heap.size 5 .u8 1 lK pI _ k PK _ _ rfl HO.out rfl 1 rfl rfl ?_ aH aH aH ?_;rotate_right;intro v' w6 bM bA)
     ·go_roundw
      case rel=>
       have hbx:Below w.heap.size w w6:=below_grown (hbw.alloc hsw _) bA HO.out (by simp;omega) (bB _);exact⟨k+1,by omega,by go_num,bM,hbx⟩
      case measure=>simp[intOf] <;> omega
     ·first | exact Cx.out | (intro i hi;exact jU hi (by rw[show k+i=k by omega];exact Cx.out))
    ·have Cx:=ak (HL.out.2 k aH);go_wp2_with (at_builtin;refine cO rfl _ _ 23 rfl w.heap.size 5 .u8 1 lK pI _ k PK _ _ rfl HO.out rfl 1 rfl rfl ?_ aH aH aH ?_;rotate_right;intro v' w6 bM bA)
     ·go_roundw
      case rel=>
       have hbx:Below w.heap.size w w6:=below_grown (hbw.alloc hsw _) bA HO.out (by simp;omega) (bB _);exact⟨k+1,by omega,by go_num,bM,hbx⟩
      case measure=>simp[intOf] <;> omega
     ·first | exact Cx.out | (intro i hi;exact jU hi (by rw[show k+i=k by omega];exact Cx.out))
   ·obtain rfl:k=128:=by omega
    have tT:=HO.out;have hfin:=aA.trans (hbw.mono hs0);go_wp2;go_ret;exact⟨_,rfl,tT,hfin⟩
theorem Qg (vk:Value) (nk:Nat) (key:Nat->Int) (vb:Value) (n:Nat) (F:Nat->Int) (w:World) (hv:Rd .u8 w vk nk key) (hk1:nk<=1000000) (hk:∀i,i<nk->0<=key i/\key i<256)
  (hb:Rd .u8 w vb n F) (hn2:n<=900000) (hF:∀i,i<n->0<=F i/\F i<256):
  Calls Tryz.prog 96 #[vk,vb] w fun e w'=>e=.returned (.agg (arr .u8 64 (pK nk key n F)))/\Below w.heap.size w w':=by
 obtain⟨K1,hK1⟩:∃K1,K1=sO nk key 54:=⟨_,rfl⟩
 obtain⟨K2,hK2⟩:∃K2,K2=sO nk key 92:=⟨_,rfl⟩
 have HP1:=ak (fun w h=>EA vk nk key 54 w h hk1 hk aN);have HP2:=ak (fun w h=>EA vk nk key 92 w h hk1 hk aN);have eP:∀i,i<128->0<=K1 i/\K1 i<256:=by rw[hK1];exact fun i _=>qM _ _ _ i
 have dP:∀i,i<128->0<=K2 i/\K2 i<256:=by rw[hK2];exact fun i _=>qM _ _ _ i
 obtain⟨C1,hC1⟩:∃C1,C1=fO 128 K1 F:=⟨_,rfl⟩
 obtain⟨S1,hS1⟩:∃S1,S1=gJ (128+n) C1:=⟨_,rfl⟩
 have hsb:∀i,i<64->0<=S1 i/\S1 i<256:=by rw[hS1];exact fun i _=>fM _ _ i
 obtain⟨C2,hC2⟩:∃C2,C2=fO 128 K2 S1:=⟨_,rfl⟩
 obtain⟨TG,Na⟩:∃TG,TG=gJ (128+64) C2:=⟨_,rfl⟩
 have IC:=ak (fun v w h=>pX v (128+n) C1 w h aH (by rw[hC1];exact fU eP hF));have HS2:=ak (fun v w h=>pX v (128+64) C2 w h aN (by rw[hC2];exact fU dP hsb));have HLL:=ak (fun w=>uh S1 hsb w);have e1:pK nk key n F=TG:=by rw[Na,hC2,hS1,hC1,hK1,hK2];rfl
 have CB:Hid ((∀i,i<128->K1 i=C1 i)/\∀i,i<n->C1 (128+i)=F i):=by rw[hC1];exact⟨fun i hi=>(lV hi).symm,fun i _=>jQ⟩
 have Pn:Hid ((∀i,i<128->K2 i=C2 i)/\∀i,i<64->C2 (128+i)=S1 i):=by rw[hC2];exact⟨fun i hi=>(lV hi).symm,fun i _=>jQ⟩
 rw[e1];rw[<-hS1] at IC;rw[<-Na] at HS2;rw[<-hK1] at HP1;rw[<-hK2] at HP2;have HV:=ak hv;have HB:=ak hb;obtain⟨va,vc,rfl,v1,v2,_,_⟩:=hv;obtain⟨ba,bc,rfl,b1,b2,_,_⟩:=hb;clear hk hF hS1 Na e1 hK1 hK2 hC1 hC2 hsb eP dP
 go_enter Tryz.func96,Tryz.ntmps96
 go_upto_region 1 with(fail);refine aJ (fun w1=>aQ .u8 w1 w.heap.size 64 (fun _=>0)/\Below w.heap.size w w1/\w1.heap.size=w.heap.size+1) ⟨bU rfl (by rfl),(bT _ _).alloc (bB _) _,by simp⟩ ?_;rintro w1 ⟨hZ,eP,hs1⟩;have ZK:=ak (HV.out.below eP);have HB1:=ak (HB.out.below eP);clear HV HB;go_wp2_with fail;refine(HP1.out _ ZK.out).mono ?_;rintro e w2 ⟨p1,rfl,ho2,dP⟩;have tT:=ak (ho2.congr CB.out.1);have HB2:=ak (HB1.out.below dP);have afx:=dP.size;obtain⟨g1,c1,rfl,_⟩:=tT.out.form aN;clear ho2 HB1;go_wp2_with (at_builtin;refine fH rfl _ _ 23 rfl w1.heap.size 5 .u8 1 lK pI _ 128 C1 tT.out rfl _ n F HB2.out rfl CB.out.2 aH aH afx ?_;intro v3 w3 hown3 GZ);have Za:=below_grown dP GZ tT.out afx (bB _);have jy:=hZ.kept Za;have gU:=eP.trans (Za.mono eP.size);have HV3:=ak (ZK.out.below Za);have HR3:=ak hown3.rd;obtain⟨g3,c3,rfl,_⟩:=hown3.form aH;clear hZ eP ZK Za hown3 GZ tT HB2 dP;refine(HP2.out _ HV3.out).mono ?_;rintro e w4 ⟨p2,rfl,Sc,jd⟩;have Pk:=ak (Sc.congr Pn.out.1);have HR4:=ak (HR3.out.below jd);have ajF:=jd.size;obtain⟨g4,c4,rfl,_⟩:=Pk.out.form aN;clear Sc HR3;go_wp2_with fail;refine(IC.out _ _ HR4.out).mono ?_;rintro e w5 ⟨rfl,iX⟩;go_wp2_with fail;refine(HLL.out _).mono ?_;rintro e w6 ⟨v6,rfl,Xv,kg⟩;have adf:=iX.trans (kg.mono iX.size);have ZO:=ak (Pk.out.below adf);have adg:=jd.trans (adf.mono ajF);have afw:=adg.size;have HR6:=ak Xv.rd;obtain⟨a6,c6,rfl,q1,q2,_,_⟩:=Xv.rd;clear Pk HR4 jd iX kg adf Xv;go_wp2_with (at_builtin;refine fH rfl _ _ 23 rfl w3.heap.size 5 .u8 1 lK pI _ 128 C2 ZO.out rfl _ 64 S1 HR6.out rfl Pn.out.2 aH aH afw ?_;intro v7 w7 BH YX);have acT:=below_grown adg YX ZO.out afw (bB _);have EU:=jy.kept acT;have sV:=gU.trans (acT.mono gU.size);have HR7:=ak BH.rd;obtain⟨g7,c7,rfl,_⟩:=BH.form aN;clear acT jy gU BH YX ZO HR6 adg;refine(HS2.out _ _ HR7.out).mono ?_;rintro e w8 ⟨rfl,Ac⟩;have Vq:=EU.kept Ac;have xk:=sV.trans (Ac.mono sV.size);clear EU Ac sV;go_wp2_with (refine aM rfl 47 _ _ rfl .u8 w.heap.size 64 (fun _=>0) TG zy rfl rfl Vq ?_);exact bodyPost_ret (bg rfl _ _ .u8 w.heap.size 64 _ 5 rfl (Vq.setRow 64 TG) FD zy) rfl ⟨rfl,aC xk (bB _) _⟩
theorem xZ (vf:Value) (nf:Nat) (from_:Nat->Int) (s:ByteArray) (vc:Value) (m:Nat) (lens:Nat->Nat) (g:Nat->Nat->Int) (w:World) (hf:Rd .u8 w vf nf from_) (hf0:0<nf) (hf1:nf<=1000000) (Vn:∀i,i<nf->0<=from_ i/\from_ i<256)
  (hs:s.size<=64) (hc:oq w vc m lens g) (hm:m<=16) (hl:∀j,j<m->lens j<=4000) (hg:∀j,j<m->∀i,i<lens j->0<=g j i/\g j i<256):
  Calls Tryz.prog 38 #[vf,.string s,vc] w fun e w'=>e=.returned (.tuple #[.agg (arr .u8 32 (pK nf from_ (pz s.size lens m) (sU s.size (jJ s) lens g m))),.int .i64 0])/\Below w.heap.size w w':=by
 obtain⟨NN,OO⟩:∃NN,NN=pz s.size lens:=⟨_,rfl⟩
 obtain⟨FF,zn⟩:∃FF,FF=sU s.size (jJ s) lens g:=⟨_,rfl⟩
 have HNK:Hid (∀k,k<=m->NN k<=900000):=by
  rw[OO];intro k hk;have h1:=OG (L:=s.size) hl k hk;have h2:k * (4+4000)<=16 * (4+4000):=Nat.mul_le_mul_right _ aH;omega
 have HFB:Hid (∀i,i<NN m->0<=FF m i/\FF m i<256):=by rw[OO,zn];exact BD aH (fun i _=>Av s i) hg m (bB _)
 have Xl:Hid (NN 0=1+s.size):=by rw[OO];exact rfl
 have HNS:Hid (∀k,NN (k+1)=NN k+4+lens k):=by rw[OO];exact fun k=>by rw[pz];omega
 have ZP:Hid (FF 0 0=(s.size:Int)/\∀i,FF 0 (1+i)=jJ s i):=by rw[zn];exact⟨lV aN,fun i=>jQ⟩
 have HFS:Hid (∀k,(∀i,i<NN k->FF k i=FF (k+1) i)/\(∀i,i<4->FF (k+1) (NN k+i)=Dw (lens k) i)/\∀i,i<lens k->FF (k+1) (NN k+4+i)=g k i):=by
  rw[OO,zn];intro k;refine⟨fun i hi=>(lV hi).symm,fun i hi=>?_,fun i hi=>?_⟩
  ·rw[sU,jQ,lV hi]
  ·rw[sU,Nat.add_assoc,jQ,jQ]
 obtain⟨TG,Na⟩:∃TG,TG=pK nf from_ (NN m) (FF m):=⟨_,rfl⟩
 have adM:Hid (∀vp w,Rd .u8 w vf nf from_->Rd .u8 w vp (NN m) (FF m)->Calls Tryz.prog 96 #[vf,vp] w fun e w'=>e=.returned (.agg (arr .u8 64 TG))/\Below w.heap.size w w'):=by
  rw[Na];exact fun vp w h1 h2=>Qg vf nf from_ vp (NN m) (FF m) w h1 hf1 Vn h2 (HNK.out m (bB _)) HFB.out
 have e1:pK nf from_ (pz s.size lens m) (sU s.size (jJ s) lens g m)=TG:=by rw[Na,OO,zn]
 rw[e1];obtain⟨L,hL⟩:∃L,L=s.size:=⟨_,rfl⟩
 have HSL:Hid (s.size=L):=hL.symm;have akq:L<=64:=by omega
 have akX:Hid (∀i (h:i<s.size),((s[i]'h).toNat:Int)=FF 0 (1+i)):=by
  intro i h;rw[ZP.out.2 i];unfold jJ;rw[IK,tO (by simpa using h)]
  rfl
 have HLL:=ak hl;have HFR:=ak hf;obtain⟨fa,fc,rfl,f1,f2,_,_⟩:=hf;obtain⟨ca,cc,rfl,c1,c2,c3⟩:=hc;have XD:=ak c3;have hlen:s.size<=64:=hs;clear Vn hg hl OO zn Na e1 hL c3 hs;have hnf:((nf:Int)==0)=false:=by simp;omega
 go_enter Tryz.func38,Tryz.ntmps38
 go_upto_region 2 with(fail)
 refine aJ (fun w1=>aQ .u8 w1 w.heap.size 32 (fun _=>0)/\aQ .u8 w1 (w.heap.size+1) 32 (fun _=>0)/\Below w.heap.size w w1/\w1.heap.size=w.heap.size+2)
  ⟨aQ.alloc (bU rfl (by rfl)) _,bU aR (by rfl),((bT _ _).alloc (bB _) _).alloc aR _,by simp⟩ ?_
 rintro w1 ⟨hZ,hO,eP,hs1⟩;have Xo:=ak (HFR.out.below eP);clear HFR;go_upto_region 4 with(fail)
 refine aX (n:=82) aS aS aS rfl
  (fun ii vv _=>(match ii with | 0=>vv=.string s | 1=>vv=.int .i64 ((s.size:Int)) | 2 | 3 | 6 | 7=>vv=.bool false | 4=>vv=.slice ca m cc | 5=>vv=.int .i64 ((m:Int)) | _=>True))
  (fun w w'=>Below w.heap.size w w') (fun _ _ h=>h) (fun _ _ _ _ h _=>h) ?_ ?_
 ·refine cB ?_;refine⟨?_,?_,?_,?_,?_,?_,?_,?_,trivial⟩
  ·intro a w2 hB hF hd;exact aO <| aB _ (.inl rfl) aR (hF.same 1 rfl)
  ·intro a w2 hB hF hd;exact aO <| aT (lY rfl (hd 0 _ rfl (aj rfl)) Tryz.underlying9) rfl
  ·intro a w2 hB hF hd;exact aO <| aT (Go.bC.zW rfl (hd 1 _ rfl (aj rfl)) rfl) (congrArg Value.bool (decide_eq_false aH))
  ·intro a w2 hB hF hd;exact aO <| aB _ (.inl rfl) aR (hd 2 _ rfl (aj rfl))
  ·intro a w2 hB hF hd;refine aI (aK rfl rfl (hd 3 _ rfl (aj rfl)) rfl) ?_;exact aB _ (.inl rfl) aR (hF.same 2 rfl)
  ·intro a w2 hB hF hd;refine aI (aK rfl rfl (hd 3 _ rfl (aj rfl)) rfl) ?_;exact aT (AU rfl (hd 4 _ rfl (aj rfl)) Tryz.underlying55) rfl
  ·intro a w2 hB hF hd;refine aI (aK rfl rfl (hd 3 _ rfl (aj rfl)) rfl) ?_;exact aT (Go.bC.zW rfl (hd 5 _ rfl (aj rfl)) rfl) (congrArg Value.bool (decide_eq_false aH))
  ·intro a w2 hB hF hd;exact aO <| aT (bZ rfl (hd 3 _ rfl (aj rfl))) ((hd 6 _ rfl (aj rfl)))
 ·intro a wz hB hF hS;have ha:=aP rfl rfl hF [_,_,_,_,_,_,_,_] rfl ⟨hS 0 _ rfl,hS 1 _ rfl,hS 2 _ rfl,hS 3 _ rfl,hS 4 _ rfl,hS 5 _ rfl,hS 6 _ rfl,hS 7 _ rfl,trivial⟩;simp only[puts,Act.put,dK,dL,dM] at ha;subst ha;clear hS hF;have hbz:=eP.trans (hB.mono eP.size);have OM:=hZ.kept hB;have hOz:=hO.kept hB;have alD:=ak (Xo.out.below hB);have hzs:=hbz.size;have hol:=hO.lt;clear hZ hO hs1 hB Xo eP;have U31:IntKind.u8.wrap (s.size:Int)=(L:Int):=by rw[HSL.out,IntKind.wrap_u8];omega
  go_upto_region 7 with(fail)
  have hO0:Go.bC.Own .u8 5 wz.heap.size (wz.alloc (.cells #[.int .u8 (L:Int)] 5)) (.slice (some ⟨wz.heap.size,0,none⟩) 1 1) (1+0) (FF 0):=
   Go.bC.Own.new _ _ _ _ 1 _ (bB _) aN rfl (fun i hi=>jU hi (by(obtain rfl:i=0:=by omega);rw[ZP.out.1,HSL.out]))
  have hB0:Below wz.heap.size wz (wz.alloc (.cells #[.int .u8 (L:Int)] 5)):=(bT _ _).alloc (bB _) _;clear U31;go_wp2
  go_loopw [9,10] (fun v i wr=> ∃k:Nat,k<=s.size/\i=.int .i64 (k:Int)/\Go.bC.Own .u8 5 wz.heap.size wr v (1+k) (FF 0)/\Below wz.heap.size wz wr) (fun _ i _=>s.size - (intOf i).toNat)
  case atStart=>exact⟨0,gX _,rfl,hO0,hB0⟩
  case round=>
   clear hO0 hB0;obtain⟨k,hk,rfl,ho,aA⟩:=hrel;have hsr:=aA.size;have HO:=ak ho;clear ho;by_cases hlt:k<s.size
   ·have HST:=ak (akX.out k hlt);go_wp2_with (at_builtin;refine cO rfl _ _ 23 rfl wz.heap.size 5 .u8 1 lK pI _ (1+k) (FF 0) _ _ rfl HO.out rfl 1 rfl rfl ?_ aH aH aH ?_;rotate_right;intro v' w6 bM bA)
    ·go_roundw
     case rel=>exact⟨k+1,by omega,by go_num,bM,below_grown (aA.alloc hsr _) bA HO.out (by simp;omega) (bB _)⟩
     case measure=>simp[intOf] <;> omega
    ·first | exact HST.out | (intro i hi;exact jU hi (by rw[show 1+k+i=1+k by omega];exact HST.out))
   ·obtain rfl:k=s.size:=by omega
    have hO1:Go.bC.Own .u8 5 wz.heap.size wr u9 (NN 0) (FF 0):=by rw[Xl.out];exact HO.out
    obtain⟨wq,hwq⟩:∃wq,wq=wr:=⟨_,rfl⟩
    subst hwq;clear HO;go_wp2
    go_loopw [9,11] (fun v i wr=> ∃k:Nat,k<=m/\i=.int .i64 (k:Int)/\Go.bC.Own .u8 5 wz.heap.size wr v (NN k) (FF k)/\Below wz.heap.size wz wr) (fun _ i _=>m - (intOf i).toNat)
    case atStart=>exact⟨0,gX _,rfl,hO1,aA⟩
    case round=>
     clear hO1 aA hsr;obtain⟨k,hk,rfl,ho,Hg⟩:=hrel;have hsr:=Hg.size;have aA:=hbz.trans (Hg.mono hzs);have hnk:=HNK.out k hk;have HO:=ak (ho.congr (HFS.out k).1);have Cy:=ak ho;clear ho;by_cases hlt:k<m
     ·obtain⟨tb,to,rfl,tlt,rZ⟩:=XD.out aH;obtain⟨u,hu,RZ⟩:=rZ k hlt;have ez:=(hbz.cell (p:=⟨tb,to+k,none⟩) tlt).trans hu;have tz:tb<wz.heap.size:=zO tlt hzs;have e1:=(Hg.cell (p:=⟨tb,to+k,none⟩) tz).trans ez;have Sj:=ak (RZ.below hbz);obtain⟨ua,uc,rfl,u1,u2,_,_⟩:=RZ;have hlk:=HLL.out k hlt;have acJ:=HNK.out (k+1) aH;rw[HNS.out k] at acJ;obtain⟨n,hn⟩:∃n,n=lens k:=⟨_,rfl⟩
      have aho:Hid (∀i,i<4->FF (k+1) (NN k+i)=Dw n i):=by rw[hn];exact(HFS.out k).2.1
      have ahn:Hid (∀i,i<n->FF (k+1) (NN k+4+i)=g k i):=by rw[hn];exact(HFS.out k).2.2
      have ahh:Hid (NN k+4+n=NN (k+1)):=by rw[hn];exact(HNS.out k).symm
      rw[<-hn] at Sj ez e1 u1 hlk acJ;have HEZ:=ak ez;have h5:(n:Int) / 2 ^ (8 * 4)=0:=CP aH aH;have Xh:=ak (fun w=>WT (n:Int) 4 w aN aN aH aH h5);obtain⟨nk,afC⟩:∃nk,nk=NN k:=⟨_,rfl⟩
      rw[<-afC] at HO hnk acJ aho ahn ahh;clear rZ hu hn h5 afC ez;go_wp2_with fail;refine(Xh.out _).mono ?_;rintro e w5 ⟨nv,rfl,hon,iX⟩;have MR:=Hg.trans (iX.mono hsr);have Xj:=ak (HO.out.below iX);have HNV:=ak hon.rd;have hs5:=MR.size;obtain⟨ng,nc,rfl,hng,_⟩:=hon.form aN;have e5:=(MR.cell (p:=⟨tb,to+k,none⟩) tz).trans HEZ.out;clear hon Xh e1 HO Hg iX
      go_wp2_with (first
       | (at_builtin;refine fH rfl _ _ 23 rfl wz.heap.size 5 .u8 1 lK pI _ nk (FF (k+1)) Xj.out rfl _ 4 _ HNV.out rfl aho.out aH aH hs5 ?_;intro v6 w6 hown6 YZ;have MQ:=below_grown MR YZ Xj.out hs5 (bB _);have e6:=(MQ.cell (p:=⟨tb,to+k,none⟩) tz).trans HEZ.out;have ajG:=Sj.out.below MQ;have hs6:=MQ.size)
       | (at_builtin;refine fH rfl _ _ 23 rfl wz.heap.size 5 .u8 1 lK pI v6 (nk+4) (FF (k+1)) hown6 rfl _ n _ ajG rfl ahn.out aH aH hs6 ?_;intro v7 w7 BH YX))
      have afT:=below_grown MQ YX hown6 hs6 (bB _);rw[ahh.out] at BH;go_roundw
      case rel=>first | exact⟨k+1,by omega,by go_num,BH,afT⟩ | ((repeat apply Exists.intro);exact⟨⟨k+1,by omega,by go_num,BH,afT⟩,rfl⟩)
      case measure=>simp[intOf] <;> omega
     ·obtain rfl:k=m:=by omega
      have hZr:=OM.below Hg OM.lt;have hOr:=hOz.below Hg hOz.lt;have Xn:=ak (alD.out.below Hg);have HRB:=ak Cy.out.rd;obtain⟨ba,bc,rfl,_,_,_,_⟩:=Cy.out.rd;clear Hg hsr HO Cy;go_wp2_with fail;refine(adM.out _ _ Xn.out HRB.out).mono ?_;rintro e w5 ⟨rfl,iX⟩;have iG:=aA.trans (iX.mono aA.size);have rW:=hZr.kept iX;have Vt:=hOr.kept iX;have hzl:=rW.lt;have afB:=Vt.lt;clear aA iX hZr hOr HRB Xn;go_upto_region 18 with(refine aM rfl 47 _ _ rfl .u8 w5.heap.size 64 (fun _=>0) TG zy rfl rfl (bU rfl (by rfl)) ?_)
      refine aJ (fun w6=>aQ .u8 w6 w5.heap.size 64 TG/\aQ .u8 w6 w.heap.size 32 (fun _=>0)/\aQ .u8 w6 (w.heap.size+1) 32 (fun _=>0)/\Below w.heap.size w w6)
       ⟨(bU rfl (by rfl):aQ .u8 _ _ 64 (fun _=>0)).setRow _ _,aQ.aG (aQ.alloc rW _) _ aH _,aQ.aG (aQ.alloc Vt _) _ aH _,aC (iG.alloc iG.size _) iG.size _⟩ ?_
      rintro w6 ⟨Lg,sW,hO6,kg⟩;obtain⟨q,hq⟩:∃q,q=w5.heap.size:=⟨_,rfl⟩
      rw[<-hq] at Lg hzl afB ⊢;clear hq rW Vt iG;simp only[Act.put];obtain⟨bo,hbo⟩:∃bo,bo=w.heap.size+1:=⟨_,rfl⟩
      rw[<-hbo] at hO6 afB ⊢;have ake:w.heap.size<=bo:=by omega
      have akd:w.heap.size≠bo:=by omega
      have akc:q≠bo:=by omega
      clear hbo;go_wp2
      go_loopw [15] (fun u wr=> ∃i:Nat,i<=32/\u=.int .i64 (i:Int)/\aQ .u8 wr q 64 TG/\aQ .u8 wr bo 32 (upto i TG (fun _=>0))/\aQ .u8 wr w.heap.size 32 (fun _=>0)/\Below w.heap.size w wr) (fun u _=>32 - (intOf u).toNat)
      case atStart=>exact⟨0,gX _,rfl,Lg,by rw[dH];exact hO6,sW,kg⟩
      case round=>
       clear Lg hO6 sW kg;obtain⟨i,hi,rfl,hA,hO,hZ,aA⟩:=hrel;by_cases hlt:i<32
       ·have e1:=hA.cell i aH;have e2:=hO.cell i hlt;have f2:=hO.free i;have HA:=ak hA;have HO:=ak hO;have HZ:=ak hZ;clear hA hO hZ;go_wp2;go_roundw
        case rel=>exact⟨i+1,by omega,by go_num,HA.out.other (by simpa using akc) _,by rw[<-bW (j:=i) (g:=TG) (f:=fun _=>0) rfl];exact HO.out.set i _,HZ.out.other (by simpa using akd) _,aA.setCell ake _⟩
        case measure=>simp[intOf] <;> omega
       ·obtain rfl:i=32:=by omega
        have hO2:=hO.congr (g:=TG) (dQ TG _ (bB _));clear hA hO
        go_wp2_with (first
         | (refine bq rfl 22 _ rfl .u8 bo 32 TG 5 dY dh rfl hO2 ?_)
         | (refine aM rfl 22 _ _ rfl .u8 w.heap.size 32 (fun _=>0) TG dh rfl rfl hZ ?_))
        exact bodyPost_ret (gK rfl _ _ .u8 w.heap.size 32 _ 5 rfl (hZ.setRow 32 TG) dY dh) rfl ⟨rfl,aC aA (bB _) _⟩
theorem agD (v:Value) (f:Nat->Int) (hf:∀i,i<32->0<=f i/\f i<256) (w:World) (h:Rd .u8 w v 32 f):
  Calls Tryz.prog 120 #[v,.string JF,.slice none 0 0] w fun e w'=>e=.returned (.tuple #[.agg (arr .u8 32 (lu f)),.int .i64 0])/\Below w.heap.size w w':=by
 have:=Ca v 32 f JF _ 0 (fun _=>0) (fun _ _=>0) w h aN aN hf aN (oq.nil _ _ _) aN (fun j hj=>by omega) (fun j hj=>by omega)
 rwa [JY] at this
theorem agE (v:Value) (f:Nat->Int) (hf:∀i,i<32->0<=f i/\f i<256) (w:World) (h:Rd .u8 w v 32 f):
  Calls Tryz.prog 120 #[v,.string wX,.slice none 0 0] w fun e w'=>e=.returned (.tuple #[.agg (arr .u8 32 (mX f)),.int .i64 0])/\Below w.heap.size w w':=by
 have:=Ca v 32 f wX _ 0 (fun _=>0) (fun _ _=>0) w h aN aN hf aN (oq.nil _ _ _) aN (fun j hj=>by omega) (fun j hj=>by omega)
 rwa [Km] at this
theorem abF (v:Value) (f:Nat->Int) (hf:∀i,i<32->0<=f i/\f i<256) (w:World) (h:Rd .u8 w v 32 f):
  Calls Tryz.prog 38 #[v,.string JF,.slice none 0 0] w fun e w'=>e=.returned (.tuple #[.agg (arr .u8 32 (lu f)),.int .i64 0])/\Below w.heap.size w w':=by
 have:=xZ v 32 f JF _ 0 (fun _=>0) (fun _ _=>0) w h aN aN hf aN (oq.nil _ _ _) aN (fun j hj=>by omega) (fun j hj=>by omega)
 rwa [JY] at this
theorem abG (v:Value) (f:Nat->Int) (hf:∀i,i<32->0<=f i/\f i<256) (w:World) (h:Rd .u8 w v 32 f):
  Calls Tryz.prog 38 #[v,.string wX,.slice none 0 0] w fun e w'=>e=.returned (.tuple #[.agg (arr .u8 32 (mX f)),.int .i64 0])/\Below w.heap.size w w':=by
 have:=xZ v 32 f wX _ 0 (fun _=>0) (fun _ _=>0) w h aN aN hf aN (oq.nil _ _ _) aN (fun j hj=>by omega) (fun j hj=>by omega)
 rwa [Km] at this
theorem Rf (f:Nat->Int) (hf:∀i,i<32->0<=f i/\f i<256) (w:World):
  Calls Tryz.prog 93 #[.agg (arr .u8 32 f)] w fun e w'=>e=.returned (.agg (arr .u8 32 (lu f)))/\Below w.heap.size w w':=by
 obtain⟨R,hR⟩:∃R,R=lu f:=⟨_,rfl⟩
 have HK:=ak (fun v w h=>agD v f hf w h);rw[<-hR] at HK ⊢;clear hf hR
 go_enter Tryz.func93,Tryz.ntmps93
 go_upto_region 1 with(fail)
 refine aJ (fun w1=>aQ .u8 w1 w.heap.size 32 f/\aQ .u8 w1 (w.heap.size+1) 32 (fun _=>0)/\Below w.heap.size w w1)
  ⟨aQ.alloc (bU rfl rfl) _,bU aR (by rfl),((bT _ _).alloc (bB _) _).alloc aR _⟩ ?_
 rintro w1 ⟨hA,hZ,eP⟩;go_wp2_with fail;refine(HK.out _ _ (hA.rd aN)).mono ?_;rintro e w2 ⟨rfl,dP⟩;have gy:=hZ.kept dP;have aA:=eP.trans (dP.mono eP.size);have hzl:=gy.lt;clear hA hZ eP dP;go_upto_region 2 with(refine aM rfl 22 _ _ rfl .u8 w2.heap.size 32 (fun _=>0) R dh rfl rfl (bU rfl (by rfl)) ?_)
 refine aJ (fun w3=>aQ .u8 w3 w2.heap.size 32 R/\aQ .u8 w3 (w.heap.size+1) 32 (fun _=>0)/\Below w.heap.size w w3)
  ⟨(bU rfl (by rfl):aQ .u8 _ _ 32 (fun _=>0)).setRow _ _,aQ.aG (aQ.alloc gy _) _ aH _,aC (aA.alloc aA.size _) aA.size _⟩ ?_
 rintro w3 ⟨hA3,jy,fP⟩;obtain⟨q,hq⟩:∃q,q=w2.heap.size:=⟨_,rfl⟩
 rw[<-hq] at hA3 ⊢;clear hq aA gy hzl
 try simp only[Act.put,dK,dL,dM]
 go_wp2_with (first
  | (refine bq rfl 22 _ rfl .u8 q 32 R 5 dY dh rfl hA3 ?_)
  | (refine aM rfl 22 _ _ rfl .u8 (w.heap.size+1) 32 (fun _=>0) R dh rfl rfl jy ?_))
 exact bodyPost_ret (bg rfl _ _ .u8 (w.heap.size+1) 32 _ 5 rfl (jy.setRow 32 R) dY dh) rfl ⟨rfl,aC fP aH _⟩
theorem Rh (f:Nat->Int) (hf:∀i,i<32->0<=f i/\f i<256) (w:World):
  Calls Tryz.prog 94 #[.agg (arr .u8 32 f)] w fun e w'=>e=.returned (.agg (arr .u8 32 (mX f)))/\Below w.heap.size w w':=by
 obtain⟨R,hR⟩:∃R,R=mX f:=⟨_,rfl⟩
 have HK:=ak (fun v w h=>agE v f hf w h);rw[<-hR] at HK ⊢;clear hf hR
 go_enter Tryz.func94,Tryz.ntmps94
 go_upto_region 1 with(fail)
 refine aJ (fun w1=>aQ .u8 w1 w.heap.size 32 f/\aQ .u8 w1 (w.heap.size+1) 32 (fun _=>0)/\Below w.heap.size w w1)
  ⟨aQ.alloc (bU rfl rfl) _,bU aR (by rfl),((bT _ _).alloc (bB _) _).alloc aR _⟩ ?_
 rintro w1 ⟨hA,hZ,eP⟩;go_wp2_with fail;refine(HK.out _ _ (hA.rd aN)).mono ?_;rintro e w2 ⟨rfl,dP⟩;have gy:=hZ.kept dP;have aA:=eP.trans (dP.mono eP.size);have hzl:=gy.lt;clear hA hZ eP dP;go_upto_region 2 with(refine aM rfl 22 _ _ rfl .u8 w2.heap.size 32 (fun _=>0) R dh rfl rfl (bU rfl (by rfl)) ?_)
 refine aJ (fun w3=>aQ .u8 w3 w2.heap.size 32 R/\aQ .u8 w3 (w.heap.size+1) 32 (fun _=>0)/\Below w.heap.size w w3)
  ⟨(bU rfl (by rfl):aQ .u8 _ _ 32 (fun _=>0)).setRow _ _,aQ.aG (aQ.alloc gy _) _ aH _,aC (aA.alloc aA.size _) aA.size _⟩ ?_
 rintro w3 ⟨hA3,jy,fP⟩;obtain⟨q,hq⟩:∃q,q=w2.heap.size:=⟨_,rfl⟩
 rw[<-hq] at hA3 ⊢;clear hq aA gy hzl
 try simp only[Act.put,dK,dL,dM]
 go_wp2_with (first
  | (refine bq rfl 22 _ rfl .u8 q 32 R 5 dY dh rfl hA3 ?_)
  | (refine aM rfl 22 _ _ rfl .u8 (w.heap.size+1) 32 (fun _=>0) R dh rfl rfl jy ?_))
 exact bodyPost_ret (bg rfl _ _ .u8 (w.heap.size+1) 32 _ 5 rfl (jy.setRow 32 R) dY dh) rfl ⟨rfl,aC fP aH _⟩
theorem Qk (f:Nat->Int) (hf:∀i,i<32->0<=f i/\f i<256) (w:World):
  Calls Tryz.prog 40 #[.agg (arr .u8 32 f)] w fun e w'=>e=.returned (.agg (arr .u8 32 (lu f)))/\Below w.heap.size w w':=by
 obtain⟨R,hR⟩:∃R,R=lu f:=⟨_,rfl⟩
 have HK:=ak (fun v w h=>abF v f hf w h);have Lc:=ak (fun w=>jK f hf w);rw[<-hR] at HK ⊢;clear hf hR
 go_enter Tryz.func40,Tryz.ntmps40
 go_upto_region 1 with(fail)
 refine aJ (fun w1=>aQ .u8 w1 w.heap.size 32 f/\aQ .u8 w1 (w.heap.size+1) 32 (fun _=>0)/\Below w.heap.size w w1)
  ⟨aQ.alloc (bU rfl rfl) _,bU aR (by rfl),((bT _ _).alloc (bB _) _).alloc aR _⟩ ?_
 rintro w1 ⟨hA,hZ,eP⟩;go_wp2_with (refine bq rfl 22 _ rfl .u8 w.heap.size 32 f 5 dY dh rfl hA ?_);refine(Lc.out _).mono ?_;rintro e wx ⟨v,rfl,hov,hbx⟩;go_wp2_with fail;refine(HK.out _ _ hov.rd).mono ?_;rintro e w2 ⟨rfl,afY⟩;have dP:Below w1.heap.size w1 w2:=hbx.trans (afY.mono hbx.size);clear hbx afY hov;have gy:=hZ.kept dP;have aA:=eP.trans (dP.mono eP.size);have hzl:=gy.lt;clear hA hZ eP dP;go_upto_region 2 with(refine aM rfl 22 _ _ rfl .u8 w2.heap.size 32 (fun _=>0) R dh rfl rfl (bU rfl (by rfl)) ?_)
 refine aJ (fun w3=>aQ .u8 w3 w2.heap.size 32 R/\aQ .u8 w3 (w.heap.size+1) 32 (fun _=>0)/\Below w.heap.size w w3)
  ⟨(bU rfl (by rfl):aQ .u8 _ _ 32 (fun _=>0)).setRow _ _,aQ.aG (aQ.alloc gy _) _ aH _,aC (aA.alloc aA.size _) aA.size _⟩ ?_
 rintro w3 ⟨hA3,jy,fP⟩;obtain⟨q,hq⟩:∃q,q=w2.heap.size:=⟨_,rfl⟩
 rw[<-hq] at hA3 ⊢;clear hq aA gy hzl
 try simp only[Act.put,dK,dL,dM]
 go_wp2_with (first
  | (refine bq rfl 22 _ rfl .u8 q 32 R 5 dY dh rfl hA3 ?_)
  | (refine aM rfl 22 _ _ rfl .u8 (w.heap.size+1) 32 (fun _=>0) R dh rfl rfl jy ?_))
 exact bodyPost_ret (bg rfl _ _ .u8 (w.heap.size+1) 32 _ 5 rfl (jy.setRow 32 R) dY dh) rfl ⟨rfl,aC fP aH _⟩
end Go.Proofs.YtpcjekgfnfjbpaaGreat
namespace Go.Proofs.YtpcjekgfnfjbpaaGreat
open Go.RowKit Go.bC Go.ChangeShapes
attribute [local go_sem ↓] Go.wp_at_zero Go.wp_at_succ
theorem wJ (v:Value) (n:Nat) (f:Nat->Int) (w:World) (hv:Rd .u8 w v n f) (hn:n<=1000000) (hf:∀i,i<n->0<=f i/\f i<256):
  Calls Tryz.prog 101 #[v] w fun e w'=>e=.returned (.agg (arr .u8 32 (dg 256 ((yA n f:Nat):Int))))/\Below w.heap.size w w':=by
 have HS:=ak (fun w' h=>pX v n f w' h hn hf);have HV:=ak hv;have HLI:=ak (fun w=>uh (gJ n f) (fun i _=>fM n f i) w);have CW:Hid (∀w u,Rd .u8 w u 64 (gJ n f)->Calls Tryz.prog 151 #[u] w fun e w'=>e=.returned (.agg (arr .u8 32 (dg 256 ((yA n f:Nat):Int))))/\Below w.heap.size w w'):=fun w u hu=>by
  have hb:∀i,i<64->0<=gJ n f i/\gJ n f i<256:=fun i _=>fM n f i;have h:=Yc u (sm 256 (gJ n f) 64) 64 aN (lW aN hb) w (hu.congr fun i hi=>(tJ aN hb i hi).symm);rw[yx];exact h
 obtain⟨SB,xu⟩:∃SB,SB=gJ n f:=⟨_,rfl⟩
 obtain⟨R,hR⟩:∃R,R=yA n f:=⟨_,rfl⟩
 rw[<-hR] at CW ⊢;rw[<-xu] at HS HLI CW;clear xu hR hn hf hv
 go_enter Tryz.func101,Tryz.ntmps101
 go_upto_region 1 with(fail);refine aJ (fun w1=>aQ .u8 w1 w.heap.size 32 (fun _=>0)/\Below w.heap.size w w1) ⟨bU rfl (by rfl),(bT _ _).alloc (bB _) _⟩ ?_;rintro w1 ⟨hZ,aA⟩;go_wp2_with fail;refine(HS.out _ (HV.out.below aA)).mono ?_;rintro e w2 ⟨rfl,hb⟩;replace hZ:=hZ.kept hb;replace aA:=aA.trans (hb.mono aA.size);clear hb;go_wp2_with fail;refine(HLI.out _).mono ?_;rintro e w3 ⟨u,rfl,hu,hb⟩;have HU:=ak hu.rd;replace hZ:=hZ.kept hb;replace aA:=aA.trans (hb.mono aA.size);clear hb hu;go_wp2_with fail;refine(CW.out _ _ HU.out).mono ?_;rintro e w4 ⟨rfl,hb⟩;replace hZ:=hZ.kept hb;replace aA:=aA.trans (hb.mono aA.size);clear hb;go_wp2_with (refine aM rfl 22 _ _ rfl .u8 w.heap.size 32 (fun _=>0) (dg 256 (R:Int)) dh rfl rfl hZ ?_);exact bodyPost_ret (bg rfl _ _ .u8 w.heap.size 32 _ 5 rfl (hZ.setRow _ _) dY dh) rfl ⟨rfl,aC aA (bB _) _⟩
theorem wK (S:Int) (w:World):Calls Tryz.prog 97 #[.agg (arr .u8 32 (dg 256 S))] w fun e w'=> ∃v,e=.returned (.tuple #[.agg (arr .u8 32 (dg 256 ((uT S:Nat):Int))),v])/\Go.bC.Own .u8 5 w.heap.size w' v 32 (oV S)/\Below w.heap.size w w':=by
 have Lc:=ak (fun w=>jK (dg 256 S) (fun i _=>aV aN _ _) w);have Lj:Hid (∀w v,Rd .u8 w v 32 (dg 256 S)->Calls Tryz.prog 32 #[v] w fun e w'=>e=.returned (.agg (arr .u8 64 (Ew S)))/\Below w.heap.size w w'):=fun w v h=>pX v 32 _ w h aN (fun i _=>aV aN _ _);have uq:Hid (∀i,0<=Ew S i/\Ew S i<256):=fun i=>fM 32 (dg 256 S) i;have RQ:Hid (∀w,Calls Tryz.prog 121 #[.agg (arr .u8 32 (Ew S))] w fun e w'=>e=.returned (.agg (arr .u8 32 (dg 256 ((uT S:Nat):Int))))/\Below w.heap.size w w'):=fun w=>by
  rw[AO,show arr .u8 32 (Ew S)=arr .u8 32 (dg 256 (sm 256 (Ew S) 32)) from gP fun i hi=>(tJ (f:=Ew S) aN (fun i _=>fM 32 (dg 256 S) i) i hi).symm];exact yY _ w
 have HPD:Hid (∀i,oV S i=Ew S (32+i)):=fun _=>rfl;obtain⟨SB,xu⟩:∃SB,SB=Ew S:=⟨_,rfl⟩
 rw[<-xu] at Lj RQ HPD uq;obtain⟨A,hA⟩:∃A,A=uT S:=⟨_,rfl⟩
 rw[<-hA] at RQ ⊢;obtain⟨PF,hPF⟩:∃PF,PF=oV S:=⟨_,rfl⟩
 rw[<-hPF] at HPD ⊢;clear xu hA hPF
 go_enter Tryz.func97,Tryz.ntmps97
 go_upto_region 1 with(fail);refine aJ (fun w1=>aQ .u8 w1 w.heap.size 32 (dg 256 S)/\aQ .u8 w1 (w.heap.size+1) 32 (fun _=>0)/\Below w.heap.size w w1) ⟨.alloc (bU rfl rfl) _,bU (by first | omega | (simp<;> omega)) (by rfl),((bT _ _).alloc (bB _) _).alloc (by first | omega | (simp<;> omega)) _⟩ ?_;rintro w1 ⟨h1,h2,aA⟩;go_wp2_with (refine bq rfl 22 _ rfl .u8 w.heap.size 32 (dg 256 S) 5 dY dh rfl h1 ?_);refine(Lc.out _).mono ?_;rintro e w2 ⟨v,rfl,hv,hb⟩;have HV:=ak hv.rd;replace h2:=h2.kept hb;replace aA:=aA.trans (hb.mono aA.size);clear hb hv h1;go_wp2_with fail;refine(Lj.out _ _ HV.out).mono ?_;rintro e w3 ⟨rfl,hb⟩;replace h2:=h2.kept hb;replace aA:=aA.trans (hb.mono aA.size);have hl2:=h2.lt;clear hb HV Lc Lj;go_upto_region 2 with(refine aM rfl 47 _ _ rfl .u8 w3.heap.size 64 (fun _=>0) SB zy rfl rfl (bU rfl (by rfl)) ?_);refine aJ (fun w4=>aQ .u8 w4 w3.heap.size 64 SB/\Below w3.heap.size w3 w4) ⟨(bU rfl (by rfl):aQ .u8 _ _ 64 (fun _=>0)).setRow _ _,aC ((bT _ _).alloc (bB _) _) (bB _) _⟩ ?_;rintro w4 ⟨h4,hb⟩;replace h2:=h2.kept hb;replace aA:=aA.trans (hb.mono aA.size);obtain⟨x4,e4⟩:∃x,x=w3.heap.size:=⟨_,rfl⟩
 rw[<-e4] at h4 hl2 ⊢;have hl4:=h4.lt;clear e4 hb
 try simp only[Act.put,dK,dL,dM]
 go_upto_region 3 with(fail);refine aJ (fun w5=>aQ .u8 w5 w4.heap.size 32 (fun _=>0)/\Below w4.heap.size w4 w5) ⟨bU rfl (by rfl),(bT _ _).alloc (bB _) _⟩ ?_;rintro w5 ⟨h5,hb⟩;replace h2:=h2.kept hb;replace h4:=h4.kept hb;have fD:=aA.size;replace aA:=aA.trans (hb.mono aA.size);obtain⟨x5,e5⟩:∃x,x=w4.heap.size:=⟨_,rfl⟩
 rw[<-e5] at h5 hl4 fD ⊢;have hl5:=h5.lt;obtain⟨N5,hN5⟩:∃N,N=w5.heap.size:=⟨_,rfl⟩
 rw[<-hN5] at hl5;have agm:N5<=w5.heap.size:=by omega
 clear e5 hb hN5;go_wp2
 go_loopw [6,7] (fun v i wr=> ∃k:Nat,k<=32/\i=.int .i64 (k:Int)/\Go.bC.Own .u8 5 N5 wr v k PF/\aQ .u8 wr x5 32 (upto k SB (fun _=>0))/\aQ .u8 wr x4 64 SB/\aQ .u8 wr (w.heap.size+1) 32 (fun _=>0)/\Below w.heap.size w wr/\N5<=wr.heap.size) (fun _ i _=>32 - (intOf i).toNat)
 case atStart=>exact⟨0,gX _,rfl,Go.bC.Own.nil _ _ _ _ _,by rw[dH];exact h5,h4,h2,aA,agm⟩
 case round=>
  clear h5 h4 h2 aA agm;obtain⟨k,hk,rfl,ho,h5,h4,h2,aA,hsz2⟩:=hrel;have HO:=ak ho;clear ho;by_cases hlt:k<32
  ·have x01:=uq.out (32+k);have y01:=uq.out k;have e1:=h4.cell k aH;have e2:=h4.cell (32+k) aH;have e3:=h5.cell k hlt;have f3:=h5.free k;obtain⟨x,hx⟩:∃x,x=SB (32+k):=⟨_,rfl⟩
   obtain⟨y,hy⟩:∃y,y=SB k:=⟨_,rfl⟩
   rw[<-hx] at x01 e2;rw[<-hy] at y01 e1;rw[upto_at] at e3;obtain⟨x0,x1⟩:=x01;obtain⟨y0,y1⟩:=y01;have HX:Hid (PF k=x):=by unfold Hid;rw[HPD.out,hx]
   have HY:=ak hy;have hadd:IntKind.i64.wrap (32+(k:Int))=((32+k:Nat):Int):=by rw[bI] <;> omega
   have acK:=HO.out.far (show x4<N5 by omega);have hne5:=HO.out.far (show x5<N5 by omega);have hne2:=HO.out.far (show w.heap.size+1<N5 by omega);clear hx hy;go_upto_region 8 with(fail)
   refine aJ (fun wq=>aQ .u8 wq x5 32 (upto (k+1) SB (fun _=>0))/\aQ .u8 wq x4 64 SB/\aQ .u8 wq (w.heap.size+1) 32 (fun _=>0)/\Go.bC.Own .u8 5 N5 wq u6 k PF/\Below w.heap.size w wq/\N5<=wq.heap.size)
    ⟨by rw[<-bW HY.out];exact h5.set k y,aQ.other (p:=⟨x5,k,none⟩) h4 (show x4≠x5 by omega) _,aQ.other (p:=⟨x5,k,none⟩) h2 (show w.heap.size+1≠x5 by omega) _,Go.bC.Own.setCell HO.out (show x5<N5 by omega) _ _,aA.setCell (p:=⟨x5,k,none⟩) (show w.heap.size<=x5 by omega) _,by simpa using hsz2⟩ ?_
   clear h5 h4 h2 aA hsz2 e1 e2 e3 f3 acK hne5 hne2 HO;rintro wq ⟨h5,h4,h2,ho,aA,hsz2⟩;have HO:=ak ho;have e2:=h4.cell (32+k) aH;have acK:=HO.out.far (show x4<N5 by omega);have hne5:=HO.out.far (show x5<N5 by omega);have hne2:=HO.out.far (show w.heap.size+1<N5 by omega);have hxs:SB (32+k)=x:=by rw[<-HPD.out];exact HX.out
   rw[hxs] at e2;clear ho hxs
   try simp only[Act.put,dK,dL,dM]
   go_wp2_with (at_builtin;refine cO rfl _ _ 23 rfl N5 5 .u8 1 lK pI _ k PF _ _ rfl HO.out rfl 1 rfl rfl ?_ aH aH aH ?_;rotate_right;intro v' w6 bM bA)
   ·go_roundw
    case rel=>exact⟨k+1,by omega,by go_num,bM,(aQ.alloc h5 _).grown bA hne5,(aQ.alloc h4 _).grown bA acK,(aQ.alloc h2 _).grown bA hne2,below_grown (aA.alloc aH _) bA HO.out (by simp;omega) aH,by have:=bA.size;simp at this;omega⟩
    case measure=>simp[intOf] <;> omega
   ·first | exact HX.out.symm | (intro i hi;exact jU hi (by rw[show k+i=k by omega];first | exact HX.out | exact HX.out.symm))
  ·obtain rfl:k=32:=by omega
   replace h5:=h5.congr (dQ SB (fun _=>0) (bB _));go_wp2_with (refine bq rfl 22 _ rfl .u8 x5 32 SB 5 dY dh rfl h5 ?_);refine(RQ.out _).mono ?_;rintro e w6 ⟨rfl,hb⟩;replace h2:=h2.kept hb;replace HO:=ak (HO.out.below hb);replace aA:=aA.trans (hb.mono aA.size);clear hb h5 h4;go_wp2_with (refine aM rfl 22 _ _ rfl .u8 (w.heap.size+1) 32 (fun _=>0) (dg 256 (A:Int)) dh rfl rfl h2 ?_);exact bodyPost_ret (gK rfl _ _ .u8 (w.heap.size+1) 32 _ 5 rfl (h2.setRow 32 (dg 256 (A:Int))) dY dh) rfl ⟨_,rfl,(Go.bC.Own.setRow HO.out (show w.heap.size+1<N5 by omega) _).mono aH,aC aA aH _⟩
theorem wB (S:Int) (w:World):Calls Tryz.prog 39 #[.agg (arr .u8 32 (dg 256 S))] w fun e w'=>e=.returned (.agg (arr .u8 32 (dg 256 (qH S))))/\Below w.heap.size w w':=by
 have HH:=ak (fun w=>wK S w);have HAL:=ak (Gg S);have HU:Hid (qH S=dB (Bp.mul (uT S))):=rfl;obtain⟨U,hU⟩:∃U,U=qH S:=⟨_,rfl⟩
 rw[<-hU] at HU ⊢;obtain⟨A,hA⟩:∃A,A=uT S:=⟨_,rfl⟩
 rw[<-hA] at HH HAL HU;clear hU hA
 go_enter Tryz.func39,Tryz.ntmps39
 go_upto_region 1 with(fail);refine aJ (fun w1=>aQ .u8 w1 w.heap.size 32 (dg 256 S)/\aQ .u8 w1 (w.heap.size+1) 32 (fun _=>0)/\Below w.heap.size w w1) ⟨.alloc (bU rfl rfl) _,bU (by first | omega | (simp<;> omega)) (by rfl),((bT _ _).alloc (bB _) _).alloc (by first | omega | (simp<;> omega)) _⟩ ?_;rintro w1 ⟨h1,h2,aA⟩;go_wp2_with (refine bq rfl 22 _ rfl .u8 w.heap.size 32 (dg 256 S) 5 dY dh rfl h1 ?_);refine(HH.out _).mono ?_;rintro e w2 ⟨v,rfl,hv,hb⟩;replace h2:=h2.kept hb;replace aA:=aA.trans (hb.mono aA.size);have hl2:=h2.lt;clear hb hv h1;go_upto_region 2 with(refine aM rfl 22 _ _ rfl .u8 w2.heap.size 32 (fun _=>0) (dg 256 (A:Int)) dh rfl rfl (bU rfl (by rfl)) ?_);refine aJ (fun w3=>aQ .u8 w3 w2.heap.size 32 (dg 256 (A:Int))/\Below w2.heap.size w2 w3) ⟨(bU rfl (by rfl):aQ .u8 _ _ 32 (fun _=>0)).setRow _ _,aC ((bT _ _).alloc (bB _) _) (bB _) _⟩ ?_;rintro w3 ⟨h3,hb⟩;replace h2:=h2.kept hb;replace aA:=aA.trans (hb.mono aA.size);obtain⟨x3,e3⟩:∃x,x=w2.heap.size:=⟨_,rfl⟩
 rw[<-e3] at h3 hl2 ⊢;clear e3 hb
 try simp only[Act.put,dK,dL,dM]
 refine fT (n:=14) 4 rfl aN aS aS aS aS rfl
  (fun ii vv ww=>(match ii with | 1=>vv=.agg (arr .u8 32 (dg 256 (A:Int))) | 3=>vv=.agg (arr .u8 32 (dg 256 (dB (Bp.mul A)))) | _=>True)/\(ii=0->CV ww vv (Bp))/\(ii=2->CV ww vv (Bp.mul A)))
  (fun w w'=>Below w.heap.size w w') (fun _ _ h=>h) (fun i v w w' h hE=>⟨h.1,fun e=>CV.below (h.2.1 e) hE,fun e=>CV.below (h.2.2 e) hE⟩) rfl ?_ ?_
 ·refine cB ?_;refine⟨?_,?_,?_,?_,(fun h=>absurd rfl h),trivial⟩
  ·intro _ a w2 hB hF hd;refine aO <| aD _ _ _ rfl Tryz.call100 _ mZ aR ((TH w2).mono ?_);rintro e w3 ⟨u,rfl,hr,hb⟩;exact⟨u,rfl,⟨trivial,fun _=>hr,aL⟩,hb⟩
  ·intro _ a w2 hB hF hd;exact aO <| aT (aF rfl dY rfl dh (hF.same 3 rfl) (h3.below hB h3.lt)) ⟨rfl,aL,aL⟩
  ·intro _ a w2 hB hF hd;refine aO <| aD _ _ _ rfl Tryz.call99 _ (args2 rfl ((hd 1 _ rfl (aj rfl)).1)) aR ((aaf A HAL.out w2 ((hd 0 _ rfl (aj rfl)).2.1 rfl)).mono ?_);rintro e w3 ⟨u,rfl,hr,hb⟩;exact⟨u,rfl,⟨trivial,aL,fun _=>hr⟩,hb⟩
  ·intro _ a w2 hB hF hd;refine aO <| aD _ _ _ rfl Tryz.call98 _ (args1 rfl) aR ((Oq w2 ((hd 2 _ rfl (aj rfl)).2.2 rfl)).mono ?_);rintro e w3 ⟨rfl,hb⟩;exact⟨_,rfl,⟨rfl,aL,aL⟩,hb⟩
 ·intro a w4 hB hF hS;obtain⟨x10,afo⟩:∃x,x=a.tmps.getD 10 undef:=⟨_,rfl⟩
  obtain⟨x12,afn⟩:∃x,x=a.tmps.getD 12 undef:=⟨_,rfl⟩
  have ha:=aP rfl rfl hF [x10,_,x12,_,undef] rfl ⟨afo.symm,(hS 1 _ rfl aN).1,afn.symm,(hS 3 _ rfl aN).1,trivial,trivial⟩;simp only[puts,Act.put,dK,dL,dM] at ha;subst ha;clear afo afn;clear hS hF;replace h2:=h2.kept hB;replace aA:=aA.trans (hB.mono aA.size);rw[<-HU.out];clear hB h3;refine bE 22 _ _ rfl .u8 (w.heap.size+1) 32 (fun _=>0) (dg 256 U) dh rfl rfl h2 ?_;go_wp2;exact bodyPost_ret (bg rfl _ _ .u8 (w.heap.size+1) 32 _ 5 rfl (h2.setRow 32 (dg 256 U)) dY dh) rfl ⟨rfl,aC aA aH _⟩
theorem yZ (f:Nat->Int) (hf:∀i,i<32->0<=f i/\f i<256) (N:Nat) (w:World) (hN:N<=w.heap.size):
  Calls Tryz.prog 14 #[.agg (arr .u8 32 f)] w fun e w'=> ∃v,e=.returned v/\Go.bC.Own .u8 5 N w' v 32 f/\Below w.heap.size w w':=by
 refine(jK f hf w).mono ?_;rintro e w' ⟨v,rfl,h,hb⟩;exact⟨v,rfl,Go.bC.Own.mono h aH,hb⟩
theorem Mc (S:Int) (t:Value) (n:Nat) (f:Nat->Int) (w:World) (ht:Rd .u8 w t n f) (hn:n<=900000) (hf:∀i,i<n->0<=f i/\f i<256):
  Calls Tryz.prog 41 #[.agg (arr .u8 32 (dg 256 S)),t] w fun e w'=> ∃v,e=.returned v/\Rd .u8 w' v 64 (CJ S f n)/\Below w.heap.size w w':=by
 have HH:=ak (fun w=>wK S w);have HPU:=ak (fun w=>wB S w);have HN1:Hid (∀w v,Rd .u8 w v (32+n) (fO 32 (oV S) f)->Calls Tryz.prog 101 #[v] w fun e w'=>e=.returned (.agg (arr .u8 32 (dg 256 ((rP (oV S) f n:Nat):Int))))/\Below w.heap.size w w'):=fun w v h=>wJ v (32+n) _ w h aH (fU (fun i _=>aae S i) hf);have NW:Hid (∀w v,Rd .u8 w v (32+32+n) (fO 32 (dg 256 (vX (oV S) f n)) (fO 32 (dg 256 (qH S)) f))->Calls Tryz.prog 101 #[v] w fun e w'=>e=.returned (.agg (arr .u8 32 (dg 256 ((pQ (oV S) (dg 256 (qH S)) f n:Nat):Int))))/\Below w.heap.size w w'):=fun w v h=>by
  have h2:=wJ v (32+32+n) _ w h aH (by rw[Nat.add_assoc];exact fU (fun i _=>aV aN _ _) (fU (fun i _=>aV aN _ _) hf));rw[Nat.add_assoc] at h2;exact h2
 have hlR:rP (oV S) f n<jo:=wR _ _;have hlK:pQ (oV S) (dg 256 (qH S)) f n<jo:=wR _ _;have hlA:=Gg S;have ho:jo<2 ^ 256:=by decide
 have HML:Hid (∀w,Calls Tryz.prog 103 #[.agg (arr .u8 32 (dg 256 ((pQ (oV S) (dg 256 (qH S)) f n:Nat):Int))),.agg (arr .u8 32 (dg 256 ((uT S:Nat):Int)))] w fun e w'=>e=.returned (.agg (arr .u8 32 (dg 256 ((pQ (oV S) (dg 256 (qH S)) f n * uT S % jo:Nat):Int))))/\Below w.heap.size w w'):=fun w=>by
  have h:=TL ((pQ (oV S) (dg 256 (qH S)) f n:Nat):Int) ((uT S:Nat):Int) w ⟨by omega,by omega⟩ ⟨by omega,by omega⟩;rw[Ir] at h
  rwa [Int.natCast_emod,Int.natCast_mul]
 have hlM:pQ (oV S) (dg 256 (qH S)) f n * uT S % jo<jo:=Nat.mod_lt _ aN;have HAD:Hid (∀w,Calls Tryz.prog 102 #[.agg (arr .u8 32 (dg 256 ((rP (oV S) f n:Nat):Int))),.agg (arr .u8 32 (dg 256 ((pQ (oV S) (dg 256 (qH S)) f n * uT S % jo:Nat):Int)))] w fun e w'=>e=.returned (.agg (arr .u8 32 (dg 256 ((vW (uT S) (oV S) (dg 256 (qH S)) f n:Nat):Int))))/\Below w.heap.size w w'):=fun w=>by
  have h:=TM ((rP (oV S) f n:Nat):Int) ((pQ (oV S) (dg 256 (qH S)) f n * uT S % jo:Nat):Int) w ⟨by omega,by omega⟩ ⟨by omega,by omega⟩;rw[Ir] at h;have e:((vW (uT S) (oV S) (dg 256 (qH S)) f n:Nat):Int)=(((rP (oV S) f n:Nat):Int)+((pQ (oV S) (dg 256 (qH S)) f n * uT S % jo:Nat):Int)) % (jo:Int):=by
   unfold vW;rw[Int.natCast_emod,Int.natCast_add,Int.add_comm]
  rw[e];exact h
 have HRL:Hid (rP (oV S) f n<2 ^ 256):=Nat.lt_trans hlR ho;have HSF:Hid (vX (oV S) f n=dB (Bp.mul (rP (oV S) f n))):=rfl;have uq:Hid (CJ S f n=fO 32 (dg 256 (vX (oV S) f n)) (dg 256 ((vW (uT S) (oV S) (dg 256 (qH S)) f n:Nat):Int))):=rfl;obtain⟨SG,hSG⟩:∃x,x=vW (uT S) (oV S) (dg 256 (qH S)) f n:=⟨_,rfl⟩
 rw[<-hSG] at HAD uq;obtain⟨M,hM⟩:∃x,x=pQ (oV S) (dg 256 (qH S)) f n * uT S % jo:=⟨_,rfl⟩
 rw[<-hM] at HML HAD;obtain⟨K,hK⟩:∃x,x=pQ (oV S) (dg 256 (qH S)) f n:=⟨_,rfl⟩
 rw[<-hK] at NW HML;obtain⟨FI,hFI⟩:∃x,x=vX (oV S) f n:=⟨_,rfl⟩
 rw[<-hFI] at NW HSF uq;obtain⟨R,hR⟩:∃x,x=rP (oV S) f n:=⟨_,rfl⟩
 rw[<-hR] at HN1 HAD HRL HSF;obtain⟨U,hU⟩:∃x,x=qH S:=⟨_,rfl⟩
 rw[<-hU] at HPU NW;obtain⟨PF,hPF⟩:∃x,x=oV S:=⟨_,rfl⟩
 rw[<-hPF] at HH HN1;obtain⟨A,hA⟩:∃x,x=uT S:=⟨_,rfl⟩
 rw[<-hA] at HH HML;obtain⟨SB,hB0⟩:∃x,x=CJ S f n:=⟨_,rfl⟩
 rw[<-hB0] at uq ⊢;have HT0:=ak ht;have Ll:=ak hn;obtain⟨ta,tn,tc,et⟩:=ht.isSlice;subst et;have hvn:tn=n:=by obtain⟨_,_,h,_⟩:=ht;cases h;rfl
 subst hvn;clear hSG hM hK hFI hR hU hPF hA hB0 hlR hlK hlA hlM ho hf ht
 go_enter Tryz.func41,Tryz.ntmps41
 go_upto_region 1 with(fail);refine aJ (fun w1=>aQ .u8 w1 w.heap.size 32 (dg 256 S)/\Below w.heap.size w w1) ⟨bU rfl rfl,(bT _ _).alloc (bB _) _⟩ ?_;rintro w1 ⟨h2,aA⟩;have s1:=aA.size;go_wp2_with (refine bq rfl 22 _ rfl .u8 w.heap.size 32 (dg 256 S) 5 dY dh rfl h2 ?_);refine(HH.out _).mono ?_;rintro e w2 ⟨v6,rfl,hv6,hb⟩;have h6b:∀b,v6.ownBlock=some b->w.heap.size<=b/\b<w2.heap.size:=fun b e=>⟨jS s1 (World.ownsRow.lt hv6 b e).1,(World.ownsRow.lt hv6 b e).2⟩
 have Li:=ak hv6;have s12:=hb.size;replace h2:=h2.kept hb;replace aA:=aA.trans (hb.mono aA.size);have hl2:=h2.lt;clear hb hv6;go_upto_region 2 with(refine aM rfl 22 _ _ rfl .u8 w2.heap.size 32 (fun _=>0) (dg 256 (A:Int)) dh rfl rfl (bU rfl (by rfl)) ?_);refine aJ (fun w3=>aQ .u8 w3 w2.heap.size 32 (dg 256 (A:Int))/\Below w2.heap.size w2 w3) ⟨(bU rfl (by rfl):aQ .u8 _ _ 32 (fun _=>0)).setRow _ _,aC ((bT _ _).alloc (bB _) _) (bB _) _⟩ ?_;rintro w3 ⟨h5,hb⟩;replace h2:=h2.kept hb;replace aA:=aA.trans (hb.mono aA.size);replace Li:=ak (Li.out.below hb);obtain⟨x5,e5⟩:∃x,x=w2.heap.size:=⟨_,rfl⟩
 rw[<-e5] at h5 hl2 h6b s12 ⊢;clear e5 hb
 try simp only[Act.put,dK,dL,dM]
 have hl5:=h5.lt;go_wp2_with (refine bq rfl 22 _ rfl .u8 w.heap.size 32 (dg 256 S) 5 dY dh rfl h2 ?_);refine(HPU.out _).mono ?_;rintro e w4 ⟨rfl,hb⟩;replace h5:=h5.kept hb;replace aA:=aA.trans (hb.mono aA.size);replace Li:=ak (Li.out.below hb);have hl5:=h5.lt;clear hb h2;go_upto_region 3 with(refine aM rfl 22 _ _ rfl .u8 w4.heap.size 32 (fun _=>0) (dg 256 U) dh rfl rfl (bU rfl (by rfl)) ?_);refine aJ (fun w5=>aQ .u8 w5 w4.heap.size 32 (dg 256 U)/\Below w4.heap.size w4 w5) ⟨(bU rfl (by rfl):aQ .u8 _ _ 32 (fun _=>0)).setRow _ _,aC ((bT _ _).alloc (bB _) _) (bB _) _⟩ ?_;rintro w5 ⟨h7,hb⟩;replace h5:=h5.kept hb;replace aA:=aA.trans (hb.mono aA.size);replace Li:=ak (Li.out.below hb);obtain⟨x7,e7⟩:∃x,x=w4.heap.size:=⟨_,rfl⟩
 rw[<-e7] at h7 hl5 ⊢;clear e7 hb
 try simp only[Act.put,dK,dL,dM]
 have hl7:=h7.lt;have hne5:some x5≠v6.ownBlock:=fun e=>by have:=(h6b _ e.symm).2;omega
 have afD:some x7≠v6.ownBlock:=fun e=>by have:=(h6b _ e.symm).2;omega
 have hnn:=Ll.out;have q5:=aA.size;have ZO:Hid (Go.bC.Own .u8 5 w1.heap.size w5 v6 32 (fO 32 PF f)):=Li.out.congr (fun i hi=>(lV hi).symm);have s6:w1.heap.size<=w5.heap.size:=by omega
 go_wp2_with (at_builtin;refine fH rfl _ _ 23 rfl w1.heap.size 5 .u8 1 lK pI v6 32 (fO 32 PF f) ZO.out rfl (.slice ta tn tc) tn f (HT0.out.below aA) rfl (fun i _=>jQ) aH aH s6 ?_;intro v21 w6 ho hg);replace h5:=h5.grown hg hne5;replace h7:=h7.grown hg afD;replace aA:=below_grown aA hg ZO.out q5 s1;have ahg:=ak ho.rd;clear hg ho ZO Li hne5 afD h6b q5 s6;go_wp2_with fail;refine(HN1.out _ _ ahg.out).mono ?_;rintro e w7 ⟨rfl,hb⟩;replace h5:=h5.kept hb;replace h7:=h7.kept hb;replace aA:=aA.trans (hb.mono aA.size);have hl7:=h7.lt;clear hb ahg;go_upto_region 4 with(refine aM rfl 22 _ _ rfl .u8 w7.heap.size 32 (fun _=>0) (dg 256 (R:Int)) dh rfl rfl (bU rfl (by rfl)) ?_);refine aJ (fun w8=>aQ .u8 w8 w7.heap.size 32 (dg 256 (R:Int))/\Below w7.heap.size w7 w8) ⟨(bU rfl (by rfl):aQ .u8 _ _ 32 (fun _=>0)).setRow _ _,aC ((bT _ _).alloc (bB _) _) (bB _) _⟩ ?_;rintro w8 ⟨h8,hb⟩;replace h5:=h5.kept hb;replace h7:=h7.kept hb;replace aA:=aA.trans (hb.mono aA.size);obtain⟨x8,e8⟩:∃x,x=w7.heap.size:=⟨_,rfl⟩
 rw[<-e8] at h8 hl7 ⊢;clear e8 hb
 try simp only[Act.put,dK,dL,dM]
 have hl8:=h8.lt
 refine bG (n:=49) aS aS aS rfl
  (gZ [(5,4)]) (eZ [(5,4)]) (fun _=>arr .u8 32 (fun _=>0)) (fun _=>(arr .u8 32 (dg 256 (dB (Bp.mul R))))) (fun _=>22) (fun _=>9)
  (fun ii vv ww=>(match ii with | 1=>vv=.agg (arr .u8 32 (dg 256 (R:Int))) | 3=>vv=.agg (arr .u8 32 (dg 256 (dB (Bp.mul R)))) | _=>True)/\(ii=0->CV ww vv (Bp))/\(ii=2->CV ww vv (Bp.mul R))) xP (fun _ _ h=>xP.of h) (fun w b cs p _ _ hz=>xP.row hz) (fun i v w w' h hE=>⟨h.1,fun e=>CV.ES (h.2.1 e) hE,fun e=>CV.ES (h.2.2 e) hE⟩)
  (fJ rfl) (dU rfl) ?_ ?_ ?_ ?_
 ·refine cB ?_;refine⟨?_,?_,?_,?_,(fun h=>by cases h),(fun _ h=>by cases h),trivial⟩
  ·intro _ _ a w2 hB hF hd;refine aO <| aD _ _ _ rfl Tryz.call100 _ mZ aR ((TH w2).mono ?_);rintro e w3 ⟨u,rfl,hr,hb⟩;exact⟨u,rfl,⟨trivial,fun _=>hr,aL⟩,hb⟩
  ·intro _ _ a w2 hB hF hd;exact aO <| aT (aF rfl dY rfl dh (hF.same 8 rfl) (h8.below hB h8.lt)) ⟨rfl,aL,aL⟩
  ·intro _ _ a w2 hB hF hd;refine aO <| aD _ _ _ rfl Tryz.call99 _ (args2 rfl ((hd 1 _ rfl rfl rfl (aj rfl)).1)) aR ((aaf R HRL.out w2 ((hd 0 _ rfl rfl rfl (aj rfl)).2.1 rfl)).mono ?_);rintro e w3 ⟨u,rfl,hr,hb⟩;exact⟨u,rfl,⟨trivial,aL,fun _=>hr⟩,hb⟩
  ·intro _ _ a w2 hB hF hd;refine aO <| aD _ _ _ rfl Tryz.call98 _ (args1 rfl) aR ((Oq w2 ((hd 2 _ rfl rfl rfl (aj rfl)).2.2 rfl)).mono ?_);rintro e w3 ⟨rfl,hb⟩;exact⟨_,rfl,⟨rfl,aL,aL⟩,hb⟩
 ·refine cB ?_;refine⟨(fun h=>by cases h),(fun h=>by cases h),(fun h=>by cases h),(fun h=>by cases h),?_,(fun h=>by cases h),trivial⟩
  ·exact fun _=>⟨rfl,rfl,fun a w2 K h=>aZ rfl rfl Tryz.zeroValue22 aR h⟩
 ·refine cB ?_;refine⟨(fun _ h=>by cases h),(fun _ h=>by cases h),(fun _ h=>by cases h),(fun _ h=>by cases h),(fun _ h=>by cases h),?_,trivial⟩
  ·intro p hp;obtain rfl:4=p:=iy hp;exact⟨rfl,rfl,⟨_,rfl⟩,aj rfl,fun a w2 b K hB hF hd hx hb h=>bJ rfl rfl dh hx ((hd 3 _ rfl rfl rfl (aj rfl)).1) hb h⟩
 ·intro a w9 blk hB hF hS hv hfin dw;obtain⟨v4,IE,Lv⟩:=hv 4 _ rfl rfl;obtain⟨x23,afk⟩:∃x,x=a.tmps.getD 23 undef:=⟨_,rfl⟩
  obtain⟨x25,hx25⟩:∃x,x=a.tmps.getD 25 undef:=⟨_,rfl⟩
  have ha:=aP rfl rfl hF [x23,_,x25,_,_,undef] rfl ⟨afk.symm,(hS 1 _ rfl rfl rfl).1,hx25.symm,(hS 3 _ rfl rfl rfl).1,v4,trivial,trivial⟩;have f4:=hfin 5 _ 4 rfl rfl;simp only[puts,Act.put,dK,dL,dM] at ha;subst ha;clear afk hx25;have V4:aQ .u8 w9 (blk 4) 32 (dg 256 (dB (Bp.mul R))):=⟨_,f4⟩
  clear hS hv hfin dw hF v4 f4;replace h5:=h5.kept hB;replace h7:=h7.kept hB;replace h8:=h8.kept hB;replace aA:=aA.trans (hB.mono aA.size);obtain⟨x9,e9⟩:∃x,x=blk 4:=⟨_,rfl⟩
  rw[<-e9] at V4 ⊢;rw[<-HSF.out] at V4;have h9:=V4;clear e9 hB V4 IE Lv hl8;go_wp2_with (refine bq rfl 22 _ rfl .u8 x9 32 (dg 256 FI) 5 dY dh rfl h9 ?_);refine(jK (dg 256 FI) (fun i _=>aV aN _ _) _).mono ?_;rintro e wA ⟨v29,rfl,hv,hb⟩;replace h5:=h5.kept hb;replace h7:=h7.kept hb;replace h8:=h8.kept hb;replace h9:=h9.kept hb;replace aA:=aA.trans (hb.mono aA.size);have HV:=ak hv.rd;obtain⟨BB,hBB⟩:∃B,B=wA.heap.size:=⟨_,rfl⟩
  have hl5:=h5.lt;have hl7:=h7.lt;have hl8:=h8.lt;have hl9:=h9.lt;have qB:=aA.size;rw[<-hBB] at hl5 hl7 hl8 hl9 qB;have hBA:BB<=wA.heap.size:=by omega
  clear hb hv hBB;have Xl:Hid (Go.bC.Own .u8 5 BB wA (.slice none 0 0) 0 (fO 32 (dg 256 FI) (fO 32 (dg 256 U) f))):=Go.bC.Own.nil _ _ _ _ _;go_upto_region 7 with(at_builtin;refine fH rfl _ _ 23 rfl BB 5 .u8 1 lK pI (.slice none 0 0) 0 (fO 32 (dg 256 FI) (fO 32 (dg 256 U) f)) Xl.out rfl v29 32 (dg 256 FI) HV.out rfl (fun i hi=>by rw[oD];exact lV hi) aH aH hBA ?_;intro v30 wC ho hg);replace h5:=h5.grown hg (Go.bC.Own.far Xl.out (show x5<BB by omega));replace h7:=h7.grown hg (Go.bC.Own.far Xl.out (show x7<BB by omega));replace h8:=h8.grown hg (Go.bC.Own.far Xl.out (show x8<BB by omega));replace h9:=h9.grown hg (Go.bC.Own.far Xl.out (show x9<BB by omega));replace aA:=below_grown aA hg Xl.out aH aH;have hBC:=jS hBA hg.size;have Iz:=ak ho;clear ho hg HV Xl hBA;go_wp2_with (refine bq rfl 22 _ rfl .u8 x7 32 (dg 256 U) 5 dY dh rfl h7 ?_);refine(jK (dg 256 U) (fun i _=>aV aN _ _) _).mono ?_;rintro e wD ⟨v33,rfl,hv,hb⟩;replace h5:=h5.kept hb;replace h7:=h7.kept hb;replace h8:=h8.kept hb;replace h9:=h9.kept hb;replace aA:=aA.trans (hb.mono aA.size);have HV:=ak hv.rd;replace Iz:Hid (Go.bC.Own .u8 5 BB wD v30 32 (fO 32 (dg 256 FI) (fO 32 (dg 256 U) f))):=Iz.out.below hb;have hBA:=jS hBC hb.size;clear hb hv hBC;go_upto_region 8 with(at_builtin;refine fH rfl _ _ 23 rfl BB 5 .u8 1 lK pI v30 32 (fO 32 (dg 256 FI) (fO 32 (dg 256 U) f)) Iz.out rfl v33 32 (dg 256 U) HV.out rfl (fun i hi=>by rw[jQ];exact lV hi) aH aH hBA ?_;intro v34 wE ho hg);replace h5:=h5.grown hg (Go.bC.Own.far Iz.out (show x5<BB by omega));replace h7:=h7.grown hg (Go.bC.Own.far Iz.out (show x7<BB by omega));replace h8:=h8.grown hg (Go.bC.Own.far Iz.out (show x8<BB by omega));replace h9:=h9.grown hg (Go.bC.Own.far Iz.out (show x9<BB by omega));replace aA:=below_grown aA hg Iz.out aH aH;have hBC:=jS hBA hg.size;have Iy:=ak ho;clear ho hg HV Iz hBA;go_upto_region 9 with(at_builtin;refine fH rfl _ _ 23 rfl BB 5 .u8 1 lK pI v34 (32+32) (fO 32 (dg 256 FI) (fO 32 (dg 256 U) f)) Iy.out rfl (.slice ta tn tc) tn f (HT0.out.below aA) rfl (fun i _=>by rw[Nat.add_assoc,jQ,jQ]) aH aH hBC ?_;intro v37 wF ho hg);replace h5:=h5.grown hg (Go.bC.Own.far Iy.out (show x5<BB by omega));replace h7:=h7.grown hg (Go.bC.Own.far Iy.out (show x7<BB by omega));replace h8:=h8.grown hg (Go.bC.Own.far Iy.out (show x8<BB by omega));replace h9:=h9.grown hg (Go.bC.Own.far Iy.out (show x9<BB by omega));replace aA:=below_grown aA hg Iy.out aH aH;have hBD:=jS hBC hg.size;have agV:=ak ho.rd;clear ho hg Iy hBC
  refine bG (n:=49) aS aS aS rfl
   (gZ [(7,6)]) (eZ [(7,6)]) (fun _=>arr .u8 32 (fun _=>0)) (fun _=>(arr .u8 32 (dg 256 (SG:Int)))) (fun _=>22) (fun _=>11)
   (fun ii vv _=>(match ii with | 0=>vv=.agg (arr .u8 32 (dg 256 (R:Int))) | 1=>vv=v37 | 2=>vv=.agg (arr .u8 32 (dg 256 (K:Int))) | 3=>vv=.agg (arr .u8 32 (dg 256 (A:Int))) | 4=>vv=.agg (arr .u8 32 (dg 256 (M:Int))) | 5=>vv=.agg (arr .u8 32 (dg 256 (SG:Int))) | _=>True)) (fun _ _=>True) (fun _ _ _=>trivial) (fun _ _ _ _ _ _ _=>trivial) (fun _ _ _ _ h _=>h)
   (fJ rfl) (dU rfl) ?_ ?_ ?_ ?_
  ·refine cB ?_;refine⟨?_,?_,?_,?_,?_,?_,(fun h=>by cases h),(fun _ h=>by cases h),trivial⟩
   ·intro _ _ a w2 hB hF hd;exact aO <| aT (aF rfl dY rfl dh (hF.same 8 rfl) (h8.below hB h8.lt)) rfl
   ·intro _ _ a w2 hB hF hd;exact aO <| aB _ (.inl rfl) aR (hF.same 10 rfl)
   ·intro _ _ a w2 hB hF hd;refine aO <| aD _ _ _ rfl Tryz.call101 _ (args1 (hd 1 _ rfl rfl rfl (aj rfl))) aR ((NW.out w2 _ (agV.out.below hB)).mono ?_);rintro e w3 ⟨rfl,hb⟩;exact⟨_,rfl,rfl,hb⟩
   ·intro _ _ a w2 hB hF hd;exact aO <| aT (aF rfl dY rfl dh (hF.same 5 rfl) (h5.below hB h5.lt)) rfl
   ·intro _ _ a w2 hB hF hd;refine aO <| aD _ _ _ rfl Tryz.call103 _ (args2 (hd 2 _ rfl rfl rfl (aj rfl)) (hd 3 _ rfl rfl rfl (aj rfl))) aR ((HML.out w2).mono ?_);rintro e w3 ⟨rfl,hb⟩;exact⟨_,rfl,rfl,hb⟩
   ·intro _ _ a w2 hB hF hd;refine aO <| aD _ _ _ rfl Tryz.call102 _ (args2 (hd 0 _ rfl rfl rfl (aj rfl)) (hd 4 _ rfl rfl rfl (aj rfl))) aR ((HAD.out w2).mono ?_);rintro e w3 ⟨rfl,hb⟩;exact⟨_,rfl,rfl,hb⟩
  ·refine cB ?_;refine⟨(fun h=>by cases h),(fun h=>by cases h),(fun h=>by cases h),(fun h=>by cases h),(fun h=>by cases h),(fun h=>by cases h),?_,(fun h=>by cases h),trivial⟩
   ·exact fun _=>⟨rfl,rfl,fun a w2 K h=>aZ rfl rfl Tryz.zeroValue22 aR h⟩
  ·refine cB ?_;refine⟨(fun _ h=>by cases h),(fun _ h=>by cases h),(fun _ h=>by cases h),(fun _ h=>by cases h),(fun _ h=>by cases h),(fun _ h=>by cases h),(fun _ h=>by cases h),?_,trivial⟩
   ·intro p hp;obtain rfl:6=p:=iy hp;exact⟨rfl,rfl,⟨_,rfl⟩,aj rfl,fun a w2 b K hB hF hd hx hb h=>bJ rfl rfl dh hx (hd 5 _ rfl rfl rfl (aj rfl)) hb h⟩
  ·intro a wG blk hB hF hS hv hfin dw;obtain⟨v6,Ld,XI⟩:=hv 6 _ rfl rfl;have ha:=aP rfl rfl hF [_,_,_,_,_,_,_,undef] rfl ⟨hS 0 _ rfl rfl rfl,hS 1 _ rfl rfl rfl,hS 2 _ rfl rfl rfl,hS 3 _ rfl rfl rfl,hS 4 _ rfl rfl rfl,hS 5 _ rfl rfl rfl,v6,trivial,trivial⟩;have f6:=hfin 7 _ 6 rfl rfl;simp only[puts,Act.put,dK,dL,dM] at ha;subst ha;have V6:aQ .u8 wG (blk 6) 32 (dg 256 (SG:Int)):=⟨_,f6⟩
   clear hS hv hfin dw hF v6 f6;replace h9:=h9.kept hB;replace aA:=aA.trans (hB.mono aA.size);obtain⟨x11,e11⟩:∃x,x=blk 6:=⟨_,rfl⟩
   rw[<-e11] at V6 ⊢;have h11:=V6;clear e11 hB V6 Ld XI h5 h7 h8 hl5 hl7 hl8 hl9 qB hBD agV;go_upto_region 10 with(fail)
   refine lZ (n:=49) 4 aN aS aS aS aS rfl
    (fun ii vv ww=>(match ii with | 0=>vv=.agg (arr .u8 32 (dg 256 FI)) | 2=>vv=.agg (arr .u8 32 (dg 256 (SG:Int))) | _=>True)/\(ii=1->Go.bC.Own .u8 5 wG.heap.size ww vv 32 (dg 256 FI))/\(ii=3->Go.bC.Own .u8 5 wG.heap.size ww vv 32 (dg 256 (SG:Int))))
    (fun i v w w' h hE=>⟨h.1,fun e=>Go.bC.Own.below (h.2.1 e) hE,fun e=>Go.bC.Own.below (h.2.2 e) hE⟩) ?_ ?_
   ·refine cB ?_;refine⟨?_,?_,?_,?_,(aL),(aL),trivial⟩
    ·intro _ a w2 hB hF hd;exact aO <| aT (aF rfl dY rfl dh (hF.same 9 rfl) (h9.below hB h9.lt)) ⟨rfl,aL,aL⟩
    ·intro _ a w2 hB hF hd;refine aO <| aD _ _ _ rfl Tryz.call14 _ (args1 ((hd 0 _ rfl (aj rfl)).1)) aR ((yZ (dg 256 FI) (fun i _=>aV aN _ _) wG.heap.size w2 hB.size).mono ?_);rintro e w3 ⟨u,rfl,hr,hb⟩;exact⟨u,rfl,⟨trivial,fun _=>hr,aL⟩,hb⟩
    ·intro _ a w2 hB hF hd;exact aO <| aT (aF rfl dY rfl dh (hF.same 11 rfl) (h11.below hB h11.lt)) ⟨rfl,aL,aL⟩
    ·intro _ a w2 hB hF hd;refine aO <| aD _ _ _ rfl Tryz.call14 _ (args1 ((hd 2 _ rfl (aj rfl)).1)) aR ((yZ (dg 256 (SG:Int)) (fun i _=>aV aN _ _) wG.heap.size w2 hB.size).mono ?_);rintro e w3 ⟨u,rfl,hr,hb⟩;exact⟨u,rfl,⟨trivial,aL,fun _=>hr⟩,hb⟩
   ·intro a wH hB hF hS;obtain⟨ZT,GY⟩:∃x,x=a.tmps.getD 45 undef:=⟨_,rfl⟩
    have P45:Go.bC.Own .u8 5 wG.heap.size wH ZT 32 (dg 256 FI):=by rw[GY];exact(hS 1 _ rfl aN).2.1 rfl
    obtain⟨x47,acA⟩:∃x,x=a.tmps.getD 47 undef:=⟨_,rfl⟩
    have P47:Go.bC.Own .u8 5 wG.heap.size wH x47 32 (dg 256 (SG:Int)):=by rw[acA];exact(hS 3 _ rfl aN).2.2 rfl
    have ha:=aP rfl rfl hF [_,ZT,_,x47] rfl ⟨(hS 0 _ rfl aN).1,GY.symm,(hS 2 _ rfl aN).1,acA.symm,trivial⟩;simp only[puts,List.take_succ_cons,List.take_zero,Act.put,dK,dL,dM] at ha;subst ha;change tl _ _ _ (_::_:: []) _ _;clear GY acA;clear hS hF;have qW:=aA.size;replace aA:=aA.trans (hB.mono aA.size);have qG:=hB.size;have HO:Hid (Go.bC.Own .u8 5 wG.heap.size wH ZT 32 SB):=P45.congr (fun i hi=>by rw[uq.out];exact(lV hi).symm);refine vO rfl (kP _ _ 23 rfl wG.heap.size 5 .u8 1 lK pI ZT 32 SB HO.out rfl x47 32 (dg 256 (SG:Int)) P47.rd rfl (fun i _=>by rw[uq.out];exact jQ) aN aN qG ?_);intro v48 wI ho hg;have DN:=below_grown aA hg HO.out (by have:=aA.size;omega) (by have:=aA.size;omega);have HR:=ak ho.rd;clear ho hg P45 P47 HO hB;refine vP rfl _ (.inr rfl) (Ak ?_);simp only[Act.put,Act.eval,dK,dL,dM];go_wp2;go_ret;exact⟨_,rfl,HR.out,DN⟩
end Go.Proofs.YtpcjekgfnfjbpaaGreat
