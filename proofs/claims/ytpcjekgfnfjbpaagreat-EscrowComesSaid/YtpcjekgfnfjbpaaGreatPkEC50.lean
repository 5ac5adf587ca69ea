/- Part 50 of EscrowComes; conditions: in each theorem. -/
import Derived.Test.YtpcjekgfnfjbpaaGreatPkEC39
import Derived.Test.YtpcjekgfnfjbpaaGreatPkEC49
set_option linter.unusedVariables false
set_option linter.unusedSimpArgs false
set_option maxRecDepth 100000
set_option maxHeartbeats 6400000
namespace Go.bI
open Go.RowKit
theorem DC {P:Program} {w:World} {ops:Array Oper} {rest:List Oper} {o:Oper} {a:Act} {Q:Exit->Act->World->Prop} (hg:o.guard=none)
  (s x:Operand) (t:TypeId) (hop:o.op=.call { callee:=.builtin .append,args:=#[s,x],argTypes:=#[t,t] })
  (base:Nat) (e:TypeId) (bytes:Nat) (h1:P.underlying t=some (.slice e)) (hinfo:(P.info? e).map (fun i=>(i.zero,i.size,i.bytes))=some (some (.slice none 0 0),1,bytes))
  (v:Value) (m:Nat) (lens:Nat->Nat) (g:Nat->Nat->Int) (cK:fH e base w v m lens g) (hs:a.eval s=v)
  (u:Value) (m2:Nat) (QD:Nat->Value) (xR:Nat->Nat) (g2:Nat->Nat->Int) (htx:DR w u m2 QD xR g2) (Pd:∀j,j<m2->0<xR j->(QD j).ownBlock≠v.ownBlock) (hx:a.eval x=u)
  (b2:(m+m2) * bytes<=140737488355328) (b3:m+m2<=140737488355328) (b4:base<=w.heap.size)
  (hK:∀v' w',fH e base w' v' (m+m2) (kM m lens xR) (nL m g g2)->w.grownBy w' v.ownBlock->(∀b,v'.ownBlock=some b->base<=b)->Placed w v v'->wpList P ops Q rest (a.put o.dst v') w'):
  wpList P ops Q (o::rest) a w:=
 wpList_plain hg fun _ hK'=>Ei s x t hop base e bytes h1 hinfo v m lens g cK hs u m2 QD xR g2 htx Pd hx b2 b3 b4 fun v' w' q1 q2 q3 q4=>hK' _ _ (hK v' w' q1 q2 q3 q4)
theorem Mv {P:Program} {w:World} {ops:Array Oper} {rest:List Oper} {o:Oper} {a:Act} {Q:Exit->Act->World->Prop} (hg:o.guard=none) (d s:Operand) (dT sT:TypeId) (ho:o.op=.call { callee:=.builtin .copy,args:=#[d,s],argTypes:=#[dT,sT] }) {e:TypeId} {k:IntKind} (g off dLen dCap n:Nat) (f:Nat->Int) (hu:P.underlying dT=some (.slice e)) (gP:(P.info? e).map (·.size)=some 1)
  (hd:a.eval d=.slice (some ⟨g,off,none⟩) dLen dCap) (hA:aK k w g n f) (u:Value) (m:Nat) (h:Nat->Int) (hr:Rd k w u m h) (hs:a.eval s=u) (hm:m<=dLen) (hf:off+m<=n)
  (hK:wpList P ops Q rest (a.put o.dst (goInt m)) (w.setRow g (arr k n (laid f off m h)))):wpList P ops Q (o::rest) a w:=
 wpList_plain hg fun _ hK'=>mX d s dT sT ho g off dLen dCap n f hu gP hd hA u m h hr hs hm hf (hK' _ _ hK)
theorem afW {w w':World} {v u:Value} {n m:Nat} {f g:Nat->Int} {T:TypeId} (h:Rd .u8 w v n f) (h':Rd .u8 w u m g) (hb:Below w.heap.size w w'):
  uq (w'.alloc (.cells [v,u].toArray T)) (.slice (some ⟨w'.heap.size,0,none⟩) 2 2) 2 (kM 1 (fun _=>n) (fun _=>m)) (nL 1 (fun _=>f) (fun _=>g)):=
 uq.new aM fun j hj=>by
  rcases(by omega:j=0\/j=1) with rfl | rfl
  ·exact⟨v,rfl,h.below hb⟩
  ·exact⟨u,rfl,h'.below hb⟩
end Go.bI
namespace Go.Proofs.YtpcjekgfnfjbpaaGreat
open Go.RowKit Go.bI
attribute [local go_sem ↓] Go.wp_at_zero Go.wp_at_succ
theorem Tryz.infoTxt:(Tryz.prog.info? 23).map (fun i=>(i.zero,i.size,i.bytes))=some (some (.slice none 0 0),1,24):=by kernel_rfl
theorem Tryz.undTxt:Tryz.prog.underlying 55=some (.slice 23):=by kernel_rfl
theorem zL (v:Value) (a m n:Nat) (lens:Nat->Nat) (f F:Nat->Int) (g:Nat->Nat->Int) (w:World) (hv:uq w v (1+m) (kM 1 (fun _=>a) lens) (nL 1 (fun _=>f) g)) (hg:∀j,j<m->∀i,i<lens j->F (dQ lens j+i)=g j i) (hn:dQ lens m=n) (hl:a+n<=1000000)
  (hf:∀i,i<a->0<=f i/\f i<256) (hF:∀i,i<n->0<=F i/\F i<256):
  Calls Tryz.prog 139 #[v] w fun e w'=>e=.returned (.agg (arr .u8 64 (rC (a+n) (nN a f F))))/\Below w.heap.size w w':=by
 have h1:dQ (fun _=>a) 1=a:=by simp[dQ]
 have h2:=uQ (F1:=f) (F2:=F) (Dj (f:=f) (n:=a)).1 hg;rw[h1] at h2;exact GA v (1+m) _ _ (a+n) _ w hv h2 (by rw[tF,h1,hn]) hl (mJ hf hF)
theorem Ml (v:Value) (n:Nat) (key:Nat->Int) (c:Int) (w:World) (hv:Rd .u8 w v n key) (hn:n<=1000000) (hk:∀i,i<n->0<=key i/\key i<256) (hc:0<=c/\c<256):
  Calls Tryz.prog 227 #[v,.int .u8 c] w fun e w'=> ∃u,e=.returned u/\Rd .u8 w' u 128 (KQ n key c)/\Below w.heap.size w w':=by
 obtain⟨PK,hPK⟩:∃PK,PK=KQ n key c:=⟨_,rfl⟩
 have HK:=ay hk;have HKB:Hid (∀i,0<=EF n key i/\EF n key i<256):=OT hk;have HPK:Hid (∀i,bits .xor .u8 (EF n key i) c=PK i):=by rw[hPK];exact fun i=>rfl
 obtain⟨KK,hKK⟩:∃KK,KK=EF n key:=⟨_,rfl⟩
 have HK1:Hid (128<n->∀i,i<128->laid (fun _=>0) 0 64 (rC n key) i=KK i):=by
  rw[hKK];intro h i hi;unfold laid EF;rw[if_pos h];by_cases q:i<64
  ·rw[if_pos aH,if_pos q,Nat.sub_zero]
  ·rw[if_neg aH,if_neg q]
 have HK2:Hid (¬ 128<n->∀i,i<128->laid (fun _=>0) 0 n key i=KK i):=by
  rw[hKK];intro h i hi;unfold laid EF;rw[if_neg h];by_cases q:i<n
  ·rw[if_pos aH,if_pos q,Nat.sub_zero]
  ·rw[if_neg aH,if_neg q]
 rw[<-hPK];rw[<-hKK] at HKB HPK;have HV:=ay hv;have HS:=ay (fun v w (h:uq w v 1 (fun _=>n) (fun _=>key))=>WR v n key w h hn hk);obtain⟨va,vc,rfl,v1,v2,_,_⟩:=hv;obtain⟨c0,c1⟩:=hc;clear hk hPK hKK;by_cases hlong:128<n
 case' pos=>
  go_enter Tryz.func227,Tryz.ntmps227
  go_wp2_with fail;refine(HS.out _ _ (new1 (T:=23) HV.out (bT _ _))).mono ?_;rintro e w1 ⟨rfl,gX⟩;have jf:Below w.heap.size w w1:=((bT w.heap.size w).alloc (bH _) _).trans (gX.mono aR);clear gX;go_upto_region 3 with(refine aL rfl 47 _ _ rfl .u8 w1.heap.size 64 (fun _=>0) _ Tryz.size47 rfl rfl (cB rfl (by rfl)) ?_);refine aJ (fun w2=>aK .u8 w2 w1.heap.size 64 (rC n key)/\Below w.heap.size w w2) ⟨(cB rfl (by rfl):aK .u8 _ _ 64 (fun _=>0)).setRow _ _,aB (jf.alloc jf.size _) jf.size _⟩ ?_;rintro w2 ⟨hA,fO⟩;obtain⟨q,hq⟩:∃q,q=w1.heap.size:=⟨_,rfl⟩
  rw[<-hq] at hA ⊢;clear hq jf;simp only[Act.put];go_upto_region 3 with(fail)
  refine bC (n:=33) aQ aQ aQ rfl
   (fun ii vv _=>(match ii with | 0 | 1=>vv=.slice (some ⟨q,0,none⟩) 64 64 | _=>True))
   (fun w w'=>Below w.heap.size w w') (fun _ _ h=>h) (fun _ _ _ _ h _=>h) ?_ ?_
  ·refine dG ?_;refine⟨?_,?_,trivial⟩
   ·intro a w2 hB hF hd;exact aN <| aW (gD rfl (hF.same 5 rfl) Tryz.underlying47 aQ) rfl
   ·intro a w2 hB hF hd;exact aN <| aG _ (.inr rfl) aR (hd 0 _ rfl (aj rfl))
  ·intro a w3 hB hF hS;have ha:=aO rfl rfl hF [_,_] rfl ⟨hS 0 _ rfl,hS 1 _ rfl,trivial⟩;simp only[puts,Act.put,fB,fD,fF] at ha;subst ha;clear hS hF;have ji:=fO.trans (hB.mono fO.size);have hs3:=ji.size;have HKV:Hid (Rd .u8 w3 (.slice (some ⟨q,0,none⟩) 64 64) 64 (rC n key)):=(hA.kept hB).rd aM;have HL:Hid (∀i,i<128->laid (fun _=>0) 0 64 (rC n key) i=KK i):=HK1.out hlong;obtain⟨k0,hk0⟩:∃k0,k0=rC n key:=⟨_,rfl⟩
   rw[<-hk0] at HKV HL;clear hA fO hB hk0
   go_upto_region 6 with(first
    | (refine uN rfl _ _ 23 rfl w.heap.size 5 .u8 1 mo yL .i64 .i64 128 rfl rfl aM aM ji.size ?_;intro w4 cK dL;have zn:=cK.rows.arr;have YR:=HKV.out.below (iq (bT w3.heap.size w3) dL (bH _)))
    | (refine Mv rfl _ _ 23 23 rfl (e:=5) (k:=.u8) w3.heap.size 0 128 128 128 (fun _=>0) mo Tryz.size5 rfl zn _ 64 k0 YR rfl aH aH ?_))
   refine aJ (fun w5=>aK .u8 w5 w3.heap.size 128 KK/\Below w.heap.size w w5) ⟨(zn.setRow _ _).congr HL.out,aB (iq ji dL hs3) hs3 _⟩ ?_;rintro w5 ⟨wF,lW⟩;obtain⟨G,hG⟩:∃G,G=w3.heap.size:=⟨_,rfl⟩
   have hGl:w.heap.size<=G:=by rw[hG];exact hs3
   rw[<-hG] at wF ⊢;clear hG zn YR cK dL HKV HL;simp only[Act.put,fB,fD,fF];go_wp2
   go_loopw [21] (fun u wr=> ∃i:Nat,i<=128/\u=.int .i64 (i:Int)/\aK .u8 wr G 128 (upto i PK KK)/\Below w.heap.size w wr) (fun u _=>128 - (intOf u).toNat)
   case atStart=>exact⟨0,jm _,rfl,by rw[dR];exact wF,lW⟩
   case round=>
    clear wF lW;obtain⟨i,hi,rfl,hA,aD⟩:=hrel;have HA:=ay hA;clear hA;by_cases hlt:i<128
    ·have e1:=HA.out.cell i hlt;rw[upto_at] at e1;have f1:=HA.out.free i;obtain⟨x,hx⟩:∃x,x=KK i:=⟨_,rfl⟩
     have x01:=HKB.out i;have hp:=HPK.out i;rw[<-hx] at e1 x01 hp;have HX:=ay hx;obtain⟨x0,x1⟩:=x01;clear hx;go_wp2;go_roundw
     case rel=>exact⟨i+1,by omega,by go_num,by rw[<-dh (j:=i) (g:=PK) (f:=KK) rfl];exact HA.out.set i _,aD.setCell hGl _⟩
     case measure=>simp[intOf] <;> omega
    ·obtain rfl:i=128:=by omega
     have hR:=(HA.out.congr (g:=PK) (fJ PK KK (bH _))).rd aM;clear HA;go_wp2;go_ret;exact⟨_,rfl,hR,aD⟩
 case' neg=>
  go_enter Tryz.func227,Tryz.ntmps227
  have asv:n<=128:=by omega
  have HKV:=HV;have HL:Hid (∀i,i<128->laid (fun _=>0) 0 n key i=KK i):=HK2.out hlong
  go_upto_region 6 with(first
   | (refine uN rfl _ _ 23 rfl w.heap.size 5 .u8 1 mo yL .i64 .i64 128 rfl rfl aM aM (bH _) ?_;intro w4 cK dL;have zn:=cK.rows.arr;have YR:=HKV.out.below (iq (bT w.heap.size w) dL (bH _)))
   | (refine Mv rfl _ _ 23 23 rfl (e:=5) (k:=.u8) w.heap.size 0 128 128 128 (fun _=>0) mo Tryz.size5 rfl zn _ n key YR rfl aH aH ?_))
  refine aJ (fun w5=>aK .u8 w5 w.heap.size 128 KK/\Below w.heap.size w w5) ⟨(zn.setRow _ _).congr HL.out,aB (iq (bT _ _) dL (bH _)) (bH _) _⟩ ?_;rintro w5 ⟨wF,lW⟩;obtain⟨G,hG⟩:∃G,G=w.heap.size:=⟨_,rfl⟩
  have hGl:w.heap.size<=G:=by rw[hG];exact(bH _)
  rw[<-hG] at wF ⊢;clear hG zn YR cK dL HKV HL;simp only[Act.put,fB,fD,fF];go_wp2
  go_loopw [21] (fun u wr=> ∃i:Nat,i<=128/\u=.int .i64 (i:Int)/\aK .u8 wr G 128 (upto i PK KK)/\Below w.heap.size w wr) (fun u _=>128 - (intOf u).toNat)
  case atStart=>exact⟨0,jm _,rfl,by rw[dR];exact wF,lW⟩
  case round=>
   clear wF lW;obtain⟨i,hi,rfl,hA,aD⟩:=hrel;have HA:=ay hA;clear hA;by_cases hlt:i<128
   ·have e1:=HA.out.cell i hlt;rw[upto_at] at e1;have f1:=HA.out.free i;obtain⟨x,hx⟩:∃x,x=KK i:=⟨_,rfl⟩
    have x01:=HKB.out i;have hp:=HPK.out i;rw[<-hx] at e1 x01 hp;have HX:=ay hx;obtain⟨x0,x1⟩:=x01;clear hx;go_wp2;go_roundw
    case rel=>exact⟨i+1,by omega,by go_num,by rw[<-dh (j:=i) (g:=PK) (f:=KK) rfl];exact HA.out.set i _,aD.setCell hGl _⟩
    case measure=>simp[intOf] <;> omega
   ·obtain rfl:i=128:=by omega
    have hR:=(HA.out.congr (g:=PK) (fJ PK KK (bH _))).rd aM;clear HA;go_wp2;go_ret;exact⟨_,rfl,hR,aD⟩
theorem Zz (vk:Value) (nk:Nat) (key:Nat->Int) (vp:Value) (m:Nat) (lens:Nat->Nat) (g:Nat->Nat->Int) (n:Nat) (F:Nat->Int) (w:World) (hv:Rd .u8 w vk nk key) (hk1:nk<=1000000) (hk:∀i,i<nk->0<=key i/\key i<256)
  (hp:uq w vp m lens g) (hm:m<=1000000) (hg:∀j,j<m->∀i,i<lens j->F (dQ lens j+i)=g j i) (hn:dQ lens m=n) (hn2:n<=900000) (hF:∀i,i<n->0<=F i/\F i<256):
  Calls Tryz.prog 177 #[vk,vp] w fun e w'=>e=.returned (.agg (arr .u8 64 (Gz nk key n F)))/\Below w.heap.size w w':=by
 obtain⟨K1,hK1⟩:∃K1,K1=KQ nk key 54:=⟨_,rfl⟩
 obtain⟨K2,hK2⟩:∃K2,K2=KQ nk key 92:=⟨_,rfl⟩
 have HP1:=ay (fun w h=>Ml vk nk key 54 w h hk1 hk aM);have HP2:=ay (fun w h=>Ml vk nk key 92 w h hk1 hk aM);have HB1:Hid (∀i,i<128->0<=K1 i/\K1 i<256):=by rw[hK1];exact fun i _=>Cx _ _ _ i
 have HB2:Hid (∀i,i<128->0<=K2 i/\K2 i<256):=by rw[hK2];exact fun i _=>Cx _ _ _ i
 obtain⟨S1,hS1⟩:∃S1,S1=rC (128+n) (nN 128 K1 F):=⟨_,rfl⟩
 have DW:Hid (∀i,i<64->0<=S1 i/\S1 i<256):=by rw[hS1];exact fun i _=>rA _ _ i
 obtain⟨TG,hTG⟩:∃TG,TG=rC (128+64) (nN 128 K2 S1):=⟨_,rfl⟩
 have Ng:=ay (fun v w h=>zL v 128 m n lens K1 F g w h hg hn aH HB1.out hF);have HS2:=ay (fun v w h=>zL v 128 1 64 (fun _=>64) K2 S1 (fun _=>S1) w h (Dj (f:=S1) (n:=64)).1 (Dj (f:=S1) (n:=64)).2 aM HB2.out DW.out);have e1:Gz nk key n F=TG:=by rw[hTG,hS1,hK1,hK2];rfl
 rw[e1];rw[<-hS1] at Ng;rw[<-hTG] at HS2;rw[<-hK1] at HP1;rw[<-hK2] at HP2;have HV:=ay hv;have HT:=ay hp;obtain⟨va,vc,rfl,v1,v2,_,_⟩:=hv;obtain⟨pa,pc,rfl,p1,p2,_⟩:=hp;clear hk hg hn hF hS1 hTG e1 hK1 hK2
 go_enter Tryz.func177,Tryz.ntmps177
 go_upto_region 1 with(fail);refine aJ (fun w1=>aK .u8 w1 w.heap.size 64 (fun _=>0)/\Below w.heap.size w w1/\w1.heap.size=w.heap.size+1) ⟨cB rfl (by rfl),(bT _ _).alloc (bH _) _,by simp⟩ ?_;rintro w1 ⟨hZ,gX,hs1⟩;have HV1:=ay (HV.out.below gX);have HT1:=ay (HT.out.below gX);clear HV HT;go_wp2_with fail;refine(HP1.out _ HV1.out).mono ?_;rintro e w2 ⟨u,rfl,hu,fO⟩;have jG:=hZ.kept fO;have dV:=gX.trans (fO.mono gX.size);have HV2:=ay (HV1.out.below fO);obtain⟨us,hU⟩:=(HT1.out.below fO).ajw;have HU:=ay hU;have HUR:=ay hu;have hs2:=dV.size;clear hZ gX hs1 fO HV1 HT1 hU hu;obtain⟨ua,uc,rfl,u1,u2,_,_⟩:=id HUR.out;have hO1:=ay (fH.aoR (e:=23) (bH w2.heap.size) HUR.out);have hU1:=ay (HU.out.below ((bT w2.heap.size w2).alloc (bH _) (.cells #[.slice ua 128 uc] 23)));have hF1:=ay (HU.out.far (u:=.slice (some ⟨w2.heap.size,0,none⟩) 1 1) (by intro b hb;simp[Value.ownBlock] at hb;omega));go_wp2_with (at_builtin;refine DC rfl _ _ 55 rfl w2.heap.size 23 24 Tryz.undTxt Tryz.infoTxt _ 1 (fun _=>128) (fun _=>K1) hO1.out rfl _ m us lens g hU1.out hF1.out rfl aH aH aR ?_;intro v3 w3 hown3 agL apt ape);have ji:Below w.heap.size w w3:=(dV.alloc hs2 _).grown agL iU (fun b hb=>by simp[Value.ownBlock] at hb;omega);have hlow:Below w2.heap.size w2 w3:=((bT w2.heap.size w2).alloc (bH _) _).grown agL aR (fun b hb=>by simp[Value.ownBlock] at hb;omega);have HV3:=ay (HV2.out.below hlow);have lZ:=jG.kept hlow;have HT3:=ay hown3.txt;clear hown3 agL apt ape jG dV HV2 HU hO1 hU1 hF1 hlow;refine(Ng.out _ _ HT3.out).mono ?_;rintro e w4 ⟨rfl,jF⟩;have fU:=ji.trans (jF.mono ji.size);have HV4:=ay (HV3.out.below jF);have qX:=lZ.kept jF;have hzl:=qX.lt;clear ji jF HV3 lZ HT3;go_upto_region 2 with(refine aL rfl 47 _ _ rfl .u8 w4.heap.size 64 (fun _=>0) S1 Tryz.size47 rfl rfl (cB rfl (by rfl)) ?_)
 refine aJ (fun w5=>aK .u8 w5 w4.heap.size 64 S1/\aK .u8 w5 w.heap.size 64 (fun _=>0)/\Below w.heap.size w w5/\Rd .u8 w5 (.slice va nk vc) nk key)
  ⟨(cB rfl (by rfl):aK .u8 _ _ 64 (fun _=>0)).setRow _ _,aK.aC (aK.alloc qX _) _ aH _,aB (fU.alloc fU.size _) fU.size _,HV4.out.below (aB ((bT w4.heap.size w4).alloc (bH _) _) (bH _) _)⟩ ?_
 rintro w5 ⟨wF,qF,lW,hv5⟩;have HV5:=ay hv5;obtain⟨q,hq⟩:∃q,q=w4.heap.size:=⟨_,rfl⟩
 rw[<-hq] at wF ⊢;clear hq qX fU hv5 HV4;simp only[Act.put]
 refine jZ (n:=17) 5 rfl aM aQ aQ aQ aQ rfl
  (fun ii vv ww=>(match ii with | 0=>vv=.slice va nk vc | 2=>vv=.slice (some ⟨q,0,none⟩) 64 64 | 4=>vv=.agg (arr .u8 64 (TG)) | _=>True)/\(ii=1->Rd .u8 ww vv 128 (K2))/\(ii=3->uq ww vv 2 (kM 1 (fun _=>128) (fun _=>64)) (nL 1 (fun _=>K2) (fun _=>S1))))
  (fun w w'=>Below w.heap.size w w') (fun _ _ h=>h) (fun i v w w' h hE=>⟨h.1,fun e=>Rd.below (h.2.1 e) hE,fun e=>uq.below (h.2.2 e) hE⟩) rfl ?_ ?_
 ·refine dG ?_;refine⟨?_,?_,?_,?_,?_,(fun h=>absurd rfl h),trivial⟩
  ·intro _ a w2 hB hF hd;exact aN <| aG _ (.inl rfl) aR ⟨(hF.same 0 rfl),aP,aP⟩
  ·intro _ a w2 hB hF hd;refine aN <| aI _ _ _ rfl Tryz.call227 _ (args2 ((hd 0 _ rfl (aj rfl)).1) rfl) aR ((HP2.out _ (HV5.out.below hB)).mono ?_);rintro e w3 ⟨u,rfl,hr,hb⟩;exact⟨u,rfl,⟨trivial,fun _=>hr,aP⟩,hb⟩
  ·intro _ a w2 hB hF hd;exact aN <| aW (gD rfl (hF.same 5 rfl) Tryz.underlying47 aQ) ⟨rfl,aP,aP⟩
  ·intro _ a w2 hB hF hd;exact aN <| oC 55 23 2 _ [a.eval (Operand.tmp 13),.slice (some ⟨q,0,none⟩) 64 64] rfl Tryz.underlying55 aQ aQ rfl aM aM (by intro v hv;simp only[List.mem_cons,List.not_mem_nil,or_false] at hv;rcases hv with rfl | rfl;exact Rd.IY ((hd 1 _ rfl (aj rfl)).2.1 rfl);rfl) (by simp only[vT,List.map_cons,List.map_nil,show a.eval (Operand.tmp 14)=.slice (some ⟨q,0,none⟩) 64 64 from((hd 2 _ rfl (aj rfl)).1)];rfl) aR ⟨trivial,aP,fun _=>(afW ((hd 1 _ rfl (aj rfl)).2.1 rfl) ((wF.kept hB).rd aM) (bT _ _))⟩
  ·intro _ a w2 hB hF hd;refine aN <| aI _ _ _ rfl Tryz.call139 _ (args1 rfl) aR ((HS2.out _ _ ((hd 3 _ rfl (aj rfl)).2.2 rfl)).mono ?_);rintro e w3 ⟨rfl,hb⟩;exact⟨_,rfl,⟨rfl,aP,aP⟩,hb⟩
 ·intro a w6 hB hF hS;obtain⟨x13,Uc⟩:∃x,x=a.tmps.getD 13 undef:=⟨_,rfl⟩
  obtain⟨x15,akk⟩:∃x,x=a.tmps.getD 15 undef:=⟨_,rfl⟩
  have ha:=aO rfl rfl hF [_,x13,_,x15,_,undef] rfl ⟨(hS 0 _ rfl aM).1,Uc.symm,(hS 2 _ rfl aM).1,akk.symm,(hS 4 _ rfl aM).1,trivial,trivial⟩;simp only[puts,Act.put,fB,fD,fF] at ha;subst ha;clear Uc akk;clear hS hF;have zm:=qF.kept hB;have tQ:=lW.trans (hB.mono lW.size);refine bG 47 _ _ rfl .u8 w.heap.size 64 (fun _=>0) TG Tryz.size47 rfl rfl zm ?_;have Rv:=zm.setRow 64 TG;have YN:=aB tQ (bH _) (arr .u8 64 TG);clear qF lW wF zm tQ hB;go_wp2;exact bodyPost_ret (bV rfl _ _ .u8 w.heap.size 64 _ 5 rfl Rv Tryz.underlying47 Tryz.size47) rfl ⟨rfl,YN⟩
theorem Yk (a:Option Addr) (n c:Nat) (h1:n<=1048576) (w:World):Calls Tryz.prog 175 #[.slice a n c] w fun e w'=>e=.returned (.bool false)/\w=w':=by
 have hl:decide ((1048576:Int)<(n:Int))=false:=decide_eq_false aH
 go_enter Tryz.func175,Tryz.ntmps175
 go_wp2;go_ret;exact⟨rfl,rfl⟩
theorem LH (v:Value) (m:Nat) (lens:Nat->Nat) (g:Nat->Nat->Int) (w:World) (hv:uq w v m lens g) (hl:∀j,j<m->lens j<=1048576):
  Calls Tryz.prog 226 #[v,.func (.func 175) #[] #[]] w fun e w'=>e=.returned (.int .i64 (-1))/\w=w':=by
 have HL:=ay hl;obtain⟨ta,tc,rfl,t1,t2,t3⟩:=hv;have HT3:=ay t3;clear hl t3
 go_enter Tryz.func226,Tryz.ntmps226
 go_wp2
 go_loop [8] (fun i=> ∃k:Nat,k<=m/\i=.int .i64 (k:Int)) (fun i=>m - (intOf i).toNat)
 case atStart=>exact⟨0,jm _,rfl⟩
 case round=>
  obtain⟨k,hk,rfl⟩:=hrel;by_cases hlt:k<m
  ·obtain⟨tb,to,rfl,tlt,sJ⟩:=HT3.out aH;obtain⟨u,hu,Uh⟩:=sJ k hlt;obtain⟨ua,uc,rfl,_,_,_,_⟩:=Uh;have hlk:=HL.out k hlt;clear sJ;go_wp2_with fail;refine(Yk _ _ _ hlk _).mono ?_;rintro e w1 ⟨rfl,rfl⟩;go_wp2
   go_round
   case rel=>exact⟨k+1,by omega,by go_num⟩
   case measure=>simp[intOf];omega
  ·obtain rfl:k=m:=by omega
   go_wp2;go_ret;exact⟨rfl,rfl⟩
theorem LV (v:Value) (m:Nat) (lens:Nat->Nat) (g:Nat->Nat->Int) (w:World) (hv:uq w v m lens g) (hl:∀j,j<m->lens j<=1048576):
  Calls Tryz.prog 176 #[v,.func (.func 175) #[] #[]] w fun e w'=>e=.returned (.bool false)/\Below w.heap.size w w':=by
 have H:=ay (LH v m lens g w hv hl);clear hv hl
 go_enter Tryz.func176,Tryz.ntmps176
 go_wp2_with fail;refine H.out.mono ?_;rintro e w1 ⟨rfl,rfl⟩;go_wp2;go_ret;exact⟨rfl,bT _ _⟩
theorem Mq (vf:Value) (nf:Nat) (from_:Nat->Int) (s:ByteArray) (vc:Value) (m:Nat) (lens:Nat->Nat) (g:Nat->Nat->Int) (w:World) (hf:Rd .u8 w vf nf from_) (hf0:0<nf) (hf1:nf<=1000000) (EH:∀i,i<nf->0<=from_ i/\from_ i<256)
  (hs:s.size<=64) (hc:uq w vc m lens g) (hm:m<=16) (hl:∀j,j<m->lens j<=4000) (hg:∀j,j<m->∀i,i<lens j->0<=g j i/\g j i<256):
  Calls Tryz.prog 120 #[vf,.string s,vc] w fun e w'=>e=.returned (.tuple #[.agg (arr .u8 32 (Gz nf from_ (vg s.size lens m) (CO s.size (pX s) lens g m))),.int .i64 0])/\Below w.heap.size w w':=by
 obtain⟨NN,hNN⟩:∃NN,NN=vg s.size lens:=⟨_,rfl⟩
 obtain⟨FF,Um⟩:∃FF,FF=CO s.size (pX s) lens g:=⟨_,rfl⟩
 have HNB:Hid (NN m<=900000):=by
  unfold Hid;rw[hNN];have h1:=acK (L:=s.size) hl m (bH _);have h2:m * (4+4000)<=16 * (4+4000):=Nat.mul_le_mul_right _ hm;omega
 have HFB:Hid (∀i,i<NN m->0<=FF m i/\FF m i<256):=by rw[hNN,Um];exact OV aH (fun i _=>NV s i) hg m (bH _)
 have HST:Hid (∀e base w v,fH e base w v 2 (kM 1 (fun _=>1) (fun _=>s.size)) (nL 1 (fun _=>fun _=>(s.size:Int)) (fun _=>pX s))->Parts e base w v 0 (NN 0) (FF 0)):=by rw[hNN,Um];exact fun e base w v h=>Parts.start h
 have HSP:Hid (∀e base w' v' k l1 g1,(∀j,j<2+2 * k->∀i,i<l1 j->FF k (dQ l1 j+i)=g1 j i)->dQ l1 (2+2 * k)=NN k->
   fH e base w' v' (2+2 * k+2) (kM (2+2 * k) l1 (kM 1 (fun _=>4) (fun _=>lens k))) (nL (2+2 * k) g1 (nL 1 (fun _=>KA (lens k)) (fun _=>g k)))->Parts e base w' v' (k+1) (NN (k+1)) (FF (k+1))):=by
  rw[hNN,Um];exact fun e base w' v' k l1 g1 h1 h2 h3=>Parts.step (w:=w') (v:=v') h1 h2 h3
 obtain⟨TG,hTG⟩:∃TG,TG=Gz nf from_ (NN m) (FF m):=⟨_,rfl⟩
 have aqG:Hid (∀vp mm l1 g1 w,Rd .u8 w vf nf from_->uq w vp mm l1 g1->mm<=1000000->(∀j,j<mm->∀i,i<l1 j->FF m (dQ l1 j+i)=g1 j i)->dQ l1 mm=NN m->
   Calls Tryz.prog 177 #[vf,vp] w fun e w'=>e=.returned (.agg (arr .u8 64 TG))/\Below w.heap.size w w'):=by
  rw[hTG];exact fun vp mm l1 g1 w h1 h2 h3 h4 h5=>Zz vf nf from_ vp mm l1 g1 (NN m) (FF m) w h1 hf1 EH h2 h3 h4 h5 HNB.out HFB.out
 have HHL:=ay (fun w h=>LV vc m lens g w h (fun j hj=>by have:=hl j hj;omega));have e1:Gz nf from_ (vg s.size lens m) (CO s.size (pX s) lens g m)=TG:=by rw[hTG,hNN,Um]
 rw[e1];obtain⟨L,hL⟩:∃L,L=s.size:=⟨_,rfl⟩
 have HSL:Hid (s.size=L):=hL.symm;have awJ:L<=64:=by omega
 rw[<-hL] at HST;obtain⟨lab,hlab⟩:∃lab,lab=pX s:=⟨_,rfl⟩
 rw[<-hlab] at HST;have arh:Hid (pX s=lab):=hlab.symm;have HLL:=ay hl;have HFR:=ay hf;have HC:=ay hc;obtain⟨fa,fc,rfl,f1,f2,_,_⟩:=hf;obtain⟨ca,cc,rfl,c1,c2,c3⟩:=hc;have HC3:=ay c3;have hlen:s.size<=64:=hs;clear EH hg hl hNN Um hTG e1 hL hlab c3 hs
 go_enter Tryz.func120,Tryz.ntmps120
 go_upto_region 1 with(fail);refine aJ (fun w1=>aK .u8 w1 w.heap.size 32 (fun _=>0)/\Below w.heap.size w w1/\w1.heap.size=w.heap.size+1) ⟨cB rfl (by rfl),(bT _ _).alloc (bH _) _,by simp⟩ ?_;rintro w1 ⟨hZ,gX,hs1⟩;have amF:=ay (HFR.out.below gX);have Bw:=ay (HC.out.below gX);clear HFR HC;have hnf:((nf:Int)==0)=false:=by simp;omega
 go_upto_region 4 with(fail)
 refine bC (n:=64) aQ aQ aQ rfl
  (fun ii vv _=>(match ii with | 0=>vv=.string s | 1=>vv=.int .i64 ((s.size:Int)) | 2 | 3 | 6 | 7 | 8 | 11 | 12=>vv=.bool false | 4 | 9=>vv=.slice ca m cc | 5=>vv=.int .i64 ((m:Int)) | 10=>vv=.func (.func 175) #[] #[] | _=>True))
  (fun w w'=>Below w.heap.size w w') (fun _ _ h=>h) (fun _ _ _ _ h _=>h) ?_ ?_
 ·refine dG ?_;refine⟨?_,?_,?_,?_,?_,?_,?_,?_,?_,?_,?_,?_,?_,trivial⟩
  ·intro a w2 hB hF hd;exact aN <| aG _ (.inl rfl) aR (hF.same 1 rfl)
  ·intro a w2 hB hF hd;exact aN <| aW (zR rfl (hd 0 _ rfl (aj rfl)) yG) rfl
  ·intro a w2 hB hF hd;exact aN <| aW (Go.bI.QK rfl (hd 1 _ rfl (aj rfl)) rfl) (congrArg Value.bool (decide_eq_false aH))
  ·intro a w2 hB hF hd;exact aN <| aG _ (.inl rfl) aR (hd 2 _ rfl (aj rfl))
  ·intro a w2 hB hF hd;refine aT (aX rfl rfl (hd 3 _ rfl (aj rfl)) rfl) ?_;exact aG _ (.inl rfl) aR (hF.same 2 rfl)
  ·intro a w2 hB hF hd;refine aT (aX rfl rfl (hd 3 _ rfl (aj rfl)) rfl) ?_;exact aW (oH rfl (hd 4 _ rfl (aj rfl)) Tryz.underlying55) rfl
  ·intro a w2 hB hF hd;refine aT (aX rfl rfl (hd 3 _ rfl (aj rfl)) rfl) ?_;exact aW (Go.bI.QK rfl (hd 5 _ rfl (aj rfl)) rfl) (congrArg Value.bool (decide_eq_false aH))
  ·intro a w2 hB hF hd;exact aN <| aW (jN rfl (hd 3 _ rfl (aj rfl))) ((hd 6 _ rfl (aj rfl)))
  ·intro a w2 hB hF hd;exact aN <| aG _ (.inl rfl) aR (hd 7 _ rfl (aj rfl))
  ·intro a w2 hB hF hd;refine aT (aX rfl rfl (hd 8 _ rfl (aj rfl)) rfl) ?_;exact aG _ (.inl rfl) aR (hF.same 2 rfl)
  ·intro a w2 hB hF hd;refine aT (aX rfl rfl (hd 8 _ rfl (aj rfl)) rfl) ?_;exact aG _ (.inl rfl) aR (hF.same 8 rfl)
  ·intro a w2 hB hF hd;refine aT (aX rfl rfl (hd 8 _ rfl (aj rfl)) rfl) ?_;refine aI _ _ _ rfl Tryz.call176 _ (args2 (hd 9 _ rfl (aj rfl)) (hd 10 _ rfl (aj rfl))) aR ((HHL.out _ (Bw.out.below hB)).mono ?_);rintro e w3 ⟨rfl,hb⟩;exact⟨_,rfl,rfl,hb⟩
  ·intro a w2 hB hF hd;exact aN <| aW (jN rfl (hd 8 _ rfl (aj rfl))) ((hd 11 _ rfl (aj rfl)))
 ·intro a wz hB hF hS;have ha:=aO rfl rfl hF [_,_,_,_,_,_,_,_,_,_,_,_,_] rfl ⟨hS 0 _ rfl,hS 1 _ rfl,hS 2 _ rfl,hS 3 _ rfl,hS 4 _ rfl,hS 5 _ rfl,hS 6 _ rfl,hS 7 _ rfl,hS 8 _ rfl,hS 9 _ rfl,hS 10 _ rfl,hS 11 _ rfl,hS 12 _ rfl,trivial⟩;simp only[puts,Act.put,fB,fD,fF] at ha;subst ha;clear hS hF;have fO:=gX.trans (hB.mono gX.size);have jG:=hZ.kept hB;have amE:=ay (amF.out.below hB);have Jq:=ay (Bw.out.below hB);have U35:Hid (IntKind.u8.wrap (s.size:Int)=(L:Int)):=by unfold Hid;rw[HSL.out,IntKind.wrap_u8];omega
  clear hZ hs1 hB amF Bw HHL gX;go_upto_region 6 with(fail)
  refine bC (n:=64) aQ aQ aQ rfl
   (fun ii vv ww=>(match ii with | 0 | 4=>vv=.string s | 1=>vv=.int .i64 ((s.size:Int)) | 2=>vv=.int .u8 ((L:Int)) | _=>True)/\(ii=3->Rd .u8 ww vv 1 (fun _=>(L:Int)))/\(ii=5->Rd .u8 ww vv L (lab))/\(ii=6->fH 23 wz.heap.size ww vv 2 (kM 1 (fun _=>1) (fun _=>L)) (nL 1 (fun _=>fun _=>(L:Int)) (fun _=>lab)))/\(ii=7->fH 23 wz.heap.size ww vv 2 (kM 1 (fun _=>1) (fun _=>L)) (nL 1 (fun _=>fun _=>(L:Int)) (fun _=>lab))))
   (fun w w'=>Below w.heap.size w w') (fun _ _ h=>h) (fun i v w w' h hE=>⟨h.1,fun e=>Rd.below (h.2.1 e) hE,fun e=>Rd.below (h.2.2.1 e) hE,fun e=>fH.below (h.2.2.2.1 e) hE,fun e=>fH.below (h.2.2.2.2 e) hE⟩) ?_ ?_
  ·refine dG ?_;refine⟨?_,?_,?_,?_,?_,?_,?_,?_,trivial⟩
   ·intro a w2 hB hF hd;exact aN <| aG _ (.inl rfl) aR ⟨(hF.same 1 rfl),aP,aP,aP,aP⟩
   ·intro a w2 hB hF hd;exact aN <| aW (zR rfl ((hd 0 _ rfl (aj rfl)).1) yG) ⟨rfl,aP,aP,aP,aP⟩
   ·intro a w2 hB hF hd;exact aN <| aW (sV rfl ((hd 1 _ rfl (aj rfl)).1) Tryz.underlying3 Tryz.underlying5) ⟨(congrArg (Value.int .u8) (U35.out)),aP,aP,aP,aP⟩
   ·intro a w2 hB hF hd;exact aN <| oC 23 5 1 _ [.int .u8 ((L:Int))] rfl mo aQ aQ rfl aM aM (by intro v hv;simp only[List.mem_cons,List.not_mem_nil,or_false] at hv;rcases hv with rfl<;> rfl) (by simp only[vT,List.map_cons,List.map_nil,show a.eval (Operand.tmp 35)=.int .u8 ((L:Int)) from((hd 2 _ rfl (aj rfl)).1)];rfl) aR ⟨trivial,fun _=>(Ii),aP,aP,aP⟩
   ·intro a w2 hB hF hd;exact aN <| aG _ (.inl rfl) aR ⟨(hF.same 1 rfl),aP,aP,aP,aP⟩
   ·intro a w2 hB hF hd;refine aN <| EI (e:=5) (fun h=>by cases h) rfl ((hd 4 _ rfl (aj rfl)).1) yG mo Tryz.underlying5 aH ?_;intro vq wq hq;rw[HSL.out,arh.out] at hq;exact⟨trivial,aP,fun _=>hq,aP,aP⟩
   ·intro a w2 hB hF hd;exact aN <| oC 55 23 2 _ [a.eval (Operand.tmp 36),a.eval (Operand.tmp 38)] rfl Tryz.underlying55 aQ aQ rfl aM aM (by intro v hv;simp only[List.mem_cons,List.not_mem_nil,or_false] at hv;rcases hv with rfl | rfl;exact Rd.IY ((hd 3 _ rfl (aj rfl)).2.1 rfl);exact Rd.IY ((hd 5 _ rfl (aj rfl)).2.2.1 rfl)) (by simp only[vT,List.map_cons,List.map_nil];rfl) aR ⟨trivial,aP,aP,fun _=>(fH.agh hB.size ((hd 3 _ rfl (aj rfl)).2.1 rfl) ((hd 5 _ rfl (aj rfl)).2.2.1 rfl)),aP⟩
   ·intro a w2 hB hF hd;exact aN <| aG _ (.inr rfl) aR ⟨trivial,aP,aP,aP,fun _=>((hd 6 _ rfl (aj rfl)).2.2.2.1 rfl)⟩
  ·intro a w3 hB hF hS;obtain⟨x36,OX⟩:∃x,x=a.tmps.getD 36 undef:=⟨_,rfl⟩
   have P36:Rd .u8 w3 x36 1 (fun _=>(L:Int)):=by rw[OX];exact(hS 3 _ rfl).2.1 rfl
   obtain⟨x38,hx38⟩:∃x,x=a.tmps.getD 38 undef:=⟨_,rfl⟩
   have P38:Rd .u8 w3 x38 L (lab):=by rw[hx38];exact(hS 5 _ rfl).2.2.1 rfl
   obtain⟨x39,hx39⟩:∃x,x=a.tmps.getD 39 undef:=⟨_,rfl⟩
   have P39:fH 23 wz.heap.size w3 x39 2 (kM 1 (fun _=>1) (fun _=>L)) (nL 1 (fun _=>fun _=>(L:Int)) (fun _=>lab)):=by rw[hx39];exact(hS 6 _ rfl).2.2.2.1 rfl
   obtain⟨x9,hx9⟩:∃x,x=a.tmps.getD 9 undef:=⟨_,rfl⟩
   have P9:fH 23 wz.heap.size w3 x9 2 (kM 1 (fun _=>1) (fun _=>L)) (nL 1 (fun _=>fun _=>(L:Int)) (fun _=>lab)):=by rw[hx9];exact(hS 7 _ rfl).2.2.2.2 rfl
   have ha:=aO rfl rfl hF [_,_,_,x36,_,x38,x39,x9] rfl ⟨(hS 0 _ rfl).1,(hS 1 _ rfl).1,(hS 2 _ rfl).1,OX.symm,(hS 4 _ rfl).1,hx38.symm,hx39.symm,hx9.symm,trivial⟩;simp only[puts,Act.put,fB,fD,fF] at ha;subst ha;clear OX hx38 hx39 hx9;clear hS hF;have hwz:=fO.size;have hP3:=HST.out _ _ _ _ P9;have hBz:=hB;clear hB P9 P39 P38 P36 U35 HST;go_wp2
   go_loopw [9,42] (fun v i wr=> ∃k:Nat,k<=m/\i=.int .i64 (k:Int)/\Parts 23 wz.heap.size wr v k (NN k) (FF k)/\Below wz.heap.size wz wr) (fun _ i _=>m - (intOf i).toNat)
   case atStart=>exact⟨0,jm _,rfl,hP3,hBz⟩
   case round=>
    clear hP3 hBz;obtain⟨k,hk,rfl,⟨l1,g1,ho,LM,ael⟩,hbz⟩:=hrel;have aD:=fO.trans (hbz.mono hwz);have akq:=hbz.size;have HO:=ay ho;have HFL:=ay LM;have VU:=ay ael;clear ho LM ael;by_cases hlt:k<m
    ·obtain⟨tb,to,rfl,tlt,sJ⟩:=HC3.out aH;obtain⟨u,hu,Uh⟩:=sJ k hlt;have e1:=(aD.cell (p:=⟨tb,to+k,none⟩) tlt).trans hu;have HRU:=ay (Uh.below aD);have hin:=ay (fun hp=>Uh.in hp);obtain⟨ua,uc,rfl,u1,u2,_,_⟩:=Uh;have hlk:=HLL.out k hlt;obtain⟨n,hn⟩:∃n,n=lens k:=⟨_,rfl⟩
     rw[<-hn] at HRU hin e1 u1 hlk;have HN:=ay hn;have h5:((n:Int) / 2 ^ (8 * 4) !=0)=false:=by
      have:(n:Int) / 2 ^ (8 * 4)=0:=Zqh aH aH;rw[this];rfl
     have ama:=ay (fun w=>Oh (n:Int) 4 w aM aM aH aH (fun _=>h5));clear sJ hu hn h5;go_wp2_with fail;refine(ama.out _).mono ?_;rintro e w5 ⟨nv,rfl,hon,lW⟩;have agR:=hbz.trans (lW.mono akq);have HO5:=ay (HO.out.below lW);have alX:=ay (HRU.out.below lW);have HNV:=ay hon.rd;have hs5:=agR.size;have awh:=lW.size;obtain⟨ng,nc,rfl,hng,_⟩:=hon.form aM;have amH:Hid (∀j,j<2->0<kM 1 (fun _=>4) (fun _=>n) j->(if j=0 then Value.slice (some ⟨ng,0,none⟩) 4 nc else .slice ua n uc).ownBlock≠u9.ownBlock):=by
      intro j hj hp he;rcases(by omega:j=0\/j=1) with rfl | rfl
      ·have:=HO.out.block ng (by rw[<-he];rfl);omega
      ·obtain⟨b,hb,hlt'⟩:=hin.out hp;have:=HO.out.block b (by rw[<-he];exact hb);omega
     have HOA:=ay (HO5.out.below ((bT w5.heap.size w5).alloc (bH _) (.cells #[.slice (some ⟨ng,0,none⟩) 4 nc,.slice ua n uc] 23)));have HTU:=ay (DR.agh (e:=23) HNV.out alX.out);clear hon lW HO5 HNV alX hin ama e1 HRU;go_wp2_with (at_builtin;refine DC rfl _ _ 55 rfl wz.heap.size 23 24 Tryz.undTxt Tryz.infoTxt _ (2+2 * k) l1 g1 HOA.out rfl _ 2 _ _ _ HTU.out amH.out rfl aH aH iU ?_;intro v6 w6 hown6 akI aps apd);have hP6:=HSP.out _ _ _ _ k l1 g1 HFL.out VU.out (by rw[<-HN.out];exact hown6);have akS:Below wz.heap.size wz w6:=(agR.alloc hs5 _).grown akI iU (fun b hb=>(HO.out.block b hb).1);clear hown6 akI aps apd HOA HTU amH agR;go_wp2;go_roundw
     case rel=>first | exact⟨k+1,by omega,by go_num,hP6,akS⟩ | ((repeat apply Exists.intro);exact⟨⟨k+1,by omega,by go_num,hP6,akS⟩,rfl⟩)
     case measure=>simp[intOf] <;> omega
    ·obtain rfl:k=m:=by omega
     have hZr:=jG.below hbz jG.lt;have HTX:=ay HO.out.txt;have amD:=ay (amE.out.below hbz);clear hbz akq amE Jq;go_wp2_with fail;refine(aqG.out _ _ _ _ _ amD.out HTX.out aH HFL.out VU.out).mono ?_;rintro e w5 ⟨rfl,lW⟩;have gQ:=aD.trans (lW.mono aD.size);have qF:=hZr.kept lW;have hzl:=qF.lt;clear aD lW hZr HTX amD HO HFL VU;go_upto_region 14 with(refine aL rfl 47 _ _ rfl .u8 w5.heap.size 64 (fun _=>0) TG Tryz.size47 rfl rfl (cB rfl (by rfl)) ?_)
     refine aJ (fun w6=>aK .u8 w6 w5.heap.size 64 TG/\aK .u8 w6 w.heap.size 32 (fun _=>0)/\Below w.heap.size w w6)
      ⟨(cB rfl (by rfl):aK .u8 _ _ 64 (fun _=>0)).setRow _ _,aK.aC (aK.alloc qF _) _ aH _,aB (gQ.alloc gQ.size _) gQ.size _⟩ ?_
     rintro w6 ⟨VP,zm,tQ⟩;obtain⟨q,hq⟩:∃q,q=w5.heap.size:=⟨_,rfl⟩
     rw[<-hq] at VP ⊢;have VL:=VP.lt;have HC6:Hid (∀i,i<32->w6.cell? ⟨q,0+i,none⟩=some (.int .u8 (TG i))):=fun i hi=>by rw[qY];exact VP.cell i aH
     clear hq qF gQ VP;simp only[Act.put]
     refine pK (n:=64) 3 aM aQ aQ aQ aQ rfl
      (fun ii vv _=>(match ii with | 0=>vv=.slice (some ⟨q,0,none⟩) 32 64 | 1=>vv=.pointer (some ⟨q,0,none⟩) | 2=>vv=.agg (arr .u8 32 (TG)) | _=>True))
      (fun _ _ _ _ h _=>h) ?_ ?_
     ·refine dG ?_;refine⟨?_,?_,?_,(aP),(aP),trivial⟩
      ·intro _ a w2 hB hF hd;exact aN <| aW (dY rfl (hF.same 14 rfl) (by simp only[Option.map_some,Option.map_none];exact lF (m:=32) Tryz.underlying47 Tryz.size5 aM)) rfl
      ·intro _ a w2 hB hF hd;exact aN <| aW (lD rfl (hd 0 _ rfl (aj rfl)) iL aM) rfl
      ·intro _ a w2 hB hF hd;exact aN <| aW (kJ rfl (hd 1 _ rfl (aj rfl)) iL fZ (fun i hi=>(hB.cell (p:=⟨q,0+i,none⟩) VL).trans (HC6.out i hi))) rfl
     ·intro a w7 hB hF hS;have ha:=aO rfl rfl hF [_,_,_] rfl ⟨hS 0 _ rfl aM,hS 1 _ rfl aM,hS 2 _ rfl aM,trivial⟩;simp only[puts,List.take_succ_cons,List.take_zero,Act.put,fB,fD,fF] at ha;subst ha;change tl _ _ _ (_::_:: []) _ _;clear hS hF;have Rv:=zm.kept hB;have YN:=tQ.trans (hB.mono tQ.size);refine rz rfl (bG 22 _ _ rfl .u8 w.heap.size 32 (fun _=>0) TG fZ rfl rfl Rv ?_);refine AZ rfl _ (.inr rfl) (BP ?_);have VN:=Rv.setRow 32 TG;have Ru:=aB YN (bH _) (arr .u8 32 TG);clear zm tQ Rv YN hB;simp only[Act.put,Act.eval,fB,fD,fF];go_wp2;exact bodyPost_ret (gZ rfl _ _ .u8 w.heap.size 32 _ 5 rfl VN iL fZ) rfl ⟨rfl,Ru⟩
end Go.Proofs.YtpcjekgfnfjbpaaGreat
