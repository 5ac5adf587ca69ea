/-
  Part 51 of EscrowTake. Conditions: named in each theorem.
-/
import Derived.Test.YtpcjekgfnfjbpaaGreatPkEscrowTake39
import Derived.Test.YtpcjekgfnfjbpaaGreatPkEscrowTake50
set_option linter.unusedVariables false
set_option linter.unusedSimpArgs false
set_option maxRecDepth 100000
set_option maxHeartbeats 6400000
namespace Go.aZ
open Go.RowKit
theorem Ao {P:Program} {w:World} {ops:Array Oper} {rest:List Oper} {o:Oper} {a:Act} {Q:Exit->Act->World->Prop} (hg:o.guard=none)
  (s x:Operand) (t:TypeId) (hop:o.op=.call { callee:=.builtin .append,args:=#[s,x],argTypes:=#[t,t] })
  (base:Nat) (e:TypeId) (bytes:Nat) (h1:P.underlying t=some (.slice e)) (hinfo:(P.info? e).map (fun i=> (i.zero,i.size,i.bytes))=some (some (.slice none 0 0),1,bytes))
  (v:Value) (m:Nat) (lens:Nat->Nat) (g:Nat->Nat->Int) (hown:dV e base w v m lens g) (hs:a.eval s=v)
  (u:Value) (m2:Nat) (Ms:Nat->Value) (uK:Nat->Nat) (g2:Nat->Nat->Int) (htx:Av w u m2 Ms uK g2) (Le:∀j,j<m2->0<uK j->(Ms j).ownBlock≠v.ownBlock) (hx:a.eval x=u)
  (b2:(m+m2) * bytes<=140737488355328) (b3:m+m2<=140737488355328) (b4:base<=w.heap.size)
  (hK:∀v' w',dV e base w' v' (m+m2) (jy m lens uK) (lG m g g2)->w.grownBy w' v.ownBlock->(∀b,v'.ownBlock=some b->base<=b)->Placed w v v'->wpList P ops Q rest (a.put o.dst v') w'):
  wpList P ops Q (o::rest) a w:=
 wpList_plain hg fun _ hK'=> AY s x t hop base e bytes h1 hinfo v m lens g hown hs u m2 Ms uK g2 htx Le hx b2 b3 b4 fun v' w' q1 q2 q3 q4=> hK' _ _ (hK v' w' q1 q2 q3 q4)
theorem IY {P:Program} {w:World} {ops:Array Oper} {rest:List Oper} {o:Oper} {a:Act} {Q:Exit->Act->World->Prop} (hg:o.guard=none) (d s:Operand) (dT sT:TypeId) (ho:o.op=.call { callee:=.builtin .copy,args:=#[d,s],argTypes:=#[dT,sT] }) {e:TypeId} {k:IntKind} (g off dLen dCap n:Nat) (f:Nat->Int) (hu:P.underlying dT=some (.slice e)) (hsz:(P.info? e).map (·.size)=some 1)
  (hd:a.eval d=.slice (some ⟨g,off,none⟩) dLen dCap) (hA:aF k w g n f) (u:Value) (m:Nat) (h:Nat->Int) (hr:Rd k w u m h) (hs:a.eval s=u) (hm:m<=dLen) (hf:off+m<=n)
  (hK:wpList P ops Q rest (a.put o.dst (goInt m)) (w.setRow g (arr k n (laid f off m h)))):wpList P ops Q (o::rest) a w:=
 wpList_plain hg fun _ hK'=> kW d s dT sT ho g off dLen dCap n f hu hsz hd hA u m h hr hs hm hf (hK' _ _ hK)
theorem abe {w w':World} {v u:Value} {n m:Nat} {f g:Nat->Int} {T:TypeId} (h:Rd .u8 w v n f) (h':Rd .u8 w u m g) (hb:Below w.heap.size w w'):
  qM (w'.alloc (.cells [v,u].toArray T)) (.slice (some ⟨w'.heap.size,0,none⟩) 2 2) 2 (jy 1 (fun _=> n) (fun _=> m)) (lG 1 (fun _=> f) (fun _=> g)):=
 qM.new (by decide) fun j hj=> by
  rcases (by omega:j=0\/j=1) with rfl | rfl
  ·exact ⟨v,rfl,h.below hb⟩
  ·exact ⟨u,rfl,h'.below hb⟩
end Go.aZ
namespace Go.Proofs.YtpcjekgfnfjbpaaGreat
open Go.RowKit Go.aZ
attribute [local go_sem ↓] Go.wp_at_zero Go.wp_at_succ
theorem Tryz.infoTxt:(Tryz.prog.info? 23).map (fun i=> (i.zero,i.size,i.bytes))=some (some (.slice none 0 0),1,24):=by kernel_rfl
theorem Tryz.undTxt:Tryz.prog.underlying 55=some (.slice 23):=by kernel_rfl
theorem wJ (v:Value) (a m n:Nat) (lens:Nat->Nat) (f F:Nat->Int) (g:Nat->Nat->Int) (w:World) (hv:qM w v (1+m) (jy 1 (fun _=> a) lens) (lG 1 (fun _=> f) g)) (hg:∀j,j<m->∀i,i<lens j->F (dA lens j+i)=g j i) (hn:dA lens m=n) (hl:a+n<=1000000)
  (hf:∀i,i<a->0<=f i/\f i<256) (hF:∀i,i<n->0<=F i/\F i<256):
  Calls Tryz.prog 139 #[v] w fun e w'=> e=.returned (.agg (arr .u8 64 (oK (a+n) (lH a f F))))/\Below w.heap.size w w':=by
 have h1:dA (fun _=> a) 1=a:=by simp [dA]
 have h2:=rA (F1:=f) (F2:=F) (zY (f:=f) (n:=a)).1 hg;rw [h1] at h2;exact Dt v (1+m) _ _ (a+n) _ w hv h2 (by rw [qm,h1,hn]) hl (kH hf hF)
theorem IQ (v:Value) (n:Nat) (key:Nat->Int) (c:Int) (w:World) (hv:Rd .u8 w v n key) (hn:n<=1000000) (hk:∀i,i<n->0<=key i/\key i<256) (hc:0<=c/\c<256):
  Calls Tryz.prog 227 #[v,.int .u8 c] w fun e w'=> ∃u,e=.returned u/\Rd .u8 w' u 128 (GQ n key c)/\Below w.heap.size w w':=by
 obtain ⟨PK,hPK⟩:∃PK,PK=GQ n key c:=⟨_,rfl⟩
 have HK:=ak hk;have HKB:Hid (∀i,0<=Bw n key i/\Bw n key i<256):=KW hk;have HPK:Hid (∀i,bits .xor .u8 (Bw n key i) c=PK i):=by rw [hPK];exact fun i=> rfl
 obtain ⟨KK,hKK⟩:∃KK,KK=Bw n key:=⟨_,rfl⟩
 have HK1:Hid (128<n->∀i,i<128->laid (fun _=> 0) 0 64 (oK n key) i=KK i):=by
  rw [hKK];intro h i hi;unfold laid Bw;rw [if_pos h];by_cases q:i<64
  ·rw [if_pos (by omega),if_pos q,Nat.sub_zero]
  ·rw [if_neg (by omega),if_neg q]
 have HK2:Hid (¬ 128<n->∀i,i<128->laid (fun _=> 0) 0 n key i=KK i):=by
  rw [hKK];intro h i hi;unfold laid Bw;rw [if_neg h];by_cases q:i<n
  ·rw [if_pos (by omega),if_pos q,Nat.sub_zero]
  ·rw [if_neg (by omega),if_neg q]
 rw [<-hPK];rw [<-hKK] at HKB HPK;have HV:=ak hv;have HS:=ak (fun v w (h:qM w v 1 (fun _=> n) (fun _=> key))=> Rs v n key w h hn hk);obtain ⟨va,vc,rfl,v1,v2,_,_⟩:=hv;obtain ⟨c0,c1⟩:=hc;clear hk hPK hKK;by_cases hlong:128<n
 case' pos=>
  go_enter Tryz.func227,Tryz.ntmps227
  go_wp2_with fail;refine (HS.out _ _ (new1 (T:=23) HV.out (bN _ _))).mono ?_;rintro e w1 ⟨rfl,hb1⟩;have gP:Below w.heap.size w w1:=((bN w.heap.size w).alloc (bA _) _).trans (hb1.mono (by simp));clear hb1;go_upto_region 3 with (refine aG rfl 47 _ _ rfl .u8 w1.heap.size 64 (fun _=> 0) _ Tryz.size47 rfl rfl (bM rfl (by rfl)) ?_);refine aD (fun w2=> aF .u8 w2 w1.heap.size 64 (oK n key)/\Below w.heap.size w w2) ⟨(bM rfl (by rfl):aF .u8 _ _ 64 (fun _=> 0)).setRow _ _,ay (gP.alloc gP.size _) gP.size _⟩ ?_;rintro w2 ⟨hA,hb2⟩;obtain ⟨q,hq⟩:∃q,q=w1.heap.size:=⟨_,rfl⟩
  rw [<-hq] at hA ⊢;clear hq gP;simp only [Act.put];go_upto_region 3 with (fail)
  refine aT (n:=33) (by kernel_rfl) (by kernel_rfl) (by kernel_rfl) rfl
   (fun ii vv _=> (match ii with | 0 | 1=> vv=.slice (some ⟨q,0,none⟩) 64 64 | _=> True))
   (fun w w'=> Below w.heap.size w w') (fun _ _ h=> h) (fun _ _ _ _ h _=> h) ?_ ?_
  ·refine cO ?_;refine ⟨?_,?_,trivial⟩
   ·intro a w2 hB hF hd;exact aH <| aP (fF rfl (hF.same 5 rfl) Tryz.underlying47 (by kernel_rfl)) rfl
   ·intro a w2 hB hF hd;exact aH <| mH rfl (hd 0 _ rfl (aj rfl))
  ·intro a w3 hB hF hS;have ha:=aI rfl rfl hF [_,_] rfl ⟨hS 0 _ rfl,hS 1 _ rfl,trivial⟩;simp only [puts,Act.put,dQ,dR,dS] at ha;subst ha;clear hS hF;have hb3:=hb2.trans (hB.mono hb2.size);have hs3:=hb3.size;have HKV:Hid (Rd .u8 w3 (.slice (some ⟨q,0,none⟩) 64 64) 64 (oK n key)):=(hA.kept hB).rd (by decide);have HL:Hid (∀i,i<128->laid (fun _=> 0) 0 64 (oK n key) i=KK i):=HK1.out hlong;obtain ⟨k0,hk0⟩:∃k0,k0=oK n key:=⟨_,rfl⟩
   rw [<-hk0] at HKV HL;clear hA hb2 hB hk0
   go_upto_region 6 with (first
    | (refine ru rfl _ _ 23 rfl w.heap.size 5 .u8 1 jI vB .i64 .i64 128 rfl rfl (by decide) (by decide) hb3.size ?_;intro w4 hown hgrow;have vU:=hown.rows.arr;have Ue:=HKV.out.below (fU (bN w3.heap.size w3) hgrow (bA _)))
    | (refine IY rfl _ _ 23 23 rfl (e:=5) (k:=.u8) w3.heap.size 0 128 128 128 (fun _=> 0) jI Tryz.size5 rfl vU _ 64 k0 Ue rfl (by omega) (by omega) ?_))
   refine aD (fun w5=> aF .u8 w5 w3.heap.size 128 KK/\Below w.heap.size w w5) ⟨(vU.setRow _ _).congr HL.out,ay (fU hb3 hgrow hs3) hs3 _⟩ ?_;rintro w5 ⟨sU,hb5⟩;obtain ⟨G,hG⟩:∃G,G=w3.heap.size:=⟨_,rfl⟩
   have hGl:w.heap.size<=G:=by rw [hG];exact hs3
   rw [<-hG] at sU ⊢;clear hG vU Ue hown hgrow HKV HL;simp only [Act.put,dQ,dR,dS];go_wp2
   go_loopw [21] (fun u wr=> ∃i:Nat,i<=128/\u=.int .i64 (i:Int)/\aF .u8 wr G 128 (upto i PK KK)/\Below w.heap.size w wr) (fun u _=> 128 - (intOf u).toNat)
   case atStart=> exact ⟨0,iY _,rfl,by rw [dB];exact sU,hb5⟩
   case round=>
    clear sU hb5;obtain ⟨i,hi,rfl,hA,hbel⟩:=hrel;have HA:=ak hA;clear hA;by_cases hlt:i<128
    ·have e1:=HA.out.cell i hlt;rw [upto_at] at e1;have f1:=HA.out.free i;obtain ⟨x,hx⟩:∃x,x=KK i:=⟨_,rfl⟩
     have x01:=HKB.out i;have hp:=HPK.out i;rw [<-hx] at e1 x01 hp;have HX:=ak hx;obtain ⟨x0,x1⟩:=x01;clear hx;go_wp2;go_roundw
     case rel=> exact ⟨i+1,by omega,by go_num,by rw [<-bR (j:=i) (g:=PK) (f:=KK) rfl];exact HA.out.set i _,hbel.setCell hGl _⟩
     case measure=> simp [intOf] <;> omega
    ·obtain rfl:i=128:=by omega
     have hR:=(HA.out.congr (g:=PK) (dY PK KK (bA _))).rd (by decide);clear HA;go_wp2;go_ret;exact ⟨_,rfl,hR,hbel⟩
 case' neg=>
  go_enter Tryz.func227,Tryz.ntmps227
  have alW:n<=128:=by omega
  have HKV:=HV;have HL:Hid (∀i,i<128->laid (fun _=> 0) 0 n key i=KK i):=HK2.out hlong
  go_upto_region 6 with (first
   | (refine ru rfl _ _ 23 rfl w.heap.size 5 .u8 1 jI vB .i64 .i64 128 rfl rfl (by decide) (by decide) (bA _) ?_;intro w4 hown hgrow;have vU:=hown.rows.arr;have Ue:=HKV.out.below (fU (bN w.heap.size w) hgrow (bA _)))
   | (refine IY rfl _ _ 23 23 rfl (e:=5) (k:=.u8) w.heap.size 0 128 128 128 (fun _=> 0) jI Tryz.size5 rfl vU _ n key Ue rfl (by omega) (by omega) ?_))
  refine aD (fun w5=> aF .u8 w5 w.heap.size 128 KK/\Below w.heap.size w w5) ⟨(vU.setRow _ _).congr HL.out,ay (fU (bN _ _) hgrow (bA _)) (bA _) _⟩ ?_;rintro w5 ⟨sU,hb5⟩;obtain ⟨G,hG⟩:∃G,G=w.heap.size:=⟨_,rfl⟩
  have hGl:w.heap.size<=G:=by rw [hG];exact (bA _)
  rw [<-hG] at sU ⊢;clear hG vU Ue hown hgrow HKV HL;simp only [Act.put,dQ,dR,dS];go_wp2
  go_loopw [21] (fun u wr=> ∃i:Nat,i<=128/\u=.int .i64 (i:Int)/\aF .u8 wr G 128 (upto i PK KK)/\Below w.heap.size w wr) (fun u _=> 128 - (intOf u).toNat)
  case atStart=> exact ⟨0,iY _,rfl,by rw [dB];exact sU,hb5⟩
  case round=>
   clear sU hb5;obtain ⟨i,hi,rfl,hA,hbel⟩:=hrel;have HA:=ak hA;clear hA;by_cases hlt:i<128
   ·have e1:=HA.out.cell i hlt;rw [upto_at] at e1;have f1:=HA.out.free i;obtain ⟨x,hx⟩:∃x,x=KK i:=⟨_,rfl⟩
    have x01:=HKB.out i;have hp:=HPK.out i;rw [<-hx] at e1 x01 hp;have HX:=ak hx;obtain ⟨x0,x1⟩:=x01;clear hx;go_wp2;go_roundw
    case rel=> exact ⟨i+1,by omega,by go_num,by rw [<-bR (j:=i) (g:=PK) (f:=KK) rfl];exact HA.out.set i _,hbel.setCell hGl _⟩
    case measure=> simp [intOf] <;> omega
   ·obtain rfl:i=128:=by omega
    have hR:=(HA.out.congr (g:=PK) (dY PK KK (bA _))).rd (by decide);clear HA;go_wp2;go_ret;exact ⟨_,rfl,hR,hbel⟩
theorem UR (vk:Value) (nk:Nat) (key:Nat->Int) (vp:Value) (m:Nat) (lens:Nat->Nat) (g:Nat->Nat->Int) (n:Nat) (F:Nat->Int) (w:World) (hv:Rd .u8 w vk nk key) (hk1:nk<=1000000) (hk:∀i,i<nk->0<=key i/\key i<256)
  (hp:qM w vp m lens g) (hm:m<=1000000) (hg:∀j,j<m->∀i,i<lens j->F (dA lens j+i)=g j i) (hn:dA lens m=n) (hn2:n<=900000) (hF:∀i,i<n->0<=F i/\F i<256):
  Calls Tryz.prog 177 #[vk,vp] w fun e w'=> e=.returned (.agg (arr .u8 64 (Dr nk key n F)))/\Below w.heap.size w w':=by
 obtain ⟨K1,hK1⟩:∃K1,K1=GQ nk key 54:=⟨_,rfl⟩
 obtain ⟨K2,hK2⟩:∃K2,K2=GQ nk key 92:=⟨_,rfl⟩
 have HP1:=ak (fun w h=> IQ vk nk key 54 w h hk1 hk (by decide));have ZT:=ak (fun w h=> IQ vk nk key 92 w h hk1 hk (by decide));have HB1:Hid (∀i,i<128->0<=K1 i/\K1 i<256):=by rw [hK1];exact fun i _=> zA _ _ _ i
 have HB2:Hid (∀i,i<128->0<=K2 i/\K2 i<256):=by rw [hK2];exact fun i _=> zA _ _ _ i
 obtain ⟨S1,hS1⟩:∃S1,S1=oK (128+n) (lH 128 K1 F):=⟨_,rfl⟩
 have AA:Hid (∀i,i<64->0<=S1 i/\S1 i<256):=by rw [hS1];exact fun i _=> oJ _ _ i
 obtain ⟨TG,hTG⟩:∃TG,TG=oK (128+64) (lH 128 K2 S1):=⟨_,rfl⟩
 have Jz:=ak (fun v w h=> wJ v 128 m n lens K1 F g w h hg hn (by omega) HB1.out hF);have HS2:=ak (fun v w h=> wJ v 128 1 64 (fun _=> 64) K2 S1 (fun _=> S1) w h (zY (f:=S1) (n:=64)).1 (zY (f:=S1) (n:=64)).2 (by decide) HB2.out AA.out);have e1:Dr nk key n F=TG:=by rw [hTG,hS1,hK1,hK2];rfl
 rw [e1];rw [<-hS1] at Jz;rw [<-hTG] at HS2;rw [<-hK1] at HP1;rw [<-hK2] at ZT;have HV:=ak hv;have HT:=ak hp;obtain ⟨va,vc,rfl,v1,v2,_,_⟩:=hv;obtain ⟨pa,pc,rfl,p1,p2,_⟩:=hp;clear hk hg hn hF hS1 hTG e1 hK1 hK2
 go_enter Tryz.func177,Tryz.ntmps177
 go_upto_region 1 with (fail);refine aD (fun w1=> aF .u8 w1 w.heap.size 64 (fun _=> 0)/\Below w.heap.size w w1/\w1.heap.size=w.heap.size+1) ⟨bM rfl (by rfl),(bN _ _).alloc (bA _) _,by simp⟩ ?_;rintro w1 ⟨hZ,hb1,hs1⟩;have HV1:=ak (HV.out.below hb1);have HT1:=ak (HT.out.below hb1);clear HV HT;go_wp2_with fail;refine (HP1.out _ HV1.out).mono ?_;rintro e w2 ⟨u,rfl,hu,hb2⟩;have hZ2:=hZ.kept hb2;have dG:=hb1.trans (hb2.mono hb1.size);have HV2:=ak (HV1.out.below hb2);obtain ⟨us,hU⟩:=(HT1.out.below hb2).aex;have HU:=ak hU;have HUR:=ak hu;have hs2:=dG.size;clear hZ hb1 hs1 hb2 HV1 HT1 hU hu;obtain ⟨ua,uc,rfl,u1,u2,_,_⟩:=id HUR.out;have hO1:=ak (dV.aiN (e:=23) (bA w2.heap.size) HUR.out);have hU1:=ak (HU.out.below ((bN w2.heap.size w2).alloc (bA _) (.cells #[.slice ua 128 uc] 23)));have hF1:=ak (HU.out.far (u:=.slice (some ⟨w2.heap.size,0,none⟩) 1 1) (by intro b hb;simp [Value.ownBlock] at hb;omega));go_wp2_with (at_builtin;refine Ao rfl _ _ 55 rfl w2.heap.size 23 24 Tryz.undTxt Tryz.infoTxt _ 1 (fun _=> 128) (fun _=> K1) hO1.out rfl _ m us lens g hU1.out hF1.out rfl (by omega) (by omega) (by simp) ?_;intro v3 w3 hown3 abS ajn ajb);have hb3:Below w.heap.size w w3:=(dG.alloc hs2 _).grown abS (by simp;omega) (fun b hb=> by simp [Value.ownBlock] at hb;omega);have hlow:Below w2.heap.size w2 w3:=((bN w2.heap.size w2).alloc (bA _) _).grown abS (by simp) (fun b hb=> by simp [Value.ownBlock] at hb;omega);have YQ:=ak (HV2.out.below hlow);have hZ3:=hZ2.kept hlow;have HT3:=ak hown3.txt;clear hown3 abS ajn ajb hZ2 dG HV2 HU hO1 hU1 hF1 hlow;refine (Jz.out _ _ HT3.out).mono ?_;rintro e w4 ⟨rfl,hb4⟩;have eP:=hb3.trans (hb4.mono hb3.size);have HV4:=ak (YQ.out.below hb4);have oH:=hZ3.kept hb4;have hzl:=oH.lt;clear hb3 hb4 YQ hZ3 HT3;go_upto_region 2 with (refine aG rfl 47 _ _ rfl .u8 w4.heap.size 64 (fun _=> 0) S1 Tryz.size47 rfl rfl (bM rfl (by rfl)) ?_)
 refine aD (fun w5=> aF .u8 w5 w4.heap.size 64 S1/\aF .u8 w5 w.heap.size 64 (fun _=> 0)/\Below w.heap.size w w5/\Rd .u8 w5 (.slice va nk vc) nk key)
  ⟨(bM rfl (by rfl):aF .u8 _ _ 64 (fun _=> 0)).setRow _ _,aF.aA (aF.alloc oH _) _ (by omega) _,ay (eP.alloc eP.size _) eP.size _,HV4.out.below (ay ((bN w4.heap.size w4).alloc (bA _) _) (bA _) _)⟩ ?_
 rintro w5 ⟨sU,nV,hb5,hv5⟩;have HV5:=ak hv5;obtain ⟨q,hq⟩:∃q,q=w4.heap.size:=⟨_,rfl⟩
 rw [<-hq] at sU ⊢;clear hq oH eP hv5 HV4;simp only [Act.put]
 refine jf (n:=17) 5 rfl (by decide) (by kernel_rfl) (by kernel_rfl) (by kernel_rfl) (by kernel_rfl) rfl
  (fun ii vv ww=> (match ii with | 0=> vv=.slice va nk vc | 2=> vv=.slice (some ⟨q,0,none⟩) 64 64 | 4=> vv=.agg (arr .u8 64 (TG)) | _=> True)/\(ii=1->Rd .u8 ww vv 128 (K2))/\(ii=3->qM ww vv 2 (jy 1 (fun _=> 128) (fun _=> 64)) (lG 1 (fun _=> K2) (fun _=> S1))))
  (fun w w'=> Below w.heap.size w w') (fun _ _ h=> h) (fun i v w w' h hE=> ⟨h.1,fun e=> Rd.below (h.2.1 e) hE,fun e=> qM.below (h.2.2 e) hE⟩) rfl ?_ ?_
 ·refine cO ?_;refine ⟨?_,?_,?_,?_,?_,(fun h=> absurd rfl h),trivial⟩
  ·intro _ a w2 hB hF hd;exact aH <| dJ rfl ⟨(hF.same 0 rfl),aJ,aJ⟩
  ·intro _ a w2 hB hF hd;refine aH <| aC _ _ _ rfl Tryz.call227 _ (args2 ((hd 0 _ rfl (aj rfl)).1) rfl) (by simp) ((ZT.out _ (HV5.out.below hB)).mono ?_);rintro e w3 ⟨u,rfl,hr,hb⟩;exact ⟨u,rfl,⟨trivial,fun _=> hr,aJ⟩,hb⟩
  ·intro _ a w2 hB hF hd;exact aH <| aP (fF rfl (hF.same 5 rfl) Tryz.underlying47 (by kernel_rfl)) ⟨rfl,aJ,aJ⟩
  ·intro _ a w2 hB hF hd;exact aH <| mg 55 23 2 _ [a.eval (Operand.tmp 13),.slice (some ⟨q,0,none⟩) 64 64] rfl Tryz.underlying55 (by kernel_rfl) (by kernel_rfl) rfl (by decide) (by decide) (by intro v hv;simp only [List.mem_cons,List.not_mem_nil,or_false] at hv;rcases hv with rfl | rfl;exact Rd.EN ((hd 1 _ rfl (aj rfl)).2.1 rfl);rfl) (by simp only [vg,List.map_cons,List.map_nil,show a.eval (Operand.tmp 14)=.slice (some ⟨q,0,none⟩) 64 64 from ((hd 2 _ rfl (aj rfl)).1)];rfl) (by simp) ⟨trivial,aJ,fun _=> (abe ((hd 1 _ rfl (aj rfl)).2.1 rfl) ((sU.kept hB).rd (by decide)) (bN _ _))⟩
  ·intro _ a w2 hB hF hd;refine aH <| aC _ _ _ rfl Tryz.call139 _ (args1 rfl) (by simp) ((HS2.out _ _ ((hd 3 _ rfl (aj rfl)).2.2 rfl)).mono ?_);rintro e w3 ⟨rfl,hb⟩;exact ⟨_,rfl,⟨rfl,aJ,aJ⟩,hb⟩
 ·intro a w6 hB hF hS;obtain ⟨x13,afh⟩:∃x,x=a.tmps.getD 13 undef:=⟨_,rfl⟩
  obtain ⟨x15,afg⟩:∃x,x=a.tmps.getD 15 undef:=⟨_,rfl⟩
  have ha:=aI rfl rfl hF [_,x13,_,x15,_,undef] rfl ⟨(hS 0 _ rfl (by decide)).1,afh.symm,(hS 2 _ rfl (by decide)).1,afg.symm,(hS 4 _ rfl (by decide)).1,trivial,trivial⟩;simp only [puts,Act.put,dQ,dR,dS] at ha;subst ha;clear afh afg;clear hS hF;have vT:=nV.kept hB;have hb6:=hb5.trans (hB.mono hb5.size);refine aX 47 _ _ rfl .u8 w.heap.size 64 (fun _=> 0) TG Tryz.size47 rfl rfl vT ?_;have Nn:=vT.setRow 64 TG;have Ua:=ay hb6 (bA _) (arr .u8 64 TG);clear nV hb5 sU vT hb6 hB;go_wp2;exact bodyPost_ret (bG rfl _ _ .u8 w.heap.size 64 _ 5 rfl Nn Tryz.underlying47 Tryz.size47) rfl ⟨rfl,Ua⟩
theorem Tk (a:Option Addr) (n c:Nat) (h1:n<=1048576) (w:World):Calls Tryz.prog 175 #[.slice a n c] w fun e w'=> e=.returned (.bool false)/\w=w':=by
 have hl:decide ((1048576:Int)<(n:Int))=false:=decide_eq_false (by omega)
 go_enter Tryz.func175,Tryz.ntmps175
 go_wp2;go_ret;exact ⟨rfl,rfl⟩
theorem Ij (v:Value) (m:Nat) (lens:Nat->Nat) (g:Nat->Nat->Int) (w:World) (hv:qM w v m lens g) (hl:∀j,j<m->lens j<=1048576):
  Calls Tryz.prog 226 #[v,.func (.func 175) #[] #[]] w fun e w'=> e=.returned (.int .i64 (-1))/\w=w':=by
 have HL:=ak hl;obtain ⟨ta,tc,rfl,t1,t2,t3⟩:=hv;have HT3:=ak t3;clear hl t3
 go_enter Tryz.func226,Tryz.ntmps226
 go_wp2
 go_loop [8] (fun i=> ∃k:Nat,k<=m/\i=.int .i64 (k:Int)) (fun i=> m - (intOf i).toNat)
 case atStart=> exact ⟨0,iY _,rfl⟩
 case round=>
  obtain ⟨k,hk,rfl⟩:=hrel;by_cases hlt:k<m
  ·obtain ⟨tb,to,rfl,tlt,pV⟩:=HT3.out (by omega);obtain ⟨u,hu,Po⟩:=pV k hlt;obtain ⟨ua,uc,rfl,_,_,_,_⟩:=Po;have hlk:=HL.out k hlt;clear pV;go_wp2_with fail;refine (Tk _ _ _ hlk _).mono ?_;rintro e w1 ⟨rfl,rfl⟩;go_wp2
   go_round
   case rel=> exact ⟨k+1,by omega,by go_num⟩
   case measure=> simp [intOf];omega
  ·obtain rfl:k=m:=by omega
   go_wp2;go_ret;exact ⟨rfl,rfl⟩
theorem Ir (v:Value) (m:Nat) (lens:Nat->Nat) (g:Nat->Nat->Int) (w:World) (hv:qM w v m lens g) (hl:∀j,j<m->lens j<=1048576):
  Calls Tryz.prog 176 #[v,.func (.func 175) #[] #[]] w fun e w'=> e=.returned (.bool false)/\Below w.heap.size w w':=by
 have H:=ak (Ij v m lens g w hv hl);clear hv hl
 go_enter Tryz.func176,Tryz.ntmps176
 go_wp2_with fail;refine H.out.mono ?_;rintro e w1 ⟨rfl,rfl⟩;go_wp2;go_ret;exact ⟨rfl,bN _ _⟩
theorem IU (vf:Value) (nf:Nat) (from_:Nat->Int) (s:ByteArray) (vc:Value) (m:Nat) (lens:Nat->Nat) (g:Nat->Nat->Int) (w:World) (hf:Rd .u8 w vf nf from_) (hf0:0<nf) (hf1:nf<=1000000) (Ip:∀i,i<nf->0<=from_ i/\from_ i<256)
  (hs:s.size<=64) (hc:qM w vc m lens g) (hm:m<=16) (hl:∀j,j<m->lens j<=4000) (hg:∀j,j<m->∀i,i<lens j->0<=g j i/\g j i<256):
  Calls Tryz.prog 120 #[vf,.string s,vc] w fun e w'=> e=.returned (.tuple #[.agg (arr .u8 32 (Dr nf from_ (rM s.size lens m) (zJ s.size (rH s) lens g m))),.int .i64 0])/\Below w.heap.size w w':=by
 obtain ⟨NN,Zz⟩:∃NN,NN=rM s.size lens:=⟨_,rfl⟩
 obtain ⟨FF,Uf⟩:∃FF,FF=zJ s.size (rH s) lens g:=⟨_,rfl⟩
 have HNB:Hid (NN m<=900000):=by
  unfold Hid;rw [Zz];have h1:=XZ (L:=s.size) hl m (bA _);have h2:m * (4+4000)<=16 * (4+4000):=Nat.mul_le_mul_right _ hm;omega
 have Za:Hid (∀i,i<NN m->0<=FF m i/\FF m i<256):=by rw [Zz,Uf];exact KZ (by omega) (fun i _=> Ki s i) hg m (bA _)
 have HST:Hid (∀e base w v,dV e base w v 2 (jy 1 (fun _=> 1) (fun _=> s.size)) (lG 1 (fun _=> fun _=> (s.size:Int)) (fun _=> rH s))->Parts e base w v 0 (NN 0) (FF 0)):=by rw [Zz,Uf];exact fun e base w v h=> Parts.start h
 have YS:Hid (∀e base w' v' k l1 g1,(∀j,j<2+2 * k->∀i,i<l1 j->FF k (dA l1 j+i)=g1 j i)->dA l1 (2+2 * k)=NN k->
   dV e base w' v' (2+2 * k+2) (jy (2+2 * k) l1 (jy 1 (fun _=> 4) (fun _=> lens k))) (lG (2+2 * k) g1 (lG 1 (fun _=> Gu (lens k)) (fun _=> g k)))->Parts e base w' v' (k+1) (NN (k+1)) (FF (k+1))):=by
  rw [Zz,Uf];exact fun e base w' v' k l1 g1 h1 h2 h3=> Parts.step (w:=w') (v:=v') h1 h2 h3
 obtain ⟨TG,hTG⟩:∃TG,TG=Dr nf from_ (NN m) (FF m):=⟨_,rfl⟩
 have akA:Hid (∀vp mm l1 g1 w,Rd .u8 w vf nf from_->qM w vp mm l1 g1->mm<=1000000->(∀j,j<mm->∀i,i<l1 j->FF m (dA l1 j+i)=g1 j i)->dA l1 mm=NN m->
   Calls Tryz.prog 177 #[vf,vp] w fun e w'=> e=.returned (.agg (arr .u8 64 TG))/\Below w.heap.size w w'):=by
  rw [hTG];exact fun vp mm l1 g1 w h1 h2 h3 h4 h5=> UR vf nf from_ vp mm l1 g1 (NN m) (FF m) w h1 hf1 Ip h2 h3 h4 h5 HNB.out Za.out
 have HHL:=ak (fun w h=> Ir vc m lens g w h (fun j hj=> by have:=hl j hj;omega));have e1:Dr nf from_ (rM s.size lens m) (zJ s.size (rH s) lens g m)=TG:=by rw [hTG,Zz,Uf]
 rw [e1];obtain ⟨L,hL⟩:∃L,L=s.size:=⟨_,rfl⟩
 have HSL:Hid (s.size=L):=hL.symm;have apB:L<=64:=by omega
 rw [<-hL] at HST;obtain ⟨lab,hlab⟩:∃lab,lab=rH s:=⟨_,rfl⟩
 rw [<-hlab] at HST;have akU:Hid (rH s=lab):=hlab.symm;have HLL:=ak hl;have HFR:=ak hf;have HC:=ak hc;obtain ⟨fa,fc,rfl,f1,f2,_,_⟩:=hf;obtain ⟨ca,cc,rfl,c1,c2,c3⟩:=hc;have HC3:=ak c3;have hlen:s.size<=64:=hs;clear Ip hg hl Zz Uf hTG e1 hL hlab c3 hs
 go_enter Tryz.func120,Tryz.ntmps120
 go_upto_region 1 with (fail);refine aD (fun w1=> aF .u8 w1 w.heap.size 32 (fun _=> 0)/\Below w.heap.size w w1/\w1.heap.size=w.heap.size+1) ⟨bM rfl (by rfl),(bN _ _).alloc (bA _) _,by simp⟩ ?_;rintro w1 ⟨hZ,hb1,hs1⟩;have ahg:=ak (HFR.out.below hb1);have yH:=ak (HC.out.below hb1);clear HFR HC;have hnf:((nf:Int)==0)=false:=by simp;omega
 go_upto_region 4 with (fail)
 refine aT (n:=64) (by kernel_rfl) (by kernel_rfl) (by kernel_rfl) rfl
  (fun ii vv _=> (match ii with | 0=> vv=.string s | 1=> vv=.int .i64 ((s.size:Int)) | 2 | 3 | 6 | 7 | 8 | 11 | 12=> vv=.bool false | 4 | 9=> vv=.slice ca m cc | 5=> vv=.int .i64 ((m:Int)) | 10=> vv=.func (.func 175) #[] #[] | _=> True))
  (fun w w'=> Below w.heap.size w w') (fun _ _ h=> h) (fun _ _ _ _ h _=> h) ?_ ?_
 ·refine cO ?_;refine ⟨?_,?_,?_,?_,?_,?_,?_,?_,?_,?_,?_,?_,?_,trivial⟩
  ·intro a w2 hB hF hd;exact aH <| dJ rfl (hF.same 1 rfl)
  ·intro a w2 hB hF hd;exact aH <| aP (wP rfl (hd 0 _ rfl (aj rfl)) Tryz.underlying9) rfl
  ·intro a w2 hB hF hd;exact aH <| aP (Go.aZ.MF rfl (hd 1 _ rfl (aj rfl)) rfl) (congrArg Value.bool (decide_eq_false (by omega)))
  ·intro a w2 hB hF hd;exact aH <| dJ rfl (hd 2 _ rfl (aj rfl))
  ·intro a w2 hB hF hd;refine aK (aL rfl rfl (hd 3 _ rfl (aj rfl)) rfl) ?_;exact dJ rfl (hF.same 2 rfl)
  ·intro a w2 hB hF hd;refine aK (aL rfl rfl (hd 3 _ rfl (aj rfl)) rfl) ?_;exact aP (kE rfl (hd 4 _ rfl (aj rfl)) Tryz.underlying55) rfl
  ·intro a w2 hB hF hd;refine aK (aL rfl rfl (hd 3 _ rfl (aj rfl)) rfl) ?_;exact aP (Go.aZ.MF rfl (hd 5 _ rfl (aj rfl)) rfl) (congrArg Value.bool (decide_eq_false (by omega)))
  ·intro a w2 hB hF hd;exact aH <| aP (eZ rfl (hd 3 _ rfl (aj rfl))) ((hd 6 _ rfl (aj rfl)))
  ·intro a w2 hB hF hd;exact aH <| dJ rfl (hd 7 _ rfl (aj rfl))
  ·intro a w2 hB hF hd;refine aK (aL rfl rfl (hd 8 _ rfl (aj rfl)) rfl) ?_;exact dJ rfl (hF.same 2 rfl)
  ·intro a w2 hB hF hd;refine aK (aL rfl rfl (hd 8 _ rfl (aj rfl)) rfl) ?_;exact dJ rfl (hF.same 8 rfl)
  ·intro a w2 hB hF hd;refine aK (aL rfl rfl (hd 8 _ rfl (aj rfl)) rfl) ?_;refine aC _ _ _ rfl Tryz.call176 _ (args2 (hd 9 _ rfl (aj rfl)) (hd 10 _ rfl (aj rfl))) (by simp) ((HHL.out _ (yH.out.below hB)).mono ?_);rintro e w3 ⟨rfl,hb⟩;exact ⟨_,rfl,rfl,hb⟩
  ·intro a w2 hB hF hd;exact aH <| aP (eZ rfl (hd 8 _ rfl (aj rfl))) ((hd 11 _ rfl (aj rfl)))
 ·intro a wz hB hF hS;have ha:=aI rfl rfl hF [_,_,_,_,_,_,_,_,_,_,_,_,_] rfl ⟨hS 0 _ rfl,hS 1 _ rfl,hS 2 _ rfl,hS 3 _ rfl,hS 4 _ rfl,hS 5 _ rfl,hS 6 _ rfl,hS 7 _ rfl,hS 8 _ rfl,hS 9 _ rfl,hS 10 _ rfl,hS 11 _ rfl,hS 12 _ rfl,trivial⟩;simp only [puts,Act.put,dQ,dR,dS] at ha;subst ha;clear hS hF;have hb2:=hb1.trans (hB.mono hb1.size);have hZ2:=hZ.kept hB;have ahf:=ak (ahg.out.below hB);have Mj:=ak (yH.out.below hB);have U35:Hid (IntKind.u8.wrap (s.size:Int)=(L:Int)):=by unfold Hid;rw [HSL.out,IntKind.wrap_u8];omega
  clear hZ hs1 hB ahg yH HHL hb1;go_upto_region 6 with (fail)
  refine aT (n:=64) (by kernel_rfl) (by kernel_rfl) (by kernel_rfl) rfl
   (fun ii vv ww=> (match ii with | 0 | 4=> vv=.string s | 1=> vv=.int .i64 ((s.size:Int)) | 2=> vv=.int .u8 ((L:Int)) | _=> True)/\(ii=3->Rd .u8 ww vv 1 (fun _=> (L:Int)))/\(ii=5->Rd .u8 ww vv L (lab))/\(ii=6->dV 23 wz.heap.size ww vv 2 (jy 1 (fun _=> 1) (fun _=> L)) (lG 1 (fun _=> fun _=> (L:Int)) (fun _=> lab)))/\(ii=7->dV 23 wz.heap.size ww vv 2 (jy 1 (fun _=> 1) (fun _=> L)) (lG 1 (fun _=> fun _=> (L:Int)) (fun _=> lab))))
   (fun w w'=> Below w.heap.size w w') (fun _ _ h=> h) (fun i v w w' h hE=> ⟨h.1,fun e=> Rd.below (h.2.1 e) hE,fun e=> Rd.below (h.2.2.1 e) hE,fun e=> dV.below (h.2.2.2.1 e) hE,fun e=> dV.below (h.2.2.2.2 e) hE⟩) ?_ ?_
  ·refine cO ?_;refine ⟨?_,?_,?_,?_,?_,?_,?_,?_,trivial⟩
   ·intro a w2 hB hF hd;exact aH <| dJ rfl ⟨(hF.same 1 rfl),aJ,aJ,aJ,aJ⟩
   ·intro a w2 hB hF hd;exact aH <| aP (wP rfl ((hd 0 _ rfl (aj rfl)).1) Tryz.underlying9) ⟨rfl,aJ,aJ,aJ,aJ⟩
   ·intro a w2 hB hF hd;exact aH <| aP (qh rfl ((hd 1 _ rfl (aj rfl)).1) Tryz.underlying3 Tryz.underlying5) ⟨(congrArg (Value.int .u8) (U35.out)),aJ,aJ,aJ,aJ⟩
   ·intro a w2 hB hF hd;exact aH <| mg 23 5 1 _ [.int .u8 ((L:Int))] rfl jI (by kernel_rfl) (by kernel_rfl) rfl (by decide) (by decide) (by intro v hv;simp only [List.mem_cons,List.not_mem_nil,or_false] at hv;rcases hv with rfl<;> rfl) (by simp only [vg,List.map_cons,List.map_nil,show a.eval (Operand.tmp 35)=.int .u8 ((L:Int)) from ((hd 2 _ rfl (aj rfl)).1)];rfl) (by simp) ⟨trivial,fun _=> (En),aJ,aJ,aJ⟩
   ·intro a w2 hB hF hd;exact aH <| dJ rfl ⟨(hF.same 1 rfl),aJ,aJ,aJ,aJ⟩
   ·intro a w2 hB hF hd;refine aH <| BD (e:=5) (fun h=> by cases h) rfl ((hd 4 _ rfl (aj rfl)).1) Tryz.underlying9 jI Tryz.underlying5 (by omega) ?_;intro vq wq hq;rw [HSL.out,akU.out] at hq;exact ⟨trivial,aJ,fun _=> hq,aJ,aJ⟩
   ·intro a w2 hB hF hd;exact aH <| mg 55 23 2 _ [a.eval (Operand.tmp 36),a.eval (Operand.tmp 38)] rfl Tryz.underlying55 (by kernel_rfl) (by kernel_rfl) rfl (by decide) (by decide) (by intro v hv;simp only [List.mem_cons,List.not_mem_nil,or_false] at hv;rcases hv with rfl | rfl;exact Rd.EN ((hd 3 _ rfl (aj rfl)).2.1 rfl);exact Rd.EN ((hd 5 _ rfl (aj rfl)).2.2.1 rfl)) (by simp only [vg,List.map_cons,List.map_nil];rfl) (by simp) ⟨trivial,aJ,aJ,fun _=> (dV.abn hB.size ((hd 3 _ rfl (aj rfl)).2.1 rfl) ((hd 5 _ rfl (aj rfl)).2.2.1 rfl)),aJ⟩
   ·intro a w2 hB hF hd;exact aH <| mH rfl ⟨trivial,aJ,aJ,aJ,fun _=> ((hd 6 _ rfl (aj rfl)).2.2.2.1 rfl)⟩
  ·intro a w3 hB hF hS;obtain ⟨x36,abC⟩:∃x,x=a.tmps.getD 36 undef:=⟨_,rfl⟩
   have P36:Rd .u8 w3 x36 1 (fun _=> (L:Int)):=by rw [abC];exact (hS 3 _ rfl).2.1 rfl
   obtain ⟨x38,hx38⟩:∃x,x=a.tmps.getD 38 undef:=⟨_,rfl⟩
   have P38:Rd .u8 w3 x38 L (lab):=by rw [hx38];exact (hS 5 _ rfl).2.2.1 rfl
   obtain ⟨x39,hx39⟩:∃x,x=a.tmps.getD 39 undef:=⟨_,rfl⟩
   have P39:dV 23 wz.heap.size w3 x39 2 (jy 1 (fun _=> 1) (fun _=> L)) (lG 1 (fun _=> fun _=> (L:Int)) (fun _=> lab)):=by rw [hx39];exact (hS 6 _ rfl).2.2.2.1 rfl
   obtain ⟨x9,hx9⟩:∃x,x=a.tmps.getD 9 undef:=⟨_,rfl⟩
   have P9:dV 23 wz.heap.size w3 x9 2 (jy 1 (fun _=> 1) (fun _=> L)) (lG 1 (fun _=> fun _=> (L:Int)) (fun _=> lab)):=by rw [hx9];exact (hS 7 _ rfl).2.2.2.2 rfl
   have ha:=aI rfl rfl hF [_,_,_,x36,_,x38,x39,x9] rfl ⟨(hS 0 _ rfl).1,(hS 1 _ rfl).1,(hS 2 _ rfl).1,abC.symm,(hS 4 _ rfl).1,hx38.symm,hx39.symm,hx9.symm,trivial⟩;simp only [puts,Act.put,dQ,dR,dS] at ha;subst ha;clear abC hx38 hx39 hx9;clear hS hF;have hwz:=hb2.size;have hP3:=HST.out _ _ _ _ P9;have hBz:=hB;clear hB P9 P39 P38 P36 U35 HST;go_wp2
   go_loopw [9,42] (fun v i wr=> ∃k:Nat,k<=m/\i=.int .i64 (k:Int)/\Parts 23 wz.heap.size wr v k (NN k) (FF k)/\Below wz.heap.size wz wr) (fun _ i _=> m - (intOf i).toNat)
   case atStart=> exact ⟨0,iY _,rfl,hP3,hBz⟩
   case round=>
    clear hP3 hBz;obtain ⟨k,hk,rfl,⟨l1,g1,ho,Im,Zr⟩,hbz⟩:=hrel;have hbel:=hb2.trans (hbz.mono hwz);have afm:=hbz.size;have HO:=ak ho;have HFL:=ak Im;have QJ:=ak Zr;clear ho Im Zr;by_cases hlt:k<m
    ·obtain ⟨tb,to,rfl,tlt,pV⟩:=HC3.out (by omega);obtain ⟨u,hu,Po⟩:=pV k hlt;have e1:=(hbel.cell (p:=⟨tb,to+k,none⟩) tlt).trans hu;have Wh:=ak (Po.below hbel);have hin:=ak (fun hp=> Po.in hp);obtain ⟨ua,uc,rfl,u1,u2,_,_⟩:=Po;have hlk:=HLL.out k hlt;obtain ⟨n,hn⟩:∃n,n=lens k:=⟨_,rfl⟩
     rw [<-hn] at Wh hin e1 u1 hlk;have HN:=ak hn;have h5:((n:Int) / 2 ^ (8 * 4) !=0)=false:=by
      have:(n:Int) / 2 ^ (8 * 4)=0:=Int.ediv_eq_zero_of_lt (by omega) (by omega);rw [this];rfl
     have agN:=ak (fun w=> Kr (n:Int) 4 w (by decide) (by decide) (by omega) (by omega) (fun _=> h5));clear pV hu hn h5;go_wp2_with fail;refine (agN.out _).mono ?_;rintro e w5 ⟨nv,rfl,hon,hb5⟩;have abX:=hbz.trans (hb5.mono afm);have HO5:=ak (HO.out.below hb5);have agJ:=ak (Wh.out.below hb5);have HNV:=ak hon.rd;have hs5:=abX.size;have apg:=hb5.size;obtain ⟨ng,nc,rfl,hng,_⟩:=hon.form (by decide);have ahi:Hid (∀j,j<2->0<jy 1 (fun _=> 4) (fun _=> n) j->(if j=0 then Value.slice (some ⟨ng,0,none⟩) 4 nc else .slice ua n uc).ownBlock≠u9.ownBlock):=by
      intro j hj hp he;rcases (by omega:j=0\/j=1) with rfl | rfl
      ·have:=HO.out.block ng (by rw [<-he];rfl);omega
      ·obtain ⟨b,hb,hlt'⟩:=hin.out hp;have:=HO.out.block b (by rw [<-he];exact hb);omega
     have HOA:=ak (HO5.out.below ((bN w5.heap.size w5).alloc (bA _) (.cells #[.slice (some ⟨ng,0,none⟩) 4 nc,.slice ua n uc] 23)));have HTU:=ak (Av.abn (e:=23) HNV.out agJ.out);clear hon hb5 HO5 HNV agJ hin agN e1 Wh;go_wp2_with (at_builtin;refine Ao rfl _ _ 55 rfl wz.heap.size 23 24 Tryz.undTxt Tryz.infoTxt _ (2+2 * k) l1 g1 HOA.out rfl _ 2 _ _ _ HTU.out ahi.out rfl (by omega) (by omega) (by simp;omega) ?_;intro v6 w6 hown6 afy ajm aja);have hP6:=YS.out _ _ _ _ k l1 g1 HFL.out QJ.out (by rw [<-HN.out];exact hown6);have afH:Below wz.heap.size wz w6:=(abX.alloc hs5 _).grown afy (by simp;omega) (fun b hb=> (HO.out.block b hb).1);clear hown6 afy ajm aja HOA HTU ahi abX;go_wp2;go_roundw
     case rel=> first | exact ⟨k+1,by omega,by go_num,hP6,afH⟩ | ((repeat apply Exists.intro);exact ⟨⟨k+1,by omega,by go_num,hP6,afH⟩,rfl⟩)
     case measure=> simp [intOf] <;> omega
    ·obtain rfl:k=m:=by omega
     have hZr:=hZ2.below hbz hZ2.lt;have HTX:=ak HO.out.txt;have ahe:=ak (ahf.out.below hbz);clear hbz afm ahf Mj;go_wp2_with fail;refine (akA.out _ _ _ _ _ ahe.out HTX.out (by omega) HFL.out QJ.out).mono ?_;rintro e w5 ⟨rfl,hb5⟩;have fM:=hbel.trans (hb5.mono hbel.size);have nV:=hZr.kept hb5;have hzl:=nV.lt;clear hbel hb5 hZr HTX ahe HO HFL QJ;go_upto_region 14 with (refine aG rfl 47 _ _ rfl .u8 w5.heap.size 64 (fun _=> 0) TG Tryz.size47 rfl rfl (bM rfl (by rfl)) ?_)
     refine aD (fun w6=> aF .u8 w6 w5.heap.size 64 TG/\aF .u8 w6 w.heap.size 32 (fun _=> 0)/\Below w.heap.size w w6)
      ⟨(bM rfl (by rfl):aF .u8 _ _ 64 (fun _=> 0)).setRow _ _,aF.aA (aF.alloc nV _) _ (by omega) _,ay (fM.alloc fM.size _) fM.size _⟩ ?_
     rintro w6 ⟨QG,vT,hb6⟩;obtain ⟨q,hq⟩:∃q,q=w5.heap.size:=⟨_,rfl⟩
     rw [<-hq] at QG ⊢;have hql:=QG.lt;have HC6:Hid (∀i,i<32->w6.cell? ⟨q,0+i,none⟩=some (.int .u8 (TG i))):=fun i hi=> by rw [pz];exact QG.cell i (by omega)
     clear hq nV fM QG;simp only [Act.put]
     refine wS (n:=64) 3 (by decide) (by kernel_rfl) (by kernel_rfl) (by kernel_rfl) (by kernel_rfl) rfl
      (fun ii vv _=> (match ii with | 0=> vv=.slice (some ⟨q,0,none⟩) 32 64 | 1=> vv=.pointer (some ⟨q,0,none⟩) | 2=> vv=.agg (arr .u8 32 (TG)) | _=> True))
      (fun _ _ _ _ h _=> h) ?_ ?_
     ·refine cO ?_;refine ⟨?_,?_,?_,(aJ),(aJ),trivial⟩
      ·intro _ a w2 hB hF hd;exact aH <| aP (dH rfl (hF.same 14 rfl) (by simp only [Option.map_some,Option.map_none];exact jO (m:=32) Tryz.underlying47 Tryz.size5 (by decide))) rfl
      ·intro _ a w2 hB hF hd;exact aH <| aP (jN rfl (hd 0 _ rfl (aj rfl)) gH (by decide)) rfl
      ·intro _ a w2 hB hF hd;exact aH <| aP (jv rfl (hd 1 _ rfl (aj rfl)) gH eT (fun i hi=> (hB.cell (p:=⟨q,0+i,none⟩) hql).trans (HC6.out i hi))) rfl
     ·intro a w7 hB hF hS;have ha:=aI rfl rfl hF [_,_,_] rfl ⟨hS 0 _ rfl (by decide),hS 1 _ rfl (by decide),hS 2 _ rfl (by decide),trivial⟩;simp only [puts,List.take_succ_cons,List.take_zero,Act.put,dQ,dR,dS] at ha;subst ha;change tl _ _ _ (_::_:: []) _ _;clear hS hF;have Nn:=vT.kept hB;have Ua:=hb6.trans (hB.mono hb6.size);refine tX rfl (aX 22 _ _ rfl .u8 w.heap.size 32 (fun _=> 0) TG eT rfl rfl Nn ?_);refine Mt rfl _ (.inr rfl) (JX ?_);have QE:=Nn.setRow 32 TG;have Nl:=ay Ua (bA _) (arr .u8 32 TG);clear vT hb6 Nn Ua hB;simp only [Act.put,Act.eval,dQ,dR,dS];go_wp2;exact bodyPost_ret (fT rfl _ _ .u8 w.heap.size 32 _ 5 rfl QE gH eT) rfl ⟨rfl,Nl⟩
end Go.Proofs.YtpcjekgfnfjbpaaGreat
