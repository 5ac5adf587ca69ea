/-
  Part 51 of SuiteNone. Conditions: named in each theorem.
-/
import Derived.Test.YtpcjekgfnfjbpaaGreatPkSuiteNone26
import Derived.Test.YtpcjekgfnfjbpaaGreatPkSuiteNone50
set_option linter.unusedVariables false
set_option linter.unusedSimpArgs false
set_option maxRecDepth 100000
set_option maxHeartbeats 6400000
namespace Go.bI
open Go.RowKit
theorem Bw {P:Program} {w:World} {ops:Array Oper} {rest:List Oper} {o:Oper} {a:Act} {Q:Exit->Act->World->Prop} (hg:o.guard=none)
  (s x:Operand) (t:TypeId) (hop:o.op=.call { callee:=.builtin .append,args:=#[s,x],argTypes:=#[t,t] })
  (base:Nat) (e:TypeId) (bytes:Nat) (h1:P.underlying t=some (.slice e)) (hinfo:(P.info? e).map (fun i=> (i.zero,i.size,i.bytes))=some (some (.slice none 0 0),1,bytes))
  (v:Value) (m:Nat) (lens:Nat->Nat) (g:Nat->Nat->Int) (hown:eP e base w v m lens g) (hs:a.eval s=v)
  (u:Value) (m2:Nat) (NV:Nat->Value) (vQ:Nat->Nat) (g2:Nat->Nat->Int) (htx:BK w u m2 NV vQ g2) (CY:∀j,j<m2->0<vQ j->(NV j).ownBlock≠v.ownBlock) (hx:a.eval x=u)
  (b2:(m+m2) * bytes<=140737488355328) (b3:m+m2<=140737488355328) (b4:base<=w.heap.size)
  (hK:∀v' w',eP e base w' v' (m+m2) (iB m lens vQ) (iZ m g g2)->w.grownBy w' v.ownBlock->(∀b,v'.ownBlock=some b->base<=b)->Placed w v v'->wpList P ops Q rest (a.put o.dst v') w'):
  wpList P ops Q (o::rest) a w:=
 wpList_plain hg fun _ hK'=> Cj s x t hop base e bytes h1 hinfo v m lens g hown hs u m2 NV vQ g2 htx CY hx b2 b3 b4 fun v' w' q1 q2 q3 q4=> hK' _ _ (hK v' w' q1 q2 q3 q4)
theorem KA {P:Program} {w:World} {ops:Array Oper} {rest:List Oper} {o:Oper} {a:Act} {Q:Exit->Act->World->Prop} (hg:o.guard=none) (d s:Operand) (dT sT:TypeId) (ho:o.op=.call { callee:=.builtin .copy,args:=#[d,s],argTypes:=#[dT,sT] }) {e:TypeId} {k:IntKind} (g off dLen dCap n:Nat) (f:Nat->Int) (hu:P.underlying dT=some (.slice e)) (hsz:(P.info? e).map (·.size)=some 1)
  (hd:a.eval d=.slice (some ⟨g,off,none⟩) dLen dCap) (hA:aH k w g n f) (u:Value) (m:Nat) (h:Nat->Int) (hr:Rd k w u m h) (hs:a.eval s=u) (hm:m<=dLen) (hf:off+m<=n)
  (hK:wpList P ops Q rest (a.put o.dst (goInt m)) (w.setRow g (arr k n (laid f off m h)))):wpList P ops Q (o::rest) a w:=
 wpList_plain hg fun _ hK'=> jg d s dT sT ho g off dLen dCap n f hu hsz hd hA u m h hr hs hm hf (hK' _ _ hK)
theorem abW {w w':World} {v u:Value} {n m:Nat} {f g:Nat->Int} {T:TypeId} (h:Rd .u8 w v n f) (h':Rd .u8 w u m g) (hb:Below w.heap.size w w'):
  nH (w'.alloc (.cells [v,u].toArray T)) (.slice (some ⟨w'.heap.size,0,none⟩) 2 2) 2 (iB 1 (fun _=> n) (fun _=> m)) (iZ 1 (fun _=> f) (fun _=> g)):=
 nH.new (by decide) fun j hj=> by
  rcases (by omega:j=0\/j=1) with rfl | rfl
  ·exact ⟨v,rfl,h.below hb⟩
  ·exact ⟨u,rfl,h'.below hb⟩
end Go.bI
namespace Go.Proofs.YtpcjekgfnfjbpaaGreat
open Go.RowKit Go.bI
attribute [local go_sem ↓] Go.wp_at_zero Go.wp_at_succ
theorem Tryz.infoTxt:(Tryz.prog.info? 23).map (fun i=> (i.zero,i.size,i.bytes))=some (some (.slice none 0 0),1,24):=by kernel_rfl
theorem Tryz.undTxt:Tryz.prog.underlying 55=some (.slice 23):=by kernel_rfl
theorem xS (v:Value) (a m n:Nat) (lens:Nat->Nat) (f F:Nat->Int) (g:Nat->Nat->Int) (w:World) (hv:nH w v (1+m) (iB 1 (fun _=> a) lens) (iZ 1 (fun _=> f) g)) (hg:∀j,j<m->∀i,i<lens j->F (dw lens j+i)=g j i) (hn:dw lens m=n) (hl:a+n<=1000000)
  (hf:∀i,i<a->0<=f i/\f i<256) (hF:∀i,i<n->0<=F i/\F i<256):
  Calls Tryz.prog 139 #[v] w fun e w'=> e=.returned (.agg (arr .u8 64 (mK (a+n) (fH a f F))))/\Below w.heap.size w w':=by
 have h1:dw (fun _=> a) 1=a:=by simp [dw]
 have h2:=kU (F1:=f) (F2:=F) (sQ (f:=f) (n:=a)).1 hg;rw [h1] at h2;exact zm v (1+m) _ _ (a+n) _ w hv h2 (by rw [lF,h1,hn]) hl (gy hf hF)
theorem Ku (v:Value) (n:Nat) (key:Nat->Int) (c:Int) (w:World) (hv:Rd .u8 w v n key) (hn:n<=1000000) (hk:∀i,i<n->0<=key i/\key i<256) (hc:0<=c/\c<256):
  Calls Tryz.prog 227 #[v,.int .u8 c] w fun e w'=> ∃u,e=.returned u/\Rd .u8 w' u 128 (Ju n key c)/\Below w.heap.size w w':=by
 obtain ⟨PK,hPK⟩:∃PK,PK=Ju n key c:=⟨_,rfl⟩
 have HK:=ak hk;have XF:Hid (∀i,0<=CW n key i/\CW n key i<256):=MQ hk;have HPK:Hid (∀i,bits .xor .u8 (CW n key i) c=PK i):=by rw [hPK];exact fun i=> rfl
 obtain ⟨KK,hKK⟩:∃KK,KK=CW n key:=⟨_,rfl⟩
 have HK1:Hid (128<n->∀i,i<128->laid (fun _=> 0) 0 64 (mK n key) i=KK i):=by
  rw [hKK];intro h i hi;unfold laid CW;rw [if_pos h];by_cases q:i<64
  ·rw [if_pos (by omega),if_pos q,Nat.sub_zero]
  ·rw [if_neg (by omega),if_neg q]
 have HK2:Hid (¬ 128<n->∀i,i<128->laid (fun _=> 0) 0 n key i=KK i):=by
  rw [hKK];intro h i hi;unfold laid CW;rw [if_neg h];by_cases q:i<n
  ·rw [if_pos (by omega),if_pos q,Nat.sub_zero]
  ·rw [if_neg (by omega),if_neg q]
 rw [<-hPK];rw [<-hKK] at XF HPK;have HV:=ak hv;have HS:=ak (fun v w (h:nH w v 1 (fun _=> n) (fun _=> key))=> Tp v n key w h hn hk);obtain ⟨va,vc,rfl,v1,v2,_,_⟩:=hv;obtain ⟨c0,c1⟩:=hc;clear hk hPK hKK;by_cases hlong:128<n
 case' pos=>
  go_enter Tryz.func227,Tryz.ntmps227
  go_wp2_with fail;refine (HS.out _ _ (new1 (T:=23) HV.out (bM _ _))).mono ?_;rintro e w1 ⟨rfl,hb1⟩;have iC:Below w.heap.size w w1:=((bM w.heap.size w).alloc (bB _) _).trans (hb1.mono (by simp));clear hb1;go_upto_region 3 with (refine aF rfl 47 _ _ rfl .u8 w1.heap.size 64 (fun _=> 0) _ Cb rfl rfl (bG rfl (by rfl)) ?_);refine aG (fun w2=> aH .u8 w2 w1.heap.size 64 (mK n key)/\Below w.heap.size w w2) ⟨(bG rfl (by rfl):aH .u8 _ _ 64 (fun _=> 0)).setRow _ _,aA (iC.alloc iC.size _) iC.size _⟩ ?_;rintro w2 ⟨hA,hb2⟩;obtain ⟨q,hq⟩:∃q,q=w1.heap.size:=⟨_,rfl⟩
  rw [<-hq] at hA ⊢;clear hq iC;simp only [Act.put];go_upto_region 3 with (fail)
  refine aR (n:=33) (by kernel_rfl) (by kernel_rfl) (by kernel_rfl) rfl
   (fun ii vv _=> (match ii with | 0 | 1=> vv=.slice (some ⟨q,0,none⟩) 64 64 | _=> True))
   (fun w w'=> Below w.heap.size w w') (fun _ _ h=> h) (fun _ _ _ _ h _=> h) ?_ ?_
  ·refine bQ ?_;refine ⟨?_,?_,trivial⟩
   ·intro a w2 hB hF hd;exact aJ <| aO (cK rfl (hF.same 5 rfl) Dh (by kernel_rfl)) rfl
   ·intro a w2 hB hF hd;exact aJ <| pE rfl (hd 0 _ rfl (aj rfl))
  ·intro a w3 hB hF hS;have ha:=aI rfl rfl hF [_,_] rfl ⟨hS 0 _ rfl,hS 1 _ rfl,trivial⟩;simp only [puts,Act.put,dH,dI,dJ] at ha;subst ha;clear hS hF;have hb3:=hb2.trans (hB.mono hb2.size);have hs3:=hb3.size;have HKV:Hid (Rd .u8 w3 (.slice (some ⟨q,0,none⟩) 64 64) 64 (mK n key)):=(hA.kept hB).rd (by decide);have HL:Hid (∀i,i<128->laid (fun _=> 0) 0 64 (mK n key) i=KK i):=HK1.out hlong;obtain ⟨k0,hk0⟩:∃k0,k0=mK n key:=⟨_,rfl⟩
   rw [<-hk0] at HKV HL;clear hA hb2 hB hk0
   go_upto_region 6 with (first
    | (refine sj rfl _ _ 23 rfl w.heap.size 5 .u8 1 kN sV .i64 .i64 128 rfl rfl (by decide) (by decide) hb3.size ?_;intro w4 hown hgrow;have wJ:=hown.rows.arr;have VI:=HKV.out.below (gH (bM w3.heap.size w3) hgrow (bB _)))
    | (refine KA rfl _ _ 23 23 rfl (e:=5) (k:=.u8) w3.heap.size 0 128 128 128 (fun _=> 0) kN Ll rfl wJ _ 64 k0 VI rfl (by omega) (by omega) ?_))
   refine aG (fun w5=> aH .u8 w5 w3.heap.size 128 KK/\Below w.heap.size w w5) ⟨(wJ.setRow _ _).congr HL.out,aA (gH hb3 hgrow hs3) hs3 _⟩ ?_;rintro w5 ⟨uz,hb5⟩;obtain ⟨G,hG⟩:∃G,G=w3.heap.size:=⟨_,rfl⟩
   have hGl:w.heap.size<=G:=by rw [hG];exact hs3
   rw [<-hG] at uz ⊢;clear hG wJ VI hown hgrow HKV HL;simp only [Act.put,dH,dI,dJ];go_wp2
   go_loopw [21] (fun u wr=> ∃i:Nat,i<=128/\u=.int .i64 (i:Int)/\aH .u8 wr G 128 (upto i PK KK)/\Below w.heap.size w wr) (fun u _=> 128 - (intOf u).toNat)
   case atStart=> exact ⟨0,je _,rfl,by rw [cZ];exact uz,hb5⟩
   case round=>
    clear uz hb5;obtain ⟨i,hi,rfl,hA,hbel⟩:=hrel;have HA:=ak hA;clear hA;by_cases hlt:i<128
    ·have e1:=HA.out.cell i hlt;rw [upto_at] at e1;have f1:=HA.out.free i;obtain ⟨x,hx⟩:∃x,x=KK i:=⟨_,rfl⟩
     have x01:=XF.out i;have hp:=HPK.out i;rw [<-hx] at e1 x01 hp;have HX:=ak hx;obtain ⟨x0,x1⟩:=x01;clear hx;go_wp2;go_roundw
     case rel=> exact ⟨i+1,by omega,by go_num,by rw [<-bN (j:=i) (g:=PK) (f:=KK) rfl];exact HA.out.set i _,hbel.setCell hGl _⟩
     case measure=> simp [intOf] <;> omega
    ·obtain rfl:i=128:=by omega
     have hR:=(HA.out.congr (g:=PK) (dK PK KK (bB _))).rd (by decide);clear HA;go_wp2;go_ret;exact ⟨_,rfl,hR,hbel⟩
 case' neg=>
  go_enter Tryz.func227,Tryz.ntmps227
  have Vr:n<=128:=by omega
  have HKV:=HV;have HL:Hid (∀i,i<128->laid (fun _=> 0) 0 n key i=KK i):=HK2.out hlong
  go_upto_region 6 with (first
   | (refine sj rfl _ _ 23 rfl w.heap.size 5 .u8 1 kN sV .i64 .i64 128 rfl rfl (by decide) (by decide) (bB _) ?_;intro w4 hown hgrow;have wJ:=hown.rows.arr;have VI:=HKV.out.below (gH (bM w.heap.size w) hgrow (bB _)))
   | (refine KA rfl _ _ 23 23 rfl (e:=5) (k:=.u8) w.heap.size 0 128 128 128 (fun _=> 0) kN Ll rfl wJ _ n key VI rfl (by omega) (by omega) ?_))
  refine aG (fun w5=> aH .u8 w5 w.heap.size 128 KK/\Below w.heap.size w w5) ⟨(wJ.setRow _ _).congr HL.out,aA (gH (bM _ _) hgrow (bB _)) (bB _) _⟩ ?_;rintro w5 ⟨uz,hb5⟩;obtain ⟨G,hG⟩:∃G,G=w.heap.size:=⟨_,rfl⟩
  have hGl:w.heap.size<=G:=by rw [hG];exact (bB _)
  rw [<-hG] at uz ⊢;clear hG wJ VI hown hgrow HKV HL;simp only [Act.put,dH,dI,dJ];go_wp2
  go_loopw [21] (fun u wr=> ∃i:Nat,i<=128/\u=.int .i64 (i:Int)/\aH .u8 wr G 128 (upto i PK KK)/\Below w.heap.size w wr) (fun u _=> 128 - (intOf u).toNat)
  case atStart=> exact ⟨0,je _,rfl,by rw [cZ];exact uz,hb5⟩
  case round=>
   clear uz hb5;obtain ⟨i,hi,rfl,hA,hbel⟩:=hrel;have HA:=ak hA;clear hA;by_cases hlt:i<128
   ·have e1:=HA.out.cell i hlt;rw [upto_at] at e1;have f1:=HA.out.free i;obtain ⟨x,hx⟩:∃x,x=KK i:=⟨_,rfl⟩
    have x01:=XF.out i;have hp:=HPK.out i;rw [<-hx] at e1 x01 hp;have HX:=ak hx;obtain ⟨x0,x1⟩:=x01;clear hx;go_wp2;go_roundw
    case rel=> exact ⟨i+1,by omega,by go_num,by rw [<-bN (j:=i) (g:=PK) (f:=KK) rfl];exact HA.out.set i _,hbel.setCell hGl _⟩
    case measure=> simp [intOf] <;> omega
   ·obtain rfl:i=128:=by omega
    have hR:=(HA.out.congr (g:=PK) (dK PK KK (bB _))).rd (by decide);clear HA;go_wp2;go_ret;exact ⟨_,rfl,hR,hbel⟩
theorem Wq (vk:Value) (nk:Nat) (key:Nat->Int) (vp:Value) (m:Nat) (lens:Nat->Nat) (g:Nat->Nat->Int) (n:Nat) (F:Nat->Int) (w:World) (hv:Rd .u8 w vk nk key) (hk1:nk<=1000000) (hk:∀i,i<nk->0<=key i/\key i<256)
  (hp:nH w vp m lens g) (hm:m<=1000000) (hg:∀j,j<m->∀i,i<lens j->F (dw lens j+i)=g j i) (hn:dw lens m=n) (hn2:n<=900000) (hF:∀i,i<n->0<=F i/\F i<256):
  Calls Tryz.prog 177 #[vk,vp] w fun e w'=> e=.returned (.agg (arr .u8 64 (ES nk key n F)))/\Below w.heap.size w w':=by
 obtain ⟨K1,hK1⟩:∃K1,K1=Ju nk key 54:=⟨_,rfl⟩
 obtain ⟨K2,hK2⟩:∃K2,K2=Ju nk key 92:=⟨_,rfl⟩
 have HP1:=ak (fun w h=> Ku vk nk key 54 w h hk1 hk (by decide));have HP2:=ak (fun w h=> Ku vk nk key 92 w h hk1 hk (by decide));have HB1:Hid (∀i,i<128->0<=K1 i/\K1 i<256):=by rw [hK1];exact fun i _=> Al _ _ _ i
 have HB2:Hid (∀i,i<128->0<=K2 i/\K2 i<256):=by rw [hK2];exact fun i _=> Al _ _ _ i
 obtain ⟨S1,hS1⟩:∃S1,S1=mK (128+n) (fH 128 K1 F):=⟨_,rfl⟩
 have BN:Hid (∀i,i<64->0<=S1 i/\S1 i<256):=by rw [hS1];exact fun i _=> kR _ _ i
 obtain ⟨TG,hTG⟩:∃TG,TG=mK (128+64) (fH 128 K2 S1):=⟨_,rfl⟩
 have HS1:=ak (fun v w h=> xS v 128 m n lens K1 F g w h hg hn (by omega) HB1.out hF);have HS2:=ak (fun v w h=> xS v 128 1 64 (fun _=> 64) K2 S1 (fun _=> S1) w h (sQ (f:=S1) (n:=64)).1 (sQ (f:=S1) (n:=64)).2 (by decide) HB2.out BN.out);have e1:ES nk key n F=TG:=by rw [hTG,hS1,hK1,hK2];rfl
 rw [e1];rw [<-hS1] at HS1;rw [<-hTG] at HS2;rw [<-hK1] at HP1;rw [<-hK2] at HP2;have HV:=ak hv;have HT:=ak hp;obtain ⟨va,vc,rfl,v1,v2,_,_⟩:=hv;obtain ⟨pa,pc,rfl,p1,p2,_⟩:=hp;clear hk hg hn hF hS1 hTG e1 hK1 hK2
 go_enter Tryz.func177,Tryz.ntmps177
 go_upto_region 1 with (fail);refine aG (fun w1=> aH .u8 w1 w.heap.size 64 (fun _=> 0)/\Below w.heap.size w w1/\w1.heap.size=w.heap.size+1) ⟨bG rfl (by rfl),(bM _ _).alloc (bB _) _,by simp⟩ ?_;rintro w1 ⟨hZ,hb1,hs1⟩;have HV1:=ak (HV.out.below hb1);have HT1:=ak (HT.out.below hb1);clear HV HT;go_wp2_with fail;refine (HP1.out _ HV1.out).mono ?_;rintro e w2 ⟨u,rfl,hu,hb2⟩;have hZ2:=hZ.kept hb2;have dG:=hb1.trans (hb2.mono hb1.size);have HV2:=ak (HV1.out.below hb2);obtain ⟨us,hU⟩:=(HT1.out.below hb2).aeS;have HU:=ak hU;have HUR:=ak hu;have hs2:=dG.size;clear hZ hb1 hs1 hb2 HV1 HT1 hU hu;obtain ⟨ua,uc,rfl,u1,u2,_,_⟩:=id HUR.out;have hO1:=ak (eP.ajj (e:=23) (bB w2.heap.size) HUR.out);have hU1:=ak (HU.out.below ((bM w2.heap.size w2).alloc (bB _) (.cells #[.slice ua 128 uc] 23)));have hF1:=ak (HU.out.far (u:=.slice (some ⟨w2.heap.size,0,none⟩) 1 1) (by intro b hb;simp [Value.ownBlock] at hb;omega));go_wp2_with (at_builtin;refine Bw rfl _ _ 55 rfl w2.heap.size 23 24 Tryz.undTxt Tryz.infoTxt _ 1 (fun _=> 128) (fun _=> K1) hO1.out rfl _ m us lens g hU1.out hF1.out rfl (by omega) (by omega) (by simp) ?_;intro v3 w3 hown3 acN ajF ajt);have hb3:Below w.heap.size w w3:=(dG.alloc hs2 _).grown acN (by simp;omega) (fun b hb=> by simp [Value.ownBlock] at hb;omega);have hlow:Below w2.heap.size w2 w3:=((bM w2.heap.size w2).alloc (bB _) _).grown acN (by simp) (fun b hb=> by simp [Value.ownBlock] at hb;omega);have Xp:=ak (HV2.out.below hlow);have hZ3:=hZ2.kept hlow;have HT3:=ak hown3.txt;clear hown3 acN ajF ajt hZ2 dG HV2 HU hO1 hU1 hF1 hlow;refine (HS1.out _ _ HT3.out).mono ?_;rintro e w4 ⟨rfl,hb4⟩;have fC:=hb3.trans (hb4.mono hb3.size);have HV4:=ak (Xp.out.below hb4);have ny:=hZ3.kept hb4;have hzl:=ny.lt;clear hb3 hb4 Xp hZ3 HT3;go_upto_region 2 with (refine aF rfl 47 _ _ rfl .u8 w4.heap.size 64 (fun _=> 0) S1 Cb rfl rfl (bG rfl (by rfl)) ?_)
 refine aG (fun w5=> aH .u8 w5 w4.heap.size 64 S1/\aH .u8 w5 w.heap.size 64 (fun _=> 0)/\Below w.heap.size w w5/\Rd .u8 w5 (.slice va nk vc) nk key)
  ⟨(bG rfl (by rfl):aH .u8 _ _ 64 (fun _=> 0)).setRow _ _,aH.aC (aH.alloc ny _) _ (by omega) _,aA (fC.alloc fC.size _) fC.size _,HV4.out.below (aA ((bM w4.heap.size w4).alloc (bB _) _) (bB _) _)⟩ ?_
 rintro w5 ⟨uz,nG,hb5,hv5⟩;have HV5:=ak hv5;obtain ⟨q,hq⟩:∃q,q=w4.heap.size:=⟨_,rfl⟩
 rw [<-hq] at uz ⊢;clear hq ny fC hv5 HV4;simp only [Act.put]
 refine fJ (n:=17) 5 rfl (by decide) (by kernel_rfl) (by kernel_rfl) (by kernel_rfl) (by kernel_rfl) rfl
  (fun ii vv ww=> (match ii with | 0=> vv=.slice va nk vc | 2=> vv=.slice (some ⟨q,0,none⟩) 64 64 | 4=> vv=.agg (arr .u8 64 (TG)) | _=> True)/\(ii=1->Rd .u8 ww vv 128 (K2))/\(ii=3->nH ww vv 2 (iB 1 (fun _=> 128) (fun _=> 64)) (iZ 1 (fun _=> K2) (fun _=> S1))))
  (fun w w'=> Below w.heap.size w w') (fun _ _ h=> h) (fun i v w w' h hE=> ⟨h.1,fun e=> Rd.below (h.2.1 e) hE,fun e=> nH.below (h.2.2 e) hE⟩) rfl ?_ ?_
 ·refine bQ ?_;refine ⟨?_,?_,?_,?_,?_,(fun h=> absurd rfl h),trivial⟩
  ·intro _ a w2 hB hF hd;exact aJ <| fq rfl ⟨(hF.same 0 rfl),aK,aK⟩
  ·intro _ a w2 hB hF hd;refine aJ <| aD _ _ _ rfl Tryz.call227 _ (args2 ((hd 0 _ rfl (aj rfl)).1) rfl) (by simp) ((HP2.out _ (HV5.out.below hB)).mono ?_);rintro e w3 ⟨u,rfl,hr,hb⟩;exact ⟨u,rfl,⟨trivial,fun _=> hr,aK⟩,hb⟩
  ·intro _ a w2 hB hF hd;exact aJ <| aO (cK rfl (hF.same 5 rfl) Dh (by kernel_rfl)) ⟨rfl,aK,aK⟩
  ·intro _ a w2 hB hF hd;exact aJ <| jW 55 23 2 _ [a.eval (Operand.tmp 13),.slice (some ⟨q,0,none⟩) 64 64] rfl Tryz.underlying55 (by kernel_rfl) (by kernel_rfl) rfl (by decide) (by decide) (by intro v hv;simp only [List.mem_cons,List.not_mem_nil,or_false] at hv;rcases hv with rfl | rfl;exact Rd.GH ((hd 1 _ rfl (aj rfl)).2.1 rfl);rfl) (by simp only [uG,List.map_cons,List.map_nil,show a.eval (Operand.tmp 14)=.slice (some ⟨q,0,none⟩) 64 64 from ((hd 2 _ rfl (aj rfl)).1)];rfl) (by simp) ⟨trivial,aK,fun _=> (abW ((hd 1 _ rfl (aj rfl)).2.1 rfl) ((uz.kept hB).rd (by decide)) (bM _ _))⟩
  ·intro _ a w2 hB hF hd;refine aJ <| aD _ _ _ rfl Tryz.call139 _ (args1 rfl) (by simp) ((HS2.out _ _ ((hd 3 _ rfl (aj rfl)).2.2 rfl)).mono ?_);rintro e w3 ⟨rfl,hb⟩;exact ⟨_,rfl,⟨rfl,aK,aK⟩,hb⟩
 ·intro a w6 hB hF hS;obtain ⟨x13,afI⟩:∃x,x=a.tmps.getD 13 undef:=⟨_,rfl⟩
  obtain ⟨x15,afH⟩:∃x,x=a.tmps.getD 15 undef:=⟨_,rfl⟩
  have ha:=aI rfl rfl hF [_,x13,_,x15,_,undef] rfl ⟨(hS 0 _ rfl (by decide)).1,afI.symm,(hS 2 _ rfl (by decide)).1,afH.symm,(hS 4 _ rfl (by decide)).1,trivial,trivial⟩;simp only [puts,Act.put,dH,dI,dJ] at ha;subst ha;clear afI afH;clear hS hF;have xu:=nG.kept hB;have hb6:=hb5.trans (hB.mono hb5.size);refine aW 47 _ _ rfl .u8 w.heap.size 64 (fun _=> 0) TG Cb rfl rfl xu ?_;have OI:=xu.setRow 64 TG;have hb7:=aA hb6 (bB _) (arr .u8 64 TG);clear nG hb5 uz xu hb6 hB;go_wp2;exact bodyPost_ret (aZ rfl _ _ .u8 w.heap.size 64 _ 5 rfl OI Dh Cb) rfl ⟨rfl,hb7⟩
theorem Vd (a:Option Addr) (n c:Nat) (h1:n<=1048576) (w:World):Calls Tryz.prog 175 #[.slice a n c] w fun e w'=> e=.returned (.bool false)/\w=w':=by
 have hl:decide ((1048576:Int)<(n:Int))=false:=decide_eq_false (by omega)
 go_enter Tryz.func175,Tryz.ntmps175
 go_wp2;go_ret;exact ⟨rfl,rfl⟩
theorem JU (v:Value) (m:Nat) (lens:Nat->Nat) (g:Nat->Nat->Int) (w:World) (hv:nH w v m lens g) (hl:∀j,j<m->lens j<=1048576):
  Calls Tryz.prog 226 #[v,.func (.func 175) #[] #[]] w fun e w'=> e=.returned (.int .i64 (-1))/\w=w':=by
 have HL:=ak hl;obtain ⟨ta,tc,rfl,t1,t2,t3⟩:=hv;have HT3:=ak t3;clear hl t3
 go_enter Tryz.func226,Tryz.ntmps226
 go_wp2
 go_loop [8] (fun i=> ∃k:Nat,k<=m/\i=.int .i64 (k:Int)) (fun i=> m - (intOf i).toNat)
 case atStart=> exact ⟨0,je _,rfl⟩
 case round=>
  obtain ⟨k,hk,rfl⟩:=hrel;by_cases hlt:k<m
  ·obtain ⟨tb,to,rfl,tlt,qJ⟩:=HT3.out (by omega);obtain ⟨u,hu,QM⟩:=qJ k hlt;obtain ⟨ua,uc,rfl,_,_,_,_⟩:=QM;have hlk:=HL.out k hlt;clear qJ;go_wp2_with fail;refine (Vd _ _ _ hlk _).mono ?_;rintro e w1 ⟨rfl,rfl⟩;go_wp2
   go_round
   case rel=> exact ⟨k+1,by omega,by go_num⟩
   case measure=> simp [intOf];omega
  ·obtain rfl:k=m:=by omega
   go_wp2;go_ret;exact ⟨rfl,rfl⟩
theorem Ke (v:Value) (m:Nat) (lens:Nat->Nat) (g:Nat->Nat->Int) (w:World) (hv:nH w v m lens g) (hl:∀j,j<m->lens j<=1048576):
  Calls Tryz.prog 176 #[v,.func (.func 175) #[] #[]] w fun e w'=> e=.returned (.bool false)/\Below w.heap.size w w':=by
 have H:=ak (JU v m lens g w hv hl);clear hv hl
 go_enter Tryz.func176,Tryz.ntmps176
 go_wp2_with fail;refine H.out.mono ?_;rintro e w1 ⟨rfl,rfl⟩;go_wp2;go_ret;exact ⟨rfl,bM _ _⟩
theorem Kv (vf:Value) (nf:Nat) (from_:Nat->Int) (s:ByteArray) (vc:Value) (m:Nat) (lens:Nat->Nat) (g:Nat->Nat->Int) (w:World) (hf:Rd .u8 w vf nf from_) (hf0:0<nf) (hf1:nf<=1000000) (Ka:∀i,i<nf->0<=from_ i/\from_ i<256)
  (hs:s.size<=64) (hc:nH w vc m lens g) (hm:m<=16) (hl:∀j,j<m->lens j<=4000) (hg:∀j,j<m->∀i,i<lens j->0<=g j i/\g j i<256):
  Calls Tryz.prog 120 #[vf,.string s,vc] w fun e w'=> e=.returned (.tuple #[.agg (arr .u8 32 (ES nf from_ (sP s.size lens m) (AL s.size (sN s) lens g m))),.int .i64 0])/\Below w.heap.size w w':=by
 obtain ⟨NN,hNN⟩:∃NN,NN=sP s.size lens:=⟨_,rfl⟩
 obtain ⟨FF,OL⟩:∃FF,FF=AL s.size (sN s) lens g:=⟨_,rfl⟩
 have HNB:Hid (NN m<=900000):=by
  unfold Hid;rw [hNN];have h1:=Zd (L:=s.size) hl m (bB _);have h2:m * (4+4000)<=16 * (4+4000):=Nat.mul_le_mul_right _ hm;omega
 have ZY:Hid (∀i,i<NN m->0<=FF m i/\FF m i<256):=by rw [hNN,OL];exact MR (by omega) (fun i _=> Mc s i) hg m (bB _)
 have HST:Hid (∀e base w v,eP e base w v 2 (iB 1 (fun _=> 1) (fun _=> s.size)) (iZ 1 (fun _=> fun _=> (s.size:Int)) (fun _=> sN s))->Parts e base w v 0 (NN 0) (FF 0)):=by rw [hNN,OL];exact fun e base w v h=> Parts.start h
 have Sq:Hid (∀e base w' v' k l1 g1,(∀j,j<2+2 * k->∀i,i<l1 j->FF k (dw l1 j+i)=g1 j i)->dw l1 (2+2 * k)=NN k->
   eP e base w' v' (2+2 * k+2) (iB (2+2 * k) l1 (iB 1 (fun _=> 4) (fun _=> lens k))) (iZ (2+2 * k) g1 (iZ 1 (fun _=> Jf (lens k)) (fun _=> g k)))->Parts e base w' v' (k+1) (NN (k+1)) (FF (k+1))):=by
  rw [hNN,OL];exact fun e base w' v' k l1 g1 h1 h2 h3=> Parts.step (w:=w') (v:=v') h1 h2 h3
 obtain ⟨TG,hTG⟩:∃TG,TG=ES nf from_ (NN m) (FF m):=⟨_,rfl⟩
 have akE:Hid (∀vp mm l1 g1 w,Rd .u8 w vf nf from_->nH w vp mm l1 g1->mm<=1000000->(∀j,j<mm->∀i,i<l1 j->FF m (dw l1 j+i)=g1 j i)->dw l1 mm=NN m->
   Calls Tryz.prog 177 #[vf,vp] w fun e w'=> e=.returned (.agg (arr .u8 64 TG))/\Below w.heap.size w w'):=by
  rw [hTG];exact fun vp mm l1 g1 w h1 h2 h3 h4 h5=> Wq vf nf from_ vp mm l1 g1 (NN m) (FF m) w h1 hf1 Ka h2 h3 h4 h5 HNB.out ZY.out
 have HHL:=ak (fun w h=> Ke vc m lens g w h (fun j hj=> by have:=hl j hj;omega));have e1:ES nf from_ (sP s.size lens m) (AL s.size (sN s) lens g m)=TG:=by rw [hTG,hNN,OL]
 rw [e1];obtain ⟨L,hL⟩:∃L,L=s.size:=⟨_,rfl⟩
 have HSL:Hid (s.size=L):=hL.symm;have apx:L<=64:=by omega
 rw [<-hL] at HST;obtain ⟨lab,hlab⟩:∃lab,lab=sN s:=⟨_,rfl⟩
 rw [<-hlab] at HST;have akU:Hid (sN s=lab):=hlab.symm;have HLL:=ak hl;have HFR:=ak hf;have HC:=ak hc;obtain ⟨fa,fc,rfl,f1,f2,_,_⟩:=hf;obtain ⟨ca,cc,rfl,c1,c2,c3⟩:=hc;have HC3:=ak c3;have hlen:s.size<=64:=hs;clear Ka hg hl hNN OL hTG e1 hL hlab c3 hs
 go_enter Tryz.func120,Tryz.ntmps120
 go_upto_region 1 with (fail);refine aG (fun w1=> aH .u8 w1 w.heap.size 32 (fun _=> 0)/\Below w.heap.size w w1/\w1.heap.size=w.heap.size+1) ⟨bG rfl (by rfl),(bM _ _).alloc (bB _) _,by simp⟩ ?_;rintro w1 ⟨hZ,hb1,hs1⟩;have ahz:=ak (HFR.out.below hb1);have wM:=ak (HC.out.below hb1);clear HFR HC;have hnf:((nf:Int)==0)=false:=by simp;omega
 go_upto_region 4 with (fail)
 refine aR (n:=64) (by kernel_rfl) (by kernel_rfl) (by kernel_rfl) rfl
  (fun ii vv _=> (match ii with | 0=> vv=.string s | 1=> vv=.int .i64 ((s.size:Int)) | 2 | 3 | 6 | 7 | 8 | 11 | 12=> vv=.bool false | 4 | 9=> vv=.slice ca m cc | 5=> vv=.int .i64 ((m:Int)) | 10=> vv=.func (.func 175) #[] #[] | _=> True))
  (fun w w'=> Below w.heap.size w w') (fun _ _ h=> h) (fun _ _ _ _ h _=> h) ?_ ?_
 ·refine bQ ?_;refine ⟨?_,?_,?_,?_,?_,?_,?_,?_,?_,?_,?_,?_,?_,trivial⟩
  ·intro a w2 hB hF hd;exact aJ <| fq rfl (hF.same 1 rfl)
  ·intro a w2 hB hF hd;exact aJ <| aO (yg rfl (hd 0 _ rfl (aj rfl)) Tryz.underlying9) rfl
  ·intro a w2 hB hF hd;exact aJ <| aO (Go.bI.Od rfl (hd 1 _ rfl (aj rfl)) rfl) (congrArg Value.bool (decide_eq_false (by omega)))
  ·intro a w2 hB hF hd;exact aJ <| fq rfl (hd 2 _ rfl (aj rfl))
  ·intro a w2 hB hF hd;refine aS (bg rfl rfl (hd 3 _ rfl (aj rfl)) rfl) ?_;exact fq rfl (hF.same 2 rfl)
  ·intro a w2 hB hF hd;refine aS (bg rfl rfl (hd 3 _ rfl (aj rfl)) rfl) ?_;exact aO (pR rfl (hd 4 _ rfl (aj rfl)) Tryz.underlying55) rfl
  ·intro a w2 hB hF hd;refine aS (bg rfl rfl (hd 3 _ rfl (aj rfl)) rfl) ?_;exact aO (Go.bI.Od rfl (hd 5 _ rfl (aj rfl)) rfl) (congrArg Value.bool (decide_eq_false (by omega)))
  ·intro a w2 hB hF hd;exact aJ <| aO (fO rfl (hd 3 _ rfl (aj rfl))) ((hd 6 _ rfl (aj rfl)))
  ·intro a w2 hB hF hd;exact aJ <| fq rfl (hd 7 _ rfl (aj rfl))
  ·intro a w2 hB hF hd;refine aS (bg rfl rfl (hd 8 _ rfl (aj rfl)) rfl) ?_;exact fq rfl (hF.same 2 rfl)
  ·intro a w2 hB hF hd;refine aS (bg rfl rfl (hd 8 _ rfl (aj rfl)) rfl) ?_;exact fq rfl (hF.same 8 rfl)
  ·intro a w2 hB hF hd;refine aS (bg rfl rfl (hd 8 _ rfl (aj rfl)) rfl) ?_;refine aD _ _ _ rfl Tryz.call176 _ (args2 (hd 9 _ rfl (aj rfl)) (hd 10 _ rfl (aj rfl))) (by simp) ((HHL.out _ (wM.out.below hB)).mono ?_);rintro e w3 ⟨rfl,hb⟩;exact ⟨_,rfl,rfl,hb⟩
  ·intro a w2 hB hF hd;exact aJ <| aO (fO rfl (hd 8 _ rfl (aj rfl))) ((hd 11 _ rfl (aj rfl)))
 ·intro a wz hB hF hS;have ha:=aI rfl rfl hF [_,_,_,_,_,_,_,_,_,_,_,_,_] rfl ⟨hS 0 _ rfl,hS 1 _ rfl,hS 2 _ rfl,hS 3 _ rfl,hS 4 _ rfl,hS 5 _ rfl,hS 6 _ rfl,hS 7 _ rfl,hS 8 _ rfl,hS 9 _ rfl,hS 10 _ rfl,hS 11 _ rfl,hS 12 _ rfl,trivial⟩;simp only [puts,Act.put,dH,dI,dJ] at ha;subst ha;clear hS hF;have hb2:=hb1.trans (hB.mono hb1.size);have hZ2:=hZ.kept hB;have ahy:=ak (ahz.out.below hB);have Le:=ak (wM.out.below hB);have U35:Hid (IntKind.u8.wrap (s.size:Int)=(L:Int)):=by unfold Hid;rw [HSL.out,IntKind.wrap_u8];omega
  clear hZ hs1 hB ahz wM HHL hb1;go_upto_region 6 with (fail)
  refine aR (n:=64) (by kernel_rfl) (by kernel_rfl) (by kernel_rfl) rfl
   (fun ii vv ww=> (match ii with | 0 | 4=> vv=.string s | 1=> vv=.int .i64 ((s.size:Int)) | 2=> vv=.int .u8 ((L:Int)) | _=> True)/\(ii=3->Rd .u8 ww vv 1 (fun _=> (L:Int)))/\(ii=5->Rd .u8 ww vv L (lab))/\(ii=6->eP 23 wz.heap.size ww vv 2 (iB 1 (fun _=> 1) (fun _=> L)) (iZ 1 (fun _=> fun _=> (L:Int)) (fun _=> lab)))/\(ii=7->eP 23 wz.heap.size ww vv 2 (iB 1 (fun _=> 1) (fun _=> L)) (iZ 1 (fun _=> fun _=> (L:Int)) (fun _=> lab))))
   (fun w w'=> Below w.heap.size w w') (fun _ _ h=> h) (fun i v w w' h hE=> ⟨h.1,fun e=> Rd.below (h.2.1 e) hE,fun e=> Rd.below (h.2.2.1 e) hE,fun e=> eP.below (h.2.2.2.1 e) hE,fun e=> eP.below (h.2.2.2.2 e) hE⟩) ?_ ?_
  ·refine bQ ?_;refine ⟨?_,?_,?_,?_,?_,?_,?_,?_,trivial⟩
   ·intro a w2 hB hF hd;exact aJ <| fq rfl ⟨(hF.same 1 rfl),aK,aK,aK,aK⟩
   ·intro a w2 hB hF hd;exact aJ <| aO (yg rfl ((hd 0 _ rfl (aj rfl)).1) Tryz.underlying9) ⟨rfl,aK,aK,aK,aK⟩
   ·intro a w2 hB hF hd;exact aJ <| aO (mP rfl ((hd 1 _ rfl (aj rfl)).1) Tryz.underlying3 Tryz.underlying5) ⟨(congrArg (Value.int .u8) (U35.out)),aK,aK,aK,aK⟩
   ·intro a w2 hB hF hd;exact aJ <| jW 23 5 1 _ [.int .u8 ((L:Int))] rfl kN (by kernel_rfl) (by kernel_rfl) rfl (by decide) (by decide) (by intro v hv;simp only [List.mem_cons,List.not_mem_nil,or_false] at hv;rcases hv with rfl<;> rfl) (by simp only [uG,List.map_cons,List.map_nil,show a.eval (Operand.tmp 35)=.int .u8 ((L:Int)) from ((hd 2 _ rfl (aj rfl)).1)];rfl) (by simp) ⟨trivial,fun _=> (Ga),aK,aK,aK⟩
   ·intro a w2 hB hF hd;exact aJ <| fq rfl ⟨(hF.same 1 rfl),aK,aK,aK,aK⟩
   ·intro a w2 hB hF hd;refine aJ <| CZ (e:=5) (fun h=> by cases h) rfl ((hd 4 _ rfl (aj rfl)).1) Tryz.underlying9 kN Tryz.underlying5 (by omega) ?_;intro vq wq hq;rw [HSL.out,akU.out] at hq;exact ⟨trivial,aK,fun _=> hq,aK,aK⟩
   ·intro a w2 hB hF hd;exact aJ <| jW 55 23 2 _ [a.eval (Operand.tmp 36),a.eval (Operand.tmp 38)] rfl Tryz.underlying55 (by kernel_rfl) (by kernel_rfl) rfl (by decide) (by decide) (by intro v hv;simp only [List.mem_cons,List.not_mem_nil,or_false] at hv;rcases hv with rfl | rfl;exact Rd.GH ((hd 3 _ rfl (aj rfl)).2.1 rfl);exact Rd.GH ((hd 5 _ rfl (aj rfl)).2.2.1 rfl)) (by simp only [uG,List.map_cons,List.map_nil];rfl) (by simp) ⟨trivial,aK,aK,fun _=> (eP.ach hB.size ((hd 3 _ rfl (aj rfl)).2.1 rfl) ((hd 5 _ rfl (aj rfl)).2.2.1 rfl)),aK⟩
   ·intro a w2 hB hF hd;exact aJ <| pE rfl ⟨trivial,aK,aK,aK,fun _=> ((hd 6 _ rfl (aj rfl)).2.2.2.1 rfl)⟩
  ·intro a w3 hB hF hS;obtain ⟨x36,acw⟩:∃x,x=a.tmps.getD 36 undef:=⟨_,rfl⟩
   have P36:Rd .u8 w3 x36 1 (fun _=> (L:Int)):=by rw [acw];exact (hS 3 _ rfl).2.1 rfl
   obtain ⟨x38,hx38⟩:∃x,x=a.tmps.getD 38 undef:=⟨_,rfl⟩
   have P38:Rd .u8 w3 x38 L (lab):=by rw [hx38];exact (hS 5 _ rfl).2.2.1 rfl
   obtain ⟨x39,hx39⟩:∃x,x=a.tmps.getD 39 undef:=⟨_,rfl⟩
   have P39:eP 23 wz.heap.size w3 x39 2 (iB 1 (fun _=> 1) (fun _=> L)) (iZ 1 (fun _=> fun _=> (L:Int)) (fun _=> lab)):=by rw [hx39];exact (hS 6 _ rfl).2.2.2.1 rfl
   obtain ⟨x9,hx9⟩:∃x,x=a.tmps.getD 9 undef:=⟨_,rfl⟩
   have P9:eP 23 wz.heap.size w3 x9 2 (iB 1 (fun _=> 1) (fun _=> L)) (iZ 1 (fun _=> fun _=> (L:Int)) (fun _=> lab)):=by rw [hx9];exact (hS 7 _ rfl).2.2.2.2 rfl
   have ha:=aI rfl rfl hF [_,_,_,x36,_,x38,x39,x9] rfl ⟨(hS 0 _ rfl).1,(hS 1 _ rfl).1,(hS 2 _ rfl).1,acw.symm,(hS 4 _ rfl).1,hx38.symm,hx39.symm,hx9.symm,trivial⟩;simp only [puts,Act.put,dH,dI,dJ] at ha;subst ha;clear acw hx38 hx39 hx9;clear hS hF;have hwz:=hb2.size;have hP3:=HST.out _ _ _ _ P9;have hBz:=hB;clear hB P9 P39 P38 P36 U35 HST;go_wp2
   go_loopw [9,42] (fun v i wr=> ∃k:Nat,k<=m/\i=.int .i64 (k:Int)/\Parts 23 wz.heap.size wr v k (NN k) (FF k)/\Below wz.heap.size wz wr) (fun _ i _=> m - (intOf i).toNat)
   case atStart=> exact ⟨0,je _,rfl,hP3,hBz⟩
   case round=>
    clear hP3 hBz;obtain ⟨k,hk,rfl,⟨l1,g1,ho,JY,aaz⟩,hbz⟩:=hrel;have hbel:=hb2.trans (hbz.mono hwz);have afN:=hbz.size;have HO:=ak ho;have HFL:=ak JY;have Lc:=ak aaz;clear ho JY aaz;by_cases hlt:k<m
    ·obtain ⟨tb,to,rfl,tlt,qJ⟩:=HC3.out (by omega);obtain ⟨u,hu,QM⟩:=qJ k hlt;have e1:=(hbel.cell (p:=⟨tb,to+k,none⟩) tlt).trans hu;have Xu:=ak (QM.below hbel);have hin:=ak (fun hp=> QM.in hp);obtain ⟨ua,uc,rfl,u1,u2,_,_⟩:=QM;have hlk:=HLL.out k hlt;obtain ⟨n,hn⟩:∃n,n=lens k:=⟨_,rfl⟩
     rw [<-hn] at Xu hin e1 u1 hlk;have HN:=ak hn;have h5:((n:Int) / 2 ^ (8 * 4) !=0)=false:=by
      have:(n:Int) / 2 ^ (8 * 4)=0:=Int.ediv_eq_zero_of_lt (by omega) (by omega);rw [this];rfl
     have aho:=ak (fun w=> Mj (n:Int) 4 w (by decide) (by decide) (by omega) (by omega) (fun _=> h5));clear qJ hu hn h5;go_wp2_with fail;refine (aho.out _).mono ?_;rintro e w5 ⟨nv,rfl,hon,hb5⟩;have acS:=hbz.trans (hb5.mono afN);have HO5:=ak (HO.out.below hb5);have ahm:=ak (Xu.out.below hb5);have HNV:=ak hon.rd;have hs5:=acS.size;have aoT:=hb5.size;obtain ⟨ng,nc,rfl,hng,_⟩:=hon.form (by decide);have ahC:Hid (∀j,j<2->0<iB 1 (fun _=> 4) (fun _=> n) j->(if j=0 then Value.slice (some ⟨ng,0,none⟩) 4 nc else .slice ua n uc).ownBlock≠u9.ownBlock):=by
      intro j hj hp he;rcases (by omega:j=0\/j=1) with rfl | rfl
      ·have:=HO.out.block ng (by rw [<-he];rfl);omega
      ·obtain ⟨b,hb,hlt'⟩:=hin.out hp;have:=HO.out.block b (by rw [<-he];exact hb);omega
     have HOA:=ak (HO5.out.below ((bM w5.heap.size w5).alloc (bB _) (.cells #[.slice (some ⟨ng,0,none⟩) 4 nc,.slice ua n uc] 23)));have HTU:=ak (BK.ach (e:=23) HNV.out ahm.out);clear hon hb5 HO5 HNV ahm hin aho e1 Xu;go_wp2_with (at_builtin;refine Bw rfl _ _ 55 rfl wz.heap.size 23 24 Tryz.undTxt Tryz.infoTxt _ (2+2 * k) l1 g1 HOA.out rfl _ 2 _ _ _ HTU.out ahC.out rfl (by omega) (by omega) (by simp;omega) ?_;intro v6 w6 hown6 afY ajE ajs);have hP6:=Sq.out _ _ _ _ k l1 g1 HFL.out Lc.out (by rw [<-HN.out];exact hown6);have agl:Below wz.heap.size wz w6:=(acS.alloc hs5 _).grown afY (by simp;omega) (fun b hb=> (HO.out.block b hb).1);clear hown6 afY ajE ajs HOA HTU ahC acS;go_wp2;go_roundw
     case rel=> first | exact ⟨k+1,by omega,by go_num,hP6,agl⟩ | ((repeat apply Exists.intro);exact ⟨⟨k+1,by omega,by go_num,hP6,agl⟩,rfl⟩)
     case measure=> simp [intOf] <;> omega
    ·obtain rfl:k=m:=by omega
     have hZr:=hZ2.below hbz hZ2.lt;have HTX:=ak HO.out.txt;have ahx:=ak (ahy.out.below hbz);clear hbz afN ahy Le;go_wp2_with fail;refine (akE.out _ _ _ _ _ ahx.out HTX.out (by omega) HFL.out Lc.out).mono ?_;rintro e w5 ⟨rfl,hb5⟩;have fV:=hbel.trans (hb5.mono hbel.size);have nG:=hZr.kept hb5;have hzl:=nG.lt;clear hbel hb5 hZr HTX ahx HO HFL Lc;go_upto_region 14 with (refine aF rfl 47 _ _ rfl .u8 w5.heap.size 64 (fun _=> 0) TG Cb rfl rfl (bG rfl (by rfl)) ?_)
     refine aG (fun w6=> aH .u8 w6 w5.heap.size 64 TG/\aH .u8 w6 w.heap.size 32 (fun _=> 0)/\Below w.heap.size w w6)
      ⟨(bG rfl (by rfl):aH .u8 _ _ 64 (fun _=> 0)).setRow _ _,aH.aC (aH.alloc nG _) _ (by omega) _,aA (fV.alloc fV.size _) fV.size _⟩ ?_
     rintro w6 ⟨Sm,xu,hb6⟩;obtain ⟨q,hq⟩:∃q,q=w5.heap.size:=⟨_,rfl⟩
     rw [<-hq] at Sm ⊢;have Vq:=Sm.lt;have HC6:Hid (∀i,i<32->w6.cell? ⟨q,0+i,none⟩=some (.int .u8 (TG i))):=fun i hi=> by rw [pF];exact Sm.cell i (by omega)
     clear hq nG fV Sm;simp only [Act.put]
     refine yj (n:=64) 3 (by decide) (by kernel_rfl) (by kernel_rfl) (by kernel_rfl) (by kernel_rfl) rfl
      (fun ii vv _=> (match ii with | 0=> vv=.slice (some ⟨q,0,none⟩) 32 64 | 1=> vv=.pointer (some ⟨q,0,none⟩) | 2=> vv=.agg (arr .u8 32 (TG)) | _=> True))
      (fun _ _ _ _ h _=> h) ?_ ?_
     ·refine bQ ?_;refine ⟨?_,?_,?_,(aK),(aK),trivial⟩
      ·intro _ a w2 hB hF hd;exact aJ <| aO (bP rfl (hF.same 14 rfl) (by simp only [Option.map_some,Option.map_none];exact gW (m:=32) Dh Ll (by decide))) rfl
      ·intro _ a w2 hB hF hd;exact aJ <| aO (gF rfl (hd 0 _ rfl (aj rfl)) dU (by decide)) rfl
      ·intro _ a w2 hB hF hd;exact aJ <| aO (fD rfl (hd 1 _ rfl (aj rfl)) dU dz (fun i hi=> (hB.cell (p:=⟨q,0+i,none⟩) Vq).trans (HC6.out i hi))) rfl
     ·intro a w7 hB hF hS;have ha:=aI rfl rfl hF [_,_,_] rfl ⟨hS 0 _ rfl (by decide),hS 1 _ rfl (by decide),hS 2 _ rfl (by decide),trivial⟩;simp only [puts,List.take_succ_cons,List.take_zero,Act.put,dH,dI,dJ] at ha;subst ha;change tl _ _ _ (_::_:: []) _ _;clear hS hF;have OI:=xu.kept hB;have hb7:=hb6.trans (hB.mono hb6.size);refine uX rfl (aW 22 _ _ rfl .u8 w.heap.size 32 (fun _=> 0) TG dz rfl rfl OI ?_);refine NW rfl _ (.inr rfl) (LM ?_);have Sj:=OI.setRow 32 TG;have OH:=aA hb7 (bB _) (arr .u8 32 TG);clear xu hb6 OI hb7 hB;simp only [Act.put,Act.eval,dH,dI,dJ];go_wp2;exact bodyPost_ret (eY rfl _ _ .u8 w.heap.size 32 _ 5 rfl Sj dU dz) rfl ⟨rfl,OH⟩
end Go.Proofs.YtpcjekgfnfjbpaaGreat
