/-
  Part 31 of SuiteHides. Conditions: named in each theorem.
-/
import Derived.Test.YtpcjekgfnfjbpaaGreatPkSuiteHides28
import Derived.Test.YtpcjekgfnfjbpaaGreatPkSuiteHides30
import Derived.Test.YtpcjekgfnfjbpaaGreatPkSuiteHides23
import Derived.Test.YtpcjekgfnfjbpaaGreatPkSuiteHides25
set_option linter.unusedVariables false
set_option linter.unusedSimpArgs false
set_option maxRecDepth 100000
set_option maxHeartbeats 6400000
namespace Go.aQ
open Go.RowKit
theorem Rd.wC {k:IntKind} {w:World} {a:Option Addr} {n c:Nat} {f:Nat->Int} (h:Rd k w (.slice a n c) n f) (hn:0<n):∃b o,a=some ⟨b,o,none⟩/\b<w.heap.size/\∀i,i<n->w.cell? ⟨b,o+i,none⟩=some (.int k (f i)):=by
 obtain ⟨a',c',he,_,_,_,h4⟩:=h;obtain ⟨b,o,rfl,hb,hc⟩:=h4 hn;simp only [Value.slice.injEq,true_and] at he;exact ⟨b,o,he.1,hb,hc⟩
theorem Az {P:Program} {w:World} {ops:Array Oper} {rest:List Oper} {o:Oper} {a:Act} {Q:Exit->Act->World->Prop} (hg:o.guard=none)
  (s x:Operand) (t:TypeId) (hop:o.op=.call { callee:=.builtin .append,args:=#[s,x],argTypes:=#[t,t] })
  (base:Nat) (e:TypeId) (bytes:Nat) (h1:P.underlying t=some (.slice e)) (hinfo:(P.info? e).map (fun i=> (i.zero,i.size,i.bytes))=some (some (.slice none 0 0),1,bytes))
  (v:Value) (m:Nat) (lens:Nat->Nat) (g:Nat->Nat->Int) (hown:dF e base w v m lens g) (hs:a.eval s=v)
  (u:Value) (m2:Nat) (Nc:Nat->Value) (uQ:Nat->Nat) (g2:Nat->Nat->Int) (htx:AQ w u m2 Nc uQ g2) (LW:∀j,j<m2->0<uQ j->(Nc j).ownBlock≠v.ownBlock) (hx:a.eval x=u)
  (b2:(m+m2) * bytes<=140737488355328) (b3:m+m2<=140737488355328) (b4:base<=w.heap.size)
  (hK:∀v' w',dF e base w' v' (m+m2) (jw m lens uQ) (lF m g g2)->w.grownBy w' v.ownBlock->(∀b,v'.ownBlock=some b->base<=b)->Placed w v v'->wpList P ops Q rest (a.put o.dst v') w'):
  wpList P ops Q (o::rest) a w:=
 wpList_plain hg fun _ hK'=> Bf s x t hop base e bytes h1 hinfo v m lens g hown hs u m2 Nc uQ g2 htx LW hx b2 b3 b4 fun v' w' q1 q2 q3 q4=> hK' _ _ (hK v' w' q1 q2 q3 q4)
theorem Jm {P:Program} {w:World} {ops:Array Oper} {rest:List Oper} {o:Oper} {a:Act} {Q:Exit->Act->World->Prop} (hg:o.guard=none) (d s:Operand) (dT sT:TypeId) (ho:o.op=.call { callee:=.builtin .copy,args:=#[d,s],argTypes:=#[dT,sT] }) {e:TypeId} {k:IntKind} (g off dLen dCap n:Nat) (f:Nat->Int) (hu:P.underlying dT=some (.slice e)) (hsz:(P.info? e).map (·.size)=some 1)
  (hd:a.eval d=.slice (some ⟨g,off,none⟩) dLen dCap) (hA:aD k w g n f) (u:Value) (m:Nat) (h:Nat->Int) (hr:Rd k w u m h) (hs:a.eval s=u) (hm:m<=dLen) (hf:off+m<=n)
  (hK:wpList P ops Q rest (a.put o.dst (goInt m)) (w.setRow g (arr k n (laid f off m h)))):wpList P ops Q (o::rest) a w:=
 wpList_plain hg fun _ hK'=> lg d s dT sT ho g off dLen dCap n f hu hsz hd hA u m h hr hs hm hf (hK' _ _ hK)
theorem aaM {w w':World} {v u:Value} {n m:Nat} {f g:Nat->Int} {T:TypeId} (h:Rd .u8 w v n f) (h':Rd .u8 w u m g) (hb:Below w.heap.size w w'):
  qm (w'.alloc (.cells [v,u].toArray T)) (.slice (some ⟨w'.heap.size,0,none⟩) 2 2) 2 (jw 1 (fun _=> n) (fun _=> m)) (lF 1 (fun _=> f) (fun _=> g)):=
 qm.new (by decide) fun j hj=> by
  rcases (by omega:j=0\/j=1) with rfl | rfl
  ·exact ⟨v,rfl,h.below hb⟩
  ·exact ⟨u,rfl,h'.below hb⟩
end Go.aQ
namespace Go.Proofs.YtpcjekgfnfjbpaaGreat
open Go.RowKit Go.aQ
attribute [local go_sem ↓] Go.wp_at_zero Go.wp_at_succ
theorem RL (v:Value) (n:Nat) (f:Nat->Int) (w:World) (hv:qm w v 1 (fun _=> n) (fun _=> f)) (hn:n<=1000000) (hf:∀i,i<n->0<=f i/\f i<256):
  Calls Tryz.prog 139 #[v] w fun e w'=> e=.returned (.agg (arr .u8 64 (kr n f)))/\Below w.heap.size w w':=
 Ng v 1 _ _ n f w hv (Fg (f:=f) (n:=n)).1 (Fg (f:=f) (n:=n)).2 hn hf
theorem Tryz.infoTxt:(Tryz.prog.info? 23).map (fun i=> (i.zero,i.size,i.bytes))=some (some (.slice none 0 0),1,24):=by kernel_rfl
theorem Tryz.undTxt:Tryz.prog.underlying 55=some (.slice 23):=by kernel_rfl
theorem wW (v:Value) (a m n:Nat) (lens:Nat->Nat) (f F:Nat->Int) (g:Nat->Nat->Int) (w:World) (hv:qm w v (1+m) (jw 1 (fun _=> a) lens) (lF 1 (fun _=> f) g)) (hg:∀j,j<m->∀i,i<lens j->F (bV lens j+i)=g j i) (hn:bV lens m=n) (hl:a+n<=1000000)
  (hf:∀i,i<a->0<=f i/\f i<256) (hF:∀i,i<n->0<=F i/\F i<256):
  Calls Tryz.prog 139 #[v] w fun e w'=> e=.returned (.agg (arr .u8 64 (kr (a+n) (gK a f F))))/\Below w.heap.size w w':=by
 have h1:bV (fun _=> a) 1=a:=by simp [bV]
 have h2:=rP (F1:=f) (F2:=F) (Fg (f:=f) (n:=a)).1 hg;rw [h1] at h2;exact Ng v (1+m) _ _ (a+n) _ w hv h2 (by rw [qQ,h1,hn]) hl (fO hf hF)
theorem Ji (v:Value) (n:Nat) (key:Nat->Int) (c:Int) (w:World) (hv:Rd .u8 w v n key) (hn:n<=1000000) (hk:∀i,i<n->0<=key i/\key i<256) (hc:0<=c/\c<256):
  Calls Tryz.prog 227 #[v,.int .u8 c] w fun e w'=> ∃u,e=.returned u/\Rd .u8 w' u 128 (sj n key c)/\Below w.heap.size w w':=by
 obtain ⟨PK,ZC⟩:∃PK,PK=sj n key c:=⟨_,rfl⟩
 have HK:=ak hk;have Km:Hid (∀i,0<=uT n key i/\uT n key i<256):=LG hk;have HPK:Hid (∀i,bits .xor .u8 (uT n key i) c=PK i):=by rw [ZC];exact fun i=> rfl
 obtain ⟨KK,Wz⟩:∃KK,KK=uT n key:=⟨_,rfl⟩
 have HK1:Hid (128<n->∀i,i<128->laid (fun _=> 0) 0 64 (kr n key) i=KK i):=by
  rw [Wz];intro h i hi;unfold laid uT;rw [if_pos h];by_cases q:i<64
  ·rw [if_pos (by omega),if_pos q,Nat.sub_zero]
  ·rw [if_neg (by omega),if_neg q]
 have HK2:Hid (¬ 128<n->∀i,i<128->laid (fun _=> 0) 0 n key i=KK i):=by
  rw [Wz];intro h i hi;unfold laid uT;rw [if_neg h];by_cases q:i<n
  ·rw [if_pos (by omega),if_pos q,Nat.sub_zero]
  ·rw [if_neg (by omega),if_neg q]
 rw [<-ZC];rw [<-Wz] at Km HPK;have HV:=ak hv;have HS:=ak (fun v w (h:qm w v 1 (fun _=> n) (fun _=> key))=> RL v n key w h hn hk);obtain ⟨va,vc,rfl,v1,v2,_,_⟩:=hv;obtain ⟨c0,c1⟩:=hc;clear hk ZC Wz;by_cases hlong:128<n
 case' pos=>
  go_enter Tryz.func227,Tryz.ntmps227
  go_wp2_with fail;refine (HS.out _ _ (new1 (T:=23) HV.out (bA _ _))).mono ?_;rintro e w1 ⟨rfl,hb1⟩;have eT:Below w.heap.size w w1:=((bA w.heap.size w).alloc (aP _) _).trans (hb1.mono (by simp));clear hb1;go_upto_region 3 with (refine aH rfl 47 _ _ rfl .u8 w1.heap.size 64 (fun _=> 0) _ FV rfl rfl (bg rfl (by rfl)) ?_);refine aC (fun w2=> aD .u8 w2 w1.heap.size 64 (kr n key)/\Below w.heap.size w w2) ⟨(bg rfl (by rfl):aD .u8 _ _ 64 (fun _=> 0)).setRow _ _,ay (eT.alloc eT.size _) eT.size _⟩ ?_;rintro w2 ⟨hA,hb2⟩;obtain ⟨q,hq⟩:∃q,q=w1.heap.size:=⟨_,rfl⟩
  rw [<-hq] at hA ⊢;clear hq eT;simp only [Act.put];go_upto_region 3 with (fail)
  refine aT (n:=33) (by kernel_rfl) (by kernel_rfl) (by kernel_rfl) rfl
   (fun ii vv _=> (match ii with | 0 | 1=> vv=.slice (some ⟨q,0,none⟩) 64 64 | _=> True))
   (fun w w'=> Below w.heap.size w w') (fun _ _ h=> h) (fun _ _ _ _ h _=> h) ?_ ?_
  ·refine dD ?_;refine ⟨?_,?_,trivial⟩
   ·intro a w2 hB hF hd;exact aG <| aO (eB rfl (hF.same 5 rfl) Tryz.underlying47 (by kernel_rfl)) rfl
   ·intro a w2 hB hF hd;exact aG <| lS rfl (hd 0 _ rfl (aj rfl))
  ·intro a w3 hB hF hS;have ha:=aK rfl rfl hF [_,_] rfl ⟨hS 0 _ rfl,hS 1 _ rfl,trivial⟩;simp only [puts,Act.put,dS,dU,dV] at ha;subst ha;clear hS hF;have hb3:=hb2.trans (hB.mono hb2.size);have hs3:=hb3.size;have WK:Hid (Rd .u8 w3 (.slice (some ⟨q,0,none⟩) 64 64) 64 (kr n key)):=(hA.kept hB).rd (by decide);have HL:Hid (∀i,i<128->laid (fun _=> 0) 0 64 (kr n key) i=KK i):=HK1.out hlong;obtain ⟨k0,hk0⟩:∃k0,k0=kr n key:=⟨_,rfl⟩
   rw [<-hk0] at WK HL;clear hA hb2 hB hk0
   go_upto_region 6 with (first
    | (refine iJ rfl _ _ 23 rfl w.heap.size 5 .u8 1 fQ iW .i64 .i64 128 rfl rfl (by decide) (by decide) hb3.size ?_;intro w4 hown hgrow;have wB:=hown.rows.arr;have Uv:=WK.out.below (bU (bA w3.heap.size w3) hgrow (aP _)))
    | (refine Jm rfl _ _ 23 23 rfl (e:=5) (k:=.u8) w3.heap.size 0 128 128 128 (fun _=> 0) fQ Tryz.size5 rfl wB _ 64 k0 Uv rfl (by omega) (by omega) ?_))
   refine aC (fun w5=> aD .u8 w5 w3.heap.size 128 KK/\Below w.heap.size w w5) ⟨(wB.setRow _ _).congr HL.out,ay (bU hb3 hgrow hs3) hs3 _⟩ ?_;rintro w5 ⟨tH,hb5⟩;obtain ⟨G,hG⟩:∃G,G=w3.heap.size:=⟨_,rfl⟩
   have hGl:w.heap.size<=G:=by rw [hG];exact hs3
   rw [<-hG] at tH ⊢;clear hG wB Uv hown hgrow WK HL;simp only [Act.put,dS,dU,dV];go_wp2
   go_loopw [21] (fun u wr=> ∃i:Nat,i<=128/\u=.int .i64 (i:Int)/\aD .u8 wr G 128 (upto i PK KK)/\Below w.heap.size w wr) (fun u _=> 128 - (intOf u).toNat)
   case atStart=> exact ⟨0,dR _,rfl,by rw [bF];exact tH,hb5⟩
   case round=>
    clear tH hb5;obtain ⟨i,hi,rfl,hA,hbel⟩:=hrel;have HA:=ak hA;clear hA;by_cases hlt:i<128
    ·have e1:=HA.out.cell i hlt;rw [upto_at] at e1;have f1:=HA.out.free i;obtain ⟨x,hx⟩:∃x,x=KK i:=⟨_,rfl⟩
     have x01:=Km.out i;have hp:=HPK.out i;rw [<-hx] at e1 x01 hp;have HX:=ak hx;obtain ⟨x0,x1⟩:=x01;clear hx;go_wp2;go_roundw
     case rel=> exact ⟨i+1,by omega,by go_num,by rw [<-aY (j:=i) (g:=PK) (f:=KK) rfl];exact HA.out.set i _,hbel.setCell hGl _⟩
     case measure=> simp [intOf] <;> omega
    ·obtain rfl:i=128:=by omega
     have hR:=(HA.out.congr (g:=PK) (bP PK KK (aP _))).rd (by decide);clear HA;go_wp2;go_ret;exact ⟨_,rfl,hR,hbel⟩
 case' neg=>
  go_enter Tryz.func227,Tryz.ntmps227
  have afj:n<=128:=by omega
  have WK:=HV;have HL:Hid (∀i,i<128->laid (fun _=> 0) 0 n key i=KK i):=HK2.out hlong
  go_upto_region 6 with (first
   | (refine iJ rfl _ _ 23 rfl w.heap.size 5 .u8 1 fQ iW .i64 .i64 128 rfl rfl (by decide) (by decide) (aP _) ?_;intro w4 hown hgrow;have wB:=hown.rows.arr;have Uv:=WK.out.below (bU (bA w.heap.size w) hgrow (aP _)))
   | (refine Jm rfl _ _ 23 23 rfl (e:=5) (k:=.u8) w.heap.size 0 128 128 128 (fun _=> 0) fQ Tryz.size5 rfl wB _ n key Uv rfl (by omega) (by omega) ?_))
  refine aC (fun w5=> aD .u8 w5 w.heap.size 128 KK/\Below w.heap.size w w5) ⟨(wB.setRow _ _).congr HL.out,ay (bU (bA _ _) hgrow (aP _)) (aP _) _⟩ ?_;rintro w5 ⟨tH,hb5⟩;obtain ⟨G,hG⟩:∃G,G=w.heap.size:=⟨_,rfl⟩
  have hGl:w.heap.size<=G:=by rw [hG];exact (aP _)
  rw [<-hG] at tH ⊢;clear hG wB Uv hown hgrow WK HL;simp only [Act.put,dS,dU,dV];go_wp2
  go_loopw [21] (fun u wr=> ∃i:Nat,i<=128/\u=.int .i64 (i:Int)/\aD .u8 wr G 128 (upto i PK KK)/\Below w.heap.size w wr) (fun u _=> 128 - (intOf u).toNat)
  case atStart=> exact ⟨0,dR _,rfl,by rw [bF];exact tH,hb5⟩
  case round=>
   clear tH hb5;obtain ⟨i,hi,rfl,hA,hbel⟩:=hrel;have HA:=ak hA;clear hA;by_cases hlt:i<128
   ·have e1:=HA.out.cell i hlt;rw [upto_at] at e1;have f1:=HA.out.free i;obtain ⟨x,hx⟩:∃x,x=KK i:=⟨_,rfl⟩
    have x01:=Km.out i;have hp:=HPK.out i;rw [<-hx] at e1 x01 hp;have HX:=ak hx;obtain ⟨x0,x1⟩:=x01;clear hx;go_wp2;go_roundw
    case rel=> exact ⟨i+1,by omega,by go_num,by rw [<-aY (j:=i) (g:=PK) (f:=KK) rfl];exact HA.out.set i _,hbel.setCell hGl _⟩
    case measure=> simp [intOf] <;> omega
   ·obtain rfl:i=128:=by omega
    have hR:=(HA.out.congr (g:=PK) (bP PK KK (aP _))).rd (by decide);clear HA;go_wp2;go_ret;exact ⟨_,rfl,hR,hbel⟩
theorem UY (vk:Value) (nk:Nat) (key:Nat->Int) (vp:Value) (m:Nat) (lens:Nat->Nat) (g:Nat->Nat->Int) (n:Nat) (F:Nat->Int) (w:World) (hv:Rd .u8 w vk nk key) (hk1:nk<=1000000) (hk:∀i,i<nk->0<=key i/\key i<256)
  (hp:qm w vp m lens g) (hm:m<=1000000) (hg:∀j,j<m->∀i,i<lens j->F (bV lens j+i)=g j i) (hn:bV lens m=n) (hn2:n<=900000) (hF:∀i,i<n->0<=F i/\F i<256):
  Calls Tryz.prog 177 #[vk,vp] w fun e w'=> e=.returned (.agg (arr .u8 64 (uh nk key n F)))/\Below w.heap.size w w':=by
 obtain ⟨K1,hK1⟩:∃K1,K1=sj nk key 54:=⟨_,rfl⟩
 obtain ⟨K2,hK2⟩:∃K2,K2=sj nk key 92:=⟨_,rfl⟩
 have Wh:=ak (fun w h=> Ji vk nk key 54 w h hk1 hk (by decide));have Rh:=ak (fun w h=> Ji vk nk key 92 w h hk1 hk (by decide));have HB1:Hid (∀i,i<128->0<=K1 i/\K1 i<256):=by rw [hK1];exact fun i _=> pK _ _ _ i
 have HB2:Hid (∀i,i<128->0<=K2 i/\K2 i<256):=by rw [hK2];exact fun i _=> pK _ _ _ i
 obtain ⟨S1,hS1⟩:∃S1,S1=kr (128+n) (gK 128 K1 F):=⟨_,rfl⟩
 have vN:Hid (∀i,i<64->0<=S1 i/\S1 i<256):=by rw [hS1];exact fun i _=> kG _ _ i
 obtain ⟨TG,Me⟩:∃TG,TG=kr (128+64) (gK 128 K2 S1):=⟨_,rfl⟩
 have FN:=ak (fun v w h=> wW v 128 m n lens K1 F g w h hg hn (by omega) HB1.out hF);have HS2:=ak (fun v w h=> wW v 128 1 64 (fun _=> 64) K2 S1 (fun _=> S1) w h (Fg (f:=S1) (n:=64)).1 (Fg (f:=S1) (n:=64)).2 (by decide) HB2.out vN.out);have e1:uh nk key n F=TG:=by rw [Me,hS1,hK1,hK2];rfl
 rw [e1];rw [<-hS1] at FN;rw [<-Me] at HS2;rw [<-hK1] at Wh;rw [<-hK2] at Rh;have HV:=ak hv;have HT:=ak hp;obtain ⟨va,vc,rfl,v1,v2,_,_⟩:=hv;obtain ⟨pa,pc,rfl,p1,p2,_⟩:=hp;clear hk hg hn hF hS1 Me e1 hK1 hK2
 go_enter Tryz.func177,Tryz.ntmps177
 go_upto_region 1 with (fail);refine aC (fun w1=> aD .u8 w1 w.heap.size 64 (fun _=> 0)/\Below w.heap.size w w1/\w1.heap.size=w.heap.size+1) ⟨bg rfl (by rfl),(bA _ _).alloc (aP _) _,by simp⟩ ?_;rintro w1 ⟨hZ,hb1,hs1⟩;have JQ:=ak (HV.out.below hb1);have HT1:=ak (HT.out.below hb1);clear HV HT;go_wp2_with fail;refine (Wh.out _ JQ.out).mono ?_;rintro e w2 ⟨u,rfl,hu,hb2⟩;have hZ2:=hZ.kept hb2;have bq:=hb1.trans (hb2.mono hb1.size);have Om:=ak (JQ.out.below hb2);obtain ⟨us,hU⟩:=(HT1.out.below hb2).adY;have HU:=ak hU;have HUR:=ak hu;have hs2:=bq.size;clear hZ hb1 hs1 hb2 JQ HT1 hU hu;obtain ⟨ua,uc,rfl,u1,u2,_,_⟩:=id HUR.out;have hO1:=ak (dF.aiY (e:=23) (aP w2.heap.size) HUR.out);have hU1:=ak (HU.out.below ((bA w2.heap.size w2).alloc (aP _) (.cells #[.slice ua 128 uc] 23)));have hF1:=ak (HU.out.far (u:=.slice (some ⟨w2.heap.size,0,none⟩) 1 1) (by intro b hb;simp [Value.ownBlock] at hb;omega));go_wp2_with (at_builtin;refine Az rfl _ _ 55 rfl w2.heap.size 23 24 Tryz.undTxt Tryz.infoTxt _ 1 (fun _=> 128) (fun _=> K1) hO1.out rfl _ m us lens g hU1.out hF1.out rfl (by omega) (by omega) (by simp) ?_;intro v3 w3 hown3 ES ajG ajp);have hb3:Below w.heap.size w w3:=(bq.alloc hs2 _).grown ES (by simp;omega) (fun b hb=> by simp [Value.ownBlock] at hb;omega);have hlow:Below w2.heap.size w2 w3:=((bA w2.heap.size w2).alloc (aP _) _).grown ES (by simp) (fun b hb=> by simp [Value.ownBlock] at hb;omega);have FM:=ak (Om.out.below hlow);have hZ3:=hZ2.kept hlow;have HT3:=ak hown3.txt;clear hown3 ES ajG ajp hZ2 bq Om HU hO1 hU1 hF1 hlow;refine (FN.out _ _ HT3.out).mono ?_;rintro e w4 ⟨rfl,hb4⟩;have bQ:=hb3.trans (hb4.mono hb3.size);have ZM:=ak (FM.out.below hb4);have pV:=hZ3.kept hb4;have hzl:=pV.lt;clear hb3 hb4 FM hZ3 HT3;go_upto_region 2 with (refine aH rfl 47 _ _ rfl .u8 w4.heap.size 64 (fun _=> 0) S1 FV rfl rfl (bg rfl (by rfl)) ?_)
 refine aC (fun w5=> aD .u8 w5 w4.heap.size 64 S1/\aD .u8 w5 w.heap.size 64 (fun _=> 0)/\Below w.heap.size w w5/\Rd .u8 w5 (.slice va nk vc) nk key)
  ⟨(bg rfl (by rfl):aD .u8 _ _ 64 (fun _=> 0)).setRow _ _,aD.aA (aD.alloc pV _) _ (by omega) _,ay (bQ.alloc bQ.size _) bQ.size _,ZM.out.below (ay ((bA w4.heap.size w4).alloc (aP _) _) (aP _) _)⟩ ?_
 rintro w5 ⟨tH,nC,hb5,hv5⟩;have HV5:=ak hv5;obtain ⟨q,hq⟩:∃q,q=w4.heap.size:=⟨_,rfl⟩
 rw [<-hq] at tH ⊢;clear hq pV bQ hv5 ZM;simp only [Act.put]
 refine iF (n:=17) 5 rfl (by decide) (by kernel_rfl) (by kernel_rfl) (by kernel_rfl) (by kernel_rfl) rfl
  (fun ii vv ww=> (match ii with | 0=> vv=.slice va nk vc | 2=> vv=.slice (some ⟨q,0,none⟩) 64 64 | 4=> vv=.agg (arr .u8 64 (TG)) | _=> True)/\(ii=1->Rd .u8 ww vv 128 (K2))/\(ii=3->qm ww vv 2 (jw 1 (fun _=> 128) (fun _=> 64)) (lF 1 (fun _=> K2) (fun _=> S1))))
  (fun w w'=> Below w.heap.size w w') (fun _ _ h=> h) (fun i v w w' h hE=> ⟨h.1,fun e=> Rd.below (h.2.1 e) hE,fun e=> qm.below (h.2.2 e) hE⟩) rfl ?_ ?_
 ·refine dD ?_;refine ⟨?_,?_,?_,?_,?_,(fun h=> absurd rfl h),trivial⟩
  ·intro _ a w2 hB hF hd;exact aG <| bJ rfl ⟨(hF.same 0 rfl),aF,aF⟩
  ·intro _ a w2 hB hF hd;refine aG <| aI _ _ _ rfl Tryz.call227 _ (args2 ((hd 0 _ rfl (aj rfl)).1) rfl) (by simp) ((Rh.out _ (HV5.out.below hB)).mono ?_);rintro e w3 ⟨u,rfl,hr,hb⟩;exact ⟨u,rfl,⟨trivial,fun _=> hr,aF⟩,hb⟩
  ·intro _ a w2 hB hF hd;exact aG <| aO (eB rfl (hF.same 5 rfl) Tryz.underlying47 (by kernel_rfl)) ⟨rfl,aF,aF⟩
  ·intro _ a w2 hB hF hd;exact aG <| dW 55 23 2 _ [a.eval (Operand.tmp 13),.slice (some ⟨q,0,none⟩) 64 64] rfl Tryz.underlying55 (by kernel_rfl) (by kernel_rfl) rfl (by decide) (by decide) (by intro v hv;simp only [List.mem_cons,List.not_mem_nil,or_false] at hv;rcases hv with rfl | rfl;exact Rd.wO ((hd 1 _ rfl (aj rfl)).2.1 rfl);rfl) (by simp only [qy,List.map_cons,List.map_nil,show a.eval (Operand.tmp 14)=.slice (some ⟨q,0,none⟩) 64 64 from ((hd 2 _ rfl (aj rfl)).1)];rfl) (by simp) ⟨trivial,aF,fun _=> (aaM ((hd 1 _ rfl (aj rfl)).2.1 rfl) ((tH.kept hB).rd (by decide)) (bA _ _))⟩
  ·intro _ a w2 hB hF hd;refine aG <| aI _ _ _ rfl Tryz.call139 _ (args1 rfl) (by simp) ((HS2.out _ _ ((hd 3 _ rfl (aj rfl)).2.2 rfl)).mono ?_);rintro e w3 ⟨rfl,hb⟩;exact ⟨_,rfl,⟨rfl,aF,aF⟩,hb⟩
 ·intro a w6 hB hF hS;obtain ⟨x13,aeK⟩:∃x,x=a.tmps.getD 13 undef:=⟨_,rfl⟩
  obtain ⟨x15,aeJ⟩:∃x,x=a.tmps.getD 15 undef:=⟨_,rfl⟩
  have ha:=aK rfl rfl hF [_,x13,_,x15,_,undef] rfl ⟨(hS 0 _ rfl (by decide)).1,aeK.symm,(hS 2 _ rfl (by decide)).1,aeJ.symm,(hS 4 _ rfl (by decide)).1,trivial,trivial⟩;simp only [puts,Act.put,dS,dU,dV] at ha;subst ha;clear aeK aeJ;clear hS hF;have sG:=nC.kept hB;have hb6:=hb5.trans (hB.mono hb5.size);refine bB 47 _ _ rfl .u8 w.heap.size 64 (fun _=> 0) TG FV rfl rfl sG ?_;have IV:=sG.setRow 64 TG;have xE:=ay hb6 (aP _) (arr .u8 64 TG);clear nC hb5 tH sG hb6 hB;go_wp2;exact bodyPost_ret (aV rfl _ _ .u8 w.heap.size 64 _ 5 rfl IV Tryz.underlying47 FV) rfl ⟨rfl,xE⟩
theorem Tw (a:Option Addr) (n c:Nat) (h1:n<=1048576) (w:World):Calls Tryz.prog 175 #[.slice a n c] w fun e w'=> e=.returned (.bool false)/\w=w':=by
 have hl:decide ((1048576:Int)<(n:Int))=false:=decide_eq_false (by omega)
 go_enter Tryz.func175,Tryz.ntmps175
 go_wp2;go_ret;exact ⟨rfl,rfl⟩
theorem Iz (v:Value) (m:Nat) (lens:Nat->Nat) (g:Nat->Nat->Int) (w:World) (hv:qm w v m lens g) (hl:∀j,j<m->lens j<=1048576):
  Calls Tryz.prog 226 #[v,.func (.func 175) #[] #[]] w fun e w'=> e=.returned (.int .i64 (-1))/\w=w':=by
 have HL:=ak hl;obtain ⟨ta,tc,rfl,t1,t2,t3⟩:=hv;have HT3:=ak t3;clear hl t3
 go_enter Tryz.func226,Tryz.ntmps226
 go_wp2
 go_loop [8] (fun i=> ∃k:Nat,k<=m/\i=.int .i64 (k:Int)) (fun i=> m - (intOf i).toNat)
 case atStart=> exact ⟨0,dR _,rfl⟩
 case round=>
  obtain ⟨k,hk,rfl⟩:=hrel;by_cases hlt:k<m
  ·obtain ⟨tb,to,rfl,RD,kC⟩:=HT3.out (by omega);obtain ⟨u,hu,Ke⟩:=kC k hlt;obtain ⟨ua,uc,rfl,_,_,_,_⟩:=Ke;have hlk:=HL.out k hlt;clear kC;go_wp2_with fail;refine (Tw _ _ _ hlk _).mono ?_;rintro e w1 ⟨rfl,rfl⟩;go_wp2
   go_round
   case rel=> exact ⟨k+1,by omega,by go_num⟩
   case measure=> simp [intOf];omega
  ·obtain rfl:k=m:=by omega
   go_wp2;go_ret;exact ⟨rfl,rfl⟩
theorem IQ (v:Value) (m:Nat) (lens:Nat->Nat) (g:Nat->Nat->Int) (w:World) (hv:qm w v m lens g) (hl:∀j,j<m->lens j<=1048576):
  Calls Tryz.prog 176 #[v,.func (.func 175) #[] #[]] w fun e w'=> e=.returned (.bool false)/\Below w.heap.size w w':=by
 have H:=ak (Iz v m lens g w hv hl);clear hv hl
 go_enter Tryz.func176,Tryz.ntmps176
 go_wp2_with fail;refine H.out.mono ?_;rintro e w1 ⟨rfl,rfl⟩;go_wp2;go_ret;exact ⟨rfl,bA _ _⟩
theorem Jj (vf:Value) (nf:Nat) (from_:Nat->Int) (s:ByteArray) (vc:Value) (m:Nat) (lens:Nat->Nat) (g:Nat->Nat->Int) (w:World) (hf:Rd .u8 w vf nf from_) (hf0:0<nf) (hf1:nf<=1000000) (sQ:∀i,i<nf->0<=from_ i/\from_ i<256)
  (hs:s.size<=64) (hc:qm w vc m lens g) (hm:m<=16) (hl:∀j,j<m->lens j<=4000) (hg:∀j,j<m->∀i,i<lens j->0<=g j i/\g j i<256):
  Calls Tryz.prog 120 #[vf,.string s,vc] w fun e w'=> e=.returned (.tuple #[.agg (arr .u8 32 (uh nf from_ (oM s.size lens m) (sF s.size (pz s) lens g m))),.int .i64 0])/\Below w.heap.size w w':=by
 obtain ⟨NN,Kh⟩:∃NN,NN=oM s.size lens:=⟨_,rfl⟩
 obtain ⟨FF,Ad⟩:∃FF,FF=sF s.size (pz s) lens g:=⟨_,rfl⟩
 have ZQ:Hid (NN m<=900000):=by
  unfold Hid;rw [Kh];have h1:=NK (L:=s.size) hl m (aP _);have h2:m * (4+4000)<=16 * (4+4000):=Nat.mul_le_mul_right _ hm;omega
 have JW:Hid (∀i,i<NN m->0<=FF m i/\FF m i<256):=by rw [Kh,Ad];exact zY (by omega) (fun i _=> yV s i) hg m (aP _)
 have HST:Hid (∀e base w v,dF e base w v 2 (jw 1 (fun _=> 1) (fun _=> s.size)) (lF 1 (fun _=> fun _=> (s.size:Int)) (fun _=> pz s))->Parts e base w v 0 (NN 0) (FF 0)):=by rw [Kh,Ad];exact fun e base w v h=> Parts.start h
 have Ze:Hid (∀e base w' v' k l1 g1,(∀j,j<2+2 * k->∀i,i<l1 j->FF k (bV l1 j+i)=g1 j i)->bV l1 (2+2 * k)=NN k->
   dF e base w' v' (2+2 * k+2) (jw (2+2 * k) l1 (jw 1 (fun _=> 4) (fun _=> lens k))) (lF (2+2 * k) g1 (lF 1 (fun _=> Bv (lens k)) (fun _=> g k)))->Parts e base w' v' (k+1) (NN (k+1)) (FF (k+1))):=by
  rw [Kh,Ad];exact fun e base w' v' k l1 g1 h1 h2 h3=> Parts.step (w:=w') (v:=v') h1 h2 h3
 obtain ⟨TG,Me⟩:∃TG,TG=uh nf from_ (NN m) (FF m):=⟨_,rfl⟩
 have acX:Hid (∀vp mm l1 g1 w,Rd .u8 w vf nf from_->qm w vp mm l1 g1->mm<=1000000->(∀j,j<mm->∀i,i<l1 j->FF m (bV l1 j+i)=g1 j i)->bV l1 mm=NN m->
   Calls Tryz.prog 177 #[vf,vp] w fun e w'=> e=.returned (.agg (arr .u8 64 TG))/\Below w.heap.size w w'):=by
  rw [Me];exact fun vp mm l1 g1 w h1 h2 h3 h4 h5=> UY vf nf from_ vp mm l1 g1 (NN m) (FF m) w h1 hf1 sQ h2 h3 h4 h5 ZQ.out JW.out
 have HHL:=ak (fun w h=> IQ vc m lens g w h (fun j hj=> by have:=hl j hj;omega));have e1:uh nf from_ (oM s.size lens m) (sF s.size (pz s) lens g m)=TG:=by rw [Me,Kh,Ad]
 rw [e1];obtain ⟨L,hL⟩:∃L,L=s.size:=⟨_,rfl⟩
 have HSL:Hid (s.size=L):=hL.symm;have akc:L<=64:=by omega
 rw [<-hL] at HST;obtain ⟨lab,hlab⟩:∃lab,lab=pz s:=⟨_,rfl⟩
 rw [<-hlab] at HST;have alA:Hid (pz s=lab):=hlab.symm;have WJ:=ak hl;have HFR:=ak hf;have HC:=ak hc;obtain ⟨fa,fc,rfl,f1,f2,_,_⟩:=hf;obtain ⟨ca,cc,rfl,c1,c2,c3⟩:=hc;have HC3:=ak c3;have hlen:s.size<=64:=hs;clear sQ hg hl Kh Ad Me e1 hL hlab c3 hs
 go_enter Tryz.func120,Tryz.ntmps120
 go_upto_region 1 with (fail);refine aC (fun w1=> aD .u8 w1 w.heap.size 32 (fun _=> 0)/\Below w.heap.size w w1/\w1.heap.size=w.heap.size+1) ⟨bg rfl (by rfl),(bA _ _).alloc (aP _) _,by simp⟩ ?_;rintro w1 ⟨hZ,hb1,hs1⟩;have Wn:=ak (HFR.out.below hb1);have sW:=ak (HC.out.below hb1);clear HFR HC;have hnf:((nf:Int)==0)=false:=by simp;omega
 go_upto_region 4 with (fail)
 refine aT (n:=64) (by kernel_rfl) (by kernel_rfl) (by kernel_rfl) rfl
  (fun ii vv _=> (match ii with | 0=> vv=.string s | 1=> vv=.int .i64 ((s.size:Int)) | 2 | 3 | 6 | 7 | 8 | 11 | 12=> vv=.bool false | 4 | 9=> vv=.slice ca m cc | 5=> vv=.int .i64 ((m:Int)) | 10=> vv=.func (.func 175) #[] #[] | _=> True))
  (fun w w'=> Below w.heap.size w w') (fun _ _ h=> h) (fun _ _ _ _ h _=> h) ?_ ?_
 ·refine dD ?_;refine ⟨?_,?_,?_,?_,?_,?_,?_,?_,?_,?_,?_,?_,?_,trivial⟩
  ·intro a w2 hB hF hd;exact aG <| bJ rfl (hF.same 1 rfl)
  ·intro a w2 hB hF hd;exact aG <| aO (qM rfl (hd 0 _ rfl (aj rfl)) Tryz.underlying9) rfl
  ·intro a w2 hB hF hd;exact aG <| aO (Go.aQ.yA rfl (hd 1 _ rfl (aj rfl)) rfl) (congrArg Value.bool (decide_eq_false (by omega)))
  ·intro a w2 hB hF hd;exact aG <| bJ rfl (hd 2 _ rfl (aj rfl))
  ·intro a w2 hB hF hd;refine aS (aX rfl rfl (hd 3 _ rfl (aj rfl)) rfl) ?_;exact bJ rfl (hF.same 2 rfl)
  ·intro a w2 hB hF hd;refine aS (aX rfl rfl (hd 3 _ rfl (aj rfl)) rfl) ?_;exact aO (mO rfl (hd 4 _ rfl (aj rfl)) Tryz.underlying55) rfl
  ·intro a w2 hB hF hd;refine aS (aX rfl rfl (hd 3 _ rfl (aj rfl)) rfl) ?_;exact aO (Go.aQ.yA rfl (hd 5 _ rfl (aj rfl)) rfl) (congrArg Value.bool (decide_eq_false (by omega)))
  ·intro a w2 hB hF hd;exact aG <| aO (jQ rfl (hd 3 _ rfl (aj rfl))) ((hd 6 _ rfl (aj rfl)))
  ·intro a w2 hB hF hd;exact aG <| bJ rfl (hd 7 _ rfl (aj rfl))
  ·intro a w2 hB hF hd;refine aS (aX rfl rfl (hd 8 _ rfl (aj rfl)) rfl) ?_;exact bJ rfl (hF.same 2 rfl)
  ·intro a w2 hB hF hd;refine aS (aX rfl rfl (hd 8 _ rfl (aj rfl)) rfl) ?_;exact bJ rfl (hF.same 8 rfl)
  ·intro a w2 hB hF hd;refine aS (aX rfl rfl (hd 8 _ rfl (aj rfl)) rfl) ?_;refine aI _ _ _ rfl Tryz.call176 _ (args2 (hd 9 _ rfl (aj rfl)) (hd 10 _ rfl (aj rfl))) (by simp) ((HHL.out _ (sW.out.below hB)).mono ?_);rintro e w3 ⟨rfl,hb⟩;exact ⟨_,rfl,rfl,hb⟩
  ·intro a w2 hB hF hd;exact aG <| aO (jQ rfl (hd 8 _ rfl (aj rfl))) ((hd 11 _ rfl (aj rfl)))
 ·intro a wz hB hF hS;have ha:=aK rfl rfl hF [_,_,_,_,_,_,_,_,_,_,_,_,_] rfl ⟨hS 0 _ rfl,hS 1 _ rfl,hS 2 _ rfl,hS 3 _ rfl,hS 4 _ rfl,hS 5 _ rfl,hS 6 _ rfl,hS 7 _ rfl,hS 8 _ rfl,hS 9 _ rfl,hS 10 _ rfl,hS 11 _ rfl,hS 12 _ rfl,trivial⟩;simp only [puts,Act.put,dS,dU,dV] at ha;subst ha;clear hS hF;have hb2:=hb1.trans (hB.mono hb1.size);have hZ2:=hZ.kept hB;have ahj:=ak (Wn.out.below hB);have Ou:=ak (sW.out.below hB);have U35:Hid (IntKind.u8.wrap (s.size:Int)=(L:Int)):=by unfold Hid;rw [HSL.out,IntKind.wrap_u8];omega
  clear hZ hs1 hB Wn sW HHL hb1;go_upto_region 6 with (fail)
  refine aT (n:=64) (by kernel_rfl) (by kernel_rfl) (by kernel_rfl) rfl
   (fun ii vv ww=> (match ii with | 0 | 4=> vv=.string s | 1=> vv=.int .i64 ((s.size:Int)) | 2=> vv=.int .u8 ((L:Int)) | _=> True)/\(ii=3->Rd .u8 ww vv 1 (fun _=> (L:Int)))/\(ii=5->Rd .u8 ww vv L (lab))/\(ii=6->dF 23 wz.heap.size ww vv 2 (jw 1 (fun _=> 1) (fun _=> L)) (lF 1 (fun _=> fun _=> (L:Int)) (fun _=> lab)))/\(ii=7->dF 23 wz.heap.size ww vv 2 (jw 1 (fun _=> 1) (fun _=> L)) (lF 1 (fun _=> fun _=> (L:Int)) (fun _=> lab))))
   (fun w w'=> Below w.heap.size w w') (fun _ _ h=> h) (fun i v w w' h hE=> ⟨h.1,fun e=> Rd.below (h.2.1 e) hE,fun e=> Rd.below (h.2.2.1 e) hE,fun e=> dF.below (h.2.2.2.1 e) hE,fun e=> dF.below (h.2.2.2.2 e) hE⟩) ?_ ?_
  ·refine dD ?_;refine ⟨?_,?_,?_,?_,?_,?_,?_,?_,trivial⟩
   ·intro a w2 hB hF hd;exact aG <| bJ rfl ⟨(hF.same 1 rfl),aF,aF,aF,aF⟩
   ·intro a w2 hB hF hd;exact aG <| aO (qM rfl ((hd 0 _ rfl (aj rfl)).1) Tryz.underlying9) ⟨rfl,aF,aF,aF,aF⟩
   ·intro a w2 hB hF hd;exact aG <| aO (qN rfl ((hd 1 _ rfl (aj rfl)).1) Tryz.underlying3 FD) ⟨(congrArg (Value.int .u8) (U35.out)),aF,aF,aF,aF⟩
   ·intro a w2 hB hF hd;exact aG <| dW 23 5 1 _ [.int .u8 ((L:Int))] rfl fQ (by kernel_rfl) (by kernel_rfl) rfl (by decide) (by decide) (by intro v hv;simp only [List.mem_cons,List.not_mem_nil,or_false] at hv;rcases hv with rfl<;> rfl) (by simp only [qy,List.map_cons,List.map_nil,show a.eval (Operand.tmp 35)=.int .u8 ((L:Int)) from ((hd 2 _ rfl (aj rfl)).1)];rfl) (by simp) ⟨trivial,fun _=> (nP),aF,aF,aF⟩
   ·intro a w2 hB hF hd;exact aG <| bJ rfl ⟨(hF.same 1 rfl),aF,aF,aF,aF⟩
   ·intro a w2 hB hF hd;refine aG <| BI (e:=5) (fun h=> by cases h) rfl ((hd 4 _ rfl (aj rfl)).1) Tryz.underlying9 fQ FD (by omega) ?_;intro vq wq hq;rw [HSL.out,alA.out] at hq;exact ⟨trivial,aF,fun _=> hq,aF,aF⟩
   ·intro a w2 hB hF hd;exact aG <| dW 55 23 2 _ [a.eval (Operand.tmp 36),a.eval (Operand.tmp 38)] rfl Tryz.underlying55 (by kernel_rfl) (by kernel_rfl) rfl (by decide) (by decide) (by intro v hv;simp only [List.mem_cons,List.not_mem_nil,or_false] at hv;rcases hv with rfl | rfl;exact Rd.wO ((hd 3 _ rfl (aj rfl)).2.1 rfl);exact Rd.wO ((hd 5 _ rfl (aj rfl)).2.2.1 rfl)) (by simp only [qy,List.map_cons,List.map_nil];rfl) (by simp) ⟨trivial,aF,aF,fun _=> (dF.aaY hB.size ((hd 3 _ rfl (aj rfl)).2.1 rfl) ((hd 5 _ rfl (aj rfl)).2.2.1 rfl)),aF⟩
   ·intro a w2 hB hF hd;exact aG <| lS rfl ⟨trivial,aF,aF,aF,fun _=> ((hd 6 _ rfl (aj rfl)).2.2.2.1 rfl)⟩
  ·intro a w3 hB hF hS;obtain ⟨x36,LQ⟩:∃x,x=a.tmps.getD 36 undef:=⟨_,rfl⟩
   have P36:Rd .u8 w3 x36 1 (fun _=> (L:Int)):=by rw [LQ];exact (hS 3 _ rfl).2.1 rfl
   obtain ⟨x38,hx38⟩:∃x,x=a.tmps.getD 38 undef:=⟨_,rfl⟩
   have P38:Rd .u8 w3 x38 L (lab):=by rw [hx38];exact (hS 5 _ rfl).2.2.1 rfl
   obtain ⟨x39,hx39⟩:∃x,x=a.tmps.getD 39 undef:=⟨_,rfl⟩
   have P39:dF 23 wz.heap.size w3 x39 2 (jw 1 (fun _=> 1) (fun _=> L)) (lF 1 (fun _=> fun _=> (L:Int)) (fun _=> lab)):=by rw [hx39];exact (hS 6 _ rfl).2.2.2.1 rfl
   obtain ⟨x9,hx9⟩:∃x,x=a.tmps.getD 9 undef:=⟨_,rfl⟩
   have P9:dF 23 wz.heap.size w3 x9 2 (jw 1 (fun _=> 1) (fun _=> L)) (lF 1 (fun _=> fun _=> (L:Int)) (fun _=> lab)):=by rw [hx9];exact (hS 7 _ rfl).2.2.2.2 rfl
   have ha:=aK rfl rfl hF [_,_,_,x36,_,x38,x39,x9] rfl ⟨(hS 0 _ rfl).1,(hS 1 _ rfl).1,(hS 2 _ rfl).1,LQ.symm,(hS 4 _ rfl).1,hx38.symm,hx39.symm,hx9.symm,trivial⟩;simp only [puts,Act.put,dS,dU,dV] at ha;subst ha;clear LQ hx38 hx39 hx9;clear hS hF;have hwz:=hb2.size;have hP3:=HST.out _ _ _ _ P9;have hBz:=hB;clear hB P9 P39 P38 P36 U35 HST;go_wp2
   go_loopw [9,42] (fun v i wr=> ∃k:Nat,k<=m/\i=.int .i64 (k:Int)/\Parts 23 wz.heap.size wr v k (NN k) (FF k)/\Below wz.heap.size wz wr) (fun _ i _=> m - (intOf i).toNat)
   case atStart=> exact ⟨0,dR _,rfl,hP3,hBz⟩
   case round=>
    clear hP3 hBz;obtain ⟨k,hk,rfl,⟨l1,g1,ho,IJ,Zt⟩,hbz⟩:=hrel;have hbel:=hb2.trans (hbz.mono hwz);have aeP:=hbz.size;have HO:=ak ho;have HFL:=ak IJ;have MZ:=ak Zt;clear ho IJ Zt;by_cases hlt:k<m
    ·obtain ⟨tb,to,rfl,RD,kC⟩:=HC3.out (by omega);obtain ⟨u,hu,Ke⟩:=kC k hlt;have e1:=(hbel.cell (p:=⟨tb,to+k,none⟩) RD).trans hu;have Oq:=ak (Ke.below hbel);have hin:=ak (fun hp=> Ke.in hp);obtain ⟨ua,uc,rfl,u1,u2,_,_⟩:=Ke;have hlk:=WJ.out k hlt;obtain ⟨n,hn⟩:∃n,n=lens k:=⟨_,rfl⟩
     rw [<-hn] at Oq hin e1 u1 hlk;have HN:=ak hn;have h5:((n:Int) / 2 ^ (8 * 4) !=0)=false:=by
      have:(n:Int) / 2 ^ (8 * 4)=0:=Int.ediv_eq_zero_of_lt (by omega) (by omega);rw [this];rfl
     have Wd:=ak (fun w=> La (n:Int) 4 w (by decide) (by decide) (by omega) (by omega) (fun _=> h5));clear kC hu hn h5;go_wp2_with fail;refine (Wd.out _).mono ?_;rintro e w5 ⟨nv,rfl,hon,hb5⟩;have LZ:=hbz.trans (hb5.mono aeP);have FP:=ak (HO.out.below hb5);have agM:=ak (Oq.out.below hb5);have HNV:=ak hon.rd;have hs5:=LZ.size;have aqz:=hb5.size;obtain ⟨ng,nc,rfl,hng,_⟩:=hon.form (by decide);have aho:Hid (∀j,j<2->0<jw 1 (fun _=> 4) (fun _=> n) j->(if j=0 then Value.slice (some ⟨ng,0,none⟩) 4 nc else .slice ua n uc).ownBlock≠u9.ownBlock):=by
      intro j hj hp he;rcases (by omega:j=0\/j=1) with rfl | rfl
      ·have:=HO.out.block ng (by rw [<-he];rfl);omega
      ·obtain ⟨b,hb,hlt'⟩:=hin.out hp;have:=HO.out.block b (by rw [<-he];exact hb);omega
     have HOA:=ak (FP.out.below ((bA w5.heap.size w5).alloc (aP _) (.cells #[.slice (some ⟨ng,0,none⟩) 4 nc,.slice ua n uc] 23)));have HTU:=ak (AQ.aaY (e:=23) HNV.out agM.out);clear hon hb5 FP HNV agM hin Wd e1 Oq;go_wp2_with (at_builtin;refine Az rfl _ _ 55 rfl wz.heap.size 23 24 Tryz.undTxt Tryz.infoTxt _ (2+2 * k) l1 g1 HOA.out rfl _ 2 _ _ _ HTU.out aho.out rfl (by omega) (by omega) (by simp;omega) ?_;intro v6 w6 hown6 Yo ajF ajo);have hP6:=Ze.out _ _ _ _ k l1 g1 HFL.out MZ.out (by rw [<-HN.out];exact hown6);have LY:Below wz.heap.size wz w6:=(LZ.alloc hs5 _).grown Yo (by simp;omega) (fun b hb=> (HO.out.block b hb).1);clear hown6 Yo ajF ajo HOA HTU aho LZ;go_wp2;go_roundw
     case rel=> first | exact ⟨k+1,by omega,by go_num,hP6,LY⟩ | ((repeat apply Exists.intro);exact ⟨⟨k+1,by omega,by go_num,hP6,LY⟩,rfl⟩)
     case measure=> simp [intOf] <;> omega
    ·obtain rfl:k=m:=by omega
     have hZr:=hZ2.below hbz hZ2.lt;have HTX:=ak HO.out.txt;have Wm:=ak (ahj.out.below hbz);clear hbz aeP ahj Ou;go_wp2_with fail;refine (acX.out _ _ _ _ _ Wm.out HTX.out (by omega) HFL.out MZ.out).mono ?_;rintro e w5 ⟨rfl,hb5⟩;have dA:=hbel.trans (hb5.mono hbel.size);have nC:=hZr.kept hb5;have hzl:=nC.lt;clear hbel hb5 hZr HTX Wm HO HFL MZ;go_upto_region 14 with (refine aH rfl 47 _ _ rfl .u8 w5.heap.size 64 (fun _=> 0) TG FV rfl rfl (bg rfl (by rfl)) ?_)
     refine aC (fun w6=> aD .u8 w6 w5.heap.size 64 TG/\aD .u8 w6 w.heap.size 32 (fun _=> 0)/\Below w.heap.size w w6)
      ⟨(bg rfl (by rfl):aD .u8 _ _ 64 (fun _=> 0)).setRow _ _,aD.aA (aD.alloc nC _) _ (by omega) _,ay (dA.alloc dA.size _) dA.size _⟩ ?_
     rintro w6 ⟨Ki,sG,hb6⟩;obtain ⟨q,hq⟩:∃q,q=w5.heap.size:=⟨_,rfl⟩
     rw [<-hq] at Ki ⊢;have Wy:=Ki.lt;have ZY:Hid (∀i,i<32->w6.cell? ⟨q,0+i,none⟩=some (.int .u8 (TG i))):=fun i hi=> by rw [lH];exact Ki.cell i (by omega)
     clear hq nC dA Ki;simp only [Act.put]
     refine gB (n:=64) 3 (by decide) (by kernel_rfl) (by kernel_rfl) (by kernel_rfl) (by kernel_rfl) rfl
      (fun ii vv _=> (match ii with | 0=> vv=.slice (some ⟨q,0,none⟩) 32 64 | 1=> vv=.pointer (some ⟨q,0,none⟩) | 2=> vv=.agg (arr .u8 32 (TG)) | _=> True))
      (fun _ _ _ _ h _=> h) ?_ ?_
     ·refine dD ?_;refine ⟨?_,?_,?_,(aF),(aF),trivial⟩
      ·intro _ a w2 hB hF hd;exact aG <| aO (aZ rfl (hF.same 14 rfl) (by simp only [Option.map_some,Option.map_none];exact iN (m:=32) Tryz.underlying47 Tryz.size5 (by decide))) rfl
      ·intro _ a w2 hB hF hd;exact aG <| aO (iD rfl (hd 0 _ rfl (aj rfl)) dB (by decide)) rfl
      ·intro _ a w2 hB hF hd;exact aG <| aO (gI rfl (hd 1 _ rfl (aj rfl)) dB bZ (fun i hi=> (hB.cell (p:=⟨q,0+i,none⟩) Wy).trans (ZY.out i hi))) rfl
     ·intro a w7 hB hF hS;have ha:=aK rfl rfl hF [_,_,_] rfl ⟨hS 0 _ rfl (by decide),hS 1 _ rfl (by decide),hS 2 _ rfl (by decide),trivial⟩;simp only [puts,List.take_succ_cons,List.take_zero,Act.put,dS,dU,dV] at ha;subst ha;change tl _ _ _ (_::_:: []) _ _;clear hS hF;have IV:=sG.kept hB;have xE:=hb6.trans (hB.mono hb6.size);refine jP rfl (bB 22 _ _ rfl .u8 w.heap.size 32 (fun _=> 0) TG bZ rfl rfl IV ?_);refine kN rfl _ (.inr rfl) (nY ?_);have Md:=IV.setRow 32 TG;have ny:=ay xE (aP _) (arr .u8 32 TG);clear sG hb6 IV xE hB;simp only [Act.put,Act.eval,dS,dU,dV];go_wp2;exact bodyPost_ret (dM rfl _ _ .u8 w.heap.size 32 _ 5 rfl Md dB bZ) rfl ⟨rfl,ny⟩
theorem Ct (f:Nat->Int) (hf:∀i,i<64->0<=f i/\f i<256) (w:World):
  Calls Tryz.prog 31 #[.agg (arr .u8 64 f)] w fun e w'=> ∃v,e=.returned v/\Go.aQ.Own .u8 5 (w.heap.size+1) w' v 64 f/\Below w.heap.size w w':=by
 have HF:=ak hf;clear hf
 go_enter Tryz.func31,Tryz.ntmps31
 have hA1:aD .u8 (w.alloc (.cells (arr .u8 64 f) 47)) w.heap.size 64 f:=bg rfl rfl;have hb1:Below w.heap.size w (w.alloc (.cells (arr .u8 64 f) 47)):=(bA _ _).alloc (aP _) _;go_wp2
 go_loopw [3,4] (fun v i wr=> ∃k:Nat,k<=64/\i=.int .i64 (k:Int)/\Go.aQ.Own .u8 5 (w.heap.size+1) wr v k f/\aD .u8 wr w.heap.size 64 f/\Below w.heap.size w wr/\w.heap.size+1<=wr.heap.size) (fun _ i _=> 64 - (intOf i).toNat)
 case atStart=> exact ⟨0,dR _,rfl,Go.aQ.Own.nil _ _ _ _ _,hA1,hb1,by simp⟩
 case round=>
  clear hA1 hb1;obtain ⟨k,hk,rfl,ho,hA,hbel,hsz⟩:=hrel;have HO:=ak ho;have HA:=ak hA;clear ho hA;by_cases hlt:k<64
  ·obtain ⟨x,hx⟩:∃x,x=f k:=⟨_,rfl⟩
   have x01:=HF.out k hlt;have e1:=HA.out.cell k hlt;rw [<-hx] at x01 e1;obtain ⟨x0,x1⟩:=x01;have HX:=ak hx;have hne:=HO.out.far (Nat.lt_succ_self w.heap.size);clear hx;go_wp2_with (at_builtin;refine bC rfl _ _ 23 rfl (w.heap.size+1) 5 .u8 1 fQ iW _ k f _ _ rfl HO.out rfl 1 rfl rfl ?_ (by omega) (by omega) (by omega) ?_;rotate_right;intro v' w6 hown hgrow)
   ·go_roundw
    case rel=> exact ⟨k+1,by omega,by go_num,hown,(aD.alloc HA.out _).grown hgrow hne,below_grown (hbel.alloc (by omega) _) hgrow HO.out (by simp;omega) (by omega),by have:=hgrow.size;simp at this;omega⟩
    case measure=> simp [intOf] <;> omega
   ·first | exact HX.out | (intro i hi;exact ig hi (by rw [show k+i=k by omega];exact HX.out))
  ·obtain rfl:k=64:=by omega
   have oz:=HO.out;go_wp2;go_ret;exact ⟨_,rfl,oz,hbel⟩
theorem Er (f:Nat->Int) (hf:∀i,i<32->0<=f i/\f i<256) (w:World):
  Calls Tryz.prog 14 #[.agg (arr .u8 32 f)] w fun e w'=> ∃v,e=.returned v/\Go.aQ.Own .u8 5 (w.heap.size+1) w' v 32 f/\Below w.heap.size w w':=by
 have HF:=ak hf;clear hf
 go_enter Tryz.func14,Tryz.ntmps14
 have hA1:aD .u8 (w.alloc (.cells (arr .u8 32 f) 22)) w.heap.size 32 f:=bg rfl rfl;have hb1:Below w.heap.size w (w.alloc (.cells (arr .u8 32 f) 22)):=(bA _ _).alloc (aP _) _;go_wp2
 go_loopw [3,4] (fun v i wr=> ∃k:Nat,k<=32/\i=.int .i64 (k:Int)/\Go.aQ.Own .u8 5 (w.heap.size+1) wr v k f/\aD .u8 wr w.heap.size 32 f/\Below w.heap.size w wr/\w.heap.size+1<=wr.heap.size) (fun _ i _=> 32 - (intOf i).toNat)
 case atStart=> exact ⟨0,dR _,rfl,Go.aQ.Own.nil _ _ _ _ _,hA1,hb1,by simp⟩
 case round=>
  clear hA1 hb1;obtain ⟨k,hk,rfl,ho,hA,hbel,hsz⟩:=hrel;have HO:=ak ho;have HA:=ak hA;clear ho hA;by_cases hlt:k<32
  ·obtain ⟨x,hx⟩:∃x,x=f k:=⟨_,rfl⟩
   have x01:=HF.out k hlt;have e1:=HA.out.cell k hlt;rw [<-hx] at x01 e1;obtain ⟨x0,x1⟩:=x01;have HX:=ak hx;have hne:=HO.out.far (Nat.lt_succ_self w.heap.size);clear hx;go_wp2_with (at_builtin;refine bC rfl _ _ 23 rfl (w.heap.size+1) 5 .u8 1 fQ iW _ k f _ _ rfl HO.out rfl 1 rfl rfl ?_ (by omega) (by omega) (by omega) ?_;rotate_right;intro v' w6 hown hgrow)
   ·go_roundw
    case rel=> exact ⟨k+1,by omega,by go_num,hown,(aD.alloc HA.out _).grown hgrow hne,below_grown (hbel.alloc (by omega) _) hgrow HO.out (by simp;omega) (by omega),by have:=hgrow.size;simp at this;omega⟩
    case measure=> simp [intOf] <;> omega
   ·first | exact HX.out | (intro i hi;exact ig hi (by rw [show k+i=k by omega];exact HX.out))
  ·obtain rfl:k=32:=by omega
   have oz:=HO.out;go_wp2;go_ret;exact ⟨_,rfl,oz,hbel⟩
theorem Co (v:Value) (n:Nat) (key:Nat->Int) (c:Int) (w:World) (hv:Rd .u8 w v n key) (hn:n<=1000000) (hk:∀i,i<n->0<=key i/\key i<256) (hc:0<=c/\c<256):
  Calls Tryz.prog 146 #[v,.int .u8 c] w fun e w'=> ∃u,e=.returned u/\Go.aQ.Own .u8 5 w.heap.size w' u 128 (sj n key c)/\Below w.heap.size w w':=by
 obtain ⟨PK,ZC⟩:∃PK,PK=sj n key c:=⟨_,rfl⟩
 have HS:=ak (fun w h=> zB v n key w h hn hk);have WJ:=ak (fun w=> Ct (kr n key) (fun i _=> kG n key i) w);have HC0:=ak (aak hc);have HA1:Hid (128<n->(∀i,i<64->bits .xor .u8 (kr n key i) c=PK i)/\∀i,64<=i->c=PK i):=by
  rw [ZC];intro h;refine ⟨fun i hi=> ?_,fun i hi=> ?_⟩
  ·unfold sj uT;rw [if_pos h,if_pos hi]
  ·unfold sj uT;rw [if_pos h,if_neg (by omega)];exact HC0.out.symm
 have HA2:Hid (¬ 128<n->(∀i,i<n->bits .xor .u8 (key i) c=PK i)/\∀i,n<=i->c=PK i):=by
  rw [ZC];intro h;refine ⟨fun i hi=> ?_,fun i hi=> ?_⟩
  ·unfold sj uT;rw [if_neg h,if_pos hi]
  ·unfold sj uT;rw [if_neg h,if_neg (by omega)];exact HC0.out.symm
 have agK:Hid (∀i,0<=kr n key i/\kr n key i<256):=kG n key;rw [<-ZC];have HV:=ak hv;have HK:=ak hk;obtain ⟨va,vc,rfl,v1,v2,_,_⟩:=hv;obtain ⟨c0,c1⟩:=hc;clear hk ZC;by_cases hlong:128<n
 case' pos=>
  obtain ⟨SB,ZA⟩:∃SB,SB=kr n key:=⟨_,rfl⟩
  rw [<-ZA] at HS WJ HA1 agK;clear ZA;have HL:=ak (HA1.out hlong)
  go_enter Tryz.func146,Tryz.ntmps146
  go_wp2_with fail;refine (HS.out _ HV.out).mono ?_;rintro e w1 ⟨rfl,hb1⟩;go_wp2_with fail;refine (WJ.out _).mono ?_;rintro e w2 ⟨kv,rfl,ho,hb2⟩;have hbel:=hb1.trans (hb2.mono hb1.size);have WK:=ak ho.rd;have Km:Hid (∀i,i<64->0<=SB i/\SB i<256):=fun i _=> agK.out i;obtain ⟨ka,kc,rfl,k1,k2,_,_⟩:=ho.rd;clear hb1 hb2 ho
 case' neg=>
  have afj:n<=128:=by omega
  have HL:=ak (HA2.out hlong);have WK:=HV;have Km:=HK;have hbel:=bA w.heap.size w;obtain ⟨k1,k2⟩:n<=vc/\vc<=9223372036854775807:=⟨v1,v2⟩
  go_enter Tryz.func146,Tryz.ntmps146
 case pos=>
  go_wp2
  go_loopw [6,7] (fun u i wr=> ∃k:Nat,k<=128/\i=.int .i64 (k:Int)/\Go.aQ.Own .u8 5 w2.heap.size wr u k PK/\Below w2.heap.size w2 wr) (fun _ i _=> 128 - (intOf i).toNat)
  case atStart=> exact ⟨0,dR _,rfl,Go.aQ.Own.nil _ _ _ _ _,bA _ _⟩
  case round=>
   obtain ⟨k,hk,rfl,ho,hbw⟩:=hrel;have HO:=ak ho;have hsw:=hbw.size;have hs0:=hbel.size;clear ho;by_cases hlt:k<128
   ·by_cases hkn:k<64
    ·obtain ⟨x,hx⟩:∃x,x=SB k:=⟨_,rfl⟩
     have x01:=Km.out k hkn;obtain ⟨b,o,rfl,hb,hcc⟩:=WK.out.wC (by omega);have e1:=(hbw.cell (p:=⟨b,o+k,none⟩) hb).trans (hcc k hkn);have hpk:=HL.out.1 k hkn;rw [<-hx] at x01 e1 hpk;obtain ⟨x0,x1⟩:=x01;have AY:=ak hpk;clear hx hcc hpk;go_wp2_with (at_builtin;refine bC rfl _ _ 23 rfl w2.heap.size 5 .u8 1 fQ iW _ k PK _ _ rfl HO.out rfl 1 rfl rfl ?_ (by omega) (by omega) (by omega) ?_;rotate_right;intro v' w6 hown hgrow)
     ·go_roundw
      case rel=>
       have hbx:Below w2.heap.size w2 w6:=below_grown (hbw.alloc hsw _) hgrow HO.out (by simp;omega) (aP _);exact ⟨k+1,by omega,by go_num,hown,hbx⟩
      case measure=> simp [intOf] <;> omega
     ·first | exact AY.out | (intro i hi;exact ig hi (by rw [show k+i=k by omega];exact AY.out))
    ·have AY:=ak (HL.out.2 k (by omega));go_wp2_with (at_builtin;refine bC rfl _ _ 23 rfl w2.heap.size 5 .u8 1 fQ iW _ k PK _ _ rfl HO.out rfl 1 rfl rfl ?_ (by omega) (by omega) (by omega) ?_;rotate_right;intro v' w6 hown hgrow)
     ·go_roundw
      case rel=>
       have hbx:Below w2.heap.size w2 w6:=below_grown (hbw.alloc hsw _) hgrow HO.out (by simp;omega) (aP _);exact ⟨k+1,by omega,by go_num,hown,hbx⟩
      case measure=> simp [intOf] <;> omega
     ·first | exact AY.out | (intro i hi;exact ig hi (by rw [show k+i=k by omega];exact AY.out))
   ·obtain rfl:k=128:=by omega
    have oz:=HO.out.mono hs0;have hfin:=hbel.trans (hbw.mono hs0);go_wp2;go_ret;exact ⟨_,rfl,oz,hfin⟩
 case neg=>
  go_wp2
  go_loopw [6,7] (fun u i wr=> ∃k:Nat,k<=128/\i=.int .i64 (k:Int)/\Go.aQ.Own .u8 5 w.heap.size wr u k PK/\Below w.heap.size w wr) (fun _ i _=> 128 - (intOf i).toNat)
  case atStart=> exact ⟨0,dR _,rfl,Go.aQ.Own.nil _ _ _ _ _,bA _ _⟩
  case round=>
   obtain ⟨k,hk,rfl,ho,hbw⟩:=hrel;have HO:=ak ho;have hsw:=hbw.size;have hs0:=hbel.size;clear ho;by_cases hlt:k<128
   ·by_cases hkn:k<n
    ·obtain ⟨x,hx⟩:∃x,x=key k:=⟨_,rfl⟩
     have x01:=Km.out k hkn;obtain ⟨b,o,rfl,hb,hcc⟩:=WK.out.wC (by omega);have e1:=(hbw.cell (p:=⟨b,o+k,none⟩) hb).trans (hcc k hkn);have hpk:=HL.out.1 k hkn;rw [<-hx] at x01 e1 hpk;obtain ⟨x0,x1⟩:=x01;have AY:=ak hpk;clear hx hcc hpk;go_wp2_with (at_builtin;refine bC rfl _ _ 23 rfl w.heap.size 5 .u8 1 fQ iW _ k PK _ _ rfl HO.out rfl 1 rfl rfl ?_ (by omega) (by omega) (by omega) ?_;rotate_right;intro v' w6 hown hgrow)
     ·go_roundw
      case rel=>
       have hbx:Below w.heap.size w w6:=below_grown (hbw.alloc hsw _) hgrow HO.out (by simp;omega) (aP _);exact ⟨k+1,by omega,by go_num,hown,hbx⟩
      case measure=> simp [intOf] <;> omega
     ·first | exact AY.out | (intro i hi;exact ig hi (by rw [show k+i=k by omega];exact AY.out))
    ·have AY:=ak (HL.out.2 k (by omega));go_wp2_with (at_builtin;refine bC rfl _ _ 23 rfl w.heap.size 5 .u8 1 fQ iW _ k PK _ _ rfl HO.out rfl 1 rfl rfl ?_ (by omega) (by omega) (by omega) ?_;rotate_right;intro v' w6 hown hgrow)
     ·go_roundw
      case rel=>
       have hbx:Below w.heap.size w w6:=below_grown (hbw.alloc hsw _) hgrow HO.out (by simp;omega) (aP _);exact ⟨k+1,by omega,by go_num,hown,hbx⟩
      case measure=> simp [intOf] <;> omega
     ·first | exact AY.out | (intro i hi;exact ig hi (by rw [show k+i=k by omega];exact AY.out))
   ·obtain rfl:k=128:=by omega
    have oz:=HO.out;have hfin:=hbel.trans (hbw.mono hs0);go_wp2;go_ret;exact ⟨_,rfl,oz,hfin⟩
theorem OY (vk:Value) (nk:Nat) (key:Nat->Int) (vb:Value) (n:Nat) (F:Nat->Int) (w:World) (hv:Rd .u8 w vk nk key) (hk1:nk<=1000000) (hk:∀i,i<nk->0<=key i/\key i<256)
  (hb:Rd .u8 w vb n F) (hn2:n<=900000) (hF:∀i,i<n->0<=F i/\F i<256):
  Calls Tryz.prog 96 #[vk,vb] w fun e w'=> e=.returned (.agg (arr .u8 64 (uh nk key n F)))/\Below w.heap.size w w':=by
 obtain ⟨K1,hK1⟩:∃K1,K1=sj nk key 54:=⟨_,rfl⟩
 obtain ⟨K2,hK2⟩:∃K2,K2=sj nk key 92:=⟨_,rfl⟩
 have Wh:=ak (fun w h=> Co vk nk key 54 w h hk1 hk (by decide));have Rh:=ak (fun w h=> Co vk nk key 92 w h hk1 hk (by decide));have hb1:∀i,i<128->0<=K1 i/\K1 i<256:=by rw [hK1];exact fun i _=> pK _ _ _ i
 have hb2:∀i,i<128->0<=K2 i/\K2 i<256:=by rw [hK2];exact fun i _=> pK _ _ _ i
 obtain ⟨C1,hC1⟩:∃C1,C1=gK 128 K1 F:=⟨_,rfl⟩
 obtain ⟨S1,hS1⟩:∃S1,S1=kr (128+n) C1:=⟨_,rfl⟩
 have hsb:∀i,i<64->0<=S1 i/\S1 i<256:=by rw [hS1];exact fun i _=> kG _ _ i
 obtain ⟨C2,hC2⟩:∃C2,C2=gK 128 K2 S1:=⟨_,rfl⟩
 obtain ⟨TG,Me⟩:∃TG,TG=kr (128+64) C2:=⟨_,rfl⟩
 have FN:=ak (fun v w h=> zB v (128+n) C1 w h (by omega) (by rw [hC1];exact fO hb1 hF));have HS2:=ak (fun v w h=> zB v (128+64) C2 w h (by decide) (by rw [hC2];exact fO hb2 hsb));have WJ:=ak (fun w=> Ct S1 hsb w);have e1:uh nk key n F=TG:=by rw [Me,hC2,hS1,hC1,hK1,hK2];rfl
 have sW:Hid ((∀i,i<128->K1 i=C1 i)/\∀i,i<n->C1 (128+i)=F i):=by rw [hC1];exact ⟨fun i hi=> (jW hi).symm,fun i _=> iQ⟩
 have Ou:Hid ((∀i,i<128->K2 i=C2 i)/\∀i,i<64->C2 (128+i)=S1 i):=by rw [hC2];exact ⟨fun i hi=> (jW hi).symm,fun i _=> iQ⟩
 rw [e1];rw [<-hS1] at FN;rw [<-Me] at HS2;rw [<-hK1] at Wh;rw [<-hK2] at Rh;have HV:=ak hv;have HB:=ak hb;obtain ⟨va,vc,rfl,v1,v2,_,_⟩:=hv;obtain ⟨ba,bc,rfl,b1,b2,_,_⟩:=hb;clear hk hF hS1 Me e1 hK1 hK2 hC1 hC2 hsb hb1 hb2
 go_enter Tryz.func96,Tryz.ntmps96
 go_upto_region 1 with (fail);refine aC (fun w1=> aD .u8 w1 w.heap.size 64 (fun _=> 0)/\Below w.heap.size w w1/\w1.heap.size=w.heap.size+1) ⟨bg rfl (by rfl),(bA _ _).alloc (aP _) _,by simp⟩ ?_;rintro w1 ⟨hZ,hb1,hs1⟩;have JQ:=ak (HV.out.below hb1);have HB1:=ak (HB.out.below hb1);clear HV HB;go_wp2_with fail;refine (Wh.out _ JQ.out).mono ?_;rintro e w2 ⟨p1,rfl,ho2,hb2⟩;have oz:=ak (ho2.congr sW.out.1);have HB2:=ak (HB1.out.below hb2);have aeY:=hb2.size;obtain ⟨g1,c1,rfl,_⟩:=oz.out.form (by decide);clear ho2 HB1;go_wp2_with (at_builtin;refine dh rfl _ _ 23 rfl w1.heap.size 5 .u8 1 fQ iW _ 128 C1 oz.out rfl _ n F HB2.out rfl sW.out.2 (by omega) (by omega) aeY ?_;intro v3 w3 hown3 ES);have Yq:=below_grown hb2 ES oz.out aeY (aP _);have hZ3:=hZ.kept Yq;have bH:=hb1.trans (Yq.mono hb1.size);have FM:=ak (JQ.out.below Yq);have HR3:=ak hown3.rd;obtain ⟨g3,c3,rfl,_⟩:=hown3.form (by omega);clear hZ hb1 JQ Yq hown3 ES oz HB2 hb2;refine (Rh.out _ FM.out).mono ?_;rintro e w4 ⟨p2,rfl,Ub,hb4⟩;have Bb:=ak (Ub.congr Ou.out.1);have HR4:=ak (HR3.out.below hb4);have ajm:=hb4.size;obtain ⟨g4,c4,rfl,_⟩:=Bb.out.form (by decide);clear Ub HR3;go_wp2_with fail;refine (FN.out _ _ HR4.out).mono ?_;rintro e w5 ⟨rfl,hb5⟩;go_wp2_with fail;refine (WJ.out _).mono ?_;rintro e w6 ⟨v6,rfl,ho6,hb6⟩;have acg:=hb5.trans (hb6.mono hb5.size);have HO6:=ak (Bb.out.below acg);have ach:=hb4.trans (acg.mono ajm);have aeX:=ach.size;have HR6:=ak ho6.rd;obtain ⟨a6,c6,rfl,q1,q2,_,_⟩:=ho6.rd;clear Bb HR4 hb4 hb5 hb6 acg ho6;go_wp2_with (at_builtin;refine dh rfl _ _ 23 rfl w3.heap.size 5 .u8 1 fQ iW _ 128 C2 HO6.out rfl _ 64 S1 HR6.out rfl Ou.out.2 (by omega) (by omega) aeX ?_;intro v7 w7 Ac LV);have abU:=below_grown ach LV HO6.out aeX (aP _);have IV:=hZ3.kept abU;have kD:=bH.trans (abU.mono bH.size);have HR7:=ak Ac.rd;obtain ⟨g7,c7,rfl,_⟩:=Ac.form (by decide);clear abU hZ3 bH Ac LV HO6 HR6 ach;refine (HS2.out _ _ HR7.out).mono ?_;rintro e w8 ⟨rfl,ny⟩;have Md:=IV.kept ny;have mW:=kD.trans (ny.mono kD.size);clear IV ny kD;go_wp2_with (refine aH rfl 47 _ _ rfl .u8 w.heap.size 64 (fun _=> 0) TG FV rfl rfl Md ?_);exact bodyPost_ret (aV rfl _ _ .u8 w.heap.size 64 _ 5 rfl (Md.setRow 64 TG) Tryz.underlying47 FV) rfl ⟨rfl,ay mW (aP _) _⟩
theorem Cq (vf:Value) (nf:Nat) (from_:Nat->Int) (s:ByteArray) (vc:Value) (m:Nat) (lens:Nat->Nat) (g:Nat->Nat->Int) (w:World) (hf:Rd .u8 w vf nf from_) (hf0:0<nf) (hf1:nf<=1000000) (sQ:∀i,i<nf->0<=from_ i/\from_ i<256)
  (hs:s.size<=64) (hc:qm w vc m lens g) (hm:m<=16) (hl:∀j,j<m->lens j<=4000) (hg:∀j,j<m->∀i,i<lens j->0<=g j i/\g j i<256):
  Calls Tryz.prog 38 #[vf,.string s,vc] w fun e w'=> e=.returned (.tuple #[.agg (arr .u8 32 (uh nf from_ (oM s.size lens m) (sF s.size (pz s) lens g m))),.int .i64 0])/\Below w.heap.size w w':=by
 obtain ⟨NN,Kh⟩:∃NN,NN=oM s.size lens:=⟨_,rfl⟩
 obtain ⟨FF,Ad⟩:∃FF,FF=sF s.size (pz s) lens g:=⟨_,rfl⟩
 have HNK:Hid (∀k,k<=m->NN k<=900000):=by
  rw [Kh];intro k hk;have h1:=NK (L:=s.size) hl k hk;have h2:k * (4+4000)<=16 * (4+4000):=Nat.mul_le_mul_right _ (by omega);omega
 have JW:Hid (∀i,i<NN m->0<=FF m i/\FF m i<256):=by rw [Kh,Ad];exact zY (by omega) (fun i _=> yV s i) hg m (aP _)
 have HN0:Hid (NN 0=1+s.size):=by rw [Kh];exact rfl
 have HNS:Hid (∀k,NN (k+1)=NN k+4+lens k):=by rw [Kh];exact fun k=> by rw [oM];omega
 have Wp:Hid (FF 0 0=(s.size:Int)/\∀i,FF 0 (1+i)=pz s i):=by rw [Ad];exact ⟨jW (by decide),fun i=> iQ⟩
 have HFS:Hid (∀k,(∀i,i<NN k->FF k i=FF (k+1) i)/\(∀i,i<4->FF (k+1) (NN k+i)=Bv (lens k) i)/\∀i,i<lens k->FF (k+1) (NN k+4+i)=g k i):=by
  rw [Kh,Ad];intro k;refine ⟨fun i hi=> (jW hi).symm,fun i hi=> ?_,fun i hi=> ?_⟩
  ·rw [sF,iQ,jW hi]
  ·rw [sF,Nat.add_assoc,iQ,iQ]
 obtain ⟨TG,Me⟩:∃TG,TG=uh nf from_ (NN m) (FF m):=⟨_,rfl⟩
 have acX:Hid (∀vp w,Rd .u8 w vf nf from_->Rd .u8 w vp (NN m) (FF m)->Calls Tryz.prog 96 #[vf,vp] w fun e w'=> e=.returned (.agg (arr .u8 64 TG))/\Below w.heap.size w w'):=by
  rw [Me];exact fun vp w h1 h2=> OY vf nf from_ vp (NN m) (FF m) w h1 hf1 sQ h2 (HNK.out m (aP _)) JW.out
 have e1:uh nf from_ (oM s.size lens m) (sF s.size (pz s) lens g m)=TG:=by rw [Me,Kh,Ad]
 rw [e1];obtain ⟨L,hL⟩:∃L,L=s.size:=⟨_,rfl⟩
 have HSL:Hid (s.size=L):=hL.symm;have akc:L<=64:=by omega
 have akS:Hid (∀i (h:i<s.size),((s[i]'h).toNat:Int)=FF 0 (1+i)):=by
  intro i h;rw [Wp.out.2 i];unfold pz;rw [Rb,vL (by simpa using h)]
  rfl
 have WJ:=ak hl;have HFR:=ak hf;obtain ⟨fa,fc,rfl,f1,f2,_,_⟩:=hf;obtain ⟨ca,cc,rfl,c1,c2,c3⟩:=hc;have HC3:=ak c3;have hlen:s.size<=64:=hs;clear sQ hg hl Kh Ad Me e1 hL c3 hs;have hnf:((nf:Int)==0)=false:=by simp;omega
 go_enter Tryz.func38,Tryz.ntmps38
 go_upto_region 2 with (fail)
 refine aC (fun w1=> aD .u8 w1 w.heap.size 32 (fun _=> 0)/\aD .u8 w1 (w.heap.size+1) 32 (fun _=> 0)/\Below w.heap.size w w1/\w1.heap.size=w.heap.size+2)
  ⟨aD.alloc (bg rfl (by rfl)) _,bg (by simp) (by rfl),((bA _ _).alloc (aP _) _).alloc (by simp) _,by simp⟩ ?_
 rintro w1 ⟨hZ,hO,hb1,hs1⟩;have Wn:=ak (HFR.out.below hb1);clear HFR;go_upto_region 4 with (fail)
 refine aT (n:=82) (by kernel_rfl) (by kernel_rfl) (by kernel_rfl) rfl
  (fun ii vv _=> (match ii with | 0=> vv=.string s | 1=> vv=.int .i64 ((s.size:Int)) | 2 | 3 | 6 | 7=> vv=.bool false | 4=> vv=.slice ca m cc | 5=> vv=.int .i64 ((m:Int)) | _=> True))
  (fun w w'=> Below w.heap.size w w') (fun _ _ h=> h) (fun _ _ _ _ h _=> h) ?_ ?_
 ·refine dD ?_;refine ⟨?_,?_,?_,?_,?_,?_,?_,?_,trivial⟩
  ·intro a w2 hB hF hd;exact aG <| bJ rfl (hF.same 1 rfl)
  ·intro a w2 hB hF hd;exact aG <| aO (qM rfl (hd 0 _ rfl (aj rfl)) Tryz.underlying9) rfl
  ·intro a w2 hB hF hd;exact aG <| aO (Go.aQ.yA rfl (hd 1 _ rfl (aj rfl)) rfl) (congrArg Value.bool (decide_eq_false (by omega)))
  ·intro a w2 hB hF hd;exact aG <| bJ rfl (hd 2 _ rfl (aj rfl))
  ·intro a w2 hB hF hd;refine aS (aX rfl rfl (hd 3 _ rfl (aj rfl)) rfl) ?_;exact bJ rfl (hF.same 2 rfl)
  ·intro a w2 hB hF hd;refine aS (aX rfl rfl (hd 3 _ rfl (aj rfl)) rfl) ?_;exact aO (mO rfl (hd 4 _ rfl (aj rfl)) Tryz.underlying55) rfl
  ·intro a w2 hB hF hd;refine aS (aX rfl rfl (hd 3 _ rfl (aj rfl)) rfl) ?_;exact aO (Go.aQ.yA rfl (hd 5 _ rfl (aj rfl)) rfl) (congrArg Value.bool (decide_eq_false (by omega)))
  ·intro a w2 hB hF hd;exact aG <| aO (jQ rfl (hd 3 _ rfl (aj rfl))) ((hd 6 _ rfl (aj rfl)))
 ·intro a wz hB hF hS;have ha:=aK rfl rfl hF [_,_,_,_,_,_,_,_] rfl ⟨hS 0 _ rfl,hS 1 _ rfl,hS 2 _ rfl,hS 3 _ rfl,hS 4 _ rfl,hS 5 _ rfl,hS 6 _ rfl,hS 7 _ rfl,trivial⟩;simp only [puts,Act.put,dS,dU,dV] at ha;subst ha;clear hS hF;have hbz:=hb1.trans (hB.mono hb1.size);have hZz:=hZ.kept hB;have hOz:=hO.kept hB;have alJ:=ak (Wn.out.below hB);have hzs:=hbz.size;have hol:=hO.lt;clear hZ hO hs1 hB Wn hb1;have U31:IntKind.u8.wrap (s.size:Int)=(L:Int):=by rw [HSL.out,IntKind.wrap_u8];omega
  go_upto_region 7 with (fail)
  have hO0:Go.aQ.Own .u8 5 wz.heap.size (wz.alloc (.cells #[.int .u8 (L:Int)] 5)) (.slice (some ⟨wz.heap.size,0,none⟩) 1 1) (1+0) (FF 0):=
   Go.aQ.Own.new _ _ _ _ 1 _ (aP _) (by decide) rfl (fun i hi=> ig hi (by (obtain rfl:i=0:=by omega);rw [Wp.out.1,HSL.out]))
  have hB0:Below wz.heap.size wz (wz.alloc (.cells #[.int .u8 (L:Int)] 5)):=(bA _ _).alloc (aP _) _;clear U31;go_wp2
  go_loopw [9,10] (fun v i wr=> ∃k:Nat,k<=s.size/\i=.int .i64 (k:Int)/\Go.aQ.Own .u8 5 wz.heap.size wr v (1+k) (FF 0)/\Below wz.heap.size wz wr) (fun _ i _=> s.size - (intOf i).toNat)
  case atStart=> exact ⟨0,dR _,rfl,hO0,hB0⟩
  case round=>
   clear hO0 hB0;obtain ⟨k,hk,rfl,ho,hbel⟩:=hrel;have hsr:=hbel.size;have HO:=ak ho;clear ho;by_cases hlt:k<s.size
   ·have HST:=ak (akS.out k hlt);go_wp2_with (at_builtin;refine bC rfl _ _ 23 rfl wz.heap.size 5 .u8 1 fQ iW _ (1+k) (FF 0) _ _ rfl HO.out rfl 1 rfl rfl ?_ (by omega) (by omega) (by omega) ?_;rotate_right;intro v' w6 hown hgrow)
    ·go_roundw
     case rel=> exact ⟨k+1,by omega,by go_num,hown,below_grown (hbel.alloc hsr _) hgrow HO.out (by simp;omega) (aP _)⟩
     case measure=> simp [intOf] <;> omega
    ·first | exact HST.out | (intro i hi;exact ig hi (by rw [show 1+k+i=1+k by omega];exact HST.out))
   ·obtain rfl:k=s.size:=by omega
    have hO1:Go.aQ.Own .u8 5 wz.heap.size wr u9 (NN 0) (FF 0):=by rw [HN0.out];exact HO.out
    obtain ⟨wq,hwq⟩:∃wq,wq=wr:=⟨_,rfl⟩
    subst hwq;clear HO;go_wp2
    go_loopw [9,11] (fun v i wr=> ∃k:Nat,k<=m/\i=.int .i64 (k:Int)/\Go.aQ.Own .u8 5 wz.heap.size wr v (NN k) (FF k)/\Below wz.heap.size wz wr) (fun _ i _=> m - (intOf i).toNat)
    case atStart=> exact ⟨0,dR _,rfl,hO1,hbel⟩
    case round=>
     clear hO1 hbel hsr;obtain ⟨k,hk,rfl,ho,EU⟩:=hrel;have hsr:=EU.size;have hbel:=hbz.trans (EU.mono hzs);have hnk:=HNK.out k hk;have HO:=ak (ho.congr (HFS.out k).1);have sV:=ak ho;clear ho;by_cases hlt:k<m
     ·obtain ⟨tb,to,rfl,RD,kC⟩:=HC3.out (by omega);obtain ⟨u,hu,Ke⟩:=kC k hlt;have ez:=(hbz.cell (p:=⟨tb,to+k,none⟩) RD).trans hu;have tz:tb<wz.heap.size:=tN RD hzs;have e1:=(EU.cell (p:=⟨tb,to+k,none⟩) tz).trans ez;have Oq:=ak (Ke.below hbz);obtain ⟨ua,uc,rfl,u1,u2,_,_⟩:=Ke;have hlk:=WJ.out k hlt;have abE:=HNK.out (k+1) (by omega);rw [HNS.out k] at abE;obtain ⟨n,hn⟩:∃n,n=lens k:=⟨_,rfl⟩
      have ahi:Hid (∀i,i<4->FF (k+1) (NN k+i)=Bv n i):=by rw [hn];exact (HFS.out k).2.1
      have ahh:Hid (∀i,i<n->FF (k+1) (NN k+4+i)=g k i):=by rw [hn];exact (HFS.out k).2.2
      have agX:Hid (NN k+4+n=NN (k+1)):=by rw [hn];exact (HNS.out k).symm
      rw [<-hn] at Oq ez e1 u1 hlk abE;have HEZ:=ak ez;have h5:(n:Int) / 2 ^ (8 * 4)=0:=Int.ediv_eq_zero_of_lt (by omega) (by omega);have Wd:=ak (fun w=> VP (n:Int) 4 w (by decide) (by decide) (by omega) (by omega) h5);obtain ⟨nk,afi⟩:∃nk,nk=NN k:=⟨_,rfl⟩
      rw [<-afi] at HO hnk abE ahi ahh agX;clear kC hu hn h5 afi ez;go_wp2_with fail;refine (Wd.out _).mono ?_;rintro e w5 ⟨nv,rfl,hon,hb5⟩;have LZ:=EU.trans (hb5.mono hsr);have FP:=ak (HO.out.below hb5);have HNV:=ak hon.rd;have hs5:=LZ.size;obtain ⟨ng,nc,rfl,hng,_⟩:=hon.form (by decide);have e5:=(LZ.cell (p:=⟨tb,to+k,none⟩) tz).trans HEZ.out;clear hon Wd e1 HO EU hb5
      go_wp2_with (first
       | (at_builtin;refine dh rfl _ _ 23 rfl wz.heap.size 5 .u8 1 fQ iW _ nk (FF (k+1)) FP.out rfl _ 4 _ HNV.out rfl ahi.out (by omega) (by omega) hs5 ?_;intro v6 w6 hown6 Yo;have LY:=below_grown LZ Yo FP.out hs5 (aP _);have e6:=(LY.cell (p:=⟨tb,to+k,none⟩) tz).trans HEZ.out;have ajn:=Oq.out.below LY;have hs6:=LY.size)
       | (at_builtin;refine dh rfl _ _ 23 rfl wz.heap.size 5 .u8 1 fQ iW v6 (nk+4) (FF (k+1)) hown6 rfl _ n _ ajn rfl ahh.out (by omega) (by omega) hs6 ?_;intro v7 w7 Ac LV))
      have afA:=below_grown LY LV hown6 hs6 (aP _);rw [agX.out] at Ac;go_roundw
      case rel=> first | exact ⟨k+1,by omega,by go_num,Ac,afA⟩ | ((repeat apply Exists.intro);exact ⟨⟨k+1,by omega,by go_num,Ac,afA⟩,rfl⟩)
      case measure=> simp [intOf] <;> omega
     ·obtain rfl:k=m:=by omega
      have hZr:=hZz.below EU hZz.lt;have hOr:=hOz.below EU hOz.lt;have Wm:=ak (alJ.out.below EU);have ZO:=ak sV.out.rd;obtain ⟨ba,bc,rfl,_,_,_,_⟩:=sV.out.rd;clear EU hsr HO sV;go_wp2_with fail;refine (acX.out _ _ Wm.out ZO.out).mono ?_;rintro e w5 ⟨rfl,hb5⟩;have dA:=hbel.trans (hb5.mono hbel.size);have nC:=hZr.kept hb5;have NT:=hOr.kept hb5;have hzl:=nC.lt;have afg:=NT.lt;clear hbel hb5 hZr hOr ZO Wm;go_upto_region 18 with (refine aH rfl 47 _ _ rfl .u8 w5.heap.size 64 (fun _=> 0) TG FV rfl rfl (bg rfl (by rfl)) ?_)
      refine aC (fun w6=> aD .u8 w6 w5.heap.size 64 TG/\aD .u8 w6 w.heap.size 32 (fun _=> 0)/\aD .u8 w6 (w.heap.size+1) 32 (fun _=> 0)/\Below w.heap.size w w6)
       ⟨(bg rfl (by rfl):aD .u8 _ _ 64 (fun _=> 0)).setRow _ _,aD.aA (aD.alloc nC _) _ (by omega) _,aD.aA (aD.alloc NT _) _ (by omega) _,ay (dA.alloc dA.size _) dA.size _⟩ ?_
      rintro w6 ⟨Ki,sG,ZE,hb6⟩;obtain ⟨q,hq⟩:∃q,q=w5.heap.size:=⟨_,rfl⟩
      rw [<-hq] at Ki hzl afg ⊢;clear hq nC NT dA;simp only [Act.put];obtain ⟨bo,hbo⟩:∃bo,bo=w.heap.size+1:=⟨_,rfl⟩
      rw [<-hbo] at ZE afg ⊢;have ajJ:w.heap.size<=bo:=by omega
      have ajI:w.heap.size≠bo:=by omega
      have ajH:q≠bo:=by omega
      clear hbo;go_wp2
      go_loopw [15] (fun u wr=> ∃i:Nat,i<=32/\u=.int .i64 (i:Int)/\aD .u8 wr q 64 TG/\aD .u8 wr bo 32 (upto i TG (fun _=> 0))/\aD .u8 wr w.heap.size 32 (fun _=> 0)/\Below w.heap.size w wr) (fun u _=> 32 - (intOf u).toNat)
      case atStart=> exact ⟨0,dR _,rfl,Ki,by rw [bF];exact ZE,sG,hb6⟩
      case round=>
       clear Ki ZE sG hb6;obtain ⟨i,hi,rfl,hA,hO,hZ,hbel⟩:=hrel;by_cases hlt:i<32
       ·have e1:=hA.cell i (by omega);have e2:=hO.cell i hlt;have f2:=hO.free i;have HA:=ak hA;have HO:=ak hO;have HZ:=ak hZ;clear hA hO hZ;go_wp2;go_roundw
        case rel=> exact ⟨i+1,by omega,by go_num,HA.out.other (by simpa using ajH) _,by rw [<-aY (j:=i) (g:=TG) (f:=fun _=> 0) rfl];exact HO.out.set i _,HZ.out.other (by simpa using ajI) _,hbel.setCell ajJ _⟩
        case measure=> simp [intOf] <;> omega
       ·obtain rfl:i=32:=by omega
        have hO2:=hO.congr (g:=TG) (bP TG _ (aP _));clear hA hO
        go_wp2_with (first
         | (refine aM rfl 22 _ rfl .u8 bo 32 TG 5 dB bZ rfl hO2 ?_)
         | (refine aH rfl 22 _ _ rfl .u8 w.heap.size 32 (fun _=> 0) TG bZ rfl rfl hZ ?_))
        exact bodyPost_ret (dM rfl _ _ .u8 w.heap.size 32 _ 5 rfl (hZ.setRow 32 TG) dB bZ) rfl ⟨rfl,ay hbel (aP _) _⟩
end Go.Proofs.YtpcjekgfnfjbpaaGreat
