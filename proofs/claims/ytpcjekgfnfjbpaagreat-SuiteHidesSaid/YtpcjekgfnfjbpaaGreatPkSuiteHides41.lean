/-
  Part 41 of SuiteHides. Conditions: named in each theorem.
-/
import Derived.Test.YtpcjekgfnfjbpaaGreatPkSuiteHides39
import Derived.Test.YtpcjekgfnfjbpaaGreatPkSuiteHides6
set_option linter.unusedVariables false
set_option linter.unusedSimpArgs false
set_option maxRecDepth 100000
set_option maxHeartbeats 12800000
namespace Go.aQ
theorem VL {R:Int} {F:Nat->Int} {N j:Nat} {f:Nat->Int} {b:Int} (h:sm 256 f 17 % PP=lQ R F N j) (hb:b=gL F N j) (hb0:0<=b/\b<256 ^ 17) (hR:0<=R/\R<256 ^ 17):
  sm 256 (pd (gG (sm 256 (fun i=> fJ (fun i=> f i+dg 256 b i) (dg 256 R) i 17) 17))) 17 % PP=lQ R F N (j+1):=by
 have e:sm 256 (fun i=> f i+dg 256 b i) 17=sm 256 f 17+b:=by
  have:=tu 256 f (dg 256 b) 1 1 17;simp only [Int.one_mul] at this;rw [this,nL (by decide),AJ hb0.1 hb0.2]
 rw [Sz,e,Ic R hR,lQ,←h,hb,Int.mul_emod,←Int.emod_add_emod,←Int.mul_emod]
theorem JB {F:Nat->Int} {N:Nat} (hF:∀i,i<N->0<=F i/\F i<256) (j:Nat) (h:16 * j<N):0<=gL F N j/\gL F N j<256 ^ 17:=by
 unfold gL;have hm:min 16 (N - 16 * j)<=16:=by omega
 have h1:=jB (B:=256) (by decide) (f:=fun i=> F (16 * j+i)) (n:=min 16 (N - 16 * j)) (fun i hi=> hF _ (by omega));have h2:(256:Int) ^ min 16 (N - 16 * j)<=256 ^ 16:=fA 256 (by decide) _ _ hm;have h3:(256:Int) ^ 17=256 * 256 ^ 16:=by decide
 have h4:(0:Int)<256 ^ 16:=by decide
 generalize (256:Int) ^ min 16 (N - 16 * j)=p at *
 generalize (256:Int) ^ 16=q at *
 omega
def yP (K:Int) (F:Nat->Int) (N:Nat):Int:=lQ (sm 256 (fM (dg 256 K)) 16 % PP) F N ((N+15) / 16)+K / 256 ^ 16
theorem Vz {N j n0 L:Nat} (hL:L=N - 16 * j) (hn:n0=min 16 L) (h:16 * j<N):L - n0=N - 16 * (j+1):=by omega
theorem acP {N j i n0 L:Nat} (hL:L=N - 16 * j) (hn:n0<=L) (h:i<n0):16 * j+i<N:=by omega
end Go.aQ
namespace Go.Proofs.YtpcjekgfnfjbpaaGreat
open Go.RowKit Go.aQ
attribute [local go_sem ↓] Go.wp_at_zero Go.wp_at_succ
def aaZ:Value->Nat
 | .slice _ n _=> n
 | _=> 0
theorem Xc (K:Int) (hK:0<=K/\K<256 ^ 32) (v:Value) (m:Nat) (lens:Nat->Nat) (g:Nat->Nat->Int) (F:Nat->Int) (N:Nat) (w:World) (hv:qm w v m lens g) (hg:∀j,j<m->∀i,i<lens j->F (bV lens j+i)=g j i)
  (hN:bV lens m=N) (Ba:N<=1000000) (hF:∀i,i<N->0<=F i/\F i<256):
  Calls Tryz.prog 182 #[.agg (arr .u8 32 (dg 256 K)),v] w fun e w'=> e=.returned (.agg (arr .u8 16 (dg 256 (yP K F N))))/\Below w.heap.size w w':=by
 have HT:=ak hv;obtain ⟨ta,tc,rfl,t1,t2,t3⟩:=hv;have HT3:=ak t3;have HG:=ak hg;have HN:=ak hN;have HF:=ak hF;have HO:∀j,j<=m->bV lens j<=N:=fun j hj=> by rw [<-hN];exact oJ lens hj
 have MZ:=ak HO;clear t3 hg hN hF HO;obtain ⟨R,hR⟩:∃R,R=sm 256 (fM (dg 256 K)) 16 % PP:=⟨_,rfl⟩
 have cb:∀i,i<16->0<=fM (dg 256 K) i/\fM (dg 256 K) i<256:=fun i _=> by
  have:=aN (by decide:(0:Int)<256) K i;unfold fM
  split
  ·omega
  ·split<;> omega
 have WH:Hid (∀(v:Value) (w:World),Rd .u8 w v 16 (fM (dg 256 K))->Calls Tryz.prog 232 #[v] w fun e w'=> e=.returned (.tuple #[.agg (arr .u8 17 (dg 256 R)),.int .i64 0])/\Below w.heap.size w w'):=by
  intro v w hv;rw [hR];exact Hg v 16 _ w hv cb (by decide)
 have oz:Hid (∀(v:Value) (w:World),Rd .u8 w v 16 (fun i=> dg 256 K (16+i))->Calls Tryz.prog 232 #[v] w fun e w'=> e=.returned (.tuple #[.agg (arr .u8 17 (dg 256 (K / 256 ^ 16))),.int .i64 0])/\Below w.heap.size w w'):=by
  intro v w hv;rw [<-abH hK];exact Hg v 16 _ w hv (fun i _=> aN (by decide) _ _) (by decide)
 have HC:Hid (∀w:World,Calls Tryz.prog 233 #[.agg (arr .u8 32 (dg 256 K))] w fun e w'=> ∃v,e=.returned v/\Rd .u8 w' v 16 (fM (dg 256 K))/\Below w.heap.size w w'):=fun w=> Jq _ (fun i _=> aN (by decide) _ _) w;obtain ⟨S,hS⟩:∃S,S=K / 256 ^ 16:=⟨_,rfl⟩
 have QT:Hid (yP K F N=lQ R F N ((N+15) / 16)+S):=by rw [hR,hS];rfl
 rw [<-hS] at oz;obtain ⟨cf,hcf⟩:∃cf,cf=fM (dg 256 K):=⟨_,rfl⟩
 have ZO:Hid (0<=R/\R<256 ^ 17):=by rw [hR];exact aew _
 rw [<-hcf] at WH HC;clear hR cb hS hcf hK;obtain ⟨TN,Uu⟩:∃TN,TN=yP K F N:=⟨_,rfl⟩
 rw [<-Uu] at QT ⊢;clear Uu
 go_enter Tryz.func182,Tryz.ntmps182
 go_upto_region 2 with (fail)
 refine aC (fun w1=> aD .u8 w1 w.heap.size 32 (dg 256 K)/\aD .u8 w1 (w.heap.size+1) 16 (fun _=> 0)/\Below w.heap.size w w1/\w1.heap.size=w.heap.size+2)
  ⟨aD.alloc (bg rfl rfl) _,bg (by simp) (by rfl),((bA _ _).alloc (aP _) _).alloc (by simp) _,by simp⟩ ?_
 rintro w1 ⟨hA,hZ,hbel,hsz⟩;have JR:=ak hsz;clear hsz;go_wp2
 go_loopw [5,21] (fun v i wr=> ∃j:Nat,j<=m/\i=.int .i64 j/\Own .u8 5 (w.heap.size+2) wr v (bV lens j) F/\aD .u8 wr w.heap.size 32 (dg 256 K)/\aD .u8 wr (w.heap.size+1) 16 (fun _=> 0)/\Below w.heap.size w wr/\w.heap.size+2<=wr.heap.size) (fun _ i _=> m - (intOf i).toNat)
 case atStart=> exact ⟨0,dR _,rfl,Own.nil _ _ _ _ _,hA,hZ,hbel,by have:=JR.out;omega⟩
 case round=>
  clear hA hZ hbel;obtain ⟨j,hj,rfl,ho,hA,hZ,hbel,hs2⟩:=hrel;have HO:=ak ho;clear ho;by_cases hlt:j<m
  ·obtain ⟨tb,to,rfl,RD,kC⟩:=HT3.out (by omega);obtain ⟨u,hu,Ke⟩:=kC j hlt;have e1:=(hbel.cell (p:=⟨tb,to+j,none⟩) RD).trans hu;obtain ⟨ua,uc,rfl,u1,u2,u3,u4⟩:=id Ke;have Oq:=ak (Ke.below hbel);have ZQ:Hid (bV lens j+lens j<=N):=MZ.out (j+1) (by omega);have hne0:=HO.out.far (show w.heap.size<w.heap.size+2 by omega);have hne1:=HO.out.far (show w.heap.size+1<w.heap.size+2 by omega);clear kC hu Ke u3 u4;go_wp2_with (at_builtin;refine dh rfl _ _ 23 rfl (w.heap.size+2) 5 .u8 1 fQ iW _ (bV lens j) F HO.out rfl _ (lens j) (g j) Oq.out rfl (HG.out j hlt) (by have:=ZQ.out;omega) (by have:=ZQ.out;omega) hs2 ?_;intro v' w3 hown hgrow);go_roundw
   case rel=> exact ⟨j+1,by omega,by go_num,hown,hA.grown hgrow hne0,hZ.grown hgrow hne1,below_grown hbel hgrow HO.out hbel.size (by omega),by have:=hgrow.size;omega⟩
   case measure=> simp [intOf] <;> omega
  ·obtain rfl:j=m:=by omega
   have hall:=HO.out.rd;rw [HN.out] at hall;have ahz:=ak hall;clear HO hall;obtain ⟨W0,hW0⟩:∃W0,W0=wr:=⟨_,rfl⟩
   subst hW0;have hbelW:=hbel;have hZW:=hZ;have QW:=ak hbelW;have HZW:=ak hZW;replace hbel:=bA W0.heap.size W0;clear hbelW hZW;have s0:=hbel.size;have l0:=hZ.lt;go_wp2_with (refine aM rfl 22 _ rfl .u8 w.heap.size 32 _ 5 dB bZ rfl (aD.alloc hA _) ?_);refine (HC.out _).mono ?_;rintro e w2 ⟨v,rfl,hv,hb2⟩;have hA2:=(aD.alloc hA _).kept hb2;have hZ2:=(aD.alloc hZ _).kept hb2;have bq:=(hbel.alloc s0 _).trans (hb2.mono (by simp));have hE:=(Own.new .u8 5 W0 #[] 0 cf (aP _) (by omega) rfl (fun i hi=> by omega)).below hb2;have s2:W0.heap.size<=w2.heap.size:=by have:=hb2.size;simp at this;omega
   have HV:=ak hv;clear hA hZ hbel hb2 hv;go_wp2_with (at_builtin;refine dh rfl _ _ 23 rfl W0.heap.size 5 .u8 1 fQ iW _ 0 cf hE rfl _ 16 cf HV.out rfl (fun i _=> by rw [lH]) (by omega) (by omega) s2 ?_;intro v3 w3 hown hgrow);refine (WH.out _ _ (by rw [lH] at hown;exact hown.rd)).mono ?_;rintro e w4 ⟨rfl,hb4⟩;have wB:=(hA2.grown hgrow (hE.far (by omega))).kept hb4;have pV:=(hZ2.grown hgrow (hE.far (by omega))).kept hb4;have bH:=below_grown bq hgrow hE (by omega) s0;have bQ:=bH.trans (hb4.mono bH.size);have s4:=bQ.size;have l4:=pV.lt;have k4:=wB.lt;clear hA2 hZ2 bq hE hown hgrow hb4 bH HV;go_upto_region 8 with (refine aH rfl 268 _ _ rfl .u8 w4.heap.size 17 (fun _=> 0) _ Tryz.size268 rfl rfl (bg rfl rfl) ?_)
   refine aC (fun w5=> aD .u8 w5 w4.heap.size 17 (dg 256 R)/\aD .u8 w5 w.heap.size 32 (dg 256 K)/\aD .u8 w5 (w.heap.size+1) 16 (fun _=> 0)/\Below W0.heap.size W0 w5)
    ⟨aD.setRow (bg (n:=17) (f:=fun _=> 0) rfl rfl) _ _,aD.aA (aD.alloc wB _) _ (by omega) _,aD.aA (aD.alloc pV _) _ (by omega) _,ay (bQ.alloc s4 _) s4 _⟩ ?_
   rintro w5 ⟨hR5,tH,nC,dA⟩;clear wB pV bQ;have hRd:Rd .u8 w5 (.slice (some ⟨w.heap.size,16,none⟩) 16 16) 16 (fun i=> dg 256 K (16+i)):=⟨_,_,rfl,by decide,by decide,(fun h=> by cases h),fun _=> ⟨_,16,rfl,tH.lt,fun i hi=> tH.cell (16+i) (by omega)⟩⟩
   have HRd:=ak hRd;clear hRd tH;go_wp2_with fail;refine (oz.out _ _ HRd.out).mono ?_;rintro e w6 ⟨rfl,hb6⟩;have ZB:=hR5.kept hb6;have sG:=nC.kept hb6;have dI:=dA.trans (hb6.mono dA.size);have s6:=dI.size;have l6:=sG.lt;have r6:=ZB.lt;clear hR5 nC dA hb6 HRd;go_upto_region 9 with (refine aH rfl 268 _ _ rfl .u8 w6.heap.size 17 (fun _=> 0) _ Tryz.size268 rfl rfl (bg rfl rfl) ?_)
   refine aC (fun w7=> aD .u8 w7 w6.heap.size 17 (dg 256 S)/\aD .u8 w7 w4.heap.size 17 (dg 256 R)/\aD .u8 w7 (w.heap.size+1) 16 (fun _=> 0)/\Below W0.heap.size W0 w7)
    ⟨aD.setRow (bg (n:=17) (f:=fun _=> 0) rfl rfl) _ _,aD.aA (aD.alloc ZB _) _ (by omega) _,aD.aA (aD.alloc sG _) _ (by omega) _,ay (dI.alloc s6 _) s6 _⟩ ?_
   rintro w7 ⟨hS7,hR7,IV,kD⟩;clear ZB sG dI
   go_wp2_with (first
    | (refine aM rfl 268 _ rfl .u8 w4.heap.size 17 _ 5 Tryz.underlying268 Tryz.size268 rfl hR7 ?_)
    | (refine oD rfl (fF rfl (Jz _)) ?_))
   refine (tZ R _).mono ?_;rintro e w8 ⟨rfl,ny⟩;have hS8:=hS7.kept ny;have Md:=IV.kept ny;have mW:=kD.trans (ny.mono kD.size);have s8:=mW.size;have l8:=Md.lt;have r8:=hS8.lt;clear hS7 hR7 IV kD ny;obtain ⟨p,hp⟩:∃p,p=w6.heap.size:=⟨_,rfl⟩
   rw [<-hp] at hS8 r8 ⊢;clear hp s6 l6 r6
   go_wp2_with (first
    | (refine aH rfl 271 _ _ rfl .u32 w8.heap.size 17 (fun _=> 0) _ Tryz.size271 rfl rfl (aD.alloc (bg (by simp) (by rfl)) _) ?_)
    | (refine aH rfl 271 _ _ rfl .u32 (w8.heap.size+1) 17 (fun _=> 0) _ Tryz.size271 rfl rfl (aD.aA (bg (by simp) (by rfl)) _ (by omega) _) ?_))
   refine aC (fun wq=> aD .u32 wq w8.heap.size 17 (dg 256 0)/\aD .u32 wq (w8.heap.size+1) 17 (dg 256 R)/\aD .u8 wq p 17 (dg 256 S)/\aD .u8 wq (w.heap.size+1) 16 (fun _=> 0)/\Below W0.heap.size W0 wq) ⟨?_,?_,?_,?_,?_⟩ ?_
   ·refine aD.aA (aD.congr (f:=fun _=> 0) (aD.setRow (aD.alloc (bg (f:=fun _=> 0) (n:=17) (by simp) (by rfl)) _) _ _) fun i _=> by simp [dg]) _ (by omega) _
   ·exact aD.setRow (aD.aA (bg (n:=17) (f:=fun _=> 0) (by simp) (by rfl)) _ (by omega) _) _ _
   ·exact aD.aA (aD.aA (aD.alloc (aD.alloc hS8 _) _) _ (by omega) _) _ (by omega) _
   ·exact aD.aA (aD.aA (aD.alloc (aD.alloc Md _) _) _ (by omega) _) _ (by omega) _
   ·exact ay (ay ((mW.alloc s8 _).alloc (by simp;omega) _) s8 _) (by omega) _
   rintro wb ⟨hT8,hY8,hSb,hZb,Zx⟩;clear hS8 Md mW;obtain ⟨A,hAe⟩:∃A,A=w8.heap.size:=⟨_,rfl⟩
   rw [<-hAe] at hT8 hY8 r8 l8 s8 ⊢;clear hAe hZb;simp only [Act.put]
   go_loopw [5] (fun v wq=> ∃(j:Nat) (f:Nat->Int),j<=(N+15) / 16/\Rd .u8 W0 v (N - 16 * j) (fun i=> F (16 * j+i))/\(∀i,i<17->0<=f i/\f i<=300)/\sm 256 f 17 % PP=lQ R F N j/\aD .u32 wq A 17 f/\aD .u32 wq (A+1) 17 (dg 256 R)/\aD .u8 wq p 17 (dg 256 S)/\Below W0.heap.size W0 wq) (fun v _=> aaZ v)
   case atStart=> exact ⟨0,dg 256 0,dR _,by rw [Nat.mul_zero,Nat.sub_zero];exact ahz.out.congr (fun i _=> by rw [lH]),fun i _=> by rw [acI];decide,by rw [nL (by decide)];rfl,hT8,hY8,hSb,Zx⟩
   case round=>
    clear hT8 hY8 hSb Zx ahz;obtain ⟨j,f,hj,hrd,sQ,hacc,hX,hY,hP,hbel⟩:=hrel;have JW:=ak sQ;have QX:=ak hacc;have HP:=ak hP;clear sQ hacc hP;by_cases hlt:16 * j<N
    ·obtain ⟨L,hL⟩:∃L,L=N - 16 * j:=⟨_,rfl⟩
     rw [<-hL] at hrd;have hL0:0<L:=by omega
     obtain ⟨la,lc,rfl,d1,d2,d3,d4⟩:=id hrd;obtain ⟨n0,hn0⟩:∃n0,n0=min 16 L:=⟨_,rfl⟩
     have hn1:n0<=16/\n0<=L:=by omega
     have hn2:0<n0:=by omega
     have als:Hid (n0<L->n0=16):=by unfold Hid;omega
     have hmin:(if 16<(L:Int) then (16:Int) else (L:Int))=(n0:Int):=by split<;> omega
     obtain ⟨g1,g2⟩:=Rd.head fQ iW la L lc n0 hn1.2 d1;obtain ⟨la',k1,k2,k3⟩:=Rd.cut fQ iW la L lc n0 L hn1.2 (aP _) d1;have HRH:=ak (g2 _ _ hrd);have HRC:=ak (k3 _ _ hrd).2;have HB1:Hid (sm 256 (fun i=> F (16 * j+i)) n0+256 ^ n0=gL F N j):=by unfold Hid gL;rw [<-hL,←hn0]
     have HB2:Hid (0<=gL F N j/\gL F N j<256 ^ 17):=JB HF.out j hlt;have HBY:Hid (∀i,i<n0->0<=F (16 * j+i)/\F (16 * j+i)<256):=fun i hi=> HF.out (16 * j+i) (acP hL hn1.2 hi);have WJ:Hid (L - n0=N - 16 * (j+1)):=Vz hL hn0 hlt;have hs:=hbel.size;have hXl:=hX.lt;have hYl:=hY.lt;clear d3 d4 g2 k1 k3 hrd hL hn0;have K2:=ak k2;have G1:=ak g1;clear k2 g1;obtain ⟨b,hb⟩:∃b,b=gL F N j:=⟨_,rfl⟩
     rw [<-hb] at HB1 HB2;have HBE:=ak hb;clear hb;go_upto_region 13 with (fail)
     refine aC (fun w2=> aD .u8 w2 wr.heap.size 17 (fun _=> 0)/\aD .u32 w2 A 17 f/\aD .u32 w2 (A+1) 17 (dg 256 R)/\aD .u8 w2 p 17 (dg 256 S)/\Below W0.heap.size W0 w2)
      ⟨bg rfl rfl,aD.alloc hX _,aD.alloc hY _,aD.alloc HP.out _,hbel.alloc hs _⟩ ?_
     rintro w2 ⟨hQ2,hX2,hY2,hP2,bq⟩;obtain ⟨B,hBe⟩:∃B,B=wr.heap.size:=⟨_,rfl⟩
     rw [<-hBe] at hQ2 hXl hYl hs ⊢;clear hX hY HP hbel hBe
     refine iF (n:=87) 4 rfl (by decide) (by kernel_rfl) (by kernel_rfl) (by kernel_rfl) (by kernel_rfl) rfl
      (fun ii vv _=> (match ii with | 0=> vv=.slice (some ⟨B,0,none⟩) 17 17 | 1=> vv=.slice la L lc | 2=> vv=.int .i64 ((n0:Int)) | 3=> vv=.slice la n0 lc | _=> True))
      (fun w w'=> Below w.heap.size w w') (fun _ _ h=> h) (fun _ _ _ _ h _=> h) rfl ?_ ?_
     ·refine dD ?_;refine ⟨?_,?_,?_,?_,(fun h=> absurd rfl h),trivial⟩
      ·intro _ a w2 hB hF hd;exact aG <| aO (eB rfl (hF.same 15 rfl) Tryz.underlying268 (by kernel_rfl)) rfl
      ·intro _ a w2 hB hF hd;exact aG <| bJ rfl (hF.same 5 rfl)
      ·intro _ a w2 hB hF hd;exact aG <| bJ rfl (hF.same 14 rfl)
      ·intro _ a w2 hB hF hd;exact aG <| aO (aZ rfl (hd 1 _ rfl (aj rfl)) (by simp only [Option.map_some,Option.map_none,show a.eval (Operand.tmp 53)=.int .i64 ((n0:Int)) from (hd 2 _ rfl (aj rfl))];exact G1.out _)) rfl
     ·intro a w3 hB hF hS;obtain ⟨x55,aeD⟩:∃x,x=a.tmps.getD 55 undef:=⟨_,rfl⟩
      have ha:=aK rfl rfl hF [_,_,_,_,x55] rfl ⟨hS 0 _ rfl (by decide),hS 1 _ rfl (by decide),hS 2 _ rfl (by decide),hS 3 _ rfl (by decide),aeD.symm,trivial⟩;simp only [puts,Act.put,dS,dU,dV] at ha;subst ha;clear aeD;clear hS hF;have hX3:=hX2.kept hB;have hY3:=hY2.kept hB;have hP3:=hP2.kept hB;have hQ3:=hQ2.kept hB;have bH:=bq.trans (hB.mono bq.size);have HR3:=ak (HRH.out.below bH);clear hX2 hY2 hP2 hQ2 bq hB HRH;refine lg _ _ 23 23 rfl B 0 17 17 17 (fun _=> 0) fQ Tryz.size5 rfl hQ3 _ n0 (fun i=> F (16 * j+i)) HR3.out rfl (by omega) (by omega) ?_;go_upto_region 14 with (fail)
      refine aC (fun w4=> aD .u8 w4 B 17 (laid (fun _=> 0) 0 n0 (fun i=> F (16 * j+i)))/\aD .u32 w4 A 17 f/\aD .u32 w4 (A+1) 17 (dg 256 R)/\aD .u8 w4 p 17 (dg 256 S)/\Below W0.heap.size W0 w4)
       ⟨hQ3.setRow _ _,hX3.aA _ (by omega) _,hY3.aA _ (by omega) _,hP3.aA _ (by omega) _,ay bH hs _⟩ ?_
      rintro w4 ⟨hQ4,hX4,hY4,hP4,bQ⟩;clear hX3 hY3 hP3 hQ3 bH HR3;have e1:=hQ4.cell n0 (by omega);have f1:=hQ4.free n0;have k2:=K2.out;go_upto_region 15 with (fail)
      refine aC (fun w5=> aD .u8 w5 B 17 (dg 256 b)/\aD .u32 w5 A 17 f/\aD .u32 w5 (A+1) 17 (dg 256 R)/\aD .u8 w5 p 17 (dg 256 S)/\Below W0.heap.size W0 w5)
       ⟨(hQ4.set n0 1).congr (fun i hi=> by rw [Ho (f:=fun i=> F (16 * j+i)) hn1.1 HBY.out i hi,HB1.out]),hX4.other (by simp;omega) _,hY4.other (by simp;omega) _,hP4.other (by simp;omega) _,bQ.setCell hs _⟩ ?_
      rintro w5 ⟨hQ5,hX5,hY5,hP5,dA⟩;clear hQ4 hX4 hY4 hP4 bQ e1 f1;go_wp2_with (refine aM rfl 268 _ rfl .u8 B 17 _ 5 Tryz.underlying268 Tryz.size268 rfl hQ5 ?_);refine (tZ b _).mono ?_;rintro e w6 ⟨rfl,hb6⟩;have hX6:=hX5.kept hb6;have hY6:=hY5.kept hb6;have hP6:=hP5.kept hb6;have dI:=dA.trans (hb6.mono dA.size);have s6:=dI.size;have x6:=hX6.lt;have y6:=hY6.lt;have p6:=hP6.lt;clear hQ5 hX5 hY5 hP5 dA hb6 k2 K2 G1;go_upto_region 17 with (refine aH rfl 271 _ _ rfl .u32 w6.heap.size 17 (fun _=> 0) _ Tryz.size271 rfl rfl (bg (by simp) (by rfl)) ?_)
      refine aC (fun w7=> aD .u32 w7 w6.heap.size 17 (dg 256 b)/\aD .u32 w7 A 17 f/\aD .u32 w7 (A+1) 17 (dg 256 R)/\aD .u8 w7 p 17 (dg 256 S)/\Below W0.heap.size W0 w7)
       ⟨aD.setRow (bg (n:=17) (f:=fun _=> 0) rfl rfl) _ _,aD.aA (aD.alloc hX6 _) _ (by omega) _,aD.aA (aD.alloc hY6 _) _ (by omega) _,aD.aA (aD.alloc hP6 _) _ (by omega) _,ay (dI.alloc s6 _) s6 _⟩ ?_
      rintro w7 ⟨hM7,hX7,hY7,hP7,kD⟩;obtain ⟨M,hMe⟩:∃M,M=w6.heap.size:=⟨_,rfl⟩
      rw [<-hMe] at hM7 x6 y6 p6 s6 ⊢;clear hX6 hY6 hP6 dI hMe;simp only [Act.put];go_wp2
      go_loopw [63] (fun i wq=> ∃k:Nat,k<=17/\i=.int .i64 k/\aD .u32 wq A 17 (upto k (fun i=> f i+dg 256 b i) f)/\aD .u32 wq M 17 (dg 256 b)/\aD .u32 wq (A+1) 17 (dg 256 R)/\aD .u8 wq p 17 (dg 256 S)/\Below W0.heap.size W0 wq) (fun i _=> 17 - (intOf i).toNat)
      case atStart=> exact ⟨0,dR _,rfl,by rw [bF];exact hX7,hM7,hY7,hP7,kD⟩
      case round=>
       clear hM7 hX7 hY7 hP7 kD;obtain ⟨k,hk,rfl,hX,hM,hY,hP,hbel⟩:=hrel;have HM:=ak hM;have HY:=ak hY;have HPP:=ak hP;by_cases hkt:k<17
       ·have e1:=hX.cell k hkt;rw [upto_at] at e1;have e2:=hM.cell k hkt;have f1:=hX.free k;obtain ⟨b0,b1⟩:=Jh b k;obtain ⟨b2,b3⟩:=JW.out k hkt;have HX:=ak hX;clear hX hY hP hM;go_wp2
        go_region
        all_goals
         go_wp2;go_roundw
         case rel=> exact ⟨k+1,by omega,by go_num,by rw [<-aY rfl];exact (HX.out.set k _).drew,(HM.out.other (by simp;omega) _).drew,(HY.out.other (by simp) _).drew,(HPP.out.other (by simp;omega) _).drew,(hbel.setCell (by simp;omega) _).drew⟩
         case measure=> simp [intOf] <;> omega
       ·obtain rfl:k=17:=by omega
        have hX2:=hX.congr (bP _ _ (aP _));clear hX hY hP hM;have bf:∀i,i<17->0<=f i+dg 256 b i/\f i+dg 256 b i<=600:=fun i hi=> by have:=Jh b i;have:=JW.out i hi;omega
        obtain ⟨q,hq⟩:∃q,q=pd (gG (sm 256 (fun i=> fJ (fun i=> f i+dg 256 b i) (dg 256 R) i 17) 17)):=⟨_,rfl⟩
        have HQC:Hid (∀w:World,Calls Tryz.prog 235 #[.agg (arr .u32 17 (fun i=> f i+dg 256 b i)),.agg (arr .u32 17 (dg 256 R))] w fun e w'=> e=.returned (.agg (arr .u32 17 q))/\Below w.heap.size w w'):=by
         intro w;rw [hq];exact GQ _ _ w bf (fun i _=> Jh R i)
        have HQS:Hid (∀i,i<17->0<=q i/\q i<=300):=by rw [hq];exact Lc bf (fun i _=> Jh R i)
        have HQA:Hid (sm 256 q 17 % PP=lQ R F N (j+1)):=by rw [hq];exact VL QX.out HBE.out HB2.out ZO.out
        have sw:=hbel.size;clear bf hq
        go_wp2_with (first
         | (refine aM rfl 271 _ rfl .u32 A 17 _ 117 AO Tryz.size271 rfl hX2 ?_)
         | (refine aM rfl 271 _ rfl .u32 (A+1) 17 _ 117 AO Tryz.size271 rfl HY.out ?_))
        refine (HQC.out _).mono ?_;rintro e w8 ⟨rfl,ny⟩;have hX8:=hX2.kept ny;have hY8:=HY.out.kept ny;have hP8:=HPP.out.kept ny;have mW:=hbel.trans (ny.mono sw);clear hX2 HY HM HPP hbel ny;go_wp2_with (refine aH rfl 271 _ _ rfl .u32 A 17 _ _ Tryz.size271 rfl rfl hX8 ?_);go_roundw
        case rel=>
         (repeat apply Exists.intro)
         refine ⟨?_,rfl⟩;exact ⟨j+1,q,by omega,by rw [<-WJ.out];exact HRC.out.congr (fun i hi=> by have:=als.out (by omega);rw [show 16 * (j+1)+i=16 * j+(n0+i) by omega]),HQS.out,HQA.out,hX8.setRow _ _,hY8.aA _ (by omega) _,hP8.aA _ (by omega) _,ay mW (by omega) _⟩
        case measure=> show L - n0<L;omega
    ·obtain ⟨L,hL⟩:∃L,L=N - 16 * j:=⟨_,rfl⟩
     rw [<-hL] at hrd;obtain rfl:L=0:=by omega
     obtain rfl:j=(N+15) / 16:=by omega
     obtain ⟨la,lc,rfl,d1,d2,d3,d4⟩:=id hrd;clear hrd d3 d4 hL;obtain ⟨AC,hAC⟩:∃AC,AC=lQ R F N ((N+15) / 16):=⟨_,rfl⟩
     rw [<-hAC] at QT QX;have HRC:Hid (∀w,Calls Tryz.prog 236 #[.agg (arr .u32 17 f)] w fun e w'=> e=.returned (.agg (arr .u32 17 (dg 256 AC)))/\Below w.heap.size w w'):=by
      intro w;have h:=xk f w (fun i hi=> by have:=JW.out i hi;omega)
      rwa [QX.out] at h
     have s0:=hbel.size;clear hAC hY;go_upto_region 23 with (fail)
     refine bT (n:=87) (by kernel_rfl) (by kernel_rfl) (by kernel_rfl) rfl
      (mU [(6,5)]) (iO [(6,5)]) (fun _=> arr .u32 17 (fun _=> 0)) (fun _=> (arr .u32 17 (dg 256 (AC+S)))) (fun _=> 271) (fun _=> 18)
      (fun ii vv _=> (match ii with | 0=> vv=.agg (arr .u32 17 (f)) | 1=> vv=.agg (arr .u32 17 (dg 256 AC)) | 2=> vv=.agg (arr .u8 17 (dg 256 S)) | 3=> vv=.agg (arr .u32 17 (dg 256 S)) | 4=> vv=.agg (arr .u32 17 (dg 256 (AC+S))) | _=> True)) (fun _ _=> True) (fun _ _ _=> trivial) (fun _ _ _ _ _ _ _=> trivial) (fun _ _ _ _ h _=> h)
      (jL rfl) (iC rfl) ?_ ?_ ?_ ?_
     ·refine dD ?_;refine ⟨?_,?_,?_,?_,?_,(fun h=> by cases h),(fun _ h=> by cases h),trivial⟩
      ·intro _ _ a w2 hB hF hd;exact aG <| aO (aB rfl AO rfl Tryz.size271 (hF.same 12 rfl) (hX.below hB hX.lt)) rfl
      ·intro _ _ a w2 hB hF hd;refine aG <| aI _ _ _ rfl Tryz.call236 _ (args1 (hd 0 _ rfl rfl rfl (aj rfl))) (by simp) ((HRC.out w2).mono ?_);rintro e w3 ⟨rfl,hb⟩;exact ⟨_,rfl,rfl,hb⟩
      ·intro _ _ a w2 hB hF hd;exact aG <| aO (aB rfl Tryz.underlying268 rfl Tryz.size268 (hF.same 10 rfl) (HP.out.below hB HP.out.lt)) rfl
      ·intro _ _ a w2 hB hF hd;refine aG <| aI _ _ _ rfl Tryz.call234 _ (args1 (hd 2 _ rfl rfl rfl (aj rfl))) (by simp) ((tZ S w2).mono ?_);rintro e w3 ⟨rfl,hb⟩;exact ⟨_,rfl,rfl,hb⟩
      ·intro _ _ a w2 hB hF hd;refine aG <| aI _ _ _ rfl Tryz.call237 _ (args2 (hd 1 _ rfl rfl rfl (aj rfl)) (hd 3 _ rfl rfl rfl (aj rfl))) (by simp) ((Gl AC S w2).mono ?_);rintro e w3 ⟨rfl,hb⟩;exact ⟨_,rfl,rfl,hb⟩
     ·refine dD ?_;refine ⟨(fun h=> by cases h),(fun h=> by cases h),(fun h=> by cases h),(fun h=> by cases h),(fun h=> by cases h),?_,(fun h=> by cases h),trivial⟩
      ·exact fun _=> ⟨rfl,rfl,fun a w2 K h=> bE rfl rfl Tryz.zeroValue271 (by simp) h⟩
     ·refine dD ?_;refine ⟨(fun _ h=> by cases h),(fun _ h=> by cases h),(fun _ h=> by cases h),(fun _ h=> by cases h),(fun _ h=> by cases h),(fun _ h=> by cases h),?_,trivial⟩
      ·intro p hp;obtain rfl:5=p:=iV hp;exact ⟨rfl,rfl,⟨_,rfl⟩,aj rfl,fun a w2 b K hB hF hd hx hb h=> cK rfl rfl Tryz.size271 hx (hd 4 _ rfl rfl rfl (aj rfl)) hb h⟩
     ·intro a w9 blk hB hF hS hv hfin fG;obtain ⟨v5,v5l,v5u⟩:=hv 5 _ rfl rfl;have ha:=aK rfl rfl hF [_,_,_,_,_,_,undef] rfl ⟨hS 0 _ rfl rfl rfl,hS 1 _ rfl rfl rfl,hS 2 _ rfl rfl rfl,hS 3 _ rfl rfl rfl,hS 4 _ rfl rfl rfl,v5,trivial,trivial⟩;have f5:=hfin 6 _ 5 rfl rfl;simp only [puts,Act.put,dS,dU,dV] at ha;subst ha;have V5:aD .u32 w9 (blk 5) 17 (dg 256 (AC+S)):=⟨_,f5⟩
      clear hS hv hfin fG hF v5 f5;have NR:=hbel.trans (hB.mono hbel.size);have s9:=NR.size;have hZ9:=(HZW.out.kept NR)
      have hW9:=QW.out.trans (NR.mono QW.out.size);clear hX HP hbel hB;obtain ⟨q,hq⟩:∃q,q=blk 5:=⟨_,rfl⟩
      rw [<-hq] at V5 ⊢;clear hq;go_wp2_with (refine aM rfl 271 _ rfl .u32 q 17 _ 117 AO Tryz.size271 rfl V5 ?_);refine (Jw (AC+S) _).mono ?_;rintro e wa ⟨v,rfl,hv,hba⟩;have hZa:=hZ9.kept hba;have afD:=hW9.trans (hba.mono hW9.size);obtain ⟨g,c,rfl,q1,q2,q3,q4,hcells,q5⟩:=hv.form (by decide);have yI:=ak hcells;have hat:=jY (a:=some ⟨g,0,none⟩) (len:=16) (cap:=c) Tryz.underlying118 (by decide);clear hv hcells q5 hZ9 NR V5 hba hW9
      go_wp2_with (first
       | (refine rM rfl 118 _ rfl .u8 g 0 16 (dg 256 (AC+S)) 5 Tryz.underlying118 Tryz.size118 rfl (fun i hi=> by rw [lH];exact yI.out i hi) ?_)
       | (refine aH rfl 118 _ _ rfl .u8 (w.heap.size+1) 16 (fun _=> 0) _ Tryz.size118 rfl rfl hZa ?_))
      exact bodyPost_ret (aV rfl _ _ .u8 (w.heap.size+1) 16 _ 5 rfl (hZa.setRow _ _) Tryz.underlying118 Tryz.size118) rfl ⟨by rw [QT.out],ay afD (by omega) _⟩
theorem KU (v:Value) (n:Nat) (f:Nat->Int) (w:World) (hv:Rd .u8 w v n f) (hn:16<=n) (hf:∀i,i<16->0<=f i/\f i<256):
  Calls Tryz.prog 189 #[v] w fun e w'=> ∃v,e=.returned v/\Own .u8 5 w.heap.size w' v 16 (fM f)/\Below w.heap.size w w':=by
 have HF:=ak hf;obtain ⟨a1,c1,rfl,l1,m1,z1,h1⟩:=hv;obtain ⟨b,off,rfl,s1,hcell⟩:=h1 (by omega);have HC:=ak hcell;clear hcell hf h1 z1
 go_enter Tryz.func189,Tryz.ntmps189
 go_wp2
 go_loopw [3,4] (fun v i wr=> ∃k:Nat,k<=16/\i=.int .i64 k/\Own .u8 5 w.heap.size wr v k (fM f)/\Below w.heap.size w wr) (fun _ i _=> 16 - (intOf i).toNat)
 case atStart=> exact ⟨0,dR _,rfl,Own.nil _ _ _ _ _,bA _ _⟩
 case round=>
  obtain ⟨k,hk,rfl,ho,hbel⟩:=hrel;have HO:=ak ho;have hsz:=hbel.size;clear ho;by_cases hlt:k<16
  ·have e1:=(hbel.cell (p:=⟨b,off+k,none⟩) s1).trans (HC.out k (by omega));obtain ⟨x0,x1⟩:=HF.out k hlt;have yI:Hid (fM f k=if k % 4=3 then f k % 16 else if k % 4=0/\0<k then f k / 4 * 4 else f k):=rfl;have HX:Hid (f k=f k):=rfl;obtain ⟨x,hx⟩:∃x,x=f k:=⟨_,rfl⟩
   rw [<-hx] at e1 x0 x1 yI;clear hx;rcases (by omega:(k % 4=1\/k % 4=2\/k=0)\/k=3\/k=7\/k=11\/k=15\/k=4\/k=8\/k=12) with h | rfl | rfl | rfl | rfl | rfl | rfl | rfl
   ·rw [if_neg (by omega),if_neg (by omega)] at yI;have h3:((k:Int)==3)=false:=by simp;omega
    have h7:((k:Int)==7)=false:=by simp;omega
    have h11:((k:Int)==11)=false:=by simp;omega
    have h15:((k:Int)==15)=false:=by simp;omega
    have h4:((k:Int)==4)=false:=by simp;omega
    have h8:((k:Int)==8)=false:=by simp;omega
    have h12:((k:Int)==12)=false:=by simp;omega
    clear h;go_wp2_with (at_builtin;refine bC rfl _ _ 23 rfl w.heap.size 5 .u8 1 fQ iW _ k (fM f) wr _ rfl HO.out rfl 1 rfl rfl ?_ (by omega) (by omega) hsz ?_;rotate_right;intro v' w1 hown hgrow)
    ·go_roundw
     case rel=> exact ⟨k+1,by omega,by go_num,hown,below_grown (hbel.alloc hsz _) hgrow HO.out (by simp;omega) (aP _)⟩
     case measure=> simp [intOf] <;> omega
    ·exact yI.out.symm
   all_goals
    have hcl:=yI.out;clear yI;simp at hcl;have yI:=ak hcl;clear hcl;go_wp2_with (at_builtin;refine bC rfl _ _ 23 rfl w.heap.size 5 .u8 1 fQ iW _ _ (fM f) wr _ rfl HO.out rfl 1 rfl rfl ?_ (by omega) (by omega) hsz ?_;rotate_right;intro v' w1 hown hgrow)
    ·go_roundw
     case rel=> exact ⟨_,by decide,rfl,hown,below_grown (hbel.alloc hsz _) hgrow HO.out (by simp;omega) (aP _)⟩
     case measure=> simp [intOf] <;> omega
    ·exact yI.out.symm
  ·obtain rfl:k=16:=by omega
   go_wp2;go_ret;exact ⟨_,rfl,HO.out,hbel⟩
theorem Ym {K:Int} (h:0<=K/\K<256 ^ 32):(∀i,dg 256 K (16+i)=dg 256 (K / 256 ^ 16) i)/\0<=K / 256 ^ 16/\K / 256 ^ 16<256 ^ 16:=by
 refine ⟨fun i=> ?_,Int.ediv_nonneg h.1 (by decide),Int.ediv_lt_of_lt_mul (by decide) (by rw [show (256:Int) ^ 16 * 256 ^ 16=256 ^ 32 by decide];exact h.2)⟩;unfold dg;rw [Int.pow_add,Int.ediv_ediv_of_nonneg (by decide)]
theorem Fu {F:Nat->Int} {N j n0:Nat} (hn:n0=min 16 (N - 16 * j)) (hf:∀i,i<n0->0<=F (16 * j+i)/\F (16 * j+i)<256):
  (∀i,i<n0->dg 256 (gL F N j) i=F (16 * j+i))/\dg 256 (gL F N j) n0=1/\0<=gL F N j/\gL F N j<256 ^ (n0+1):=by
 have hp:=Ho (f:=fun i=> F (16 * j+i)) (n:=n0) (by omega) hf;have hb:gL F N j=sm 256 (fun i=> F (16 * j+i)) n0+256 ^ n0:=by unfold gL;rw [<-hn]
 rw [hb];refine ⟨fun i hi=> ?_,?_,?_⟩
 ·rw [<-hp i (by omega)];unfold upd laid;rw [if_neg (by omega),if_pos (by omega)];rfl
 ·rw [<-hp n0 (by omega)];exact if_pos rfl
 ·have h1:=jB (B:=256) (by decide) (f:=fun i=> F (16 * j+i)) (n:=n0) hf;have h3:(256:Int) ^ (n0+1)=256 * 256 ^ n0:=by rw [Int.pow_succ,Int.mul_comm]
  have h4:(0:Int)<256 ^ n0:=cZ (by decide) _;rw [h3]
  generalize (256:Int) ^ n0=q at *
  omega
theorem VN (R:Int) (F:Nat->Int) (N j:Nat):(lQ R F N j+gL F N j % PP) % PP * R % PP=lQ R F N (j+1):=by
 rw [lQ,Int.add_emod_emod,Int.mul_emod,Int.emod_emod_of_dvd _ (Int.dvd_refl PP),←Int.mul_emod]
theorem Dx {X:Int} (h:0<=X/\X<PP):0<=X/\X<65536 ^ 10:=⟨h.1,Int.lt_trans h.2 (by decide)⟩
theorem aas {X Y:Int} (h:0<=X/\X<PP) (h':0<=Y/\Y<PP):0<=X+Y/\X+Y<65536 ^ 10:=by
 have h3:(2:Int) * PP<65536 ^ 10:=by decide
 omega
theorem zS (X:Int):0<=X % PP/\X % PP<PP:=⟨Int.emod_nonneg _ (by decide),wT _ (by decide)⟩
theorem Sv (K:Int) (hK:0<=K/\K<256 ^ 32) (v:Value) (F:Nat->Int) (N:Nat) (w:World) (hv:Rd .u8 w v N F) (hN:N<=1000000) (hF:∀i,i<N->0<=F i/\F i<256):
  Calls Tryz.prog 136 #[.agg (arr .u8 32 (dg 256 K)),v] w fun e w'=> e=.returned (.agg (arr .u8 16 (dg 256 (yP K F N))))/\Below w.heap.size w w':=by
 have HT:=ak hv;obtain ⟨ta,tc,rfl,t1,t2,t3,t4⟩:=hv;have HT4:=ak t4;have HF:=ak hF;obtain ⟨hd1,hd2,hd3⟩:=Ym hK;have HD1:=ak hd1;have cb:∀i,i<16->0<=fM (dg 256 K) i/\fM (dg 256 K) i<256:=fun i _=> by
  have:=aN (by decide:(0:Int)<256) K i;unfold fM
  split
  ·omega
  ·split<;> omega
 obtain ⟨R0,hR0⟩:∃R0,R0=sm 256 (fM (dg 256 K)) 16:=⟨_,rfl⟩
 have ZP:Hid (∀i,i<16->fM (dg 256 K) i=dg 256 R0 i):=fun i hi=> by rw [hR0,qh (by decide) cb i hi]
 have ZO:Hid (0<=R0/\R0<256 ^ 16):=by rw [hR0];exact jB (by decide) cb
 obtain ⟨R,hR⟩:∃R,R=R0 % PP:=⟨_,rfl⟩
 have HRL:Hid (0<=R/\R<PP):=by rw [hR];exact zS _
 obtain ⟨S,hS⟩:∃S,S=K / 256 ^ 16:=⟨_,rfl⟩
 have QT:Hid (yP K F N=lQ R F N ((N+15) / 16)+S):=by rw [hR,hS,hR0];rfl
 rw [<-hS] at HD1 hd2 hd3;have vN:=ak (And.intro hd2 hd3);have HRE:=ak hR;clear hd1 hd2 hd3 t3 t4 hF cb hR0 hR hS;obtain ⟨TN,Uu⟩:∃TN,TN=yP K F N:=⟨_,rfl⟩
 rw [<-Uu] at QT ⊢;clear Uu hK
 go_enter Tryz.func136,Tryz.ntmps136
 go_wp2
 go_loopw [5,6,7] (fun v u i wr=> ∃k:Nat,k<=16/\i=.int .i64 k/\Own .u8 5 (w.heap.size+2) wr v k (dg 256 K)/\Own .u8 5 (w.heap.size+2) wr u k (dg 256 S)/\Apart v u/\aD .u8 wr w.heap.size 32 (dg 256 K)/\aD .u8 wr (w.heap.size+1) 16 (fun _=> 0)/\Below w.heap.size w wr) (fun _ _ i _=> 16 - (intOf i).toNat)
 case atStart=> exact ⟨0,dR _,rfl,Own.nil _ _ _ _ _,Own.nil _ _ _ _ _,Apart.nil _,aD.alloc (bg rfl rfl) _,bg (by simp) (by rfl),((bA _ _).alloc (aP _) _).alloc (by simp) _⟩
 case round=>
  obtain ⟨k,hk,rfl,ho,hp,hap,hA,hZ,hbel⟩:=hrel;have HO:=ak ho;have HP:=ak hp;have HAP:=ak hap;have HA:=ak hA;have hsz:=hbel.size;have hzl:=hZ.lt;clear ho hp hap;by_cases hlt:k<16
  ·have e1:=hA.cell k (by omega);have hne0:=HO.out.far (show w.heap.size<w.heap.size+2 by omega);have hne1:=HO.out.far (show w.heap.size+1<w.heap.size+2 by omega);have ajr:=HP.out.far (show w.heap.size<w.heap.size+2 by omega);have ajq:=HP.out.far (show w.heap.size+1<w.heap.size+2 by omega);clear hA;go_upto_region 7 with (at_builtin;refine iA rfl _ _ 23 rfl (w.heap.size+2) 5 .u8 1 fQ iW _ k (dg 256 K) _ _ rfl HO.out rfl 1 rfl rfl ?_ (by omega) (by omega) (by omega) ?_;rotate_right;intro v' w1 hown hgrow hpl)
   ·have hA1:=(aD.alloc HA.out _).grown hgrow hne0;have hZ1:=(aD.alloc hZ _).grown hgrow hne1;have hP1:=(HP.out.alloc _).kept hgrow HAP.out.symm;have afK:=(HP.out.alloc _).apart HAP.out.symm hpl;have hb1:=below_grown (hbel.alloc hsz _) hgrow HO.out (by simp;omega) (by omega);have hs1:w.heap.size+2<=w1.heap.size:=by have:=hZ1.lt;omega
    have WH:=ak hown;have Wh:=ak hP1;have ahy:=ak afK;clear hown hgrow hpl hP1 afK hZ hbel HO HP HAP HA e1;have e2:=hA1.cell (16+k) (by omega);rw [HD1.out] at e2;go_wp2_with (at_builtin;refine iA rfl _ _ 23 rfl (w.heap.size+2) 5 .u8 1 fQ iW _ k (dg 256 S) w1 _ rfl Wh.out rfl 1 rfl rfl ?_ (by omega) (by omega) (by omega) ?_;rotate_right;intro v2 w2 hown hgrow hpl)
    ·go_roundw
     case rel=> exact ⟨k+1,by omega,by go_num,(WH.out.alloc _).kept hgrow ahy.out.symm,hown,(WH.out.alloc _).apart ahy.out.symm hpl,(aD.alloc hA1 _).grown hgrow ajr,(aD.alloc hZ1 _).grown hgrow ajq,below_grown (hb1.alloc hb1.size _) hgrow Wh.out (by simp;omega) (by omega)⟩
     case measure=> simp [intOf] <;> omega
    ·intro i hi;exact ig hi (by rw [show k+i=k by omega])
   ·intro i hi;exact ig hi (by rw [show k+i=k by omega])
  ·obtain rfl:k=16:=by omega
   have hx1:=HO.out.rd;have hx2:=ak HP.out.rd;clear hA;go_wp2_with fail;refine (KU _ 16 (dg 256 K) _ hx1 (aP _) (fun i _=> aN (by decide) _ _)).mono ?_;rintro e w1 ⟨c1,rfl,hc1,hb1⟩;have hc1':=ak (hc1.rd.congr ZP.out);have eT:=hbel.trans (hb1.mono hsz);have hx3:=ak (hx2.out.below hb1);have hz1:=ak (hZ.kept hb1);clear hx1 hx2 hc1 hb1 hbel hZ HO HAP HP HA;go_wp2_with fail;refine (pI _ R0 16 (by decide) ZO.out _ hc1'.out).mono ?_;rintro e w2 ⟨c2,rfl,hc2,hb2⟩;have hc2':=ak hc2.rd;have bq:=eT.trans (hb2.mono eT.size);have hx4:=ak (hx3.out.below hb2);have hz2:=ak (hz1.out.kept hb2);clear hx3 hz1 hc2 hb2 eT hc1';go_wp2_with fail;refine (rG _ R0 8 (by decide) ⟨ZO.out.1,Int.lt_of_lt_of_le ZO.out.2 (by decide)⟩ _ hc2'.out).mono ?_;rintro e w3 ⟨c3,rfl,hc3,hb3⟩;rw [<-HRE.out] at hc3;have afz:=ak hc3;have bH:=bq.trans (hb3.mono bq.size);have hx5:=ak (hx4.out.below hb3);have hz3:=ak (hz2.out.kept hb3);clear hx4 hz2 hc3 hb3 bq hc2';go_wp2_with (refine iJ rfl _ _ 142 rfl w3.heap.size 3 .i64 8 AP yH .i64 .i64 10 rfl rfl (by decide) (by decide) (aP _) ?_;intro w4 IE Um);have hb4:Below w3.heap.size w3 w4:=bU (bA _ _) Um (aP _);have hc4:=ak (afz.out.below hb4);have bQ:=bH.trans (hb4.mono bH.size);have hx6:=ak (hx5.out.below hb4);have hz4:=ak (hz3.out.kept hb4);have agG:Hid (0<N->∃b o,ta=some ⟨b,o,none⟩/\b<w4.heap.size/\∀i,i<N->w4.cell? ⟨b,o+i,none⟩=some (.int .u8 (F i))):=by
    intro hn;obtain ⟨b,o,rfl,h1,h2⟩:=HT4.out hn;exact ⟨b,o,rfl,by have:=bQ.size;omega,fun i hi=> (bQ.cell (p:=⟨b,o+i,none⟩) h1).trans (h2 i hi)⟩
   have ha4:=ak (IE.rd.congr fun i _=> show (0:Int)=dg 65536 (lQ R F N 0) i by simp [lQ,dg]);have hs4:=bQ.size;clear hx5 hz3 hb4 bH afz IE Um
   go_loopw [9,10] (fun v i wr=> ∃j q:Nat,j<=(N+15) / 16/\q=16 * j/\i=.int .i64 q/\Rd .i64 wr v 10 (dg 65536 (lQ R F N j))/\Below w4.heap.size w4 wr) (fun _ i _=> N+15 - (intOf i).toNat)
   case atStart=> exact ⟨0,0,dR _,rfl,rfl,ha4.out,bA _ _⟩
   case round=>
    obtain ⟨j,q,hj,hq,rfl,hv9,hbel⟩:=hrel;obtain ⟨W9,hW9⟩:∃W9,W9=wr:=⟨_,rfl⟩
    subst hW9;have hqb:q<=N+15:=by omega
    have HQ:=ak hq;clear hq;have HV9:=ak hv9;have hsw:=hbel.size;clear hv9 ha4;by_cases hlt:q<N
    ·obtain ⟨n0,hn0⟩:∃n0,n0=min 16 (N - 16 * j):=⟨_,rfl⟩
     have sQ:∀i,i<n0->0<=F (16 * j+i)/\F (16 * j+i)<256:=fun i hi=> HF.out (16 * j+i) (by have:=HQ.out;omega);obtain ⟨g1,g2,g3⟩:=Fu hn0 sQ;obtain ⟨b,hb⟩:∃b,b=gL F N j:=⟨_,rfl⟩
     have QX:=ak (VN R F N j);rw [<-hb] at g1 g2 g3 QX;have G1:=ak g1;have G2:=ak g2;have G3:=ak g3;have hn1:n0<=16/\q+n0<=N/\0<n0:=by have:=HQ.out;omega
     have hn2:n0<16->q+n0=N:=by have:=HQ.out;omega
     have Wj:=ak hn2;have fC:=ak hbel;clear g1 g2 g3 hb sQ hn0 hn2 hbel;go_wp2
     go_loopw [11,12] (fun v i wq=> ∃k p:Nat,k<=n0/\p=q+k/\i=.int .i64 p/\Own .u8 5 W9.heap.size wq v k (dg 256 b)/\Below W9.heap.size W9 wq) (fun _ i _=> q+n0 - (intOf i).toNat)
     case atStart=> exact ⟨0,q,dR _,rfl,rfl,Own.nil _ _ _ _ _,bA _ _⟩
     case round=>
      obtain ⟨k,p,hk,hp,rfl,ho,hbel⟩:=hrel;have HO:=ak ho;have hsp:=hbel.size;obtain ⟨tb,to,rfl,RD,kC⟩:=agG.out (by omega);have hbw:=fC.out.trans (hbel.mono hsw);clear ho;by_cases hkt:k<n0
      ·have e1:=(hbw.cell (p:=⟨tb,to+p,none⟩) RD).trans (kC p (by omega));have hp1:p<q+16:=by omega
       have hp2:p<N:=by omega
       have Wh:=ak hp;have HX:Hid (F p=dg 256 b k):=by unfold Hid;rw [G1.out k hkt,hp,HQ.out]
       clear kC hp;go_wp2_with (at_builtin;refine bC rfl _ _ 23 rfl W9.heap.size 5 .u8 1 fQ iW _ k (dg 256 b) _ _ rfl HO.out rfl 1 rfl rfl ?_ (by omega) (by omega) hsp ?_;rotate_right;intro v' w5 hown hgrow)
       ·go_roundw
        case rel=> exact ⟨k+1,p+1,by omega,by have:=Wh.out;omega,by go_num,hown,below_grown (hbel.alloc hsp _) hgrow HO.out (by simp;omega) (aP _)⟩
        case measure=> simp [intOf] <;> (have:=Wh.out;omega)
       ·intro i hi;exact ig hi (by rw [show k+i=k by omega];exact HX.out)
      ·obtain rfl:k=n0:=by omega
       have hp1:p<q+16/\p=N\/p=q+16:=by
        by_cases h16:k<16
        ·have:=Wj.out h16;omega
        ·omega
       have HB1:Hid (dg 256 b k=1):=G2.out;clear hp kC hkt;rcases hp1 with ⟨hp1,hp2⟩ | hp1
       all_goals
        subst p;go_wp2_with (at_builtin;refine bC rfl _ _ 23 rfl W9.heap.size 5 .u8 1 fQ iW _ k (dg 256 b) _ _ rfl HO.out rfl 1 rfl rfl ?_ (by omega) (by omega) hsp ?_;rotate_right;intro v' w5 hown hgrow)
        ·have hb5:=below_grown (hbel.alloc hsp _) hgrow HO.out (by simp;omega) (aP _);have FP:=ak hown.rd;have H95:=ak (HV9.out.below hb5);have Ov:=ak (fC.out.trans (hb5.mono hsw));have s5:=hb5.size;clear hown hgrow hb5 HO hbel hbw;refine (pI _ b (k+1) (by omega) G3.out _ FP.out).mono ?_;rintro e w6 ⟨c6,rfl,hc6,hb6⟩;have H96:=ak (H95.out.below hb6);have Na:=ak (Ov.out.trans (hb6.mono Ov.out.size));have ZY:=ak hc6.rd;clear hc6 hb6 H95 Ov FP;go_wp2_with fail;refine (rG _ b ((k+1+1) / 2) (by omega) (IU G3.out) _ ZY.out).mono ?_;rintro e w7 ⟨c7,rfl,hc7,xE⟩;have H97:=ak (H96.out.below xE);have WM:=ak (Na.out.trans (xE.mono Na.out.size));have ZX:=ak hc7;clear hc7 xE H96 Na ZY;go_wp2_with fail;refine (Pf _ _ (lQ R F N j) (b % PP) _ H97.out ZX.out (aas (MO R F N j) (zS b))).mono ?_;rintro e w8 ⟨c8,rfl,hc8,ny⟩;have WL:=ak (WM.out.trans (ny.mono WM.out.size));have ZW:=ak hc8;clear hc8 ny H97 WM ZX;go_wp2_with fail;refine (Pd _ _ ((lQ R F N j+b % PP) % PP) R _ ZW.out (hc4.out.below WL.out) (Dx (zS _)) (Dx HRL.out)).mono ?_;rintro e w9 ⟨c9,rfl,hc9,xD⟩;rw [QX.out] at hc9;have HB9:=ak (WL.out.trans (xD.mono WL.out.size));have HC9:=ak hc9;clear hc9 xD WL ZW;go_wp2;go_roundw
         case rel=> exact ⟨j+1,q+16,by have:=HQ.out;omega,by have:=HQ.out;omega,by go_num,HC9.out,HB9.out⟩
         case measure=> simp [intOf] <;> omega
        ·first | exact HB1.out.symm | (intro i hi;exact ig hi (by rw [show k+i=k by omega];exact HB1.out.symm))
    ·obtain rfl:j=(N+15) / 16:=by have:=HQ.out;omega
     obtain ⟨AC,hAC⟩:∃AC,AC=lQ R F N ((N+15) / 16):=⟨_,rfl⟩
     rw [<-hAC] at QT HV9;clear hAC;have hx7:=ak (hx6.out.below hbel);have hbW:=ak (bQ.trans (hbel.mono hs4));have hz7:=ak (hz4.out.kept hbel);clear hx6 hbel hz4 bQ hc4 agG;go_wp2_with fail;refine (pI _ S 16 (by decide) vN.out _ hx7.out).mono ?_;rintro e w5 ⟨c5,rfl,hc5,hb5⟩;obtain ⟨xa,xc,rfl,xl,xm,xz,xh⟩:=HV9.out.below hb5;obtain ⟨xb,xo,rfl,xs,xe⟩:=xh (by decide);obtain ⟨ya,yc,rfl,yl,ym,yz,yh⟩:=hc5.rd;obtain ⟨yb,yo,rfl,ys,ye⟩:=yh (by decide);have XE:=ak xe;have YE:=ak ye;have hb6:=ak (hbW.out.trans (hb5.mono hbW.out.size));have hz8:=ak (hz7.out.kept hb5);have hs5:=hb6.out.size;clear xz yz xe ye xh yh hc5 hb5 hx7 hz7 hbW HV9;go_upto_region 22 with (fail);refine aC (fun w6=> aD .u8 w6 w5.heap.size 16 (fun _=> 0)/\Below w5.heap.size w5 w6) ⟨bg rfl (by rfl),(bA _ _).alloc (aP _) _⟩ ?_;rintro w6 ⟨hO,xE⟩;go_wp2
     go_loopw [15,16] (fun c i wr=> ∃(k:Nat) (z:Int),k<=8/\z=Aq AC S k/\0<=z/\z<=1/\c=.int .i64 z/\i=.int .i64 k/\aD .u8 wr w5.heap.size 16 (upto (2 * k) (dg 256 (AC+S)) (fun _=> 0))/\Below w5.heap.size w5 wr) (fun _ i _=> 8 - (intOf i).toNat)
     case atStart=> exact ⟨0,0,dR _,(wP _ _).symm,by decide,by decide,rfl,rfl,by rw [Nat.mul_zero,bF];exact hO,xE⟩
     case round=>
      clear hO xE;obtain ⟨k,z,hk,hz,z0,z1,rfl,rfl,hO,hbel⟩:=hrel;have HZ:=ak hz;clear hz;by_cases hlt:k<8
      ·have c1:=(hbel.cell (p:=⟨xb,xo+k,none⟩) xs).trans (XE.out k (by omega));have c2:=(hbel.cell (p:=⟨yb,yo+k,none⟩) ys).trans (YE.out k (by omega));have e2:=hO.cell (2 * k) (by omega);have e3:=hO.cell (2 * k+1) (by omega);have f2:=hO.free (2 * k);have f3:=hO.free (2 * k+1);have HOO:=ak hO;obtain ⟨x0,x1⟩:=aN (by decide:(0:Int)<65536) AC k;obtain ⟨y0,y1⟩:=aN (by decide:(0:Int)<65536) S k;have u1:=aR (x:=dg 65536 AC k+dg 65536 S k) (by omega) (by omega);have u2:=aR (x:=dg 65536 AC k+dg 65536 S k+z) (by omega) (by omega);obtain ⟨s1,s2⟩:=wQ AC S k;rw [<-HZ.out] at s1 s2;have HS2:=ak s2;have HBa:Hid ((dg 65536 AC k+dg 65536 S k+z) % 256=dg 256 (AC+S) (2 * k)):=by unfold Hid;rw [<-Vv,←s1];omega
       have HBb:Hid ((dg 65536 AC k+dg 65536 S k+z) / 256 % 256=dg 256 (AC+S) (2 * k+1)):=by unfold Hid;rw [<-Vu,←s1];omega
       clear s1 s2 hO;go_wp2
       go_quiet (fail)
       clear u1 u2;go_wp2;go_roundw
       case rel=> exact ⟨k+1,_,by omega,HS2.out,by omega,by omega,rfl,by go_num,by rw [show 2 * (k+1)=2 * k+1+1 by omega,←aY HBb.out,←aY HBa.out];exact ((HOO.out.drewN _).set (2 * k) _).set (2 * k+1) _,((below_drewN hbel _).setCell (aP _) _).setCell (aP _) _⟩
       case measure=> simp [intOf] <;> omega
      ·obtain rfl:k=8:=by omega
       have hzf:=hz8.out.kept hbel;have hbf:=hb6.out.trans (hbel.mono hs5);have hzl:=hz8.out.lt;clear hbel
       go_wp2_with (first
        | (refine aM rfl 118 _ rfl .u8 w5.heap.size 16 _ 5 Tryz.underlying118 Tryz.size118 rfl hO ?_)
        | (refine aH rfl 118 _ _ rfl .u8 (w.heap.size+1) 16 (fun _=> 0) _ Tryz.size118 rfl rfl hzf ?_))
       refine bodyPost_ret (aV rfl _ _ .u8 (w.heap.size+1) 16 _ 5 rfl (hzf.setRow _ _) Tryz.underlying118 Tryz.size118) rfl ⟨?_,ay hbf (by omega) _⟩;rw [QT.out,dY (bP _ _ (aP _))]
end Go.Proofs.YtpcjekgfnfjbpaaGreat
