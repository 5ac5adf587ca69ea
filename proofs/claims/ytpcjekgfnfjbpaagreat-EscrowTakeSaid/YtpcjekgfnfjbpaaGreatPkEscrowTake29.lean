/-
  Part 29 of EscrowTake. Conditions: named in each theorem.
-/
import Derived.Test.YtpcjekgfnfjbpaaGreatPkEscrowTake26
import Derived.Test.YtpcjekgfnfjbpaaGreatPkEscrowTake6
set_option linter.unusedVariables false
set_option linter.unusedSimpArgs false
set_option maxRecDepth 100000
set_option maxHeartbeats 12800000
namespace Go.aZ
theorem VQ {R:Int} {F:Nat->Int} {N j:Nat} {f:Nat->Int} {b:Int} (h:sm 256 f 17 % PP=wF R F N j) (hb:b=kJ F N j) (hb0:0<=b/\b<256 ^ 17) (hR:0<=R/\R<256 ^ 17):
  sm 256 (pd (gM (sm 256 (fun i=> gy (fun i=> f i+dg 256 b i) (dg 256 R) i 17) 17))) 17 % PP=wF R F N (j+1):=by
 have e:sm 256 (fun i=> f i+dg 256 b i) 17=sm 256 f 17+b:=by
  have:=sM 256 f (dg 256 b) 1 1 17;simp only [Int.one_mul] at this;rw [this,nX (by decide),Ju hb0.1 hb0.2]
 rw [Sd,e,GZ R hR,wF,←h,hb,Int.mul_emod,←Int.emod_add_emod,←Int.mul_emod]
theorem Jm {F:Nat->Int} {N:Nat} (hF:∀i,i<N->0<=F i/\F i<256) (j:Nat) (h:16 * j<N):0<=kJ F N j/\kJ F N j<256 ^ 17:=by
 unfold kJ;have hm:min 16 (N - 16 * j)<=16:=by omega
 have h1:=nY (B:=256) (by decide) (f:=fun i=> F (16 * j+i)) (n:=min 16 (N - 16 * j)) (fun i hi=> hF _ (by omega));have h2:(256:Int) ^ min 16 (N - 16 * j)<=256 ^ 16:=zu 256 (by decide) _ _ hm;have h3:(256:Int) ^ 17=256 * 256 ^ 16:=by decide
 have h4:(0:Int)<256 ^ 16:=by decide
 generalize (256:Int) ^ min 16 (N - 16 * j)=p at *
 generalize (256:Int) ^ 16=q at *
 omega
def NY (K:Int) (F:Nat->Int) (N:Nat):Int:=wF (sm 256 (kG (dg 256 K)) 16 % PP) F N ((N+15) / 16)+K / 256 ^ 16
theorem VB {N j n0 L:Nat} (hL:L=N - 16 * j) (hn:n0=min 16 L) (h:16 * j<N):L - n0=N - 16 * (j+1):=by omega
theorem acZ {N j i n0 L:Nat} (hL:L=N - 16 * j) (hn:n0<=L) (h:i<n0):16 * j+i<N:=by omega
end Go.aZ
namespace Go.Proofs.YtpcjekgfnfjbpaaGreat
open Go.RowKit Go.aZ
attribute [local go_sem ↓] Go.wp_at_zero Go.wp_at_succ
def aiO:Value->Nat
 | .slice _ n _=> n
 | _=> 0
theorem WR (K:Int) (hK:0<=K/\K<256 ^ 32) (v:Value) (m:Nat) (lens:Nat->Nat) (g:Nat->Nat->Int) (F:Nat->Int) (N:Nat) (w:World) (hv:qM w v m lens g) (hg:∀j,j<m->∀i,i<lens j->F (dA lens j+i)=g j i)
  (hN:dA lens m=N) (Np:N<=1000000) (hF:∀i,i<N->0<=F i/\F i<256):
  Calls Tryz.prog 182 #[.agg (arr .u8 32 (dg 256 K)),v] w fun e w'=> e=.returned (.agg (arr .u8 16 (dg 256 (NY K F N))))/\Below w.heap.size w w':=by
 have HT:=ak hv;obtain ⟨ta,tc,rfl,t1,t2,t3⟩:=hv;have HT3:=ak t3;have HG:=ak hg;have HN:=ak hN;have HF:=ak hF;have HO:∀j,j<=m->dA lens j<=N:=fun j hj=> by rw [<-hN];exact om lens hj
 have QJ:=ak HO;clear t3 hg hN hF HO;obtain ⟨R,hR⟩:∃R,R=sm 256 (kG (dg 256 K)) 16 % PP:=⟨_,rfl⟩
 have cb:∀i,i<16->0<=kG (dg 256 K) i/\kG (dg 256 K) i<256:=fun i _=> by
  have:=bE (by decide:(0:Int)<256) K i;unfold kG
  split
  ·omega
  ·split<;> omega
 have YU:Hid (∀(v:Value) (w:World),Rd .u8 w v 16 (kG (dg 256 K))->Calls Tryz.prog 232 #[v] w fun e w'=> e=.returned (.tuple #[.agg (arr .u8 17 (dg 256 R)),.int .i64 0])/\Below w.heap.size w w'):=by
  intro v w hv;rw [hR];exact GJ v 16 _ w hv cb (by decide)
 have JA:Hid (∀(v:Value) (w:World),Rd .u8 w v 16 (fun i=> dg 256 K (16+i))->Calls Tryz.prog 232 #[v] w fun e w'=> e=.returned (.tuple #[.agg (arr .u8 17 (dg 256 (K / 256 ^ 16))),.int .i64 0])/\Below w.heap.size w w'):=by
  intro v w hv;rw [<-abQ hK];exact GJ v 16 _ w hv (fun i _=> bE (by decide) _ _) (by decide)
 have HC:Hid (∀w:World,Calls Tryz.prog 233 #[.agg (arr .u8 32 (dg 256 K))] w fun e w'=> ∃v,e=.returned v/\Rd .u8 w' v 16 (kG (dg 256 K))/\Below w.heap.size w w'):=fun w=> Jb _ (fun i _=> bE (by decide) _ _) w;obtain ⟨S,hS⟩:∃S,S=K / 256 ^ 16:=⟨_,rfl⟩
 have HTN:Hid (NY K F N=wF R F N ((N+15) / 16)+S):=by rw [hR,hS];rfl
 rw [<-hS] at JA;obtain ⟨cf,hcf⟩:∃cf,cf=kG (dg 256 K):=⟨_,rfl⟩
 have HRB:Hid (0<=R/\R<256 ^ 17):=by rw [hR];exact aeY _
 rw [<-hcf] at YU HC;clear hR cb hS hcf hK;obtain ⟨TN,hTN⟩:∃TN,TN=NY K F N:=⟨_,rfl⟩
 rw [<-hTN] at HTN ⊢;clear hTN
 go_enter Tryz.func182,Tryz.ntmps182
 go_upto_region 2 with (fail)
 refine aD (fun w1=> aF .u8 w1 w.heap.size 32 (dg 256 K)/\aF .u8 w1 (w.heap.size+1) 16 (fun _=> 0)/\Below w.heap.size w w1/\w1.heap.size=w.heap.size+2)
  ⟨aF.alloc (bM rfl rfl) _,bM (by simp) (by rfl),((bN _ _).alloc (bA _) _).alloc (by simp) _,by simp⟩ ?_
 rintro w1 ⟨hA,hZ,hbel,hsz⟩;have AQ:=ak hsz;clear hsz;go_wp2
 go_loopw [5,21] (fun v i wr=> ∃j:Nat,j<=m/\i=.int .i64 j/\Own .u8 5 (w.heap.size+2) wr v (dA lens j) F/\aF .u8 wr w.heap.size 32 (dg 256 K)/\aF .u8 wr (w.heap.size+1) 16 (fun _=> 0)/\Below w.heap.size w wr/\w.heap.size+2<=wr.heap.size) (fun _ i _=> m - (intOf i).toNat)
 case atStart=> exact ⟨0,iY _,rfl,Own.nil _ _ _ _ _,hA,hZ,hbel,by have:=AQ.out;omega⟩
 case round=>
  clear hA hZ hbel;obtain ⟨j,hj,rfl,ho,hA,hZ,hbel,hs2⟩:=hrel;have HO:=ak ho;clear ho;by_cases hlt:j<m
  ·obtain ⟨tb,to,rfl,tlt,pV⟩:=HT3.out (by omega);obtain ⟨u,hu,Po⟩:=pV j hlt;have e1:=(hbel.cell (p:=⟨tb,to+j,none⟩) tlt).trans hu;obtain ⟨ua,uc,rfl,u1,u2,u3,u4⟩:=id Po;have Wh:=ak (Po.below hbel);have HNB:Hid (dA lens j+lens j<=N):=QJ.out (j+1) (by omega);have hne0:=HO.out.far (show w.heap.size<w.heap.size+2 by omega);have hne1:=HO.out.far (show w.heap.size+1<w.heap.size+2 by omega);clear pV hu Po u3 u4;go_wp2_with (at_builtin;refine iF rfl _ _ 23 rfl (w.heap.size+2) 5 .u8 1 jI vB _ (dA lens j) F HO.out rfl _ (lens j) (g j) Wh.out rfl (HG.out j hlt) (by have:=HNB.out;omega) (by have:=HNB.out;omega) hs2 ?_;intro v' w3 hown hgrow);go_roundw
   case rel=> exact ⟨j+1,by omega,by go_num,hown,hA.grown hgrow hne0,hZ.grown hgrow hne1,below_grown hbel hgrow HO.out hbel.size (by omega),by have:=hgrow.size;omega⟩
   case measure=> simp [intOf] <;> omega
  ·obtain rfl:j=m:=by omega
   have hall:=HO.out.rd;rw [HN.out] at hall;have Zb:=ak hall;clear HO hall;obtain ⟨W0,hW0⟩:∃W0,W0=wr:=⟨_,rfl⟩
   subst hW0;have hbelW:=hbel;have hZW:=hZ;have HBW:=ak hbelW;have HZW:=ak hZW;replace hbel:=bN W0.heap.size W0;clear hbelW hZW;have s0:=hbel.size;have l0:=hZ.lt;go_wp2_with (refine aQ rfl 22 _ rfl .u8 w.heap.size 32 _ 5 gH eT rfl (aF.alloc hA _) ?_);refine (HC.out _).mono ?_;rintro e w2 ⟨v,rfl,hv,hb2⟩;have hA2:=(aF.alloc hA _).kept hb2;have hZ2:=(aF.alloc hZ _).kept hb2;have dG:=(hbel.alloc s0 _).trans (hb2.mono (by simp));have hE:=(Own.new .u8 5 W0 #[] 0 cf (bA _) (by omega) rfl (fun i hi=> by omega)).below hb2;have s2:W0.heap.size<=w2.heap.size:=by have:=hb2.size;simp at this;omega
   have HV:=ak hv;clear hA hZ hbel hb2 hv;go_wp2_with (at_builtin;refine iF rfl _ _ 23 rfl W0.heap.size 5 .u8 1 jI vB _ 0 cf hE rfl _ 16 cf HV.out rfl (fun i _=> by rw [pz]) (by omega) (by omega) s2 ?_;intro v3 w3 hown hgrow);refine (YU.out _ _ (by rw [pz] at hown;exact hown.rd)).mono ?_;rintro e w4 ⟨rfl,hb4⟩;have vU:=(hA2.grown hgrow (hE.far (by omega))).kept hb4;have oH:=(hZ2.grown hgrow (hE.far (by omega))).kept hb4;have dL:=below_grown dG hgrow hE (by omega) s0;have eP:=dL.trans (hb4.mono dL.size);have s4:=eP.size;have l4:=oH.lt;have k4:=vU.lt;clear hA2 hZ2 dG hE hown hgrow hb4 dL HV;go_upto_region 8 with (refine aG rfl 268 _ _ rfl .u8 w4.heap.size 17 (fun _=> 0) _ Tryz.size268 rfl rfl (bM rfl rfl) ?_)
   refine aD (fun w5=> aF .u8 w5 w4.heap.size 17 (dg 256 R)/\aF .u8 w5 w.heap.size 32 (dg 256 K)/\aF .u8 w5 (w.heap.size+1) 16 (fun _=> 0)/\Below W0.heap.size W0 w5)
    ⟨aF.setRow (bM (n:=17) (f:=fun _=> 0) rfl rfl) _ _,aF.aA (aF.alloc vU _) _ (by omega) _,aF.aA (aF.alloc oH _) _ (by omega) _,ay (eP.alloc s4 _) s4 _⟩ ?_
   rintro w5 ⟨hR5,sU,nV,fM⟩;clear vU oH eP;have hRd:Rd .u8 w5 (.slice (some ⟨w.heap.size,16,none⟩) 16 16) 16 (fun i=> dg 256 K (16+i)):=⟨_,_,rfl,by decide,by decide,(fun h=> by cases h),fun _=> ⟨_,16,rfl,sU.lt,fun i hi=> sU.cell (16+i) (by omega)⟩⟩
   have HRd:=ak hRd;clear hRd sU;go_wp2_with fail;refine (JA.out _ _ HRd.out).mono ?_;rintro e w6 ⟨rfl,hb6⟩;have hR6:=hR5.kept hb6;have vT:=nV.kept hb6;have iO:=fM.trans (hb6.mono fM.size);have s6:=iO.size;have l6:=vT.lt;have r6:=hR6.lt;clear hR5 nV fM hb6 HRd;go_upto_region 9 with (refine aG rfl 268 _ _ rfl .u8 w6.heap.size 17 (fun _=> 0) _ Tryz.size268 rfl rfl (bM rfl rfl) ?_)
   refine aD (fun w7=> aF .u8 w7 w6.heap.size 17 (dg 256 S)/\aF .u8 w7 w4.heap.size 17 (dg 256 R)/\aF .u8 w7 (w.heap.size+1) 16 (fun _=> 0)/\Below W0.heap.size W0 w7)
    ⟨aF.setRow (bM (n:=17) (f:=fun _=> 0) rfl rfl) _ _,aF.aA (aF.alloc hR6 _) _ (by omega) _,aF.aA (aF.alloc vT _) _ (by omega) _,ay (iO.alloc s6 _) s6 _⟩ ?_
   rintro w7 ⟨hS7,hR7,Nn,nC⟩;clear hR6 vT iO
   go_wp2_with (first
    | (refine aQ rfl 268 _ rfl .u8 w4.heap.size 17 _ 5 Tryz.underlying268 Tryz.size268 rfl hR7 ?_)
    | (refine eB rfl (eD rfl (Jk _)) ?_))
   refine (tN R _).mono ?_;rintro e w8 ⟨rfl,Nl⟩;have hS8:=hS7.kept Nl;have QE:=Nn.kept Nl;have oC:=nC.trans (Nl.mono nC.size);have s8:=oC.size;have l8:=QE.lt;have r8:=hS8.lt;clear hS7 hR7 Nn nC Nl;obtain ⟨p,hp⟩:∃p,p=w6.heap.size:=⟨_,rfl⟩
   rw [<-hp] at hS8 r8 ⊢;clear hp s6 l6 r6
   go_wp2_with (first
    | (refine aG rfl 271 _ _ rfl .u32 w8.heap.size 17 (fun _=> 0) _ Tryz.size271 rfl rfl (aF.alloc (bM (by simp) (by rfl)) _) ?_)
    | (refine aG rfl 271 _ _ rfl .u32 (w8.heap.size+1) 17 (fun _=> 0) _ Tryz.size271 rfl rfl (aF.aA (bM (by simp) (by rfl)) _ (by omega) _) ?_))
   refine aD (fun wq=> aF .u32 wq w8.heap.size 17 (dg 256 0)/\aF .u32 wq (w8.heap.size+1) 17 (dg 256 R)/\aF .u8 wq p 17 (dg 256 S)/\aF .u8 wq (w.heap.size+1) 16 (fun _=> 0)/\Below W0.heap.size W0 wq) ⟨?_,?_,?_,?_,?_⟩ ?_
   ·refine aF.aA (aF.congr (f:=fun _=> 0) (aF.setRow (aF.alloc (bM (f:=fun _=> 0) (n:=17) (by simp) (by rfl)) _) _ _) fun i _=> by simp [dg]) _ (by omega) _
   ·exact aF.setRow (aF.aA (bM (n:=17) (f:=fun _=> 0) (by simp) (by rfl)) _ (by omega) _) _ _
   ·exact aF.aA (aF.aA (aF.alloc (aF.alloc hS8 _) _) _ (by omega) _) _ (by omega) _
   ·exact aF.aA (aF.aA (aF.alloc (aF.alloc QE _) _) _ (by omega) _) _ (by omega) _
   ·exact ay (ay ((oC.alloc s8 _).alloc (by simp;omega) _) s8 _) (by omega) _
   rintro wb ⟨hT8,hY8,hSb,hZb,Zx⟩;clear hS8 QE oC;obtain ⟨A,hAe⟩:∃A,A=w8.heap.size:=⟨_,rfl⟩
   rw [<-hAe] at hT8 hY8 r8 l8 s8 ⊢;clear hAe hZb;simp only [Act.put]
   go_loopw [5] (fun v wq=> ∃(j:Nat) (f:Nat->Int),j<=(N+15) / 16/\Rd .u8 W0 v (N - 16 * j) (fun i=> F (16 * j+i))/\(∀i,i<17->0<=f i/\f i<=300)/\sm 256 f 17 % PP=wF R F N j/\aF .u32 wq A 17 f/\aF .u32 wq (A+1) 17 (dg 256 R)/\aF .u8 wq p 17 (dg 256 S)/\Below W0.heap.size W0 wq) (fun v _=> aiO v)
   case atStart=> exact ⟨0,dg 256 0,iY _,by rw [Nat.mul_zero,Nat.sub_zero];exact Zb.out.congr (fun i _=> by rw [pz]),fun i _=> by rw [acO];decide,by rw [nX (by decide)];rfl,hT8,hY8,hSb,Zx⟩
   case round=>
    clear hT8 hY8 hSb Zx Zb;obtain ⟨j,f,hj,hrd,Ip,hacc,hX,hY,hP,hbel⟩:=hrel;have Za:=ak Ip;have adF:=ak hacc;have HP:=ak hP;clear Ip hacc hP;by_cases hlt:16 * j<N
    ·obtain ⟨L,hL⟩:∃L,L=N - 16 * j:=⟨_,rfl⟩
     rw [<-hL] at hrd;have hL0:0<L:=by omega
     obtain ⟨la,lc,rfl,d1,d2,d3,d4⟩:=id hrd;obtain ⟨n0,hn0⟩:∃n0,n0=min 16 L:=⟨_,rfl⟩
     have hn1:n0<=16/\n0<=L:=by omega
     have hn2:0<n0:=by omega
     have YV:Hid (n0<L->n0=16):=by unfold Hid;omega
     have hmin:(if 16<(L:Int) then (16:Int) else (L:Int))=(n0:Int):=by split<;> omega
     obtain ⟨g1,g2⟩:=Rd.head jI vB la L lc n0 hn1.2 d1;obtain ⟨la',k1,k2,k3⟩:=Rd.cut jI vB la L lc n0 L hn1.2 (bA _) d1;have HRH:=ak (g2 _ _ hrd);have NK:=ak (k3 _ _ hrd).2;have HB1:Hid (sm 256 (fun i=> F (16 * j+i)) n0+256 ^ n0=kJ F N j):=by unfold Hid kJ;rw [<-hL,←hn0]
     have HB2:Hid (0<=kJ F N j/\kJ F N j<256 ^ 17):=Jm HF.out j hlt;have HBY:Hid (∀i,i<n0->0<=F (16 * j+i)/\F (16 * j+i)<256):=fun i hi=> HF.out (16 * j+i) (acZ hL hn1.2 hi);have HLL:Hid (L - n0=N - 16 * (j+1)):=VB hL hn0 hlt;have hs:=hbel.size;have hXl:=hX.lt;have hYl:=hY.lt;clear d3 d4 g2 k1 k3 hrd hL hn0;have K2:=ak k2;have G1:=ak g1;clear k2 g1;obtain ⟨b,hb⟩:∃b,b=kJ F N j:=⟨_,rfl⟩
     rw [<-hb] at HB1 HB2;have HBE:=ak hb;clear hb;go_upto_region 13 with (fail)
     refine aD (fun w2=> aF .u8 w2 wr.heap.size 17 (fun _=> 0)/\aF .u32 w2 A 17 f/\aF .u32 w2 (A+1) 17 (dg 256 R)/\aF .u8 w2 p 17 (dg 256 S)/\Below W0.heap.size W0 w2)
      ⟨bM rfl rfl,aF.alloc hX _,aF.alloc hY _,aF.alloc HP.out _,hbel.alloc hs _⟩ ?_
     rintro w2 ⟨hQ2,hX2,hY2,hP2,dG⟩;obtain ⟨B,ZC⟩:∃B,B=wr.heap.size:=⟨_,rfl⟩
     rw [<-ZC] at hQ2 hXl hYl hs ⊢;clear hX hY HP hbel ZC
     refine jf (n:=87) 4 rfl (by decide) (by kernel_rfl) (by kernel_rfl) (by kernel_rfl) (by kernel_rfl) rfl
      (fun ii vv _=> (match ii with | 0=> vv=.slice (some ⟨B,0,none⟩) 17 17 | 1=> vv=.slice la L lc | 2=> vv=.int .i64 ((n0:Int)) | 3=> vv=.slice la n0 lc | _=> True))
      (fun w w'=> Below w.heap.size w w') (fun _ _ h=> h) (fun _ _ _ _ h _=> h) rfl ?_ ?_
     ·refine cO ?_;refine ⟨?_,?_,?_,?_,(fun h=> absurd rfl h),trivial⟩
      ·intro _ a w2 hB hF hd;exact aH <| aP (fF rfl (hF.same 15 rfl) Tryz.underlying268 (by kernel_rfl)) rfl
      ·intro _ a w2 hB hF hd;exact aH <| dJ rfl (hF.same 5 rfl)
      ·intro _ a w2 hB hF hd;exact aH <| dJ rfl (hF.same 14 rfl)
      ·intro _ a w2 hB hF hd;exact aH <| aP (dH rfl (hd 1 _ rfl (aj rfl)) (by simp only [Option.map_some,Option.map_none,show a.eval (Operand.tmp 53)=.int .i64 ((n0:Int)) from (hd 2 _ rfl (aj rfl))];exact G1.out _)) rfl
     ·intro a w3 hB hF hS;obtain ⟨x55,afc⟩:∃x,x=a.tmps.getD 55 undef:=⟨_,rfl⟩
      have ha:=aI rfl rfl hF [_,_,_,_,x55] rfl ⟨hS 0 _ rfl (by decide),hS 1 _ rfl (by decide),hS 2 _ rfl (by decide),hS 3 _ rfl (by decide),afc.symm,trivial⟩;simp only [puts,Act.put,dQ,dR,dS] at ha;subst ha;clear afc;clear hS hF;have hX3:=hX2.kept hB;have hY3:=hY2.kept hB;have hP3:=hP2.kept hB;have hQ3:=hQ2.kept hB;have dL:=dG.trans (hB.mono dG.size);have HR3:=ak (HRH.out.below dL);clear hX2 hY2 hP2 hQ2 dG hB HRH;refine kW _ _ 23 23 rfl B 0 17 17 17 (fun _=> 0) jI Tryz.size5 rfl hQ3 _ n0 (fun i=> F (16 * j+i)) HR3.out rfl (by omega) (by omega) ?_;go_upto_region 14 with (fail)
      refine aD (fun w4=> aF .u8 w4 B 17 (laid (fun _=> 0) 0 n0 (fun i=> F (16 * j+i)))/\aF .u32 w4 A 17 f/\aF .u32 w4 (A+1) 17 (dg 256 R)/\aF .u8 w4 p 17 (dg 256 S)/\Below W0.heap.size W0 w4)
       ⟨hQ3.setRow _ _,hX3.aA _ (by omega) _,hY3.aA _ (by omega) _,hP3.aA _ (by omega) _,ay dL hs _⟩ ?_
      rintro w4 ⟨hQ4,hX4,hY4,hP4,eP⟩;clear hX3 hY3 hP3 hQ3 dL HR3;have e1:=hQ4.cell n0 (by omega);have f1:=hQ4.free n0;have k2:=K2.out;go_upto_region 15 with (fail)
      refine aD (fun w5=> aF .u8 w5 B 17 (dg 256 b)/\aF .u32 w5 A 17 f/\aF .u32 w5 (A+1) 17 (dg 256 R)/\aF .u8 w5 p 17 (dg 256 S)/\Below W0.heap.size W0 w5)
       ⟨(hQ4.set n0 1).congr (fun i hi=> by rw [Sq (f:=fun i=> F (16 * j+i)) hn1.1 HBY.out i hi,HB1.out]),hX4.other (by simp;omega) _,hY4.other (by simp;omega) _,hP4.other (by simp;omega) _,eP.setCell hs _⟩ ?_
      rintro w5 ⟨hQ5,hX5,hY5,hP5,fM⟩;clear hQ4 hX4 hY4 hP4 eP e1 f1;go_wp2_with (refine aQ rfl 268 _ rfl .u8 B 17 _ 5 Tryz.underlying268 Tryz.size268 rfl hQ5 ?_);refine (tN b _).mono ?_;rintro e w6 ⟨rfl,hb6⟩;have hX6:=hX5.kept hb6;have hY6:=hY5.kept hb6;have hP6:=hP5.kept hb6;have iO:=fM.trans (hb6.mono fM.size);have s6:=iO.size;have x6:=hX6.lt;have y6:=hY6.lt;have p6:=hP6.lt;clear hQ5 hX5 hY5 hP5 fM hb6 k2 K2 G1;go_upto_region 17 with (refine aG rfl 271 _ _ rfl .u32 w6.heap.size 17 (fun _=> 0) _ Tryz.size271 rfl rfl (bM (by simp) (by rfl)) ?_)
      refine aD (fun w7=> aF .u32 w7 w6.heap.size 17 (dg 256 b)/\aF .u32 w7 A 17 f/\aF .u32 w7 (A+1) 17 (dg 256 R)/\aF .u8 w7 p 17 (dg 256 S)/\Below W0.heap.size W0 w7)
       ⟨aF.setRow (bM (n:=17) (f:=fun _=> 0) rfl rfl) _ _,aF.aA (aF.alloc hX6 _) _ (by omega) _,aF.aA (aF.alloc hY6 _) _ (by omega) _,aF.aA (aF.alloc hP6 _) _ (by omega) _,ay (iO.alloc s6 _) s6 _⟩ ?_
      rintro w7 ⟨hM7,hX7,hY7,hP7,nC⟩;obtain ⟨M,hMe⟩:∃M,M=w6.heap.size:=⟨_,rfl⟩
      rw [<-hMe] at hM7 x6 y6 p6 s6 ⊢;clear hX6 hY6 hP6 iO hMe;simp only [Act.put];go_wp2
      go_loopw [63] (fun i wq=> ∃k:Nat,k<=17/\i=.int .i64 k/\aF .u32 wq A 17 (upto k (fun i=> f i+dg 256 b i) f)/\aF .u32 wq M 17 (dg 256 b)/\aF .u32 wq (A+1) 17 (dg 256 R)/\aF .u8 wq p 17 (dg 256 S)/\Below W0.heap.size W0 wq) (fun i _=> 17 - (intOf i).toNat)
      case atStart=> exact ⟨0,iY _,rfl,by rw [dB];exact hX7,hM7,hY7,hP7,nC⟩
      case round=>
       clear hM7 hX7 hY7 hP7 nC;obtain ⟨k,hk,rfl,hX,hM,hY,hP,hbel⟩:=hrel;have HM:=ak hM;have HY:=ak hY;have HPP:=ak hP;by_cases hkt:k<17
       ·have e1:=hX.cell k hkt;rw [upto_at] at e1;have e2:=hM.cell k hkt;have f1:=hX.free k;obtain ⟨b0,b1⟩:=IL b k;obtain ⟨b2,b3⟩:=Za.out k hkt;have HX:=ak hX;clear hX hY hP hM;go_wp2
        go_region
        all_goals
         go_wp2;go_roundw
         case rel=> exact ⟨k+1,by omega,by go_num,by rw [<-bR rfl];exact (HX.out.set k _).drew,(HM.out.other (by simp;omega) _).drew,(HY.out.other (by simp) _).drew,(HPP.out.other (by simp;omega) _).drew,(hbel.setCell (by simp;omega) _).drew⟩
         case measure=> simp [intOf] <;> omega
       ·obtain rfl:k=17:=by omega
        have hX2:=hX.congr (dY _ _ (bA _));clear hX hY hP hM;have bf:∀i,i<17->0<=f i+dg 256 b i/\f i+dg 256 b i<=600:=fun i hi=> by have:=IL b i;have:=Za.out i hi;omega
        obtain ⟨q,hq⟩:∃q,q=pd (gM (sm 256 (fun i=> gy (fun i=> f i+dg 256 b i) (dg 256 R) i 17) 17)):=⟨_,rfl⟩
        have HQC:Hid (∀w:World,Calls Tryz.prog 235 #[.agg (arr .u32 17 (fun i=> f i+dg 256 b i)),.agg (arr .u32 17 (dg 256 R))] w fun e w'=> e=.returned (.agg (arr .u32 17 q))/\Below w.heap.size w w'):=by
         intro w;rw [hq];exact Gw _ _ w bf (fun i _=> IL R i)
        have HQS:Hid (∀i,i<17->0<=q i/\q i<=300):=by rw [hq];exact Kw bf (fun i _=> IL R i)
        have HQA:Hid (sm 256 q 17 % PP=wF R F N (j+1)):=by rw [hq];exact VQ adF.out HBE.out HB2.out HRB.out
        have sw:=hbel.size;clear bf hq
        go_wp2_with (first
         | (refine aQ rfl 271 _ rfl .u32 A 17 _ 117 Au Tryz.size271 rfl hX2 ?_)
         | (refine aQ rfl 271 _ rfl .u32 (A+1) 17 _ 117 Au Tryz.size271 rfl HY.out ?_))
        refine (HQC.out _).mono ?_;rintro e w8 ⟨rfl,Nl⟩;have hX8:=hX2.kept Nl;have hY8:=HY.out.kept Nl;have hP8:=HPP.out.kept Nl;have oC:=hbel.trans (Nl.mono sw);clear hX2 HY HM HPP hbel Nl;go_wp2_with (refine aG rfl 271 _ _ rfl .u32 A 17 _ _ Tryz.size271 rfl rfl hX8 ?_);go_roundw
        case rel=>
         (repeat apply Exists.intro)
         refine ⟨?_,rfl⟩;exact ⟨j+1,q,by omega,by rw [<-HLL.out];exact NK.out.congr (fun i hi=> by have:=YV.out (by omega);rw [show 16 * (j+1)+i=16 * j+(n0+i) by omega]),HQS.out,HQA.out,hX8.setRow _ _,hY8.aA _ (by omega) _,hP8.aA _ (by omega) _,ay oC (by omega) _⟩
        case measure=> show L - n0<L;omega
    ·obtain ⟨L,hL⟩:∃L,L=N - 16 * j:=⟨_,rfl⟩
     rw [<-hL] at hrd;obtain rfl:L=0:=by omega
     obtain rfl:j=(N+15) / 16:=by omega
     obtain ⟨la,lc,rfl,d1,d2,d3,d4⟩:=id hrd;clear hrd d3 d4 hL;obtain ⟨AC,hAC⟩:∃AC,AC=wF R F N ((N+15) / 16):=⟨_,rfl⟩
     rw [<-hAC] at HTN adF;have NK:Hid (∀w,Calls Tryz.prog 236 #[.agg (arr .u32 17 f)] w fun e w'=> e=.returned (.agg (arr .u32 17 (dg 256 AC)))/\Below w.heap.size w w'):=by
      intro w;have h:=wT f w (fun i hi=> by have:=Za.out i hi;omega)
      rwa [adF.out] at h
     have s0:=hbel.size;clear hAC hY;go_upto_region 23 with (fail)
     refine bB (n:=87) (by kernel_rfl) (by kernel_rfl) (by kernel_rfl) rfl
      (jh [(6,5)]) (fJ [(6,5)]) (fun _=> arr .u32 17 (fun _=> 0)) (fun _=> (arr .u32 17 (dg 256 (AC+S)))) (fun _=> 271) (fun _=> 18)
      (fun ii vv _=> (match ii with | 0=> vv=.agg (arr .u32 17 (f)) | 1=> vv=.agg (arr .u32 17 (dg 256 AC)) | 2=> vv=.agg (arr .u8 17 (dg 256 S)) | 3=> vv=.agg (arr .u32 17 (dg 256 S)) | 4=> vv=.agg (arr .u32 17 (dg 256 (AC+S))) | _=> True)) (fun _ _=> True) (fun _ _ _=> trivial) (fun _ _ _ _ _ _ _=> trivial) (fun _ _ _ _ h _=> h)
      (gF rfl) (eG rfl) ?_ ?_ ?_ ?_
     ·refine cO ?_;refine ⟨?_,?_,?_,?_,?_,(fun h=> by cases h),(fun _ h=> by cases h),trivial⟩
      ·intro _ _ a w2 hB hF hd;exact aH <| aP (aB rfl Au rfl Tryz.size271 (hF.same 12 rfl) (hX.below hB hX.lt)) rfl
      ·intro _ _ a w2 hB hF hd;refine aH <| aC _ _ _ rfl Tryz.call236 _ (args1 (hd 0 _ rfl rfl rfl (aj rfl))) (by simp) ((NK.out w2).mono ?_);rintro e w3 ⟨rfl,hb⟩;exact ⟨_,rfl,rfl,hb⟩
      ·intro _ _ a w2 hB hF hd;exact aH <| aP (aB rfl Tryz.underlying268 rfl Tryz.size268 (hF.same 10 rfl) (HP.out.below hB HP.out.lt)) rfl
      ·intro _ _ a w2 hB hF hd;refine aH <| aC _ _ _ rfl Tryz.call234 _ (args1 (hd 2 _ rfl rfl rfl (aj rfl))) (by simp) ((tN S w2).mono ?_);rintro e w3 ⟨rfl,hb⟩;exact ⟨_,rfl,rfl,hb⟩
      ·intro _ _ a w2 hB hF hd;refine aH <| aC _ _ _ rfl Tryz.call237 _ (args2 (hd 1 _ rfl rfl rfl (aj rfl)) (hd 3 _ rfl rfl rfl (aj rfl))) (by simp) ((FV AC S w2).mono ?_);rintro e w3 ⟨rfl,hb⟩;exact ⟨_,rfl,rfl,hb⟩
     ·refine cO ?_;refine ⟨(fun h=> by cases h),(fun h=> by cases h),(fun h=> by cases h),(fun h=> by cases h),(fun h=> by cases h),?_,(fun h=> by cases h),trivial⟩
      ·exact fun _=> ⟨rfl,rfl,fun a w2 K h=> aU rfl rfl Tryz.zeroValue271 (by simp) h⟩
     ·refine cO ?_;refine ⟨(fun _ h=> by cases h),(fun _ h=> by cases h),(fun _ h=> by cases h),(fun _ h=> by cases h),(fun _ h=> by cases h),(fun _ h=> by cases h),?_,trivial⟩
      ·intro p hp;obtain rfl:5=p:=fO hp;exact ⟨rfl,rfl,⟨_,rfl⟩,aj rfl,fun a w2 b K hB hF hd hx hb h=> bD rfl rfl Tryz.size271 hx (hd 4 _ rfl rfl rfl (aj rfl)) hb h⟩
     ·intro a w9 blk hB hF hS hv hfin dD;obtain ⟨v5,Fu,Wq⟩:=hv 5 _ rfl rfl;have ha:=aI rfl rfl hF [_,_,_,_,_,_,undef] rfl ⟨hS 0 _ rfl rfl rfl,hS 1 _ rfl rfl rfl,hS 2 _ rfl rfl rfl,hS 3 _ rfl rfl rfl,hS 4 _ rfl rfl rfl,v5,trivial,trivial⟩;have f5:=hfin 6 _ 5 rfl rfl;simp only [puts,Act.put,dQ,dR,dS] at ha;subst ha;have V5:aF .u32 w9 (blk 5) 17 (dg 256 (AC+S)):=⟨_,f5⟩
      clear hS hv hfin dD hF v5 f5;have Nk:=hbel.trans (hB.mono hbel.size);have s9:=Nk.size;have hZ9:=(HZW.out.kept Nk)
      have hW9:=HBW.out.trans (Nk.mono HBW.out.size);clear hX HP hbel hB;obtain ⟨q,hq⟩:∃q,q=blk 5:=⟨_,rfl⟩
      rw [<-hq] at V5 ⊢;clear hq;go_wp2_with (refine aQ rfl 271 _ rfl .u32 q 17 _ 117 Au Tryz.size271 rfl V5 ?_);refine (Ji (AC+S) _).mono ?_;rintro e wa ⟨v,rfl,hv,hba⟩;have hZa:=hZ9.kept hba;have afI:=hW9.trans (hba.mono hW9.size);obtain ⟨g,c,rfl,q1,q2,q3,q4,hcells,q5⟩:=hv.form (by decide);have AJ:=ak hcells;have hat:=jU (a:=some ⟨g,0,none⟩) (len:=16) (cap:=c) Tryz.underlying118 (by decide);clear hv hcells q5 hZ9 Nk V5 hba hW9
      go_wp2_with (first
       | (refine lZ rfl 118 _ rfl .u8 g 0 16 (dg 256 (AC+S)) 5 Tryz.underlying118 Tryz.size118 rfl (fun i hi=> by rw [pz];exact AJ.out i hi) ?_)
       | (refine aG rfl 118 _ _ rfl .u8 (w.heap.size+1) 16 (fun _=> 0) _ Tryz.size118 rfl rfl hZa ?_))
      exact bodyPost_ret (bG rfl _ _ .u8 (w.heap.size+1) 16 _ 5 rfl (hZa.setRow _ _) Tryz.underlying118 Tryz.size118) rfl ⟨by rw [HTN.out],ay afI (by omega) _⟩
end Go.Proofs.YtpcjekgfnfjbpaaGreat
