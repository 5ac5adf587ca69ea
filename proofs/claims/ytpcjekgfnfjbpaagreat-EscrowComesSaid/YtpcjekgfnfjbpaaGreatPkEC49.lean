/- Part 49 of EscrowComes; conditions: in each theorem. -/
import Derived.Test.YtpcjekgfnfjbpaaGreatPkEC43
import Derived.Test.YtpcjekgfnfjbpaaGreatPkEC48
set_option linter.unusedVariables false
set_option linter.unusedSimpArgs false
set_option maxRecDepth 100000
set_option maxHeartbeats 3200000
namespace Go.bI
open Go.RowKit
theorem Rd.ahp {k:IntKind} {w:World} {a:Option Addr} {n c:Nat} {f:Nat->Int} (h:Rd k w (.slice a n c) n f) (hn:0<n):∃b o,a=some ⟨b,o,none⟩/\b<w.heap.size/\∀i,i<n->w.cell? ⟨b,o+i,none⟩=some (.int k (f i)):=by
 obtain⟨a',c',he,_,_,_,h4⟩:=h;obtain⟨b,o,rfl,hb,hc⟩:=h4 hn;simp only[VQ,true_and] at he;exact⟨b,o,he.1,hb,hc⟩
section
variable {P : Program} {o : Oper} {a : Act} {w : World} {Q : Exit -> Act -> World -> Prop}
theorem xw {T e:TypeId} {b n m:Nat} (hu:P.underlying T=some (.array n e)) (hi:(P.info? e).map (·.size)=some 1) (hm:m<n):
  (Instr.sliceAt T (.pointer (some ⟨b,0,none⟩)) (some (.int .i64 (m:Int))) none none).run P w=.ok (.slice (some ⟨b,m,none⟩) (n - m) (n - m)) w:=by
 obtain⟨i,h1,h2⟩:=Option.map_eq_some_iff.1 hi;have hm':m<=n:=by omega
 simp[Instr.sliceAt,Instr.sureAddr,run_underlying hu,Instr.sliceBounds,run_sliceBound,sizeOf,typeInfo,h1,h2,hm',Addr.add];rw[if_neg aH];by_cases h0:m=0
 ·rw[if_pos h0,h0]
 ·rw[if_neg h0]
theorem Zc {T:TypeId} {x:Operand} {cs:Array Value} {S:Value->World->Prop} (ho:o.op=.box T x) (hx:a.eval x=.agg cs) (gW:cs≠ #[]) (hd:o.dst≠none)
  (hs:S (.pointer (some ⟨w.heap.size,0,none⟩)) (w.alloc (.cells cs T))):
  o.wp P a w (fun a' w'=> ∃v,a'=a.put o.dst v/\(o.dst=none->v=undef)/\S v w'/\Below w.heap.size w w') Q:=by
 have hr:(execOp a.eval o).run P w=.ok (.value (.pointer (some ⟨w.heap.size,0,none⟩))) (w.alloc (.cells cs T)):=by
  unfold execOp;simp only[ho,hx];simp[newVar,newRow,gW,Value.cells,go_sem]
 unfold Oper.wp;rw[hr];exact⟨_,rfl,fun h=>absurd h hd,hs,(bT _ _).alloc (bH _) _⟩
end
def sgV (A P U:Nat->Int):Array Value:=(vals .u8 32 A++(vals .u8 32 P++(vals .u8 32 U++ [Value.bool true]))).toArray
theorem ajF (A P U:Nat->Int) {i:Nat} (h:i<32):(sgV A P U)[64+i]? =some (.int .u8 (U i)):=by
 unfold sgV;rw[List.getElem?_toArray,Ji iU,dH,Ji iU,dH,Jh iU,show 64+i - 32 - 32=i by omega,dF h]
theorem afA (A P U:Nat->Int):(sgV A P U)[96]? =some (.bool true):=by
 unfold sgV;rw[List.getElem?_toArray,Ji aR,dH,Ji aR,dH,Ji aR,dH]
 rfl
def AV (w:World) (v:Value) (A P U:Nat->Int):Prop:=∃b,v=.pointer (some ⟨b,0,none⟩)/\DT w b (sgV A P U)
theorem AV.below {w w':World} {v:Value} {A P U:Nat->Int} (h:AV w v A P U) (hb:Below w.heap.size w w'):AV w' v A P U:=by
 obtain⟨b,e,h⟩:=h;exact⟨b,e,h.kept hb⟩
end Go.bI
namespace Go.Proofs.YtpcjekgfnfjbpaaGreat
open Go.RowKit Go.bI
attribute [local go_sem ↓] Go.wp_at_zero Go.wp_at_succ
theorem WR (v:Value) (n:Nat) (f:Nat->Int) (w:World) (hv:uq w v 1 (fun _=>n) (fun _=>f)) (hn:n<=1000000) (hf:∀i,i<n->0<=f i/\f i<256):
  Calls Tryz.prog 139 #[v] w fun e w'=>e=.returned (.agg (arr .u8 64 (rC n f)))/\Below w.heap.size w w':=
 GA v 1 _ _ n f w hv (Dj (f:=f) (n:=n)).1 (Dj (f:=f) (n:=n)).2 hn hf
end Go.Proofs.YtpcjekgfnfjbpaaGreat
namespace Go.Proofs.YtpcjekgfnfjbpaaGreat
open Go.RowKit Go.bI Go.ChangeShapes
attribute [local go_sem ↓] Go.wp_at_zero Go.wp_at_succ
def WY (S:Int):Nat->Int:=rC 32 (dg 256 S)
def sdA (S:Int):Nat:=(fq (sm 256 (WY S) 32)).toNat
def sdP (S:Int) (i:Nat):Int:=WY S (32+i)
noncomputable def sdU (S:Int):Int:=oP (Bp.mul (sdA S))
theorem ME (X:Int):0<=fq X/\fq X<2 ^ 256:=by unfold fq;omega
theorem Kn (S:Int):((sdA S:Nat):Int)=fq (sm 256 (WY S) 32):=Int.toNat_of_nonneg (ME _).1
theorem afC (S:Int):sdA S<2 ^ 256:=by have:=Kn S;have:=ME (sm 256 (WY S) 32);omega
theorem ZY (A P U:Nat->Int) (w:World):(Instr.build 244 #[(0,.agg (arr .u8 32 A)),(1,.agg (arr .u8 32 P)),(2,.agg (arr .u8 32 U)),(3,.bool true)]).run Tryz.prog w=.ok (.agg (sgV A P U)) w:=
 Go.run_build w _ _ (sgV A P U) aQ
theorem SL (S:Int) (w:World):Calls Tryz.prog 143 #[.agg (arr .u8 32 (dg 256 S))] w fun e w'=> ∃r,e=.returned r/\AV w' r (dg 256 ((sdA S:Nat):Int)) (sdP S) (dg 256 (sdU S))/\Below w.heap.size w w':=by
 have HSD:Hid (∀i,sdP S i=WY S (32+i)):=fun _=>rfl;have HSU:Hid (sdU S=oP (Bp.mul (sdA S))):=rfl
 have HS:Hid (∀w v,uq w v 1 (fun _=>32) (fun _=>dg 256 S)->Calls Tryz.prog 139 #[v] w fun e w'=>e=.returned (.agg (arr .u8 64 (WY S)))/\Below w.heap.size w w'):=fun w v h=>
  GA v 1 _ _ 32 (dg 256 S) w h (Dj (f:=dg 256 S) (n:=32)).1 (Dj (f:=dg 256 S) (n:=32)).2 aM (fun i _=>bR aM _ _)
 have uY:Hid (∀w,Calls Tryz.prog 198 #[.agg (arr .u8 32 (WY S))] w fun e w'=>e=.returned (.agg (arr .u8 32 (dg 256 ((sdA S:Nat):Int))))/\Below w.heap.size w w'):=fun w=>by
  rw[Kn,show arr .u8 32 (WY S)=arr .u8 32 (dg 256 (sm 256 (WY S) 32)) from iQ fun i hi=>(Af (f:=WY S) aM (fun i _=>rA 32 (dg 256 S) i) i hi).symm];exact zZ _ w
 have Vy:=ay (afC S);have HBF:=ay abS;have HPB:=ay (fun w=>XF w);obtain⟨F,hF⟩:∃F,F=MR:=⟨_,rfl⟩
 rw[<-hF] at HBF HPB;obtain⟨SB,hSB⟩:∃SB,SB=WY S:=⟨_,rfl⟩
 rw[<-hSB] at HS uY HSD;obtain⟨A,hA⟩:∃A,A=sdA S:=⟨_,rfl⟩
 rw[<-hA] at uY HSU Vy ⊢;obtain⟨U,hU⟩:∃U,U=sdU S:=⟨_,rfl⟩
 rw[<-hU] at HSU ⊢;obtain⟨PF,hPF⟩:∃PF,PF=sdP S:=⟨_,rfl⟩
 rw[<-hPF] at HSD ⊢;clear hSB hA hF hU hPF
 go_enter Tryz.func143,Tryz.ntmps143
 go_upto_region 1 with(fail);refine aJ (fun w1=>aK .u8 w1 w.heap.size 32 (dg 256 S)/\Below w.heap.size w w1) ⟨cB rfl rfl,(bT _ _).alloc (bH _) _⟩ ?_;rintro w1 ⟨h1,aD⟩;have hl1:=h1.lt;go_wp2_with fail;refine(HS.out _ _ (by simpa using new1 (T:=23) (h1.rd aM) (bT _ _))).mono ?_;rintro e w2 ⟨rfl,fO⟩;replace aD:=(aD.alloc aD.size _).trans (fO.mono iU);clear fO h1;have gP:=aD.size;go_upto_region 2 with(refine aL rfl 47 _ _ rfl .u8 w2.heap.size 64 (fun _=>0) SB Tryz.size47 rfl rfl (cB rfl (by rfl)) ?_);refine aJ (fun w3=>aK .u8 w3 w2.heap.size 64 SB/\Below w.heap.size w w3) ⟨(cB rfl (by rfl):aK .u8 _ _ 64 (fun _=>0)).setRow _ _,aB (aD.alloc aD.size _) aD.size _⟩ ?_;rintro w3 ⟨h3,ji⟩;obtain⟨q,hq⟩:∃q,q=w2.heap.size:=⟨_,rfl⟩
 rw[<-hq] at h3 gP ⊢;have VL:=h3.lt;replace aD:=ji;have HC3:Hid (∀i,i<32->w3.cell? ⟨q,0+i,none⟩=some (.int .u8 (SB i))):=fun i hi=>by rw[qY,h3.cell i aH]
 clear hq ji
 try simp only[Act.put,fB,fD,fF]
 refine bN (n:=22) aQ aQ aQ rfl
  (ku [(5,4)]) (gH [(5,4)]) (fun _=>arr .u8 32 (fun _=>0)) (fun _=>(arr .u8 32 (dg 256 (A:Int)))) (fun _=>22) (fun _=>4)
  (fun ii vv _=>(match ii with | 0=>vv=.slice (some ⟨q,0,none⟩) 32 64 | 1=>vv=.pointer (some ⟨q,0,none⟩) | 2=>vv=.agg (arr .u8 32 (SB)) | 3=>vv=.agg (arr .u8 32 (dg 256 (A:Int))) | _=>True)) (fun _ _=>True) (fun _ _ _=>trivial) (fun _ _ _ _ _ _ _=>trivial) (fun _ _ _ _ h _=>h)
  (iJ rfl) (fT rfl) ?_ ?_ ?_ ?_
 ·refine dG ?_;refine⟨?_,?_,?_,?_,(fun h=>by cases h),(fun _ h=>by cases h),trivial⟩
  ·intro _ _ a w2 hB hF hd;exact aN <| aW (dY rfl (hF.same 3 rfl) (by simp only[Option.map_some,Option.map_none];exact lF (m:=32) Tryz.underlying47 Tryz.size5 aM)) rfl
  ·intro _ _ a w2 hB hF hd;exact aN <| aW (lD rfl (hd 0 _ rfl rfl rfl (aj rfl)) iL aM) rfl
  ·intro _ _ a w2 hB hF hd;exact aN <| aW (kJ rfl (hd 1 _ rfl rfl rfl (aj rfl)) iL fZ (fun i hi=>(hB.cell (p:=⟨q,0+i,none⟩) VL).trans (HC3.out i hi))) rfl
  ·intro _ _ a w2 hB hF hd;refine aN <| aI _ _ _ rfl Tryz.call198 _ (args1 (hd 2 _ rfl rfl rfl (aj rfl))) aR ((uY.out w2).mono ?_);rintro e w3 ⟨rfl,hb⟩;exact⟨_,rfl,rfl,hb⟩
 ·refine dG ?_;refine⟨(fun h=>by cases h),(fun h=>by cases h),(fun h=>by cases h),(fun h=>by cases h),?_,(fun h=>by cases h),trivial⟩
  ·exact fun _=>⟨rfl,rfl,fun a w2 K h=>bD rfl rfl Tryz.zeroValue22 aR h⟩
 ·refine dG ?_;refine⟨(fun _ h=>by cases h),(fun _ h=>by cases h),(fun _ h=>by cases h),(fun _ h=>by cases h),(fun _ h=>by cases h),?_,trivial⟩
  ·intro p hp;obtain rfl:4=p:=gJ hp;exact⟨rfl,rfl,⟨_,rfl⟩,aj rfl,fun a w2 b K hB hF hd hx hb h=>bQ rfl rfl fZ hx (hd 3 _ rfl rfl rfl (aj rfl)) hb h⟩
 ·intro a w4 blk hB hF hS hv hfin dS;obtain⟨v4,Wt,v4u⟩:=hv 4 _ rfl rfl;have ha:=aO rfl rfl hF [_,_,_,_,_,undef] rfl ⟨hS 0 _ rfl rfl rfl,hS 1 _ rfl rfl rfl,hS 2 _ rfl rfl rfl,hS 3 _ rfl rfl rfl,v4,trivial,trivial⟩;have f4:=hfin 5 _ 4 rfl rfl;simp only[puts,Act.put,fB,fD,fF] at ha;subst ha;have V4:aK .u8 w4 (blk 4) 32 (dg 256 (A:Int)):=⟨_,f4⟩
  clear hS hv hfin dS hF v4 f4;replace h3:=h3.kept hB;replace aD:=aD.trans (hB.mono aD.size);obtain⟨x4,e4⟩:∃x,x=blk 4:=⟨_,rfl⟩
  rw[<-e4] at V4 ⊢;have h4:=V4;have hq4:=h3.lt;have HC4:Hid (∀i,i<32->w4.cell? ⟨q,32+i,none⟩=some (.int .u8 (PF i))):=fun i hi=>by rw[HSD.out];exact h3.cell (32+i) aH
  clear e4 hB V4 Wt v4u VL HC3;go_upto_region 3 with(fail)
  refine bC (n:=22) aQ aQ aQ rfl
   (fun ii vv ww=>(match ii with | 0 | 5=>vv=.agg (arr .u8 32 (dg 256 (A:Int))) | 1=>vv=.slice (some ⟨q,32,none⟩) (64 - 32) (64 - 32) | 2=>vv=.pointer (some ⟨q,32,none⟩) | 3=>vv=.agg (arr .u8 32 (PF)) | 4=>vv=.agg (arr .i64 64 (F)) | 7=>vv=.agg (arr .u8 32 (dg 256 (oP (Bp.mul A)))) | 8=>vv=.agg (sgV (dg 256 (A:Int)) (PF) (dg 256 (oP (Bp.mul A)))) | _=>True)/\(ii=6->NPt vv (Bp.mul A))/\(ii=9->AV ww vv (dg 256 (A:Int)) PF (dg 256 (oP (Bp.mul A))))/\(ii=10->AV ww vv (dg 256 (A:Int)) PF (dg 256 (oP (Bp.mul A)))))
   (fun w w'=>Below w.heap.size w w') (fun _ _ h=>h) (fun i v w w' h hE=>⟨h.1,fun e=>NPt.keep (h.2.1 e) hE,fun e=>AV.below (h.2.2.1 e) hE,fun e=>AV.below (h.2.2.2 e) hE⟩) ?_ ?_
  ·refine dG ?_;refine⟨?_,?_,?_,?_,?_,?_,?_,?_,?_,?_,?_,trivial⟩
   ·intro a w2 hB hF hd;exact aN <| aW (aF rfl iL rfl fZ (hF.same 4 rfl) (h4.below hB h4.lt)) ⟨rfl,aP,aP,aP⟩
   ·intro a w2 hB hF hd;exact aN <| aW (dY rfl (hF.same 3 rfl) (by simp only[Option.map_some,Option.map_none];exact xw (m:=32) Tryz.underlying47 Tryz.size5 aM)) ⟨rfl,aP,aP,aP⟩
   ·intro a w2 hB hF hd;exact aN <| aW (lD rfl ((hd 1 _ rfl (aj rfl)).1) iL aM) ⟨rfl,aP,aP,aP⟩
   ·intro a w2 hB hF hd;exact aN <| aW (kJ rfl ((hd 2 _ rfl (aj rfl)).1) iL fZ (fun i hi=>(hB.cell (p:=⟨q,32+i,none⟩) hq4).trans (HC4.out i hi))) ⟨rfl,aP,aP,aP⟩
   ·intro a w2 hB hF hd;refine aN <| aI _ _ _ rfl Tryz.call157 _ Ak aR ((HPB.out w2).mono ?_);rintro e w3 ⟨rfl,hb⟩;exact⟨_,rfl,⟨rfl,aP,aP,aP⟩,hb⟩
   ·intro a w2 hB hF hd;exact aN <| aW (aF rfl iL rfl fZ (hF.same 4 rfl) (h4.below hB h4.lt)) ⟨rfl,aP,aP,aP⟩
   ·intro a w2 hB hF hd;refine aN <| aI _ _ _ rfl Tryz.call158 _ (args2 ((hd 4 _ rfl (aj rfl)).1) ((hd 5 _ rfl (aj rfl)).1)) aR ((ajR A Vy.out w2 ⟨_,rfl,HBF.out⟩).mono ?_);rintro e w3 ⟨u,rfl,hr,hb⟩;exact⟨u,rfl,⟨trivial,fun _=>hr,aP,aP⟩,hb⟩
   ·intro a w2 hB hF hd;refine aN <| aI _ _ _ rfl Tryz.call161 _ (args1 rfl) aR ((abW w2 ((hd 6 _ rfl (aj rfl)).2.1 rfl)).mono ?_);rintro e w3 ⟨rfl,hb⟩;exact⟨_,rfl,⟨rfl,aP,aP,aP⟩,hb⟩
   ·intro a w2 hB hF hd;exact aN <| aW (fK rfl (by simp only[vT,List.map_cons,List.map_nil,show a.eval (Operand.tmp 12)=.agg (arr .u8 32 (dg 256 (A:Int))) from((hd 0 _ rfl (aj rfl)).1),show a.eval (Operand.tmp 15)=.agg (arr .u8 32 (PF)) from((hd 3 _ rfl (aj rfl)).1),show a.eval (Operand.tmp 19)=.agg (arr .u8 32 (dg 256 (oP (Bp.mul A)))) from((hd 7 _ rfl (aj rfl)).1)];exact ZY _ _ _ _)) ⟨rfl,aP,aP,aP⟩
   ·intro a w2 hB hF hd;refine aN <| Zc rfl ((hd 8 _ rfl (aj rfl)).1) (by unfold sgV;simp) aR ?_;exact⟨trivial,aP,fun _=>(⟨_,rfl,DT.newAt rfl⟩),aP⟩
   ·intro a w2 hB hF hd;exact aN <| aG _ (.inr rfl) aR ⟨trivial,aP,aP,fun _=>((hd 9 _ rfl (aj rfl)).2.2.1 rfl)⟩
  ·intro a w5 hB hF hS;obtain⟨x18,Pb⟩:∃x,x=a.tmps.getD 18 undef:=⟨_,rfl⟩
   have P18:NPt x18 (Bp.mul A):=by rw[Pb];exact(hS 6 _ rfl).2.1 rfl
   obtain⟨x21,OZ⟩:∃x,x=a.tmps.getD 21 undef:=⟨_,rfl⟩
   have P21:AV w5 x21 (dg 256 (A:Int)) PF (dg 256 (oP (Bp.mul A))):=by rw[OZ];exact(hS 9 _ rfl).2.2.1 rfl
   obtain⟨x2,hx2⟩:∃x,x=a.tmps.getD 2 undef:=⟨_,rfl⟩
   have P2:AV w5 x2 (dg 256 (A:Int)) PF (dg 256 (oP (Bp.mul A))):=by rw[hx2];exact(hS 10 _ rfl).2.2.2 rfl
   have ha:=aO rfl rfl hF [_,_,_,_,_,_,x18,_,_,x21,x2] rfl ⟨(hS 0 _ rfl).1,(hS 1 _ rfl).1,(hS 2 _ rfl).1,(hS 3 _ rfl).1,(hS 4 _ rfl).1,(hS 5 _ rfl).1,Pb.symm,(hS 7 _ rfl).1,(hS 8 _ rfl).1,OZ.symm,hx2.symm,trivial⟩;simp only[puts,Act.put,fB,fD,fF] at ha;subst ha;clear Pb OZ hx2;clear hS hF;have lW:=aD.trans (hB.mono aD.size);rw[<-HSU.out] at P2;go_wp2;go_ret;exact⟨_,rfl,P2,lW⟩
theorem NY {v:Value} {A P U:Nat->Int} (w:World) (h:AV w v A P U):Calls Tryz.prog 206 #[v] w fun e w'=>e=.returned (.bool true)/\Below w.heap.size w w':=by
 obtain⟨b,rfl,h⟩:=h;have e96:=h.cell 96 (afA A P U);clear h
 go_enter Tryz.func206,Tryz.ntmps206
 go_wp2;go_ret;exact⟨rfl,bT _ _⟩
theorem Er {v:Value} {A P U:Nat->Int} (w:World) (h:AV w v A P U):Calls Tryz.prog 144 #[v] w fun e w'=>e=.returned (.tuple #[.agg (arr .u8 32 U),.int .i64 0])/\Below w.heap.size w w':=by
 have HM:=ay (fun w h=>NY (v:=v) (A:=A) (P:=P) (U:=U) w h);obtain⟨b,rfl,h⟩:=h
 go_enter Tryz.func144,Tryz.ntmps144
 go_upto_region 1 with(fail);refine aJ (fun w1=>aK .u8 w1 w.heap.size 32 (fun _=>0)/\Below w.heap.size w w1) ⟨cB rfl (by rfl),(bT _ _).alloc (bH _) _⟩ ?_;rintro w1 ⟨hZ,aD⟩;replace h:=h.kept aD;go_wp2_with fail;refine(HM.out _ ⟨b,rfl,h⟩).mono ?_;rintro e w2 ⟨rfl,hb⟩;replace h:=h.kept hb;replace hZ:=hZ.kept hb;replace aD:=aD.trans (hb.mono aD.size);clear hb
 go_wp2_with (first
  | (refine oz rfl 22 _ rfl .u8 b 64 32 U 5 iL fZ rfl (fun i hi=>h.cell (64+i) (ajF A P U hi)) ?_)
  | (refine aL rfl 22 _ _ rfl .u8 w.heap.size 32 (fun _=>0) U fZ rfl rfl hZ ?_))
 exact bodyPost_ret (gZ rfl _ _ .u8 w.heap.size 32 _ 5 rfl (hZ.setRow _ _) iL fZ) rfl ⟨rfl,aB aD (bH _) _⟩
theorem GN (S:Int) (w:World):Calls Tryz.prog 92 #[.agg (arr .u8 32 (dg 256 S))] w fun e w'=>e=.returned (.agg (arr .u8 32 (dg 256 (sdU S))))/\Below w.heap.size w w':=by
 have HK:=ay (fun w=>SL S w);have HP:=ay (fun w v h=>Er (v:=v) (A:=dg 256 ((sdA S:Nat):Int)) (P:=sdP S) (U:=dg 256 (sdU S)) w h);obtain⟨U,hU⟩:∃U,U=sdU S:=⟨_,rfl⟩
 rw[<-hU] at HK HP ⊢;clear hU
 go_enter Tryz.func92,Tryz.ntmps92
 go_upto_region 1 with(fail);refine aJ (fun w1=>aK .u8 w1 w.heap.size 32 (dg 256 S)/\aK .u8 w1 (w.heap.size+1) 32 (fun _=>0)/\Below w.heap.size w w1) ⟨.alloc (cB rfl rfl) _,cB dO (by rfl),((bT _ _).alloc (bH _) _).alloc dO _⟩ ?_;rintro w1 ⟨h1,h2,aD⟩;go_wp2_with (refine aZ rfl 22 _ rfl .u8 w.heap.size 32 (dg 256 S) 5 iL fZ rfl h1 ?_);refine(HK.out _).mono ?_;rintro e w2 ⟨r,rfl,hr,hb⟩;replace h2:=h2.kept hb;replace aD:=aD.trans (hb.mono aD.size);clear hb;go_wp2_with fail;refine(HP.out _ _ hr).mono ?_;rintro e w3 ⟨rfl,hb⟩;replace h2:=h2.kept hb;replace aD:=aD.trans (hb.mono aD.size);have hl2:=h2.lt;clear hb hr;go_upto_region 2 with(refine aL rfl 22 _ _ rfl .u8 w3.heap.size 32 (fun _=>0) (dg 256 U) fZ rfl rfl (cB rfl (by rfl)) ?_);refine aJ (fun w4=>aK .u8 w4 w3.heap.size 32 (dg 256 U)/\Below w3.heap.size w3 w4) ⟨(cB rfl (by rfl):aK .u8 _ _ 32 (fun _=>0)).setRow _ _,aB ((bT _ _).alloc (bH _) _) (bH _) _⟩ ?_;rintro w4 ⟨h3,hb⟩;replace h2:=h2.kept hb;replace aD:=aD.trans (hb.mono aD.size);obtain⟨x3,e3⟩:∃x,x=w3.heap.size:=⟨_,rfl⟩
 rw[<-e3] at h3 hl2 ⊢;clear e3 hb
 try simp only[Act.put,fB,fD,fF]
 go_wp2_with (first
  | (refine aZ rfl 22 _ rfl .u8 x3 32 (dg 256 U) 5 iL fZ rfl h3 ?_)
  | (refine aL rfl 22 _ _ rfl .u8 (w.heap.size+1) 32 (fun _=>0) (dg 256 U) fZ rfl rfl h2 ?_))
 exact bodyPost_ret (bV rfl _ _ .u8 (w.heap.size+1) 32 _ 5 rfl (h2.setRow _ _) iL fZ) rfl ⟨rfl,aB aD aH _⟩
end Go.Proofs.YtpcjekgfnfjbpaaGreat
