/-
  Part 50 of EscrowTake. Conditions: named in each theorem.
-/
import Derived.Test.YtpcjekgfnfjbpaaGreatPkEscrowTake44
import Derived.Test.YtpcjekgfnfjbpaaGreatPkEscrowTake49
set_option linter.unusedVariables false
set_option linter.unusedSimpArgs false
set_option maxRecDepth 100000
set_option maxHeartbeats 3200000
namespace Go.aZ
open Go.RowKit
theorem Rd.acC {k:IntKind} {w:World} {a:Option Addr} {n c:Nat} {f:Nat->Int} (h:Rd k w (.slice a n c) n f) (hn:0<n):∃b o,a=some ⟨b,o,none⟩/\b<w.heap.size/\∀i,i<n->w.cell? ⟨b,o+i,none⟩=some (.int k (f i)):=by
 obtain ⟨a',c',he,_,_,_,h4⟩:=h;obtain ⟨b,o,rfl,hb,hc⟩:=h4 hn;simp only [Value.slice.injEq,true_and] at he;exact ⟨b,o,he.1,hb,hc⟩
section
variable {P : Program} {o : Oper} {a : Act} {w : World} {Q : Exit -> Act -> World -> Prop}
theorem um {T e:TypeId} {b n m:Nat} (hu:P.underlying T=some (.array n e)) (hi:(P.info? e).map (·.size)=some 1) (hm:m<n):
  (Instr.sliceAt T (.pointer (some ⟨b,0,none⟩)) (some (.int .i64 (m:Int))) none none).run P w=.ok (.slice (some ⟨b,m,none⟩) (n - m) (n - m)) w:=by
 obtain ⟨i,h1,h2⟩:=Option.map_eq_some_iff.1 hi;have hm':m<=n:=by omega
 simp [Instr.sliceAt,Instr.sureAddr,run_underlying hu,Instr.sliceBounds,run_sliceBound,sizeOf,typeInfo,h1,h2,hm',Addr.add];rw [if_neg (by omega)];by_cases h0:m=0
 ·rw [if_pos h0,h0]
 ·rw [if_neg h0]
theorem Uq {T:TypeId} {x:Operand} {cs:Array Value} {S:Value->World->Prop} (ho:o.op=.box T x) (hx:a.eval x=.agg cs) (hne:cs≠ #[]) (hd:o.dst≠none)
  (hs:S (.pointer (some ⟨w.heap.size,0,none⟩)) (w.alloc (.cells cs T))):
  o.wp P a w (fun a' w'=> ∃v,a'=a.put o.dst v/\(o.dst=none->v=undef)/\S v w'/\Below w.heap.size w w') Q:=by
 have hr:(execOp a.eval o).run P w=.ok (.value (.pointer (some ⟨w.heap.size,0,none⟩))) (w.alloc (.cells cs T)):=by
  unfold execOp;simp only [ho,hx];simp [newVar,newRow,hne,Value.cells,go_sem]
 unfold Oper.wp;rw [hr];exact ⟨_,rfl,fun h=> absurd h hd,hs,(bN _ _).alloc (bA _) _⟩
end
def WZ (A P U:Nat->Int):Array Value:=(vals .u8 32 A++(vals .u8 32 P++(vals .u8 32 U++ [Value.bool true]))).toArray
theorem aeE (A P U:Nat->Int) {i:Nat} (h:i<32):(WZ A P U)[64+i]? =some (.int .u8 (U i)):=by
 unfold WZ;rw [List.getElem?_toArray,Fx (by simp;omega),dh,Fx (by simp;omega),dh,JI (by simp;omega),show 64+i - 32 - 32=i by omega,cK h]
theorem aaK (A P U:Nat->Int):(WZ A P U)[96]? =some (.bool true):=by
 unfold WZ;rw [List.getElem?_toArray,Fx (by simp),dh,Fx (by simp),dh,Fx (by simp),dh]
 rfl
def yh (w:World) (v:Value) (A P U:Nat->Int):Prop:=∃b,v=.pointer (some ⟨b,0,none⟩)/\Aw w b (WZ A P U)
theorem yh.below {w w':World} {v:Value} {A P U:Nat->Int} (h:yh w v A P U) (hb:Below w.heap.size w w'):yh w' v A P U:=by
 obtain ⟨b,e,h⟩:=h;exact ⟨b,e,h.kept hb⟩
end Go.aZ
namespace Go.Proofs.YtpcjekgfnfjbpaaGreat
open Go.RowKit Go.aZ Go.ChangeShapes
attribute [local go_sem ↓] Go.wp_at_zero Go.wp_at_succ
def Rz (S:Int):Nat->Int:=oK 32 (dg 256 S)
def Zh (S:Int):Nat:=(dP (sm 256 (Rz S) 32)).toNat
def sdP (S:Int) (i:Nat):Int:=Rz S (32+i)
noncomputable def sdU (S:Int):Int:=mK (Bp.mul (Zh S))
theorem Jd (X:Int):0<=dP X/\dP X<2 ^ 256:=by unfold dP;omega
theorem Gg (S:Int):((Zh S:Nat):Int)=dP (sm 256 (Rz S) 32):=Int.toNat_of_nonneg (Jd _).1
theorem aaM (S:Int):Zh S<2 ^ 256:=by have:=Gg S;have:=Jd (sm 256 (Rz S) 32);omega
theorem Vv (A P U:Nat->Int) (w:World):(Instr.build 244 #[(0,.agg (arr .u8 32 A)),(1,.agg (arr .u8 32 P)),(2,.agg (arr .u8 32 U)),(3,.bool true)]).run Tryz.prog w=.ok (.agg (WZ A P U)) w:=
 Go.run_build w _ _ (WZ A P U) (by kernel_rfl)
theorem Oj (S:Int) (w:World):Calls Tryz.prog 143 #[.agg (arr .u8 32 (dg 256 S))] w fun e w'=> ∃r,e=.returned r/\yh w' r (dg 256 ((Zh S:Nat):Int)) (sdP S) (dg 256 (sdU S))/\Below w.heap.size w w':=by
 have HSD:Hid (∀i,sdP S i=Rz S (32+i)):=fun _=> rfl;have YR:Hid (sdU S=mK (Bp.mul (Zh S))):=rfl
 have HS:Hid (∀w v,qM w v 1 (fun _=> 32) (fun _=> dg 256 S)->Calls Tryz.prog 139 #[v] w fun e w'=> e=.returned (.agg (arr .u8 64 (Rz S)))/\Below w.heap.size w w'):=fun w v h=>
  Dt v 1 _ _ 32 (dg 256 S) w h (zY (f:=dg 256 S) (n:=32)).1 (zY (f:=dg 256 S) (n:=32)).2 (by decide) (fun i _=> bE (by decide) _ _)
 have AJ:Hid (∀w,Calls Tryz.prog 198 #[.agg (arr .u8 32 (Rz S))] w fun e w'=> e=.returned (.agg (arr .u8 32 (dg 256 ((Zh S:Nat):Int))))/\Below w.heap.size w w'):=fun w=> by
  rw [Gg,show arr .u8 32 (Rz S)=arr .u8 32 (dg 256 (sm 256 (Rz S) 32)) from gJ fun i hi=> (xB (f:=Rz S) (by decide) (fun i _=> oJ 32 (dg 256 S) i) i hi).symm];exact wZ _ w
 have HAL:=ak (aaM S);have HBF:=ak Xq;have HPB:=ak (fun w=> Sw w);obtain ⟨F,hF⟩:∃F,F=Jo:=⟨_,rfl⟩
 rw [<-hF] at HBF HPB;obtain ⟨SB,hSB⟩:∃SB,SB=Rz S:=⟨_,rfl⟩
 rw [<-hSB] at HS AJ HSD;obtain ⟨A,hA⟩:∃A,A=Zh S:=⟨_,rfl⟩
 rw [<-hA] at AJ YR HAL ⊢;obtain ⟨U,hU⟩:∃U,U=sdU S:=⟨_,rfl⟩
 rw [<-hU] at YR ⊢;obtain ⟨PF,hPF⟩:∃PF,PF=sdP S:=⟨_,rfl⟩
 rw [<-hPF] at HSD ⊢;clear hSB hA hF hU hPF
 go_enter Tryz.func143,Tryz.ntmps143
 go_upto_region 1 with (fail);refine aD (fun w1=> aF .u8 w1 w.heap.size 32 (dg 256 S)/\Below w.heap.size w w1) ⟨bM rfl rfl,(bN _ _).alloc (bA _) _⟩ ?_;rintro w1 ⟨h1,hbel⟩;have hl1:=h1.lt;go_wp2_with fail;refine (HS.out _ _ (by simpa using new1 (T:=23) (h1.rd (by decide)) (bN _ _))).mono ?_;rintro e w2 ⟨rfl,hb2⟩;replace hbel:=(hbel.alloc hbel.size _).trans (hb2.mono (by simp;omega));clear hb2 h1;have hsz:=hbel.size;go_upto_region 2 with (refine aG rfl 47 _ _ rfl .u8 w2.heap.size 64 (fun _=> 0) SB Tryz.size47 rfl rfl (bM rfl (by rfl)) ?_);refine aD (fun w3=> aF .u8 w3 w2.heap.size 64 SB/\Below w.heap.size w w3) ⟨(bM rfl (by rfl):aF .u8 _ _ 64 (fun _=> 0)).setRow _ _,ay (hbel.alloc hbel.size _) hbel.size _⟩ ?_;rintro w3 ⟨h3,hb3⟩;obtain ⟨q,hq⟩:∃q,q=w2.heap.size:=⟨_,rfl⟩
 rw [<-hq] at h3 hsz ⊢;have hql:=h3.lt;replace hbel:=hb3;have HC3:Hid (∀i,i<32->w3.cell? ⟨q,0+i,none⟩=some (.int .u8 (SB i))):=fun i hi=> by rw [pz,h3.cell i (by omega)]
 clear hq hb3
 try simp only [Act.put,dQ,dR,dS]
 refine bB (n:=22) (by kernel_rfl) (by kernel_rfl) (by kernel_rfl) rfl
  (jh [(5,4)]) (fJ [(5,4)]) (fun _=> arr .u8 32 (fun _=> 0)) (fun _=> (arr .u8 32 (dg 256 (A:Int)))) (fun _=> 22) (fun _=> 4)
  (fun ii vv _=> (match ii with | 0=> vv=.slice (some ⟨q,0,none⟩) 32 64 | 1=> vv=.pointer (some ⟨q,0,none⟩) | 2=> vv=.agg (arr .u8 32 (SB)) | 3=> vv=.agg (arr .u8 32 (dg 256 (A:Int))) | _=> True)) (fun _ _=> True) (fun _ _ _=> trivial) (fun _ _ _ _ _ _ _=> trivial) (fun _ _ _ _ h _=> h)
  (gF rfl) (eG rfl) ?_ ?_ ?_ ?_
 ·refine cO ?_;refine ⟨?_,?_,?_,?_,(fun h=> by cases h),(fun _ h=> by cases h),trivial⟩
  ·intro _ _ a w2 hB hF hd;exact aH <| aP (dH rfl (hF.same 3 rfl) (by simp only [Option.map_some,Option.map_none];exact jO (m:=32) Tryz.underlying47 Tryz.size5 (by decide))) rfl
  ·intro _ _ a w2 hB hF hd;exact aH <| aP (jN rfl (hd 0 _ rfl rfl rfl (aj rfl)) gH (by decide)) rfl
  ·intro _ _ a w2 hB hF hd;exact aH <| aP (jv rfl (hd 1 _ rfl rfl rfl (aj rfl)) gH eT (fun i hi=> (hB.cell (p:=⟨q,0+i,none⟩) hql).trans (HC3.out i hi))) rfl
  ·intro _ _ a w2 hB hF hd;refine aH <| aC _ _ _ rfl Tryz.call198 _ (args1 (hd 2 _ rfl rfl rfl (aj rfl))) (by simp) ((AJ.out w2).mono ?_);rintro e w3 ⟨rfl,hb⟩;exact ⟨_,rfl,rfl,hb⟩
 ·refine cO ?_;refine ⟨(fun h=> by cases h),(fun h=> by cases h),(fun h=> by cases h),(fun h=> by cases h),?_,(fun h=> by cases h),trivial⟩
  ·exact fun _=> ⟨rfl,rfl,fun a w2 K h=> aU rfl rfl Tryz.zeroValue22 (by simp) h⟩
 ·refine cO ?_;refine ⟨(fun _ h=> by cases h),(fun _ h=> by cases h),(fun _ h=> by cases h),(fun _ h=> by cases h),(fun _ h=> by cases h),?_,trivial⟩
  ·intro p hp;obtain rfl:4=p:=fO hp;exact ⟨rfl,rfl,⟨_,rfl⟩,aj rfl,fun a w2 b K hB hF hd hx hb h=> bD rfl rfl eT hx (hd 3 _ rfl rfl rfl (aj rfl)) hb h⟩
 ·intro a w4 blk hB hF hS hv hfin dD;obtain ⟨v4,QU,WG⟩:=hv 4 _ rfl rfl;have ha:=aI rfl rfl hF [_,_,_,_,_,undef] rfl ⟨hS 0 _ rfl rfl rfl,hS 1 _ rfl rfl rfl,hS 2 _ rfl rfl rfl,hS 3 _ rfl rfl rfl,v4,trivial,trivial⟩;have f4:=hfin 5 _ 4 rfl rfl;simp only [puts,Act.put,dQ,dR,dS] at ha;subst ha;have V4:aF .u8 w4 (blk 4) 32 (dg 256 (A:Int)):=⟨_,f4⟩
  clear hS hv hfin dD hF v4 f4;replace h3:=h3.kept hB;replace hbel:=hbel.trans (hB.mono hbel.size);obtain ⟨x4,e4⟩:∃x,x=blk 4:=⟨_,rfl⟩
  rw [<-e4] at V4 ⊢;have h4:=V4;have hq4:=h3.lt;have HC4:Hid (∀i,i<32->w4.cell? ⟨q,32+i,none⟩=some (.int .u8 (PF i))):=fun i hi=> by rw [HSD.out];exact h3.cell (32+i) (by omega)
  clear e4 hB V4 QU WG hql HC3;go_upto_region 3 with (fail)
  refine aT (n:=22) (by kernel_rfl) (by kernel_rfl) (by kernel_rfl) rfl
   (fun ii vv ww=> (match ii with | 0 | 5=> vv=.agg (arr .u8 32 (dg 256 (A:Int))) | 1=> vv=.slice (some ⟨q,32,none⟩) (64 - 32) (64 - 32) | 2=> vv=.pointer (some ⟨q,32,none⟩) | 3=> vv=.agg (arr .u8 32 (PF)) | 4=> vv=.agg (arr .i64 64 (F)) | 7=> vv=.agg (arr .u8 32 (dg 256 (mK (Bp.mul A)))) | 8=> vv=.agg (WZ (dg 256 (A:Int)) (PF) (dg 256 (mK (Bp.mul A)))) | _=> True)/\(ii=6->YL vv (Bp.mul A))/\(ii=9->yh ww vv (dg 256 (A:Int)) PF (dg 256 (mK (Bp.mul A))))/\(ii=10->yh ww vv (dg 256 (A:Int)) PF (dg 256 (mK (Bp.mul A)))))
   (fun w w'=> Below w.heap.size w w') (fun _ _ h=> h) (fun i v w w' h hE=> ⟨h.1,fun e=> YL.keep (h.2.1 e) hE,fun e=> yh.below (h.2.2.1 e) hE,fun e=> yh.below (h.2.2.2 e) hE⟩) ?_ ?_
  ·refine cO ?_;refine ⟨?_,?_,?_,?_,?_,?_,?_,?_,?_,?_,?_,trivial⟩
   ·intro a w2 hB hF hd;exact aH <| aP (aB rfl gH rfl eT (hF.same 4 rfl) (h4.below hB h4.lt)) ⟨rfl,aJ,aJ,aJ⟩
   ·intro a w2 hB hF hd;exact aH <| aP (dH rfl (hF.same 3 rfl) (by simp only [Option.map_some,Option.map_none];exact um (m:=32) Tryz.underlying47 Tryz.size5 (by decide))) ⟨rfl,aJ,aJ,aJ⟩
   ·intro a w2 hB hF hd;exact aH <| aP (jN rfl ((hd 1 _ rfl (aj rfl)).1) gH (by decide)) ⟨rfl,aJ,aJ,aJ⟩
   ·intro a w2 hB hF hd;exact aH <| aP (jv rfl ((hd 2 _ rfl (aj rfl)).1) gH eT (fun i hi=> (hB.cell (p:=⟨q,32+i,none⟩) hq4).trans (HC4.out i hi))) ⟨rfl,aJ,aJ,aJ⟩
   ·intro a w2 hB hF hd;refine aH <| aC _ _ _ rfl Tryz.call157 _ xH (by simp) ((HPB.out w2).mono ?_);rintro e w3 ⟨rfl,hb⟩;exact ⟨_,rfl,⟨rfl,aJ,aJ,aJ⟩,hb⟩
   ·intro a w2 hB hF hd;exact aH <| aP (aB rfl gH rfl eT (hF.same 4 rfl) (h4.below hB h4.lt)) ⟨rfl,aJ,aJ,aJ⟩
   ·intro a w2 hB hF hd;refine aH <| aC _ _ _ rfl Tryz.call158 _ (args2 ((hd 4 _ rfl (aj rfl)).1) ((hd 5 _ rfl (aj rfl)).1)) (by simp) ((aeP A HAL.out w2 ⟨_,rfl,HBF.out⟩).mono ?_);rintro e w3 ⟨u,rfl,hr,hb⟩;exact ⟨u,rfl,⟨trivial,fun _=> hr,aJ,aJ⟩,hb⟩
   ·intro a w2 hB hF hd;refine aH <| aC _ _ _ rfl Tryz.call161 _ (args1 rfl) (by simp) ((Xv w2 ((hd 6 _ rfl (aj rfl)).2.1 rfl)).mono ?_);rintro e w3 ⟨rfl,hb⟩;exact ⟨_,rfl,⟨rfl,aJ,aJ,aJ⟩,hb⟩
   ·intro a w2 hB hF hd;exact aH <| aP (eD rfl (by simp only [vg,List.map_cons,List.map_nil,show a.eval (Operand.tmp 12)=.agg (arr .u8 32 (dg 256 (A:Int))) from ((hd 0 _ rfl (aj rfl)).1),show a.eval (Operand.tmp 15)=.agg (arr .u8 32 (PF)) from ((hd 3 _ rfl (aj rfl)).1),show a.eval (Operand.tmp 19)=.agg (arr .u8 32 (dg 256 (mK (Bp.mul A)))) from ((hd 7 _ rfl (aj rfl)).1)];exact Vv _ _ _ _)) ⟨rfl,aJ,aJ,aJ⟩
   ·intro a w2 hB hF hd;refine aH <| Uq rfl ((hd 8 _ rfl (aj rfl)).1) (by unfold WZ;simp) (by simp) ?_;exact ⟨trivial,aJ,fun _=> (⟨_,rfl,Aw.newAt rfl⟩),aJ⟩
   ·intro a w2 hB hF hd;exact aH <| mH rfl ⟨trivial,aJ,aJ,fun _=> ((hd 9 _ rfl (aj rfl)).2.2.1 rfl)⟩
  ·intro a w5 hB hF hS;obtain ⟨x18,Ld⟩:∃x,x=a.tmps.getD 18 undef:=⟨_,rfl⟩
   have P18:YL x18 (Bp.mul A):=by rw [Ld];exact (hS 6 _ rfl).2.1 rfl
   obtain ⟨x21,abD⟩:∃x,x=a.tmps.getD 21 undef:=⟨_,rfl⟩
   have P21:yh w5 x21 (dg 256 (A:Int)) PF (dg 256 (mK (Bp.mul A))):=by rw [abD];exact (hS 9 _ rfl).2.2.1 rfl
   obtain ⟨x2,hx2⟩:∃x,x=a.tmps.getD 2 undef:=⟨_,rfl⟩
   have P2:yh w5 x2 (dg 256 (A:Int)) PF (dg 256 (mK (Bp.mul A))):=by rw [hx2];exact (hS 10 _ rfl).2.2.2 rfl
   have ha:=aI rfl rfl hF [_,_,_,_,_,_,x18,_,_,x21,x2] rfl ⟨(hS 0 _ rfl).1,(hS 1 _ rfl).1,(hS 2 _ rfl).1,(hS 3 _ rfl).1,(hS 4 _ rfl).1,(hS 5 _ rfl).1,Ld.symm,(hS 7 _ rfl).1,(hS 8 _ rfl).1,abD.symm,hx2.symm,trivial⟩;simp only [puts,Act.put,dQ,dR,dS] at ha;subst ha;clear Ld abD hx2;clear hS hF;have hb5:=hbel.trans (hB.mono hbel.size);rw [<-YR.out] at P2;go_wp2;go_ret;exact ⟨_,rfl,P2,hb5⟩
theorem Kk {v:Value} {A P U:Nat->Int} (w:World) (h:yh w v A P U):Calls Tryz.prog 206 #[v] w fun e w'=> e=.returned (.bool true)/\Below w.heap.size w w':=by
 obtain ⟨b,rfl,h⟩:=h;have e96:=h.cell 96 (aaK A P U);clear h
 go_enter Tryz.func206,Tryz.ntmps206
 go_wp2;go_ret;exact ⟨rfl,bN _ _⟩
theorem Bf {v:Value} {A P U:Nat->Int} (w:World) (h:yh w v A P U):Calls Tryz.prog 144 #[v] w fun e w'=> e=.returned (.tuple #[.agg (arr .u8 32 U),.int .i64 0])/\Below w.heap.size w w':=by
 have HM:=ak (fun w h=> Kk (v:=v) (A:=A) (P:=P) (U:=U) w h);obtain ⟨b,rfl,h⟩:=h
 go_enter Tryz.func144,Tryz.ntmps144
 go_upto_region 1 with (fail);refine aD (fun w1=> aF .u8 w1 w.heap.size 32 (fun _=> 0)/\Below w.heap.size w w1) ⟨bM rfl (by rfl),(bN _ _).alloc (bA _) _⟩ ?_;rintro w1 ⟨hZ,hbel⟩;replace h:=h.kept hbel;go_wp2_with fail;refine (HM.out _ ⟨b,rfl,h⟩).mono ?_;rintro e w2 ⟨rfl,hb⟩;replace h:=h.kept hb;replace hZ:=hZ.kept hb;replace hbel:=hbel.trans (hb.mono hbel.size);clear hb
 go_wp2_with (first
  | (refine lZ rfl 22 _ rfl .u8 b 64 32 U 5 gH eT rfl (fun i hi=> h.cell (64+i) (aeE A P U hi)) ?_)
  | (refine aG rfl 22 _ _ rfl .u8 w.heap.size 32 (fun _=> 0) U eT rfl rfl hZ ?_))
 exact bodyPost_ret (fT rfl _ _ .u8 w.heap.size 32 _ 5 rfl (hZ.setRow _ _) gH eT) rfl ⟨rfl,ay hbel (bA _) _⟩
theorem DC (S:Int) (w:World):Calls Tryz.prog 92 #[.agg (arr .u8 32 (dg 256 S))] w fun e w'=> e=.returned (.agg (arr .u8 32 (dg 256 (sdU S))))/\Below w.heap.size w w':=by
 have HK:=ak (fun w=> Oj S w);have HP:=ak (fun w v h=> Bf (v:=v) (A:=dg 256 ((Zh S:Nat):Int)) (P:=sdP S) (U:=dg 256 (sdU S)) w h);obtain ⟨U,hU⟩:∃U,U=sdU S:=⟨_,rfl⟩
 rw [<-hU] at HK HP ⊢;clear hU
 go_enter Tryz.func92,Tryz.ntmps92
 go_upto_region 1 with (fail);refine aD (fun w1=> aF .u8 w1 w.heap.size 32 (dg 256 S)/\aF .u8 w1 (w.heap.size+1) 32 (fun _=> 0)/\Below w.heap.size w w1) ⟨.alloc (bM rfl rfl) _,bM (by first | omega | (simp<;> omega)) (by rfl),((bN _ _).alloc (bA _) _).alloc (by first | omega | (simp<;> omega)) _⟩ ?_;rintro w1 ⟨h1,h2,hbel⟩;go_wp2_with (refine aQ rfl 22 _ rfl .u8 w.heap.size 32 (dg 256 S) 5 gH eT rfl h1 ?_);refine (HK.out _).mono ?_;rintro e w2 ⟨r,rfl,hr,hb⟩;replace h2:=h2.kept hb;replace hbel:=hbel.trans (hb.mono hbel.size);clear hb;go_wp2_with fail;refine (HP.out _ _ hr).mono ?_;rintro e w3 ⟨rfl,hb⟩;replace h2:=h2.kept hb;replace hbel:=hbel.trans (hb.mono hbel.size);have hl2:=h2.lt;clear hb hr;go_upto_region 2 with (refine aG rfl 22 _ _ rfl .u8 w3.heap.size 32 (fun _=> 0) (dg 256 U) eT rfl rfl (bM rfl (by rfl)) ?_);refine aD (fun w4=> aF .u8 w4 w3.heap.size 32 (dg 256 U)/\Below w3.heap.size w3 w4) ⟨(bM rfl (by rfl):aF .u8 _ _ 32 (fun _=> 0)).setRow _ _,ay ((bN _ _).alloc (bA _) _) (bA _) _⟩ ?_;rintro w4 ⟨h3,hb⟩;replace h2:=h2.kept hb;replace hbel:=hbel.trans (hb.mono hbel.size);obtain ⟨x3,e3⟩:∃x,x=w3.heap.size:=⟨_,rfl⟩
 rw [<-e3] at h3 hl2 ⊢;clear e3 hb
 try simp only [Act.put,dQ,dR,dS]
 go_wp2_with (first
  | (refine aQ rfl 22 _ rfl .u8 x3 32 (dg 256 U) 5 gH eT rfl h3 ?_)
  | (refine aG rfl 22 _ _ rfl .u8 (w.heap.size+1) 32 (fun _=> 0) (dg 256 U) eT rfl rfl h2 ?_))
 exact bodyPost_ret (bG rfl _ _ .u8 (w.heap.size+1) 32 _ 5 rfl (h2.setRow _ _) gH eT) rfl ⟨rfl,ay hbel (by omega) _⟩
end Go.Proofs.YtpcjekgfnfjbpaaGreat
