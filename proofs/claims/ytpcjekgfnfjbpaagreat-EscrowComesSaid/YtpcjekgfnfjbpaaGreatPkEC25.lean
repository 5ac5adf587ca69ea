/- Part 25 of EscrowComes; conditions: in each theorem. -/
import Derived.Test.YtpcjekgfnfjbpaaGreatPkEC24
import Derived.Deep.Cut
set_option linter.unusedVariables false
set_option linter.unusedSimpArgs false
set_option maxRecDepth 100000
set_option maxHeartbeats 3200000
namespace Go.bI
theorem WU {f:Nat->Int} (hf:∀i,i<17->0<=f i/\f i<=832320000):0<=sm 256 f 17/\sm 256 f 17<2 ^ 130 * 1000000000:=by
 have h1:=ZE f 16;have h2:=Dk 17 hf aM 16 aM;have h3:=hf 16 aM;rw[abX];have h4:=EN (sm 256 f 17) (256 ^ 16);have h5:=Bu (sm 256 f 17) (show (256:Int) ^ 16≠0 by decide);have h6:=Gj (sm 256 f 17) (show (0:Int)<256 ^ 16 by decide);rw[<-h1] at h4;have h7:(256:Int) ^ 16=340282366920938463463374607431768211456:=by decide
 rw[h7] at *;omega
theorem KO {U:Int} (h0:0<=U) (h1:U<2 ^ 130+5000000000):∀i,i<17->0<=pd U i/\pd U i<=300:=by
 intro i hi;by_cases e:i<16
 ·rw[Ia _ e];have:=bR (by decide:(0:Int)<256) U i;omega
 ·obtain rfl:i=16:=by omega
  rw[Hz];have h2:U / 256 ^ 16<5:=Int.ediv_lt_of_lt_mul aM (Int.lt_trans h1 aM);have h3:=Int.ediv_nonneg h0 (show (0:Int)<=256 ^ 16 by decide);omega
def LL:Int:=256 ^ 17 - PP
theorem Yn {W:Int} (h0:PP<=W) (h1:W<2 ^ 130):(∀i,i<17->dg 256 (W+LL) i=dg 256 (W % PP) i)/\dg 256 (W+LL) 16=0:=by
 have e:W % PP=W - PP:=by
  have:W % PP=(W - PP) % PP:=by rw[Int.sub_emod,Int.emod_self,Int.sub_zero,Int.emod_emod]
  rw[this];exact Nb aH (by(have:(2:Int) ^ 130<PP+PP:=by decide);omega)
 have k:∀i,i<17->dg 256 (W+LL) i=dg 256 (W % PP) i:=by
  intro i hi;rw[e,←wG aM (W - PP) 1 17 i hi]
  congr 1
  unfold LL;omega
 refine⟨k,?_⟩;rw[k 16 aM,e];refine Mj ⟨by omega,?_⟩;have:(2:Int) ^ 130=PP+5:=by decide
 have:(5:Int)<256 ^ 16:=by decide
 omega
theorem acH {W:Int} (h0:0<=W) (h1:W<PP):252<=dg 256 (W+LL) 16/\dg 256 (W+LL) 16<256:=by
 refine⟨?_,(bR aM _ _).2⟩;unfold dg LL;have e:(256:Int) ^ 17 - PP=252 * 256 ^ 16+5:=by decide
 have e2:PP=4 * 256 ^ 16 - 5:=by decide
 rw[e];rw[e2] at h1;have h7:(256:Int) ^ 16=340282366920938463463374607431768211456:=by decide
 rw[h7] at *;omega
theorem Qi:bits .and .u32 0 128=0:=by decide
theorem Vf {x:Int} (h0:252<=x) (h1:x<256):bits .and .u32 x 128=128:=by
 obtain rfl | rfl | rfl | rfl:x=252\/x=253\/x=254\/x=255:=by omega
 all_goals decide
theorem KE (f g:Nat->Int) (i:Nat):iG f g i 0=0:=rfl
theorem Ti (f g:Nat->Int) {i j:Nat} (h:j<=i):iG f g i (j+1)=iG f g i j+f j * g (i - j):=by rw[iG,rowP,if_pos h]
theorem Oo (f g:Nat->Int) {i j:Nat} (h:¬ j<=i):iG f g i (j+1)=iG f g i j+320 * f j * g (i+17 - j):=by rw[iG,rowP,if_neg h];grind
theorem La (A:Int) (hA:0<=A/\A<256 ^ 17):sm 256 (dg 256 A) 17=A:=by rw[qH aM,Nb hA.1 hA.2]
theorem akd (A:Int):0<=A % PP/\A % PP<256 ^ 17:=⟨Bu A aM,Int.lt_trans (Gj A aM) aM⟩
theorem Xt (f g:Nat->Int):sm 256 (pd (iY (sm 256 (fun i=>iG f g i 17) 17))) 17 % PP=sm 256 f 17 * sm 256 g 17 % PP:=by rw[adV,zo,Tg f g 17 (bH _)]
theorem Om {f g:Nat->Int} (hf:∀i,i<17->0<=f i/\f i<=600) (hg:∀i,i<17->0<=g i/\g i<=255):∀i,i<17->0<=pd (iY (sm 256 (fun i=>iG f g i 17) 17)) i/\pd (iY (sm 256 (fun i=>iG f g i 17) 17)) i<=300:=by
 have h:=WU (f:=fun i=>iG f g i 17) (fun i hi=>by have:=zV hf hg i hi 17 (bH _);omega);have h2:=Ab h.1 h.2;exact KO h2.1 h2.2
theorem Mk (A:Int) (i:Nat):0<=dg 256 A i/\dg 256 A i<=255:=by have:=bR (by decide:(0:Int)<256) A i;omega
end Go.bI
namespace Go.Proofs.YtpcjekgfnfjbpaaGreat
open Go.RowKit Go.bI
attribute [local go_sem ↓] Go.wp_at_zero Go.wp_at_succ
def xH (f g:Nat->Int) (k:Nat):Nat->Int:=fun m=>if m<k then iG f g m 17 else 0
theorem KF (f g:Nat->Int) (k i:Nat):xH f g k i=upd (xH f g k) k (iG f g k 0) i:=by
 unfold upd;split
 ·next h=>subst h;rw[xH,if_neg aH,KE]
 ·rfl
theorem Tj (f g:Nat->Int) (k i:Nat):upd (xH f g k) k (iG f g k 17) i=xH f g (k+1) i:=by
 unfold upd xH;split
 ·next h=>subst h;rw[if_pos aH]
 ·by_cases e:i<k
  ·rw[if_pos e,if_pos aH]
  ·rw[if_neg e,if_neg aH]
theorem KD (f g:Nat->Int) (w:World) (hf:∀i,i<17->0<=f i/\f i<=600) (hg:∀i,i<17->0<=g i/\g i<=255):
  Calls Tryz.prog 235 #[.agg (arr .u32 17 f),.agg (arr .u32 17 g)] w fun e w'=>e=.returned (.agg (arr .u32 17 (pd (iY (sm 256 (fun i=>iG f g i 17) 17)))))/\Below w.heap.size w w':=by
 have HF:=ay hf;have HG:=ay hg;have HP:=ay (fun i hi=>zV hf hg i hi);clear hf hg
 go_enter Tryz.func235,Tryz.ntmps235
 go_wp2
 go_loopw [9] (fun i wr=> ∃k:Nat,k<=17/\i=.int .i64 k/\aK .u32 wr w.heap.size 17 f/\aK .u32 wr (w.heap.size+1) 17 g/\aK .u32 wr (w.heap.size+2) 17 (fun _=>0)/\aK .u32 wr (w.heap.size+3) 17 (xH f g k)/\Below w.heap.size w wr) (fun i _=>17 - (intOf i).toNat)
 case atStart=>
  refine⟨0,jm _,rfl,?_,?_,?_,?_,?_⟩
  ·exact aK.alloc (aK.alloc (aK.alloc (cB rfl rfl) _) _) _
  ·exact aK.alloc (aK.alloc (cB aR rfl) _) _
  ·exact aK.alloc (cB aR (by rfl)) _
  ·exact aK.congr (f:=fun _=>0) (cB aR rfl) (fun i _=>by unfold xH;rw[if_neg aH])
  ·exact((((bT _ _).alloc (bH _) _).alloc aR _).alloc iU _).alloc iU _
 case round=>
  obtain⟨k,hk,rfl,hA,hG,hZ,hR,aD⟩:=hrel;by_cases hlt:k<17
  ·go_wp2_with (refine aZ rfl 271 _ rfl .u32 w.heap.size 17 f 117 DN Tryz.size271 rfl hA ?_);have HA1:=ay hA;have Sd:=ay hG;have HZ1:=ay hZ;have HR1:=ay (hR.congr fun i _=>KF f g k i);have HB1:=ay aD;clear hA hG hZ hR aD
   go_loopw [13] (fun i wr=> ∃j:Nat,j<=17/\i=.int .i64 j/\aK .u32 wr w.heap.size 17 f/\aK .u32 wr (w.heap.size+1) 17 g/\aK .u32 wr (w.heap.size+2) 17 (fun _=>0)/\aK .u32 wr (w.heap.size+3) 17 (upd (xH f g k) k (iG f g k j))/\Below w.heap.size w wr) (fun i _=>17 - (intOf i).toNat)
   case atStart=>exact⟨0,jm _,rfl,HA1.out,Sd.out,HZ1.out,HR1.out,HB1.out⟩
   case round=>
    obtain⟨j,hj,rfl,hA,hG,hZ,hR,aD⟩:=hrel;by_cases hjt:j<17
    ·have hix:=iy (f:=f) DN Tryz.underlying117 Tryz.size117 j hjt;have e1:=hR.cell k hlt;rw[mE] at e1;have f1:=hR.free k;obtain⟨o0,o1⟩:=HP.out k hlt j hj;obtain⟨p0,p1⟩:=HP.out k hlt (j+1) aH;obtain⟨x0,x1⟩:=HF.out j hjt;by_cases hjk:j<=k
     ·have S:=ay (Ti f g hjk);obtain⟨d,hd⟩:∃d:Nat,(k:Int) - (j:Int)=d:=⟨k - j,by omega⟩
      have hdk:d=k - j:=by omega
      have YK:d<17:=by omega
      have e2:=hG.cell d YK;obtain⟨y0,y1⟩:=HG.out d YK;rw[<-hdk] at S;obtain⟨o,ho⟩:∃o,o=iG f g k j:=⟨_,rfl⟩
      obtain⟨x,hx⟩:∃x,x=f j:=⟨_,rfl⟩
      obtain⟨y,hy⟩:∃y,y=g d:=⟨_,rfl⟩
      rw[<-hx] at x0 x1 hix S;rw[<-hy] at y0 y1 e2 S;rw[<-ho] at o0 o1 e1 S;have m0:=Int.mul_nonneg x0 y0;have m1:x * y<=600 * 255:=Int.mul_le_mul x1 y1 y0 aM;obtain⟨z,hz⟩:∃z,x * y=z:=⟨_,rfl⟩
      rw[hz] at m0 m1 S;have HA2:=ay hA;have HG2:=ay hG;have HZ2:=ay hZ;have HR2:=ay hR;clear hA hG hZ hR ho hx hy hdk p0 p1;go_wp2
      go_region
      all_goals
       go_wp2;go_roundw
       case rel=>exact⟨j+1,by omega,by go_num,(HA2.out.other dO _).drew,(HG2.out.other dO _).drew,(HZ2.out.other dO _).drew,((HR2.out.set k (o+z)).drew).congr (fun i _=>by rw[wV,S.out]),(aD.setCell dO _).drew⟩
       case measure=>simp[intOf] <;> omega
     ·have S:=ay (Oo f g hjk);obtain⟨d,hd⟩:∃d:Nat,(k:Int)+17 - (j:Int)=d:=⟨k+17 - j,by omega⟩
      have hdk:d=k+17 - j:=by omega
      have YK:d<17:=by omega
      have e2:=hG.cell d YK;obtain⟨y0,y1⟩:=HG.out d YK;rw[<-hdk] at S;obtain⟨o,ho⟩:∃o,o=iG f g k j:=⟨_,rfl⟩
      obtain⟨x,hx⟩:∃x,x=f j:=⟨_,rfl⟩
      obtain⟨y,hy⟩:∃y,y=g d:=⟨_,rfl⟩
      rw[<-hx] at x0 x1 hix S;rw[<-hy] at y0 y1 e2 S;rw[<-ho] at o0 o1 e1 S;have m0:=Int.mul_nonneg (show 0<=320 * x by omega) y0;have m1:320 * x * y<=192000 * 255:=Int.mul_le_mul aH y1 y0 aM;obtain⟨z,hz⟩:∃z,320 * x * y=z:=⟨_,rfl⟩
      rw[hz] at m0 m1 S;have HA2:=ay hA;have HG2:=ay hG;have HZ2:=ay hZ;have HR2:=ay hR;clear hA hG hZ hR ho hx hy hdk p0 p1;go_wp2
      go_region
      all_goals
       go_wp2;go_roundw
       case rel=>exact⟨j+1,by omega,by go_num,(HA2.out.other dO _).drew,(HG2.out.other dO _).drew,(HZ2.out.other dO _).drew,((HR2.out.set k (o+z)).drew).congr (fun i _=>by rw[wV,S.out]),(aD.setCell dO _).drew⟩
       case measure=>simp[intOf] <;> omega
    ·obtain rfl:j=17:=by omega
     go_wp2_with fail;go_roundw
     case rel=>exact⟨k+1,by omega,by go_num,hA,hG,hZ,hR.congr fun i _=>Tj f g k i,aD⟩
     case measure=>simp[intOf] <;> omega
  ·obtain rfl:k=17:=by omega
   have CW:=hR.congr (g:=fun i=>iG f g i 17) fun i hi=>if_pos hi;clear hR;go_wp2_with (refine aZ rfl 271 _ rfl .u32 (w.heap.size+3) 17 _ 117 DN Tryz.size271 rfl CW ?_);refine(wH (fun i=>iG f g i 17) _ (fun i hi=>by have:=HP.out i hi 17 (bH _);omega)).mono ?_;rintro e w1 ⟨rfl,gX⟩;have hZ1:=hZ.kept gX;have fO:=aD.trans (gX.mono aD.size);clear CW hA hG hZ gX aD;go_wp2_with (refine aL rfl 271 _ _ rfl .u32 (w.heap.size+2) 17 (fun _=>0) _ Tryz.size271 rfl rfl hZ1 ?_);exact bodyPost_ret (bV rfl _ _ .u32 (w.heap.size+2) 17 _ 117 rfl (hZ1.setRow _ _) DN Tryz.size271) rfl ⟨rfl,aB fO aH _⟩
theorem Qc {a:Act} (w:World):(Instr.build 271 ((#[(0,Operand.const (.int .u32 5)),(16,Operand.const (.int .u32 252))] :Array (Nat × Operand)).map fun(i,x)=>(i,a.eval x))).run Tryz.prog w=.ok (.agg (arr .u32 17 (dg 256 LL))) w:=by
 simp only[vT,List.map_nil,List.map_cons,Act.eval];rw[Go.run_build w _ _ #[.int .u32 5,.int .u32 0,.int .u32 0,.int .u32 0,.int .u32 0,.int .u32 0,.int .u32 0,.int .u32 0,.int .u32 0,.int .u32 0,.int .u32 0,.int .u32 0,.int .u32 0,.int .u32 0,.int .u32 0,.int .u32 0,.int .u32 252] aQ];have e:(#[.int .u32 5,.int .u32 0,.int .u32 0,.int .u32 0,.int .u32 0,.int .u32 0,.int .u32 0,.int .u32 0,.int .u32 0,.int .u32 0,.int .u32 0,.int .u32 0,.int .u32 0,.int .u32 0,.int .u32 0,.int .u32 0,.int .u32 252] :Array Value)=arr .u32 17 (dg 256 LL):=by kernel_rfl
 rw[e]
theorem zT (f:Nat->Int) (w:World) (hf:∀i,i<17->0<=f i/\f i<=832320000):
  Calls Tryz.prog 236 #[.agg (arr .u32 17 f)] w fun e w'=>e=.returned (.agg (arr .u32 17 (dg 256 (sm 256 f 17 % PP))))/\Below w.heap.size w w':=by
 have hV:=WU hf;have HF:=ay hf;clear hf;obtain⟨V,hVe⟩:∃V,V=sm 256 f 17:=⟨_,rfl⟩
 rw[<-hVe] at hV ⊢;have hU:=Ab hV.1 hV.2;have hW:=LZ hU.1 hU.2;have hWV:iY (iY V) % PP=V % PP:=by rw[zo,zo]
 have HU:=ay (KO hU.1 hU.2);have Bw:Hid (∀w:World,Calls Tryz.prog 260 #[.agg (arr .u32 17 f)] w fun e w'=>e=.returned (.agg (arr .u32 17 (pd (iY V))))/\Below w.heap.size w w'):=by
  intro w;rw[hVe];exact wH f w HF.out
 have Jq:Hid (∀w:World,Calls Tryz.prog 260 #[.agg (arr .u32 17 (pd (iY V)))] w fun e w'=>e=.returned (.agg (arr .u32 17 (dg 256 (iY (iY V)))))/\Below w.heap.size w w'):=by
  intro w;have h:=wH (pd (iY V)) w (fun i hi=>by have:=HU.out i hi;omega);rw[adV,iQ (ajQ hW.1 (Int.lt_trans hW.2 aM))] at h;exact h
 obtain⟨W,hWe⟩:∃W,W=iY (iY V):=⟨_,rfl⟩
 rw[<-hWe] at hW hWV Jq;rw[<-hWV];clear hWe hWV hU hVe hV HU;have HWB:=ay hW;clear hW
 go_enter Tryz.func236,Tryz.ntmps236
 go_wp2_with (refine aZ rfl 271 _ rfl .u32 w.heap.size 17 f 117 DN Tryz.size271 rfl (aK.alloc (cB rfl rfl) _) ?_);refine(Bw.out _).mono ?_;rintro e w1 ⟨rfl,gX⟩;go_wp2_with fail;refine(Jq.out _).mono ?_;rintro e w2 ⟨rfl,fO⟩;have hA:aK .u32 w2 w.heap.size 17 f:=aK.kept (aK.kept (aK.alloc (cB rfl rfl) _) gX) fO;have hZ:aK .u32 w2 (w.heap.size+1) 17 (fun _=>0):=aK.kept (aK.kept (cB dO rfl) gX) fO;have aD:Below w.heap.size w w2:=((((bT _ _).alloc (bH _) _).alloc aR _).trans (gX.mono iU)).trans (fO.mono (by have:=gX.size;simp at this;omega));clear gX fO;go_upto_region 2 with(refine aL rfl 271 _ _ rfl .u32 w.heap.size 17 f _ Tryz.size271 rfl rfl hA ?_)
 refine aJ (fun w3=>aK .u32 w3 w.heap.size 17 (dg 256 W)/\aK .u32 w3 (w.heap.size+1) 17 (fun _=>0)/\Below w.heap.size w w3)
  ⟨hA.setRow _ _,hZ.aC _ aH _,aB aD (bH _) _⟩ ?_
 rintro w3 ⟨hA3,lZ,ji⟩;clear hA hZ aD
 go_wp2_with (first
  | (refine aZ rfl 271 _ rfl .u32 w.heap.size 17 _ 117 DN Tryz.size271 rfl hA3 ?_)
  | (refine fC rfl (fK rfl (Qc _)) ?_))
 refine(JX W LL _).mono ?_;rintro e w4 ⟨rfl,jF⟩;have zn:=hA3.kept jF;have qX:=lZ.kept jF;have fU:=ji.trans (jF.mono ji.size);have la:=zn.lt;have lz:=qX.lt;have hs4:=fU.size;clear hA3 lZ ji jF;go_upto_region 3 with(refine aL rfl 271 _ _ rfl .u32 w4.heap.size 17 (fun _=>0) _ Tryz.size271 rfl rfl (cB rfl rfl) ?_)
 refine aJ (fun w5=>aK .u32 w5 w4.heap.size 17 (dg 256 (W+LL))/\aK .u32 w5 w.heap.size 17 (dg 256 W)/\aK .u32 w5 (w.heap.size+1) 17 (fun _=>0)/\Below w.heap.size w w5)
  ⟨aK.setRow (cB (n:=17) (f:=fun _=>0) rfl rfl) _ _,aK.aC (aK.alloc zn _) _ aH _,aK.aC (aK.alloc qX _) _ aH _,aB (fU.alloc hs4 _) hs4 _⟩ ?_
 rintro w5 ⟨hT,wF,qF,lW⟩;clear zn qX fU;have e1:=hT.cell 16 aM;by_cases hlt:W<PP
 ·obtain⟨d0,d1⟩:=acH HWB.out.1 hlt;have hand:=Vf d0 d1;obtain⟨d,hd⟩:∃d,d=dg 256 (W+LL) 16:=⟨_,rfl⟩
  rw[<-hd] at e1 hand d0 d1;have HE:=ay (Nb HWB.out.1 hlt);clear hd hlt hT
  go_wp2_with (first
   | (refine aZ rfl 271 _ rfl .u32 w.heap.size 17 _ 117 DN Tryz.size271 rfl wF ?_)
   | (refine aL rfl 271 _ _ rfl .u32 (w.heap.size+1) 17 (fun _=>0) _ Tryz.size271 rfl rfl qF ?_))
  exact bodyPost_ret (bV rfl _ _ .u32 (w.heap.size+1) 17 _ 117 rfl (qF.setRow _ _) DN Tryz.size271) rfl ⟨by rw[HE.out],aB lW aH _⟩
 ·have hy:=Yn (Int.not_lt.1 hlt) HWB.out.2;have HY:=ay hy.1;rw[hy.2] at e1;have hand:=Qi;clear hy hlt wF
  go_wp2_with (first
   | (refine aZ rfl 271 _ rfl .u32 w4.heap.size 17 _ 117 DN Tryz.size271 rfl hT ?_)
   | (refine aL rfl 271 _ _ rfl .u32 (w.heap.size+1) 17 (fun _=>0) _ Tryz.size271 rfl rfl qF ?_))
  refine bodyPost_ret (bV rfl _ _ .u32 (w.heap.size+1) 17 _ 117 rfl (qF.setRow _ _) DN Tryz.size271) rfl ⟨?_,aB lW aH _⟩;rw[iQ HY.out]
theorem Od (A:Int) (hA:0<=A/\A<256 ^ 17) (w:World):
  Calls Tryz.prog 236 #[.agg (arr .u32 17 (dg 256 A))] w fun e w'=>e=.returned (.agg (arr .u32 17 (dg 256 (A % PP))))/\Below w.heap.size w w':=by
 have h:=zT (dg 256 A) w (fun i _=>by have:=Mk A i;omega);rw[La A hA] at h;exact h
end Go.Proofs.YtpcjekgfnfjbpaaGreat
