/-
  Part 25 of EscrowTake. Conditions: named in each theorem.
-/
import Derived.Test.YtpcjekgfnfjbpaaGreatPkEscrowTake24
import Derived.Test.YtpcjekgfnfjbpaaGreatPkEscrowTake9
import Derived.Deep.Cut
set_option linter.unusedVariables false
set_option linter.unusedSimpArgs false
set_option maxRecDepth 100000
set_option maxHeartbeats 3200000
namespace Go.aZ
theorem Rv {f:Nat->Int} (hf:∀i,i<17->0<=f i/\f i<=832320000):0<=sm 256 f 17/\sm 256 f 17<2 ^ 130 * 1000000000:=by
 have h1:=UZ f 16;have h2:=zZ 17 hf (by decide) 16 (by decide);have h3:=hf 16 (by decide);rw [Xw];have h4:=BI (sm 256 f 17) (256 ^ 16);have h5:=Int.emod_nonneg (sm 256 f 17) (show (256:Int) ^ 16≠0 by decide);have h6:=Da (sm 256 f 17) (show (0:Int)<256 ^ 16 by decide);rw [<-h1] at h4;have h7:(256:Int) ^ 16=340282366920938463463374607431768211456:=by decide
 rw [h7] at *;omega
theorem GL {U:Int} (h0:0<=U) (h1:U<2 ^ 130+5000000000):∀i,i<17->0<=pd U i/\pd U i<=300:=by
 intro i hi;by_cases e:i<16
 ·rw [Eh _ e];have:=bE (by decide:(0:Int)<256) U i;omega
 ·obtain rfl:i=16:=by omega
  rw [Ef];have h2:U / 256 ^ 16<5:=Int.ediv_lt_of_lt_mul (by decide) (Int.lt_trans h1 (by decide));have h3:=Int.ediv_nonneg h0 (show (0:Int)<=256 ^ 16 by decide);omega
def LL:Int:=256 ^ 17 - PP
theorem Tp {W:Int} (h0:PP<=W) (h1:W<2 ^ 130):(∀i,i<17->dg 256 (W+LL) i=dg 256 (W % PP) i)/\dg 256 (W+LL) 16=0:=by
 have e:W % PP=W - PP:=by
  have:W % PP=(W - PP) % PP:=by rw [Int.sub_emod,Int.emod_self,Int.sub_zero,Int.emod_emod]
  rw [this];exact Ju (by omega) (by (have:(2:Int) ^ 130<PP+PP:=by decide);omega)
 have k:∀i,i<17->dg 256 (W+LL) i=dg 256 (W % PP) i:=by
  intro i hi;rw [e,←sW (by decide) (W - PP) 1 17 i hi]
  congr 1
  unfold LL;omega
 refine ⟨k,?_⟩;rw [k 16 (by decide),e];refine IK ⟨by omega,?_⟩;have:(2:Int) ^ 130=PP+5:=by decide
 have:(5:Int)<256 ^ 16:=by decide
 omega
theorem XV {W:Int} (h0:0<=W) (h1:W<PP):252<=dg 256 (W+LL) 16/\dg 256 (W+LL) 16<256:=by
 refine ⟨?_,(bE (by decide) _ _).2⟩;unfold dg LL;have e:(256:Int) ^ 17 - PP=252 * 256 ^ 16+5:=by decide
 have e2:PP=4 * 256 ^ 16 - 5:=by decide
 rw [e];rw [e2] at h1;have h7:(256:Int) ^ 16=340282366920938463463374607431768211456:=by decide
 rw [h7] at *;omega
theorem Ma:bits .and .u32 0 128=0:=by decide
theorem Qn {x:Int} (h0:252<=x) (h1:x<256):bits .and .u32 x 128=128:=by
 obtain rfl | rfl | rfl | rfl:x=252\/x=253\/x=254\/x=255:=by omega
 all_goals decide
theorem Gx (f g:Nat->Int) (i:Nat):gy f g i 0=0:=rfl
theorem OA (f g:Nat->Int) {i j:Nat} (h:j<=i):gy f g i (j+1)=gy f g i j+f j * g (i - j):=by rw [gy,rowP,if_pos h]
theorem Ky (f g:Nat->Int) {i j:Nat} (h:¬ j<=i):gy f g i (j+1)=gy f g i j+320 * f j * g (i+17 - j):=by rw [gy,rowP,if_neg h];grind
theorem GZ (A:Int) (hA:0<=A/\A<256 ^ 17):sm 256 (dg 256 A) 17=A:=by rw [nX (by decide),Ju hA.1 hA.2]
theorem aeY (A:Int):0<=A % PP/\A % PP<256 ^ 17:=⟨Int.emod_nonneg A (by decide),Int.lt_trans (Da A (by decide)) (by decide)⟩
theorem Sd (f g:Nat->Int):sm 256 (pd (gM (sm 256 (fun i=> gy f g i 17) 17))) 17 % PP=sm 256 f 17 * sm 256 g 17 % PP:=by rw [Zf,vV,Oz f g 17 (bA _)]
theorem Kw {f g:Nat->Int} (hf:∀i,i<17->0<=f i/\f i<=600) (hg:∀i,i<17->0<=g i/\g i<=255):∀i,i<17->0<=pd (gM (sm 256 (fun i=> gy f g i 17) 17)) i/\pd (gM (sm 256 (fun i=> gy f g i 17) 17)) i<=300:=by
 have h:=Rv (f:=fun i=> gy f g i 17) (fun i hi=> by have:=wV hf hg i hi 17 (bA _);omega);have h2:=xq h.1 h.2;exact GL h2.1 h2.2
theorem IL (A:Int) (i:Nat):0<=dg 256 A i/\dg 256 A i<=255:=by have:=bE (by decide:(0:Int)<256) A i;omega
end Go.aZ
namespace Go.Proofs.YtpcjekgfnfjbpaaGreat
open Go.RowKit Go.aZ
attribute [local go_sem ↓] Go.wp_at_zero Go.wp_at_succ
def uz (f g:Nat->Int) (k:Nat):Nat->Int:=fun m=> if m<k then gy f g m 17 else 0
theorem Gy (f g:Nat->Int) (k i:Nat):uz f g k i=upd (uz f g k) k (gy f g k 0) i:=by
 unfold upd;split
 ·next h=> subst h;rw [uz,if_neg (by omega),Gx]
 ·rfl
theorem OB (f g:Nat->Int) (k i:Nat):upd (uz f g k) k (gy f g k 17) i=uz f g (k+1) i:=by
 unfold upd uz;split
 ·next h=> subst h;rw [if_pos (by omega)]
 ·by_cases e:i<k
  ·rw [if_pos e,if_pos (by omega)]
  ·rw [if_neg e,if_neg (by omega)]
theorem Gw (f g:Nat->Int) (w:World) (hf:∀i,i<17->0<=f i/\f i<=600) (hg:∀i,i<17->0<=g i/\g i<=255):
  Calls Tryz.prog 235 #[.agg (arr .u32 17 f),.agg (arr .u32 17 g)] w fun e w'=> e=.returned (.agg (arr .u32 17 (pd (gM (sm 256 (fun i=> gy f g i 17) 17)))))/\Below w.heap.size w w':=by
 have HF:=ak hf;have HG:=ak hg;have HP:=ak (fun i hi=> wV hf hg i hi);clear hf hg
 go_enter Tryz.func235,Tryz.ntmps235
 go_wp2
 go_loopw [9] (fun i wr=> ∃k:Nat,k<=17/\i=.int .i64 k/\aF .u32 wr w.heap.size 17 f/\aF .u32 wr (w.heap.size+1) 17 g/\aF .u32 wr (w.heap.size+2) 17 (fun _=> 0)/\aF .u32 wr (w.heap.size+3) 17 (uz f g k)/\Below w.heap.size w wr) (fun i _=> 17 - (intOf i).toNat)
 case atStart=>
  refine ⟨0,iY _,rfl,?_,?_,?_,?_,?_⟩
  ·exact aF.alloc (aF.alloc (aF.alloc (bM rfl rfl) _) _) _
  ·exact aF.alloc (aF.alloc (bM (by simp) rfl) _) _
  ·exact aF.alloc (bM (by simp) (by rfl)) _
  ·exact aF.congr (f:=fun _=> 0) (bM (by simp) rfl) (fun i _=> by unfold uz;rw [if_neg (by omega)])
  ·exact ((((bN _ _).alloc (bA _) _).alloc (by simp) _).alloc (by simp;omega) _).alloc (by simp;omega) _
 case round=>
  obtain ⟨k,hk,rfl,hA,hG,hZ,hR,hbel⟩:=hrel;by_cases hlt:k<17
  ·go_wp2_with (refine aQ rfl 271 _ rfl .u32 w.heap.size 17 f 117 Au Tryz.size271 rfl hA ?_);have HA1:=ak hA;have HG1:=ak hG;have HZ1:=ak hZ;have HR1:=ak (hR.congr fun i _=> Gy f g k i);have HB1:=ak hbel;clear hA hG hZ hR hbel
   go_loopw [13] (fun i wr=> ∃j:Nat,j<=17/\i=.int .i64 j/\aF .u32 wr w.heap.size 17 f/\aF .u32 wr (w.heap.size+1) 17 g/\aF .u32 wr (w.heap.size+2) 17 (fun _=> 0)/\aF .u32 wr (w.heap.size+3) 17 (upd (uz f g k) k (gy f g k j))/\Below w.heap.size w wr) (fun i _=> 17 - (intOf i).toNat)
   case atStart=> exact ⟨0,iY _,rfl,HA1.out,HG1.out,HZ1.out,HR1.out,HB1.out⟩
   case round=>
    obtain ⟨j,hj,rfl,hA,hG,hZ,hR,hbel⟩:=hrel;by_cases hjt:j<17
    ·have hix:=fV (f:=f) Au Tryz.underlying117 Tryz.size117 j hjt;have e1:=hR.cell k hlt;rw [kC] at e1;have f1:=hR.free k;obtain ⟨o0,o1⟩:=HP.out k hlt j hj;obtain ⟨p0,p1⟩:=HP.out k hlt (j+1) (by omega);obtain ⟨x0,x1⟩:=HF.out j hjt;by_cases hjk:j<=k
     ·have S:=ak (OA f g hjk);obtain ⟨d,hd⟩:∃d:Nat,(k:Int) - (j:Int)=d:=⟨k - j,by omega⟩
      have hdk:d=k - j:=by omega
      have TV:d<17:=by omega
      have e2:=hG.cell d TV;obtain ⟨y0,y1⟩:=HG.out d TV;rw [<-hdk] at S;obtain ⟨o,ho⟩:∃o,o=gy f g k j:=⟨_,rfl⟩
      obtain ⟨x,hx⟩:∃x,x=f j:=⟨_,rfl⟩
      obtain ⟨y,hy⟩:∃y,y=g d:=⟨_,rfl⟩
      rw [<-hx] at x0 x1 hix S;rw [<-hy] at y0 y1 e2 S;rw [<-ho] at o0 o1 e1 S;have m0:=Int.mul_nonneg x0 y0;have m1:x * y<=600 * 255:=Int.mul_le_mul x1 y1 y0 (by decide);obtain ⟨z,hz⟩:∃z,x * y=z:=⟨_,rfl⟩
      rw [hz] at m0 m1 S;have HA2:=ak hA;have HG2:=ak hG;have HZ2:=ak hZ;have HR2:=ak hR;clear hA hG hZ hR ho hx hy hdk p0 p1;go_wp2
      go_region
      all_goals
       go_wp2;go_roundw
       case rel=> exact ⟨j+1,by omega,by go_num,(HA2.out.other (by first | omega | (simp<;> omega)) _).drew,(HG2.out.other (by first | omega | (simp<;> omega)) _).drew,(HZ2.out.other (by first | omega | (simp<;> omega)) _).drew,((HR2.out.set k (o+z)).drew).congr (fun i _=> by rw [tQ,S.out]),(hbel.setCell (by first | omega | (simp<;> omega)) _).drew⟩
       case measure=> simp [intOf] <;> omega
     ·have S:=ak (Ky f g hjk);obtain ⟨d,hd⟩:∃d:Nat,(k:Int)+17 - (j:Int)=d:=⟨k+17 - j,by omega⟩
      have hdk:d=k+17 - j:=by omega
      have TV:d<17:=by omega
      have e2:=hG.cell d TV;obtain ⟨y0,y1⟩:=HG.out d TV;rw [<-hdk] at S;obtain ⟨o,ho⟩:∃o,o=gy f g k j:=⟨_,rfl⟩
      obtain ⟨x,hx⟩:∃x,x=f j:=⟨_,rfl⟩
      obtain ⟨y,hy⟩:∃y,y=g d:=⟨_,rfl⟩
      rw [<-hx] at x0 x1 hix S;rw [<-hy] at y0 y1 e2 S;rw [<-ho] at o0 o1 e1 S;have m0:=Int.mul_nonneg (show 0<=320 * x by omega) y0;have m1:320 * x * y<=192000 * 255:=Int.mul_le_mul (by omega) y1 y0 (by decide);obtain ⟨z,hz⟩:∃z,320 * x * y=z:=⟨_,rfl⟩
      rw [hz] at m0 m1 S;have HA2:=ak hA;have HG2:=ak hG;have HZ2:=ak hZ;have HR2:=ak hR;clear hA hG hZ hR ho hx hy hdk p0 p1;go_wp2
      go_region
      all_goals
       go_wp2;go_roundw
       case rel=> exact ⟨j+1,by omega,by go_num,(HA2.out.other (by first | omega | (simp<;> omega)) _).drew,(HG2.out.other (by first | omega | (simp<;> omega)) _).drew,(HZ2.out.other (by first | omega | (simp<;> omega)) _).drew,((HR2.out.set k (o+z)).drew).congr (fun i _=> by rw [tQ,S.out]),(hbel.setCell (by first | omega | (simp<;> omega)) _).drew⟩
       case measure=> simp [intOf] <;> omega
    ·obtain rfl:j=17:=by omega
     go_wp2_with fail;go_roundw
     case rel=> exact ⟨k+1,by omega,by go_num,hA,hG,hZ,hR.congr fun i _=> OB f g k i,hbel⟩
     case measure=> simp [intOf] <;> omega
  ·obtain rfl:k=17:=by omega
   have hR2:=hR.congr (g:=fun i=> gy f g i 17) fun i hi=> if_pos hi;clear hR;go_wp2_with (refine aQ rfl 271 _ rfl .u32 (w.heap.size+3) 17 _ 117 Au Tryz.size271 rfl hR2 ?_);refine (tq (fun i=> gy f g i 17) _ (fun i hi=> by have:=HP.out i hi 17 (bA _);omega)).mono ?_;rintro e w1 ⟨rfl,hb1⟩;have hZ1:=hZ.kept hb1;have hb2:=hbel.trans (hb1.mono hbel.size);clear hR2 hA hG hZ hb1 hbel;go_wp2_with (refine aG rfl 271 _ _ rfl .u32 (w.heap.size+2) 17 (fun _=> 0) _ Tryz.size271 rfl rfl hZ1 ?_);exact bodyPost_ret (bG rfl _ _ .u32 (w.heap.size+2) 17 _ 117 rfl (hZ1.setRow _ _) Au Tryz.size271) rfl ⟨rfl,ay hb2 (by omega) _⟩
theorem LU {a:Act} (w:World):(Instr.build 271 ((#[(0,Operand.const (.int .u32 5)),(16,Operand.const (.int .u32 252))] :Array (Nat × Operand)).map fun (i,x)=> (i,a.eval x))).run Tryz.prog w=.ok (.agg (arr .u32 17 (dg 256 LL))) w:=by
 simp only [vg,List.map_nil,List.map_cons,Act.eval];rw [Go.run_build w _ _ #[.int .u32 5,.int .u32 0,.int .u32 0,.int .u32 0,.int .u32 0,.int .u32 0,.int .u32 0,.int .u32 0,.int .u32 0,.int .u32 0,.int .u32 0,.int .u32 0,.int .u32 0,.int .u32 0,.int .u32 0,.int .u32 0,.int .u32 252] (by kernel_rfl)];have e:(#[.int .u32 5,.int .u32 0,.int .u32 0,.int .u32 0,.int .u32 0,.int .u32 0,.int .u32 0,.int .u32 0,.int .u32 0,.int .u32 0,.int .u32 0,.int .u32 0,.int .u32 0,.int .u32 0,.int .u32 0,.int .u32 0,.int .u32 252] :Array Value)=arr .u32 17 (dg 256 LL):=by kernel_rfl
 rw [e]
theorem wT (f:Nat->Int) (w:World) (hf:∀i,i<17->0<=f i/\f i<=832320000):
  Calls Tryz.prog 236 #[.agg (arr .u32 17 f)] w fun e w'=> e=.returned (.agg (arr .u32 17 (dg 256 (sm 256 f 17 % PP))))/\Below w.heap.size w w':=by
 have hV:=Rv hf;have HF:=ak hf;clear hf;obtain ⟨V,hVe⟩:∃V,V=sm 256 f 17:=⟨_,rfl⟩
 rw [<-hVe] at hV ⊢;have hU:=xq hV.1 hV.2;have hW:=Iy hU.1 hU.2;have hWV:gM (gM V) % PP=V % PP:=by rw [vV,vV]
 have HU:=ak (GL hU.1 hU.2);have yH:Hid (∀w:World,Calls Tryz.prog 260 #[.agg (arr .u32 17 f)] w fun e w'=> e=.returned (.agg (arr .u32 17 (pd (gM V))))/\Below w.heap.size w w'):=by
  intro w;rw [hVe];exact tq f w HF.out
 have Mj:Hid (∀w:World,Calls Tryz.prog 260 #[.agg (arr .u32 17 (pd (gM V)))] w fun e w'=> e=.returned (.agg (arr .u32 17 (dg 256 (gM (gM V)))))/\Below w.heap.size w w'):=by
  intro w;have h:=tq (pd (gM V)) w (fun i hi=> by have:=HU.out i hi;omega);rw [Zf,gJ (aeO hW.1 (Int.lt_trans hW.2 (by decide)))] at h;exact h
 obtain ⟨W,hWe⟩:∃W,W=gM (gM V):=⟨_,rfl⟩
 rw [<-hWe] at hW hWV Mj;rw [<-hWV];clear hWe hWV hU hVe hV HU;have HWB:=ak hW;clear hW
 go_enter Tryz.func236,Tryz.ntmps236
 go_wp2_with (refine aQ rfl 271 _ rfl .u32 w.heap.size 17 f 117 Au Tryz.size271 rfl (aF.alloc (bM rfl rfl) _) ?_);refine (yH.out _).mono ?_;rintro e w1 ⟨rfl,hb1⟩;go_wp2_with fail;refine (Mj.out _).mono ?_;rintro e w2 ⟨rfl,hb2⟩;have hA:aF .u32 w2 w.heap.size 17 f:=aF.kept (aF.kept (aF.alloc (bM rfl rfl) _) hb1) hb2;have hZ:aF .u32 w2 (w.heap.size+1) 17 (fun _=> 0):=aF.kept (aF.kept (bM (by first | omega | (simp<;> omega)) rfl) hb1) hb2;have hbel:Below w.heap.size w w2:=((((bN _ _).alloc (bA _) _).alloc (by simp) _).trans (hb1.mono (by simp;omega))).trans (hb2.mono (by have:=hb1.size;simp at this;omega));clear hb1 hb2;go_upto_region 2 with (refine aG rfl 271 _ _ rfl .u32 w.heap.size 17 f _ Tryz.size271 rfl rfl hA ?_)
 refine aD (fun w3=> aF .u32 w3 w.heap.size 17 (dg 256 W)/\aF .u32 w3 (w.heap.size+1) 17 (fun _=> 0)/\Below w.heap.size w w3)
  ⟨hA.setRow _ _,hZ.aA _ (by omega) _,ay hbel (bA _) _⟩ ?_
 rintro w3 ⟨hA3,hZ3,hb3⟩;clear hA hZ hbel
 go_wp2_with (first
  | (refine aQ rfl 271 _ rfl .u32 w.heap.size 17 _ 117 Au Tryz.size271 rfl hA3 ?_)
  | (refine eB rfl (eD rfl (LU _)) ?_))
 refine (FV W LL _).mono ?_;rintro e w4 ⟨rfl,hb4⟩;have vU:=hA3.kept hb4;have oH:=hZ3.kept hb4;have eP:=hb3.trans (hb4.mono hb3.size);have la:=vU.lt;have lz:=oH.lt;have hs4:=eP.size;clear hA3 hZ3 hb3 hb4;go_upto_region 3 with (refine aG rfl 271 _ _ rfl .u32 w4.heap.size 17 (fun _=> 0) _ Tryz.size271 rfl rfl (bM rfl rfl) ?_)
 refine aD (fun w5=> aF .u32 w5 w4.heap.size 17 (dg 256 (W+LL))/\aF .u32 w5 w.heap.size 17 (dg 256 W)/\aF .u32 w5 (w.heap.size+1) 17 (fun _=> 0)/\Below w.heap.size w w5)
  ⟨aF.setRow (bM (n:=17) (f:=fun _=> 0) rfl rfl) _ _,aF.aA (aF.alloc vU _) _ (by omega) _,aF.aA (aF.alloc oH _) _ (by omega) _,ay (eP.alloc hs4 _) hs4 _⟩ ?_
 rintro w5 ⟨hT,sU,nV,hb5⟩;clear vU oH eP;have e1:=hT.cell 16 (by decide);by_cases hlt:W<PP
 ·obtain ⟨d0,d1⟩:=XV HWB.out.1 hlt;have hand:=Qn d0 d1;obtain ⟨d,hd⟩:∃d,d=dg 256 (W+LL) 16:=⟨_,rfl⟩
  rw [<-hd] at e1 hand d0 d1;have HE:=ak (Ju HWB.out.1 hlt);clear hd hlt hT
  go_wp2_with (first
   | (refine aQ rfl 271 _ rfl .u32 w.heap.size 17 _ 117 Au Tryz.size271 rfl sU ?_)
   | (refine aG rfl 271 _ _ rfl .u32 (w.heap.size+1) 17 (fun _=> 0) _ Tryz.size271 rfl rfl nV ?_))
  exact bodyPost_ret (bG rfl _ _ .u32 (w.heap.size+1) 17 _ 117 rfl (nV.setRow _ _) Au Tryz.size271) rfl ⟨by rw [HE.out],ay hb5 (by omega) _⟩
 ·have hy:=Tp (Int.not_lt.1 hlt) HWB.out.2;have HY:=ak hy.1;rw [hy.2] at e1;have hand:=Ma;clear hy hlt sU
  go_wp2_with (first
   | (refine aQ rfl 271 _ rfl .u32 w4.heap.size 17 _ 117 Au Tryz.size271 rfl hT ?_)
   | (refine aG rfl 271 _ _ rfl .u32 (w.heap.size+1) 17 (fun _=> 0) _ Tryz.size271 rfl rfl nV ?_))
  refine bodyPost_ret (bG rfl _ _ .u32 (w.heap.size+1) 17 _ 117 rfl (nV.setRow _ _) Au Tryz.size271) rfl ⟨?_,ay hb5 (by omega) _⟩;rw [gJ HY.out]
theorem Ko (A:Int) (hA:0<=A/\A<256 ^ 17) (w:World):
  Calls Tryz.prog 236 #[.agg (arr .u32 17 (dg 256 A))] w fun e w'=> e=.returned (.agg (arr .u32 17 (dg 256 (A % PP))))/\Below w.heap.size w w':=by
 have h:=wT (dg 256 A) w (fun i _=> by have:=IL A i;omega);rw [GZ A hA] at h;exact h
end Go.Proofs.YtpcjekgfnfjbpaaGreat
