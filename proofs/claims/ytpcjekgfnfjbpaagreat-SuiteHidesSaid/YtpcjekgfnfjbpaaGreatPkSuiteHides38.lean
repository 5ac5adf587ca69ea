/-
  Part 38 of SuiteHides. Conditions: named in each theorem.
-/
import Derived.Test.YtpcjekgfnfjbpaaGreatPkSuiteHides37
import Derived.Test.YtpcjekgfnfjbpaaGreatPkSuiteHides32
import Derived.Deep.Cut
set_option linter.unusedVariables false
set_option linter.unusedSimpArgs false
set_option maxRecDepth 100000
set_option maxHeartbeats 25600000
namespace Go.aQ
theorem RQ {f:Nat->Int} (hf:∀i,i<17->0<=f i/\f i<=832320000):0<=sm 256 f 17/\sm 256 f 17<2 ^ 130 * 1000000000:=by
 have h1:=Vd f 16;have h2:=Al 17 hf (by decide) 16 (by decide);have h3:=hf 16 (by decide);rw [XC];have h4:=vH (sm 256 f 17) (256 ^ 16);have h5:=Int.emod_nonneg (sm 256 f 17) (show (256:Int) ^ 16≠0 by decide);have h6:=wT (sm 256 f 17) (show (0:Int)<256 ^ 16 by decide);rw [<-h1] at h4;have h7:(256:Int) ^ 16=340282366920938463463374607431768211456:=by decide
 rw [h7] at *;omega
theorem Hw {U:Int} (h0:0<=U) (h1:U<2 ^ 130+5000000000):∀i,i<17->0<=pd U i/\pd U i<=300:=by
 intro i hi;by_cases e:i<16
 ·rw [Ew _ e];have:=aN (by decide:(0:Int)<256) U i;omega
 ·obtain rfl:i=16:=by omega
  rw [Ev];have h2:U / 256 ^ 16<5:=Int.ediv_lt_of_lt_mul (by decide) (Int.lt_trans h1 (by decide));have h3:=Int.ediv_nonneg h0 (show (0:Int)<=256 ^ 16 by decide);omega
def LL:Int:=256 ^ 17 - PP
theorem TB {W:Int} (h0:PP<=W) (h1:W<2 ^ 130):(∀i,i<17->dg 256 (W+LL) i=dg 256 (W % PP) i)/\dg 256 (W+LL) 16=0:=by
 have e:W % PP=W - PP:=by
  have:W % PP=(W - PP) % PP:=by rw [Int.sub_emod,Int.emod_self,Int.sub_zero,Int.emod_emod]
  rw [this];exact AJ (by omega) (by (have:(2:Int) ^ 130<PP+PP:=by decide);omega)
 have k:∀i,i<17->dg 256 (W+LL) i=dg 256 (W % PP) i:=by
  intro i hi;rw [e,←tK (by decide) (W - PP) 1 17 i hi]
  congr 1
  unfold LL;omega
 refine ⟨k,?_⟩;rw [k 16 (by decide),e];refine lD ⟨by omega,?_⟩;have:(2:Int) ^ 130=PP+5:=by decide
 have:(5:Int)<256 ^ 16:=by decide
 omega
theorem Ye {W:Int} (h0:0<=W) (h1:W<PP):252<=dg 256 (W+LL) 16/\dg 256 (W+LL) 16<256:=by
 refine ⟨?_,(aN (by decide) _ _).2⟩;unfold dg LL;have e:(256:Int) ^ 17 - PP=252 * 256 ^ 16+5:=by decide
 have e2:PP=4 * 256 ^ 16 - 5:=by decide
 rw [e];rw [e2] at h1;have h7:(256:Int) ^ 16=340282366920938463463374607431768211456:=by decide
 rw [h7] at *;omega
theorem ML:bits .and .u32 0 128=0:=by decide
theorem QL {x:Int} (h0:252<=x) (h1:x<256):bits .and .u32 x 128=128:=by
 obtain rfl | rfl | rfl | rfl:x=252\/x=253\/x=254\/x=255:=by omega
 all_goals decide
theorem GR (f g:Nat->Int) (i:Nat):fJ f g i 0=0:=rfl
theorem Pn (f g:Nat->Int) {i j:Nat} (h:j<=i):fJ f g i (j+1)=fJ f g i j+f j * g (i - j):=by rw [fJ,rowP,if_pos h]
theorem Ld (f g:Nat->Int) {i j:Nat} (h:¬ j<=i):fJ f g i (j+1)=fJ f g i j+320 * f j * g (i+17 - j):=by rw [fJ,rowP,if_neg h];grind
theorem Ic (A:Int) (hA:0<=A/\A<256 ^ 17):sm 256 (dg 256 A) 17=A:=by rw [nL (by decide),AJ hA.1 hA.2]
theorem aew (A:Int):0<=A % PP/\A % PP<256 ^ 17:=⟨Int.emod_nonneg A (by decide),Int.lt_trans (wT A (by decide)) (by decide)⟩
theorem Sz (f g:Nat->Int):sm 256 (pd (gG (sm 256 (fun i=> fJ f g i 17) 17))) 17 % PP=sm 256 f 17 * sm 256 g 17 % PP:=by rw [Zm,wD,Pm f g 17 (aP _)]
theorem Lc {f g:Nat->Int} (hf:∀i,i<17->0<=f i/\f i<=600) (hg:∀i,i<17->0<=g i/\g i<=255):∀i,i<17->0<=pd (gG (sm 256 (fun i=> fJ f g i 17) 17)) i/\pd (gG (sm 256 (fun i=> fJ f g i 17) 17)) i<=300:=by
 have h:=RQ (f:=fun i=> fJ f g i 17) (fun i hi=> by have:=xu hf hg i hi 17 (aP _);omega);have h2:=xG h.1 h.2;exact Hw h2.1 h2.2
theorem Jh (A:Int) (i:Nat):0<=dg 256 A i/\dg 256 A i<=255:=by have:=aN (by decide:(0:Int)<256) A i;omega
def xA (X:Int):Int:=if PP<=X then X - PP else X
theorem Lh (X:Int) (m:Nat):xA (2 * (X / 2 ^ (m+1) % PP)+X / 2 ^ m % 2)=X / 2 ^ m % PP:=by
 have h:=half X m
 generalize X / 2 ^ (m+1)=Y at h
 generalize X / 2 ^ m=Z at h
 unfold xA PP
 split<;> omega
theorem Ie (Y b:Int) (hb:0<=b/\b<=1):0<=2 * (Y % PP)+b/\2 * (Y % PP)+b<65536 ^ 10:=by
 have h1:=Int.emod_nonneg Y (by decide:PP≠0);have h2:=wT Y (by decide:0<PP);have h3:(2:Int) * PP<65536 ^ 10:=by decide
 omega
theorem akv:0<=PP/\PP<65536 ^ 10:=by decide
theorem Tq (Y:Int) (b:Nat) (h:b<16):Y % 65536 / 2 ^ b % 2=Y / 2 ^ b % 2:=by
 have hp:(0:Int)<2 ^ b:=Int.pow_pos (by decide);have e:(65536:Int)=2 ^ b * (2 ^ (15 - b) * 2):=by
  rw [<-Int.pow_succ,←Int.pow_add,show b+(15 - b+1)=16 by omega];rfl
 have h1:=vH Y 65536;rw [e] at h1 ⊢
 generalize hr:Y % (2 ^ b * (2 ^ (15 - b) * 2))=r at h1 ⊢
 generalize Y / (2 ^ b * (2 ^ (15 - b) * 2))=q at h1
 rw [<-h1,Int.mul_assoc,Int.mul_comm (2 ^ b),Int.add_mul_ediv_right _ _ (by omega),Int.mul_comm (2 ^ (15 - b)),Int.mul_assoc,Int.add_mul_emod_self_left]
theorem PG (X:Int) (m b:Nat) (h:b<16):xA (2 * (X / 65536 ^ m / 2 ^ (b+1) % PP)+dg 65536 X m / ((2 ^ b:Nat):Int) % 2)=X / 65536 ^ m / 2 ^ b % PP:=by
 have h1:=Lh (X / 65536 ^ m) b;rw [<-Tq (X / 65536 ^ m) b h] at h1;rw [<-h1];unfold dg;rw [show (((2:Nat) ^ b:Nat):Int)=(2:Int) ^ b by simp]
theorem Hf (j:Nat):(256:Int) ^ (2 * j)=65536 ^ j:=by rw [Int.pow_mul];rfl
theorem IU {X:Int} {n:Nat} (hX:0<=X/\X<256 ^ n):0<=X/\X<65536 ^ ((n+1) / 2):=by
 refine ⟨hX.1,Int.lt_of_lt_of_le hX.2 ?_⟩;rw [<-Hf];exact fA 256 (by decide) _ _ (by omega)
theorem UR {X:Int} {n j:Nat} (hX:0<=X/\X<256 ^ n) (h:n<=j):dg 256 X j=0:=
 lD ⟨hX.1,Int.lt_of_lt_of_le hX.2 (fA 256 (by decide) n j h)⟩
end Go.aQ
namespace Go.Proofs.YtpcjekgfnfjbpaaGreat
open Go.RowKit Go.aQ
attribute [local go_sem ↓] Go.wp_at_zero Go.wp_at_succ
def uK (f g:Nat->Int) (k:Nat):Nat->Int:=fun m=> if m<k then fJ f g m 17 else 0
theorem GU (f g:Nat->Int) (k i:Nat):uK f g k i=upd (uK f g k) k (fJ f g k 0) i:=by
 unfold upd;split
 ·next h=> subst h;rw [uK,if_neg (by omega),GR]
 ·rfl
theorem Po (f g:Nat->Int) (k i:Nat):upd (uK f g k) k (fJ f g k 17) i=uK f g (k+1) i:=by
 unfold upd uK;split
 ·next h=> subst h;rw [if_pos (by omega)]
 ·by_cases e:i<k
  ·rw [if_pos e,if_pos (by omega)]
  ·rw [if_neg e,if_neg (by omega)]
theorem GQ (f g:Nat->Int) (w:World) (hf:∀i,i<17->0<=f i/\f i<=600) (hg:∀i,i<17->0<=g i/\g i<=255):
  Calls Tryz.prog 235 #[.agg (arr .u32 17 f),.agg (arr .u32 17 g)] w fun e w'=> e=.returned (.agg (arr .u32 17 (pd (gG (sm 256 (fun i=> fJ f g i 17) 17)))))/\Below w.heap.size w w':=by
 have HF:=ak hf;have HG:=ak hg;have HP:=ak (fun i hi=> xu hf hg i hi);clear hf hg
 go_enter Tryz.func235,Tryz.ntmps235
 go_wp2
 go_loopw [9] (fun i wr=> ∃k:Nat,k<=17/\i=.int .i64 k/\aD .u32 wr w.heap.size 17 f/\aD .u32 wr (w.heap.size+1) 17 g/\aD .u32 wr (w.heap.size+2) 17 (fun _=> 0)/\aD .u32 wr (w.heap.size+3) 17 (uK f g k)/\Below w.heap.size w wr) (fun i _=> 17 - (intOf i).toNat)
 case atStart=>
  refine ⟨0,dR _,rfl,?_,?_,?_,?_,?_⟩
  ·exact aD.alloc (aD.alloc (aD.alloc (bg rfl rfl) _) _) _
  ·exact aD.alloc (aD.alloc (bg (by simp) rfl) _) _
  ·exact aD.alloc (bg (by simp) (by rfl)) _
  ·exact aD.congr (f:=fun _=> 0) (bg (by simp) rfl) (fun i _=> by unfold uK;rw [if_neg (by omega)])
  ·exact ((((bA _ _).alloc (aP _) _).alloc (by simp) _).alloc (by simp;omega) _).alloc (by simp;omega) _
 case round=>
  obtain ⟨k,hk,rfl,hA,hG,hZ,hR,hbel⟩:=hrel;by_cases hlt:k<17
  ·go_wp2_with (refine aM rfl 271 _ rfl .u32 w.heap.size 17 f 117 AO Tryz.size271 rfl hA ?_);have HA1:=ak hA;have HG1:=ak hG;have HZ1:=ak hZ;have HR1:=ak (hR.congr fun i _=> GU f g k i);have HB1:=ak hbel;clear hA hG hZ hR hbel
   go_loopw [13] (fun i wr=> ∃j:Nat,j<=17/\i=.int .i64 j/\aD .u32 wr w.heap.size 17 f/\aD .u32 wr (w.heap.size+1) 17 g/\aD .u32 wr (w.heap.size+2) 17 (fun _=> 0)/\aD .u32 wr (w.heap.size+3) 17 (upd (uK f g k) k (fJ f g k j))/\Below w.heap.size w wr) (fun i _=> 17 - (intOf i).toNat)
   case atStart=> exact ⟨0,dR _,rfl,HA1.out,HG1.out,HZ1.out,HR1.out,HB1.out⟩
   case round=>
    obtain ⟨j,hj,rfl,hA,hG,hZ,hR,hbel⟩:=hrel;by_cases hjt:j<17
    ·have hix:=fD (f:=f) AO Tryz.underlying117 Tryz.size117 j hjt;have e1:=hR.cell k hlt;rw [iY] at e1;have f1:=hR.free k;obtain ⟨o0,o1⟩:=HP.out k hlt j hj;obtain ⟨p0,p1⟩:=HP.out k hlt (j+1) (by omega);obtain ⟨x0,x1⟩:=HF.out j hjt;by_cases hjk:j<=k
     ·have S:=ak (Pn f g hjk);obtain ⟨d,hd⟩:∃d:Nat,(k:Int) - (j:Int)=d:=⟨k - j,by omega⟩
      have hdk:d=k - j:=by omega
      have Uq:d<17:=by omega
      have e2:=hG.cell d Uq;obtain ⟨y0,y1⟩:=HG.out d Uq;rw [<-hdk] at S;obtain ⟨o,ho⟩:∃o,o=fJ f g k j:=⟨_,rfl⟩
      obtain ⟨x,hx⟩:∃x,x=f j:=⟨_,rfl⟩
      obtain ⟨y,hy⟩:∃y,y=g d:=⟨_,rfl⟩
      rw [<-hx] at x0 x1 hix S;rw [<-hy] at y0 y1 e2 S;rw [<-ho] at o0 o1 e1 S;have m0:=Int.mul_nonneg x0 y0;have m1:x * y<=600 * 255:=Int.mul_le_mul x1 y1 y0 (by decide);obtain ⟨z,hz⟩:∃z,x * y=z:=⟨_,rfl⟩
      rw [hz] at m0 m1 S;have HA2:=ak hA;have HG2:=ak hG;have HZ2:=ak hZ;have HR2:=ak hR;clear hA hG hZ hR ho hx hy hdk p0 p1;go_wp2
      go_region
      all_goals
       go_wp2;go_roundw
       case rel=> exact ⟨j+1,by omega,by go_num,(HA2.out.other (by first | omega | (simp<;> omega)) _).drew,(HG2.out.other (by first | omega | (simp<;> omega)) _).drew,(HZ2.out.other (by first | omega | (simp<;> omega)) _).drew,((HR2.out.set k (o+z)).drew).congr (fun i _=> by rw [ug,S.out]),(hbel.setCell (by first | omega | (simp<;> omega)) _).drew⟩
       case measure=> simp [intOf] <;> omega
     ·have S:=ak (Ld f g hjk);obtain ⟨d,hd⟩:∃d:Nat,(k:Int)+17 - (j:Int)=d:=⟨k+17 - j,by omega⟩
      have hdk:d=k+17 - j:=by omega
      have Uq:d<17:=by omega
      have e2:=hG.cell d Uq;obtain ⟨y0,y1⟩:=HG.out d Uq;rw [<-hdk] at S;obtain ⟨o,ho⟩:∃o,o=fJ f g k j:=⟨_,rfl⟩
      obtain ⟨x,hx⟩:∃x,x=f j:=⟨_,rfl⟩
      obtain ⟨y,hy⟩:∃y,y=g d:=⟨_,rfl⟩
      rw [<-hx] at x0 x1 hix S;rw [<-hy] at y0 y1 e2 S;rw [<-ho] at o0 o1 e1 S;have m0:=Int.mul_nonneg (show 0<=320 * x by omega) y0;have m1:320 * x * y<=192000 * 255:=Int.mul_le_mul (by omega) y1 y0 (by decide);obtain ⟨z,hz⟩:∃z,320 * x * y=z:=⟨_,rfl⟩
      rw [hz] at m0 m1 S;have HA2:=ak hA;have HG2:=ak hG;have HZ2:=ak hZ;have HR2:=ak hR;clear hA hG hZ hR ho hx hy hdk p0 p1;go_wp2
      go_region
      all_goals
       go_wp2;go_roundw
       case rel=> exact ⟨j+1,by omega,by go_num,(HA2.out.other (by first | omega | (simp<;> omega)) _).drew,(HG2.out.other (by first | omega | (simp<;> omega)) _).drew,(HZ2.out.other (by first | omega | (simp<;> omega)) _).drew,((HR2.out.set k (o+z)).drew).congr (fun i _=> by rw [ug,S.out]),(hbel.setCell (by first | omega | (simp<;> omega)) _).drew⟩
       case measure=> simp [intOf] <;> omega
    ·obtain rfl:j=17:=by omega
     go_wp2_with fail;go_roundw
     case rel=> exact ⟨k+1,by omega,by go_num,hA,hG,hZ,hR.congr fun i _=> Po f g k i,hbel⟩
     case measure=> simp [intOf] <;> omega
  ·obtain rfl:k=17:=by omega
   have hR2:=hR.congr (g:=fun i=> fJ f g i 17) fun i hi=> if_pos hi;clear hR;go_wp2_with (refine aM rfl 271 _ rfl .u32 (w.heap.size+3) 17 _ 117 AO Tryz.size271 rfl hR2 ?_);refine (tL (fun i=> fJ f g i 17) _ (fun i hi=> by have:=HP.out i hi 17 (aP _);omega)).mono ?_;rintro e w1 ⟨rfl,hb1⟩;have hZ1:=hZ.kept hb1;have hb2:=hbel.trans (hb1.mono hbel.size);clear hR2 hA hG hZ hb1 hbel;go_wp2_with (refine aH rfl 271 _ _ rfl .u32 (w.heap.size+2) 17 (fun _=> 0) _ Tryz.size271 rfl rfl hZ1 ?_);exact bodyPost_ret (aV rfl _ _ .u32 (w.heap.size+2) 17 _ 117 rfl (hZ1.setRow _ _) AO Tryz.size271) rfl ⟨rfl,ay hb2 (by omega) _⟩
theorem MG {a:Act} (w:World):(Instr.build 271 ((#[(0,Operand.const (.int .u32 5)),(16,Operand.const (.int .u32 252))] :Array (Nat × Operand)).map fun (i,x)=> (i,a.eval x))).run Tryz.prog w=.ok (.agg (arr .u32 17 (dg 256 LL))) w:=by
 simp only [qy,List.map_nil,List.map_cons,Act.eval];rw [Go.run_build w _ _ #[.int .u32 5,.int .u32 0,.int .u32 0,.int .u32 0,.int .u32 0,.int .u32 0,.int .u32 0,.int .u32 0,.int .u32 0,.int .u32 0,.int .u32 0,.int .u32 0,.int .u32 0,.int .u32 0,.int .u32 0,.int .u32 0,.int .u32 252] (by kernel_rfl)];have e:(#[.int .u32 5,.int .u32 0,.int .u32 0,.int .u32 0,.int .u32 0,.int .u32 0,.int .u32 0,.int .u32 0,.int .u32 0,.int .u32 0,.int .u32 0,.int .u32 0,.int .u32 0,.int .u32 0,.int .u32 0,.int .u32 0,.int .u32 252] :Array Value)=arr .u32 17 (dg 256 LL):=by kernel_rfl
 rw [e]
theorem xk (f:Nat->Int) (w:World) (hf:∀i,i<17->0<=f i/\f i<=832320000):
  Calls Tryz.prog 236 #[.agg (arr .u32 17 f)] w fun e w'=> e=.returned (.agg (arr .u32 17 (dg 256 (sm 256 f 17 % PP))))/\Below w.heap.size w w':=by
 have hV:=RQ hf;have HF:=ak hf;clear hf;obtain ⟨V,hVe⟩:∃V,V=sm 256 f 17:=⟨_,rfl⟩
 rw [<-hVe] at hV ⊢;have hU:=xG hV.1 hV.2;have hW:=IY hU.1 hU.2;have hWV:gG (gG V) % PP=V % PP:=by rw [wD,wD]
 have HU:=ak (Hw hU.1 hU.2);have sW:Hid (∀w:World,Calls Tryz.prog 260 #[.agg (arr .u32 17 f)] w fun e w'=> e=.returned (.agg (arr .u32 17 (pd (gG V))))/\Below w.heap.size w w'):=by
  intro w;rw [hVe];exact tL f w HF.out
 have Ou:Hid (∀w:World,Calls Tryz.prog 260 #[.agg (arr .u32 17 (pd (gG V)))] w fun e w'=> e=.returned (.agg (arr .u32 17 (dg 256 (gG (gG V)))))/\Below w.heap.size w w'):=by
  intro w;have h:=tL (pd (gG V)) w (fun i hi=> by have:=HU.out i hi;omega);rw [Zm,dY (aem hW.1 (Int.lt_trans hW.2 (by decide)))] at h;exact h
 obtain ⟨W,hWe⟩:∃W,W=gG (gG V):=⟨_,rfl⟩
 rw [<-hWe] at hW hWV Ou;rw [<-hWV];clear hWe hWV hU hVe hV HU;have WE:=ak hW;clear hW
 go_enter Tryz.func236,Tryz.ntmps236
 go_wp2_with (refine aM rfl 271 _ rfl .u32 w.heap.size 17 f 117 AO Tryz.size271 rfl (aD.alloc (bg rfl rfl) _) ?_);refine (sW.out _).mono ?_;rintro e w1 ⟨rfl,hb1⟩;go_wp2_with fail;refine (Ou.out _).mono ?_;rintro e w2 ⟨rfl,hb2⟩;have hA:aD .u32 w2 w.heap.size 17 f:=aD.kept (aD.kept (aD.alloc (bg rfl rfl) _) hb1) hb2;have hZ:aD .u32 w2 (w.heap.size+1) 17 (fun _=> 0):=aD.kept (aD.kept (bg (by first | omega | (simp<;> omega)) rfl) hb1) hb2;have hbel:Below w.heap.size w w2:=((((bA _ _).alloc (aP _) _).alloc (by simp) _).trans (hb1.mono (by simp;omega))).trans (hb2.mono (by have:=hb1.size;simp at this;omega));clear hb1 hb2;go_upto_region 2 with (refine aH rfl 271 _ _ rfl .u32 w.heap.size 17 f _ Tryz.size271 rfl rfl hA ?_)
 refine aC (fun w3=> aD .u32 w3 w.heap.size 17 (dg 256 W)/\aD .u32 w3 (w.heap.size+1) 17 (fun _=> 0)/\Below w.heap.size w w3)
  ⟨hA.setRow _ _,hZ.aA _ (by omega) _,ay hbel (aP _) _⟩ ?_
 rintro w3 ⟨hA3,hZ3,hb3⟩;clear hA hZ hbel
 go_wp2_with (first
  | (refine aM rfl 271 _ rfl .u32 w.heap.size 17 _ 117 AO Tryz.size271 rfl hA3 ?_)
  | (refine oD rfl (fF rfl (MG _)) ?_))
 refine (Gl W LL _).mono ?_;rintro e w4 ⟨rfl,hb4⟩;have wB:=hA3.kept hb4;have pV:=hZ3.kept hb4;have bQ:=hb3.trans (hb4.mono hb3.size);have la:=wB.lt;have lz:=pV.lt;have hs4:=bQ.size;clear hA3 hZ3 hb3 hb4;go_upto_region 3 with (refine aH rfl 271 _ _ rfl .u32 w4.heap.size 17 (fun _=> 0) _ Tryz.size271 rfl rfl (bg rfl rfl) ?_)
 refine aC (fun w5=> aD .u32 w5 w4.heap.size 17 (dg 256 (W+LL))/\aD .u32 w5 w.heap.size 17 (dg 256 W)/\aD .u32 w5 (w.heap.size+1) 17 (fun _=> 0)/\Below w.heap.size w w5)
  ⟨aD.setRow (bg (n:=17) (f:=fun _=> 0) rfl rfl) _ _,aD.aA (aD.alloc wB _) _ (by omega) _,aD.aA (aD.alloc pV _) _ (by omega) _,ay (bQ.alloc hs4 _) hs4 _⟩ ?_
 rintro w5 ⟨hT,tH,nC,hb5⟩;clear wB pV bQ;have e1:=hT.cell 16 (by decide);by_cases hlt:W<PP
 ·obtain ⟨d0,d1⟩:=Ye WE.out.1 hlt;have hand:=QL d0 d1;obtain ⟨d,hd⟩:∃d,d=dg 256 (W+LL) 16:=⟨_,rfl⟩
  rw [<-hd] at e1 hand d0 d1;have HE:=ak (AJ WE.out.1 hlt);clear hd hlt hT
  go_wp2_with (first
   | (refine aM rfl 271 _ rfl .u32 w.heap.size 17 _ 117 AO Tryz.size271 rfl tH ?_)
   | (refine aH rfl 271 _ _ rfl .u32 (w.heap.size+1) 17 (fun _=> 0) _ Tryz.size271 rfl rfl nC ?_))
  exact bodyPost_ret (aV rfl _ _ .u32 (w.heap.size+1) 17 _ 117 rfl (nC.setRow _ _) AO Tryz.size271) rfl ⟨by rw [HE.out],ay hb5 (by omega) _⟩
 ·have hy:=TB (Int.not_lt.1 hlt) WE.out.2;have HY:=ak hy.1;rw [hy.2] at e1;have hand:=ML;clear hy hlt tH
  go_wp2_with (first
   | (refine aM rfl 271 _ rfl .u32 w4.heap.size 17 _ 117 AO Tryz.size271 rfl hT ?_)
   | (refine aH rfl 271 _ _ rfl .u32 (w.heap.size+1) 17 (fun _=> 0) _ Tryz.size271 rfl rfl nC ?_))
  refine bodyPost_ret (aV rfl _ _ .u32 (w.heap.size+1) 17 _ 117 rfl (nC.setRow _ _) AO Tryz.size271) rfl ⟨?_,ay hb5 (by omega) _⟩;rw [dY HY.out]
theorem KQ (A:Int) (hA:0<=A/\A<256 ^ 17) (w:World):
  Calls Tryz.prog 236 #[.agg (arr .u32 17 (dg 256 A))] w fun e w'=> e=.returned (.agg (arr .u32 17 (dg 256 (A % PP))))/\Below w.heap.size w w':=by
 have h:=xk (dg 256 A) w (fun i _=> by have:=Jh A i;omega);rw [Ic A hA] at h;exact h
theorem VT (i:Nat) (h:i<10):(#[.int .i64 65531,.int .i64 65535,.int .i64 65535,.int .i64 65535,.int .i64 65535,.int .i64 65535,.int .i64 65535,.int .i64 65535,.int .i64 3,.int .i64 0] :Array Value)[i]? =some (.int .i64 (dg 65536 PP i)):=by
 rcases (by omega:i=0\/i=1\/i=2\/i=3\/i=4\/i=5\/i=6\/i=7\/i=8\/i=9) with rfl | rfl | rfl | rfl | rfl | rfl | rfl | rfl | rfl | rfl<;> (refine congrArg some (congrArg (Value.int .i64) ?_);decide)
theorem Nq (w:World):
  Calls Tryz.prog 240 #[] w fun e w'=> ∃v,e=.returned v/\Rd .i64 w' v 10 (dg 65536 PP)/\Below w.heap.size w w':=by
 go_enter Tryz.func240,Tryz.ntmps240
 go_wp2;go_ret;exact ⟨_,rfl,(Own.new .i64 3 w _ 10 (dg 65536 PP) (aP _) (by decide) rfl VT).rd,(bA _ _).alloc (aP _) _⟩
theorem rG (v:Value) (X:Int) (n:Nat) (hn:n<=1000) (hX:0<=X/\X<65536 ^ n) (w:World) (hv:Rd .i64 w v n (dg 65536 X)):
  Calls Tryz.prog 187 #[v] w fun e w'=>
   ∃v,e=.returned v/\Rd .i64 w' v 10 (dg 65536 (X % PP))/\Below w.heap.size w w':=by
 have HV:=ak hv;obtain ⟨a1,c1,rfl,l1,m1,z1,h1⟩:=hv;have H1:=ak h1;have HX:=ak hX;clear z1 h1 hX
 go_enter Tryz.func187,Tryz.ntmps187
 go_wp2_with (refine iJ rfl _ _ 142 rfl w.heap.size 3 .i64 8 AP yH .i64 .i64 10 rfl rfl (by decide) (by decide) (aP _) ?_;intro w3 hown3 hgrow3);have hb3:Below w.heap.size w w3:=bU (bA _ _) hgrow3 (aP _);clear hgrow3
 go_loopw [3,4] (fun r i wr=> ∃k:Nat,k<=n/\i=.int .i64 ((k:Int) - 1)/\Own .i64 3 w.heap.size wr r 10 (dg 65536 (X / 65536 ^ k % PP))/\Below w.heap.size w wr) (fun _ i _=> (intOf i+1).toNat)
 case atStart=> exact ⟨n,aP _,rfl,hown3.congr (fun i _=> by rw [Int.ediv_eq_zero_of_lt HX.out.1 HX.out.2];simp [dg]),hb3⟩
 case round=>
  obtain ⟨k,hk,rfl,ho,hbel⟩:=hrel;obtain _ | m:=k
  ·have HR:=ak ho.rd;clear ho;go_wp2;go_ret;exact ⟨_,rfl,by have:=HR.out;rwa [Int.pow_zero,Int.ediv_one] at this,hbel⟩
  ·have HO:=ak ho;have HB:=ak hbel;clear ho hbel;go_wp2
   go_loopw [3,5] (fun r x wr=> ∃b:Nat,b<=16/\x=.int .i64 ((2 ^ b / 2:Nat):Int)/\Own .i64 3 w.heap.size wr r 10 (dg 65536 (X / 65536 ^ m / 2 ^ b % PP))/\Below w.heap.size w wr) (fun _ x _=> (intOf x).toNat)
   case atStart=> exact ⟨16,aP _,rfl,by rw [show (2:Int) ^ 16=65536 from rfl,←bW (by decide)];exact HO.out,HB.out⟩
   case round=>
    obtain ⟨b,hb,rfl,ho,hbel⟩:=hrel;have oz:=ak ho;clear ho;obtain _ | b':=b
    ·go_wp2;go_roundw
     case rel=> exact ⟨m,by omega,by go_num,by have:=oz.out;rwa [Int.pow_zero,Int.ediv_one] at this,hbel⟩
     case measure=> simp [intOf] <;> omega
    ·have hd2:(2 ^ (b'+1) / 2:Nat)=2 ^ b':=by rw [Nat.pow_succ];omega
     rw [hd2];obtain ⟨D,hD⟩:∃D:Nat,D=2 ^ b':=⟨_,rfl⟩
     have hD0:0<D:=by rw [hD];exact Nat.pow_pos (by decide)
     have hD1:D<=32768:=by rw [hD];exact Nat.pow_le_pow_right (by decide) (by omega:b'<=15)
     rw [<-hD];have HDD:=ak hD;clear hD hd2;obtain ⟨b1,o1,rfl,s1,e1⟩:=H1.out (by omega);have c1:=(hbel.cell (p:=⟨b1,o1+m,none⟩) s1).trans (e1 m (by omega));have hkm:((m+1:Nat):Int) - 1=(m:Int):=by omega
     rw [hkm];clear e1;obtain ⟨x0,x1⟩:=aN (by decide:(0:Int)<65536) X m;obtain ⟨q,hq⟩:∃q,q=(dg 65536 X m).tdiv (D:Int):=⟨_,rfl⟩
     have hqe:q=dg 65536 X m / D:=by rw [hq,Int.tdiv_eq_ediv_of_nonneg x0]
     have q0:0<=q:=by rw [hqe];exact Int.ediv_nonneg x0 (by omega)
     have q1:q<65536:=by rw [hqe];exact Int.lt_of_le_of_lt (Int.ediv_le_self _ x0) x1
     have hq':=hq.symm;have HQE:=ak hqe;clear hq hqe;obtain ⟨g,cc,rfl,hg0,hgl,hc17,hcc,hcell,hfree⟩:=oz.out.form (by decide);clear hcell hfree;obtain ⟨R,hR⟩:∃R,R=X / 65536 ^ m / 2 ^ (b'+1) % PP:=⟨_,rfl⟩
     rw [<-hR] at oz;have HRR:=ak hR;have DF:=ak hbel;clear hR hbel;obtain ⟨c,hc⟩:∃c,c=q % 2:=⟨_,rfl⟩
     have c0:0<=c/\c<=1:=by omega
     have hc':=hc.symm;have HCE:=ak hc;clear hc;go_wp2
     go_loopw [6,7] (fun x i wr=> ∃(k:Nat) (z:Int),k<=10/\z=BN R c k/\0<=z/\z<=1/\x=.int .i64 z/\i=.int .i64 k/\Own .i64 3 w.heap.size wr (.slice (some ⟨g,0,none⟩) 10 cc) 10 (upto k (dg 65536 (2 * R+c)) (dg 65536 R))/\Below w.heap.size w wr) (fun _ i _=> 10 - (intOf i).toNat)
     case atStart=> exact ⟨0,c,dR _,(Qs _ _).symm,c0.1,c0.2,by rw [hc'],rfl,by rw [bF];exact oz.out,DF.out⟩
     case round=>
      obtain ⟨k,z,hk,hz,z0,z1,rfl,rfl,ho,hbel⟩:=hrel;have HZ:=ak hz;clear hz;by_cases hkt:k<10
      ·obtain ⟨g',cc',he,_,_,_,_,hcell,hfree⟩:=ho.form (by decide);simp only [Value.slice.injEq,Option.some.injEq,Addr.mk.injEq] at he;obtain ⟨⟨rfl,_⟩,_⟩:=he;have e1:=hcell k hkt;have f1:=hfree k;rw [upto_at] at e1;obtain ⟨x0,x1⟩:=aN (by decide:(0:Int)<65536) R k;have hst:=Mw R c k;rw [<-HZ.out] at hst;have HST:=ak hst;have JV:=ak ho;clear ho hst hcell hfree;go_wp2;go_roundw
       case rel=> exact ⟨k+1,_,by omega,HST.out.2,by omega,by omega,rfl,by go_num,by rw [<-aY HST.out.1];exact JV.out.store k _,hbel.setCell hg0 _⟩
       case measure=> simp [intOf] <;> omega
      ·obtain rfl:k=10:=by omega
       have ho3:=ho.congr (bP _ _ (aP _));have JV:=ak ho3;clear ho ho3;have afC:0<=2 * R+c/\2 * R+c<65536 ^ 10:=by rw [HRR.out];exact Ie _ _ c0
       have alT:=ak afC;have hfin:xA (2 * R+c)=X / 65536 ^ m / 2 ^ b' % PP:=by rw [HRR.out,HCE.out,HQE.out,HDD.out];exact PG X m b' (by omega)
       have ahn:=ak hfin;have hsz:=hbel.size;clear afC hfin;go_wp2_with fail;refine (Nq wr).mono ?_;rintro e w4 ⟨v',rfl,hq,hb4⟩;have bQ:=hbel.trans (hb4.mono hsz);have HQ:=ak hq;have Bb:=ak (JV.out.below hb4);have aeR:=bQ.size;clear hq hb4 hbel JV;have hcon:=pJ _ v' (2 * R+c) PP 10 10 (aP _) w4 Bb.out.rd HQ.out alT.out akv;by_cases hge:PP<=2 * R+c
       ·rw [decide_eq_true hge] at hcon;have hon:xA (2 * R+c)=2 * R+c - PP:=by unfold xA;rw [if_pos hge]
        rw [ahn.out] at hon;have HON:=ak hon;have AZ:=ak hcon;clear hon hge hcon;go_wp2_with fail;refine (AZ.out).mono ?_;rintro e w5 ⟨rfl,hb5⟩;have dA:=bQ.trans (hb5.mono aeR);have FP:=ak (Bb.out.below hb5);have hsz5:=dA.size;clear hb5 bQ Bb HQ;go_wp2_with fail;refine (Nq w5).mono ?_;rintro e w6 ⟨v6,rfl,hq6,hb6⟩;have HQ6:=ak hq6;have dI:=dA.trans (hb6.mono hsz5);have HO6:=ak (FP.out.below hb6);have aeQ:=dI.size;clear hq6 hb6 dA FP;go_wp2_with fail;refine (mD _ v6 (2 * R+c) PP 10 10 (aP _) (by decide) w6 HO6.out.rd HQ6.out).mono ?_;rintro e w7 ⟨v7,rfl,ho7,xE⟩;have HO7:=ak ho7;clear ho7;go_wp2;go_roundw
        case rel=> exact ⟨b',by omega,by rw [<-HDD.out];rfl,by rw [HON.out];exact HO7.out.mono aeQ,dI.trans (xE.mono aeQ)⟩
        case measure=> simp [intOf] <;> omega
       ·rw [decide_eq_false hge] at hcon;have hon:xA (2 * R+c)=2 * R+c:=by unfold xA;rw [if_neg hge]
        rw [ahn.out] at hon;have HON:=ak hon;have AZ:=ak hcon;clear hon hge hcon;go_wp2_with fail;refine (AZ.out).mono ?_;rintro e w5 ⟨rfl,hb5⟩;go_wp2;go_roundw
        case rel=> exact ⟨b',by omega,by rw [<-HDD.out];rfl,by rw [HON.out];exact Bb.out.below hb5,bQ.trans (hb5.mono aeR)⟩
        case measure=> simp [intOf] <;> omega
theorem pI (v:Value) (X:Int) (n:Nat) (hn:n<=1000) (hX:0<=X/\X<256 ^ n) (w:World) (hv:Rd .u8 w v n (dg 256 X)):
  Calls Tryz.prog 188 #[v] w fun e w'=>
   ∃v,e=.returned v/\Own .i64 3 w.heap.size w' v ((n+1) / 2) (dg 65536 X)/\Below w.heap.size w w':=by
 obtain ⟨a1,c1,rfl,l1,m1,z1,h1⟩:=hv;have H1:=ak h1;have HX:=ak hX;clear z1 h1 hX
 go_enter Tryz.func188,Tryz.ntmps188
 go_wp2
 go_loopw [3,4] (fun v i wr=> ∃j:Nat,j<=(n+1) / 2/\i=.int .i64 (2 * j:Nat)/\Own .i64 3 w.heap.size wr v j (dg 65536 X)/\Below w.heap.size w wr) (fun _ i _=> n+1 - (intOf i).toNat)
 case atStart=> exact ⟨0,dR _,rfl,Own.nil _ _ _ _ _,bA _ _⟩
 case round=>
  obtain ⟨j,hj,rfl,ho,hbel⟩:=hrel;have HO:=ak ho;have hsz:=hbel.size;clear ho;by_cases hlt:2 * j<n
  ·obtain ⟨b,off,rfl,s1,hcell⟩:=H1.out (by omega);have e0:=(hbel.cell (p:=⟨b,off+2 * j,none⟩) s1).trans (hcell (2 * j) hlt);obtain ⟨p0,p0'⟩:=aN (by decide:(0:Int)<256) X (2 * j);obtain ⟨p1,p1'⟩:=aN (by decide:(0:Int)<256) X (2 * j+1);have hp:=zK X j;have HP:Hid (dg 256 X (2 * j)+256 * dg 256 X (2 * j+1)=dg 65536 X j):=by unfold Hid;omega
   clear hp;by_cases hlt2:2 * j+1<n
   ·have e1:=(hbel.cell (p:=⟨b,off+(2 * j+1),none⟩) s1).trans (hcell (2 * j+1) hlt2);clear hcell;go_wp2_with (at_builtin;refine bC rfl _ _ 142 rfl w.heap.size 3 .i64 8 AP yH _ j (dg 65536 X) _ _ rfl HO.out rfl 1 rfl rfl ?_ (by omega) (by omega) (by omega) ?_;rotate_right;intro v' w1 hown hgrow)
    ·go_roundw
     case rel=> exact ⟨j+1,by omega,by go_num,hown,below_grown (hbel.alloc hsz _) hgrow HO.out (by simp;omega) (by omega)⟩
     case measure=> simp [intOf] <;> omega
    ·intro i hi;exact ig hi (by rw [show j+i=j by omega];exact HP.out)
   ·have hz:Hid (dg 256 X (2 * j+1)=0):=UR HX.out (by omega);clear hcell;go_wp2_with (at_builtin;refine bC rfl _ _ 142 rfl w.heap.size 3 .i64 8 AP yH _ j (dg 65536 X) _ _ rfl HO.out rfl 1 rfl rfl ?_ (by omega) (by omega) (by omega) ?_;rotate_right;intro v' w1 hown hgrow)
    ·go_roundw
     case rel=> exact ⟨j+1,by omega,by go_num,hown,below_grown (hbel.alloc hsz _) hgrow HO.out (by simp;omega) (by omega)⟩
     case measure=> simp [intOf] <;> omega
    ·intro i hi;exact ig hi (by rw [show j+i=j by omega];have:=HP.out;have:=hz.out;omega)
  ·obtain rfl:j=(n+1) / 2:=by omega
   go_wp2;go_ret;exact ⟨_,rfl,HO.out,hbel⟩
theorem Pf (va vb:Value) (A B:Int) (w:World) (ha:Rd .i64 w va 10 (dg 65536 A)) (hb:Rd .i64 w vb 10 (dg 65536 B)) (hS:0<=A+B/\A+B<65536 ^ 10):
  Calls Tryz.prog 191 #[va,vb] w fun e w'=>
   ∃v,e=.returned v/\Rd .i64 w' v 10 (dg 65536 ((A+B) % PP))/\Below w.heap.size w w':=by
 obtain ⟨xa,xc,rfl,xl,xm,xz,xh⟩:=ha;obtain ⟨ya,yc,rfl,yl,ym,yz,yh⟩:=hb;obtain ⟨xb,xo,rfl,xs,xe⟩:=xh (by decide);obtain ⟨yb,yo,rfl,ys,ye⟩:=yh (by decide);have XE:=ak xe;have YE:=ak ye;have HT:=ak hS;clear xz yz xe ye xh yh hS
 go_enter Tryz.func191,Tryz.ntmps191
 go_wp2
 go_loopw [5,6,7] (fun v c i wr=> ∃(k:Nat) (z:Int),k<=10/\z=Aq A B k/\0<=z/\z<=1/\c=.int .i64 z/\i=.int .i64 k/\Own .i64 3 w.heap.size wr v k (dg 65536 (A+B))/\Below w.heap.size w wr) (fun _ _ i _=> 10 - (intOf i).toNat)
 case atStart=> exact ⟨0,0,dR _,(wP _ _).symm,by decide,by decide,rfl,rfl,Own.nil _ _ _ _ _,bA _ _⟩
 case round=>
  obtain ⟨k,z,hk,hz,z0,z1,rfl,rfl,ho,hbel⟩:=hrel;have HZ:=ak hz;have HO:=ak ho;clear hz ho;have hsz:=hbel.size;by_cases hlt:k<10
  ·have c1:=(hbel.cell (p:=⟨xb,xo+k,none⟩) xs).trans (XE.out k hlt);have c2:=(hbel.cell (p:=⟨yb,yo+k,none⟩) ys).trans (YE.out k hlt);obtain ⟨x0,x1⟩:=aN (by decide:(0:Int)<65536) A k;obtain ⟨y0,y1⟩:=aN (by decide:(0:Int)<65536) B k;have u1:=aR (x:=dg 65536 A k+dg 65536 B k) (by omega) (by omega);have u2:=aR (x:=dg 65536 A k+dg 65536 B k+z) (by omega) (by omega);have hst:=wQ A B k;rw [<-HZ.out] at hst;have HST:=ak hst;clear hst;go_wp2
   go_quiet (fail)
   clear u1 u2;go_wp2_with (at_builtin;refine bC rfl _ _ 142 rfl w.heap.size 3 .i64 8 AP yH _ k (dg 65536 (A+B)) _ _ rfl (HO.out.drewN _) rfl 1 rfl rfl ?_ (by omega) (by omega) hsz ?_;rotate_right;intro v' w1 hown hgrow)
   ·go_roundw
    case rel=> exact ⟨k+1,_,by omega,HST.out.2,by omega,by omega,rfl,by go_num,hown,below_grown ((below_drewN hbel _).alloc hsz _) hgrow HO.out (by simp;omega) (aP _)⟩
    case measure=> simp [intOf] <;> omega
   ·intro i hi;exact ig hi (by rw [show k+i=k by omega];exact HST.out.1)
  ·obtain rfl:k=10:=by omega
   go_wp2_with fail;refine (rG _ (A+B) 10 (by omega) HT.out _ HO.out.rd).mono ?_;rintro e w6 ⟨v6,rfl,hv6,hb6⟩;have HV6:=ak hv6;clear hv6;go_wp2;go_ret;exact ⟨_,rfl,HV6.out,hbel.trans (hb6.mono hsz)⟩
theorem Pd (va vb:Value) (A B:Int) (w:World) (ha:Rd .i64 w va 10 (dg 65536 A)) (hb:Rd .i64 w vb 10 (dg 65536 B)) (hA:0<=A/\A<65536 ^ 10) (hB:0<=B/\B<65536 ^ 10):
  Calls Tryz.prog 190 #[va,vb] w fun e w'=>
   ∃v,e=.returned v/\Rd .i64 w' v 10 (dg 65536 (A * B % PP))/\Below w.heap.size w w':=by
 obtain ⟨xa,xc,rfl,xl,xm,xz,xh⟩:=ha;obtain ⟨ya,yc,rfl,yl,ym,yz,yh⟩:=hb;obtain ⟨xb,xo,rfl,xs,xe⟩:=xh (by decide);obtain ⟨yb,yo,rfl,ys,ye⟩:=yh (by decide);have XE:=ak xe;have YE:=ak ye;have HA:=ak hA;have HB:=ak hB;clear xz yz xe ye xh yh hA hB
 go_enter Tryz.func190,Tryz.ntmps190
 go_wp2_with (refine iJ rfl _ _ 142 rfl w.heap.size 3 .i64 8 AP yH .i64 .i64 20 rfl rfl (by decide) (by decide) (aP _) ?_;intro w4 hown hgrow);have hb4:Below w.heap.size w w4:=bU (bA _ _) hgrow (aP _);clear hgrow
 go_loopw [6] (fun i wr=> ∃(k:Nat) (t:Nat->Int),k<=10/\i=.int .i64 k/\iM 10 10 A B t k 0 0/\Own .i64 3 w.heap.size wr (.slice (some ⟨w.heap.size,0,none⟩) 20 20) 20 t/\Below w.heap.size w wr) (fun i _=> 10 - (intOf i).toNat)
 case atStart=> exact ⟨0,_,dR _,rfl,iM.zero _ _ _ _,hown,hb4⟩
 case round=>
  obtain ⟨i,t,hi,rfl,hM,ho,hbel⟩:=hrel;have HM:=ak hM;have HO:=ak ho;clear hM ho;by_cases hlt:i<10
  ·have fC:=ak hbel;clear hbel;go_wp2
   go_loopw [7,8] (fun c j wr=> ∃(k:Nat) (z:Int) (t:Nat->Int),k<=10/\0<=z/\z<65536/\c=.int .i64 z/\j=.int .i64 k/\iM 10 10 A B t i k z/\Own .i64 3 w.heap.size wr (.slice (some ⟨w.heap.size,0,none⟩) 20 20) 20 t/\Below w.heap.size w wr) (fun _ j _=> 10 - (intOf j).toNat)
   case atStart=> exact ⟨0,0,t,dR _,by decide,by decide,rfl,rfl,HM.out,HO.out,fC.out⟩
   case round=>
    clear HM HO fC;obtain ⟨k,z,t,hk,z0,z1,rfl,rfl,hM,ho,hbel⟩:=hrel;have HM:=ak hM;have HO:=ak ho;clear hM ho;obtain ⟨g',cc',he,_,_,_,_,hcell,hfree⟩:=HO.out.form (by decide);simp only [Value.slice.injEq,Option.some.injEq,Addr.mk.injEq] at he;obtain ⟨⟨rfl,q1⟩,q2⟩:=he;clear q1 q2;by_cases hkt:k<10
    ·have e1:=hcell (i+k) (by omega);have f1:=hfree (i+k);have c1:=(hbel.cell (p:=⟨xb,xo+i,none⟩) xs).trans (XE.out i hlt);have c2:=(hbel.cell (p:=⟨yb,yo+k,none⟩) ys).trans (YE.out k hkt);obtain ⟨m0,m1,m2,m3,m4,m5⟩:=HM.out.bound;have HST:=ak (HM.out.step hlt hkt);have MX:=ak (HST.out.2.2);have t0:=(HM.out.1 (i+k)).1;have t1:=(HM.out.1 (i+k)).2;obtain ⟨x0,x1⟩:=aN (by decide:(0:Int)<65536) A i;obtain ⟨y0,y1⟩:=aN (by decide:(0:Int)<65536) B k;clear hcell hfree;have i0:(0:Int)<=(i:Int)+k:=by omega
     have i1:(i:Int)+k<20:=by omega
     have i2:((i:Int)+k).toNat=i+k:=by omega
     have u0:=aR (x:=(i:Int)+k) (by omega) (by omega);have u1:=aR (x:=dg 65536 A i * dg 65536 B k) (by omega) (by omega);have u2:=aR (x:=t (i+k)+dg 65536 A i * dg 65536 B k) (by omega) (by omega);have u3:=aR (x:=t (i+k)+dg 65536 A i * dg 65536 B k+z) (by omega) (by omega);go_wp2
     go_quiet (fail)
     clear u1 u2 u3 u0;go_wp2;go_roundw
     case rel=> exact ⟨k+1,_,_,by omega,MX.out.1,MX.out.2.1,rfl,by go_num,HST.out,(HO.out.drewN _).store (i+k) _,(below_drewN hbel _).setCell (aP _) _⟩
     case measure=> simp [intOf] <;> omega
    ·obtain rfl:k=10:=by omega
     obtain ⟨r0,r1⟩:=HM.out.row hlt HB.out;have R0:=ak r0;have R1:=ak r1;have e1:=hcell (i+10) (by omega);have f1:=hfree (i+10);rw [R0.out] at e1;clear hcell hfree r0 r1;go_wp2;go_roundw
     case rel=> exact ⟨i+1,_,by omega,by go_num,R1.out,by rw [R0.out];have:=HO.out.store (i+10) z;rwa [show (0:Int)+z=z by omega],hbel.setCell (aP _) _⟩
     case measure=> simp [intOf] <;> omega
  ·obtain rfl:i=10:=by omega
   have hr:=(HO.out.congr (HM.out.done HA.out)).rd;have HR:=ak hr;have hs:=hbel.size;clear hr;go_wp2_with fail;refine (rG _ (A * B) 20 (by omega) (CO HA.out HB.out) _ HR.out).mono ?_;rintro e w6 ⟨v6,rfl,hv6,hb6⟩;have HV6:=ak hv6;clear hv6;go_wp2;go_ret;exact ⟨_,rfl,HV6.out,hbel.trans (hb6.mono hs)⟩
end Go.Proofs.YtpcjekgfnfjbpaaGreat
