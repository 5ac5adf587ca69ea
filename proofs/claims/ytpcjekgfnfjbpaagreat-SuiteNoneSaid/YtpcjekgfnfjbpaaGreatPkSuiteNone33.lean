/-
  Part 33 of SuiteNone. Conditions: named in each theorem.
-/
import Derived.Test.YtpcjekgfnfjbpaaGreatPkSuiteNone32
import Derived.Test.YtpcjekgfnfjbpaaGreatPkSuiteNone16
import Derived.Test.YtpcjekgfnfjbpaaGreatPkSuiteNone22
import Derived.Test.YtpcjekgfnfjbpaaGreatPkSuiteNone23
import Derived.Deep.Cut
set_option linter.unusedVariables false
set_option linter.unusedSimpArgs false
set_option maxRecDepth 100000
set_option maxHeartbeats 3200000
namespace Go.bI
def st0 (c:Int):Nat->Int:=fun i=> if i=0 then 1634760805 else if i=1 then 857760878 else if i=2 then 2036477234 else if i=3 then 1797285236 else if i=12 then c else 0
theorem abC (key nonce:Nat->Int) (c:Int) (i:Nat) (hi:i<16):laid (laid (st0 c) 4 8 (wd key)) 13 3 (wd nonce) i=XB key nonce c i:=by
 unfold laid st0 XB;rcases (by omega:i=0\/i=1\/i=2\/i=3\/(4<=i/\i<12)\/i=12\/(13<=i/\i<16)) with rfl | rfl | rfl | rfl | h | rfl | h
 ·simp
 ·simp
 ·simp
 ·simp
 ·rw [if_neg (by omega),if_pos (by omega),if_neg (by omega),if_neg (by omega),if_neg (by omega),if_neg (by omega),if_pos (by omega)]
 ·simp
 ·rw [if_pos (by omega),if_neg (by omega),if_neg (by omega),if_neg (by omega),if_neg (by omega),if_neg (by omega),if_neg (by omega)]
end Go.bI
namespace Go.Proofs.YtpcjekgfnfjbpaaGreat
open Go.RowKit Go.bI
attribute [local go_sem ↓] Go.wp_at_zero Go.wp_at_succ
theorem Oz (f:Nat->Int) (j:Nat):wY f j=wd f j:=by unfold wY wd;omega
theorem Rq {a:Act} (c:Int) (t:Nat) (ht:a.eval (.tmp t)=.int .u32 c) (w:World):(Instr.build 262 ((#[(0,Operand.const (.int .u32 1634760805)),(1,Operand.const (.int .u32 857760878)),(2,Operand.const (.int .u32 2036477234)),(3,Operand.const (.int .u32 1797285236)),(12,Operand.tmp t)] :Array (Nat × Operand)).map fun (i,x)=> (i,a.eval x))).run Tryz.prog w=.ok (.agg (arr .u32 16 (st0 c))) w:=by
 simp only [uG,List.map_nil,List.map_cons,ht];rw [Go.run_build w _ _ (arr .u32 16 (st0 c)) (by kernel_rfl)]
theorem PG (key nonce:Nat->Int) (c:Int) (hk:∀i,i<32->0<=key i/\key i<256) (hn:∀i,i<12->0<=nonce i/\nonce i<256) (w:World):
  Calls Tryz.prog 229 #[.agg (arr .u8 32 key),.agg (arr .u8 12 nonce),.int .u32 c] w fun e w'=> e=.returned (.agg (arr .u32 16 (XB key nonce c)))/\Below w.heap.size w w':=by
 have HK:=ak hk;have HN:=ak hn;clear hk hn
 go_enter Tryz.func229,Tryz.ntmps229
 go_upto_region 2 with (first
  | (refine dV rfl (dL rfl (Rq c _ rfl _)) ?_)
  | (refine aF rfl 262 _ _ rfl .u32 (w.heap.size+3) 16 (fun _=> 0) _ Tryz.size262 rfl rfl (bG (by simp) (by rfl)) ?_))
 refine aG (fun w1=> aH .u8 w1 w.heap.size 32 key/\aH .u8 w1 (w.heap.size+1) 12 nonce/\aH .u32 w1 (w.heap.size+2) 16 (fun _=> 0)/\aH .u32 w1 (w.heap.size+3) 16 (st0 c)/\Below w.heap.size w w1)
  ⟨aH.aC (aH.alloc (aH.alloc (aH.alloc (bG rfl rfl) _) _) _) _ (by omega) _,aH.aC (aH.alloc (aH.alloc (bG (by simp) rfl) _) _) _ (by omega) _,aH.aC (aH.alloc (bG (by simp) (by rfl)) _) _ (by omega) _,aH.setRow (bG (n:=16) (f:=fun _=> 0) (by simp) (by rfl)) _ _,aA (((((bM _ _).alloc (bB _) _).alloc (by simp) _).alloc (by simp;omega) _).alloc (by simp;omega) _) (by omega) _⟩ ?_
 rintro w1 ⟨hK,hN,hZ,hS,hbel⟩;go_wp2_with fail;refine (zI _ 8 key _ (hK.rd (by decide)) (fun i hi=> HK.out i (by omega)) (by decide)).mono ?_;rintro e w2 ⟨v,rfl,hv,hb2⟩;have OJ:=hN.kept hb2;have hZ2:=hZ.kept hb2;have hS2:=hS.kept hb2;have dG:=hbel.trans (hb2.mono hbel.size);have HV:=ak hv.rd;clear hK hN hZ hS hbel hb2 hv;go_wp2_with fail;refine (zI _ 3 nonce _ (OJ.rd (by decide)) (fun i hi=> HN.out i (by omega)) (by decide)).mono ?_;rintro e w3 ⟨u,rfl,hu,hb3⟩;have hZ3:=hZ2.kept hb3;have hS3:=hS2.kept hb3;have dQ:=dG.trans (hb3.mono dG.size);have Xp:=ak (HV.out.below hb3);have HU3:=ak hu;have hs2:w.heap.size+3<w2.heap.size:=hS2.lt;clear OJ hZ2 hS2 dG hb3 hu HV;go_upto_region 5 with (refine lu rfl _ _ 223 223 rfl (w.heap.size+3) 4 12 12 16 (st0 c) Tryz.underlying223 Tryz.size117 rfl hS3 _ 8 (wY key) Xp.out rfl (by decide) (by decide) ?_);have HU4:=ak (HU3.out.setRow hs2 (arr .u32 16 (laid (st0 c) 4 8 (wY key)))).rd;go_upto_region 6 with (refine lu rfl _ _ 223 223 rfl (w.heap.size+3) 13 3 3 16 _ Tryz.underlying223 Tryz.size117 rfl (hS3.setRow _ _) _ 3 (wY nonce) HU4.out rfl (by decide) (by decide) ?_)
 refine aG (fun w4=> aH .u32 w4 (w.heap.size+2) 16 (fun _=> 0)/\aH .u32 w4 (w.heap.size+3) 16 (XB key nonce c)/\Below w.heap.size w w4)
  ⟨aH.aC (aH.aC hZ3 _ (by omega) _) _ (by omega) _,(aH.setRow (hS3.setRow 16 (laid (st0 c) 4 8 (wY key))) _ _).congr (fun i hi=> by rw [show wY key=wd key from funext (Oz key),show wY nonce=wd nonce from funext (Oz nonce)];exact abC key nonce c i hi),aA (aA dQ (by omega) _) (by omega) _⟩ ?_
 rintro w4 ⟨ny,hS4,fC⟩;clear hZ3 hS3 dQ HU3 HU4 Xp
 go_wp2_with (first
  | (refine aM rfl 262 _ rfl .u32 (w.heap.size+3) 16 _ 117 Tryz.underlying262 Tryz.size262 rfl hS4 ?_)
  | (refine aF rfl 262 _ _ rfl .u32 (w.heap.size+2) 16 (fun _=> 0) _ Tryz.size262 rfl rfl ny ?_))
 exact bodyPost_ret (aZ rfl _ _ .u32 (w.heap.size+2) 16 _ 117 rfl (ny.setRow _ _) Tryz.underlying262 Tryz.size262) rfl ⟨rfl,aA fC (by omega) _⟩
theorem SV (S:Nat->Int) (a b c d:Nat) (h:a≠b/\a≠c/\a≠d/\b≠c/\b≠d/\c≠d) (i:Nat):
  upd (upd (upd (upd S a (qA (S a) (S b) (S c) (S d))) b (qB (S a) (S b) (S c) (S d))) c (qC (S a) (S b) (S c) (S d))) d (qD (S a) (S b) (S c) (S d)) i=qrF S a b c d i:=by
 obtain ⟨n1,n2,n3,n4,n5,n6⟩:=h;unfold upd qrF;by_cases ea:i=a
 ·subst ea;rw [if_neg n3,if_neg n2,if_neg n1,if_pos rfl,if_pos rfl]
 ·by_cases eb:i=b
  ·subst eb;rw [if_neg n5,if_neg n4,if_pos rfl,if_neg ea,if_pos rfl]
  ·by_cases ec:i=c
   ·subst ec;rw [if_neg n6,if_pos rfl,if_neg ea,if_neg eb,if_pos rfl]
   ·by_cases ed:i=d
    ·subst ed;rw [if_pos rfl,if_neg ea,if_neg eb,if_neg ec,if_pos rfl]
    ·rw [if_neg ed,if_neg ec,if_neg eb,if_neg ea,if_neg ea,if_neg eb,if_neg ec,if_neg ed]
theorem Hg (a b c d:Int) (ha:0<=a/\a<4294967296) (hb:0<=b/\b<4294967296) (hc:0<=c/\c<4294967296) (hd:0<=d/\d<4294967296) (w:World):
  Calls Tryz.prog 230 #[.int .u32 a,.int .u32 b,.int .u32 c,.int .u32 d] w fun e w'=> e=.returned (.tuple #[.int .u32 (qA a b c d),.int .u32 (qB a b c d),.int .u32 (qC a b c d),.int .u32 (qD a b c d)])/\Below w.heap.size w w':=
 (KY a b c d ha hb hc hd w).mono fun _ _ ⟨h1,h2⟩=> ⟨h1,h2▸bM _ _⟩
theorem yI (key nonce:Nat->Int) (c:Int) (hk:∀i,i<32->0<=key i/\key i<256) (hn:∀i,i<12->0<=nonce i/\nonce i<256) (hc:0<=c/\c<4294967296) (w:World):
  Calls Tryz.prog 181 #[.agg (arr .u8 32 key),.agg (arr .u8 12 nonce),.int .u32 c] w fun e w'=> e=.returned (.agg (arr .u8 64 (rJ key nonce c)))/\Below w.heap.size w w':=by
 have HST:=ak (PG key nonce c hk hn);obtain ⟨S,hS⟩:∃S,S=XB key nonce c:=⟨_,rfl⟩
 have BN:Hid (∀i,i<16->0<=S i/\S i<4294967296):=by rw [hS];exact QD hk hn hc
 rw [<-hS] at HST;have HSE:=ak hS;have Xx:Hid (∀r j i,i<16->0<=QZ (Lh S r) j i/\QZ (Lh S r) j i<4294967296):=fun r j=> xC (wS BN.out r) j;clear hk hn hS
 go_enter Tryz.func181,Tryz.ntmps181
 go_wp2_with (first
  | (refine aM rfl 22 _ rfl .u8 w.heap.size 32 _ 5 dU dz rfl (aH.alloc (aH.alloc (bG rfl rfl) _) _) ?_)
  | (refine aM rfl 35 _ rfl .u8 (w.heap.size+1) 12 _ 5 Tryz.underlying35 Tryz.size35 rfl (aH.alloc (bG (by simp) rfl) _) ?_))
 refine (HST.out _).mono ?_;rintro e w1 ⟨rfl,hb1⟩;have hZ1:aH .u8 w1 (w.heap.size+2) 64 (fun _=> 0):=aH.kept (bG (by simp) (by rfl)) hb1;have iC:Below w.heap.size w w1:=((((bM _ _).alloc (bB _) _).alloc (by simp) _).alloc (by simp;omega) _).trans (hb1.mono (by simp;omega));have s1:=iC.size;have z1:=hZ1.lt;clear hb1;go_upto_region 2 with (refine aF rfl 262 _ _ rfl .u32 w1.heap.size 16 (fun _=> 0) _ Tryz.size262 rfl rfl (bG rfl (by rfl)) ?_)
 refine aG (fun w2=> aH .u8 w2 (w.heap.size+2) 64 (fun _=> 0)/\aH .u32 w2 w1.heap.size 16 S/\Below w.heap.size w w2/\w2.heap.size=w1.heap.size+1)
  ⟨aH.aC (aH.alloc hZ1 _) _ (by omega) _,aH.setRow (bG (n:=16) (f:=fun _=> 0) rfl (by rfl)) _ _,aA (iC.alloc s1 _) s1 _,by rw [setRow_size];simp⟩ ?_
 rintro w2 ⟨hZ2,hS2,dG,hsz2⟩;obtain ⟨A,hA⟩:∃A,A=w1.heap.size:=⟨_,rfl⟩
 rw [<-hA] at hS2 hsz2 s1 z1 ⊢;have La:=ak hsz2;clear hZ1 iC hA hsz2
 go_upto_region 3 with (first
  | (refine aM rfl 262 _ rfl .u32 A 16 _ 117 Tryz.underlying262 Tryz.size262 rfl hS2 ?_)
  | (refine aF rfl 262 _ _ rfl .u32 w2.heap.size 16 (fun _=> 0) _ Tryz.size262 rfl rfl (bG rfl (by rfl)) ?_))
 refine aG (fun w3=> aH .u8 w3 (w.heap.size+2) 64 (fun _=> 0)/\aH .u32 w3 A 16 S/\aH .u32 w3 w2.heap.size 16 S/\Below w.heap.size w w3)
  ⟨aH.aC (aH.alloc hZ2 _) _ (by have:=La.out;omega) _,aH.aC (aH.alloc hS2 _) _ (by have:=La.out;omega) _,aH.setRow (bG (n:=16) (f:=fun _=> 0) rfl (by rfl)) _ _,aA (dG.alloc dG.size _) dG.size _⟩ ?_
 rintro w3 ⟨hZ3,hS3,hW3,dQ⟩;rw [La.out] at hW3 ⊢;clear hZ2 hS2 dG La;simp only [Act.put];go_wp2
 go_loopw [20] (fun i wr=> ∃r:Nat,r<=10/\i=.int .i64 r/\aH .u8 wr (w.heap.size+2) 64 (fun _=> 0)/\aH .u32 wr A 16 S/\aH .u32 wr (A+1) 16 (Lh S r)/\Below w.heap.size w wr) (fun i _=> 10 - (intOf i).toNat)
 case atStart=> exact ⟨0,je _,rfl,hZ3,hS3,hW3,dQ⟩
 case round=>
  clear hZ3 hS3 hW3 dQ;obtain ⟨r,hr,rfl,hZ,hA,hW,hbel⟩:=hrel;by_cases hlt:r<10
  ·have HZ:=ak hZ;have HA:=ak hA;have HW:=ak hW;have HB:=ak hbel;clear hZ hA hW hbel;go_wp2
   go_loopw [22] (fun i wr=> ∃s:Nat,s<=2/\i=.int .i64 s/\aH .u8 wr (w.heap.size+2) 64 (fun _=> 0)/\aH .u32 wr A 16 S/\aH .u32 wr (A+1) 16 (QZ (Lh S r) (4 * s))/\Below w.heap.size w wr) (fun i _=> 2 - (intOf i).toNat)
   case atStart=> exact ⟨0,je _,rfl,HZ.out,HA.out,HW.out,HB.out⟩
   case round=>
    clear HZ HA HW HB;obtain ⟨s,hs,rfl,hZ,hA,hW,hbel⟩:=hrel;have HZ:=ak hZ;have HA:=ak hA;have HW:=ak hW;have HB:=ak hbel;clear hZ hA hW hbel;by_cases hst:s<2
    ·go_wp2
     go_loopw [25] (fun i wr=> ∃j:Nat,j<=4/\i=.int .i64 j/\aH .u8 wr (w.heap.size+2) 64 (fun _=> 0)/\aH .u32 wr A 16 S/\aH .u32 wr (A+1) 16 (QZ (Lh S r) (4 * s+j))/\Below w.heap.size w wr) (fun i _=> 4 - (intOf i).toNat)
     case atStart=> exact ⟨0,je _,rfl,HZ.out,HA.out,HW.out,HB.out⟩
     case round=>
      clear HZ HA HW HB;obtain ⟨j,hj,rfl,hZ,hA,hW,hbel⟩:=hrel;by_cases hjt:j<4
      ·have HZ:=ak hZ;have HA:=ak hA;have HW:=ak hW;have HB:=ak hbel;clear hZ hA hW hbel;go_upto_region 12 with (fail);obtain ⟨jb,hjb⟩:∃n:Nat,n=4+(j+s) % 4:=⟨_,rfl⟩
       obtain ⟨jc,hjc⟩:∃n:Nat,n=8+(j+2 * s) % 4:=⟨_,rfl⟩
       obtain ⟨jd,hjd⟩:∃n:Nat,n=12+(j+3 * s) % 4:=⟨_,rfl⟩
       rw [show (4:Int)+((j:Int)+(s:Int)) % 4=(jb:Int) by omega,show (8:Int)+((j:Int)+2 * (s:Int)) % 4=(jc:Int) by omega,show (12:Int)+((j:Int)+3 * (s:Int)) % 4=(jd:Int) by omega];have l0:j<16:=by omega
       have lb:jb<16:=by omega
       have lc:jc<16:=by omega
       have ld:jd<16:=by omega
       have HNE:Hid (j≠jb/\j≠jc/\j≠jd/\jb≠jc/\jb≠jd/\jc≠jd):=ak (by omega);have HQR:Hid (∀i,qrF (QZ (Lh S r) (4 * s+j)) j jb jc jd i=QZ (Lh S r) (4 * s+(j+1)) i):=ak (by
        rw [hjb,hjc,hjd];rcases (by omega:j=0\/j=1\/j=2\/j=3) with rfl | rfl | rfl | rfl<;> rcases (by omega:s=0\/s=1) with rfl | rfl<;> exact fun _=> rfl)
       clear hjb hjc hjd;have hW:=HW.out;have B0:=Xx.out r (4 * s+j) j l0;have B4:=Xx.out r (4 * s+j) jb lb;have B8:=Xx.out r (4 * s+j) jc lc;have B12:=Xx.out r (4 * s+j) jd ld;obtain ⟨DK,hDK⟩:∃d,d=QZ (Lh S r) (4 * s+j):=⟨_,rfl⟩
       rw [<-hDK] at hW B0 B4 B8 B12 HQR;clear hDK
       refine FC (n:=90) [23,25,27,29] (fun i=> [1,2,3,19,20,21,24,26,28].contains i) (by kernel_rfl) (by kernel_rfl) (by kernel_rfl) (by kernel_rfl) rfl
        (fun ii vv _=> (match ii with | 0 | 4=> vv=.int .i64 ((j:Int)) | 1 | 7=> vv=.int .i64 ((jb:Int)) | 2 | 10=> vv=.int .i64 ((jc:Int)) | 3 | 13=> vv=.int .i64 ((jd:Int)) | 5 | 22=> vv=.pointer (some ⟨A+1,j,none⟩) | 6=> vv=.int .u32 (DK j) | 8 | 24=> vv=.pointer (some ⟨A+1,jb,none⟩) | 9=> vv=.int .u32 (DK jb) | 11 | 26=> vv=.pointer (some ⟨A+1,jc,none⟩) | 12=> vv=.int .u32 (DK jc) | 14 | 28=> vv=.pointer (some ⟨A+1,jd,none⟩) | 15=> vv=.int .u32 (DK jd) | 16 | 17=> vv=.tuple #[.int .u32 (qA (DK j) (DK jb) (DK jc) (DK jd)),.int .u32 (qB (DK j) (DK jb) (DK jc) (DK jd)),.int .u32 (qC (DK j) (DK jb) (DK jc) (DK jd)),.int .u32 (qD (DK j) (DK jb) (DK jc) (DK jd))] | 18=> vv=.int .u32 (qA (DK j) (DK jb) (DK jc) (DK jd)) | 19=> vv=.int .u32 (qB (DK j) (DK jb) (DK jc) (DK jd)) | 20=> vv=.int .u32 (qC (DK j) (DK jb) (DK jc) (DK jd)) | 21=> vv=.int .u32 (qD (DK j) (DK jb) (DK jc) (DK jd)) | _=> True))
        (fun _ _ _ _ h _=> h)
        (fun m ww=> match m with | 0=> ww | 1=> (ww.setCell ⟨A+1,j,none⟩ (.int .u32 (qA (DK j) (DK jb) (DK jc) (DK jd)))) | 2=> ((ww.setCell ⟨A+1,j,none⟩ (.int .u32 (qA (DK j) (DK jb) (DK jc) (DK jd)))).setCell ⟨A+1,jb,none⟩ (.int .u32 (qB (DK j) (DK jb) (DK jc) (DK jd)))) | 3=> (((ww.setCell ⟨A+1,j,none⟩ (.int .u32 (qA (DK j) (DK jb) (DK jc) (DK jd)))).setCell ⟨A+1,jb,none⟩ (.int .u32 (qB (DK j) (DK jb) (DK jc) (DK jd)))).setCell ⟨A+1,jc,none⟩ (.int .u32 (qC (DK j) (DK jb) (DK jc) (DK jd)))) | _=> ((((ww.setCell ⟨A+1,j,none⟩ (.int .u32 (qA (DK j) (DK jb) (DK jc) (DK jd)))).setCell ⟨A+1,jb,none⟩ (.int .u32 (qB (DK j) (DK jb) (DK jc) (DK jd)))).setCell ⟨A+1,jc,none⟩ (.int .u32 (qC (DK j) (DK jb) (DK jc) (DK jd)))).setCell ⟨A+1,jd,none⟩ (.int .u32 (qD (DK j) (DK jb) (DK jc) (DK jd))))) (fun _=> rfl) ?_ ?_ ?_ ?_
       ·refine bQ ?_;refine ⟨?_,(fun _ h=> absurd h (by decide)),(fun _ h=> absurd h (by decide)),(fun _ h=> absurd h (by decide)),?_,?_,?_,?_,?_,?_,?_,?_,?_,?_,?_,?_,?_,?_,?_,(fun _ h=> absurd h (by decide)),(fun _ h=> absurd h (by decide)),(fun _ h=> absurd h (by decide)),?_,(aK),(fun _ h=> absurd h (by decide)),(aK),(fun _ h=> absurd h (by decide)),(aK),(fun _ h=> absurd h (by decide)),(aK),trivial⟩
        ·intro _ _ a w2 hB hF hd;exact aJ <| fq rfl (hF.same 10 rfl)
        ·intro _ _ a w2 hB hF hd;exact aJ <| fq rfl (hF.same 10 rfl)
        ·intro _ _ a w2 hB hF hd;exact aJ <| aO (aQ rfl (hF.same 8 rfl) (hd 4 _ rfl rfl (aj rfl)) Tryz.underlying262 (by kernel_rfl) (by omega) (by omega)) rfl
        ·intro _ _ a w2 hB hF hd;exact aJ <| aO (aU rfl (hd 5 _ rfl rfl (aj rfl)) Tryz.underlying117 ((hW.kept hB).cell j l0)) rfl
        ·intro _ _ a w2 hB hF hd;exact aJ <| fq rfl (hF.same 11 rfl)
        ·intro _ _ a w2 hB hF hd;exact aJ <| aO (aQ rfl (hF.same 8 rfl) (hd 7 _ rfl rfl (aj rfl)) Tryz.underlying262 (by kernel_rfl) (by omega) (by omega)) rfl
        ·intro _ _ a w2 hB hF hd;exact aJ <| aO (aU rfl (hd 8 _ rfl rfl (aj rfl)) Tryz.underlying117 ((hW.kept hB).cell jb lb)) rfl
        ·intro _ _ a w2 hB hF hd;exact aJ <| fq rfl (hF.same 12 rfl)
        ·intro _ _ a w2 hB hF hd;exact aJ <| aO (aQ rfl (hF.same 8 rfl) (hd 10 _ rfl rfl (aj rfl)) Tryz.underlying262 (by kernel_rfl) (by omega) (by omega)) rfl
        ·intro _ _ a w2 hB hF hd;exact aJ <| aO (aU rfl (hd 11 _ rfl rfl (aj rfl)) Tryz.underlying117 ((hW.kept hB).cell jc lc)) rfl
        ·intro _ _ a w2 hB hF hd;exact aJ <| fq rfl (hF.same 13 rfl)
        ·intro _ _ a w2 hB hF hd;exact aJ <| aO (aQ rfl (hF.same 8 rfl) (hd 13 _ rfl rfl (aj rfl)) Tryz.underlying262 (by kernel_rfl) (by omega) (by omega)) rfl
        ·intro _ _ a w2 hB hF hd;exact aJ <| aO (aU rfl (hd 14 _ rfl rfl (aj rfl)) Tryz.underlying117 ((hW.kept hB).cell jd ld)) rfl
        ·intro _ _ a w2 hB hF hd;refine aJ <| aD _ _ _ rfl Tryz.call230 _ (tX (hd 6 _ rfl rfl (aj rfl)) (hd 9 _ rfl rfl (aj rfl)) (hd 12 _ rfl rfl (aj rfl)) (hd 15 _ rfl rfl (aj rfl))) (by simp) ((Hg (DK j) (DK jb) (DK jc) (DK jd) B0 B4 B8 B12 w2).mono ?_);rintro e w3 ⟨rfl,hb⟩;exact ⟨_,rfl,rfl,hb⟩
        ·intro _ _ a w2 hB hF hd;exact aJ <| fq rfl (hd 16 _ rfl rfl (aj rfl))
        ·intro _ _ a w2 hB hF hd;exact aJ <| aO (bD rfl (hd 17 _ rfl rfl (aj rfl)) rfl) rfl
        ·intro _ _ a w2 hB hF hd;exact aJ <| aO (aQ rfl (hF.same 8 rfl) (hd 0 _ rfl rfl (aj rfl)) Tryz.underlying262 (by kernel_rfl) (by omega) (by omega)) rfl
       ·refine bQ ?_;refine ⟨(fun _ h=> absurd h (by decide)),?_,?_,?_,(fun _ h=> absurd h (by decide)),(fun _ h=> absurd h (by decide)),(fun _ h=> absurd h (by decide)),(fun _ h=> absurd h (by decide)),(fun _ h=> absurd h (by decide)),(fun _ h=> absurd h (by decide)),(fun _ h=> absurd h (by decide)),(fun _ h=> absurd h (by decide)),(fun _ h=> absurd h (by decide)),(fun _ h=> absurd h (by decide)),(fun _ h=> absurd h (by decide)),(fun _ h=> absurd h (by decide)),(fun _ h=> absurd h (by decide)),(fun _ h=> absurd h (by decide)),(fun _ h=> absurd h (by decide)),?_,?_,?_,(fun _ h=> absurd h (by decide)),(aK),?_,(aK),?_,(aK),?_,(aK),trivial⟩
        ·intro _ _ a w1 w2 hB hF hd;exact aJ <| wW _ (.inl rfl) (by simp) (hF.same 11 rfl)
        ·intro _ _ a w1 w2 hB hF hd;exact aJ <| wW _ (.inl rfl) (by simp) (hF.same 12 rfl)
        ·intro _ _ a w1 w2 hB hF hd;exact aJ <| wW _ (.inl rfl) (by simp) (hF.same 13 rfl)
        ·intro _ _ a w1 w2 hB hF hd;exact aJ <| mR (fun h=> by cases h) (bD rfl (hd 17 _ rfl rfl (aj rfl)) rfl) rfl
        ·intro _ _ a w1 w2 hB hF hd;exact aJ <| mR (fun h=> by cases h) (bD rfl (hd 17 _ rfl rfl (aj rfl)) rfl) rfl
        ·intro _ _ a w1 w2 hB hF hd;exact aJ <| mR (fun h=> by cases h) (bD rfl (hd 17 _ rfl rfl (aj rfl)) rfl) rfl
        ·intro _ _ a w1 w2 hB hF hd;exact aJ <| mR (fun h=> by cases h) (aQ rfl (hF.same 8 rfl) (hd 1 _ rfl rfl (aj rfl)) Tryz.underlying262 (by kernel_rfl) (by omega) (by omega)) rfl
        ·intro _ _ a w1 w2 hB hF hd;exact aJ <| mR (fun h=> by cases h) (aQ rfl (hF.same 8 rfl) (hd 2 _ rfl rfl (aj rfl)) Tryz.underlying262 (by kernel_rfl) (by omega) (by omega)) rfl
        ·intro _ _ a w1 w2 hB hF hd;exact aJ <| mR (fun h=> by cases h) (aQ rfl (hF.same 8 rfl) (hd 3 _ rfl rfl (aj rfl)) Tryz.underlying262 (by kernel_rfl) (by omega) (by omega)) rfl
       ·intro q o hq ho;rcases (by simp at hq;omega:q=0\/q=1\/q=2\/q=3) with rfl | rfl | rfl | rfl
        ·obtain rfl:=fT ho;intro a w2 K hB hF hd hK;exact iO 117 _ _ rfl rfl (A+1) (j) 16 _ (qA (DK j) (DK jb) (DK jc) (DK jd)) Tryz.size117 (hd 22 _ rfl rfl (aj rfl)) (hd 18 _ rfl rfl (aj rfl)) (hW.kept hB) (by first | decide | omega) hK
        ·obtain rfl:=fT ho;intro a w2 K hB hF hd hK;exact iO 117 _ _ rfl rfl (A+1) (jb) 16 _ (qB (DK j) (DK jb) (DK jc) (DK jd)) Tryz.size117 (hd 24 _ rfl rfl (aj rfl)) (hd 19 _ rfl rfl (aj rfl)) ((hW.kept hB).set (j) (qA (DK j) (DK jb) (DK jc) (DK jd))) (by first | decide | omega) hK
        ·obtain rfl:=fT ho;intro a w2 K hB hF hd hK;exact iO 117 _ _ rfl rfl (A+1) (jc) 16 _ (qC (DK j) (DK jb) (DK jc) (DK jd)) Tryz.size117 (hd 26 _ rfl rfl (aj rfl)) (hd 20 _ rfl rfl (aj rfl)) (((hW.kept hB).set (j) (qA (DK j) (DK jb) (DK jc) (DK jd))).set (jb) (qB (DK j) (DK jb) (DK jc) (DK jd))) (by first | decide | omega) hK
        ·obtain rfl:=fT ho;intro a w2 K hB hF hd hK;exact iO 117 _ _ rfl rfl (A+1) (jd) 16 _ (qD (DK j) (DK jb) (DK jc) (DK jd)) Tryz.size117 (hd 28 _ rfl rfl (aj rfl)) (hd 21 _ rfl rfl (aj rfl)) ((((hW.kept hB).set (j) (qA (DK j) (DK jb) (DK jc) (DK jd))).set (jb) (qB (DK j) (DK jb) (DK jc) (DK jd))).set (jc) (qC (DK j) (DK jb) (DK jc) (DK jd))) (by first | decide | omega) hK
       ·intro a w4 hB hF hS;have ha:=aI rfl rfl hF [_,_,_,_,_,_,_,_,_,_,_,_,_,_,_,_,_,_,_,_,_,_,_,undef,_,undef,_,undef,_,undef] rfl ⟨hS 0 _ rfl rfl,hS 1 _ rfl rfl,hS 2 _ rfl rfl,hS 3 _ rfl rfl,hS 4 _ rfl rfl,hS 5 _ rfl rfl,hS 6 _ rfl rfl,hS 7 _ rfl rfl,hS 8 _ rfl rfl,hS 9 _ rfl rfl,hS 10 _ rfl rfl,hS 11 _ rfl rfl,hS 12 _ rfl rfl,hS 13 _ rfl rfl,hS 14 _ rfl rfl,hS 15 _ rfl rfl,hS 16 _ rfl rfl,hS 17 _ rfl rfl,hS 18 _ rfl rfl,hS 19 _ rfl rfl,hS 20 _ rfl rfl,hS 21 _ rfl rfl,hS 22 _ rfl rfl,trivial,hS 24 _ rfl rfl,trivial,hS 26 _ rfl rfl,trivial,hS 28 _ rfl rfl,trivial,trivial⟩;simp only [puts,Act.put,dH,dI,dJ] at ha;subst ha;have VA:=(((((hW.kept hB).set (j) (qA (DK j) (DK jb) (DK jc) (DK jd))).set (jb) (qB (DK j) (DK jb) (DK jc) (DK jd))).set (jc) (qC (DK j) (DK jb) (DK jc) (DK jd))).set (jd) (qD (DK j) (DK jb) (DK jc) (DK jd)))
        clear hS hF;have ny:=(((((HZ.out.kept hB).other (p:=⟨A+1,j,none⟩) (by simp;omega) (.int .u32 (qA (DK j) (DK jb) (DK jc) (DK jd)))).other (p:=⟨A+1,jb,none⟩) (by simp;omega) (.int .u32 (qB (DK j) (DK jb) (DK jc) (DK jd)))).other (p:=⟨A+1,jc,none⟩) (by simp;omega) (.int .u32 (qC (DK j) (DK jb) (DK jc) (DK jd)))).other (p:=⟨A+1,jd,none⟩) (by simp;omega) (.int .u32 (qD (DK j) (DK jb) (DK jc) (DK jd))))
        have wJ:=(((((HA.out.kept hB).other (p:=⟨A+1,j,none⟩) (by simp) (.int .u32 (qA (DK j) (DK jb) (DK jc) (DK jd)))).other (p:=⟨A+1,jb,none⟩) (by simp) (.int .u32 (qB (DK j) (DK jb) (DK jc) (DK jd)))).other (p:=⟨A+1,jc,none⟩) (by simp) (.int .u32 (qC (DK j) (DK jb) (DK jc) (DK jd)))).other (p:=⟨A+1,jd,none⟩) (by simp) (.int .u32 (qD (DK j) (DK jb) (DK jc) (DK jd))))
        have hb4:=(((((HB.out.trans (hB.mono HB.out.size)).setCell (p:=⟨A+1,j,none⟩) (by simp;omega) (.int .u32 (qA (DK j) (DK jb) (DK jc) (DK jd)))).setCell (p:=⟨A+1,jb,none⟩) (by simp;omega) (.int .u32 (qB (DK j) (DK jb) (DK jc) (DK jd)))).setCell (p:=⟨A+1,jc,none⟩) (by simp;omega) (.int .u32 (qC (DK j) (DK jb) (DK jc) (DK jd)))).setCell (p:=⟨A+1,jd,none⟩) (by simp;omega) (.int .u32 (qD (DK j) (DK jb) (DK jc) (DK jd))))
        have hW4:=VA.congr (g:=QZ (Lh S r) (4 * s+(j+1))) (fun i _=> (SV DK j jb jc jd HNE.out i).trans (HQR.out i));clear VA hW hB;go_upto_region 13 with (fail);refine aG (fun w5=> aH .u8 w5 (w.heap.size+2) 64 (fun _=> 0)/\aH .u32 w5 A 16 S/\aH .u32 w5 (A+1) 16 (QZ (Lh S r) (4 * s+(j+1)))/\Below w.heap.size w w5) ⟨ny,wJ,hW4,hb4⟩ ?_;rintro w5 ⟨nG,uz,hW5,hb5⟩;clear ny wJ hW4 hb4 HZ HA HW HB;go_wp2;go_roundw
        case rel=> exact ⟨j+1,by omega,by go_num,nG,uz,hW5,hb5⟩
        case measure=> simp [intOf] <;> omega
      ·obtain rfl:j=4:=by omega
       have HZ:=ak hZ;have HA:=ak hA;have HW:=ak hW;have HB:=ak hbel;clear hZ hA hW hbel;go_wp2;go_roundw
       case rel=> exact ⟨s+1,by omega,by go_num,HZ.out,HA.out,HW.out,HB.out⟩
       case measure=> simp [intOf] <;> omega
    ·obtain rfl:s=2:=by omega
     go_wp2;go_roundw
     case rel=> exact ⟨r+1,by omega,by go_num,HZ.out,HA.out,HW.out,HB.out⟩
     case measure=> simp [intOf] <;> omega
  ·obtain rfl:r=10:=by omega
   have HZ:=ak hZ;have HA:=ak hA;have HW:=ak hW;have HB:=ak hbel;clear hZ hA hW hbel;go_wp2
   go_loopw [74] (fun i wr=> ∃k:Nat,k<=16/\i=.int .i64 k/\aH .u8 wr (w.heap.size+2) 64 (fun _=> 0)/\aH .u32 wr A 16 S/\aH .u32 wr (A+1) 16 (upto k (EH key nonce c) (Lh S 10))/\Below w.heap.size w wr) (fun i _=> 16 - (intOf i).toNat)
   case atStart=> exact ⟨0,je _,rfl,HZ.out,HA.out,by rw [cZ];exact HW.out,HB.out⟩
   case round=>
    clear HZ HA HW HB;obtain ⟨k,hk,rfl,hZ,hA,hW,hbel⟩:=hrel;have HZ:=ak hZ;have HA:=ak hA;have HW:=ak hW;by_cases hkt:k<16
    ·have e1:=hW.cell k hkt;rw [upto_at] at e1;have e2:=hA.cell k hkt;have f1:=hW.free k;obtain ⟨b0,b1⟩:=BN.out k hkt;obtain ⟨b2,b3⟩:=wS BN.out 10 k hkt;have HV:Hid ((Lh S 10 k+S k) % 4294967296=EH key nonce c k):=by unfold Hid EH;rw [HSE.out]
     clear hZ hA hW;go_wp2
     go_region
     all_goals
      go_wp2;go_roundw
      case rel=> exact ⟨k+1,by omega,by go_num,(HZ.out.other (by simp;omega) _).drew,(HA.out.other (by simp) _).drew,by rw [<-bN HV.out];exact (HW.out.set k _).drew,(hbel.setCell (by simp;omega) _).drew⟩
      case measure=> simp [intOf] <;> omega
    ·obtain rfl:k=16:=by omega
     have hW2:=hW.congr (dK _ _ (bB _));clear hW hA;go_wp2_with fail;refine (KM _ 16 (EH key nonce c) _ (hW2.rd (by decide)) (fun i _=> by unfold EH;omega) (by decide)).mono ?_;rintro e w5 ⟨v,rfl,hv,hb5⟩;have nG:=hZ.kept hb5;have fV:=hbel.trans (hb5.mono hbel.size);obtain ⟨g,cc,rfl,q1,q2,q3,q4,hcells,q5⟩:=hv.form (by decide);have Sv:Hid (∀i,i<64->w5.cell? ⟨g,0+i,none⟩=some (.int .u8 (rJ key nonce c i))):=fun i hi=> by rw [pF];exact hcells i (by omega)
     have hat:=kI (a:=some ⟨g,0,none⟩) (len:=64) (cap:=cc) Dh (by decide);clear hv hcells q5 hZ hbel hb5 hW2 HZ HA HW
     go_wp2_with (first
      | (refine oG rfl 47 _ rfl .u8 g 0 64 (rJ key nonce c) 5 Dh Cb rfl Sv.out ?_)
      | (refine aF rfl 47 _ _ rfl .u8 (w.heap.size+2) 64 (fun _=> 0) _ Cb rfl rfl nG ?_))
     exact bodyPost_ret (aZ rfl _ _ .u8 (w.heap.size+2) 64 _ 5 rfl (nG.setRow _ _) Dh Cb) rfl ⟨rfl,aA fV (by omega) _⟩
end Go.Proofs.YtpcjekgfnfjbpaaGreat
