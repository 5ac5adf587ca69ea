/-
  Part 32 of EscrowTake. Conditions: named in each theorem.
-/
import Derived.Test.YtpcjekgfnfjbpaaGreatPkEscrowTake30
import Derived.Test.YtpcjekgfnfjbpaaGreatPkEscrowTake20
import Derived.Test.YtpcjekgfnfjbpaaGreatPkEscrowTake31
import Derived.Test.YtpcjekgfnfjbpaaGreatPkEscrowTake7
import Derived.Test.YtpcjekgfnfjbpaaGreatPkEscrowTake9
import Derived.Deep.Cut
set_option linter.unusedVariables false
set_option linter.unusedSimpArgs false
set_option maxRecDepth 100000
set_option maxHeartbeats 3200000
namespace Go.aZ
def st0 (c:Int):Nat->Int:=fun i=> if i=0 then 1634760805 else if i=1 then 857760878 else if i=2 then 2036477234 else if i=3 then 1797285236 else if i=12 then c else 0
theorem aaG (key nonce:Nat->Int) (c:Int) (i:Nat) (hi:i<16):laid (laid (st0 c) 4 8 (wd key)) 13 3 (wd nonce) i=Ws key nonce c i:=by
 unfold laid st0 Ws;rcases (by omega:i=0\/i=1\/i=2\/i=3\/(4<=i/\i<12)\/i=12\/(13<=i/\i<16)) with rfl | rfl | rfl | rfl | h | rfl | h
 ·simp
 ·simp
 ·simp
 ·simp
 ·rw [if_neg (by omega),if_pos (by omega),if_neg (by omega),if_neg (by omega),if_neg (by omega),if_neg (by omega),if_pos (by omega)]
 ·simp
 ·rw [if_pos (by omega),if_neg (by omega),if_neg (by omega),if_neg (by omega),if_neg (by omega),if_neg (by omega),if_neg (by omega)]
end Go.aZ
namespace Go.Proofs.YtpcjekgfnfjbpaaGreat
open Go.RowKit Go.aZ
attribute [local go_sem ↓] Go.wp_at_zero Go.wp_at_succ
theorem Nb (f:Nat->Int) (j:Nat):vO f j=wd f j:=by unfold vO wd;omega
theorem PZ {a:Act} (c:Int) (t:Nat) (ht:a.eval (.tmp t)=.int .u32 c) (w:World):(Instr.build 262 ((#[(0,Operand.const (.int .u32 1634760805)),(1,Operand.const (.int .u32 857760878)),(2,Operand.const (.int .u32 2036477234)),(3,Operand.const (.int .u32 1797285236)),(12,Operand.tmp t)] :Array (Nat × Operand)).map fun (i,x)=> (i,a.eval x))).run Tryz.prog w=.ok (.agg (arr .u32 16 (st0 c))) w:=by
 simp only [vg,List.map_nil,List.map_cons,ht];rw [Go.run_build w _ _ (arr .u32 16 (st0 c)) (by kernel_rfl)]
theorem Oh (key nonce:Nat->Int) (c:Int) (hk:∀i,i<32->0<=key i/\key i<256) (hn:∀i,i<12->0<=nonce i/\nonce i<256) (w:World):
  Calls Tryz.prog 229 #[.agg (arr .u8 32 key),.agg (arr .u8 12 nonce),.int .u32 c] w fun e w'=> e=.returned (.agg (arr .u32 16 (Ws key nonce c)))/\Below w.heap.size w w':=by
 have HK:=ak hk;have HN:=ak hn;clear hk hn
 go_enter Tryz.func229,Tryz.ntmps229
 go_upto_region 2 with (first
  | (refine eB rfl (eD rfl (PZ c _ rfl _)) ?_)
  | (refine aG rfl 262 _ _ rfl .u32 (w.heap.size+3) 16 (fun _=> 0) _ Tryz.size262 rfl rfl (bM (by simp) (by rfl)) ?_))
 refine aD (fun w1=> aF .u8 w1 w.heap.size 32 key/\aF .u8 w1 (w.heap.size+1) 12 nonce/\aF .u32 w1 (w.heap.size+2) 16 (fun _=> 0)/\aF .u32 w1 (w.heap.size+3) 16 (st0 c)/\Below w.heap.size w w1)
  ⟨aF.aA (aF.alloc (aF.alloc (aF.alloc (bM rfl rfl) _) _) _) _ (by omega) _,aF.aA (aF.alloc (aF.alloc (bM (by simp) rfl) _) _) _ (by omega) _,aF.aA (aF.alloc (bM (by simp) (by rfl)) _) _ (by omega) _,aF.setRow (bM (n:=16) (f:=fun _=> 0) (by simp) (by rfl)) _ _,ay (((((bN _ _).alloc (bA _) _).alloc (by simp) _).alloc (by simp;omega) _).alloc (by simp;omega) _) (by omega) _⟩ ?_
 rintro w1 ⟨hK,hN,hZ,hS,hbel⟩;go_wp2_with fail;refine (yM _ 8 key _ (hK.rd (by decide)) (fun i hi=> HK.out i (by omega)) (by decide)).mono ?_;rintro e w2 ⟨v,rfl,hv,hb2⟩;have Np:=hN.kept hb2;have hZ2:=hZ.kept hb2;have hS2:=hS.kept hb2;have dG:=hbel.trans (hb2.mono hbel.size);have HV:=ak hv.rd;clear hK hN hZ hS hbel hb2 hv;go_wp2_with fail;refine (yM _ 3 nonce _ (Np.rd (by decide)) (fun i hi=> HN.out i (by omega)) (by decide)).mono ?_;rintro e w3 ⟨u,rfl,hu,hb3⟩;have hZ3:=hZ2.kept hb3;have hS3:=hS2.kept hb3;have dL:=dG.trans (hb3.mono dG.size);have YQ:=ak (HV.out.below hb3);have HU3:=ak hu;have hs2:w.heap.size+3<w2.heap.size:=hS2.lt;clear Np hZ2 hS2 dG hb3 hu HV;go_upto_region 5 with (refine kR rfl _ _ 223 223 rfl (w.heap.size+3) 4 12 12 16 (st0 c) Tryz.underlying223 Tryz.size117 rfl hS3 _ 8 (vO key) YQ.out rfl (by decide) (by decide) ?_);have HU4:=ak (HU3.out.setRow hs2 (arr .u32 16 (laid (st0 c) 4 8 (vO key)))).rd;go_upto_region 6 with (refine kR rfl _ _ 223 223 rfl (w.heap.size+3) 13 3 3 16 _ Tryz.underlying223 Tryz.size117 rfl (hS3.setRow _ _) _ 3 (vO nonce) HU4.out rfl (by decide) (by decide) ?_)
 refine aD (fun w4=> aF .u32 w4 (w.heap.size+2) 16 (fun _=> 0)/\aF .u32 w4 (w.heap.size+3) 16 (Ws key nonce c)/\Below w.heap.size w w4)
  ⟨aF.aA (aF.aA hZ3 _ (by omega) _) _ (by omega) _,(aF.setRow (hS3.setRow 16 (laid (st0 c) 4 8 (vO key))) _ _).congr (fun i hi=> by rw [show vO key=wd key from funext (Nb key),show vO nonce=wd nonce from funext (Nb nonce)];exact aaG key nonce c i hi),ay (ay dL (by omega) _) (by omega) _⟩ ?_
 rintro w4 ⟨oH,hS4,eP⟩;clear hZ3 hS3 dL HU3 HU4 YQ
 go_wp2_with (first
  | (refine aQ rfl 262 _ rfl .u32 (w.heap.size+3) 16 _ 117 Tryz.underlying262 Tryz.size262 rfl hS4 ?_)
  | (refine aG rfl 262 _ _ rfl .u32 (w.heap.size+2) 16 (fun _=> 0) _ Tryz.size262 rfl rfl oH ?_))
 exact bodyPost_ret (bG rfl _ _ .u32 (w.heap.size+2) 16 _ 117 rfl (oH.setRow _ _) Tryz.underlying262 Tryz.size262) rfl ⟨rfl,ay eP (by omega) _⟩
theorem Rc (S:Nat->Int) (a b c d:Nat) (h:a≠b/\a≠c/\a≠d/\b≠c/\b≠d/\c≠d) (i:Nat):
  upd (upd (upd (upd S a (qA (S a) (S b) (S c) (S d))) b (qB (S a) (S b) (S c) (S d))) c (qC (S a) (S b) (S c) (S d))) d (qD (S a) (S b) (S c) (S d)) i=qrF S a b c d i:=by
 obtain ⟨n1,n2,n3,n4,n5,n6⟩:=h;unfold upd qrF;by_cases ea:i=a
 ·subst ea;rw [if_neg n3,if_neg n2,if_neg n1,if_pos rfl,if_pos rfl]
 ·by_cases eb:i=b
  ·subst eb;rw [if_neg n5,if_neg n4,if_pos rfl,if_neg ea,if_pos rfl]
  ·by_cases ec:i=c
   ·subst ec;rw [if_neg n6,if_pos rfl,if_neg ea,if_neg eb,if_pos rfl]
   ·by_cases ed:i=d
    ·subst ed;rw [if_pos rfl,if_neg ea,if_neg eb,if_neg ec,if_pos rfl]
    ·rw [if_neg ed,if_neg ec,if_neg eb,if_neg ea,if_neg ea,if_neg eb,if_neg ec,if_neg ed]
theorem Fg (a b c d:Int) (ha:0<=a/\a<4294967296) (hb:0<=b/\b<4294967296) (hc:0<=c/\c<4294967296) (hd:0<=d/\d<4294967296) (w:World):
  Calls Tryz.prog 230 #[.int .u32 a,.int .u32 b,.int .u32 c,.int .u32 d] w fun e w'=> e=.returned (.tuple #[.int .u32 (qA a b c d),.int .u32 (qB a b c d),.int .u32 (qC a b c d),.int .u32 (qD a b c d)])/\Below w.heap.size w w':=
 (Jv a b c d ha hb hc hd w).mono fun _ _ ⟨h1,h2⟩=> ⟨h1,h2▸bN _ _⟩
theorem xE (key nonce:Nat->Int) (c:Int) (hk:∀i,i<32->0<=key i/\key i<256) (hn:∀i,i<12->0<=nonce i/\nonce i<256) (hc:0<=c/\c<4294967296) (w:World):
  Calls Tryz.prog 181 #[.agg (arr .u8 32 key),.agg (arr .u8 12 nonce),.int .u32 c] w fun e w'=> e=.returned (.agg (arr .u8 64 (qK key nonce c)))/\Below w.heap.size w w':=by
 have HST:=ak (Oh key nonce c hk hn);obtain ⟨S,hS⟩:∃S,S=Ws key nonce c:=⟨_,rfl⟩
 have AA:Hid (∀i,i<16->0<=S i/\S i<4294967296):=by rw [hS];exact Pe hk hn hc
 rw [<-hS] at HST;have ZQ:=ak hS;have Wm:Hid (∀r j i,i<16->0<=PG (JF S r) j i/\PG (JF S r) j i<4294967296):=fun r j=> wm (vI AA.out r) j;clear hk hn hS
 go_enter Tryz.func181,Tryz.ntmps181
 go_wp2_with (first
  | (refine aQ rfl 22 _ rfl .u8 w.heap.size 32 _ 5 gH eT rfl (aF.alloc (aF.alloc (bM rfl rfl) _) _) ?_)
  | (refine aQ rfl 35 _ rfl .u8 (w.heap.size+1) 12 _ 5 Tryz.underlying35 Tryz.size35 rfl (aF.alloc (bM (by simp) rfl) _) ?_))
 refine (HST.out _).mono ?_;rintro e w1 ⟨rfl,hb1⟩;have hZ1:aF .u8 w1 (w.heap.size+2) 64 (fun _=> 0):=aF.kept (bM (by simp) (by rfl)) hb1;have gP:Below w.heap.size w w1:=((((bN _ _).alloc (bA _) _).alloc (by simp) _).alloc (by simp;omega) _).trans (hb1.mono (by simp;omega));have s1:=gP.size;have z1:=hZ1.lt;clear hb1;go_upto_region 2 with (refine aG rfl 262 _ _ rfl .u32 w1.heap.size 16 (fun _=> 0) _ Tryz.size262 rfl rfl (bM rfl (by rfl)) ?_)
 refine aD (fun w2=> aF .u8 w2 (w.heap.size+2) 64 (fun _=> 0)/\aF .u32 w2 w1.heap.size 16 S/\Below w.heap.size w w2/\w2.heap.size=w1.heap.size+1)
  ⟨aF.aA (aF.alloc hZ1 _) _ (by omega) _,aF.setRow (bM (n:=16) (f:=fun _=> 0) rfl (by rfl)) _ _,ay (gP.alloc s1 _) s1 _,by rw [setRow_size];simp⟩ ?_
 rintro w2 ⟨hZ2,hS2,dG,hsz2⟩;obtain ⟨A,hA⟩:∃A,A=w1.heap.size:=⟨_,rfl⟩
 rw [<-hA] at hS2 hsz2 s1 z1 ⊢;have AQ:=ak hsz2;clear hZ1 gP hA hsz2
 go_upto_region 3 with (first
  | (refine aQ rfl 262 _ rfl .u32 A 16 _ 117 Tryz.underlying262 Tryz.size262 rfl hS2 ?_)
  | (refine aG rfl 262 _ _ rfl .u32 w2.heap.size 16 (fun _=> 0) _ Tryz.size262 rfl rfl (bM rfl (by rfl)) ?_))
 refine aD (fun w3=> aF .u8 w3 (w.heap.size+2) 64 (fun _=> 0)/\aF .u32 w3 A 16 S/\aF .u32 w3 w2.heap.size 16 S/\Below w.heap.size w w3)
  ⟨aF.aA (aF.alloc hZ2 _) _ (by have:=AQ.out;omega) _,aF.aA (aF.alloc hS2 _) _ (by have:=AQ.out;omega) _,aF.setRow (bM (n:=16) (f:=fun _=> 0) rfl (by rfl)) _ _,ay (dG.alloc dG.size _) dG.size _⟩ ?_
 rintro w3 ⟨hZ3,hS3,hW3,dL⟩;rw [AQ.out] at hW3 ⊢;clear hZ2 hS2 dG AQ;simp only [Act.put];go_wp2
 go_loopw [20] (fun i wr=> ∃r:Nat,r<=10/\i=.int .i64 r/\aF .u8 wr (w.heap.size+2) 64 (fun _=> 0)/\aF .u32 wr A 16 S/\aF .u32 wr (A+1) 16 (JF S r)/\Below w.heap.size w wr) (fun i _=> 10 - (intOf i).toNat)
 case atStart=> exact ⟨0,iY _,rfl,hZ3,hS3,hW3,dL⟩
 case round=>
  clear hZ3 hS3 hW3 dL;obtain ⟨r,hr,rfl,hZ,hA,hW,hbel⟩:=hrel;by_cases hlt:r<10
  ·have HZ:=ak hZ;have HA:=ak hA;have HW:=ak hW;have HB:=ak hbel;clear hZ hA hW hbel;go_wp2
   go_loopw [22] (fun i wr=> ∃s:Nat,s<=2/\i=.int .i64 s/\aF .u8 wr (w.heap.size+2) 64 (fun _=> 0)/\aF .u32 wr A 16 S/\aF .u32 wr (A+1) 16 (PG (JF S r) (4 * s))/\Below w.heap.size w wr) (fun i _=> 2 - (intOf i).toNat)
   case atStart=> exact ⟨0,iY _,rfl,HZ.out,HA.out,HW.out,HB.out⟩
   case round=>
    clear HZ HA HW HB;obtain ⟨s,hs,rfl,hZ,hA,hW,hbel⟩:=hrel;have HZ:=ak hZ;have HA:=ak hA;have HW:=ak hW;have HB:=ak hbel;clear hZ hA hW hbel;by_cases hst:s<2
    ·go_wp2
     go_loopw [25] (fun i wr=> ∃j:Nat,j<=4/\i=.int .i64 j/\aF .u8 wr (w.heap.size+2) 64 (fun _=> 0)/\aF .u32 wr A 16 S/\aF .u32 wr (A+1) 16 (PG (JF S r) (4 * s+j))/\Below w.heap.size w wr) (fun i _=> 4 - (intOf i).toNat)
     case atStart=> exact ⟨0,iY _,rfl,HZ.out,HA.out,HW.out,HB.out⟩
     case round=>
      clear HZ HA HW HB;obtain ⟨j,hj,rfl,hZ,hA,hW,hbel⟩:=hrel;by_cases hjt:j<4
      ·have HZ:=ak hZ;have HA:=ak hA;have HW:=ak hW;have HB:=ak hbel;clear hZ hA hW hbel;go_upto_region 12 with (fail);obtain ⟨jb,hjb⟩:∃n:Nat,n=4+(j+s) % 4:=⟨_,rfl⟩
       obtain ⟨jc,hjc⟩:∃n:Nat,n=8+(j+2 * s) % 4:=⟨_,rfl⟩
       obtain ⟨jd,hjd⟩:∃n:Nat,n=12+(j+3 * s) % 4:=⟨_,rfl⟩
       rw [show (4:Int)+((j:Int)+(s:Int)) % 4=(jb:Int) by omega,show (8:Int)+((j:Int)+2 * (s:Int)) % 4=(jc:Int) by omega,show (12:Int)+((j:Int)+3 * (s:Int)) % 4=(jd:Int) by omega];have l0:j<16:=by omega
       have lb:jb<16:=by omega
       have lc:jc<16:=by omega
       have ld:jd<16:=by omega
       have HNE:Hid (j≠jb/\j≠jc/\j≠jd/\jb≠jc/\jb≠jd/\jc≠jd):=ak (by omega);have HQR:Hid (∀i,qrF (PG (JF S r) (4 * s+j)) j jb jc jd i=PG (JF S r) (4 * s+(j+1)) i):=ak (by
        rw [hjb,hjc,hjd];rcases (by omega:j=0\/j=1\/j=2\/j=3) with rfl | rfl | rfl | rfl<;> rcases (by omega:s=0\/s=1) with rfl | rfl<;> exact fun _=> rfl)
       clear hjb hjc hjd;have hW:=HW.out;have B0:=Wm.out r (4 * s+j) j l0;have B4:=Wm.out r (4 * s+j) jb lb;have B8:=Wm.out r (4 * s+j) jc lc;have B12:=Wm.out r (4 * s+j) jd ld;obtain ⟨DK,hDK⟩:∃d,d=PG (JF S r) (4 * s+j):=⟨_,rfl⟩
       rw [<-hDK] at hW B0 B4 B8 B12 HQR;clear hDK
       refine DW (n:=90) [23,25,27,29] (fun i=> [1,2,3,19,20,21,24,26,28].contains i) (by kernel_rfl) (by kernel_rfl) (by kernel_rfl) (by kernel_rfl) rfl
        (fun ii vv _=> (match ii with | 0 | 4=> vv=.int .i64 ((j:Int)) | 1 | 7=> vv=.int .i64 ((jb:Int)) | 2 | 10=> vv=.int .i64 ((jc:Int)) | 3 | 13=> vv=.int .i64 ((jd:Int)) | 5 | 22=> vv=.pointer (some ⟨A+1,j,none⟩) | 6=> vv=.int .u32 (DK j) | 8 | 24=> vv=.pointer (some ⟨A+1,jb,none⟩) | 9=> vv=.int .u32 (DK jb) | 11 | 26=> vv=.pointer (some ⟨A+1,jc,none⟩) | 12=> vv=.int .u32 (DK jc) | 14 | 28=> vv=.pointer (some ⟨A+1,jd,none⟩) | 15=> vv=.int .u32 (DK jd) | 16 | 17=> vv=.tuple #[.int .u32 (qA (DK j) (DK jb) (DK jc) (DK jd)),.int .u32 (qB (DK j) (DK jb) (DK jc) (DK jd)),.int .u32 (qC (DK j) (DK jb) (DK jc) (DK jd)),.int .u32 (qD (DK j) (DK jb) (DK jc) (DK jd))] | 18=> vv=.int .u32 (qA (DK j) (DK jb) (DK jc) (DK jd)) | 19=> vv=.int .u32 (qB (DK j) (DK jb) (DK jc) (DK jd)) | 20=> vv=.int .u32 (qC (DK j) (DK jb) (DK jc) (DK jd)) | 21=> vv=.int .u32 (qD (DK j) (DK jb) (DK jc) (DK jd)) | _=> True))
        (fun _ _ _ _ h _=> h)
        (fun m ww=> match m with | 0=> ww | 1=> (ww.setCell ⟨A+1,j,none⟩ (.int .u32 (qA (DK j) (DK jb) (DK jc) (DK jd)))) | 2=> ((ww.setCell ⟨A+1,j,none⟩ (.int .u32 (qA (DK j) (DK jb) (DK jc) (DK jd)))).setCell ⟨A+1,jb,none⟩ (.int .u32 (qB (DK j) (DK jb) (DK jc) (DK jd)))) | 3=> (((ww.setCell ⟨A+1,j,none⟩ (.int .u32 (qA (DK j) (DK jb) (DK jc) (DK jd)))).setCell ⟨A+1,jb,none⟩ (.int .u32 (qB (DK j) (DK jb) (DK jc) (DK jd)))).setCell ⟨A+1,jc,none⟩ (.int .u32 (qC (DK j) (DK jb) (DK jc) (DK jd)))) | _=> ((((ww.setCell ⟨A+1,j,none⟩ (.int .u32 (qA (DK j) (DK jb) (DK jc) (DK jd)))).setCell ⟨A+1,jb,none⟩ (.int .u32 (qB (DK j) (DK jb) (DK jc) (DK jd)))).setCell ⟨A+1,jc,none⟩ (.int .u32 (qC (DK j) (DK jb) (DK jc) (DK jd)))).setCell ⟨A+1,jd,none⟩ (.int .u32 (qD (DK j) (DK jb) (DK jc) (DK jd))))) (fun _=> rfl) ?_ ?_ ?_ ?_
       ·refine cO ?_;refine ⟨?_,(fun _ h=> absurd h (by decide)),(fun _ h=> absurd h (by decide)),(fun _ h=> absurd h (by decide)),?_,?_,?_,?_,?_,?_,?_,?_,?_,?_,?_,?_,?_,?_,?_,(fun _ h=> absurd h (by decide)),(fun _ h=> absurd h (by decide)),(fun _ h=> absurd h (by decide)),?_,(aJ),(fun _ h=> absurd h (by decide)),(aJ),(fun _ h=> absurd h (by decide)),(aJ),(fun _ h=> absurd h (by decide)),(aJ),trivial⟩
        ·intro _ _ a w2 hB hF hd;exact aH <| dJ rfl (hF.same 10 rfl)
        ·intro _ _ a w2 hB hF hd;exact aH <| dJ rfl (hF.same 10 rfl)
        ·intro _ _ a w2 hB hF hd;exact aH <| aP (aO rfl (hF.same 8 rfl) (hd 4 _ rfl rfl (aj rfl)) Tryz.underlying262 (by kernel_rfl) (by omega) (by omega)) rfl
        ·intro _ _ a w2 hB hF hd;exact aH <| aP (aR rfl (hd 5 _ rfl rfl (aj rfl)) Tryz.underlying117 ((hW.kept hB).cell j l0)) rfl
        ·intro _ _ a w2 hB hF hd;exact aH <| dJ rfl (hF.same 11 rfl)
        ·intro _ _ a w2 hB hF hd;exact aH <| aP (aO rfl (hF.same 8 rfl) (hd 7 _ rfl rfl (aj rfl)) Tryz.underlying262 (by kernel_rfl) (by omega) (by omega)) rfl
        ·intro _ _ a w2 hB hF hd;exact aH <| aP (aR rfl (hd 8 _ rfl rfl (aj rfl)) Tryz.underlying117 ((hW.kept hB).cell jb lb)) rfl
        ·intro _ _ a w2 hB hF hd;exact aH <| dJ rfl (hF.same 12 rfl)
        ·intro _ _ a w2 hB hF hd;exact aH <| aP (aO rfl (hF.same 8 rfl) (hd 10 _ rfl rfl (aj rfl)) Tryz.underlying262 (by kernel_rfl) (by omega) (by omega)) rfl
        ·intro _ _ a w2 hB hF hd;exact aH <| aP (aR rfl (hd 11 _ rfl rfl (aj rfl)) Tryz.underlying117 ((hW.kept hB).cell jc lc)) rfl
        ·intro _ _ a w2 hB hF hd;exact aH <| dJ rfl (hF.same 13 rfl)
        ·intro _ _ a w2 hB hF hd;exact aH <| aP (aO rfl (hF.same 8 rfl) (hd 13 _ rfl rfl (aj rfl)) Tryz.underlying262 (by kernel_rfl) (by omega) (by omega)) rfl
        ·intro _ _ a w2 hB hF hd;exact aH <| aP (aR rfl (hd 14 _ rfl rfl (aj rfl)) Tryz.underlying117 ((hW.kept hB).cell jd ld)) rfl
        ·intro _ _ a w2 hB hF hd;refine aH <| aC _ _ _ rfl Tryz.call230 _ (qL (hd 6 _ rfl rfl (aj rfl)) (hd 9 _ rfl rfl (aj rfl)) (hd 12 _ rfl rfl (aj rfl)) (hd 15 _ rfl rfl (aj rfl))) (by simp) ((Fg (DK j) (DK jb) (DK jc) (DK jd) B0 B4 B8 B12 w2).mono ?_);rintro e w3 ⟨rfl,hb⟩;exact ⟨_,rfl,rfl,hb⟩
        ·intro _ _ a w2 hB hF hd;exact aH <| dJ rfl (hd 16 _ rfl rfl (aj rfl))
        ·intro _ _ a w2 hB hF hd;exact aH <| aP (bg rfl (hd 17 _ rfl rfl (aj rfl)) rfl) rfl
        ·intro _ _ a w2 hB hF hd;exact aH <| aP (aO rfl (hF.same 8 rfl) (hd 0 _ rfl rfl (aj rfl)) Tryz.underlying262 (by kernel_rfl) (by omega) (by omega)) rfl
       ·refine cO ?_;refine ⟨(fun _ h=> absurd h (by decide)),?_,?_,?_,(fun _ h=> absurd h (by decide)),(fun _ h=> absurd h (by decide)),(fun _ h=> absurd h (by decide)),(fun _ h=> absurd h (by decide)),(fun _ h=> absurd h (by decide)),(fun _ h=> absurd h (by decide)),(fun _ h=> absurd h (by decide)),(fun _ h=> absurd h (by decide)),(fun _ h=> absurd h (by decide)),(fun _ h=> absurd h (by decide)),(fun _ h=> absurd h (by decide)),(fun _ h=> absurd h (by decide)),(fun _ h=> absurd h (by decide)),(fun _ h=> absurd h (by decide)),(fun _ h=> absurd h (by decide)),?_,?_,?_,(fun _ h=> absurd h (by decide)),(aJ),?_,(aJ),?_,(aJ),?_,(aJ),trivial⟩
        ·intro _ _ a w1 w2 hB hF hd;exact aH <| vM _ (.inl rfl) (by simp) (hF.same 11 rfl)
        ·intro _ _ a w1 w2 hB hF hd;exact aH <| vM _ (.inl rfl) (by simp) (hF.same 12 rfl)
        ·intro _ _ a w1 w2 hB hF hd;exact aH <| vM _ (.inl rfl) (by simp) (hF.same 13 rfl)
        ·intro _ _ a w1 w2 hB hF hd;exact aH <| mE (fun h=> by cases h) (bg rfl (hd 17 _ rfl rfl (aj rfl)) rfl) rfl
        ·intro _ _ a w1 w2 hB hF hd;exact aH <| mE (fun h=> by cases h) (bg rfl (hd 17 _ rfl rfl (aj rfl)) rfl) rfl
        ·intro _ _ a w1 w2 hB hF hd;exact aH <| mE (fun h=> by cases h) (bg rfl (hd 17 _ rfl rfl (aj rfl)) rfl) rfl
        ·intro _ _ a w1 w2 hB hF hd;exact aH <| mE (fun h=> by cases h) (aO rfl (hF.same 8 rfl) (hd 1 _ rfl rfl (aj rfl)) Tryz.underlying262 (by kernel_rfl) (by omega) (by omega)) rfl
        ·intro _ _ a w1 w2 hB hF hd;exact aH <| mE (fun h=> by cases h) (aO rfl (hF.same 8 rfl) (hd 2 _ rfl rfl (aj rfl)) Tryz.underlying262 (by kernel_rfl) (by omega) (by omega)) rfl
        ·intro _ _ a w1 w2 hB hF hd;exact aH <| mE (fun h=> by cases h) (aO rfl (hF.same 8 rfl) (hd 3 _ rfl rfl (aj rfl)) Tryz.underlying262 (by kernel_rfl) (by omega) (by omega)) rfl
       ·intro q o hq ho;rcases (by simp at hq;omega:q=0\/q=1\/q=2\/q=3) with rfl | rfl | rfl | rfl
        ·obtain rfl:=fO ho;intro a w2 K hB hF hd hK;exact iC 117 _ _ rfl rfl (A+1) (j) 16 _ (qA (DK j) (DK jb) (DK jc) (DK jd)) Tryz.size117 (hd 22 _ rfl rfl (aj rfl)) (hd 18 _ rfl rfl (aj rfl)) (hW.kept hB) (by first | decide | omega) hK
        ·obtain rfl:=fO ho;intro a w2 K hB hF hd hK;exact iC 117 _ _ rfl rfl (A+1) (jb) 16 _ (qB (DK j) (DK jb) (DK jc) (DK jd)) Tryz.size117 (hd 24 _ rfl rfl (aj rfl)) (hd 19 _ rfl rfl (aj rfl)) ((hW.kept hB).set (j) (qA (DK j) (DK jb) (DK jc) (DK jd))) (by first | decide | omega) hK
        ·obtain rfl:=fO ho;intro a w2 K hB hF hd hK;exact iC 117 _ _ rfl rfl (A+1) (jc) 16 _ (qC (DK j) (DK jb) (DK jc) (DK jd)) Tryz.size117 (hd 26 _ rfl rfl (aj rfl)) (hd 20 _ rfl rfl (aj rfl)) (((hW.kept hB).set (j) (qA (DK j) (DK jb) (DK jc) (DK jd))).set (jb) (qB (DK j) (DK jb) (DK jc) (DK jd))) (by first | decide | omega) hK
        ·obtain rfl:=fO ho;intro a w2 K hB hF hd hK;exact iC 117 _ _ rfl rfl (A+1) (jd) 16 _ (qD (DK j) (DK jb) (DK jc) (DK jd)) Tryz.size117 (hd 28 _ rfl rfl (aj rfl)) (hd 21 _ rfl rfl (aj rfl)) ((((hW.kept hB).set (j) (qA (DK j) (DK jb) (DK jc) (DK jd))).set (jb) (qB (DK j) (DK jb) (DK jc) (DK jd))).set (jc) (qC (DK j) (DK jb) (DK jc) (DK jd))) (by first | decide | omega) hK
       ·intro a w4 hB hF hS;have ha:=aI rfl rfl hF [_,_,_,_,_,_,_,_,_,_,_,_,_,_,_,_,_,_,_,_,_,_,_,undef,_,undef,_,undef,_,undef] rfl ⟨hS 0 _ rfl rfl,hS 1 _ rfl rfl,hS 2 _ rfl rfl,hS 3 _ rfl rfl,hS 4 _ rfl rfl,hS 5 _ rfl rfl,hS 6 _ rfl rfl,hS 7 _ rfl rfl,hS 8 _ rfl rfl,hS 9 _ rfl rfl,hS 10 _ rfl rfl,hS 11 _ rfl rfl,hS 12 _ rfl rfl,hS 13 _ rfl rfl,hS 14 _ rfl rfl,hS 15 _ rfl rfl,hS 16 _ rfl rfl,hS 17 _ rfl rfl,hS 18 _ rfl rfl,hS 19 _ rfl rfl,hS 20 _ rfl rfl,hS 21 _ rfl rfl,hS 22 _ rfl rfl,trivial,hS 24 _ rfl rfl,trivial,hS 26 _ rfl rfl,trivial,hS 28 _ rfl rfl,trivial,trivial⟩;simp only [puts,Act.put,dQ,dR,dS] at ha;subst ha;have VA:=(((((hW.kept hB).set (j) (qA (DK j) (DK jb) (DK jc) (DK jd))).set (jb) (qB (DK j) (DK jb) (DK jc) (DK jd))).set (jc) (qC (DK j) (DK jb) (DK jc) (DK jd))).set (jd) (qD (DK j) (DK jb) (DK jc) (DK jd)))
        clear hS hF;have oH:=(((((HZ.out.kept hB).other (p:=⟨A+1,j,none⟩) (by simp;omega) (.int .u32 (qA (DK j) (DK jb) (DK jc) (DK jd)))).other (p:=⟨A+1,jb,none⟩) (by simp;omega) (.int .u32 (qB (DK j) (DK jb) (DK jc) (DK jd)))).other (p:=⟨A+1,jc,none⟩) (by simp;omega) (.int .u32 (qC (DK j) (DK jb) (DK jc) (DK jd)))).other (p:=⟨A+1,jd,none⟩) (by simp;omega) (.int .u32 (qD (DK j) (DK jb) (DK jc) (DK jd))))
        have vU:=(((((HA.out.kept hB).other (p:=⟨A+1,j,none⟩) (by simp) (.int .u32 (qA (DK j) (DK jb) (DK jc) (DK jd)))).other (p:=⟨A+1,jb,none⟩) (by simp) (.int .u32 (qB (DK j) (DK jb) (DK jc) (DK jd)))).other (p:=⟨A+1,jc,none⟩) (by simp) (.int .u32 (qC (DK j) (DK jb) (DK jc) (DK jd)))).other (p:=⟨A+1,jd,none⟩) (by simp) (.int .u32 (qD (DK j) (DK jb) (DK jc) (DK jd))))
        have hb4:=(((((HB.out.trans (hB.mono HB.out.size)).setCell (p:=⟨A+1,j,none⟩) (by simp;omega) (.int .u32 (qA (DK j) (DK jb) (DK jc) (DK jd)))).setCell (p:=⟨A+1,jb,none⟩) (by simp;omega) (.int .u32 (qB (DK j) (DK jb) (DK jc) (DK jd)))).setCell (p:=⟨A+1,jc,none⟩) (by simp;omega) (.int .u32 (qC (DK j) (DK jb) (DK jc) (DK jd)))).setCell (p:=⟨A+1,jd,none⟩) (by simp;omega) (.int .u32 (qD (DK j) (DK jb) (DK jc) (DK jd))))
        have hW4:=VA.congr (g:=PG (JF S r) (4 * s+(j+1))) (fun i _=> (Rc DK j jb jc jd HNE.out i).trans (HQR.out i));clear VA hW hB;go_upto_region 13 with (fail);refine aD (fun w5=> aF .u8 w5 (w.heap.size+2) 64 (fun _=> 0)/\aF .u32 w5 A 16 S/\aF .u32 w5 (A+1) 16 (PG (JF S r) (4 * s+(j+1)))/\Below w.heap.size w w5) ⟨oH,vU,hW4,hb4⟩ ?_;rintro w5 ⟨nV,sU,hW5,hb5⟩;clear oH vU hW4 hb4 HZ HA HW HB;go_wp2;go_roundw
        case rel=> exact ⟨j+1,by omega,by go_num,nV,sU,hW5,hb5⟩
        case measure=> simp [intOf] <;> omega
      ·obtain rfl:j=4:=by omega
       have HZ:=ak hZ;have HA:=ak hA;have HW:=ak hW;have HB:=ak hbel;clear hZ hA hW hbel;go_wp2;go_roundw
       case rel=> exact ⟨s+1,by omega,by go_num,HZ.out,HA.out,HW.out,HB.out⟩
       case measure=> simp [intOf] <;> omega
    ·obtain rfl:s=2:=by omega
     go_wp2;go_roundw
     case rel=> exact ⟨r+1,by omega,by go_num,HZ.out,HA.out,HW.out,HB.out⟩
     case measure=> simp [intOf] <;> omega
  ·obtain rfl:r=10:=by omega
   have HZ:=ak hZ;have HA:=ak hA;have HW:=ak hW;have HB:=ak hbel;clear hZ hA hW hbel;go_wp2
   go_loopw [74] (fun i wr=> ∃k:Nat,k<=16/\i=.int .i64 k/\aF .u8 wr (w.heap.size+2) 64 (fun _=> 0)/\aF .u32 wr A 16 S/\aF .u32 wr (A+1) 16 (upto k (CX key nonce c) (JF S 10))/\Below w.heap.size w wr) (fun i _=> 16 - (intOf i).toNat)
   case atStart=> exact ⟨0,iY _,rfl,HZ.out,HA.out,by rw [dB];exact HW.out,HB.out⟩
   case round=>
    clear HZ HA HW HB;obtain ⟨k,hk,rfl,hZ,hA,hW,hbel⟩:=hrel;have HZ:=ak hZ;have HA:=ak hA;have HW:=ak hW;by_cases hkt:k<16
    ·have e1:=hW.cell k hkt;rw [upto_at] at e1;have e2:=hA.cell k hkt;have f1:=hW.free k;obtain ⟨b0,b1⟩:=AA.out k hkt;obtain ⟨b2,b3⟩:=vI AA.out 10 k hkt;have HV:Hid ((JF S 10 k+S k) % 4294967296=CX key nonce c k):=by unfold Hid CX;rw [ZQ.out]
     clear hZ hA hW;go_wp2
     go_region
     all_goals
      go_wp2;go_roundw
      case rel=> exact ⟨k+1,by omega,by go_num,(HZ.out.other (by simp;omega) _).drew,(HA.out.other (by simp) _).drew,by rw [<-bR HV.out];exact (HW.out.set k _).drew,(hbel.setCell (by simp;omega) _).drew⟩
      case measure=> simp [intOf] <;> omega
    ·obtain rfl:k=16:=by omega
     have hW2:=hW.congr (dY _ _ (bA _));clear hW hA;go_wp2_with fail;refine (Jh _ 16 (CX key nonce c) _ (hW2.rd (by decide)) (fun i _=> by unfold CX;omega) (by decide)).mono ?_;rintro e w5 ⟨v,rfl,hv,hb5⟩;have nV:=hZ.kept hb5;have fM:=hbel.trans (hb5.mono hbel.size);obtain ⟨g,cc,rfl,q1,q2,q3,q4,hcells,q5⟩:=hv.form (by decide);have AJ:Hid (∀i,i<64->w5.cell? ⟨g,0+i,none⟩=some (.int .u8 (qK key nonce c i))):=fun i hi=> by rw [pz];exact hcells i (by omega)
     have hat:=jU (a:=some ⟨g,0,none⟩) (len:=64) (cap:=cc) Tryz.underlying47 (by decide);clear hv hcells q5 hZ hbel hb5 hW2 HZ HA HW
     go_wp2_with (first
      | (refine lZ rfl 47 _ rfl .u8 g 0 64 (qK key nonce c) 5 Tryz.underlying47 Tryz.size47 rfl AJ.out ?_)
      | (refine aG rfl 47 _ _ rfl .u8 (w.heap.size+2) 64 (fun _=> 0) _ Tryz.size47 rfl rfl nV ?_))
     exact bodyPost_ret (bG rfl _ _ .u8 (w.heap.size+2) 64 _ 5 rfl (nV.setRow _ _) Tryz.underlying47 Tryz.size47) rfl ⟨rfl,ay fM (by omega) _⟩
end Go.Proofs.YtpcjekgfnfjbpaaGreat
