/- Part 32 of EscrowComes; conditions: in each theorem. -/
import Derived.Test.YtpcjekgfnfjbpaaGreatPkEC30
import Derived.Test.YtpcjekgfnfjbpaaGreatPkEC20
import Derived.Test.YtpcjekgfnfjbpaaGreatPkEC31
import Derived.Test.YtpcjekgfnfjbpaaGreatPkEC7
import Derived.Deep.Cut
set_option linter.unusedVariables false
set_option linter.unusedSimpArgs false
set_option maxRecDepth 100000
set_option maxHeartbeats 3200000
namespace Go.bI
def st0 (c:Int):Nat->Int:=fun i=>if i=0 then 1634760805 else if i=1 then 857760878 else if i=2 then 2036477234 else if i=3 then 1797285236 else if i=12 then c else 0
theorem afv (key nonce:Nat->Int) (c:Int) (i:Nat) (hi:i<16):laid (laid (st0 c) 4 8 (wd key)) 13 3 (wd nonce) i=ini key nonce c i:=by
 unfold laid st0 ini;rcases(by omega:i=0\/i=1\/i=2\/i=3\/(4<=i/\i<12)\/i=12\/(13<=i/\i<16)) with rfl | rfl | rfl | rfl | h | rfl | h
 ·simp
 ·simp
 ·simp
 ·simp
 ·rw[if_neg aH,if_pos aH,if_neg aH,if_neg aH,if_neg aH,if_neg aH,if_pos aH]
 ·simp
 ·rw[if_pos aH,if_neg aH,if_neg aH,if_neg aH,if_neg aH,if_neg aH,if_neg aH]
end Go.bI
namespace Go.Proofs.YtpcjekgfnfjbpaaGreat
open Go.RowKit Go.bI
attribute [local go_sem ↓] Go.wp_at_zero Go.wp_at_succ
theorem Rk (f:Nat->Int) (j:Nat):zf f j=wd f j:=by unfold zf wd;omega
theorem UK {a:Act} (c:Int) (t:Nat) (ht:a.eval (.tmp t)=.int .u32 c) (w:World):(Instr.build 262 ((#[(0,Operand.const (.int .u32 1634760805)),(1,Operand.const (.int .u32 857760878)),(2,Operand.const (.int .u32 2036477234)),(3,Operand.const (.int .u32 1797285236)),(12,Operand.tmp t)] :Array (Nat × Operand)).map fun(i,x)=>(i,a.eval x))).run Tryz.prog w=.ok (.agg (arr .u32 16 (st0 c))) w:=by
 simp only[vT,List.map_nil,List.map_cons,ht];rw[Go.run_build w _ _ (arr .u32 16 (st0 c)) aQ]
theorem SI (key nonce:Nat->Int) (c:Int) (hk:∀i,i<32->0<=key i/\key i<256) (hn:∀i,i<12->0<=nonce i/\nonce i<256) (w:World):
  Calls Tryz.prog 229 #[.agg (arr .u8 32 key),.agg (arr .u8 12 nonce),.int .u32 c] w fun e w'=>e=.returned (.agg (arr .u32 16 (ini key nonce c)))/\Below w.heap.size w w':=by
 have HK:=ay hk;have HN:=ay hn;clear hk hn
 go_enter Tryz.func229,Tryz.ntmps229
 go_upto_region 2 with(first
  | (refine fC rfl (fK rfl (UK c _ rfl _)) ?_)
  | (refine aL rfl 262 _ _ rfl .u32 (w.heap.size+3) 16 (fun _=>0) _ Tryz.size262 rfl rfl (cB aR (by rfl)) ?_))
 refine aJ (fun w1=>aK .u8 w1 w.heap.size 32 key/\aK .u8 w1 (w.heap.size+1) 12 nonce/\aK .u32 w1 (w.heap.size+2) 16 (fun _=>0)/\aK .u32 w1 (w.heap.size+3) 16 (st0 c)/\Below w.heap.size w w1)
  ⟨aK.aC (aK.alloc (aK.alloc (aK.alloc (cB rfl rfl) _) _) _) _ aH _,aK.aC (aK.alloc (aK.alloc (cB aR rfl) _) _) _ aH _,aK.aC (aK.alloc (cB aR (by rfl)) _) _ aH _,aK.setRow (cB (n:=16) (f:=fun _=>0) aR (by rfl)) _ _,aB (((((bT _ _).alloc (bH _) _).alloc aR _).alloc iU _).alloc iU _) aH _⟩ ?_
 rintro w1 ⟨hK,hN,hZ,hS,aD⟩;go_wp2_with fail;refine(BG _ 8 key _ (hK.rd aM) (fun i hi=>HK.out i aH) aM).mono ?_;rintro e w2 ⟨v,rfl,hv,fO⟩;have Rx:=hN.kept fO;have jG:=hZ.kept fO;have hS2:=hS.kept fO;have dV:=aD.trans (fO.mono aD.size);have HV:=ay hv.rd;clear hK hN hZ hS aD fO hv;go_wp2_with fail;refine(BG _ 3 nonce _ (Rx.rd aM) (fun i hi=>HN.out i aH) aM).mono ?_;rintro e w3 ⟨u,rfl,hu,ji⟩;have lZ:=jG.kept ji;have hS3:=hS2.kept ji;have eU:=dV.trans (ji.mono dV.size);have HV3:=ay (HV.out.below ji);have HU3:=ay hu;have hs2:w.heap.size+3<w2.heap.size:=hS2.lt;clear Rx jG hS2 dV ji hu HV;go_upto_region 5 with(refine mU rfl _ _ 223 223 rfl (w.heap.size+3) 4 12 12 16 (st0 c) Tryz.underlying223 Tryz.size117 rfl hS3 _ 8 (zf key) HV3.out rfl aM aM ?_);have HU4:=ay (HU3.out.setRow hs2 (arr .u32 16 (laid (st0 c) 4 8 (zf key)))).rd;go_upto_region 6 with(refine mU rfl _ _ 223 223 rfl (w.heap.size+3) 13 3 3 16 _ Tryz.underlying223 Tryz.size117 rfl (hS3.setRow _ _) _ 3 (zf nonce) HU4.out rfl aM aM ?_)
 refine aJ (fun w4=>aK .u32 w4 (w.heap.size+2) 16 (fun _=>0)/\aK .u32 w4 (w.heap.size+3) 16 (ini key nonce c)/\Below w.heap.size w w4)
  ⟨aK.aC (aK.aC lZ _ aH _) _ aH _,(aK.setRow (hS3.setRow 16 (laid (st0 c) 4 8 (zf key))) _ _).congr (fun i hi=>by rw[show zf key=wd key from funext (Rk key),show zf nonce=wd nonce from funext (Rk nonce)];exact afv key nonce c i hi),aB (aB eU aH _) aH _⟩ ?_
 rintro w4 ⟨qX,hS4,fU⟩;clear lZ hS3 eU HU3 HU4 HV3
 go_wp2_with (first
  | (refine aZ rfl 262 _ rfl .u32 (w.heap.size+3) 16 _ 117 Tryz.underlying262 Tryz.size262 rfl hS4 ?_)
  | (refine aL rfl 262 _ _ rfl .u32 (w.heap.size+2) 16 (fun _=>0) _ Tryz.size262 rfl rfl qX ?_))
 exact bodyPost_ret (bV rfl _ _ .u32 (w.heap.size+2) 16 _ 117 rfl (qX.setRow _ _) Tryz.underlying262 Tryz.size262) rfl ⟨rfl,aB fU aH _⟩
theorem WB (S:Nat->Int) (a b c d:Nat) (h:a≠b/\a≠c/\a≠d/\b≠c/\b≠d/\c≠d) (i:Nat):
  upd (upd (upd (upd S a (qA (S a) (S b) (S c) (S d))) b (qB (S a) (S b) (S c) (S d))) c (qC (S a) (S b) (S c) (S d))) d (qD (S a) (S b) (S c) (S d)) i=qrF S a b c d i:=by
 obtain⟨n1,n2,n3,n4,n5,n6⟩:=h;unfold upd qrF;by_cases ea:i=a
 ·subst ea;rw[if_neg n3,if_neg n2,if_neg n1,if_pos rfl,if_pos rfl]
 ·by_cases eb:i=b
  ·subst eb;rw[if_neg n5,if_neg n4,if_pos rfl,if_neg ea,if_pos rfl]
  ·by_cases ec:i=c
   ·subst ec;rw[if_neg n6,if_pos rfl,if_neg ea,if_neg eb,if_pos rfl]
   ·by_cases ed:i=d
    ·subst ed;rw[if_pos rfl,if_neg ea,if_neg eb,if_neg ec,if_pos rfl]
    ·rw[if_neg ed,if_neg ec,if_neg eb,if_neg ea,if_neg ea,if_neg eb,if_neg ec,if_neg ed]
theorem Jm (a b c d:Int) (ha:0<=a/\a<4294967296) (hb:0<=b/\b<4294967296) (hc:0<=c/\c<4294967296) (hd:0<=d/\d<4294967296) (w:World):
  Calls Tryz.prog 230 #[.int .u32 a,.int .u32 b,.int .u32 c,.int .u32 d] w fun e w'=>e=.returned (.tuple #[.int .u32 (qA a b c d),.int .u32 (qB a b c d),.int .u32 (qC a b c d),.int .u32 (qD a b c d)])/\Below w.heap.size w w':=
 (Nc a b c d ha hb hc hd w).mono fun _ _ ⟨h1,h2⟩=>⟨h1,h2▸bT _ _⟩
theorem Ai (key nonce:Nat->Int) (c:Int) (hk:∀i,i<32->0<=key i/\key i<256) (hn:∀i,i<12->0<=nonce i/\nonce i<256) (hc:0<=c/\c<4294967296) (w:World):
  Calls Tryz.prog 181 #[.agg (arr .u8 32 key),.agg (arr .u8 12 nonce),.int .u32 c] w fun e w'=>e=.returned (.agg (arr .u8 64 (uh key nonce c)))/\Below w.heap.size w w':=by
 have HST:=ay (SI key nonce c hk hn);obtain⟨S,hS⟩:∃S,S=ini key nonce c:=⟨_,rfl⟩
 have DW:Hid (∀i,i<16->0<=S i/\S i<4294967296):=by rw[hS];exact TW hk hn hc
 rw[<-hS] at HST;have HSE:=ay hS;have HDB:Hid (∀r j i,i<16->0<=Ux (Nl S r) j i/\Ux (Nl S r) j i<4294967296):=fun r j=>zA (yU DW.out r) j;clear hk hn hS
 go_enter Tryz.func181,Tryz.ntmps181
 go_wp2_with (first
  | (refine aZ rfl 22 _ rfl .u8 w.heap.size 32 _ 5 iL fZ rfl (aK.alloc (aK.alloc (cB rfl rfl) _) _) ?_)
  | (refine aZ rfl 35 _ rfl .u8 (w.heap.size+1) 12 _ 5 Tryz.underlying35 Tryz.size35 rfl (aK.alloc (cB aR rfl) _) ?_))
 refine(HST.out _).mono ?_;rintro e w1 ⟨rfl,gX⟩;have hZ1:aK .u8 w1 (w.heap.size+2) 64 (fun _=>0):=aK.kept (cB aR (by rfl)) gX;have jf:Below w.heap.size w w1:=((((bT _ _).alloc (bH _) _).alloc aR _).alloc iU _).trans (gX.mono iU);have s1:=jf.size;have z1:=hZ1.lt;clear gX;go_upto_region 2 with(refine aL rfl 262 _ _ rfl .u32 w1.heap.size 16 (fun _=>0) _ Tryz.size262 rfl rfl (cB rfl (by rfl)) ?_)
 refine aJ (fun w2=>aK .u8 w2 (w.heap.size+2) 64 (fun _=>0)/\aK .u32 w2 w1.heap.size 16 S/\Below w.heap.size w w2/\w2.heap.size=w1.heap.size+1)
  ⟨aK.aC (aK.alloc hZ1 _) _ aH _,aK.setRow (cB (n:=16) (f:=fun _=>0) rfl (by rfl)) _ _,aB (jf.alloc s1 _) s1 _,by rw[setRow_size];simp⟩ ?_
 rintro w2 ⟨jG,hS2,dV,hsz2⟩;obtain⟨A,hA⟩:∃A,A=w1.heap.size:=⟨_,rfl⟩
 rw[<-hA] at hS2 hsz2 s1 z1 ⊢;have zI:=ay hsz2;clear hZ1 jf hA hsz2
 go_upto_region 3 with(first
  | (refine aZ rfl 262 _ rfl .u32 A 16 _ 117 Tryz.underlying262 Tryz.size262 rfl hS2 ?_)
  | (refine aL rfl 262 _ _ rfl .u32 w2.heap.size 16 (fun _=>0) _ Tryz.size262 rfl rfl (cB rfl (by rfl)) ?_))
 refine aJ (fun w3=>aK .u8 w3 (w.heap.size+2) 64 (fun _=>0)/\aK .u32 w3 A 16 S/\aK .u32 w3 w2.heap.size 16 S/\Below w.heap.size w w3)
  ⟨aK.aC (aK.alloc jG _) _ (by have:=zI.out;omega) _,aK.aC (aK.alloc hS2 _) _ (by have:=zI.out;omega) _,aK.setRow (cB (n:=16) (f:=fun _=>0) rfl (by rfl)) _ _,aB (dV.alloc dV.size _) dV.size _⟩ ?_
 rintro w3 ⟨lZ,hS3,hW3,eU⟩;rw[zI.out] at hW3 ⊢;clear jG hS2 dV zI;simp only[Act.put];go_wp2
 go_loopw [20] (fun i wr=> ∃r:Nat,r<=10/\i=.int .i64 r/\aK .u8 wr (w.heap.size+2) 64 (fun _=>0)/\aK .u32 wr A 16 S/\aK .u32 wr (A+1) 16 (Nl S r)/\Below w.heap.size w wr) (fun i _=>10 - (intOf i).toNat)
 case atStart=>exact⟨0,jm _,rfl,lZ,hS3,hW3,eU⟩
 case round=>
  clear lZ hS3 hW3 eU;obtain⟨r,hr,rfl,hZ,hA,hW,aD⟩:=hrel;by_cases hlt:r<10
  ·have HZ:=ay hZ;have HA:=ay hA;have HW:=ay hW;have HB:=ay aD;clear hZ hA hW aD;go_wp2
   go_loopw [22] (fun i wr=> ∃s:Nat,s<=2/\i=.int .i64 s/\aK .u8 wr (w.heap.size+2) 64 (fun _=>0)/\aK .u32 wr A 16 S/\aK .u32 wr (A+1) 16 (Ux (Nl S r) (4 * s))/\Below w.heap.size w wr) (fun i _=>2 - (intOf i).toNat)
   case atStart=>exact⟨0,jm _,rfl,HZ.out,HA.out,HW.out,HB.out⟩
   case round=>
    clear HZ HA HW HB;obtain⟨s,hs,rfl,hZ,hA,hW,aD⟩:=hrel;have HZ:=ay hZ;have HA:=ay hA;have HW:=ay hW;have HB:=ay aD;clear hZ hA hW aD;by_cases iN:s<2
    ·go_wp2
     go_loopw [25] (fun i wr=> ∃j:Nat,j<=4/\i=.int .i64 j/\aK .u8 wr (w.heap.size+2) 64 (fun _=>0)/\aK .u32 wr A 16 S/\aK .u32 wr (A+1) 16 (Ux (Nl S r) (4 * s+j))/\Below w.heap.size w wr) (fun i _=>4 - (intOf i).toNat)
     case atStart=>exact⟨0,jm _,rfl,HZ.out,HA.out,HW.out,HB.out⟩
     case round=>
      clear HZ HA HW HB;obtain⟨j,hj,rfl,hZ,hA,hW,aD⟩:=hrel;by_cases hjt:j<4
      ·have HZ:=ay hZ;have HA:=ay hA;have HW:=ay hW;have HB:=ay aD;clear hZ hA hW aD;go_upto_region 12 with(fail);obtain⟨jb,hjb⟩:∃n:Nat,n=4+(j+s) % 4:=⟨_,rfl⟩
       obtain⟨jc,hjc⟩:∃n:Nat,n=8+(j+2 * s) % 4:=⟨_,rfl⟩
       obtain⟨jd,hjd⟩:∃n:Nat,n=12+(j+3 * s) % 4:=⟨_,rfl⟩
       rw[show (4:Int)+((j:Int)+(s:Int)) % 4=(jb:Int) by omega,show (8:Int)+((j:Int)+2 * (s:Int)) % 4=(jc:Int) by omega,show (12:Int)+((j:Int)+3 * (s:Int)) % 4=(jd:Int) by omega];have l0:j<16:=by omega
       have lb:jb<16:=by omega
       have lc:jc<16:=by omega
       have ld:jd<16:=by omega
       have HNE:Hid (j≠jb/\j≠jc/\j≠jd/\jb≠jc/\jb≠jd/\jc≠jd):=ay aH;have HQR:Hid (∀i,qrF (Ux (Nl S r) (4 * s+j)) j jb jc jd i=Ux (Nl S r) (4 * s+(j+1)) i):=ay (by
        rw[hjb,hjc,hjd];rcases(by omega:j=0\/j=1\/j=2\/j=3) with rfl | rfl | rfl | rfl<;> rcases(by omega:s=0\/s=1) with rfl | rfl<;> exact fun _=>rfl)
       clear hjb hjc hjd;have hW:=HW.out;have B0:=HDB.out r (4 * s+j) j l0;have B4:=HDB.out r (4 * s+j) jb lb;have B8:=HDB.out r (4 * s+j) jc lc;have B12:=HDB.out r (4 * s+j) jd ld;obtain⟨DK,hDK⟩:∃d,d=Ux (Nl S r) (4 * s+j):=⟨_,rfl⟩
       rw[<-hDK] at hW B0 B4 B8 B12 HQR;clear hDK
       refine Hq (n:=90) [23,25,27,29] (fun i=> [1,2,3,19,20,21,24,26,28].contains i) aQ aQ aQ aQ rfl
        (fun ii vv _=>(match ii with | 0 | 4=>vv=.int .i64 ((j:Int)) | 1 | 7=>vv=.int .i64 ((jb:Int)) | 2 | 10=>vv=.int .i64 ((jc:Int)) | 3 | 13=>vv=.int .i64 ((jd:Int)) | 5 | 22=>vv=.pointer (some ⟨A+1,j,none⟩) | 6=>vv=.int .u32 (DK j) | 8 | 24=>vv=.pointer (some ⟨A+1,jb,none⟩) | 9=>vv=.int .u32 (DK jb) | 11 | 26=>vv=.pointer (some ⟨A+1,jc,none⟩) | 12=>vv=.int .u32 (DK jc) | 14 | 28=>vv=.pointer (some ⟨A+1,jd,none⟩) | 15=>vv=.int .u32 (DK jd) | 16 | 17=>vv=.tuple #[.int .u32 (qA (DK j) (DK jb) (DK jc) (DK jd)),.int .u32 (qB (DK j) (DK jb) (DK jc) (DK jd)),.int .u32 (qC (DK j) (DK jb) (DK jc) (DK jd)),.int .u32 (qD (DK j) (DK jb) (DK jc) (DK jd))] | 18=>vv=.int .u32 (qA (DK j) (DK jb) (DK jc) (DK jd)) | 19=>vv=.int .u32 (qB (DK j) (DK jb) (DK jc) (DK jd)) | 20=>vv=.int .u32 (qC (DK j) (DK jb) (DK jc) (DK jd)) | 21=>vv=.int .u32 (qD (DK j) (DK jb) (DK jc) (DK jd)) | _=>True))
        (fun _ _ _ _ h _=>h)
        (fun m ww=>match m with | 0=>ww | 1=>(ww.setCell ⟨A+1,j,none⟩ (.int .u32 (qA (DK j) (DK jb) (DK jc) (DK jd)))) | 2=>((ww.setCell ⟨A+1,j,none⟩ (.int .u32 (qA (DK j) (DK jb) (DK jc) (DK jd)))).setCell ⟨A+1,jb,none⟩ (.int .u32 (qB (DK j) (DK jb) (DK jc) (DK jd)))) | 3=>(((ww.setCell ⟨A+1,j,none⟩ (.int .u32 (qA (DK j) (DK jb) (DK jc) (DK jd)))).setCell ⟨A+1,jb,none⟩ (.int .u32 (qB (DK j) (DK jb) (DK jc) (DK jd)))).setCell ⟨A+1,jc,none⟩ (.int .u32 (qC (DK j) (DK jb) (DK jc) (DK jd)))) | _=>((((ww.setCell ⟨A+1,j,none⟩ (.int .u32 (qA (DK j) (DK jb) (DK jc) (DK jd)))).setCell ⟨A+1,jb,none⟩ (.int .u32 (qB (DK j) (DK jb) (DK jc) (DK jd)))).setCell ⟨A+1,jc,none⟩ (.int .u32 (qC (DK j) (DK jb) (DK jc) (DK jd)))).setCell ⟨A+1,jd,none⟩ (.int .u32 (qD (DK j) (DK jb) (DK jc) (DK jd))))) (fun _=>rfl) ?_ ?_ ?_ ?_
       ·refine dG ?_;refine⟨?_,(fun _ h=>absurd h aM),(fun _ h=>absurd h aM),(fun _ h=>absurd h aM),?_,?_,?_,?_,?_,?_,?_,?_,?_,?_,?_,?_,?_,?_,?_,(fun _ h=>absurd h aM),(fun _ h=>absurd h aM),(fun _ h=>absurd h aM),?_,(aP),(fun _ h=>absurd h aM),(aP),(fun _ h=>absurd h aM),(aP),(fun _ h=>absurd h aM),(aP),trivial⟩
        ·intro _ _ a w2 hB hF hd;exact aN <| aG _ (.inl rfl) aR (hF.same 10 rfl)
        ·intro _ _ a w2 hB hF hd;exact aN <| aG _ (.inl rfl) aR (hF.same 10 rfl)
        ·intro _ _ a w2 hB hF hd;exact aN <| aW (aU rfl (hF.same 8 rfl) (hd 4 _ rfl rfl (aj rfl)) Tryz.underlying262 aQ aH aH) rfl
        ·intro _ _ a w2 hB hF hd;exact aN <| aW (bg rfl (hd 5 _ rfl rfl (aj rfl)) Tryz.underlying117 ((hW.kept hB).cell j l0)) rfl
        ·intro _ _ a w2 hB hF hd;exact aN <| aG _ (.inl rfl) aR (hF.same 11 rfl)
        ·intro _ _ a w2 hB hF hd;exact aN <| aW (aU rfl (hF.same 8 rfl) (hd 7 _ rfl rfl (aj rfl)) Tryz.underlying262 aQ aH aH) rfl
        ·intro _ _ a w2 hB hF hd;exact aN <| aW (bg rfl (hd 8 _ rfl rfl (aj rfl)) Tryz.underlying117 ((hW.kept hB).cell jb lb)) rfl
        ·intro _ _ a w2 hB hF hd;exact aN <| aG _ (.inl rfl) aR (hF.same 12 rfl)
        ·intro _ _ a w2 hB hF hd;exact aN <| aW (aU rfl (hF.same 8 rfl) (hd 10 _ rfl rfl (aj rfl)) Tryz.underlying262 aQ aH aH) rfl
        ·intro _ _ a w2 hB hF hd;exact aN <| aW (bg rfl (hd 11 _ rfl rfl (aj rfl)) Tryz.underlying117 ((hW.kept hB).cell jc lc)) rfl
        ·intro _ _ a w2 hB hF hd;exact aN <| aG _ (.inl rfl) aR (hF.same 13 rfl)
        ·intro _ _ a w2 hB hF hd;exact aN <| aW (aU rfl (hF.same 8 rfl) (hd 13 _ rfl rfl (aj rfl)) Tryz.underlying262 aQ aH aH) rfl
        ·intro _ _ a w2 hB hF hd;exact aN <| aW (bg rfl (hd 14 _ rfl rfl (aj rfl)) Tryz.underlying117 ((hW.kept hB).cell jd ld)) rfl
        ·intro _ _ a w2 hB hF hd;refine aN <| aI _ _ _ rfl Tryz.call230 _ (yD (hd 6 _ rfl rfl (aj rfl)) (hd 9 _ rfl rfl (aj rfl)) (hd 12 _ rfl rfl (aj rfl)) (hd 15 _ rfl rfl (aj rfl))) aR ((Jm (DK j) (DK jb) (DK jc) (DK jd) B0 B4 B8 B12 w2).mono ?_);rintro e w3 ⟨rfl,hb⟩;exact⟨_,rfl,rfl,hb⟩
        ·intro _ _ a w2 hB hF hd;exact aN <| aG _ (.inl rfl) aR (hd 16 _ rfl rfl (aj rfl))
        ·intro _ _ a w2 hB hF hd;exact aN <| aW (bU rfl (hd 17 _ rfl rfl (aj rfl)) rfl) rfl
        ·intro _ _ a w2 hB hF hd;exact aN <| aW (aU rfl (hF.same 8 rfl) (hd 0 _ rfl rfl (aj rfl)) Tryz.underlying262 aQ aH aH) rfl
       ·refine dG ?_;refine⟨(fun _ h=>absurd h aM),?_,?_,?_,(fun _ h=>absurd h aM),(fun _ h=>absurd h aM),(fun _ h=>absurd h aM),(fun _ h=>absurd h aM),(fun _ h=>absurd h aM),(fun _ h=>absurd h aM),(fun _ h=>absurd h aM),(fun _ h=>absurd h aM),(fun _ h=>absurd h aM),(fun _ h=>absurd h aM),(fun _ h=>absurd h aM),(fun _ h=>absurd h aM),(fun _ h=>absurd h aM),(fun _ h=>absurd h aM),(fun _ h=>absurd h aM),?_,?_,?_,(fun _ h=>absurd h aM),(aP),?_,(aP),?_,(aP),?_,(aP),trivial⟩
        ·intro _ _ a w1 w2 hB hF hd;exact aN <| yY _ (.inl rfl) aR (hF.same 11 rfl)
        ·intro _ _ a w1 w2 hB hF hd;exact aN <| yY _ (.inl rfl) aR (hF.same 12 rfl)
        ·intro _ _ a w1 w2 hB hF hd;exact aN <| yY _ (.inl rfl) aR (hF.same 13 rfl)
        ·intro _ _ a w1 w2 hB hF hd;exact aN <| oJ (fun h=>by cases h) (bU rfl (hd 17 _ rfl rfl (aj rfl)) rfl) rfl
        ·intro _ _ a w1 w2 hB hF hd;exact aN <| oJ (fun h=>by cases h) (bU rfl (hd 17 _ rfl rfl (aj rfl)) rfl) rfl
        ·intro _ _ a w1 w2 hB hF hd;exact aN <| oJ (fun h=>by cases h) (bU rfl (hd 17 _ rfl rfl (aj rfl)) rfl) rfl
        ·intro _ _ a w1 w2 hB hF hd;exact aN <| oJ (fun h=>by cases h) (aU rfl (hF.same 8 rfl) (hd 1 _ rfl rfl (aj rfl)) Tryz.underlying262 aQ aH aH) rfl
        ·intro _ _ a w1 w2 hB hF hd;exact aN <| oJ (fun h=>by cases h) (aU rfl (hF.same 8 rfl) (hd 2 _ rfl rfl (aj rfl)) Tryz.underlying262 aQ aH aH) rfl
        ·intro _ _ a w1 w2 hB hF hd;exact aN <| oJ (fun h=>by cases h) (aU rfl (hF.same 8 rfl) (hd 3 _ rfl rfl (aj rfl)) Tryz.underlying262 aQ aH aH) rfl
       ·intro q o hq ho;rcases(by simp at hq;omega:q=0\/q=1\/q=2\/q=3) with rfl | rfl | rfl | rfl
        ·obtain rfl:=gJ ho;intro a w2 K hB hF hd hK;exact jC 117 _ _ rfl rfl (A+1) (j) 16 _ (qA (DK j) (DK jb) (DK jc) (DK jd)) Tryz.size117 (hd 22 _ rfl rfl (aj rfl)) (hd 18 _ rfl rfl (aj rfl)) (hW.kept hB) (by first | decide | omega) hK
        ·obtain rfl:=gJ ho;intro a w2 K hB hF hd hK;exact jC 117 _ _ rfl rfl (A+1) (jb) 16 _ (qB (DK j) (DK jb) (DK jc) (DK jd)) Tryz.size117 (hd 24 _ rfl rfl (aj rfl)) (hd 19 _ rfl rfl (aj rfl)) ((hW.kept hB).set (j) (qA (DK j) (DK jb) (DK jc) (DK jd))) (by first | decide | omega) hK
        ·obtain rfl:=gJ ho;intro a w2 K hB hF hd hK;exact jC 117 _ _ rfl rfl (A+1) (jc) 16 _ (qC (DK j) (DK jb) (DK jc) (DK jd)) Tryz.size117 (hd 26 _ rfl rfl (aj rfl)) (hd 20 _ rfl rfl (aj rfl)) (((hW.kept hB).set (j) (qA (DK j) (DK jb) (DK jc) (DK jd))).set (jb) (qB (DK j) (DK jb) (DK jc) (DK jd))) (by first | decide | omega) hK
        ·obtain rfl:=gJ ho;intro a w2 K hB hF hd hK;exact jC 117 _ _ rfl rfl (A+1) (jd) 16 _ (qD (DK j) (DK jb) (DK jc) (DK jd)) Tryz.size117 (hd 28 _ rfl rfl (aj rfl)) (hd 21 _ rfl rfl (aj rfl)) ((((hW.kept hB).set (j) (qA (DK j) (DK jb) (DK jc) (DK jd))).set (jb) (qB (DK j) (DK jb) (DK jc) (DK jd))).set (jc) (qC (DK j) (DK jb) (DK jc) (DK jd))) (by first | decide | omega) hK
       ·intro a w4 hB hF hS;have ha:=aO rfl rfl hF [_,_,_,_,_,_,_,_,_,_,_,_,_,_,_,_,_,_,_,_,_,_,_,undef,_,undef,_,undef,_,undef] rfl ⟨hS 0 _ rfl rfl,hS 1 _ rfl rfl,hS 2 _ rfl rfl,hS 3 _ rfl rfl,hS 4 _ rfl rfl,hS 5 _ rfl rfl,hS 6 _ rfl rfl,hS 7 _ rfl rfl,hS 8 _ rfl rfl,hS 9 _ rfl rfl,hS 10 _ rfl rfl,hS 11 _ rfl rfl,hS 12 _ rfl rfl,hS 13 _ rfl rfl,hS 14 _ rfl rfl,hS 15 _ rfl rfl,hS 16 _ rfl rfl,hS 17 _ rfl rfl,hS 18 _ rfl rfl,hS 19 _ rfl rfl,hS 20 _ rfl rfl,hS 21 _ rfl rfl,hS 22 _ rfl rfl,trivial,hS 24 _ rfl rfl,trivial,hS 26 _ rfl rfl,trivial,hS 28 _ rfl rfl,trivial,trivial⟩;simp only[puts,Act.put,fB,fD,fF] at ha;subst ha;have VA:=(((((hW.kept hB).set (j) (qA (DK j) (DK jb) (DK jc) (DK jd))).set (jb) (qB (DK j) (DK jb) (DK jc) (DK jd))).set (jc) (qC (DK j) (DK jb) (DK jc) (DK jd))).set (jd) (qD (DK j) (DK jb) (DK jc) (DK jd)))
        clear hS hF;have qX:=(((((HZ.out.kept hB).other (p:=⟨A+1,j,none⟩) iU (.int .u32 (qA (DK j) (DK jb) (DK jc) (DK jd)))).other (p:=⟨A+1,jb,none⟩) iU (.int .u32 (qB (DK j) (DK jb) (DK jc) (DK jd)))).other (p:=⟨A+1,jc,none⟩) iU (.int .u32 (qC (DK j) (DK jb) (DK jc) (DK jd)))).other (p:=⟨A+1,jd,none⟩) iU (.int .u32 (qD (DK j) (DK jb) (DK jc) (DK jd))))
        have zn:=(((((HA.out.kept hB).other (p:=⟨A+1,j,none⟩) aR (.int .u32 (qA (DK j) (DK jb) (DK jc) (DK jd)))).other (p:=⟨A+1,jb,none⟩) aR (.int .u32 (qB (DK j) (DK jb) (DK jc) (DK jd)))).other (p:=⟨A+1,jc,none⟩) aR (.int .u32 (qC (DK j) (DK jb) (DK jc) (DK jd)))).other (p:=⟨A+1,jd,none⟩) aR (.int .u32 (qD (DK j) (DK jb) (DK jc) (DK jd))))
        have jF:=(((((HB.out.trans (hB.mono HB.out.size)).setCell (p:=⟨A+1,j,none⟩) iU (.int .u32 (qA (DK j) (DK jb) (DK jc) (DK jd)))).setCell (p:=⟨A+1,jb,none⟩) iU (.int .u32 (qB (DK j) (DK jb) (DK jc) (DK jd)))).setCell (p:=⟨A+1,jc,none⟩) iU (.int .u32 (qC (DK j) (DK jb) (DK jc) (DK jd)))).setCell (p:=⟨A+1,jd,none⟩) iU (.int .u32 (qD (DK j) (DK jb) (DK jc) (DK jd))))
        have hW4:=VA.congr (g:=Ux (Nl S r) (4 * s+(j+1))) (fun i _=>(WB DK j jb jc jd HNE.out i).trans (HQR.out i));clear VA hW hB;go_upto_region 13 with(fail);refine aJ (fun w5=>aK .u8 w5 (w.heap.size+2) 64 (fun _=>0)/\aK .u32 w5 A 16 S/\aK .u32 w5 (A+1) 16 (Ux (Nl S r) (4 * s+(j+1)))/\Below w.heap.size w w5) ⟨qX,zn,hW4,jF⟩ ?_;rintro w5 ⟨qF,wF,hW5,lW⟩;clear qX zn hW4 jF HZ HA HW HB;go_wp2;go_roundw
        case rel=>exact⟨j+1,by omega,by go_num,qF,wF,hW5,lW⟩
        case measure=>simp[intOf] <;> omega
      ·obtain rfl:j=4:=by omega
       have HZ:=ay hZ;have HA:=ay hA;have HW:=ay hW;have HB:=ay aD;clear hZ hA hW aD;go_wp2;go_roundw
       case rel=>exact⟨s+1,by omega,by go_num,HZ.out,HA.out,HW.out,HB.out⟩
       case measure=>simp[intOf] <;> omega
    ·obtain rfl:s=2:=by omega
     go_wp2;go_roundw
     case rel=>exact⟨r+1,by omega,by go_num,HZ.out,HA.out,HW.out,HB.out⟩
     case measure=>simp[intOf] <;> omega
  ·obtain rfl:r=10:=by omega
   have HZ:=ay hZ;have HA:=ay hA;have HW:=ay hW;have HB:=ay aD;clear hZ hA hW aD;go_wp2
   go_loopw [74] (fun i wr=> ∃k:Nat,k<=16/\i=.int .i64 k/\aK .u8 wr (w.heap.size+2) 64 (fun _=>0)/\aK .u32 wr A 16 S/\aK .u32 wr (A+1) 16 (upto k (Gf key nonce c) (Nl S 10))/\Below w.heap.size w wr) (fun i _=>16 - (intOf i).toNat)
   case atStart=>exact⟨0,jm _,rfl,HZ.out,HA.out,by rw[dR];exact HW.out,HB.out⟩
   case round=>
    clear HZ HA HW HB;obtain⟨k,hk,rfl,hZ,hA,hW,aD⟩:=hrel;have HZ:=ay hZ;have HA:=ay hA;have HW:=ay hW;by_cases hkt:k<16
    ·have e1:=hW.cell k hkt;rw[upto_at] at e1;have e2:=hA.cell k hkt;have f1:=hW.free k;obtain⟨b0,b1⟩:=DW.out k hkt;obtain⟨b2,b3⟩:=yU DW.out 10 k hkt;have HV:Hid ((Nl S 10 k+S k) % 4294967296=Gf key nonce c k):=by unfold Hid Gf;rw[HSE.out]
     clear hZ hA hW;go_wp2
     go_region
     all_goals
      go_wp2;go_roundw
      case rel=>exact⟨k+1,by omega,by go_num,(HZ.out.other iU _).drew,(HA.out.other aR _).drew,by rw[<-dh HV.out];exact(HW.out.set k _).drew,(aD.setCell iU _).drew⟩
      case measure=>simp[intOf] <;> omega
    ·obtain rfl:k=16:=by omega
     have hW2:=hW.congr (fJ _ _ (bH _));clear hW hA;go_wp2_with fail;refine(MK _ 16 (Gf key nonce c) _ (hW2.rd aM) (fun i _=>by unfold Gf;omega) aM).mono ?_;rintro e w5 ⟨v,rfl,hv,lW⟩;have qF:=hZ.kept lW;have gQ:=aD.trans (lW.mono aD.size);obtain⟨g,cc,rfl,q1,q2,q3,q4,hcells,q5⟩:=hv.form aM;have uY:Hid (∀i,i<64->w5.cell? ⟨g,0+i,none⟩=some (.int .u8 (uh key nonce c i))):=fun i hi=>by rw[qY];exact hcells i aH
     have hat:=lN (a:=some ⟨g,0,none⟩) (len:=64) (cap:=cc) Tryz.underlying47 aM;clear hv hcells q5 hZ aD lW hW2 HZ HA HW
     go_wp2_with (first
      | (refine oz rfl 47 _ rfl .u8 g 0 64 (uh key nonce c) 5 Tryz.underlying47 Tryz.size47 rfl uY.out ?_)
      | (refine aL rfl 47 _ _ rfl .u8 (w.heap.size+2) 64 (fun _=>0) _ Tryz.size47 rfl rfl qF ?_))
     exact bodyPost_ret (bV rfl _ _ .u8 (w.heap.size+2) 64 _ 5 rfl (qF.setRow _ _) Tryz.underlying47 Tryz.size47) rfl ⟨rfl,aB gQ aH _⟩
end Go.Proofs.YtpcjekgfnfjbpaaGreat
