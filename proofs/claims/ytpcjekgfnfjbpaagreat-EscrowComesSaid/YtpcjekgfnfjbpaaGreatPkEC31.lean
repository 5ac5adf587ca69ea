/- Part 31 of EscrowComes; conditions: in each theorem. -/
import Derived.Test.YtpcjekgfnfjbpaaGreatPkEC11
import Derived.Deep.DrawnRows
import Derived.Deep.RegionHeld3
set_option linter.unusedVariables false
set_option linter.unusedSimpArgs false
set_option maxRecDepth 100000
set_option maxHeartbeats 800000
namespace Go.Proofs.YtpcjekgfnfjbpaaGreat
open Go.RowKit Go.bI
attribute [local go_sem ↓] Go.wp_at_zero Go.wp_at_succ
def zf (f:Nat->Int) (i:Nat):Int:=f (4 * i)+f (4 * i+1) * 256+f (4 * i+2) * 65536+f (4 * i+3) * 16777216
theorem or4 {a b c d:Int} (ha:0<=a/\a<256) (hb:0<=b/\b<256) (hc:0<=c/\c<256) (hd:0<=d/\d<256):
  bits .or .u32 (bits .or .u32 (bits .or .u32 a (b * 256)) (c * 65536)) (d * 16777216)=a+b * 256+c * 65536+d * 16777216:=by
 rw[u32_or a _ aH aH aH aH,Nat.or_comm,nat_join 8 _ _ aH aH];rw[u32_or _ (c * 65536) aH aH aH aH,Nat.or_comm,nat_join 16 _ _ aH aH];rw[u32_or _ (d * 16777216) aH aH aH aH,Nat.or_comm,nat_join 24 _ _ aH aH];omega
theorem BG (va:Value) (q:Nat) (f:Nat->Int) (w:World) (ha:Rd .u8 w va (4 * q) f) (hf:∀i,i<4 * q->0<=f i/\f i<256) (hq:q<=1099511627776):
  Calls Tryz.prog 256 #[va] w fun e w'=> ∃v,e=.returned (.tuple #[v,.int .i64 0])/\Own .u32 117 w.heap.size w' v q (zf f)/\Below w.heap.size w w':=by
 obtain⟨a1,c1,rfl,l1,m1,z1,h1⟩:=ha;have HA:Hid (Rd .u8 w (.slice a1 (4 * q) c1) (4 * q) f):=⟨a1,c1,rfl,l1,m1,z1,h1⟩
 have HF:=ay hf;clear h1 z1 hf;obtain⟨n,hn⟩:∃n,n=4 * q:=⟨_,rfl⟩
 rw[<-hn] at HA l1 ⊢;have HN:=ay hn;have ht:((n:Int) % 4 !=0)=false:=by simp;omega
 have hn9:n<=4398046511104:=by omega
 clear hn
 go_enter Tryz.func256,Tryz.ntmps256
 go_wp2
 go_loopw [0,4] (fun x v wr=> ∃(j m c:Nat) (a:Option Addr),n<=4 * j+m/\4 * j+m<=n/\m<=c/\c<=9223372036854775807/\x=.slice a m c/\Rd .u8 w x m (fun i=>f (4 * j+i))/\Own .u32 117 w.heap.size wr v j (zf f)/\Below w.heap.size w wr) (fun x _ _=>match x with | .slice _ m _=>m | _=>0)
 case atStart=>exact⟨0,n,c1,a1,by omega,by omega,l1,m1,rfl,by simpa using HA.out,Own.nil _ _ _ _ _,bT _ _⟩
 case round=>
  obtain⟨j,m,c,a,hjm,apj,hmc,hc9,rfl,hr,ho,aD⟩:=hrel;by_cases hm:m=0
  ·subst hm;have HO:=ay ho;clear ho hr;go_wp2;go_ret2;have hj:j=q:=by have:=HN.out;omega
   subst hj;exact⟨_,rfl,HO.out,aD⟩
  ·have hm4:4<=m:=by have:=HN.out;omega
   have hr0:=hr;obtain⟨a0,c0,he,_,_,_,h4⟩:=hr;simp only[VQ,true_and] at he;obtain⟨rfl,rfl⟩:=he;obtain⟨b,o,rfl,hb,hcell⟩:=h4 aH;have e0:wr.cell? ⟨b,o,none⟩=some (.int .u8 (f (4 * j))):=(aD.cell (p:=⟨b,o,none⟩) hb).trans (by simpa using hcell 0 aH);have e1:=(aD.cell (p:=⟨b,o+1,none⟩) hb).trans (hcell 1 aH);have e2:=(aD.cell (p:=⟨b,o+2,none⟩) hb).trans (hcell 2 aH);have e3:=(aD.cell (p:=⟨b,o+3,none⟩) hb).trans (hcell 3 aH);have HO:=ay ho;have HR:=ay hr0;have gP:=aD.size;have hor:bits .or .u32 (bits .or .u32 (bits .or .u32 (f (4 * j)) (f (4 * j+1) * 256)) (f (4 * j+2) * 65536)) (f (4 * j+3) * 16777216)=zf f j:=or4 (HF.out _ (by have:=HN.out;omega)) (HF.out _ (by have:=HN.out;omega)) (HF.out _ (by have:=HN.out;omega)) (HF.out _ (by have:=HN.out;omega));obtain⟨p0,p0'⟩:=HF.out (4 * j) (by have:=HN.out;omega);obtain⟨p1,p1'⟩:=HF.out (4 * j+1) (by have:=HN.out;omega);obtain⟨p2,p2'⟩:=HF.out (4 * j+2) (by have:=HN.out;omega);obtain⟨p3,p3'⟩:=HF.out (4 * j+3) (by have:=HN.out;omega);have gW:=HO.out.far hb;have u0:=jK p0 aH;have u1:=jK p1 aH;have u2:=jK p2 aH;have u3:=jK p3 aH;have u4:=jK (x:=f (4 * j+1) * 256) aH aH;have u5:=jK (x:=f (4 * j+2) * 65536) aH aH;have u6:=jK (x:=f (4 * j+3) * 16777216) aH aH;have i1:(1:Int)<m:=by omega
   have i2:(2:Int)<m:=by omega
   have i3:(3:Int)<m:=by omega
   clear hcell h4 hr0 ho;go_wp2
   go_region_held3 (fun w'=>w'.cell? ⟨b,o,none⟩=some (.int .u8 (f (4 * j)))/\w'.cell? ⟨b,o+1,none⟩=some (.int .u8 (f (4 * j+1)))/\w'.cell? ⟨b,o+2,none⟩=some (.int .u8 (f (4 * j+2)))/\w'.cell? ⟨b,o+3,none⟩=some (.int .u8 (f (4 * j+3)))) (first | go_keep | exact⟨uP dL gW e0,uP dL gW e1,uP dL gW e2,uP dL gW e3⟩) ((refine BU (by rfl) _ _ 223 (by rfl) w.heap.size 117 .u32 4 Tryz.underlying223 Tryz.info117 _ j (zf f) (by exact(HO.out.alloc _).drew) (by rfl) _ 1 (fun _=>zf f j) (by exact(Own.new .u32 117 wr _ 1 _ (jm _) aM rfl (fun i hi=>Tw hi rfl)).rd) (by rfl) (fun i hi=>ajU hi) aH aH iU ?_;intro v' w1 cK dL))
   clear u0 u1 u2 u3 u4 u5 u6 hor;go_wp2;go_roundw
   case rel=>exact⟨j+1,m - 4,c - 4,_,by omega,by omega,by omega,by omega,rfl,(Rd.cutAt HR.out 4 (m - 4) aH).congr (fun i hi=>by show f (4 * j+(4+i))=f (4 * (j+1)+i);congr 1;omega),cK,below_grown ((aD.alloc gP _).drew) dL HO.out iU (bH _)⟩
   case measure=>simp;omega
def Va (f:Nat->Int) (j:Nat):Int:=big (fun i=>f (8 * j+i)) 8
theorem Nw (va:Value) (q:Nat) (f:Nat->Int) (w:World) (ha:Rd .u8 w va (8 * q) f) (hf:∀i,i<8 * q->0<=f i/\f i<256) (hq:q<=1099511627776):
  Calls Tryz.prog 261 #[va] w fun e w'=> ∃v,e=.returned (.tuple #[v,.int .i64 0])/\Own .u64 132 w.heap.size w' v q (Va f)/\Below w.heap.size w w':=by
 obtain⟨a1,c1,rfl,l1,m1,z1,h1⟩:=ha;have HA:Hid (Rd .u8 w (.slice a1 (8 * q) c1) (8 * q) f):=⟨a1,c1,rfl,l1,m1,z1,h1⟩
 have HF:=ay hf;clear h1 z1 hf;obtain⟨n,hn⟩:∃n,n=8 * q:=⟨_,rfl⟩
 rw[<-hn] at HA l1 ⊢;have HN:=ay hn;have ht:((n:Int) % 8 !=0)=false:=by simp;omega
 have hn9:n<=8796093022208:=by omega
 clear hn
 go_enter Tryz.func261,Tryz.ntmps261
 go_wp2
 go_loopw [0,4] (fun x v wr=> ∃(j m c:Nat) (a:Option Addr),n<=8 * j+m/\8 * j+m<=n/\m<=c/\c<=9223372036854775807/\x=.slice a m c/\Rd .u8 w x m (fun i=>f (8 * j+i))/\Own .u64 132 w.heap.size wr v j (Va f)/\Below w.heap.size w wr) (fun x _ _=>match x with | .slice _ m _=>m | _=>0)
 case atStart=>exact⟨0,n,c1,a1,by omega,by omega,l1,m1,rfl,by simpa using HA.out,Own.nil _ _ _ _ _,bT _ _⟩
 case round=>
  obtain⟨j,m,c,a,hjm,apj,hmc,hc9,rfl,hr,ho,aD⟩:=hrel;obtain⟨wo,rfl⟩:∃wo:World,wo=wr:=⟨_,rfl⟩
  by_cases hm:m=0
  ·subst hm;have HO:=ay ho;clear ho hr;go_wp2;go_ret2;have hj:j=q:=by have:=HN.out;omega
   subst hj;exact⟨_,rfl,HO.out,aD⟩
  ·have hm8:8<=m:=by have:=HN.out;omega
   have hr0:=hr;obtain⟨a0,c0,he,_,_,_,h4⟩:=hr;simp only[VQ,true_and] at he;obtain⟨rfl,rfl⟩:=he;obtain⟨b,o,rfl,hb,hcell⟩:=h4 aH;have HO:=ay ho;have HR:=ay hr0;have HC:=ay hcell;have gP:=aD.size;have hc0:¬ c=0:=by omega
   clear hcell h4 hr0 ho;go_wp2
   go_loop [5,20] (fun x i=> ∃k:Nat,k<=8/\x=.int .u64 (big (fun i=>f (8 * j+i)) k)/\i=.int .i64 k) (fun _ i=>8 - (intOf i).toNat)
   case atStart=>exact⟨0,by omega,rfl,rfl⟩
   case round=>
    obtain⟨k,hk,rfl,rfl⟩:=hrel;have HG:∀i,i<8->0<=f (8 * j+i)/\f (8 * j+i)<256:=fun i hi=>HF.out _ (by have:=HN.out;omega);have HG':=ay HG;clear HG;by_cases hlt:k<8
    ·have e1:=(aD.cell (p:=⟨b,o+k,none⟩) hb).trans (HC.out k aH);obtain⟨f0,f1⟩:=HG'.out k hlt;have b0:=(qW HG'.out k hk).1;have b2:big (fun i=>f (8 * j+i)) k<72057594037927936:=Qe HG'.out k 7 hk aH;go_wp2
     go_round
     case rel=>exact⟨k+1,by omega,by rw[XI b0 b2 f0 f1];rfl,by go_num⟩
     case measure=>simp[intOf] <;> omega
    ·obtain rfl:k=8:=by omega
     go_wp2_with (at_builtin;refine jE rfl _ _ 129 rfl w.heap.size 132 .u64 8 Tryz.underlying129 Tryz.info132 _ j (Va f) (HO.out.alloc _) rfl _ 1 (fun _=>Va f j) (Own.new .u64 132 wo _ 1 _ (jm _) aM rfl (fun i hi=>Tw hi rfl)).rd rfl (fun i hi=>ajU hi) aH aH iU ?_;intro v' w1 cK dL);go_roundw
     case rel=>exact⟨j+1,m - 8,c - 8,_,by omega,by omega,by omega,by omega,rfl,(Rd.cutAt HR.out 8 (m - 8) aH).congr (fun i hi=>by show f (8 * j+(8+i))=f (8 * (j+1)+i);congr 1;omega),cK,below_grown (aD.alloc gP _) dL HO.out iU (bH _)⟩
     case measure=>simp;omega
def UH (f:Nat->Int) (p:Nat):Int:=f (p / 4) / 256 ^ (p % 4) % 256
theorem adq (f:Nat->Int) (k t:Nat) (h:t<4):UH f (k * 4+t)=f k / 256 ^ t % 256:=by
 unfold UH;rw[show (k * 4+t) / 4=k by omega,show (k * 4+t) % 4=t by omega]
def qx (f:Nat->Int) (p:Nat):Int:=f (p / 8) / 2 ^ (8 * (7 - p % 8)) % 256
theorem adp (f:Nat->Int) (k t:Nat) (h:t<8):qx f (k * 8+t)=f k / 2 ^ (8 * (7 - t)) % 256:=by
 unfold qx;rw[show (k * 8+t) / 8=k by omega,show (k * 8+t) % 8=t by omega]
theorem MK (va:Value) (n:Nat) (f:Nat->Int) (w:World) (ha:Rd .u32 w va n f) (hf:∀i,i<n->0<=f i/\f i<4294967296) (hn:n<=1099511627776):
  Calls Tryz.prog 231 #[va] w fun e w'=> ∃v,e=.returned v/\Own .u8 5 w.heap.size w' v (n * 4) (UH f)/\Below w.heap.size w w':=by
 obtain⟨a1,c1,rfl,l1,m1,z1,h1⟩:=ha;have H1:=ay h1;have HF:=ay hf;clear h1 z1 hf
 go_enter Tryz.func231,Tryz.ntmps231
 go_wp2
 go_loopw [3,8] (fun v i wr=> ∃k:Nat,k<=n/\i=.int .i64 k/\Own .u8 5 w.heap.size wr v (k * 4) (UH f)/\Below w.heap.size w wr) (fun _ i _=>n - (intOf i).toNat)
 case atStart=>exact⟨0,jm _,rfl,by rw[Nat.zero_mul];exact Own.nil _ _ _ _ _,bT _ _⟩
 case round=>
  obtain⟨k,hk,rfl,ho,aD⟩:=hrel;have HO:=ay ho;have gP:=aD.size;clear ho;by_cases hlt:k<n
  ·obtain⟨b,o,rfl,hb,hc⟩:=H1.out aH;have e1:=(aD.cell (p:=⟨b,o+k,none⟩) hb).trans (hc k hlt);obtain⟨f0,f1⟩:=HF.out k hlt;clear hc;go_wp2_with (at_builtin;refine jE rfl _ _ 23 rfl w.heap.size 5 .u8 1 mo yL _ (k * 4) (UH f) (HO.out.alloc _) rfl _ 4 (fun t=>UH f (k * 4+t)) (Own.new .u8 5 wr _ 4 _ (jm _) aM rfl ?_).rd rfl (fun i hi=>rfl) aH aH iU ?_;rotate_right;intro v' w1 cK dL)
   ·go_roundw
    case rel=>exact⟨k+1,by omega,by go_num,by rw[Nat.succ_mul];exact cK,below_grown (aD.alloc gP _) dL HO.out iU (bH _)⟩
    case measure=>simp[intOf] <;> omega
   ·intro i hi;rw[adq f k i hi]
    match i,hi with
    | 0,_=>simp
    | 1,_=>rfl
    | 2,_=>rfl
    | 3,_=>
     show some (Value.int IntKind.u8 (f k / 16777216))=some (Value.int IntKind.u8 (f k / 16777216 % 256))
     congr 2;omega
  ·obtain rfl:k=n:=by omega
   go_wp2;go_ret;exact⟨_,rfl,HO.out,aD⟩
theorem Aj (va:Value) (n:Nat) (f:Nat->Int) (w:World) (ha:Rd .u64 w va n f) (hf:∀i,i<n->0<=f i/\f i<18446744073709551616) (hn:n<=1099511627776):
  Calls Tryz.prog 197 #[va] w fun e w'=> ∃v,e=.returned v/\Own .u8 5 w.heap.size w' v (n * 8) (qx f)/\Below w.heap.size w w':=by
 obtain⟨a1,c1,rfl,l1,m1,z1,h1⟩:=ha;have H1:=ay h1;have HF:=ay hf;clear h1 z1 hf
 go_enter Tryz.func197,Tryz.ntmps197
 go_wp2
 go_loopw [3,9] (fun v i wr=> ∃k:Nat,k<=n/\i=.int .i64 k/\Own .u8 5 w.heap.size wr v (k * 8) (qx f)/\Below w.heap.size w wr) (fun _ i _=>n - (intOf i).toNat)
 case atStart=>exact⟨0,jm _,rfl,by rw[Nat.zero_mul];exact Own.nil _ _ _ _ _,bT _ _⟩
 case round=>
  obtain⟨k,hk,rfl,ho,aD⟩:=hrel;obtain⟨wo,rfl⟩:∃wo:World,wo=wr:=⟨_,rfl⟩
  have HO:=ay ho;have gP:=aD.size;clear ho;by_cases hlt:k<n
  ·obtain⟨b,o,rfl,hb,hc⟩:=H1.out aH;have e1:=(aD.cell (p:=⟨b,o+k,none⟩) hb).trans (hc k hlt);obtain⟨f0,f1⟩:=HF.out k hlt;have HB:=ay aD;clear hc aD;go_wp2
   go_loopw [3,6] (fun v i wr=> ∃(r:Nat) (x:Int),r<=8/\x=8 * (r:Int) - 8/\i=.int .i64 x/\Own .u8 5 w.heap.size wr v (k * 8+(8 - r)) (qx f)/\Below w.heap.size w wr) (fun _ i _=>(intOf i+8).toNat)
   case atStart=>exact⟨8,56,by omega,by omega,rfl,HO.out,HB.out⟩
   case round=>
    obtain⟨r,x,hr,hx,rfl,ho,aD⟩:=hrel;have Ni:=ay ho;have hsz2:=aD.size;clear ho;rcases r with _ | r
    ·obtain rfl:x= -8:=by omega
     clear hx;go_wp2;go_roundw
     case rel=>exact⟨k+1,by omega,by go_num,by rw[Nat.succ_mul];exact Ni.out,aD⟩
     case measure=>simp[intOf] <;> omega
    ·obtain rfl:x=((8 * r:Nat):Int):=by omega
     clear hx;have hr7:r<=7:=by omega
     go_wp2_with (at_builtin;refine jE rfl _ _ 23 rfl w.heap.size 5 .u8 1 mo yL _ (k * 8+(8 - (r+1))) (qx f) (Ni.out.alloc _) rfl _ 1 (fun t=>qx f (k * 8+(8 - (r+1))+t)) (Own.new .u8 5 wr _ 1 _ (jm _) aM rfl (fun i hi=>Tw hi ?_)).rd rfl (fun i hi=>rfl) aH aH iU ?_;rotate_right;intro v' w1 cK dL)
     ·go_roundw
      case rel=>exact⟨r,_,by omega,rfl,by congr 1,by rw[show k * 8+(8 - r)=k * 8+(8 - (r+1))+1 by omega];exact cK,below_grown (aD.alloc hsz2 _) dL Ni.out iU (bH _)⟩
      case measure=>simp[intOf] <;> omega
     ·obtain rfl:i=0:=by omega
      show _=qx f (k * 8+(8 - (r+1)));rw[adp f k _ aH,show 7 - (8 - (r+1))=r by omega]
  ·obtain rfl:k=n:=by omega
   go_wp2;go_ret;exact⟨_,rfl,HO.out,aD⟩
end Go.Proofs.YtpcjekgfnfjbpaaGreat
