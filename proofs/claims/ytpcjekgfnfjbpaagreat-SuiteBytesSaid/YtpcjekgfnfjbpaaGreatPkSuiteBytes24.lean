/- Part 24 of SuiteBytes; conditions: in each theorem. -/
import Derived.Test.YtpcjekgfnfjbpaaGreatPkSuiteBytes7
import Derived.Deep.DrawnRows
import Derived.Deep.RegionHeld3
set_option linter.unusedVariables false
set_option linter.unusedSimpArgs false
set_option maxRecDepth 100000
set_option maxHeartbeats 800000
namespace Go.Proofs.YtpcjekgfnfjbpaaGreat
open Go.RowKit Go.bC
attribute [local go_sem ↓] Go.wp_at_zero Go.wp_at_succ
theorem WR (va:Value) (n:Nat) (f:Nat->Int) (w:World) (ha:Rd .u8 w va n f) (hf:∀i,i<n->0<=f i/\f i<256) (h8:n<=8):
  Calls Tryz.prog 86 #[va] w fun e w'=>e=.returned (.int .u64 (big f n))/\Below w.heap.size w w':=by
 obtain⟨a1,c1,rfl,l1,m1,z1,h1⟩:=ha;have H1:=ak h1;have HF:=ak hf;clear h1 z1 hf
 go_enter Tryz.func86,Tryz.ntmps86
 go_wp2
 go_loop [3,4] (fun x i=> ∃k:Nat,k<=n/\x=.int .u64 (big f k)/\i=.int .i64 k) (fun _ i=>n - (intOf i).toNat)
 case atStart=>exact⟨0,gX _,rfl,rfl⟩
 case round=>
  obtain⟨k,hk,rfl,rfl⟩:=hrel;by_cases hlt:k<n
  ·obtain⟨b,o,rfl,hb,hc⟩:=H1.out aH;have e1:=hc k hlt;obtain⟨f0,f1⟩:=HF.out k hlt;have b0:=(nQ HF.out k hk).1;have b2:big f k<72057594037927936:=Il HF.out k 7 hk aH;clear hc;go_wp2
   go_round
   case rel=>exact⟨k+1,by omega,rfl,by go_num⟩
   case measure=>simp[intOf] <;> omega
  ·obtain rfl:k=n:=by omega
   go_wp2;go_ret;exact⟨rfl,bT _ _⟩
def Rv (f:Nat->Int) (j:Nat):Int:=big (fun i=>f (8 * j+i)) 8
theorem Lr (va:Value) (q:Nat) (f:Nat->Int) (w:World) (ha:Rd .u8 w va (8 * q) f) (hf:∀i,i<8 * q->0<=f i/\f i<256) (hq:q<=1099511627776):
  Calls Tryz.prog 261 #[va] w fun e w'=> ∃v,e=.returned (.tuple #[v,.int .i64 0])/\Own .u64 132 w.heap.size w' v q (Rv f)/\Below w.heap.size w w':=by
 obtain⟨a1,c1,rfl,l1,m1,z1,h1⟩:=ha;have HA:Hid (Rd .u8 w (.slice a1 (8 * q) c1) (8 * q) f):=⟨a1,c1,rfl,l1,m1,z1,h1⟩
 have HF:=ak hf;clear h1 z1 hf;obtain⟨n,hn⟩:∃n,n=8 * q:=⟨_,rfl⟩
 rw[<-hn] at HA l1 ⊢;have HN:=ak hn;have ht:((n:Int) % 8 !=0)=false:=by simp;omega
 have hn9:n<=8796093022208:=by omega
 clear hn
 go_enter Tryz.func261,Tryz.ntmps261
 go_wp2
 go_loopw [0,4] (fun x v wr=> ∃(j m c:Nat) (a:Option Addr),n<=8 * j+m/\8 * j+m<=n/\m<=c/\c<=9223372036854775807/\x=.slice a m c/\Rd .u8 w x m (fun i=>f (8 * j+i))/\Own .u64 132 w.heap.size wr v j (Rv f)/\Below w.heap.size w wr) (fun x _ _=>match x with | .slice _ m _=>m | _=>0)
 case atStart=>exact⟨0,n,c1,a1,by omega,by omega,l1,m1,rfl,by simpa using HA.out,Own.nil _ _ _ _ _,bT _ _⟩
 case round=>
  obtain⟨j,m,c,a,hjm,aqL,hmc,hc9,rfl,hr,ho,aA⟩:=hrel;obtain⟨wo,rfl⟩:∃wo:World,wo=wr:=⟨_,rfl⟩
  by_cases hm:m=0
  ·subst hm;have HO:=ak ho;clear ho hr;go_wp2;go_ret2;have hj:j=q:=by have:=HN.out;omega
   subst hj;exact⟨_,rfl,HO.out,aA⟩
  ·have MP:8<=m:=by have:=HN.out;omega
   have hr0:=hr;obtain⟨a0,c0,he,_,_,_,h4⟩:=hr;simp only[DV,true_and] at he;obtain⟨rfl,rfl⟩:=he;obtain⟨b,o,rfl,hb,hcell⟩:=h4 aH;have HO:=ak ho;have HR:=ak hr0;have HC:=ak hcell;have fD:=aA.size;have hc0:¬ c=0:=by omega
   clear hcell h4 hr0 ho;go_wp2
   go_loop [5,20] (fun x i=> ∃k:Nat,k<=8/\x=.int .u64 (big (fun i=>f (8 * j+i)) k)/\i=.int .i64 k) (fun _ i=>8 - (intOf i).toNat)
   case atStart=>exact⟨0,by omega,rfl,rfl⟩
   case round=>
    obtain⟨k,hk,rfl,rfl⟩:=hrel;have HG:∀i,i<8->0<=f (8 * j+i)/\f (8 * j+i)<256:=fun i hi=>HF.out _ (by have:=HN.out;omega);have HG':=ak HG;clear HG;by_cases hlt:k<8
    ·have e1:=(aA.cell (p:=⟨b,o+k,none⟩) hb).trans (HC.out k aH);obtain⟨f0,f1⟩:=HG'.out k hlt;have b0:=(nQ HG'.out k hk).1;have b2:big (fun i=>f (8 * j+i)) k<72057594037927936:=Il HG'.out k 7 hk aH;go_wp2
     go_round
     case rel=>exact⟨k+1,by omega,by rw[TW b0 b2 f0 f1];rfl,by go_num⟩
     case measure=>simp[intOf] <;> omega
    ·obtain rfl:k=8:=by omega
     go_wp2_with (at_builtin;refine fH rfl _ _ 129 rfl w.heap.size 132 .u64 8 DY Tryz.info132 _ j (Rv f) (HO.out.alloc _) rfl _ 1 (fun _=>Rv f j) (Own.new .u64 132 wo _ 1 _ (gX _) aN rfl (fun i hi=>jU hi rfl)).rd rfl (fun i hi=>afc hi) aH aH (by simp;omega) ?_;intro v' w1 bM bA);go_roundw
     case rel=>exact⟨j+1,m - 8,c - 8,_,by omega,by omega,by omega,by omega,rfl,(Rd.cutAt HR.out 8 (m - 8) aH).congr (fun i hi=>by show f (8 * j+(8+i))=f (8 * (j+1)+i);congr 1;omega),bM,below_grown (aA.alloc fD _) bA HO.out (by simp;omega) (bB _)⟩
     case measure=>simp;omega
def og (f:Nat->Int) (p:Nat):Int:=f (p / 8) / 2 ^ (8 * (7 - p % 8)) % 256
theorem Zq (f:Nat->Int) (k t:Nat) (h:t<8):og f (k * 8+t)=f k / 2 ^ (8 * (7 - t)) % 256:=by
 unfold og;rw[show (k * 8+t) / 8=k by omega,show (k * 8+t) % 8=t by omega]
theorem zu (va:Value) (n:Nat) (f:Nat->Int) (w:World) (ha:Rd .u64 w va n f) (hf:∀i,i<n->0<=f i/\f i<18446744073709551616) (hn:n<=1099511627776):
  Calls Tryz.prog 197 #[va] w fun e w'=> ∃v,e=.returned v/\Own .u8 5 w.heap.size w' v (n * 8) (og f)/\Below w.heap.size w w':=by
 obtain⟨a1,c1,rfl,l1,m1,z1,h1⟩:=ha;have H1:=ak h1;have HF:=ak hf;clear h1 z1 hf
 go_enter Tryz.func197,Tryz.ntmps197
 go_wp2
 go_loopw [3,9] (fun v i wr=> ∃k:Nat,k<=n/\i=.int .i64 k/\Own .u8 5 w.heap.size wr v (k * 8) (og f)/\Below w.heap.size w wr) (fun _ i _=>n - (intOf i).toNat)
 case atStart=>exact⟨0,gX _,rfl,by rw[Nat.zero_mul];exact Own.nil _ _ _ _ _,bT _ _⟩
 case round=>
  obtain⟨k,hk,rfl,ho,aA⟩:=hrel;obtain⟨wo,rfl⟩:∃wo:World,wo=wr:=⟨_,rfl⟩
  have HO:=ak ho;have fD:=aA.size;clear ho;by_cases hlt:k<n
  ·obtain⟨b,o,rfl,hb,hc⟩:=H1.out aH;have e1:=(aA.cell (p:=⟨b,o+k,none⟩) hb).trans (hc k hlt);obtain⟨f0,f1⟩:=HF.out k hlt;have HB:=ak aA;clear hc aA;go_wp2
   go_loopw [3,6] (fun v i wr=> ∃(r:Nat) (x:Int),r<=8/\x=8 * (r:Int) - 8/\i=.int .i64 x/\Own .u8 5 w.heap.size wr v (k * 8+(8 - r)) (og f)/\Below w.heap.size w wr) (fun _ i _=>(intOf i+8).toNat)
   case atStart=>exact⟨8,56,by omega,by omega,rfl,HO.out,HB.out⟩
   case round=>
    obtain⟨r,x,hr,hx,rfl,ho,aA⟩:=hrel;have tT:=ak ho;have hsz2:=aA.size;clear ho;rcases r with _ | r
    ·obtain rfl:x= -8:=by omega
     clear hx;go_wp2;go_roundw
     case rel=>exact⟨k+1,by omega,by go_num,by rw[Nat.succ_mul];exact tT.out,aA⟩
     case measure=>simp[intOf] <;> omega
    ·obtain rfl:x=((8 * r:Nat):Int):=by omega
     clear hx;have hr7:r<=7:=by omega
     go_wp2_with (at_builtin;refine fH rfl _ _ 23 rfl w.heap.size 5 .u8 1 lK pI _ (k * 8+(8 - (r+1))) (og f) (tT.out.alloc _) rfl _ 1 (fun t=>og f (k * 8+(8 - (r+1))+t)) (Own.new .u8 5 wr _ 1 _ (gX _) aN rfl (fun i hi=>jU hi ?_)).rd rfl (fun i hi=>rfl) aH aH (by simp;omega) ?_;rotate_right;intro v' w1 bM bA)
     ·go_roundw
      case rel=>exact⟨r,_,by omega,rfl,by congr 1,by rw[show k * 8+(8 - r)=k * 8+(8 - (r+1))+1 by omega];exact bM,below_grown (aA.alloc hsz2 _) bA tT.out (by simp;omega) (bB _)⟩
      case measure=>simp[intOf] <;> omega
     ·obtain rfl:i=0:=by omega
      show _=og f (k * 8+(8 - (r+1)));rw[Zq f k _ aH,show 7 - (8 - (r+1))=r by omega]
  ·obtain rfl:k=n:=by omega
   go_wp2;go_ret;exact⟨_,rfl,HO.out,aA⟩
end Go.Proofs.YtpcjekgfnfjbpaaGreat
