/- Part 32 of SuiteBytes; conditions: in each theorem. -/
import Derived.Test.YtpcjekgfnfjbpaaGreatPkSuiteBytes30
import Derived.RangeFuncBox
set_option linter.unusedVariables false
set_option linter.unusedSimpArgs false
set_option maxRecDepth 100000
set_option maxHeartbeats 3200000
namespace Go.bC
open Go.RowKit
theorem Ju {i:Nat} (h:i<8):(72057594037927936:Int) / 256 ^ i=2 ^ (8 * (7 - i)):=by
 have key:∀i:Fin 8,(72057594037927936:Int) / 256 ^ i.val=2 ^ (8 * (7 - i.val)):=by decide
 exact key ⟨i,h⟩
theorem AQ (i:Nat):(72057594037927936:Int) / 256 ^ i / 256=72057594037927936 / 256 ^ (i+1):=by
 rw[Int.ediv_ediv_of_nonneg (vF (Int.pow_pos aN)),Int.pow_succ]
theorem Own.newEq {k:IntKind} {e:TypeId} {base:Nat} {w:World} {cs:Array Value} {n:Nat} {f:Nat->Int} (hb:base<=w.heap.size) (hn:n<=9223372036854775807) (h:cs=arr k n f):Own k e base (w.alloc (.cells cs e)) (.slice (some ⟨w.heap.size,0,none⟩) n n) n f:=by
 subst h;exact Own.new k e w _ n f hb hn aR fun i hi=>rA hi
end Go.bC
namespace Go.Proofs.YtpcjekgfnfjbpaaGreat
open Go.RowKit Go.bC
attribute [local go_sem ↓] Go.wp_at_zero Go.wp_at_succ
theorem SH (w:World):Calls Tryz.prog 83 #[] w fun e w'=> ∃v,e=.returned v/\Go.bC.Own .u64 132 w.heap.size w' v 80 kK/\Below w.heap.size w w':=by
 go_enter Tryz.func83,Tryz.ntmps83
 go_wp2;go_ret;exact⟨_,rfl,Go.bC.Own.newEq (bB _) aN aS,(bT _ _).alloc (bB _) _⟩
theorem Me (w:World):Calls Tryz.prog 85 #[] w fun e w'=> ∃v,e=.returned v/\Go.bC.Own .u64 132 w.heap.size w' v 8 kB/\Below w.heap.size w w':=by
 go_enter Tryz.func85,Tryz.ntmps85
 go_wp2;go_ret;exact⟨_,rfl,Go.bC.Own.newEq (bB _) aN aS,(bT _ _).alloc (bB _) _⟩
theorem TB (n:Nat) (hn:n<=1099511627776) (w:World):
  Calls Tryz.prog 84 #[.int .i64 n] w fun e w'=> ∃v,e=.returned v/\Go.bC.Own .u8 5 w.heap.size w' v (yu n) (qN n)/\Below w.heap.size w w':=by
 obtain⟨Z,hZ⟩:∃Z,Z=zG n:=⟨_,rfl⟩
 have hzl:Z<128:=by rw[hZ];exact Nat.mod_lt _ aN
 have HZ:Hid ((n+Z+1) % 128=112/\∀m,1<=m->m<Z+1->(n+m) % 128≠112):=by
  rw[hZ];unfold Hid zG;exact⟨by omega,fun m h1 h2=>by omega⟩
 have HN:Hid (yu n=Z+9+8):=by rw[hZ];exact rfl
 have HM:Hid (∀i,0<i->i<Z+9->qN n i=0):=by rw[hZ];exact fun i h0 h=>JQ h0 h
 have HE:Hid (∀i,i<8->qN n (Z+9+i)=og (fun _=>8 * (n:Int)) i):=by rw[hZ];exact fun i h=>JR h
 obtain⟨F,hF⟩:∃F,F=qN n:=⟨_,rfl⟩
 have ZP:Hid (F 0=128):=by rw[hF];exact rfl
 rw[<-hF] at HM HE ⊢;clear hZ hF
 go_enter Tryz.func84,Tryz.ntmps84
 go_wp2
 go_loopw [3] (fun v wr=> ∃m:Nat,1<=m/\m<=Z+1/\Go.bC.Own .u8 5 w.heap.size wr v m F/\Below w.heap.size w wr) (fun v _=>Z+1 - ajv v)
 case atStart=>exact⟨1,bB _,by omega,Go.bC.Own.new .u8 _ w _ 1 F (bB _) aN rfl (fun i hi=>jU hi (by rw[show i=0 by omega,ZP.out])),(bT _ _).alloc (bB _) _⟩
 case round=>
  obtain⟨m,hm1,hm2,ho,aA⟩:=hrel;have hsl:=aA.size;obtain⟨la,lc,rfl,c1,c2,_,_⟩:=ho.rd;have ht0:Int.tmod ((n:Int)+(m:Int)) 128=((n:Int)+(m:Int)) % 128:=Int.tmod_eq_emod_of_nonneg aH;have HO:=ak ho;clear ho;by_cases hlt:m<Z+1
  ·have hmod:(((n:Int)+(m:Int)) % 128 !=112)=true:=by
    have:=HZ.out.2 m hm1 hlt;simp;omega
   go_wp2_with (at_builtin;refine tL rfl _ _ 23 rfl w.heap.size 5 .u8 1 lK pI _ m F _ _ rfl HO.out rfl 1 rfl rfl ?_ aH aH aH ?_;rotate_right;intro v' w6 bM bA hpl)
   ·go_roundw
    case rel=>exact⟨m+1,by omega,by omega,bM,below_grown (aA.alloc hsl _) bA HO.out (by simp;omega) (bB _)⟩
    case measure=>obtain⟨g',c',rfl⟩:=ownsRow_succ bM;show Z+1 - (m+1)<Z+1 - m;omega
   ·intro i hi;exact jU hi (by rw[show m+i=m by omega,HM.out m aH aH])
  ·obtain rfl:m=Z+1:=by omega
   have hmod:(((n:Int)+((Z+1:Nat):Int)) % 128 !=112)=false:=by
    have:=HZ.out.1;simp;omega
   have amJ:(((n:Int)+((Z:Int)+1)) % 128 !=112)=false:=by
    have:=HZ.out.1;simp;omega
   have ht0':Int.tmod ((n:Int)+((Z:Int)+1)) 128=((n:Int)+((Z:Int)+1)) % 128:=Int.tmod_eq_emod_of_nonneg aH;go_wp2
   go_loopw [3,4] (fun v i wr=> ∃k:Nat,k<=8/\i=.int .i64 k/\Go.bC.Own .u8 5 w.heap.size wr v (Z+1+k) F/\Below w.heap.size w wr) (fun _ i _=>8 - (intOf i).toNat)
   case atStart=>exact⟨0,gX _,rfl,HO.out,aA⟩
   case round=>
    clear HO aA hsl;obtain⟨k,hk,rfl,ho,aA⟩:=hrel;have hsl:=aA.size;have HO:=ak ho;clear ho;by_cases hlt:k<8
    ·go_wp2_with (at_builtin;refine tL rfl _ _ 23 rfl w.heap.size 5 .u8 1 lK pI _ (Z+1+k) F _ _ rfl HO.out rfl 1 rfl rfl ?_ aH aH aH ?_;rotate_right;intro v' w6 bM bA hpl)
     ·go_roundw
      case rel=>exact⟨k+1,by omega,by go_num,bM,below_grown (aA.alloc hsl _) bA HO.out (by simp;omega) (bB _)⟩
      case measure=>simp[intOf] <;> omega
     ·intro i hi;exact jU hi (by rw[show Z+1+k+i=Z+1+k by omega,HM.out _ aH aH])
    ·obtain rfl:k=8:=by omega
     go_wp2;obtain⟨M,hM⟩:∃M,M=(n:Int) * 8:=⟨_,rfl⟩
     rw[<-hM];have m0:0<=M/\M<=8796093022208:=by omega
     have HMM:=ak hM;obtain⟨m0,m1⟩:=m0;have tT:Hid (Go.bC.Own .u8 5 w.heap.size wr u3 (Z+9+0) F):=by unfold Hid;rw[show Z+9+0=Z+1+8 by omega];exact HO.out
     clear hM HO
     go_loopw [3,5,7] (fun v s i wr=> ∃(k:Nat) (p:Int),k<=8/\i=.int .i64 k/\s=.int .u64 p/\Hid (p=72057594037927936 / 256 ^ k)/\0<=p/\p<=72057594037927936/\Go.bC.Own .u8 5 w.heap.size wr v (Z+9+k) F/\Below w.heap.size w wr) (fun _ _ i _=>8 - (intOf i).toNat)
     case atStart=>exact⟨0,_,gX _,rfl,rfl,by unfold Hid;rfl,by decide,by decide,tT.out,aA⟩
     case round=>
      clear tT aA hsl;obtain⟨k,p,hk,rfl,rfl,hp,p0,p1,ho,aA⟩:=hrel;have hsl:=aA.size;have HO:=ak ho;clear ho;by_cases hlt:k<8
      ·have hp2:Hid (p=2 ^ (8 * (7 - k))):=by unfold Hid;rw[hp.out,Ju hlt]
       have pp:0<p:=by rw[hp2.out];exact Int.pow_pos aN
       obtain⟨q,hq⟩:∃q,q=M / p:=⟨_,rfl⟩
       have hqt:M.tdiv p=q:=by rw[Pg m0,hq]
       have hqd:M / p=q:=hq.symm;have q0:0<=q:=by rw[hq];exact Int.ediv_nonneg m0 p0
       have q1:q<=M:=by rw[hq];exact Int.ediv_le_self _ m0
       have hpt:p.tdiv 256=p / 256:=Pg p0;have HFK:Hid (q % 256=F (Z+9+k)):=by
        unfold Hid;rw[HE.out k hlt,hq,hp2.out,HMM.out];unfold og;rw[Nat.mod_eq_of_lt hlt,Int.mul_comm]
       have HPN:Hid (p / 256=72057594037927936 / 256 ^ (k+1)):=by unfold Hid;rw[hp.out,AQ]
       clear hq;go_wp2_with (at_builtin;refine tL rfl _ _ 23 rfl w.heap.size 5 .u8 1 lK pI _ (Z+9+k) F _ _ rfl HO.out rfl 1 rfl rfl ?_ aH aH aH ?_;rotate_right;intro v' w6 bM bA hpl)
       ·go_roundw
        case rel=>
         (repeat apply Exists.intro)
         refine⟨?_,rfl⟩;exact⟨k+1,_,by omega,by go_num,rfl,HPN,by omega,by omega,bM,below_grown (aA.alloc hsl _) bA HO.out (by simp;omega) (bB _)⟩
        case measure=>simp[intOf] <;> omega
       ·intro i hi;exact jU hi (by rw[show Z+9+k+i=Z+9+k by omega];exact HFK.out)
      ·obtain rfl:k=8:=by omega
       go_wp2;go_ret;exact⟨_,rfl,by rw[HN.out];exact HO.out,aA⟩
end Go.Proofs.YtpcjekgfnfjbpaaGreat
