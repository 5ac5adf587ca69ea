/-
  Part 29 of SuiteHides. Conditions: named in each theorem.
-/
import Derived.Test.YtpcjekgfnfjbpaaGreatPkSuiteHides27
import Derived.RangeFuncBox
set_option linter.unusedVariables false
set_option linter.unusedSimpArgs false
set_option maxRecDepth 100000
set_option maxHeartbeats 3200000
namespace Go.aQ
open Go.RowKit
theorem Gy {i:Nat} (h:i<8):(72057594037927936:Int) / 256 ^ i=2 ^ (8 * (7 - i)):=by
 have key:∀i:Fin 8,(72057594037927936:Int) / 256 ^ i.val=2 ^ (8 * (7 - i.val)):=by decide
 exact key ⟨i,h⟩
theorem zm (i:Nat):(72057594037927936:Int) / 256 ^ i / 256=72057594037927936 / 256 ^ (i+1):=by
 rw [Int.ediv_ediv_of_nonneg (Int.le_of_lt (Int.pow_pos (by decide))),Int.pow_succ]
theorem Own.newEq {k:IntKind} {e:TypeId} {base:Nat} {w:World} {cs:Array Value} {n:Nat} {f:Nat->Int} (hb:base<=w.heap.size) (hn:n<=9223372036854775807) (h:cs=arr k n f):Own k e base (w.alloc (.cells cs e)) (.slice (some ⟨w.heap.size,0,none⟩) n n) n f:=by
 subst h;exact Own.new k e w _ n f hb hn (by simp) fun i hi=> rY hi
end Go.aQ
namespace Go.Proofs.YtpcjekgfnfjbpaaGreat
open Go.RowKit Go.aQ
attribute [local go_sem ↓] Go.wp_at_zero Go.wp_at_succ
theorem Rx (w:World):Calls Tryz.prog 83 #[] w fun e w'=> ∃v,e=.returned v/\Go.aQ.Own .u64 132 w.heap.size w' v 80 kK/\Below w.heap.size w w':=by
 go_enter Tryz.func83,Tryz.ntmps83
 go_wp2;go_ret;exact ⟨_,rfl,Go.aQ.Own.newEq (aP _) (by decide) (by kernel_rfl),(bA _ _).alloc (aP _) _⟩
theorem KV (w:World):Calls Tryz.prog 85 #[] w fun e w'=> ∃v,e=.returned v/\Go.aQ.Own .u64 132 w.heap.size w' v 8 kB/\Below w.heap.size w w':=by
 go_enter Tryz.func85,Tryz.ntmps85
 go_wp2;go_ret;exact ⟨_,rfl,Go.aQ.Own.newEq (aP _) (by decide) (by kernel_rfl),(bA _ _).alloc (aP _) _⟩
theorem Sw (n:Nat) (hn:n<=1099511627776) (w:World):
  Calls Tryz.prog 84 #[.int .i64 n] w fun e w'=> ∃v,e=.returned v/\Go.aQ.Own .u8 5 w.heap.size w' v (vY n) (pO n)/\Below w.heap.size w w':=by
 obtain ⟨Z,hZ⟩:∃Z,Z=xV n:=⟨_,rfl⟩
 have hzl:Z<128:=by rw [hZ];exact Nat.mod_lt _ (by decide)
 have HZ:Hid ((n+Z+1) % 128=112/\∀m,1<=m->m<Z+1->(n+m) % 128≠112):=by
  rw [hZ];unfold Hid xV;exact ⟨by omega,fun m h1 h2=> by omega⟩
 have HN:Hid (vY n=Z+9+8):=by rw [hZ];exact rfl
 have HM:Hid (∀i,0<i->i<Z+9->pO n i=0):=by rw [hZ];exact fun i h0 h=> Hy h0 h
 have HE:Hid (∀i,i<8->pO n (Z+9+i)=mY (fun _=> 8 * (n:Int)) i):=by rw [hZ];exact fun i h=> Hz h
 obtain ⟨F,hF⟩:∃F,F=pO n:=⟨_,rfl⟩
 have Wp:Hid (F 0=128):=by rw [hF];exact rfl
 rw [<-hF] at HM HE ⊢;clear hZ hF
 go_enter Tryz.func84,Tryz.ntmps84
 go_wp2
 go_loopw [3] (fun v wr=> ∃m:Nat,1<=m/\m<=Z+1/\Go.aQ.Own .u8 5 w.heap.size wr v m F/\Below w.heap.size w wr) (fun v _=> Z+1 - aiZ v)
 case atStart=> exact ⟨1,aP _,by omega,Go.aQ.Own.new .u8 _ w _ 1 F (aP _) (by decide) rfl (fun i hi=> ig hi (by rw [show i=0 by omega,Wp.out])),(bA _ _).alloc (aP _) _⟩
 case round=>
  obtain ⟨m,hm1,hm2,ho,hbel⟩:=hrel;have hsl:=hbel.size;obtain ⟨la,lc,rfl,c1,c2,_,_⟩:=ho.rd;have ht0:Int.tmod ((n:Int)+(m:Int)) 128=((n:Int)+(m:Int)) % 128:=Int.tmod_eq_emod_of_nonneg (by omega);have HO:=ak ho;clear ho;by_cases hlt:m<Z+1
  ·have hmod:(((n:Int)+(m:Int)) % 128 !=112)=true:=by
    have:=HZ.out.2 m hm1 hlt;simp;omega
   go_wp2_with (at_builtin;refine iA rfl _ _ 23 rfl w.heap.size 5 .u8 1 fQ iW _ m F _ _ rfl HO.out rfl 1 rfl rfl ?_ (by omega) (by omega) (by omega) ?_;rotate_right;intro v' w6 hown hgrow hpl)
   ·go_roundw
    case rel=> exact ⟨m+1,by omega,by omega,hown,below_grown (hbel.alloc hsl _) hgrow HO.out (by simp;omega) (aP _)⟩
    case measure=> obtain ⟨g',c',rfl⟩:=ownsRow_succ hown;show Z+1 - (m+1)<Z+1 - m;omega
   ·intro i hi;exact ig hi (by rw [show m+i=m by omega,HM.out m (by omega) (by omega)])
  ·obtain rfl:m=Z+1:=by omega
   have hmod:(((n:Int)+((Z+1:Nat):Int)) % 128 !=112)=false:=by
    have:=HZ.out.1;simp;omega
   have amS:(((n:Int)+((Z:Int)+1)) % 128 !=112)=false:=by
    have:=HZ.out.1;simp;omega
   have ht0':Int.tmod ((n:Int)+((Z:Int)+1)) 128=((n:Int)+((Z:Int)+1)) % 128:=Int.tmod_eq_emod_of_nonneg (by omega);go_wp2
   go_loopw [3,4] (fun v i wr=> ∃k:Nat,k<=8/\i=.int .i64 k/\Go.aQ.Own .u8 5 w.heap.size wr v (Z+1+k) F/\Below w.heap.size w wr) (fun _ i _=> 8 - (intOf i).toNat)
   case atStart=> exact ⟨0,dR _,rfl,HO.out,hbel⟩
   case round=>
    clear HO hbel hsl;obtain ⟨k,hk,rfl,ho,hbel⟩:=hrel;have hsl:=hbel.size;have HO:=ak ho;clear ho;by_cases hlt:k<8
    ·go_wp2_with (at_builtin;refine iA rfl _ _ 23 rfl w.heap.size 5 .u8 1 fQ iW _ (Z+1+k) F _ _ rfl HO.out rfl 1 rfl rfl ?_ (by omega) (by omega) (by omega) ?_;rotate_right;intro v' w6 hown hgrow hpl)
     ·go_roundw
      case rel=> exact ⟨k+1,by omega,by go_num,hown,below_grown (hbel.alloc hsl _) hgrow HO.out (by simp;omega) (aP _)⟩
      case measure=> simp [intOf] <;> omega
     ·intro i hi;exact ig hi (by rw [show Z+1+k+i=Z+1+k by omega,HM.out _ (by omega) (by omega)])
    ·obtain rfl:k=8:=by omega
     go_wp2;obtain ⟨M,hM⟩:∃M,M=(n:Int) * 8:=⟨_,rfl⟩
     rw [<-hM];have m0:0<=M/\M<=8796093022208:=by omega
     have HMM:=ak hM;obtain ⟨m0,m1⟩:=m0;have oz:Hid (Go.aQ.Own .u8 5 w.heap.size wr u3 (Z+9+0) F):=by unfold Hid;rw [show Z+9+0=Z+1+8 by omega];exact HO.out
     clear hM HO
     go_loopw [3,5,7] (fun v s i wr=> ∃(k:Nat) (p:Int),k<=8/\i=.int .i64 k/\s=.int .u64 p/\Hid (p=72057594037927936 / 256 ^ k)/\0<=p/\p<=72057594037927936/\Go.aQ.Own .u8 5 w.heap.size wr v (Z+9+k) F/\Below w.heap.size w wr) (fun _ _ i _=> 8 - (intOf i).toNat)
     case atStart=> exact ⟨0,_,dR _,rfl,rfl,by unfold Hid;rfl,by decide,by decide,oz.out,hbel⟩
     case round=>
      clear oz hbel hsl;obtain ⟨k,p,hk,rfl,rfl,hp,p0,p1,ho,hbel⟩:=hrel;have hsl:=hbel.size;have HO:=ak ho;clear ho;by_cases hlt:k<8
      ·have hp2:Hid (p=2 ^ (8 * (7 - k))):=by unfold Hid;rw [hp.out,Gy hlt]
       have pp:0<p:=by rw [hp2.out];exact Int.pow_pos (by decide)
       obtain ⟨q,hq⟩:∃q,q=M / p:=⟨_,rfl⟩
       have hqt:M.tdiv p=q:=by rw [Int.tdiv_eq_ediv_of_nonneg m0,hq]
       have hqd:M / p=q:=hq.symm;have q0:0<=q:=by rw [hq];exact Int.ediv_nonneg m0 p0
       have q1:q<=M:=by rw [hq];exact Int.ediv_le_self _ m0
       have hpt:p.tdiv 256=p / 256:=Int.tdiv_eq_ediv_of_nonneg p0;have HFK:Hid (q % 256=F (Z+9+k)):=by
        unfold Hid;rw [HE.out k hlt,hq,hp2.out,HMM.out];unfold mY;rw [Nat.mod_eq_of_lt hlt,Int.mul_comm]
       have HPN:Hid (p / 256=72057594037927936 / 256 ^ (k+1)):=by unfold Hid;rw [hp.out,zm]
       clear hq;go_wp2_with (at_builtin;refine iA rfl _ _ 23 rfl w.heap.size 5 .u8 1 fQ iW _ (Z+9+k) F _ _ rfl HO.out rfl 1 rfl rfl ?_ (by omega) (by omega) (by omega) ?_;rotate_right;intro v' w6 hown hgrow hpl)
       ·go_roundw
        case rel=>
         (repeat apply Exists.intro)
         refine ⟨?_,rfl⟩;exact ⟨k+1,_,by omega,by go_num,rfl,HPN,by omega,by omega,hown,below_grown (hbel.alloc hsl _) hgrow HO.out (by simp;omega) (aP _)⟩
        case measure=> simp [intOf] <;> omega
       ·intro i hi;exact ig hi (by rw [show Z+9+k+i=Z+9+k by omega];exact HFK.out)
      ·obtain rfl:k=8:=by omega
       go_wp2;go_ret;exact ⟨_,rfl,by rw [HN.out];exact HO.out,hbel⟩
end Go.Proofs.YtpcjekgfnfjbpaaGreat
