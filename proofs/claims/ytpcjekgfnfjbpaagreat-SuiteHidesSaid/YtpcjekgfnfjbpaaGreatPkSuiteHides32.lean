/-
  Part 32 of SuiteHides. Conditions: named in each theorem.
-/
import Derived.Test.YtpcjekgfnfjbpaaGreatPkSuiteHides7
import Derived.Test.YtpcjekgfnfjbpaaGreatPkSuiteHides4
set_option linter.unusedVariables false
set_option linter.unusedSimpArgs false
set_option maxRecDepth 100000
set_option maxHeartbeats 800000
namespace Go.Proofs.YtpcjekgfnfjbpaaGreat
open Go.RowKit Go.aQ
attribute [local go_sem ↓] Go.wp_at_zero Go.wp_at_succ
theorem zD (v:Value) (X:Int) (n:Nat) (hn:16<=n) (w:World) (hv:Rd .i64 w v n (dg 65536 X)):
  Calls Tryz.prog 128 #[v] w fun e w'=>
   e=.returned (.agg (arr .u8 32 (dg 256 X)))/\Below w.heap.size w w':=by
 obtain ⟨a1,c1,rfl,l1,m1,z1,h1⟩:=hv;obtain ⟨b,off,rfl,s1,hcell⟩:=h1 (by omega);clear z1 h1;have HC:=ak hcell;clear hcell
 go_enter Tryz.func128,Tryz.ntmps128
 go_wp2
 go_loopw [4] (fun i wr=> ∃k:Nat,k<=16/\i=.int .i64 k/\aD .u8 wr w.heap.size 32 (fun _=> 0)/\aD .u8 wr (w.heap.size+1) 32 (upto (2 * k) (dg 256 X) (fun _=> 0))/\Below w.heap.size w wr) (fun i _=> 16 - (intOf i).toNat)
 case atStart=> exact ⟨0,dR _,rfl,aD.alloc (bg (by first | omega | (simp<;> omega)) (by rfl)) _,by rw [Nat.mul_zero,bF];exact bg (by first | omega | (simp<;> omega)) (by rfl),((bA _ _).alloc (aP _) _).alloc (by simp) _⟩
 case round=>
  obtain ⟨k,hk,rfl,hZ,hR,hbel⟩:=hrel;by_cases hlt:k<16
  ·have e1:=(hbel.cell (p:=⟨b,off+k,none⟩) s1).trans (HC.out k (by omega));have e2:=hR.cell (2 * k) (by omega);have e3:=hR.cell (2 * k+1) (by omega);have f2:=hR.free (2 * k);have f3:=hR.free (2 * k+1);obtain ⟨b0,b1⟩:=aN (by decide:(0:Int)<65536) X k;have HZ:=ak hZ;have HR:=ak hR;clear hZ hR;go_wp2;go_roundw
   case rel=> exact ⟨k+1,by omega,by go_num,(HZ.out.other (by first | omega | (simp<;> omega)) _).other (by first | omega | (simp<;> omega)) _,by rw [show 2 * (k+1)=2 * k+1+1 by omega,←aY (Vu X k),←aY (Vv X k)];exact (HR.out.set (2 * k) _).set (2 * k+1) _,(hbel.setCell (by first | omega | (simp<;> omega)) _).setCell (by first | omega | (simp<;> omega)) _⟩
   case measure=> simp [intOf] <;> omega
  ·obtain rfl:k=16:=by omega
   go_wp2_with (first
    | (refine aM rfl 22 _ rfl .u8 (w.heap.size+1) 32 _ 5 dB bZ rfl hR ?_)
    | (refine aH rfl 22 _ _ rfl .u8 w.heap.size 32 (fun _=> 0) _ bZ rfl rfl hZ ?_))
   refine bodyPost_ret (aV rfl _ _ .u8 w.heap.size 32 _ 5 rfl (hZ.setRow _ _) dB bZ) rfl ⟨?_,ay hbel (aP _) _⟩;rw [dY (bP _ _ (aP _))]
theorem pJ (va vb:Value) (X Y:Int) (n m:Nat) (hnm:n<=m) (w:World) (ha:Rd .i64 w va n (dg 65536 X)) (hb:Rd .i64 w vb m (dg 65536 Y)) (hX:0<=X/\X<65536 ^ n) (hY:0<=Y/\Y<65536 ^ n):
  Calls Tryz.prog 179 #[va,vb] w fun e w'=>
   e=.returned (.bool (decide (Y<=X)))/\Below w.heap.size w w':=by
 obtain ⟨a1,c1,rfl,l1,m1,z1,h1⟩:=ha;obtain ⟨a2,c2,rfl,l2,m2,z2,h2⟩:=hb;have H1:=ak h1;have H2:=ak h2;have HX:=ak hX;have HY:=ak hY;clear z1 h1 z2 h2 hX hY;have hw9:IntKind.i64.wrap ((n:Int) - 1)=n - 1:=aR (by omega) (by omega)
 go_enter Tryz.func179,Tryz.ntmps179
 go_wp2
 go_loopw [5] (fun i wr=> ∃k:Nat,k<=n/\i=.int .i64 ((k:Int) - 1)/\X / 65536 ^ k=Y / 65536 ^ k/\Below w.heap.size w wr) (fun i _=> (intOf i+1).toNat)
 case atStart=> exact ⟨n,aP _,rfl,by rw [Int.ediv_eq_zero_of_lt HX.out.1 HX.out.2,Int.ediv_eq_zero_of_lt HY.out.1 HY.out.2],bA _ _⟩
 case round=>
  obtain ⟨k,hk,rfl,heq,hbel⟩:=hrel;have HE:=ak heq;clear heq;obtain _ | m':=k
  ·go_wp2;go_ret;have:=HE.out;simp at this;exact ⟨by rw [this];simp,hbel⟩
  ·obtain ⟨b1,o1,rfl,s1,e1⟩:=H1.out (by omega);obtain ⟨b2,o2,rfl,s2,e2⟩:=H2.out (by omega);have c1:=(hbel.cell (p:=⟨b1,o1+m',none⟩) s1).trans (e1 m' (by omega));have c2:=(hbel.cell (p:=⟨b2,o2+m',none⟩) s2).trans (e2 m' (by omega));have hkm:((m'+1:Nat):Int) - 1=(m':Int):=by omega
   rw [hkm];obtain ⟨x0,x1⟩:=aN (by decide:(0:Int)<65536) X m';obtain ⟨y0,y1⟩:=aN (by decide:(0:Int)<65536) Y m';clear e1 e2;have hdx:X / 65536 ^ m'=X / 65536 ^ (m'+1) * 65536+dg 65536 X m':=by rw [bW (by decide),dg];omega
   have hdy:Y / 65536 ^ m'=Y / 65536 ^ (m'+1) * 65536+dg 65536 Y m':=by rw [bW (by decide),dg];omega
   have HDX:=ak hdx;have HDY:=ak hdy;clear hdx hdy;by_cases hfg:dg 65536 X m'=dg 65536 Y m'
   ·have hbb:(dg 65536 X m' !=dg 65536 Y m')=false:=by simpa using hfg
    have HFG:=ak hfg;clear hfg;go_wp2
    go_quiet (fail)
    go_wp2;go_roundw
    case rel=> exact ⟨m',by omega,by go_num,by have:=HDX.out;have:=HDY.out;have:=HE.out;have:=HFG.out;omega,below_drewN hbel _⟩
    case measure=> simp [intOf] <;> omega
   ·have hbb:(dg 65536 X m' !=dg 65536 Y m')=true:=by simpa using hfg
    have HFG:=ak hfg;clear hfg;go_wp2
    go_quiet (fail)
    go_wp2
    go_quiet (fail)
    go_wp2;go_ret;refine ⟨congrArg Ending.returned (congrArg Value.bool (decide_eq_decide.2 ?_)),below_drewN (below_drewN hbel _) _⟩;have h1:=HDX.out;have h2:=HDY.out;have h3:=HE.out;have h4:=HFG.out;have hp:=cZ (by decide:(0:Int)<65536) m'
    constructor
    ·intro h;have:Y / 65536 ^ m'<=X / 65536 ^ m':=by omega
     by_cases hxy:X<Y
     ·have:=Int.ediv_le_ediv hp (Int.le_of_lt hxy);omega
     ·omega
    ·intro h;have:=Int.ediv_le_ediv hp h;omega
theorem GL (C:Int) (w:World):
  Calls Tryz.prog 152 #[.agg (arr .u8 32 (dg 256 C))] w fun e w'=>
   ∃v,e=.returned v/\Own .i64 3 w.heap.size w' v 16 (dg 65536 C)/\Below w.heap.size w w':=by
 go_enter Tryz.func152,Tryz.ntmps152
 go_wp2
 go_loopw [3,4] (fun v i wr=> ∃j:Nat,j<=16/\i=.int .i64 (2 * j:Nat)/\Own .i64 3 (w.heap.size+1) wr v j (dg 65536 C)/\aD .u8 wr w.heap.size 32 (dg 256 C)/\Below w.heap.size w wr) (fun _ i _=> 32 - (intOf i).toNat)
 case atStart=> exact ⟨0,dR _,rfl,Own.nil _ _ _ _ _,bg (by first | omega | (simp<;> omega)) (by rfl),(bA _ _).alloc (aP _) _⟩
 case round=>
  obtain ⟨j,hj,rfl,ho,hA,hbel⟩:=hrel;by_cases hlt:j<16
  ·have e0:=hA.cell (2 * j) (by omega);have e1:=hA.cell (2 * j+1) (by omega);have arl:=hA.lt;obtain ⟨p0,p0'⟩:=aN (by decide:(0:Int)<256) C (2 * j);obtain ⟨p1,p1'⟩:=aN (by decide:(0:Int)<256) C (2 * j+1);have hp:=zK C j;have HP:Hid (dg 256 C (2 * j)+256 * dg 256 C (2 * j+1)=dg 65536 C j):=by unfold Hid;omega
   clear hp;have HO:=ak ho;have HA:=ak hA;have hsz:=hbel.size;have hne:=HO.out.far (Nat.lt_succ_self w.heap.size);have hwi:IntKind.i64.wrap (2 * (j:Int)+1)=2 * (j:Int)+1:=aR (by omega) (by omega);have i1:(2 * (j:Int)+1)<32:=by omega
   have i0:(2 * (j:Int))<32:=by omega
   have i2:(0:Int)<=2 * (j:Int):=by omega
   have i3:(0:Int)<=2 * (j:Int)+1:=by omega
   have i4:(2 * (j:Int)).toNat=2 * j:=by omega
   have i5:(2 * (j:Int)+1).toNat=2 * j+1:=by omega
   have u0:=aR (x:=dg 256 C (2 * j)) (by omega) (by omega);have u1:=aR (x:=dg 256 C (2 * j+1)) (by omega) (by omega);have u2:=aR (x:=256 * dg 256 C (2 * j+1)) (by omega) (by omega);have u3:=aR (x:=dg 256 C (2 * j)+256 * dg 256 C (2 * j+1)) (by omega) (by omega);clear ho hA;go_wp2
   go_region_held3 (fun w'=> w'.cell? ⟨w.heap.size,2 * j,none⟩=some (.int .u8 (dg 256 C (2 * j)))/\w'.cell? ⟨w.heap.size,2 * j+1,none⟩=some (.int .u8 (dg 256 C (2 * j+1)))) (first | go_keep | exact ⟨mH hgrow hne e0,mH hgrow hne e1⟩) ((refine qI (by rfl) _ _ 142 (by rfl) (w.heap.size+1) 3 .i64 8 AP yH _ j (dg 65536 C) (by exact (HO.out.alloc _).drew) (by rfl) _ 1 (fun _=> dg 65536 C j) (by exact (Own.new .i64 3 wr _ 1 _ (dR _) (by decide) rfl (fun i hi=> ig hi HP.out)).rd) (by rfl) (fun i hi=> aaH hi) (by omega) (by omega) (by simp;omega) ?_;intro v' w1 hown hgrow))
   all_goals
    clear u0 u1 u2 u3 i4 i5 hwi;go_wp2;go_roundw
    case rel=> exact ⟨j+1,by omega,by go_num,hown,((aD.alloc HA.out _).drew).grown hgrow hne,below_grown ((hbel.alloc hsz _).drew) hgrow HO.out (by simp;omega) (by omega)⟩
    case measure=> simp [intOf] <;> omega
  ·obtain rfl:j=16:=by omega
   have HO:=ak ho;clear ho hA;go_wp2;go_ret;exact ⟨_,rfl,HO.out.mono (by omega),hbel⟩
theorem mD (va vb:Value) (X Y:Int) (n m:Nat) (hnm:n<=m) (hn:n<=1000) (w:World) (ha:Rd .i64 w va n (dg 65536 X)) (hb:Rd .i64 w vb m (dg 65536 Y)):
  Calls Tryz.prog 129 #[va,vb] w fun e w'=>
   ∃v,e=.returned v/\Own .i64 3 w.heap.size w' v n (dg 65536 (X - Y))/\Below w.heap.size w w':=by
 obtain ⟨a1,c1,rfl,l1,m1,z1,h1⟩:=ha;obtain ⟨a2,c2,rfl,l2,m2,z2,h2⟩:=hb;have H1:=ak h1;have H2:=ak h2;clear z1 h1 z2 h2
 go_enter Tryz.func129,Tryz.ntmps129
 go_wp2
 go_loopw [5,6,7] (fun v c i wr=> ∃(j:Nat) (z:Int),j<=n/\z=wR X Y j/\0<=z/\z<=1/\c=.int .i64 z/\i=.int .i64 j/\Own .i64 3 w.heap.size wr v j (dg 65536 (X - Y))/\Below w.heap.size w wr) (fun _ _ i _=> n - (intOf i).toNat)
 case atStart=> exact ⟨0,0,dR _,(Dq X Y).symm,by decide,by decide,rfl,rfl,Own.nil _ _ _ _ _,bA _ _⟩
 case round=>
  obtain ⟨j,z,hj,hz,z0,z1,rfl,rfl,ho,hbel⟩:=hrel;have HZ:=ak hz;have HO:=ak ho;clear hz ho;by_cases hlt:j<n
  ·obtain ⟨b1,o1,rfl,s1,e1⟩:=H1.out (by omega);obtain ⟨b2,o2,rfl,s2,e2⟩:=H2.out (by omega);have c1:=(hbel.cell (p:=⟨b1,o1+j,none⟩) s1).trans (e1 j (by omega));have c2:=(hbel.cell (p:=⟨b2,o2+j,none⟩) s2).trans (e2 j (by omega));obtain ⟨x0,x1⟩:=aN (by decide:(0:Int)<65536) X j;obtain ⟨y0,y1⟩:=aN (by decide:(0:Int)<65536) Y j;have u1:=aR (x:=dg 65536 X j - dg 65536 Y j) (by omega) (by omega);have u2:=aR (x:=dg 65536 X j - dg 65536 Y j - z) (by omega) (by omega);have hst:(dg 65536 X j - dg 65536 Y j - z) % 65536=dg 65536 (X - Y) j/\(if dg 65536 X j - dg 65536 Y j - z<0 then 1 else 0)=wR X Y (j+1):=by
    have:=HZ.out;subst this;unfold wR dg at *;rw [bW (by decide) X,bW (by decide) Y,bW (by decide) (X - Y)]
    split<;> omega
   have HST:=ak hst;have hsz:=hbel.size;clear hst e1 e2;by_cases hneg:dg 65536 X j - dg 65536 Y j - z<0
   ·have FN:Hid (dg 65536 X j - dg 65536 Y j - z+65536=dg 65536 (X - Y) j):=by unfold Hid;have:=HST.out.1;omega
    have HS2:Hid (1=wR X Y (j+1)):=by unfold Hid;have:=HST.out.2;rwa [if_pos hneg] at this
    go_wp2
    go_quiet (fail)
    go_wp2_with (at_builtin;refine bC rfl _ _ 142 rfl w.heap.size 3 .i64 8 AP yH _ j (dg 65536 (X - Y)) _ _ rfl (HO.out.drewN _) rfl 1 rfl rfl ?_ (by omega) (by omega) hsz ?_;rotate_right;intro v' w1 hown hgrow)
    ·go_roundw
     case rel=> exact ⟨j+1,_,by omega,HS2.out,by decide,by decide,rfl,by go_num,hown,below_grown ((below_drewN hbel _).alloc hsz _) hgrow HO.out (by simp;omega) (aP _)⟩
     case measure=> simp [intOf] <;> omega
    ·intro i hi;obtain rfl:i=0:=by omega
     rw [Nat.add_zero,←FN.out];rfl
   ·have FN:Hid (dg 65536 X j - dg 65536 Y j - z=dg 65536 (X - Y) j):=by unfold Hid;have:=HST.out.1;omega
    have HS2:Hid (0=wR X Y (j+1)):=by unfold Hid;have:=HST.out.2;rwa [if_neg hneg] at this
    go_wp2
    go_quiet (fail)
    go_wp2_with (at_builtin;refine bC rfl _ _ 142 rfl w.heap.size 3 .i64 8 AP yH _ j (dg 65536 (X - Y)) _ _ rfl (HO.out.drewN _) rfl 1 rfl rfl ?_ (by omega) (by omega) hsz ?_;rotate_right;intro v' w1 hown hgrow)
    ·go_roundw
     case rel=> exact ⟨j+1,_,by omega,HS2.out,by decide,by decide,rfl,by go_num,hown,below_grown ((below_drewN hbel _).alloc hsz _) hgrow HO.out (by simp;omega) (aP _)⟩
     case measure=> simp [intOf] <;> omega
    ·intro i hi;obtain rfl:i=0:=by omega
     rw [Nat.add_zero,←FN.out];rfl
  ·obtain rfl:j=n:=by omega
   go_wp2;go_ret;exact ⟨_,rfl,HO.out,hbel⟩
end Go.Proofs.YtpcjekgfnfjbpaaGreat
