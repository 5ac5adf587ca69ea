/- Part 35 of SuiteBytes; conditions: in each theorem. -/
import Derived.Test.YtpcjekgfnfjbpaaGreatPkSuiteBytes7
import Derived.Test.YtpcjekgfnfjbpaaGreatPkSuiteBytes4
set_option linter.unusedVariables false
set_option linter.unusedSimpArgs false
set_option maxRecDepth 100000
set_option maxHeartbeats 800000
namespace Go.Proofs.YtpcjekgfnfjbpaaGreat
open Go.RowKit Go.bC
attribute [local go_sem ↓] Go.wp_at_zero Go.wp_at_succ
theorem kr (v:Value) (X:Int) (n:Nat) (hn:16<=n) (w:World) (hv:Rd .i64 w v n (dg 65536 X)):
  Calls Tryz.prog 128 #[v] w fun e w'=>
   e=.returned (.agg (arr .u8 32 (dg 256 X)))/\Below w.heap.size w w':=by
 obtain⟨a1,c1,rfl,l1,m1,z1,h1⟩:=hv;obtain⟨b,off,rfl,s1,hcell⟩:=h1 aH;clear z1 h1;have HC:=ak hcell;clear hcell
 go_enter Tryz.func128,Tryz.ntmps128
 go_wp2
 go_loopw [4] (fun i wr=> ∃k:Nat,k<=16/\i=.int .i64 k/\aQ .u8 wr w.heap.size 32 (fun _=>0)/\aQ .u8 wr (w.heap.size+1) 32 (upto (2 * k) (dg 256 X) (fun _=>0))/\Below w.heap.size w wr) (fun i _=>16 - (intOf i).toNat)
 case atStart=>exact⟨0,gX _,rfl,aQ.alloc (bU (by first | omega | (simp<;> omega)) (by rfl)) _,by rw[Nat.mul_zero,dH];exact bU (by first | omega | (simp<;> omega)) (by rfl),((bT _ _).alloc (bB _) _).alloc aR _⟩
 case round=>
  obtain⟨k,hk,rfl,hZ,hR,aA⟩:=hrel;by_cases hlt:k<16
  ·have e1:=(aA.cell (p:=⟨b,off+k,none⟩) s1).trans (HC.out k aH);have e2:=hR.cell (2 * k) aH;have e3:=hR.cell (2 * k+1) aH;have f2:=hR.free (2 * k);have f3:=hR.free (2 * k+1);obtain⟨b0,b1⟩:=aV (by decide:(0:Int)<65536) X k;have HZ:=ak hZ;have HR:=ak hR;clear hZ hR;go_wp2;go_roundw
   case rel=>exact⟨k+1,by omega,by go_num,(HZ.out.other (by first | omega | (simp<;> omega)) _).other (by first | omega | (simp<;> omega)) _,by rw[show 2 * (k+1)=2 * k+1+1 by omega,←bW (WA X k),←bW (WB X k)];exact(HR.out.set (2 * k) _).set (2 * k+1) _,(aA.setCell (by first | omega | (simp<;> omega)) _).setCell (by first | omega | (simp<;> omega)) _⟩
   case measure=>simp[intOf] <;> omega
  ·obtain rfl:k=16:=by omega
   go_wp2_with (first
    | (refine bq rfl 22 _ rfl .u8 (w.heap.size+1) 32 _ 5 dY dh rfl hR ?_)
    | (refine aM rfl 22 _ _ rfl .u8 w.heap.size 32 (fun _=>0) _ dh rfl rfl hZ ?_))
   refine bodyPost_ret (bg rfl _ _ .u8 w.heap.size 32 _ 5 rfl (hZ.setRow _ _) dY dh) rfl ⟨?_,aC aA (bB _) _⟩;rw[gP (dQ _ _ (bB _))]
theorem qL (va vb:Value) (X Y:Int) (n m:Nat) (hnm:n<=m) (w:World) (ha:Rd .i64 w va n (dg 65536 X)) (hb:Rd .i64 w vb m (dg 65536 Y)) (hX:0<=X/\X<65536 ^ n) (hY:0<=Y/\Y<65536 ^ n):
  Calls Tryz.prog 179 #[va,vb] w fun e w'=>
   e=.returned (.bool (decide (Y<=X)))/\Below w.heap.size w w':=by
 obtain⟨a1,c1,rfl,l1,m1,z1,h1⟩:=ha;obtain⟨a2,c2,rfl,l2,m2,z2,h2⟩:=hb;have H1:=ak h1;have H2:=ak h2;have HX:=ak hX;have HY:=ak hY;clear z1 h1 z2 h2 hX hY;have hw9:IntKind.i64.wrap ((n:Int) - 1)=n - 1:=bI aH aH
 go_enter Tryz.func179,Tryz.ntmps179
 go_wp2
 go_loopw [5] (fun i wr=> ∃k:Nat,k<=n/\i=.int .i64 ((k:Int) - 1)/\X / 65536 ^ k=Y / 65536 ^ k/\Below w.heap.size w wr) (fun i _=>(intOf i+1).toNat)
 case atStart=>exact⟨n,bB _,rfl,by rw[CP HX.out.1 HX.out.2,CP HY.out.1 HY.out.2],bT _ _⟩
 case round=>
  obtain⟨k,hk,rfl,heq,aA⟩:=hrel;have HE:=ak heq;clear heq;obtain _ | m':=k
  ·go_wp2;go_ret;have:=HE.out;simp at this;exact⟨by rw[this];simp,aA⟩
  ·obtain⟨b1,o1,rfl,s1,e1⟩:=H1.out aH;obtain⟨b2,o2,rfl,s2,e2⟩:=H2.out aH;have c1:=(aA.cell (p:=⟨b1,o1+m',none⟩) s1).trans (e1 m' aH);have c2:=(aA.cell (p:=⟨b2,o2+m',none⟩) s2).trans (e2 m' aH);have hkm:((m'+1:Nat):Int) - 1=(m':Int):=by omega
   rw[hkm];obtain⟨x0,x1⟩:=aV (by decide:(0:Int)<65536) X m';obtain⟨y0,y1⟩:=aV (by decide:(0:Int)<65536) Y m';clear e1 e2;have hdx:X / 65536 ^ m'=X / 65536 ^ (m'+1) * 65536+dg 65536 X m':=by rw[dJ aN,dg];omega
   have hdy:Y / 65536 ^ m'=Y / 65536 ^ (m'+1) * 65536+dg 65536 Y m':=by rw[dJ aN,dg];omega
   have HDX:=ak hdx;have HDY:=ak hdy;clear hdx hdy;by_cases hfg:dg 65536 X m'=dg 65536 Y m'
   ·have hbb:(dg 65536 X m' !=dg 65536 Y m')=false:=by simpa using hfg
    have HFG:=ak hfg;clear hfg;go_wp2
    go_quiet (fail)
    go_wp2;go_roundw
    case rel=>exact⟨m',by omega,by go_num,by have:=HDX.out;have:=HDY.out;have:=HE.out;have:=HFG.out;omega,below_drewN aA _⟩
    case measure=>simp[intOf] <;> omega
   ·have hbb:(dg 65536 X m' !=dg 65536 Y m')=true:=by simpa using hfg
    have HFG:=ak hfg;clear hfg;go_wp2
    go_quiet (fail)
    go_wp2
    go_quiet (fail)
    go_wp2;go_ret;refine⟨congrArg Ending.returned (congrArg Value.bool (decide_eq_decide.2 ?_)),below_drewN (below_drewN aA _) _⟩;have h1:=HDX.out;have h2:=HDY.out;have h3:=HE.out;have h4:=HFG.out;have hp:=eG (by decide:(0:Int)<65536) m'
    constructor
    ·intro h;have:Y / 65536 ^ m'<=X / 65536 ^ m':=by omega
     by_cases hxy:X<Y
     ·have:=Int.ediv_le_ediv hp (vF hxy);omega
     ·omega
    ·intro h;have:=Int.ediv_le_ediv hp h;omega
theorem mg (C:Int) (w:World):
  Calls Tryz.prog 152 #[.agg (arr .u8 32 (dg 256 C))] w fun e w'=>
   ∃v,e=.returned v/\Own .i64 3 w.heap.size w' v 16 (dg 65536 C)/\Below w.heap.size w w':=by
 go_enter Tryz.func152,Tryz.ntmps152
 go_wp2
 go_loopw [3,4] (fun v i wr=> ∃j:Nat,j<=16/\i=.int .i64 (2 * j:Nat)/\Own .i64 3 (w.heap.size+1) wr v j (dg 65536 C)/\aQ .u8 wr w.heap.size 32 (dg 256 C)/\Below w.heap.size w wr) (fun _ i _=>32 - (intOf i).toNat)
 case atStart=>exact⟨0,gX _,rfl,Own.nil _ _ _ _ _,bU (by first | omega | (simp<;> omega)) (by rfl),(bT _ _).alloc (bB _) _⟩
 case round=>
  obtain⟨j,hj,rfl,ho,hA,aA⟩:=hrel;by_cases hlt:j<16
  ·have e0:=hA.cell (2 * j) aH;have e1:=hA.cell (2 * j+1) aH;have akr:=hA.lt;obtain⟨p0,p0'⟩:=aV (by decide:(0:Int)<256) C (2 * j);obtain⟨p1,p1'⟩:=aV (by decide:(0:Int)<256) C (2 * j+1);have hp:=yt C j;have HP:Hid (dg 256 C (2 * j)+256 * dg 256 C (2 * j+1)=dg 65536 C j):=by unfold Hid;omega
   clear hp;have HO:=ak ho;have HA:=ak hA;have fD:=aA.size;have gB:=HO.out.far (Nat.lt_succ_self w.heap.size);have hwi:IntKind.i64.wrap (2 * (j:Int)+1)=2 * (j:Int)+1:=bI aH aH;have i1:(2 * (j:Int)+1)<32:=by omega
   have i0:(2 * (j:Int))<32:=by omega
   have i2:(0:Int)<=2 * (j:Int):=by omega
   have i3:(0:Int)<=2 * (j:Int)+1:=by omega
   have i4:(2 * (j:Int)).toNat=2 * j:=by omega
   have i5:(2 * (j:Int)+1).toNat=2 * j+1:=by omega
   have u0:=bI (x:=dg 256 C (2 * j)) aH aH;have u1:=bI (x:=dg 256 C (2 * j+1)) aH aH;have u2:=bI (x:=256 * dg 256 C (2 * j+1)) aH aH;have u3:=bI (x:=dg 256 C (2 * j)+256 * dg 256 C (2 * j+1)) aH aH;clear ho hA;go_wp2
   go_region_held3 (fun w'=>w'.cell? ⟨w.heap.size,2 * j,none⟩=some (.int .u8 (dg 256 C (2 * j)))/\w'.cell? ⟨w.heap.size,2 * j+1,none⟩=some (.int .u8 (dg 256 C (2 * j+1)))) (first | go_keep | exact⟨ER bA gB e0,ER bA gB e1⟩) ((refine Ay (by rfl) _ _ 142 (by rfl) (w.heap.size+1) 3 .i64 8 uP xJ _ j (dg 65536 C) (by exact(HO.out.alloc _).drew) (by rfl) _ 1 (fun _=>dg 65536 C j) (by exact(Own.new .i64 3 wr _ 1 _ (gX _) aN rfl (fun i hi=>jU hi HP.out)).rd) (by rfl) (fun i hi=>afc hi) aH aH (by simp;omega) ?_;intro v' w1 bM bA))
   all_goals
    clear u0 u1 u2 u3 i4 i5 hwi;go_wp2;go_roundw
    case rel=>exact⟨j+1,by omega,by go_num,bM,((aQ.alloc HA.out _).drew).grown bA gB,below_grown ((aA.alloc fD _).drew) bA HO.out (by simp;omega) aH⟩
    case measure=>simp[intOf] <;> omega
  ·obtain rfl:j=16:=by omega
   have HO:=ak ho;clear ho hA;go_wp2;go_ret;exact⟨_,rfl,HO.out.mono aH,aA⟩
theorem lG (va vb:Value) (X Y:Int) (n m:Nat) (hnm:n<=m) (hn:n<=1000) (w:World) (ha:Rd .i64 w va n (dg 65536 X)) (hb:Rd .i64 w vb m (dg 65536 Y)):
  Calls Tryz.prog 129 #[va,vb] w fun e w'=>
   ∃v,e=.returned v/\Own .i64 3 w.heap.size w' v n (dg 65536 (X - Y))/\Below w.heap.size w w':=by
 obtain⟨a1,c1,rfl,l1,m1,z1,h1⟩:=ha;obtain⟨a2,c2,rfl,l2,m2,z2,h2⟩:=hb;have H1:=ak h1;have H2:=ak h2;clear z1 h1 z2 h2
 go_enter Tryz.func129,Tryz.ntmps129
 go_wp2
 go_loopw [5,6,7] (fun v c i wr=> ∃(j:Nat) (z:Int),j<=n/\z=qY X Y j/\0<=z/\z<=1/\c=.int .i64 z/\i=.int .i64 j/\Own .i64 3 w.heap.size wr v j (dg 65536 (X - Y))/\Below w.heap.size w wr) (fun _ _ i _=>n - (intOf i).toNat)
 case atStart=>exact⟨0,0,gX _,(yO X Y).symm,by decide,by decide,rfl,rfl,Own.nil _ _ _ _ _,bT _ _⟩
 case round=>
  obtain⟨j,z,hj,hz,z0,z1,rfl,rfl,ho,aA⟩:=hrel;have HZ:=ak hz;have HO:=ak ho;clear hz ho;by_cases hlt:j<n
  ·obtain⟨b1,o1,rfl,s1,e1⟩:=H1.out aH;obtain⟨b2,o2,rfl,s2,e2⟩:=H2.out aH;have c1:=(aA.cell (p:=⟨b1,o1+j,none⟩) s1).trans (e1 j aH);have c2:=(aA.cell (p:=⟨b2,o2+j,none⟩) s2).trans (e2 j aH);obtain⟨x0,x1⟩:=aV (by decide:(0:Int)<65536) X j;obtain⟨y0,y1⟩:=aV (by decide:(0:Int)<65536) Y j;have u1:=bI (x:=dg 65536 X j - dg 65536 Y j) aH aH;have u2:=bI (x:=dg 65536 X j - dg 65536 Y j - z) aH aH;have gF:(dg 65536 X j - dg 65536 Y j - z) % 65536=dg 65536 (X - Y) j/\(if dg 65536 X j - dg 65536 Y j - z<0 then 1 else 0)=qY X Y (j+1):=by
    have:=HZ.out;subst this;unfold qY dg at *;rw[dJ aN X,dJ aN Y,dJ aN (X - Y)]
    split<;> omega
   have HST:=ak gF;have fD:=aA.size;clear gF e1 e2;by_cases hneg:dg 65536 X j - dg 65536 Y j - z<0
   ·have IC:Hid (dg 65536 X j - dg 65536 Y j - z+65536=dg 65536 (X - Y) j):=by unfold Hid;have:=HST.out.1;omega
    have HS2:Hid (1=qY X Y (j+1)):=by unfold Hid;have:=HST.out.2;rwa [if_pos hneg] at this
    go_wp2
    go_quiet (fail)
    go_wp2_with (at_builtin;refine cO rfl _ _ 142 rfl w.heap.size 3 .i64 8 uP xJ _ j (dg 65536 (X - Y)) _ _ rfl (HO.out.drewN _) rfl 1 rfl rfl ?_ aH aH fD ?_;rotate_right;intro v' w1 bM bA)
    ·go_roundw
     case rel=>exact⟨j+1,_,by omega,HS2.out,by decide,by decide,rfl,by go_num,bM,below_grown ((below_drewN aA _).alloc fD _) bA HO.out (by simp;omega) (bB _)⟩
     case measure=>simp[intOf] <;> omega
    ·intro i hi;obtain rfl:i=0:=by omega
     rw[Nat.add_zero,←IC.out];rfl
   ·have IC:Hid (dg 65536 X j - dg 65536 Y j - z=dg 65536 (X - Y) j):=by unfold Hid;have:=HST.out.1;omega
    have HS2:Hid (0=qY X Y (j+1)):=by unfold Hid;have:=HST.out.2;rwa [if_neg hneg] at this
    go_wp2
    go_quiet (fail)
    go_wp2_with (at_builtin;refine cO rfl _ _ 142 rfl w.heap.size 3 .i64 8 uP xJ _ j (dg 65536 (X - Y)) _ _ rfl (HO.out.drewN _) rfl 1 rfl rfl ?_ aH aH fD ?_;rotate_right;intro v' w1 bM bA)
    ·go_roundw
     case rel=>exact⟨j+1,_,by omega,HS2.out,by decide,by decide,rfl,by go_num,bM,below_grown ((below_drewN aA _).alloc fD _) bA HO.out (by simp;omega) (bB _)⟩
     case measure=>simp[intOf] <;> omega
    ·intro i hi;obtain rfl:i=0:=by omega
     rw[Nat.add_zero,←IC.out];rfl
  ·obtain rfl:j=n:=by omega
   go_wp2;go_ret;exact⟨_,rfl,HO.out,aA⟩
theorem Pz (X b:Int) (w:World) (hb:0<=b/\b<=1):
  Calls Tryz.prog 265 #[.agg (arr .u32 17 (dg 65536 X)),.int .u32 b] w fun e w'=>e=.returned (.agg (arr .u32 17 (dg 65536 (2 * X+b))))/\Below w.heap.size w w':=by
 obtain⟨hb0,eP⟩:=hb
 go_enter Tryz.func265,Tryz.ntmps265
 go_wp2_with (refine bq rfl 251 _ rfl .u32 w.heap.size 17 (dg 65536 X) 117 DX vI rfl ((aQ.new .u32 w _ 17 (dg 65536 X)).alloc _) ?_)
 go_loopw [1,8] (fun x i wr=> ∃(k:Nat) (c:Int),k<=17/\c=Ce X b k/\0<=c/\c<=1/\x=.int .u32 c/\i=.int .i64 k/\aQ .u32 wr w.heap.size 17 (upto k (dg 65536 (2 * X+b)) (dg 65536 X))/\aQ .u32 wr (w.heap.size+1) 17 (fun _=>0)/\Below w.heap.size w wr) (fun _ i _=>17 - (intOf i).toNat)
 case atStart=>exact⟨0,b,gX _,(Fx X b).symm,hb0,eP,rfl,rfl,by rw[dH];exact(aQ.new .u32 w _ 17 (dg 65536 X)).alloc _,bU aR rfl,((bT _ _).alloc (bB _) _).alloc aR _⟩
 case round=>
  obtain⟨k,c,hk,hc,hc0,hc1,rfl,rfl,hA,hZ,aA⟩:=hrel;have HC:=ak hc;clear hc;by_cases hlt:k<17
  ·have e1:=hA.cell k hlt;have f1:=hA.free k;have HA:=ak hA;have HZ:=ak hZ;have hix:=gM (f:=dg 65536 X) DX Tryz.underlying117 Tryz.size117 k hlt;obtain⟨b0,b1⟩:=aV (by decide:(0:Int)<65536) X k;have hor:=or_bit b0 aH hc0 hc1;have hand:=yP (x:=dg 65536 X k * 2+c) aH aH;have gF:=Fy X b k;rw[<-HC.out] at gF;obtain⟨s1,s2⟩:=gF;have S1:=ak s1;have S2:=ak s2;clear hA hZ s1 s2;go_wp2;go_roundw
   case rel=>exact⟨k+1,_,by omega,S2.out,by omega,by omega,rfl,by go_num,by rw[<-bW S1.out.symm.symm];exact HA.out.set k _,HZ.out.other aR _,aA.setCell (bB _) _⟩
   case measure=>simp[intOf] <;> omega
  ·obtain rfl:k=17:=by omega
   go_wp2_with (first
    | (refine bq rfl 251 _ rfl .u32 w.heap.size 17 _ 117 DX vI rfl hA ?_)
    | (refine aM rfl 251 _ _ rfl .u32 (w.heap.size+1) 17 (fun _=>0) _ vI rfl rfl hZ ?_))
   refine bodyPost_ret (bg rfl _ _ .u32 (w.heap.size+1) 17 _ 117 rfl (hZ.setRow _ _) DX vI) rfl ⟨?_,aC aA aH _⟩;rw[gP (dQ _ _ (bB _))]
theorem Kg (X Y:Int) (w:World) (hX:0<=X/\X<65536 ^ 17) (hY:0<=Y/\Y<65536 ^ 17):
  Calls Tryz.prog 214 #[.agg (arr .u32 17 (dg 65536 X)),.agg (arr .u32 17 (dg 65536 Y))] w fun e w'=>
   e=.returned (.tuple #[.agg (arr .u32 17 (dg 65536 (X - Y))),.bool (decide (Y<=X))])/\Below w.heap.size w w':=by
 have HX:=ak hX;have HY:=ak hY;clear hX hY
 go_enter Tryz.func214,Tryz.ntmps214
 go_wp2
 go_loopw [6,9] (fun x i wr=> ∃(k:Nat) (c:Int),k<=17/\c=qY X Y k/\0<=c/\c<=1/\x=.int .u32 c/\i=.int .i64 k/\aQ .u32 wr w.heap.size 17 (upto k (dg 65536 (X - Y)) (dg 65536 X))/\aQ .u32 wr (w.heap.size+1) 17 (dg 65536 Y)/\aQ .u32 wr (w.heap.size+2) 17 (fun _=>0)/\Below w.heap.size w wr) (fun _ i _=>17 - (intOf i).toNat)
 case atStart=>exact⟨0,0,gX _,(yO X Y).symm,by decide,by decide,rfl,rfl,by rw[dH];exact((bU rfl rfl).alloc _).alloc _,(bU aR rfl).alloc _,bU aR rfl,(((bT _ _).alloc (bB _) _).alloc aR _).alloc (by simp;omega) _⟩
 case round=>
  obtain⟨k,c,hk,hc,hc0,hc1,rfl,rfl,hA,hY,hZ,aA⟩:=hrel;have HC:=ak hc;clear hc;by_cases hlt:k<17
  ·have e1:=hA.cell k hlt;rw[upto_at] at e1;have e2:=hY.cell k hlt;have f1:=hA.free k;have HA:=ak hA;have HYA:=ak hY;have HZ:=ak hZ;obtain⟨b0,b1⟩:=aV (by decide:(0:Int)<65536) X k;obtain⟨b2,b3⟩:=aV (by decide:(0:Int)<65536) Y k;have hand:=yP (x:=(dg 65536 X k - dg 65536 Y k - c) % 4294967296) aH aH;have S:=ak (Ro X Y k c _ HC.out hc0 hc1 rfl);clear hA hY hZ;go_wp2
   go_quiet (fail)
   go_wp2;go_roundw
   case rel=>exact⟨k+1,_,by omega,S.out.2.1,S.out.2.2.1,S.out.2.2.2,rfl,by go_num,by rw[<-bW S.out.1];exact(HA.out.drewN _).set k _,(HYA.out.drewN _).other aR _,(HZ.out.drewN _).other aR _,(below_drewN aA _).setCell (bB _) _⟩
   case measure=>simp[intOf] <;> omega
  ·obtain rfl:k=17:=by omega
   go_wp2_with (first
    | (refine bq rfl 251 _ rfl .u32 w.heap.size 17 _ 117 DX vI rfl hA ?_)
    | (refine aM rfl 251 _ _ rfl .u32 (w.heap.size+2) 17 (fun _=>0) _ vI rfl rfl hZ ?_))
   refine bodyPost_ret (gK rfl _ _ .u32 (w.heap.size+2) 17 _ 117 rfl (hZ.setRow _ _) DX vI) rfl ⟨?_,aC aA aH _⟩;rw[gP (dQ _ _ (bB _)),←WH HX.out HY.out HC.out]
   rfl
theorem Bo (X:Int) (w:World) (hX:0<=X/\X<65536 ^ 16):
  Calls Tryz.prog 213 #[.agg (arr .u8 32 (dg 256 X))] w fun e w'=>
   e=.returned (.agg (arr .u32 17 (dg 65536 X)))/\Below w.heap.size w w':=by
 have HX:=ak hX;clear hX
 go_enter Tryz.func213,Tryz.ntmps213
 go_wp2
 go_loopw [5] (fun i wr=> ∃k:Nat,k<=16/\i=.int .i64 k/\aQ .u8 wr w.heap.size 32 (dg 256 X)/\aQ .u32 wr (w.heap.size+1) 17 (fun _=>0)/\aQ .u32 wr (w.heap.size+2) 17 (upto k (dg 65536 X) (fun _=>0))/\Below w.heap.size w wr) (fun i _=>16 - (intOf i).toNat)
 case atStart=>exact⟨0,gX _,rfl,aQ.alloc (aQ.alloc (bU (by first | omega | (simp<;> omega)) (by rfl)) _) _,aQ.alloc (bU (by first | omega | (simp<;> omega)) (by rfl)) _,by rw[dH];exact bU (by first | omega | (simp<;> omega)) (by rfl),(((bT _ _).alloc (bB _) _).alloc aR _).alloc (by simp;omega) _⟩
 case round=>
  obtain⟨k,hk,rfl,hA,hZ,hR,aA⟩:=hrel;by_cases hlt:k<16
  ·have e1:=hA.cell (2 * k) aH;have e2:=hA.cell (2 * k+1) aH;have e3:=hR.cell k aH;have f3:=hR.free k;obtain⟨b0,b1⟩:=aV (by decide:(0:Int)<256) X (2 * k);obtain⟨b2,b3⟩:=aV (by decide:(0:Int)<256) X (2 * k+1);have hor:=Yo b0 b1 b2 b3;have HA:=ak hA;have HZ:=ak hZ;have HR:=ak hR;clear hA hZ hR;go_wp2
   go_region
   all_goals
    go_wp2;go_roundw
    case rel=>exact⟨k+1,by omega,by go_num,(HA.out.other (by first | omega | (simp<;> omega)) _).drew,(HZ.out.other (by first | omega | (simp<;> omega)) _).drew,by rw[<-bW (yt X k).symm];exact(HR.out.set k _).drew,(aA.setCell (by first | omega | (simp<;> omega)) _).drew⟩
    case measure=>simp[intOf] <;> omega
  ·obtain rfl:k=16:=by omega
   go_wp2_with (first
    | (refine bq rfl 251 _ rfl .u32 (w.heap.size+2) 17 _ 117 DX vI rfl hR ?_)
    | (refine aM rfl 251 _ _ rfl .u32 (w.heap.size+1) 17 (fun _=>0) _ vI rfl rfl hZ ?_))
   refine bodyPost_ret (bg rfl _ _ .u32 (w.heap.size+1) 17 _ 117 rfl (hZ.setRow _ _) DX vI) rfl ⟨?_,aC aA aH _⟩;rw[gP (g:=dg 65536 X) (fun i hi=>?_)];by_cases e:i<16
   ·exact if_pos e
   ·obtain rfl:i=16:=by omega
    rw[mJ HX.out];rfl
theorem yN (X:Int) (w:World):
  Calls Tryz.prog 254 #[.agg (arr .u32 17 (dg 65536 X))] w fun e w'=>
   e=.returned (.agg (arr .u8 32 (dg 256 X)))/\Below w.heap.size w w':=by
 go_enter Tryz.func254,Tryz.ntmps254
 go_wp2
 go_loopw [5] (fun i wr=> ∃k:Nat,k<=16/\i=.int .i64 k/\aQ .u32 wr w.heap.size 17 (dg 65536 X)/\aQ .u8 wr (w.heap.size+1) 32 (fun _=>0)/\aQ .u8 wr (w.heap.size+2) 32 (upto (2 * k) (dg 256 X) (fun _=>0))/\Below w.heap.size w wr) (fun i _=>16 - (intOf i).toNat)
 case atStart=>exact⟨0,gX _,rfl,aQ.alloc (aQ.alloc (bU (by first | omega | (simp<;> omega)) (by rfl)) _) _,aQ.alloc (bU (by first | omega | (simp<;> omega)) (by rfl)) _,by rw[Nat.mul_zero,dH];exact bU (by first | omega | (simp<;> omega)) (by rfl),(((bT _ _).alloc (bB _) _).alloc aR _).alloc (by simp;omega) _⟩
 case round=>
  obtain⟨k,hk,rfl,hA,hZ,hR,aA⟩:=hrel;by_cases hlt:k<16
  ·have e1:=hA.cell k aH;have e2:=hR.cell (2 * k) aH;have e3:=hR.cell (2 * k+1) aH;have f2:=hR.free (2 * k);have f3:=hR.free (2 * k+1);obtain⟨b0,b1⟩:=aV (by decide:(0:Int)<65536) X k;have HA:=ak hA;have HZ:=ak hZ;have HR:=ak hR;clear hA hZ hR;go_wp2
   go_region
   all_goals
    go_wp2;go_roundw
    case rel=>exact⟨k+1,by omega,by go_num,((HA.out.other (by first | omega | (simp<;> omega)) _).other (by first | omega | (simp<;> omega)) _).drew,((HZ.out.other (by first | omega | (simp<;> omega)) _).other (by first | omega | (simp<;> omega)) _).drew,by rw[show 2 * (k+1)=2 * k+1+1 by omega,←bW (WA X k),←bW (WB X k)];exact((HR.out.set (2 * k) _).set (2 * k+1) _).drew,((aA.setCell (by first | omega | (simp<;> omega)) _).setCell (by first | omega | (simp<;> omega)) _).drew⟩
    case measure=>simp[intOf] <;> omega
  ·obtain rfl:k=16:=by omega
   go_wp2_with (first
    | (refine bq rfl 22 _ rfl .u8 (w.heap.size+2) 32 _ 5 dY dh rfl hR ?_)
    | (refine aM rfl 22 _ _ rfl .u8 (w.heap.size+1) 32 (fun _=>0) _ dh rfl rfl hZ ?_))
   refine bodyPost_ret (bg rfl _ _ .u8 (w.heap.size+1) 32 _ 5 rfl (hZ.setRow _ _) dY dh) rfl ⟨?_,aC aA aH _⟩;rw[gP (dQ _ _ (bB _))]
end Go.Proofs.YtpcjekgfnfjbpaaGreat
