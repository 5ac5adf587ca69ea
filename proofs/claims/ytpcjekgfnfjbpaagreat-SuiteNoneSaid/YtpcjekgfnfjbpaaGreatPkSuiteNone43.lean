/-
  Part 43 of SuiteNone. Conditions: named in each theorem.
-/
import Derived.Test.YtpcjekgfnfjbpaaGreatPkSuiteNone7
import Derived.Test.YtpcjekgfnfjbpaaGreatPkSuiteNone4
set_option linter.unusedVariables false
set_option linter.unusedSimpArgs false
set_option maxRecDepth 100000
set_option maxHeartbeats 400000
namespace Go.Proofs.YtpcjekgfnfjbpaaGreat
open Go.RowKit Go.bI
attribute [local go_sem ↓] Go.wp_at_zero Go.wp_at_succ
theorem Pj (X b:Int) (w:World) (hb:0<=b/\b<=1):
  Calls Tryz.prog 265 #[.agg (arr .u32 17 (dg 65536 X)),.int .u32 b] w fun e w'=> e=.returned (.agg (arr .u32 17 (dg 65536 (2 * X+b))))/\Below w.heap.size w w':=by
 obtain ⟨hb0,hb1⟩:=hb
 go_enter Tryz.func265,Tryz.ntmps265
 go_wp2_with (refine aM rfl 251 _ rfl .u32 w.heap.size 17 (dg 65536 X) 117 Df uI rfl ((aH.new .u32 w _ 17 (dg 65536 X)).alloc _) ?_)
 go_loopw [1,8] (fun x i wr=> ∃(k:Nat) (c:Int),k<=17/\c=Nu X b k/\0<=c/\c<=1/\x=.int .u32 c/\i=.int .i64 k/\aH .u32 wr w.heap.size 17 (upto k (dg 65536 (2 * X+b)) (dg 65536 X))/\aH .u32 wr (w.heap.size+1) 17 (fun _=> 0)/\Below w.heap.size w wr) (fun _ i _=> 17 - (intOf i).toNat)
 case atStart=> exact ⟨0,b,je _,(Rm X b).symm,hb0,hb1,rfl,rfl,by rw [cZ];exact (aH.new .u32 w _ 17 (dg 65536 X)).alloc _,bG (by simp) rfl,((bM _ _).alloc (bB _) _).alloc (by simp) _⟩
 case round=>
  obtain ⟨k,c,hk,hc,hc0,hc1,rfl,rfl,hA,hZ,hbel⟩:=hrel;have HC:=ak hc;clear hc;by_cases hlt:k<17
  ·have e1:=hA.cell k hlt;have f1:=hA.free k;have HA:=ak hA;have HZ:=ak hZ;have hix:=dY (f:=dg 65536 X) Df Tryz.underlying117 Tryz.size117 k hlt;obtain ⟨b0,b1⟩:=aX (by decide:(0:Int)<65536) X k;have hor:=or_bit b0 (by omega) hc0 hc1;have hand:=xL (x:=dg 65536 X k * 2+c) (by omega) (by omega);have hst:=Rn X b k;rw [<-HC.out] at hst;obtain ⟨s1,s2⟩:=hst;have S1:=ak s1;have S2:=ak s2;clear hA hZ s1 s2;go_wp2;go_roundw
   case rel=> exact ⟨k+1,_,by omega,S2.out,by omega,by omega,rfl,by go_num,by rw [<-bN S1.out.symm.symm];exact HA.out.set k _,HZ.out.other (by simp) _,hbel.setCell (bB _) _⟩
   case measure=> simp [intOf] <;> omega
  ·obtain rfl:k=17:=by omega
   go_wp2_with (first
    | (refine aM rfl 251 _ rfl .u32 w.heap.size 17 _ 117 Df uI rfl hA ?_)
    | (refine aF rfl 251 _ _ rfl .u32 (w.heap.size+1) 17 (fun _=> 0) _ uI rfl rfl hZ ?_))
   refine bodyPost_ret (aZ rfl _ _ .u32 (w.heap.size+1) 17 _ 117 rfl (hZ.setRow _ _) Df uI) rfl ⟨?_,aA hbel (by omega) _⟩;rw [eF (dK _ _ (bB _))]
theorem JK (X Y:Int) (w:World) (hX:0<=X/\X<65536 ^ 17) (hY:0<=Y/\Y<65536 ^ 17):
  Calls Tryz.prog 214 #[.agg (arr .u32 17 (dg 65536 X)),.agg (arr .u32 17 (dg 65536 Y))] w fun e w'=>
   e=.returned (.tuple #[.agg (arr .u32 17 (dg 65536 (X - Y))),.bool (decide (Y<=X))])/\Below w.heap.size w w':=by
 have HX:=ak hX;have HY:=ak hY;clear hX hY
 go_enter Tryz.func214,Tryz.ntmps214
 go_wp2
 go_loopw [6,9] (fun x i wr=> ∃(k:Nat) (c:Int),k<=17/\c=wu X Y k/\0<=c/\c<=1/\x=.int .u32 c/\i=.int .i64 k/\aH .u32 wr w.heap.size 17 (upto k (dg 65536 (X - Y)) (dg 65536 X))/\aH .u32 wr (w.heap.size+1) 17 (dg 65536 Y)/\aH .u32 wr (w.heap.size+2) 17 (fun _=> 0)/\Below w.heap.size w wr) (fun _ i _=> 17 - (intOf i).toNat)
 case atStart=> exact ⟨0,0,je _,(EG X Y).symm,by decide,by decide,rfl,rfl,by rw [cZ];exact ((bG rfl rfl).alloc _).alloc _,(bG (by simp) rfl).alloc _,bG (by simp) rfl,(((bM _ _).alloc (bB _) _).alloc (by simp) _).alloc (by simp;omega) _⟩
 case round=>
  obtain ⟨k,c,hk,hc,hc0,hc1,rfl,rfl,hA,hY,hZ,hbel⟩:=hrel;have HC:=ak hc;clear hc;by_cases hlt:k<17
  ·have e1:=hA.cell k hlt;rw [upto_at] at e1;have e2:=hY.cell k hlt;have f1:=hA.free k;have HA:=ak hA;have HYA:=ak hY;have HZ:=ak hZ;obtain ⟨b0,b1⟩:=aX (by decide:(0:Int)<65536) X k;obtain ⟨b2,b3⟩:=aX (by decide:(0:Int)<65536) Y k;have hand:=xL (x:=(dg 65536 X k - dg 65536 Y k - c) % 4294967296) (by omega) (by omega);have S:=ak (Rw X Y k c _ HC.out hc0 hc1 rfl);clear hA hY hZ;go_wp2
   go_quiet (fail)
   go_wp2;go_roundw
   case rel=> exact ⟨k+1,_,by omega,S.out.2.1,S.out.2.2.1,S.out.2.2.2,rfl,by go_num,by rw [<-bN S.out.1];exact (HA.out.drewN _).set k _,(HYA.out.drewN _).other (by simp) _,(HZ.out.drewN _).other (by simp) _,(below_drewN hbel _).setCell (bB _) _⟩
   case measure=> simp [intOf] <;> omega
  ·obtain rfl:k=17:=by omega
   go_wp2_with (first
    | (refine aM rfl 251 _ rfl .u32 w.heap.size 17 _ 117 Df uI rfl hA ?_)
    | (refine aF rfl 251 _ _ rfl .u32 (w.heap.size+2) 17 (fun _=> 0) _ uI rfl rfl hZ ?_))
   refine bodyPost_ret (eY rfl _ _ .u32 (w.heap.size+2) 17 _ 117 rfl (hZ.setRow _ _) Df uI) rfl ⟨?_,aA hbel (by omega) _⟩;rw [eF (dK _ _ (bB _)),←WV HX.out HY.out HC.out]
   rfl
theorem Av (X:Int) (w:World) (hX:0<=X/\X<65536 ^ 16):
  Calls Tryz.prog 213 #[.agg (arr .u8 32 (dg 256 X))] w fun e w'=>
   e=.returned (.agg (arr .u32 17 (dg 65536 X)))/\Below w.heap.size w w':=by
 have HX:=ak hX;clear hX
 go_enter Tryz.func213,Tryz.ntmps213
 go_wp2
 go_loopw [5] (fun i wr=> ∃k:Nat,k<=16/\i=.int .i64 k/\aH .u8 wr w.heap.size 32 (dg 256 X)/\aH .u32 wr (w.heap.size+1) 17 (fun _=> 0)/\aH .u32 wr (w.heap.size+2) 17 (upto k (dg 65536 X) (fun _=> 0))/\Below w.heap.size w wr) (fun i _=> 16 - (intOf i).toNat)
 case atStart=> exact ⟨0,je _,rfl,aH.alloc (aH.alloc (bG (by first | omega | (simp<;> omega)) (by rfl)) _) _,aH.alloc (bG (by first | omega | (simp<;> omega)) (by rfl)) _,by rw [cZ];exact bG (by first | omega | (simp<;> omega)) (by rfl),(((bM _ _).alloc (bB _) _).alloc (by simp) _).alloc (by simp;omega) _⟩
 case round=>
  obtain ⟨k,hk,rfl,hA,hZ,hR,hbel⟩:=hrel;by_cases hlt:k<16
  ·have e1:=hA.cell (2 * k) (by omega);have e2:=hA.cell (2 * k+1) (by omega);have e3:=hR.cell k (by omega);have f3:=hR.free k;obtain ⟨b0,b1⟩:=aX (by decide:(0:Int)<256) X (2 * k);obtain ⟨b2,b3⟩:=aX (by decide:(0:Int)<256) X (2 * k+1);have hor:=YA b0 b1 b2 b3;have HA:=ak hA;have HZ:=ak hZ;have HR:=ak hR;clear hA hZ hR;go_wp2
   go_region
   all_goals
    go_wp2;go_roundw
    case rel=> exact ⟨k+1,by omega,by go_num,(HA.out.other (by first | omega | (simp<;> omega)) _).drew,(HZ.out.other (by first | omega | (simp<;> omega)) _).drew,by rw [<-bN (FT X k).symm];exact (HR.out.set k _).drew,(hbel.setCell (by first | omega | (simp<;> omega)) _).drew⟩
    case measure=> simp [intOf] <;> omega
  ·obtain rfl:k=16:=by omega
   go_wp2_with (first
    | (refine aM rfl 251 _ rfl .u32 (w.heap.size+2) 17 _ 117 Df uI rfl hR ?_)
    | (refine aF rfl 251 _ _ rfl .u32 (w.heap.size+1) 17 (fun _=> 0) _ uI rfl rfl hZ ?_))
   refine bodyPost_ret (aZ rfl _ _ .u32 (w.heap.size+1) 17 _ 117 rfl (hZ.setRow _ _) Df uI) rfl ⟨?_,aA hbel (by omega) _⟩;rw [eF (g:=dg 65536 X) (fun i hi=> ?_)];by_cases e:i<16
   ·exact if_pos e
   ·obtain rfl:i=16:=by omega
    rw [Bb HX.out];rfl
theorem xI (X:Int) (w:World):
  Calls Tryz.prog 254 #[.agg (arr .u32 17 (dg 65536 X))] w fun e w'=>
   e=.returned (.agg (arr .u8 32 (dg 256 X)))/\Below w.heap.size w w':=by
 go_enter Tryz.func254,Tryz.ntmps254
 go_wp2
 go_loopw [5] (fun i wr=> ∃k:Nat,k<=16/\i=.int .i64 k/\aH .u32 wr w.heap.size 17 (dg 65536 X)/\aH .u8 wr (w.heap.size+1) 32 (fun _=> 0)/\aH .u8 wr (w.heap.size+2) 32 (upto (2 * k) (dg 256 X) (fun _=> 0))/\Below w.heap.size w wr) (fun i _=> 16 - (intOf i).toNat)
 case atStart=> exact ⟨0,je _,rfl,aH.alloc (aH.alloc (bG (by first | omega | (simp<;> omega)) (by rfl)) _) _,aH.alloc (bG (by first | omega | (simp<;> omega)) (by rfl)) _,by rw [Nat.mul_zero,cZ];exact bG (by first | omega | (simp<;> omega)) (by rfl),(((bM _ _).alloc (bB _) _).alloc (by simp) _).alloc (by simp;omega) _⟩
 case round=>
  obtain ⟨k,hk,rfl,hA,hZ,hR,hbel⟩:=hrel;by_cases hlt:k<16
  ·have e1:=hA.cell k (by omega);have e2:=hR.cell (2 * k) (by omega);have e3:=hR.cell (2 * k+1) (by omega);have f2:=hR.free (2 * k);have f3:=hR.free (2 * k+1);obtain ⟨b0,b1⟩:=aX (by decide:(0:Int)<65536) X k;have HA:=ak hA;have HZ:=ak hZ;have HR:=ak hR;clear hA hZ hR;go_wp2
   go_region
   all_goals
    go_wp2;go_roundw
    case rel=> exact ⟨k+1,by omega,by go_num,((HA.out.other (by first | omega | (simp<;> omega)) _).other (by first | omega | (simp<;> omega)) _).drew,((HZ.out.other (by first | omega | (simp<;> omega)) _).other (by first | omega | (simp<;> omega)) _).drew,by rw [show 2 * (k+1)=2 * k+1+1 by omega,←bN (aaM X k),←bN (aaN X k)];exact ((HR.out.set (2 * k) _).set (2 * k+1) _).drew,((hbel.setCell (by first | omega | (simp<;> omega)) _).setCell (by first | omega | (simp<;> omega)) _).drew⟩
    case measure=> simp [intOf] <;> omega
  ·obtain rfl:k=16:=by omega
   go_wp2_with (first
    | (refine aM rfl 22 _ rfl .u8 (w.heap.size+2) 32 _ 5 dU dz rfl hR ?_)
    | (refine aF rfl 22 _ _ rfl .u8 (w.heap.size+1) 32 (fun _=> 0) _ dz rfl rfl hZ ?_))
   refine bodyPost_ret (aZ rfl _ _ .u8 (w.heap.size+1) 32 _ 5 rfl (hZ.setRow _ _) dU dz) rfl ⟨?_,aA hbel (by omega) _⟩;rw [eF (dK _ _ (bB _))]
end Go.Proofs.YtpcjekgfnfjbpaaGreat
