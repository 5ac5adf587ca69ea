/-
  Part 42 of SuiteHides. Conditions: named in each theorem.
-/
import Derived.Test.YtpcjekgfnfjbpaaGreatPkSuiteHides7
import Derived.Test.YtpcjekgfnfjbpaaGreatPkSuiteHides4
import Derived.Test.YtpcjekgfnfjbpaaGreatPkSuiteHides19
set_option linter.unusedVariables false
set_option linter.unusedSimpArgs false
set_option maxRecDepth 100000
set_option maxHeartbeats 800000
namespace Go.Proofs.YtpcjekgfnfjbpaaGreat
open Go.RowKit Go.aQ
attribute [local go_sem ↓] Go.wp_at_zero Go.wp_at_succ
theorem rF (x r:Int) (k:Nat) (p q:Int) (hk:k=7/\p=128/\q=33554432\/k=8/\p=256/\q=16777216\/k=12/\p=4096/\q=1048576\/k=16/\p=65536/\q=65536) (h0:0<=x) (h1:x<4294967296) (ho:bits .or .u32 (x * p % 4294967296) (x / q)=r) (w:World):
  Calls Tryz.prog 257 #[.int .u32 x,.int .i64 k] w fun e w'=> e=.returned (.int .u32 r)/\w=w':=by
 have ha7:bits .and .u64 7 31=7:=by decide
 have ha8:bits .and .u64 8 31=8:=by decide
 have aqX:bits .and .u64 12 31=12:=by decide
 have ha16:bits .and .u64 16 31=16:=by decide
 rcases hk with ⟨rfl,rfl,rfl⟩ | ⟨rfl,rfl,rfl⟩ | ⟨rfl,rfl,rfl⟩ | ⟨rfl,rfl,rfl⟩
 all_goals
  go_enter Tryz.func257,Tryz.ntmps257
  go_wp2;go_ret;exact ⟨rfl,rfl⟩
theorem uI (u v:Int) (k:Nat) (hk:k=7\/k=8\/k=12\/k=16) (w:World):
  Calls Tryz.prog 257 #[.int .u32 (bits .xor .u32 u v),.int .i64 k] w fun e w'=> e=.returned (.int .u32 (tO (xr u v) k))/\w=w':=by
 have hb:=kZ u v;rcases hk with rfl | rfl | rfl | rfl
 ·exact rF _ _ 7 128 33554432 (by simp) hb.1 hb.2 (Ef (k:=7) hb.1 hb.2 (by decide)) w
 ·exact rF _ _ 8 256 16777216 (by simp) hb.1 hb.2 (Ef (k:=8) hb.1 hb.2 (by decide)) w
 ·exact rF _ _ 12 4096 1048576 (by simp) hb.1 hb.2 (Ef (k:=12) hb.1 hb.2 (by decide)) w
 ·exact rF _ _ 16 65536 65536 (by simp) hb.1 hb.2 (Ef (k:=16) hb.1 hb.2 (by decide)) w
theorem zq (u v:Int) (k:Nat) (hk:k<=32):0<=tO (xr u v) k/\tO (xr u v) k<4294967296:=oH (kZ u v).1 (kZ u v).2 hk
theorem TD (x:Int) (k:Nat) (h1:1<=k) (h2:k<=31) (h0:0<=x/\x<4294967296) (w:World):
  Calls Tryz.prog 239 #[.int .u32 x,.int .i64 k] w fun e w'=> e=.returned (.int .u32 (tO x k))/\w=w':=by
 obtain ⟨x0,x1⟩:=h0;have HB:=ak (oH x0 x1 (k:=k) (by omega))
 go_enter Tryz.func239,Tryz.ntmps239
 go_wp2
 go_loop [5,6] (fun s i=> ∃(j:Nat) (p:Int),j<=k/\p=2 ^ j/\0<p/\p<=2147483648/\s=.int .u32 p/\i=.int .i64 j) (fun _ i=> k - (intOf i).toNat)
 case atStart=> exact ⟨0,1,dR _,rfl,by decide,by decide,rfl,rfl⟩
 case round=>
  obtain ⟨j,p,hj,hp,p0,p1,rfl,rfl⟩:=hrel;by_cases hlt:j<k
  ·have hpp:p * 2=2 ^ (j+1):=by rw [hp,Int.pow_succ]
   have hpb:p * 2<=2147483648:=by
    rw [hpp];exact Int.le_trans (fA 2 (by decide) (j+1) 31 (by omega)) (by decide)
   have HPP:=ak hpp;clear hp hpp;go_wp2
   go_round
   case rel=> exact ⟨j+1,_,by omega,HPP.out,by omega,by omega,rfl,by go_num⟩
   case measure=> simp [intOf] <;> omega
  ·obtain rfl:j=k:=by omega
   have hq:2147483648 / p * 2=2 ^ (32 - j):=by
    have e:(2147483648:Int)=2 ^ (31 - j) * 2 ^ j:=by rw [<-Int.pow_add,show 31 - j+j=31 by omega];rfl
    rw [e,←hp,Int.mul_ediv_cancel _ (by omega),←Int.pow_succ];congr 1;omega
   have hqb:0<2147483648 / p/\2147483648 / p<=1073741824:=by
    have h3:(2:Int) ^ (32 - j)<=2 ^ 31:=fA 2 (by decide) _ _ (by omega);have h4:(0:Int)<2 ^ (32 - j):=Int.pow_pos (by decide);have h5:(2:Int) ^ 31=2147483648:=by decide
    omega
   obtain ⟨q,hqe⟩:∃q,q=2147483648 / p:=⟨_,rfl⟩
   rw [<-hqe] at hq hqb;obtain ⟨q0,q1⟩:=hqb;have hqt:Int.tdiv 2147483648 p=q:=by rw [Int.tdiv_eq_ediv_of_nonneg (by decide),hqe]
   have hqd:(2147483648:Int) / p=q:=hqe.symm;have HR:Hid (x * p % 4294967296+x / (q * 2)=tO x j):=by unfold Hid tO;rw [hq,hp]
   have hxb:0<=x / (q * 2)/\x / (q * 2)<=x:=⟨Int.ediv_nonneg x0 (by omega),Int.ediv_le_self _ x0⟩
   obtain ⟨y,hy⟩:∃y,y=x / (q * 2):=⟨_,rfl⟩
   have hyd:x / (q * 2)=y:=hy.symm;have hyt:x.tdiv (q * 2)=y:=by rw [Int.tdiv_eq_ediv_of_nonneg x0,hy]
   have HB2:=HB.out;rw [<-HR.out,hyd] at HB2;have HR2:Hid (x * p % 4294967296+y=tO x j):=by have:=HR.out;rwa [hyd] at this
   clear hp hq hqe hxb hy HR HB;go_wp2;go_ret;refine ⟨congrArg Ending.returned (congrArg (Value.int .u32) ?_),rfl⟩;have h3:=HR2.out
   generalize x * p=m at *
   omega
theorem JM (a b c d:Int) (ha:0<=a/\a<4294967296) (hb:0<=b/\b<4294967296) (hc:0<=c/\c<4294967296) (hd:0<=d/\d<4294967296) (w:World):
  Calls Tryz.prog 230 #[.int .u32 a,.int .u32 b,.int .u32 c,.int .u32 d] w fun e w'=> e=.returned (.tuple #[.int .u32 (qA a b c d),.int .u32 (qB a b c d),.int .u32 (qC a b c d),.int .u32 (qD a b c d)])/\w=w':=by
 obtain ⟨a0,a1⟩:=ha;obtain ⟨b0,b1⟩:=hb;obtain ⟨c0,c1⟩:=hc;obtain ⟨d0,d1⟩:=hd
 go_enter Tryz.func230,Tryz.ntmps230
 go_wp2_with fail;refine (uI d ((a+b) % 4294967296) 16 (by decide) _).mono ?_;rintro e w1 ⟨rfl,rfl⟩;obtain ⟨x1,hx1⟩:∃x1,x1=tO (xr d ((a+b) % 4294967296)) 16:=⟨_,rfl⟩
 obtain ⟨x1b,x1c⟩:0<=x1/\x1<4294967296:=by rw [hx1];exact zq _ _ _ (by decide)
 rw [<-hx1];have HX1:=ak hx1;clear hx1;go_wp2_with fail;refine (uI b ((c+x1) % 4294967296) 12 (by decide) _).mono ?_;rintro e w2 ⟨rfl,rfl⟩;obtain ⟨x2,hx2⟩:∃x2,x2=tO (xr b ((c+x1) % 4294967296)) 12:=⟨_,rfl⟩
 obtain ⟨x2b,x2c⟩:0<=x2/\x2<4294967296:=by rw [hx2];exact zq _ _ _ (by decide)
 rw [<-hx2];have ZL:=ak hx2;clear hx2;go_wp2_with fail;refine (uI x1 ((a+b+x2) % 4294967296) 8 (by decide) _).mono ?_;rintro e w3 ⟨rfl,rfl⟩;obtain ⟨x3,hx3⟩:∃x3,x3=tO (xr x1 ((a+b+x2) % 4294967296)) 8:=⟨_,rfl⟩
 obtain ⟨x3b,x3c⟩:0<=x3/\x3<4294967296:=by rw [hx3];exact zq _ _ _ (by decide)
 rw [<-hx3];have HX3:=ak hx3;clear hx3;go_wp2_with fail;refine (uI x2 ((c+x1+x3) % 4294967296) 7 (by decide) _).mono ?_;rintro e w4 ⟨rfl,rfl⟩;obtain ⟨x4,hx4⟩:∃x4,x4=tO (xr x2 ((c+x1+x3) % 4294967296)) 7:=⟨_,rfl⟩
 rw [<-hx4];have HX4:=ak hx4;clear hx4;have HR:Hid (qA a b c d=(a+b+x2) % 4294967296/\qB a b c d=x4/\qC a b c d=(c+x1+x3) % 4294967296/\qD a b c d=x3):=by
  have y1:qD1 a b d=x1:=HX1.out.symm;have y2:qB1 a b c d=x2:=by unfold qB1 qC1;rw [y1];exact ZL.out.symm
  have y3:qA a b c d=(a+b+x2) % 4294967296:=by unfold qA;rw [y2,Int.emod_add_emod]
  have y4:qD a b c d=x3:=by unfold qD;rw [y3,y1];exact HX3.out.symm
  have y5:qC a b c d=(c+x1+x3) % 4294967296:=by unfold qC qC1;rw [y4,y1,Int.emod_add_emod]
  exact ⟨y3,by unfold qB;rw [y2,y5];exact HX4.out.symm,y5,y4⟩
 go_wp2;refine bodyPost_ret (v:=.tuple #[.int .u32 ((a+b+x2) % 4294967296),.int .u32 x4,.int .u32 ((c+x1+x3) % 4294967296),.int .u32 x3]) (by simp [results,Tryz.results230]) rfl ⟨?_,rfl⟩;obtain ⟨r1,r2,r3,r4⟩:=HR.out;rw [r1,r2,r3,r4]
end Go.Proofs.YtpcjekgfnfjbpaaGreat
