/-
  Part 43 of SuiteHides. Conditions: named in each theorem.
-/
import Derived.Test.YtpcjekgfnfjbpaaGreatPkSuiteHides42
import Derived.Test.YtpcjekgfnfjbpaaGreatPkSuiteHides15
import Derived.Test.YtpcjekgfnfjbpaaGreatPkSuiteHides22
import Derived.Deep.Cut
import Derived.StillTailTactics
set_option linter.unusedVariables false
set_option linter.unusedSimpArgs false
set_option maxRecDepth 100000
set_option maxHeartbeats 1600000
namespace Go.aQ
theorem Ph (S:Nat->Int) (a b c d:Nat) (h:a≠b/\a≠c/\a≠d/\b≠c/\b≠d/\c≠d) {x1 x2 x3 x4 x5 x6 x7 x8:Int}
  (h1:x1=(S a+S b) % 4294967296) (h2:x2=tO (xr (S d) x1) 16) (h3:x3=(S c+x2) % 4294967296) (h4:x4=tO (xr (S b) x3) 12)
  (h5:x5=(x1+x4) % 4294967296) (h6:x6=tO (xr x2 x5) 8) (h7:x7=(x3+x6) % 4294967296) (h8:x8=tO (xr x4 x7) 7) (i:Nat):
  upd (upd (upd (upd (upd (upd (upd (upd S a x1) d x2) c x3) b x4) a x5) d x6) c x7) b x8 i=Wx S a b c d i:=by
 have y1:qD1 (S a) (S b) (S d)=x2:=by unfold qD1;rw [h2,h1]
 have y2:qC1 (S a) (S b) (S c) (S d)=x3:=by unfold qC1;rw [y1,h3]
 have y3:qB1 (S a) (S b) (S c) (S d)=x4:=by unfold qB1;rw [y2,h4]
 have y4:qA (S a) (S b) (S c) (S d)=x5:=by unfold qA;rw [y3,h5,h1]
 have y5:qD (S a) (S b) (S c) (S d)=x6:=by unfold qD;rw [y4,y1,h6]
 have y6:qC (S a) (S b) (S c) (S d)=x7:=by unfold qC;rw [y5,y2,h7]
 have y7:qB (S a) (S b) (S c) (S d)=x8:=by unfold qB;rw [y6,y3,h8]
 unfold Wx upd;rw [y4,y5,y6,y7];obtain ⟨n1,n2,n3,n4,n5,n6⟩:=h;by_cases ea:i=a
 ·subst ea;rw [if_neg n1,if_neg n2,if_neg n3,if_pos rfl,if_pos rfl]
 ·by_cases eb:i=b
  ·subst eb;rw [if_pos rfl,if_neg ea,if_pos rfl]
  ·by_cases ec:i=c
   ·subst ec;rw [if_neg eb,if_pos rfl,if_neg ea,if_neg eb,if_pos rfl]
   ·by_cases ed:i=d
    ·subst ed;rw [if_neg eb,if_neg ec,if_pos rfl,if_neg ea,if_neg eb,if_neg ec,if_pos rfl]
    ·rw [if_neg eb,if_neg ec,if_neg ed,if_neg ea,if_neg eb,if_neg ec,if_neg ed,if_neg ea,if_neg ea,if_neg eb,if_neg ec,if_neg ed]
end Go.aQ
namespace Go.Proofs.YtpcjekgfnfjbpaaGreat
open Go.RowKit Go.aQ
attribute [local go_sem ↓] Go.wp_at_zero Go.wp_at_succ
theorem PW (u v:Int) (k:Nat) (h1:1<=k) (h2:k<=31) (w:World):
  Calls Tryz.prog 239 #[.int .u32 (bits .xor .u32 u v),.int .i64 k] w fun e w'=> e=.returned (.int .u32 (tO (xr u v) k))/\w=w':=
 TD (xr u v) k h1 h2 (kZ u v) w
theorem rO (u v:Int) (k:Nat) (h1:1<=k) (h2:k<=31) (w:World):
  Calls Tryz.prog 239 #[.int .u32 (bits .xor .u32 u v),.int .i64 k] w fun e w'=> e=.returned (.int .u32 (tO (xr u v) k))/\w'=w:=
 (PW u v k h1 h2 w).mono fun _ _ ⟨h1,h2⟩=> ⟨h1,h2.symm⟩
theorem gF (g cap n:Nat) (T:TypeId) (S:Nat->Int) (a b c d:Nat) (hd:a≠b/\a≠c/\a≠d/\b≠c/\b≠d/\c≠d) (hn:a<n/\b<n/\c<n/\d<n) (hc:cap<=9223372036854775807) (hS:∀i,i<n->0<=S i/\S i<4294967296) (w:World) (hr:Row .u32 w g cap n S T):
  Calls Tryz.prog 186 #[.slice (some ⟨g,0,none⟩) n cap,.int .i64 a,.int .i64 b,.int .i64 c,.int .i64 d] w fun e w'=>
   ∃v,e=.returned v/\Row .u32 w' g cap n (Wx S a b c d) T/\w.grownBy w' (some g):=by
 have amR:n<=cap:=by obtain ⟨_,_,_,h,_⟩:=hr;exact h
 have HR:=ak hr;have HD:=ak hd;obtain ⟨na,nb,nc,nd⟩:=hn;obtain ⟨a0,a1⟩:=hS a na;obtain ⟨b0,b1⟩:=hS b nb;obtain ⟨c0,c1⟩:=hS c nc;obtain ⟨d0,d1⟩:=hS d nd;have Ot:=ak (And.intro hd.1.symm (And.intro hd.2.1.symm (And.intro hd.2.2.1.symm (And.intro hd.2.2.2.1.symm (And.intro hd.2.2.2.2.1.symm hd.2.2.2.2.2.symm)))));clear hS hd
 go_enter Tryz.func186,Tryz.ntmps186
 go_wp2;have e1:=hr.cell a na;have e2:=hr.cell b nb;have f1:World.frozen? w.drew ⟨g,a,none⟩=false:=hr.drew.free a;have hwr:IntKind.u32.wrap (S a+S b)=(S a+S b) % 4294967296:=by rw [IntKind.wrap_u32']
 have ali:=ak hr;clear hr
 (go_still_tail 12,(by kernel_rfl))
 go_upto_region 1 with (fail);obtain ⟨x1,hx1⟩:∃x1,x1=(S a+S b) % 4294967296:=⟨_,rfl⟩
 obtain ⟨x1b,x1c⟩:0<=x1/\x1<4294967296:=by rw [hx1];omega
 refine aC (fun w1=> Row .u32 w1 g cap n (upd S a x1) T/\w.grownBy w1 (some g)) ⟨by rw [hx1];exact ali.out.drew.set a _,Gr.set (Gr.drew (Gr.refl w g)) a _⟩ ?_;rintro w1 ⟨hr1,hg1⟩;have G1:=ak hg1;have Hx1:=ak hx1;clear hx1 e1 e2 f1 hwr hg1;have e1:=hr1.cell d nd;have e2:=hr1.cell a na;have f1:World.frozen? w1.drew ⟨g,d,none⟩=false:=hr1.drew.free d;rw [show (upd S a x1) d=S d by simp only [upd];simp [HD.out,Ot.out]] at e1;rw [show (upd S a x1) a=x1 by simp only [upd];simp [HD.out,Ot.out]] at e2;have alh:=ak hr1;clear hr1
 (go_still_tail 13,(by kernel_rfl))
 still_call (rO (S d) (x1) 16 (by decide) (by decide) _)
 repeat still_step
 refine wpStill_nil ?_;go_upto_region 2 with (fail);obtain ⟨x2,hx2⟩:∃x2,x2=tO (xr (S d) (x1)) 16:=⟨_,rfl⟩
 obtain ⟨x2b,x2c⟩:0<=x2/\x2<4294967296:=by rw [hx2];exact zq _ _ _ (by decide)
 refine aC (fun w2=> Row .u32 w2 g cap n (upd (upd S a x1) d x2) T/\w.grownBy w2 (some g)) ⟨by rw [hx2];exact alh.out.drew.set d _,Gr.set (Gr.drew G1.out) d _⟩ ?_;rintro w2 ⟨hr2,hg2⟩;have G2:=ak hg2;have iB:=ak hx2;clear hx2 e1 e2 f1 hg2;have e1:=hr2.cell c nc;have e2:=hr2.cell d nd;have f1:World.frozen? w2.drew ⟨g,c,none⟩=false:=hr2.drew.free c;rw [show (upd (upd S a x1) d x2) c=S c by simp only [upd];simp [HD.out,Ot.out]] at e1;rw [show (upd (upd S a x1) d x2) d=x2 by simp only [upd];simp [HD.out,Ot.out]] at e2;have hwr:IntKind.u32.wrap (S c+x2)=(S c+x2) % 4294967296:=by rw [IntKind.wrap_u32']
 have alf:=ak hr2;clear hr2
 (go_still_tail 12,(by kernel_rfl))
 go_upto_region 3 with (fail);obtain ⟨x3,hx3⟩:∃x3,x3=(S c+x2) % 4294967296:=⟨_,rfl⟩
 obtain ⟨x3b,x3c⟩:0<=x3/\x3<4294967296:=by rw [hx3];omega
 refine aC (fun w3=> Row .u32 w3 g cap n (upd (upd (upd S a x1) d x2) c x3) T/\w.grownBy w3 (some g)) ⟨by rw [hx3];exact alf.out.drew.set c _,Gr.set (Gr.drew G2.out) c _⟩ ?_;rintro w3 ⟨hr3,hg3⟩;have G3:=ak hg3;have jD:=ak hx3;clear hx3 e1 e2 f1 hwr hg3;have e1:=hr3.cell b nb;have e2:=hr3.cell c nc;have f1:World.frozen? w3.drew ⟨g,b,none⟩=false:=hr3.drew.free b;rw [show (upd (upd (upd S a x1) d x2) c x3) b=S b by simp only [upd];simp [HD.out,Ot.out]] at e1;rw [show (upd (upd (upd S a x1) d x2) c x3) c=x3 by simp only [upd];simp [HD.out,Ot.out]] at e2;have ale:=ak hr3;clear hr3
 (go_still_tail 13,(by kernel_rfl))
 still_call (rO (S b) (x3) 12 (by decide) (by decide) _)
 repeat still_step
 refine wpStill_nil ?_;go_upto_region 4 with (fail);obtain ⟨x4,hx4⟩:∃x4,x4=tO (xr (S b) (x3)) 12:=⟨_,rfl⟩
 obtain ⟨x4b,x4c⟩:0<=x4/\x4<4294967296:=by rw [hx4];exact zq _ _ _ (by decide)
 refine aC (fun w4=> Row .u32 w4 g cap n (upd (upd (upd (upd S a x1) d x2) c x3) b x4) T/\w.grownBy w4 (some g)) ⟨by rw [hx4];exact ale.out.drew.set b _,Gr.set (Gr.drew G3.out) b _⟩ ?_;rintro w4 ⟨hr4,hg4⟩;have G4:=ak hg4;have Hx4:=ak hx4;clear hx4 e1 e2 f1 hg4;have e1:=hr4.cell a na;have e2:=hr4.cell b nb;have f1:World.frozen? w4.drew ⟨g,a,none⟩=false:=hr4.drew.free a;rw [show (upd (upd (upd (upd S a x1) d x2) c x3) b x4) a=x1 by simp only [upd];simp [HD.out,Ot.out]] at e1;rw [show (upd (upd (upd (upd S a x1) d x2) c x3) b x4) b=x4 by simp only [upd];simp [HD.out,Ot.out]] at e2;have hwr:IntKind.u32.wrap (x1+x4)=(x1+x4) % 4294967296:=by rw [IntKind.wrap_u32']
 have ald:=ak hr4;clear hr4
 (go_still_tail 12,(by kernel_rfl))
 go_upto_region 5 with (fail);obtain ⟨x5,hx5⟩:∃x5,x5=(x1+x4) % 4294967296:=⟨_,rfl⟩
 obtain ⟨x5b,x5c⟩:0<=x5/\x5<4294967296:=by rw [hx5];omega
 refine aC (fun w5=> Row .u32 w5 g cap n (upd (upd (upd (upd (upd S a x1) d x2) c x3) b x4) a x5) T/\w.grownBy w5 (some g)) ⟨by rw [hx5];exact ald.out.drew.set a _,Gr.set (Gr.drew G4.out) a _⟩ ?_;rintro w5 ⟨hr5,hg5⟩;have G5:=ak hg5;have Hx5:=ak hx5;clear hx5 e1 e2 f1 hwr hg5;have e1:=hr5.cell d nd;have e2:=hr5.cell a na;have f1:World.frozen? w5.drew ⟨g,d,none⟩=false:=hr5.drew.free d;rw [show (upd (upd (upd (upd (upd S a x1) d x2) c x3) b x4) a x5) d=x2 by simp only [upd];simp [HD.out,Ot.out]] at e1;rw [show (upd (upd (upd (upd (upd S a x1) d x2) c x3) b x4) a x5) a=x5 by simp only [upd];simp [HD.out,Ot.out]] at e2;have alc:=ak hr5;clear hr5
 (go_still_tail 13,(by kernel_rfl))
 still_call (rO (x2) (x5) 8 (by decide) (by decide) _)
 repeat still_step
 refine wpStill_nil ?_;go_upto_region 6 with (fail);obtain ⟨x6,hx6⟩:∃x6,x6=tO (xr (x2) (x5)) 8:=⟨_,rfl⟩
 obtain ⟨x6b,x6c⟩:0<=x6/\x6<4294967296:=by rw [hx6];exact zq _ _ _ (by decide)
 refine aC (fun w6=> Row .u32 w6 g cap n (upd (upd (upd (upd (upd (upd S a x1) d x2) c x3) b x4) a x5) d x6) T/\w.grownBy w6 (some g)) ⟨by rw [hx6];exact alc.out.drew.set d _,Gr.set (Gr.drew G5.out) d _⟩ ?_;rintro w6 ⟨hr6,II⟩;have G6:=ak II;have Hx6:=ak hx6;clear hx6 e1 e2 f1 II;have e1:=hr6.cell c nc;have e2:=hr6.cell d nd;have f1:World.frozen? w6.drew ⟨g,c,none⟩=false:=hr6.drew.free c;rw [show (upd (upd (upd (upd (upd (upd S a x1) d x2) c x3) b x4) a x5) d x6) c=x3 by simp only [upd];simp [HD.out,Ot.out]] at e1;rw [show (upd (upd (upd (upd (upd (upd S a x1) d x2) c x3) b x4) a x5) d x6) d=x6 by simp only [upd];simp [HD.out,Ot.out]] at e2;have hwr:IntKind.u32.wrap (x3+x6)=(x3+x6) % 4294967296:=by rw [IntKind.wrap_u32']
 have alb:=ak hr6;clear hr6
 (go_still_tail 12,(by kernel_rfl))
 go_upto_region 7 with (fail);obtain ⟨x7,hx7⟩:∃x7,x7=(x3+x6) % 4294967296:=⟨_,rfl⟩
 obtain ⟨x7b,x7c⟩:0<=x7/\x7<4294967296:=by rw [hx7];omega
 refine aC (fun w7=> Row .u32 w7 g cap n (upd (upd (upd (upd (upd (upd (upd S a x1) d x2) c x3) b x4) a x5) d x6) c x7) T/\w.grownBy w7 (some g)) ⟨by rw [hx7];exact alb.out.drew.set c _,Gr.set (Gr.drew G6.out) c _⟩ ?_;rintro w7 ⟨Yk,Ra⟩;have G7:=ak Ra;have Hx7:=ak hx7;clear hx7 e1 e2 f1 hwr Ra;have e1:=Yk.cell b nb;have e2:=Yk.cell c nc;have f1:World.frozen? w7.drew ⟨g,b,none⟩=false:=Yk.drew.free b;rw [show (upd (upd (upd (upd (upd (upd (upd S a x1) d x2) c x3) b x4) a x5) d x6) c x7) b=x4 by simp only [upd];simp [HD.out,Ot.out]] at e1;rw [show (upd (upd (upd (upd (upd (upd (upd S a x1) d x2) c x3) b x4) a x5) d x6) c x7) c=x7 by simp only [upd];simp [HD.out,Ot.out]] at e2;have ala:=ak Yk;clear Yk
 (go_still_tail 13,(by kernel_rfl))
 still_call (rO (x4) (x7) 7 (by decide) (by decide) _)
 repeat still_step
 refine wpStill_nil ?_;go_wp2;obtain ⟨x8,NM⟩:∃x8,x8=tO (xr (x4) (x7)) 7:=⟨_,rfl⟩
 obtain ⟨x8b,x8c⟩:0<=x8/\x8<4294967296:=by rw [NM];exact zq _ _ _ (by decide)
 have Hx8:=ak NM;clear NM e1 e2 f1 
 go_end0
 refine ⟨_,rfl,?_,Gr.set (Gr.drew G7.out) b _⟩;exact (ala.out.drew.set b _).congr fun i _=> Ph S a b c d HD.out Hx1.out iB.out jD.out Hx4.out Hx5.out Hx6.out Hx7.out rfl i
end Go.Proofs.YtpcjekgfnfjbpaaGreat
