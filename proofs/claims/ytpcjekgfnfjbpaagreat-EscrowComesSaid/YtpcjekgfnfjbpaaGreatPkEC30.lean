/- Part 30 of EscrowComes; conditions: in each theorem. -/
import Derived.Test.YtpcjekgfnfjbpaaGreatPkEC11
import Derived.Test.YtpcjekgfnfjbpaaGreatPkEC4
import Derived.Test.YtpcjekgfnfjbpaaGreatPkEC27
set_option linter.unusedVariables false
set_option linter.unusedSimpArgs false
set_option maxRecDepth 100000
set_option maxHeartbeats 800000
namespace Go.Proofs.YtpcjekgfnfjbpaaGreat
open Go.RowKit Go.bI
attribute [local go_sem ↓] Go.wp_at_zero Go.wp_at_succ
theorem uI (x r:Int) (k:Nat) (p q:Int) (hk:k=7/\p=128/\q=33554432\/k=8/\p=256/\q=16777216\/k=12/\p=4096/\q=1048576\/k=16/\p=65536/\q=65536) (h0:0<=x) (h1:x<4294967296) (ho:bits .or .u32 (x * p % 4294967296) (x / q)=r) (w:World):
  Calls Tryz.prog 257 #[.int .u32 x,.int .i64 k] w fun e w'=>e=.returned (.int .u32 r)/\w=w':=by
 have ha7:bits .and .u64 7 31=7:=by decide
 have ha8:bits .and .u64 8 31=8:=by decide
 have awz:bits .and .u64 12 31=12:=by decide
 have ha16:bits .and .u64 16 31=16:=by decide
 rcases hk with⟨rfl,rfl,rfl⟩ | ⟨rfl,rfl,rfl⟩ | ⟨rfl,rfl,rfl⟩ | ⟨rfl,rfl,rfl⟩
 all_goals
  go_enter Tryz.func257,Tryz.ntmps257
  go_wp2;go_ret;exact⟨rfl,rfl⟩
theorem xD (u v:Int) (k:Nat) (hk:k=7\/k=8\/k=12\/k=16) (w:World):
  Calls Tryz.prog 257 #[.int .u32 (bits .xor .u32 u v),.int .i64 k] w fun e w'=>e=.returned (.int .u32 (Nk (xr u v) k))/\w=w':=by
 have hb:=oG u v;rcases hk with rfl | rfl | rfl | rfl
 ·exact uI _ _ 7 128 33554432 aR hb.1 hb.2 (GZ (k:=7) hb.1 hb.2 aM) w
 ·exact uI _ _ 8 256 16777216 aR hb.1 hb.2 (GZ (k:=8) hb.1 hb.2 aM) w
 ·exact uI _ _ 12 4096 1048576 aR hb.1 hb.2 (GZ (k:=12) hb.1 hb.2 aM) w
 ·exact uI _ _ 16 65536 65536 aR hb.1 hb.2 (GZ (k:=16) hb.1 hb.2 aM) w
theorem Xc (u v:Int) (k:Nat) (hk:k<=32):0<=Nk (xr u v) k/\Nk (xr u v) k<4294967296:=uJ (oG u v).1 (oG u v).2 hk
theorem Nc (a b c d:Int) (ha:0<=a/\a<4294967296) (hb:0<=b/\b<4294967296) (hc:0<=c/\c<4294967296) (hd:0<=d/\d<4294967296) (w:World):
  Calls Tryz.prog 230 #[.int .u32 a,.int .u32 b,.int .u32 c,.int .u32 d] w fun e w'=>e=.returned (.tuple #[.int .u32 (qA a b c d),.int .u32 (qB a b c d),.int .u32 (qC a b c d),.int .u32 (qD a b c d)])/\w=w':=by
 obtain⟨a0,a1⟩:=ha;obtain⟨b0,b1⟩:=hb;obtain⟨c0,c1⟩:=hc;obtain⟨d0,d1⟩:=hd
 go_enter Tryz.func230,Tryz.ntmps230
 go_wp2_with fail;refine(xD d ((a+b) % 4294967296) 16 aM _).mono ?_;rintro e w1 ⟨rfl,rfl⟩;obtain⟨x1,hx1⟩:∃x1,x1=Nk (xr d ((a+b) % 4294967296)) 16:=⟨_,rfl⟩
 obtain⟨x1b,x1c⟩:0<=x1/\x1<4294967296:=by rw[hx1];exact Xc _ _ _ aM
 rw[<-hx1];have HX1:=ay hx1;clear hx1;go_wp2_with fail;refine(xD b ((c+x1) % 4294967296) 12 aM _).mono ?_;rintro e w2 ⟨rfl,rfl⟩;obtain⟨x2,hx2⟩:∃x2,x2=Nk (xr b ((c+x1) % 4294967296)) 12:=⟨_,rfl⟩
 obtain⟨x2b,x2c⟩:0<=x2/\x2<4294967296:=by rw[hx2];exact Xc _ _ _ aM
 rw[<-hx2];have HX2:=ay hx2;clear hx2;go_wp2_with fail;refine(xD x1 ((a+b+x2) % 4294967296) 8 aM _).mono ?_;rintro e w3 ⟨rfl,rfl⟩;obtain⟨x3,hx3⟩:∃x3,x3=Nk (xr x1 ((a+b+x2) % 4294967296)) 8:=⟨_,rfl⟩
 obtain⟨x3b,x3c⟩:0<=x3/\x3<4294967296:=by rw[hx3];exact Xc _ _ _ aM
 rw[<-hx3];have Qr:=ay hx3;clear hx3;go_wp2_with fail;refine(xD x2 ((c+x1+x3) % 4294967296) 7 aM _).mono ?_;rintro e w4 ⟨rfl,rfl⟩;obtain⟨x4,hx4⟩:∃x4,x4=Nk (xr x2 ((c+x1+x3) % 4294967296)) 7:=⟨_,rfl⟩
 rw[<-hx4];have RY:=ay hx4;clear hx4;have HR:Hid (qA a b c d=(a+b+x2) % 4294967296/\qB a b c d=x4/\qC a b c d=(c+x1+x3) % 4294967296/\qD a b c d=x3):=by
  have y1:qD1 a b d=x1:=HX1.out.symm;have y2:qB1 a b c d=x2:=by unfold qB1 qC1;rw[y1];exact HX2.out.symm
  have y3:qA a b c d=(a+b+x2) % 4294967296:=by unfold qA;rw[y2,Int.emod_add_emod]
  have y4:qD a b c d=x3:=by unfold qD;rw[y3,y1];exact Qr.out.symm
  have y5:qC a b c d=(c+x1+x3) % 4294967296:=by unfold qC qC1;rw[y4,y1,Int.emod_add_emod]
  exact⟨y3,by unfold qB;rw[y2,y5];exact RY.out.symm,y5,y4⟩
 go_wp2;refine bodyPost_ret (v:=.tuple #[.int .u32 ((a+b+x2) % 4294967296),.int .u32 x4,.int .u32 ((c+x1+x3) % 4294967296),.int .u32 x3]) (by simp[results,Tryz.results230]) rfl ⟨?_,rfl⟩;obtain⟨r1,r2,r3,r4⟩:=HR.out;rw[r1,r2,r3,r4]
end Go.Proofs.YtpcjekgfnfjbpaaGreat
