/- Part 24 of EscrowComes; conditions: in each theorem. -/
import Derived.Test.YtpcjekgfnfjbpaaGreatPkEC11
import Derived.Test.YtpcjekgfnfjbpaaGreatPkEC8
set_option linter.unusedVariables false
set_option linter.unusedSimpArgs false
set_option maxRecDepth 100000
set_option maxHeartbeats 1600000
namespace Go.bI
theorem DF {x:Int} (h0:0<=x) (h1:x<4294967296):bits .and .u32 x 255=x % 256:=by
 rw[u32_and _ _ h0 h1 aM aM,show (255:Int).toNat=2 ^ 8 - 1 from rfl,Nat.and_two_pow_sub_one_eq_mod];omega
theorem aap {x:Int} (h0:0<=x) (h1:x<4294967296):bits .and .u32 x 3=x % 4:=by
 rw[u32_and _ _ h0 h1 aM aM,show (3:Int).toNat=2 ^ 2 - 1 from rfl,Nat.and_two_pow_sub_one_eq_mod];omega
theorem ahI (A B:Int) {k:Nat} (h:k<17):(dg 256 A k+dg 256 B k+cu (fun i=>dg 256 A i+dg 256 B i) k) % 256=dg 256 (A+B) k:=by
 have e:=Ms (fun i=>dg 256 A i+dg 256 B i) h;have s:sm 256 (fun i=>dg 256 A i+dg 256 B i) 17=A % 256 ^ 17+B % 256 ^ 17:=by
  have:=vY 256 (dg 256 A) (dg 256 B) 1 1 17;simp only[Int.one_mul] at this;rw[this,qH aM,qH aM]
 rw[s] at e;rw[e,←wG aM _ (A / 256 ^ 17+B / 256 ^ 17) 17 k h]
 congr 1
 have h1:=EN A (256 ^ 17);have h2:=EN B (256 ^ 17)
 generalize (256:Int) ^ 17=p at *
 rw[Int.add_mul,Int.mul_comm _ p,Int.mul_comm _ p];omega
theorem ahH (A B:Int):∀k,k<=17->0<=cu (fun i=>dg 256 A i+dg 256 B i) k/\cu (fun i=>dg 256 A i+dg 256 B i) k<=510:=
 Dk 17 (fun i _=>by have:=bR (by decide:(0:Int)<256) A i;have:=bR (by decide:(0:Int)<256) B i;omega) aM
theorem UG (f:Nat->Int) {V:Int} (hV:V=sm 256 f 17) {i:Nat} (hi:i<16):(f i+cu f i) % 256=dg 256 (V % 256 ^ 16) i:=by
 rw[Ms f (show i<17 by omega),ahD aM _ _ _ hi,hV]
end Go.bI
namespace Go.Proofs.YtpcjekgfnfjbpaaGreat
open Go.RowKit Go.bI
attribute [local go_sem ↓] Go.wp_at_zero Go.wp_at_succ
theorem Tryz.size268:(Tryz.prog.info? 268).map (·.size)=some 17:=by kernel_rfl
theorem Tryz.size271:(Tryz.prog.info? 271).map (·.size)=some 17:=by kernel_rfl
theorem wS (X:Int) (w:World):
  Calls Tryz.prog 234 #[.agg (arr .u8 17 (dg 256 X))] w fun e w'=>e=.returned (.agg (arr .u32 17 (dg 256 X)))/\Below w.heap.size w w':=by
 go_enter Tryz.func234,Tryz.ntmps234
 go_wp2_with (refine aZ rfl 268 _ rfl .u8 w.heap.size 17 (dg 256 X) 5 Tryz.underlying268 Tryz.size268 rfl (aK.alloc (aK.alloc (cB rfl rfl) _) _) ?_)
 go_loopw [7] (fun i wr=> ∃k:Nat,k<=17/\i=.int .i64 k/\aK .u32 wr (w.heap.size+1) 17 (fun _=>0)/\aK .u32 wr (w.heap.size+2) 17 (upto k (dg 256 X) (fun _=>0))/\Below w.heap.size w wr) (fun i _=>17 - (intOf i).toNat)
 case atStart=>exact⟨0,jm _,rfl,aK.alloc (cB dO (by rfl)) _,by rw[dR];exact cB dO (by rfl),(((bT _ _).alloc (bH _) _).alloc aR _).alloc iU _⟩
 case round=>
  obtain⟨k,hk,rfl,hZ,hR,aD⟩:=hrel;by_cases hlt:k<17
  ·have e3:=hR.cell k aH;have f3:=hR.free k;obtain⟨b0,b1⟩:=bR (by decide:(0:Int)<256) X k;have hix:=iy (f:=dg 256 X) Tryz.underlying268 Tryz.underlying5 Tryz.size5 k hlt;have HZ:=ay hZ;have HR:=ay hR;clear hZ hR;go_wp2;go_roundw
   case rel=>exact⟨k+1,by omega,by go_num,(HZ.out.other dO _),by rw[<-dh rfl];exact(HR.out.set k _),(aD.setCell dO _)⟩
   case measure=>simp[intOf] <;> omega
  ·obtain rfl:k=17:=by omega
   go_wp2_with (first
    | (refine aZ rfl 271 _ rfl .u32 (w.heap.size+2) 17 _ 117 DN Tryz.size271 rfl hR ?_)
    | (refine aL rfl 271 _ _ rfl .u32 (w.heap.size+1) 17 (fun _=>0) _ Tryz.size271 rfl rfl hZ ?_))
   refine bodyPost_ret (bV rfl _ _ .u32 (w.heap.size+1) 17 _ 117 rfl (hZ.setRow _ _) DN Tryz.size271) rfl ⟨?_,aB aD aH _⟩;rw[iQ (fJ _ _ (bH _))]
theorem FC (X:Int) (w:World):
  Calls Tryz.prog 258 #[.agg (arr .u32 17 (dg 256 X))] w fun e w'=>e=.returned (.agg (arr .u8 17 (dg 256 X)))/\Below w.heap.size w w':=by
 go_enter Tryz.func258,Tryz.ntmps258
 go_wp2_with (refine aZ rfl 271 _ rfl .u32 w.heap.size 17 (dg 256 X) 117 DN Tryz.size271 rfl (aK.alloc (aK.alloc (cB rfl rfl) _) _) ?_)
 go_loopw [7] (fun i wr=> ∃k:Nat,k<=17/\i=.int .i64 k/\aK .u8 wr (w.heap.size+1) 17 (fun _=>0)/\aK .u8 wr (w.heap.size+2) 17 (upto k (dg 256 X) (fun _=>0))/\Below w.heap.size w wr) (fun i _=>17 - (intOf i).toNat)
 case atStart=>exact⟨0,jm _,rfl,aK.alloc (cB dO (by rfl)) _,by rw[dR];exact cB dO (by rfl),(((bT _ _).alloc (bH _) _).alloc aR _).alloc iU _⟩
 case round=>
  obtain⟨k,hk,rfl,hZ,hR,aD⟩:=hrel;by_cases hlt:k<17
  ·have e3:=hR.cell k aH;have f3:=hR.free k;obtain⟨b0,b1⟩:=bR (by decide:(0:Int)<256) X k;have hix:=iy (f:=dg 256 X) DN Tryz.underlying117 Tryz.size117 k hlt;have HZ:=ay hZ;have HR:=ay hR;clear hZ hR;go_wp2;go_roundw
   case rel=>exact⟨k+1,by omega,by go_num,(HZ.out.other dO _),by rw[<-dh rfl];exact(HR.out.set k _),(aD.setCell dO _)⟩
   case measure=>simp[intOf] <;> omega
  ·obtain rfl:k=17:=by omega
   go_wp2_with (first
    | (refine aZ rfl 268 _ rfl .u8 (w.heap.size+2) 17 _ 5 Tryz.underlying268 Tryz.size268 rfl hR ?_)
    | (refine aL rfl 268 _ _ rfl .u8 (w.heap.size+1) 17 (fun _=>0) _ Tryz.size268 rfl rfl hZ ?_))
   refine bodyPost_ret (bV rfl _ _ .u8 (w.heap.size+1) 17 _ 5 rfl (hZ.setRow _ _) Tryz.underlying268 Tryz.size268) rfl ⟨?_,aB aD aH _⟩;rw[iQ (fJ _ _ (bH _))]
theorem JX (A B:Int) (w:World):
  Calls Tryz.prog 237 #[.agg (arr .u32 17 (dg 256 A)),.agg (arr .u32 17 (dg 256 B))] w fun e w'=>e=.returned (.agg (arr .u32 17 (dg 256 (A+B))))/\Below w.heap.size w w':=by
 go_enter Tryz.func237,Tryz.ntmps237
 go_wp2
 go_loopw [5,7] (fun x i wr=> ∃(k:Nat) (c:Int),k<=17/\c=cu (fun i=>dg 256 A i+dg 256 B i) k/\x=.int .u32 c/\i=.int .i64 k/\aK .u32 wr w.heap.size 17 (upto k (dg 256 (A+B)) (dg 256 A))/\aK .u32 wr (w.heap.size+1) 17 (dg 256 B)/\aK .u32 wr (w.heap.size+2) 17 (fun _=>0)/\Below w.heap.size w wr) (fun _ i _=>17 - (intOf i).toNat)
 case atStart=>exact⟨0,0,jm _,rfl,rfl,rfl,by rw[dR];exact aK.alloc (aK.alloc (cB dO rfl) _) _,aK.alloc (cB dO rfl) _,cB dO rfl,(((bT _ _).alloc (bH _) _).alloc aR _).alloc iU _⟩
 case round=>
  obtain⟨k,c,hk,hc,rfl,rfl,hA,hY,hZ,aD⟩:=hrel;by_cases hlt:k<17
  ·have e1:=hA.cell k hlt;rw[upto_at] at e1;have e2:=hY.cell k hlt;have f1:=hA.free k;have HA:=ay hA;have HYA:=ay hY;have HZ:=ay hZ;have hcb:=ahH A B k hk;rw[<-hc] at hcb;obtain⟨c0,c1⟩:=hcb;obtain⟨b0,b1⟩:=bR (by decide:(0:Int)<256) A k;obtain⟨b2,b3⟩:=bR (by decide:(0:Int)<256) B k;have S1:=ay (ahI A B hlt);have S2:=ay (show cu (fun i=>dg 256 A i+dg 256 B i) (k+1)=(dg 256 A k+dg 256 B k+cu (fun i=>dg 256 A i+dg 256 B i) k) / 256 from rfl);rw[<-hc] at S1 S2;obtain⟨x,hx⟩:∃x,x=dg 256 A k:=⟨_,rfl⟩
   obtain⟨y,hy⟩:∃y,y=dg 256 B k:=⟨_,rfl⟩
   rw[<-hx] at e1 b0 b1 S1 S2;rw[<-hy] at e2 b2 b3 S1 S2;have HX:=ay hx;have hand:=DF (x:=c+(x+y)) aH aH;clear hA hY hZ hc hx hy;go_wp2
   go_quiet (fail)
   go_wp2;go_roundw
   case rel=>exact⟨k+1,_,by omega,by rw[S2.out];omega,rfl,by go_num,by rw[<-dh (show (c+(x+y)) % 256= _ by rw[<-S1.out];omega)];exact(HA.out.drewN _).set k _,(HYA.out.drewN _).other aR _,(HZ.out.drewN _).other aR _,(below_drewN aD _).setCell (bH _) _⟩
   case measure=>simp[intOf] <;> omega
  ·obtain rfl:k=17:=by omega
   clear hc
   go_wp2_with (first
    | (refine aZ rfl 271 _ rfl .u32 w.heap.size 17 _ 117 DN Tryz.size271 rfl hA ?_)
    | (refine aL rfl 271 _ _ rfl .u32 (w.heap.size+2) 17 (fun _=>0) _ Tryz.size271 rfl rfl hZ ?_))
   refine bodyPost_ret (bV rfl _ _ .u32 (w.heap.size+2) 17 _ 117 rfl (hZ.setRow _ _) DN Tryz.size271) rfl ⟨?_,aB aD aH _⟩;rw[iQ (fJ _ _ (bH _))]
theorem wH (f:Nat->Int) (w:World) (hf:∀i,i<17->0<=f i/\f i<=832320000):
  Calls Tryz.prog 260 #[.agg (arr .u32 17 f)] w fun e w'=>e=.returned (.agg (arr .u32 17 (pd (iY (sm 256 f 17)))))/\Below w.heap.size w w':=by
 have HF:=ay hf;have HC:=ay (Dk 17 hf aM);obtain⟨V,hV⟩:∃V,V=sm 256 f 17:=⟨_,rfl⟩
 rw[<-hV];have HV:=ay hV;clear hf hV
 go_enter Tryz.func260,Tryz.ntmps260
 go_wp2
 go_loopw [3,6] (fun x i wr=> ∃(k:Nat) (c:Int),k<=16/\c=cu f k/\x=.int .u32 c/\i=.int .i64 k/\aK .u32 wr w.heap.size 17 (upto k (fun i=>(f i+cu f i) % 256) f)/\aK .u32 wr (w.heap.size+1) 17 (fun _=>0)/\Below w.heap.size w wr) (fun _ i _=>16 - (intOf i).toNat)
 case atStart=>exact⟨0,0,jm _,rfl,rfl,rfl,by rw[dR];exact aK.alloc (cB dO rfl) _,cB dO rfl,((bT _ _).alloc (bH _) _).alloc aR _⟩
 case round=>
  obtain⟨k,c,hk,hc,rfl,rfl,hA,hZ,aD⟩:=hrel;have hcb:=HC.out k aH;rw[<-hc] at hcb;obtain⟨c0,c1⟩:=hcb;have e1:=hA.cell k aH;rw[upto_at] at e1;have f1:=hA.free k;have HA:=ay hA;have HZ:=ay hZ;obtain⟨b0,b1⟩:=HF.out k aH;obtain⟨x,hx⟩:∃x,x=f k:=⟨_,rfl⟩
  rw[<-hx] at e1 b0 b1;have HX:=ay hx;have HCK:=ay hc;by_cases hlt:k<16
  ·have hand:=DF (x:=c+x) aH aH;clear hA hZ hc hx;go_wp2;go_roundw
   case rel=>exact⟨k+1,_,by omega,by rw[show cu f (k+1)=(f k+cu f k) / 256 from rfl,←HX.out,←HCK.out];omega,rfl,by go_num,by rw[<-dh (show (c+x) % 256=(f k+cu f k) % 256 by rw[<-HX.out,←HCK.out];omega)];exact HA.out.set k _,HZ.out.other aR _,aD.setCell (bH _) _⟩
   case measure=>simp[intOf] <;> omega
  ·obtain rfl:k=16:=by omega
   clear hA hZ hc hx;have hV:V=sm 256 f 17:=HV.out;have ht:c+x=V / 256 ^ 16:=by rw[HX.out,HCK.out,hV,←ZE];omega
   obtain⟨t,htt⟩:∃t,t=c+x:=⟨_,rfl⟩
   have hand:=aap (x:=c+x) aH aH;have HP:=ay (Pp V);rw[<-ht] at HP;have HL:=ay (fun i hi=>UG f hV (i:=i) hi);obtain⟨L,hL⟩:∃L,L=V % 256 ^ 16:=⟨_,rfl⟩
   rw[<-hL] at HP HL;obtain⟨b,hb⟩:∃b,b=5 * ((c+x) / 4):=⟨_,rfl⟩
   rw[<-hb] at HP;have hb0:0<=b:=by omega
   have gX:b<=2080800000:=by omega
   have HB:=ay hb;clear hV ht htt hL hb;go_wp2
   go_loopw [3,31] (fun x2 i wr2=> ∃(j:Nat) (d:Int),j<=16/\d=Dq L b j/\x2=.int .u32 d/\i=.int .i64 j/\aK .u32 wr2 w.heap.size 17 (upto j (dg 256 (L+b)) (upd (dg 256 L) 16 ((c+x) % 4)))/\aK .u32 wr2 (w.heap.size+1) 17 (fun _=>0)/\Below w.heap.size w wr2) (fun _ i _=>16 - (intOf i).toNat)
   case atStart=>
    refine⟨0,b,jm _,(Ga L b).symm,by rw[HB.out],rfl,?_,HZ.out.other aR _,aD.setCell (bH _) _⟩;rw[dR];refine(HA.out.set 16 _).congr fun i hi=>?_;unfold upd
    split
    ·rfl
    ·rw[upto,if_pos aH];exact HL.out i aH
   case round=>
    obtain⟨j,d,hj,hd,rfl,rfl,jv,jG,dV⟩:=hrel;obtain⟨d0,d1⟩:=Dp (X:=L) hb0 j;rw[<-hd] at d0 d1;have HD:=ay hd;have q1:=jv.cell j aH;rw[upto_at] at q1;have q2:=jv.free j;have HA2:=ay jv;have HZ2:=ay jG;by_cases hjt:j<16
    ·rw[upd_ne _ _ aH] at q1;obtain⟨y0,y1⟩:=bR (by decide:(0:Int)<256) L j;have S:=ay (Gb L b j);rw[<-hd] at S;obtain⟨y,hy⟩:∃y,y=dg 256 L j:=⟨_,rfl⟩
     rw[<-hy] at q1 y0 y1 S;have hand2:=DF (x:=d+y) aH aH;clear jv jG hd hy e1 f1 hand;go_wp2;go_roundw
     case rel=>exact⟨j+1,_,by omega,by rw[<-S.out.2];omega,rfl,by go_num,by rw[<-dh (show (d+y) % 256= _ by rw[<-S.out.1];omega)];exact HA2.out.set j _,HZ2.out.other aR _,dV.setCell (bH _) _⟩
     case measure=>simp[intOf] <;> omega
    ·obtain rfl:j=16:=by omega
     rw[mE] at q1;have hfin:aK .u32 (wr.setCell ⟨w.heap.size,16,none⟩ (.int .u32 ((c+x) % 4+d))) w.heap.size 17 (pd (iY V)):=by
      refine(HA2.out.set 16 _).congr fun i hi=>?_;by_cases akH:i=16
      ·subst akH;rw[mE,←HP.out.2,HD.out]
      ·rw[upd_ne _ _ akH,upto,if_pos aH];exact HP.out.1 i aH
     have lZ:aK .u32 (wr.setCell ⟨w.heap.size,16,none⟩ (.int .u32 ((c+x) % 4+d))) (w.heap.size+1) 17 (fun _=>0):=HZ2.out.other aR _;have ji:=dV.setCell (p:=⟨w.heap.size,16,none⟩) (bH _) (.int .u32 ((c+x) % 4+d));clear jv jG hd e1 f1 hand
     go_wp2_with (first
      | (refine aZ rfl 271 _ rfl .u32 w.heap.size 17 _ 117 DN Tryz.size271 rfl hfin ?_)
      | (refine aL rfl 271 _ _ rfl .u32 (w.heap.size+1) 17 (fun _=>0) _ Tryz.size271 rfl rfl lZ ?_))
     exact bodyPost_ret (bV rfl _ _ .u32 (w.heap.size+1) 17 _ 117 rfl (lZ.setRow _ _) DN Tryz.size271) rfl ⟨rfl,aB ji aH _⟩
end Go.Proofs.YtpcjekgfnfjbpaaGreat
