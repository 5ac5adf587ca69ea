/-
  Part 24 of EscrowTake. Conditions: named in each theorem.
-/
import Derived.Test.YtpcjekgfnfjbpaaGreatPkEscrowTake12
import Derived.Test.YtpcjekgfnfjbpaaGreatPkEscrowTake8
set_option linter.unusedVariables false
set_option linter.unusedSimpArgs false
set_option maxRecDepth 100000
set_option maxHeartbeats 1600000
namespace Go.aZ
theorem Ap {x:Int} (h0:0<=x) (h1:x<4294967296):bits .and .u32 x 255=x % 256:=by
 rw [u32_and _ _ h0 h1 (by decide) (by decide),show (255:Int).toNat=2 ^ 8 - 1 from rfl,Nat.and_two_pow_sub_one_eq_mod];omega
theorem VN {x:Int} (h0:0<=x) (h1:x<4294967296):bits .and .u32 x 3=x % 4:=by
 rw [u32_and _ _ h0 h1 (by decide) (by decide),show (3:Int).toNat=2 ^ 2 - 1 from rfl,Nat.and_two_pow_sub_one_eq_mod];omega
theorem acU (A B:Int) {k:Nat} (h:k<17):(dg 256 A k+dg 256 B k+cu (fun i=> dg 256 A i+dg 256 B i) k) % 256=dg 256 (A+B) k:=by
 have e:=IW (fun i=> dg 256 A i+dg 256 B i) h;have s:sm 256 (fun i=> dg 256 A i+dg 256 B i) 17=A % 256 ^ 17+B % 256 ^ 17:=by
  have:=sM 256 (dg 256 A) (dg 256 B) 1 1 17;simp only [Int.one_mul] at this;rw [this,nX (by decide),nX (by decide)]
 rw [s] at e;rw [e,←sW (by decide) _ (A / 256 ^ 17+B / 256 ^ 17) 17 k h]
 congr 1
 have h1:=BI A (256 ^ 17);have h2:=BI B (256 ^ 17)
 generalize (256:Int) ^ 17=p at *
 rw [Int.add_mul,Int.mul_comm _ p,Int.mul_comm _ p];omega
theorem acT (A B:Int):∀k,k<=17->0<=cu (fun i=> dg 256 A i+dg 256 B i) k/\cu (fun i=> dg 256 A i+dg 256 B i) k<=510:=
 zZ 17 (fun i _=> by have:=bE (by decide:(0:Int)<256) A i;have:=bE (by decide:(0:Int)<256) B i;omega) (by decide)
theorem PW (f:Nat->Int) {V:Int} (hV:V=sm 256 f 17) {i:Nat} (hi:i<16):(f i+cu f i) % 256=dg 256 (V % 256 ^ 16) i:=by
 rw [IW f (show i<17 by omega),acP (by decide) _ _ _ hi,hV]
end Go.aZ
namespace Go.Proofs.YtpcjekgfnfjbpaaGreat
open Go.RowKit Go.aZ
attribute [local go_sem ↓] Go.wp_at_zero Go.wp_at_succ
theorem Tryz.size268:(Tryz.prog.info? 268).map (·.size)=some 17:=by kernel_rfl
theorem Tryz.size271:(Tryz.prog.info? 271).map (·.size)=some 17:=by kernel_rfl
theorem tN (X:Int) (w:World):
  Calls Tryz.prog 234 #[.agg (arr .u8 17 (dg 256 X))] w fun e w'=> e=.returned (.agg (arr .u32 17 (dg 256 X)))/\Below w.heap.size w w':=by
 go_enter Tryz.func234,Tryz.ntmps234
 go_wp2_with (refine aQ rfl 268 _ rfl .u8 w.heap.size 17 (dg 256 X) 5 Tryz.underlying268 Tryz.size268 rfl (aF.alloc (aF.alloc (bM rfl rfl) _) _) ?_)
 go_loopw [7] (fun i wr=> ∃k:Nat,k<=17/\i=.int .i64 k/\aF .u32 wr (w.heap.size+1) 17 (fun _=> 0)/\aF .u32 wr (w.heap.size+2) 17 (upto k (dg 256 X) (fun _=> 0))/\Below w.heap.size w wr) (fun i _=> 17 - (intOf i).toNat)
 case atStart=> exact ⟨0,iY _,rfl,aF.alloc (bM (by first | omega | (simp<;> omega)) (by rfl)) _,by rw [dB];exact bM (by first | omega | (simp<;> omega)) (by rfl),(((bN _ _).alloc (bA _) _).alloc (by simp) _).alloc (by simp;omega) _⟩
 case round=>
  obtain ⟨k,hk,rfl,hZ,hR,hbel⟩:=hrel;by_cases hlt:k<17
  ·have e3:=hR.cell k (by omega);have f3:=hR.free k;obtain ⟨b0,b1⟩:=bE (by decide:(0:Int)<256) X k;have hix:=fV (f:=dg 256 X) Tryz.underlying268 Tryz.underlying5 Tryz.size5 k hlt;have HZ:=ak hZ;have HR:=ak hR;clear hZ hR;go_wp2;go_roundw
   case rel=> exact ⟨k+1,by omega,by go_num,(HZ.out.other (by first | omega | (simp<;> omega)) _),by rw [<-bR rfl];exact (HR.out.set k _),(hbel.setCell (by first | omega | (simp<;> omega)) _)⟩
   case measure=> simp [intOf] <;> omega
  ·obtain rfl:k=17:=by omega
   go_wp2_with (first
    | (refine aQ rfl 271 _ rfl .u32 (w.heap.size+2) 17 _ 117 Au Tryz.size271 rfl hR ?_)
    | (refine aG rfl 271 _ _ rfl .u32 (w.heap.size+1) 17 (fun _=> 0) _ Tryz.size271 rfl rfl hZ ?_))
   refine bodyPost_ret (bG rfl _ _ .u32 (w.heap.size+1) 17 _ 117 rfl (hZ.setRow _ _) Au Tryz.size271) rfl ⟨?_,ay hbel (by omega) _⟩;rw [gJ (dY _ _ (bA _))]
theorem Cj (X:Int) (w:World):
  Calls Tryz.prog 258 #[.agg (arr .u32 17 (dg 256 X))] w fun e w'=> e=.returned (.agg (arr .u8 17 (dg 256 X)))/\Below w.heap.size w w':=by
 go_enter Tryz.func258,Tryz.ntmps258
 go_wp2_with (refine aQ rfl 271 _ rfl .u32 w.heap.size 17 (dg 256 X) 117 Au Tryz.size271 rfl (aF.alloc (aF.alloc (bM rfl rfl) _) _) ?_)
 go_loopw [7] (fun i wr=> ∃k:Nat,k<=17/\i=.int .i64 k/\aF .u8 wr (w.heap.size+1) 17 (fun _=> 0)/\aF .u8 wr (w.heap.size+2) 17 (upto k (dg 256 X) (fun _=> 0))/\Below w.heap.size w wr) (fun i _=> 17 - (intOf i).toNat)
 case atStart=> exact ⟨0,iY _,rfl,aF.alloc (bM (by first | omega | (simp<;> omega)) (by rfl)) _,by rw [dB];exact bM (by first | omega | (simp<;> omega)) (by rfl),(((bN _ _).alloc (bA _) _).alloc (by simp) _).alloc (by simp;omega) _⟩
 case round=>
  obtain ⟨k,hk,rfl,hZ,hR,hbel⟩:=hrel;by_cases hlt:k<17
  ·have e3:=hR.cell k (by omega);have f3:=hR.free k;obtain ⟨b0,b1⟩:=bE (by decide:(0:Int)<256) X k;have hix:=fV (f:=dg 256 X) Au Tryz.underlying117 Tryz.size117 k hlt;have HZ:=ak hZ;have HR:=ak hR;clear hZ hR;go_wp2;go_roundw
   case rel=> exact ⟨k+1,by omega,by go_num,(HZ.out.other (by first | omega | (simp<;> omega)) _),by rw [<-bR rfl];exact (HR.out.set k _),(hbel.setCell (by first | omega | (simp<;> omega)) _)⟩
   case measure=> simp [intOf] <;> omega
  ·obtain rfl:k=17:=by omega
   go_wp2_with (first
    | (refine aQ rfl 268 _ rfl .u8 (w.heap.size+2) 17 _ 5 Tryz.underlying268 Tryz.size268 rfl hR ?_)
    | (refine aG rfl 268 _ _ rfl .u8 (w.heap.size+1) 17 (fun _=> 0) _ Tryz.size268 rfl rfl hZ ?_))
   refine bodyPost_ret (bG rfl _ _ .u8 (w.heap.size+1) 17 _ 5 rfl (hZ.setRow _ _) Tryz.underlying268 Tryz.size268) rfl ⟨?_,ay hbel (by omega) _⟩;rw [gJ (dY _ _ (bA _))]
theorem FV (A B:Int) (w:World):
  Calls Tryz.prog 237 #[.agg (arr .u32 17 (dg 256 A)),.agg (arr .u32 17 (dg 256 B))] w fun e w'=> e=.returned (.agg (arr .u32 17 (dg 256 (A+B))))/\Below w.heap.size w w':=by
 go_enter Tryz.func237,Tryz.ntmps237
 go_wp2
 go_loopw [5,7] (fun x i wr=> ∃(k:Nat) (c:Int),k<=17/\c=cu (fun i=> dg 256 A i+dg 256 B i) k/\x=.int .u32 c/\i=.int .i64 k/\aF .u32 wr w.heap.size 17 (upto k (dg 256 (A+B)) (dg 256 A))/\aF .u32 wr (w.heap.size+1) 17 (dg 256 B)/\aF .u32 wr (w.heap.size+2) 17 (fun _=> 0)/\Below w.heap.size w wr) (fun _ i _=> 17 - (intOf i).toNat)
 case atStart=> exact ⟨0,0,iY _,rfl,rfl,rfl,by rw [dB];exact aF.alloc (aF.alloc (bM (by first | omega | (simp<;> omega)) rfl) _) _,aF.alloc (bM (by first | omega | (simp<;> omega)) rfl) _,bM (by first | omega | (simp<;> omega)) rfl,(((bN _ _).alloc (bA _) _).alloc (by simp) _).alloc (by simp;omega) _⟩
 case round=>
  obtain ⟨k,c,hk,hc,rfl,rfl,hA,hY,hZ,hbel⟩:=hrel;by_cases hlt:k<17
  ·have e1:=hA.cell k hlt;rw [upto_at] at e1;have e2:=hY.cell k hlt;have f1:=hA.free k;have HA:=ak hA;have HYA:=ak hY;have HZ:=ak hZ;have hcb:=acT A B k hk;rw [<-hc] at hcb;obtain ⟨c0,c1⟩:=hcb;obtain ⟨b0,b1⟩:=bE (by decide:(0:Int)<256) A k;obtain ⟨b2,b3⟩:=bE (by decide:(0:Int)<256) B k;have S1:=ak (acU A B hlt);have S2:=ak (show cu (fun i=> dg 256 A i+dg 256 B i) (k+1)=(dg 256 A k+dg 256 B k+cu (fun i=> dg 256 A i+dg 256 B i) k) / 256 from rfl);rw [<-hc] at S1 S2;obtain ⟨x,hx⟩:∃x,x=dg 256 A k:=⟨_,rfl⟩
   obtain ⟨y,hy⟩:∃y,y=dg 256 B k:=⟨_,rfl⟩
   rw [<-hx] at e1 b0 b1 S1 S2;rw [<-hy] at e2 b2 b3 S1 S2;have HX:=ak hx;have hand:=Ap (x:=c+(x+y)) (by omega) (by omega);clear hA hY hZ hc hx hy;go_wp2
   go_quiet (fail)
   go_wp2;go_roundw
   case rel=> exact ⟨k+1,_,by omega,by rw [S2.out];omega,rfl,by go_num,by rw [<-bR (show (c+(x+y)) % 256= _ by rw [<-S1.out];omega)];exact (HA.out.drewN _).set k _,(HYA.out.drewN _).other (by simp) _,(HZ.out.drewN _).other (by simp) _,(below_drewN hbel _).setCell (bA _) _⟩
   case measure=> simp [intOf] <;> omega
  ·obtain rfl:k=17:=by omega
   clear hc
   go_wp2_with (first
    | (refine aQ rfl 271 _ rfl .u32 w.heap.size 17 _ 117 Au Tryz.size271 rfl hA ?_)
    | (refine aG rfl 271 _ _ rfl .u32 (w.heap.size+2) 17 (fun _=> 0) _ Tryz.size271 rfl rfl hZ ?_))
   refine bodyPost_ret (bG rfl _ _ .u32 (w.heap.size+2) 17 _ 117 rfl (hZ.setRow _ _) Au Tryz.size271) rfl ⟨?_,ay hbel (by omega) _⟩;rw [gJ (dY _ _ (bA _))]
theorem tq (f:Nat->Int) (w:World) (hf:∀i,i<17->0<=f i/\f i<=832320000):
  Calls Tryz.prog 260 #[.agg (arr .u32 17 f)] w fun e w'=> e=.returned (.agg (arr .u32 17 (pd (gM (sm 256 f 17)))))/\Below w.heap.size w w':=by
 have HF:=ak hf;have HC:=ak (zZ 17 hf (by decide));obtain ⟨V,hV⟩:∃V,V=sm 256 f 17:=⟨_,rfl⟩
 rw [<-hV];have HV:=ak hV;clear hf hV
 go_enter Tryz.func260,Tryz.ntmps260
 go_wp2
 go_loopw [3,6] (fun x i wr=> ∃(k:Nat) (c:Int),k<=16/\c=cu f k/\x=.int .u32 c/\i=.int .i64 k/\aF .u32 wr w.heap.size 17 (upto k (fun i=> (f i+cu f i) % 256) f)/\aF .u32 wr (w.heap.size+1) 17 (fun _=> 0)/\Below w.heap.size w wr) (fun _ i _=> 16 - (intOf i).toNat)
 case atStart=> exact ⟨0,0,iY _,rfl,rfl,rfl,by rw [dB];exact aF.alloc (bM (by first | omega | (simp<;> omega)) rfl) _,bM (by first | omega | (simp<;> omega)) rfl,((bN _ _).alloc (bA _) _).alloc (by simp) _⟩
 case round=>
  obtain ⟨k,c,hk,hc,rfl,rfl,hA,hZ,hbel⟩:=hrel;have hcb:=HC.out k (by omega);rw [<-hc] at hcb;obtain ⟨c0,c1⟩:=hcb;have e1:=hA.cell k (by omega);rw [upto_at] at e1;have f1:=hA.free k;have HA:=ak hA;have HZ:=ak hZ;obtain ⟨b0,b1⟩:=HF.out k (by omega);obtain ⟨x,hx⟩:∃x,x=f k:=⟨_,rfl⟩
  rw [<-hx] at e1 b0 b1;have HX:=ak hx;have HCK:=ak hc;by_cases hlt:k<16
  ·have hand:=Ap (x:=c+x) (by omega) (by omega);clear hA hZ hc hx;go_wp2;go_roundw
   case rel=> exact ⟨k+1,_,by omega,by rw [show cu f (k+1)=(f k+cu f k) / 256 from rfl,←HX.out,←HCK.out];omega,rfl,by go_num,by rw [<-bR (show (c+x) % 256=(f k+cu f k) % 256 by rw [<-HX.out,←HCK.out];omega)];exact HA.out.set k _,HZ.out.other (by simp) _,hbel.setCell (bA _) _⟩
   case measure=> simp [intOf] <;> omega
  ·obtain rfl:k=16:=by omega
   clear hA hZ hc hx;have hV:V=sm 256 f 17:=HV.out;have ht:c+x=V / 256 ^ 16:=by rw [HX.out,HCK.out,hV,←UZ];omega
   obtain ⟨t,htt⟩:∃t,t=c+x:=⟨_,rfl⟩
   have hand:=VN (x:=c+x) (by omega) (by omega);have HP:=ak (Lr V);rw [<-ht] at HP;have HL:=ak (fun i hi=> PW f hV (i:=i) hi);obtain ⟨L,hL⟩:∃L,L=V % 256 ^ 16:=⟨_,rfl⟩
   rw [<-hL] at HP HL;obtain ⟨b,hb⟩:∃b,b=5 * ((c+x) / 4):=⟨_,rfl⟩
   rw [<-hb] at HP;have hb0:0<=b:=by omega
   have hb1:b<=2080800000:=by omega
   have HB:=ak hb;clear hV ht htt hL hb;go_wp2
   go_loopw [3,31] (fun x2 i wr2=> ∃(j:Nat) (d:Int),j<=16/\d=Ae L b j/\x2=.int .u32 d/\i=.int .i64 j/\aF .u32 wr2 w.heap.size 17 (upto j (dg 256 (L+b)) (upd (dg 256 L) 16 ((c+x) % 4)))/\aF .u32 wr2 (w.heap.size+1) 17 (fun _=> 0)/\Below w.heap.size w wr2) (fun _ i _=> 16 - (intOf i).toNat)
   case atStart=>
    refine ⟨0,b,iY _,(CQ L b).symm,by rw [HB.out],rfl,?_,HZ.out.other (by simp) _,hbel.setCell (bA _) _⟩;rw [dB];refine (HA.out.set 16 _).congr fun i hi=> ?_;unfold upd
    split
    ·rfl
    ·rw [upto,if_pos (by omega)];exact HL.out i (by omega)
   case round=>
    obtain ⟨j,d,hj,hd,rfl,rfl,hA2,hZ2,dG⟩:=hrel;obtain ⟨d0,d1⟩:=Ad (X:=L) hb0 j;rw [<-hd] at d0 d1;have HD:=ak hd;have q1:=hA2.cell j (by omega);rw [upto_at] at q1;have q2:=hA2.free j;have HA2:=ak hA2;have HZ2:=ak hZ2;by_cases hjt:j<16
    ·rw [upd_ne _ _ (by omega)] at q1;obtain ⟨y0,y1⟩:=bE (by decide:(0:Int)<256) L j;have S:=ak (CU L b j);rw [<-hd] at S;obtain ⟨y,hy⟩:∃y,y=dg 256 L j:=⟨_,rfl⟩
     rw [<-hy] at q1 y0 y1 S;have hand2:=Ap (x:=d+y) (by omega) (by omega);clear hA2 hZ2 hd hy e1 f1 hand;go_wp2;go_roundw
     case rel=> exact ⟨j+1,_,by omega,by rw [<-S.out.2];omega,rfl,by go_num,by rw [<-bR (show (d+y) % 256= _ by rw [<-S.out.1];omega)];exact HA2.out.set j _,HZ2.out.other (by simp) _,dG.setCell (bA _) _⟩
     case measure=> simp [intOf] <;> omega
    ·obtain rfl:j=16:=by omega
     rw [kC] at q1;have hfin:aF .u32 (wr.setCell ⟨w.heap.size,16,none⟩ (.int .u32 ((c+x) % 4+d))) w.heap.size 17 (pd (gM V)):=by
      refine (HA2.out.set 16 _).congr fun i hi=> ?_;by_cases afx:i=16
      ·subst afx;rw [kC,←HP.out.2,HD.out]
      ·rw [upd_ne _ _ afx,upto,if_pos (by omega)];exact HP.out.1 i (by omega)
     have hZ3:aF .u32 (wr.setCell ⟨w.heap.size,16,none⟩ (.int .u32 ((c+x) % 4+d))) (w.heap.size+1) 17 (fun _=> 0):=HZ2.out.other (by simp) _;have hb3:=dG.setCell (p:=⟨w.heap.size,16,none⟩) (bA _) (.int .u32 ((c+x) % 4+d));clear hA2 hZ2 hd e1 f1 hand
     go_wp2_with (first
      | (refine aQ rfl 271 _ rfl .u32 w.heap.size 17 _ 117 Au Tryz.size271 rfl hfin ?_)
      | (refine aG rfl 271 _ _ rfl .u32 (w.heap.size+1) 17 (fun _=> 0) _ Tryz.size271 rfl rfl hZ3 ?_))
     exact bodyPost_ret (bG rfl _ _ .u32 (w.heap.size+1) 17 _ 117 rfl (hZ3.setRow _ _) Au Tryz.size271) rfl ⟨rfl,ay hb3 (by omega) _⟩
end Go.Proofs.YtpcjekgfnfjbpaaGreat
