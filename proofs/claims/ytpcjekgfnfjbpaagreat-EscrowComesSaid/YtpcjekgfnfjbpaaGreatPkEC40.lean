/- Part 40 of EscrowComes; conditions: in each theorem. -/
import Derived.Test.YtpcjekgfnfjbpaaGreatPkEC11
import Derived.Test.YtpcjekgfnfjbpaaGreatPkEC20
set_option linter.unusedVariables false
set_option linter.unusedSimpArgs false
set_option maxRecDepth 100000
set_option maxHeartbeats 3200000
namespace Go.Proofs.YtpcjekgfnfjbpaaGreat
open Go.RowKit Go.bI
attribute [local go_sem ↓] Go.wp_at_zero Go.wp_at_succ
theorem zB {f:Nat->Int} (hf:∀i,i<16-> -4000000000000000<=f i/\f i<=4000000000000000):∀i,i<=16-> -70000000000<=cin f i/\cin f i<=70000000000:=
 uR hf aM aM aM aM
theorem mK (f:Nat->Int) (b:Nat) (w:World) (hA:aK .i64 w b 16 f) (hf:∀i,i<16-> -4000000000000000<=f i/\f i<=4000000000000000):
  Calls Tryz.prog 246 #[.pointer (some ⟨b,0,none⟩)] w fun e w'=>(∃v,e=.returned v)/\aK .i64 w' b 16 (oZ f)/\w.grownBy w' (some b):=by
 have HC:=ay (zB hf);have HF:=ay hf;have HA:=ay (hA.congr (ZH f));clear hA hf
 go_enter Tryz.func246,Tryz.ntmps246
 go_wp2
 go_loopw [4] (fun i wr=> ∃k:Nat,k<=16/\i=.int .i64 k/\aK .i64 wr b 16 (EK f k)/\w.grownBy wr (some b)) (fun i _=>16 - (intOf i).toNat)
 case atStart=>exact⟨0,jm _,rfl,HA.out,Gr.refl _ _⟩
 case round=>
  obtain⟨k,hk,rfl,ho,hg⟩:=hrel;by_cases hlt:k<16
  ·have e1:=ho.cell k hlt;have f1:=ho.free k;rw[ZM f hlt] at e1;have c1:=HC.out k hk;have c2:=HF.out k hlt;obtain⟨v,hv⟩:∃v,v=f k+cin f k:=⟨_,rfl⟩
   rw[<-hv] at e1;have v0: -4100000000000000<=v:=by omega
   have v1:v<=4100000000000000:=by omega
   have HV:=ay hv;have HO:=ay ho;have HG:=ay hg;have hq1:v+65536 - (v+65536) / 65536 * 65536=v % 65536:=by omega
   have hq2:(v+65536) / 65536 - 1=v / 65536:=by omega
   have HQ1:=ay hq1;have HQ2:=ay hq2;obtain⟨q,hq⟩:∃q,q=(v+65536) / 65536:=⟨_,rfl⟩
   have q0: -70000000000<=q:=by omega
   have q1:q<=70000000000:=by omega
   rw[<-hq] at HQ1 HQ2;have HQ:=ay hq;clear ho hv hg c1 c2 hq1 hq2 hq;go_wp2
   go_region
   all_goals
    go_wp2;rw[<-HQ.out];refine aJ (fun w1=>aK .i64 w1 b 16 (upd (EK f k) k (v+65536))/\w.grownBy w1 (some b)) ⟨(HO.out.set k _).drew,Gr.drew (Gr.set HG.out k _)⟩ ?_;rintro w1 ⟨ho1,hg1⟩;have e1':=ho1.cell k hlt;have f1':=ho1.free k;rw[mE] at e1';have Jy:=ay ho1;have Sd:=ay hg1;clear ho1 hg1 e1 f1 HO HG;by_cases YF:k<15
    ·go_region
     all_goals
      go_wp2;refine aJ (fun w2=>aK .i64 w2 b 16 (upd (EK f k) k (v % 65536))/\w.grownBy w2 (some b)) ⟨?_,Gr.drew (Gr.set Sd.out k _)⟩ ?_
      ·have h2:=(Jy.out.set k (v+65536 - q * 65536)).drew;rw[HQ1.out] at h2 ⊢;exact h2.congr fun i _=>wV _ _ _ _ i
      rintro w2 ⟨ho2,hg2⟩;have e2:=ho2.cell (k+1) aH;have f2:=ho2.free (k+1);rw[upd_ne _ _ aH,UC f YF] at e2;have c2:=HF.out (k+1) aH;obtain⟨u,hu⟩:∃u,u=f (k+1):=⟨_,rfl⟩
      rw[<-hu] at e2 c2;obtain⟨c3,c4⟩:=c2;have HU:=ay hu;have Ni:=ay ho2;have HG2:=ay hg2;clear ho2 hg2 Jy Sd e1' f1' hu
      go_region
      all_goals
       go_wp2;go_roundw
       case rel=>exact⟨k+1,by omega,by go_num,by have h3:=(Ni.out.set (k+1) (u+(q - 1))).drew;rw[HQ2.out,HU.out,HV.out] at h3;rw[HQ2.out,HU.out,HV.out];exact h3.congr (ZI f YF),Gr.drew (Gr.set HG2.out (k+1) _)⟩
       case measure=>simp[intOf] <;> omega
    ·obtain rfl:k=15:=by omega
     go_region
     all_goals
      go_wp2;refine aJ (fun w2=>aK .i64 w2 b 16 (upd (EK f 15) 15 (v % 65536))/\w.grownBy w2 (some b)) ⟨?_,Gr.drew (Gr.set Sd.out 15 _)⟩ ?_
      ·have h2:=(Jy.out.set 15 (v+65536 - q * 65536)).drew;rw[HQ1.out] at h2 ⊢;exact h2.congr fun i _=>wV _ _ _ _ i
      rintro w2 ⟨ho2,hg2⟩;have e2:=ho2.cell 0 aH;have f2:=ho2.free 0;rw[upd_ne _ _ aH,ZK f] at e2;obtain⟨u,hu⟩:∃u,u=f 0 % 65536:=⟨_,rfl⟩
      have c3:0<=u:=by omega
      have c4:u<=65535:=by omega
      rw[<-hu] at e2;have HU:=ay hu;have Ni:=ay ho2;have HG2:=ay hg2;clear ho2 hg2 Jy Sd e1' f1' hu
      go_region
      all_goals
       go_wp2;go_roundw
       case rel=>exact⟨16,by omega,by go_num,by have h3:=(Ni.out.set 0 (u+38 * (q - 1))).drew;rw[HQ2.out,HU.out,HV.out] at h3;rw[HQ2.out,HU.out,HV.out];exact h3.congr (ZJ f),Gr.drew (Gr.set HG2.out 0 _)⟩
       case measure=>simp[intOf] <;> omega
  ·obtain rfl:k=16:=by omega
   go_wp2
   go_end0
   exact⟨⟨_,rfl⟩,by rw[<-ZL];exact ho,hg⟩
abbrev El (f:Nat->Int):Value:=.agg (arr .i64 16 f)
theorem iD (f g:Nat->Int) (X Y:Int) (hf:Fe f X) (hg:Fe g Y) (w:World):
  Calls Tryz.prog 218 #[El f,El g] w fun e w'=>e=.returned (El (dw f g))/\Below w.heap.size w w':=by
 have HF:=ay hf;have HG:=ay hg;clear hf hg;unfold El
 go_enter Tryz.func218,Tryz.ntmps218
 go_wp2
 go_loopw [6] (fun i wr=> ∃k:Nat,k<=16/\i=.int .i64 k/\aK .i64 wr w.heap.size 16 (upto k (fun i=>f i+g i) f)/\aK .i64 wr (w.heap.size+1) 16 g/\aK .i64 wr (w.heap.size+2) 16 (fun _=>0)/\Below w.heap.size w wr) (fun i _=>16 - (intOf i).toNat)
 case atStart=>exact⟨0,jm _,rfl,by rw[dR];exact aK.alloc (aK.alloc (cB dO (by rfl)) _) _,aK.alloc (cB dO (by rfl)) _,cB dO (by rfl),(((bT _ _).alloc (bH _) _).alloc aR _).alloc iU _⟩
 case round=>
  obtain⟨k,hk,rfl,hA,hB,hZ,aD⟩:=hrel;by_cases hlt:k<16
  ·have e1:=hA.cell k hlt;have e2:=hB.cell k hlt;have f1:=hA.free k;rw[upto_at] at e1;obtain⟨x0,x1⟩:=HF.out.1.bound k hlt;obtain⟨y0,y1⟩:=HG.out.1.bound k hlt;have HA:=ay hA;have HB:=ay hB;have HZ:=ay hZ;have og:=ay aD;clear hA hB hZ aD;go_wp2
   go_region
   all_goals
    go_wp2;go_roundw
    case rel=>exact⟨k+1,by omega,by go_num,by rw[<-dh rfl];exact(HA.out.set k _).drew,(HB.out.other dO _).drew,(HZ.out.other dO _).drew,(og.out.setCell (bH _) _).drew⟩
    case measure=>simp[intOf] <;> omega
  ·obtain rfl:k=16:=by omega
   have jv:=hA.congr (fJ _ _ (bH _));have hl:=hZ.lt;go_wp2_with fail;refine(mK _ w.heap.size _ jv (fun i hi=>by have:=HF.out.1.bound i hi;have:=HG.out.1.bound i hi;omega)).mono ?_;rintro e w1 ⟨⟨v,rfl⟩,hC,hg⟩;have hZ1:=hZ.grown hg aR;have gX:=aD.trans (Gr.below hg (bH _) aH);have hs1:=hZ1.lt;clear hA hB hZ aD jv hg
   go_wp2_with (first
    | (refine bJ rfl 191 _ rfl .i64 w.heap.size 16 _ dB rfl bP rfl hC ?_)
    | (refine aL rfl 191 _ _ rfl .i64 (w.heap.size+2) 16 (fun _=>0) _ bP rfl rfl hZ1 ?_))
   exact bodyPost_ret (dI rfl _ _ .i64 (w.heap.size+2) 16 _ rfl (hZ1.setRow _ _) dB rfl bP) rfl ⟨rfl,aB gX aH _⟩
theorem jD (f g:Nat->Int) (X Y:Int) (hf:Fe f X) (hg:Fe g Y) (w:World):
  Calls Tryz.prog 244 #[El f,El g] w fun e w'=>e=.returned (El (fG f g))/\Below w.heap.size w w':=by
 have HF:=ay hf;have HG:=ay hg;clear hf hg;unfold El
 go_enter Tryz.func244,Tryz.ntmps244
 go_wp2
 go_loopw [6] (fun i wr=> ∃k:Nat,k<=16/\i=.int .i64 k/\aK .i64 wr w.heap.size 16 (upto k (fun i=>f i - g i) f)/\aK .i64 wr (w.heap.size+1) 16 g/\aK .i64 wr (w.heap.size+2) 16 (fun _=>0)/\Below w.heap.size w wr) (fun i _=>16 - (intOf i).toNat)
 case atStart=>exact⟨0,jm _,rfl,by rw[dR];exact aK.alloc (aK.alloc (cB dO (by rfl)) _) _,aK.alloc (cB dO (by rfl)) _,cB dO (by rfl),(((bT _ _).alloc (bH _) _).alloc aR _).alloc iU _⟩
 case round=>
  obtain⟨k,hk,rfl,hA,hB,hZ,aD⟩:=hrel;by_cases hlt:k<16
  ·have e1:=hA.cell k hlt;have e2:=hB.cell k hlt;have f1:=hA.free k;rw[upto_at] at e1;obtain⟨x0,x1⟩:=HF.out.1.bound k hlt;obtain⟨y0,y1⟩:=HG.out.1.bound k hlt;have HA:=ay hA;have HB:=ay hB;have HZ:=ay hZ;have og:=ay aD;clear hA hB hZ aD;go_wp2
   go_region
   all_goals
    go_wp2;go_roundw
    case rel=>exact⟨k+1,by omega,by go_num,by rw[<-dh rfl];exact(HA.out.set k _).drew,(HB.out.other dO _).drew,(HZ.out.other dO _).drew,(og.out.setCell (bH _) _).drew⟩
    case measure=>simp[intOf] <;> omega
  ·obtain rfl:k=16:=by omega
   have jv:=hA.congr (fJ _ _ (bH _));have hl:=hZ.lt;go_wp2_with fail;refine(mK _ w.heap.size _ jv (fun i hi=>by have:=HF.out.1.bound i hi;have:=HG.out.1.bound i hi;omega)).mono ?_;rintro e w1 ⟨⟨v,rfl⟩,hC,hg⟩;have hZ1:=hZ.grown hg aR;have gX:=aD.trans (Gr.below hg (bH _) aH);have hs1:=hZ1.lt;clear hA hB hZ aD jv hg
   go_wp2_with (first
    | (refine bJ rfl 191 _ rfl .i64 w.heap.size 16 _ dB rfl bP rfl hC ?_)
    | (refine aL rfl 191 _ _ rfl .i64 (w.heap.size+2) 16 (fun _=>0) _ bP rfl rfl hZ1 ?_))
   exact bodyPost_ret (dI rfl _ _ .i64 (w.heap.size+2) 16 _ rfl (hZ1.setRow _ _) dB rfl bP) rfl ⟨rfl,aB gX aH _⟩
theorem aac {a:Act} (w:World):(Instr.build 191 ((#[] :Array (Nat × Operand)).map fun(i,x)=>(i,a.eval x))).run Tryz.prog w=.ok (.agg (arr .i64 16 (fun _=>0))) w:=by
 simp only[vT,List.map_nil];rw[Go.run_build w _ _ (arr .i64 16 (fun _=>0)) aQ]
theorem zw (f:Nat->Int) (X:Int) (hf:Fe f X) (w:World):
  Calls Tryz.prog 211 #[El f] w fun e w'=>e=.returned (El (tJ f))/\Below w.heap.size w w':=by
 have HF:=ay hf;clear hf;unfold El
 go_enter Tryz.func211,Tryz.ntmps211
 go_wp2_with (first
  | (refine fC rfl (fK rfl (aac _)) ?_)
  | (refine bJ rfl 191 _ rfl .i64 w.heap.size 16 _ dB rfl bP rfl (aK.alloc (aK.new .i64 w 191 16 f) _) ?_))
 refine(jD (fun _=>0) f 0 X IE HF.out _).mono ?_;rintro e w1 ⟨rfl,hb⟩;have hZ:aK .i64 w1 (w.heap.size+1) 16 (fun _=>0):=aK.kept (cB dO (by rfl)) hb;have gX:Below w.heap.size w w1:=(((bT _ _).alloc (bH _) _).alloc aR _).trans (hb.mono iU);clear hb;unfold El;go_wp2_with (refine aL rfl 191 _ _ rfl .i64 (w.heap.size+1) 16 (fun _=>0) _ bP rfl rfl hZ ?_);refine bodyPost_ret (dI rfl _ _ .i64 (w.heap.size+1) 16 _ rfl (hZ.setRow _ _) dB rfl bP) rfl ⟨rfl,aB gX aH _⟩
end Go.Proofs.YtpcjekgfnfjbpaaGreat
