/- Part 29 of SuiteBytes; conditions: in each theorem. -/
import Derived.Test.YtpcjekgfnfjbpaaGreatPkSuiteBytes7
import Derived.Test.YtpcjekgfnfjbpaaGreatPkSuiteBytes17
set_option linter.unusedVariables false
set_option linter.unusedSimpArgs false
set_option maxRecDepth 100000
set_option maxHeartbeats 3200000
namespace Go.Proofs.YtpcjekgfnfjbpaaGreat
open Go.RowKit Go.bC
attribute [local go_sem ↓] Go.wp_at_zero Go.wp_at_succ
theorem yG {f:Nat->Int} (hf:∀i,i<16-> -4000000000000000<=f i/\f i<=4000000000000000):∀i,i<=16-> -70000000000<=cin f i/\cin f i<=70000000000:=
 uj hf aN aN aN aN
theorem lJ (f:Nat->Int) (b:Nat) (w:World) (hA:aQ .i64 w b 16 f) (hf:∀i,i<16-> -4000000000000000<=f i/\f i<=4000000000000000):
  Calls Tryz.prog 246 #[.pointer (some ⟨b,0,none⟩)] w fun e w'=>(∃v,e=.returned v)/\aQ .i64 w' b 16 (ow f)/\w.grownBy w' (some b):=by
 have HC:=ak (yG hf);have HF:=ak hf;have HA:=ak (hA.congr (Wn f));clear hA hf
 go_enter Tryz.func246,Tryz.ntmps246
 go_wp2
 go_loopw [4] (fun i wr=> ∃k:Nat,k<=16/\i=.int .i64 k/\aQ .i64 wr b 16 (DU f k)/\w.grownBy wr (some b)) (fun i _=>16 - (intOf i).toNat)
 case atStart=>exact⟨0,gX _,rfl,HA.out,Gr.refl _ _⟩
 case round=>
  obtain⟨k,hk,rfl,ho,hg⟩:=hrel;by_cases hlt:k<16
  ·have e1:=ho.cell k hlt;have f1:=ho.free k;rw[Wt f hlt] at e1;have c1:=HC.out k hk;have c2:=HF.out k hlt;obtain⟨v,hv⟩:∃v,v=f k+cin f k:=⟨_,rfl⟩
   rw[<-hv] at e1;have v0: -4100000000000000<=v:=by omega
   have v1:v<=4100000000000000:=by omega
   have HV:=ak hv;have HO:=ak ho;have HG:=ak hg;have hq1:v+65536 - (v+65536) / 65536 * 65536=v % 65536:=by omega
   have hq2:(v+65536) / 65536 - 1=v / 65536:=by omega
   have HQ1:=ak hq1;have Pj:=ak hq2;obtain⟨q,hq⟩:∃q,q=(v+65536) / 65536:=⟨_,rfl⟩
   have q0: -70000000000<=q:=by omega
   have q1:q<=70000000000:=by omega
   rw[<-hq] at HQ1 Pj;have HQ:=ak hq;clear ho hv hg c1 c2 hq1 hq2 hq;go_wp2
   go_region
   all_goals
    go_wp2;rw[<-HQ.out];refine aJ (fun w1=>aQ .i64 w1 b 16 (upd (DU f k) k (v+65536))/\w.grownBy w1 (some b)) ⟨(HO.out.set k _).drew,Gr.drew (Gr.set HG.out k _)⟩ ?_;rintro w1 ⟨ho1,hg1⟩;have e1':=ho1.cell k hlt;have f1':=ho1.free k;rw[kQ] at e1';have HO1:=ak ho1;have HG1:=ak hg1;clear ho1 hg1 e1 f1 HO HG;by_cases Vi:k<15
    ·go_region
     all_goals
      go_wp2;refine aJ (fun w2=>aQ .i64 w2 b 16 (upd (DU f k) k (v % 65536))/\w.grownBy w2 (some b)) ⟨?_,Gr.drew (Gr.set HG1.out k _)⟩ ?_
      ·have h2:=(HO1.out.set k (v+65536 - q * 65536)).drew;rw[HQ1.out] at h2 ⊢;exact h2.congr fun i _=>FT _ _ _ _ i
      rintro w2 ⟨ho2,hg2⟩;have e2:=ho2.cell (k+1) aH;have f2:=ho2.free (k+1);rw[upd_ne _ _ aH,Ri f Vi] at e2;have c2:=HF.out (k+1) aH;obtain⟨u,hu⟩:∃u,u=f (k+1):=⟨_,rfl⟩
      rw[<-hu] at e2 c2;obtain⟨c3,c4⟩:=c2;have HU:=ak hu;have tT:=ak ho2;have HG2:=ak hg2;clear ho2 hg2 HO1 HG1 e1' f1' hu
      go_region
      all_goals
       go_wp2;go_roundw
       case rel=>exact⟨k+1,by omega,by go_num,by have h3:=(tT.out.set (k+1) (u+(q - 1))).drew;rw[Pj.out,HU.out,HV.out] at h3;rw[Pj.out,HU.out,HV.out];exact h3.congr (Wo f Vi),Gr.drew (Gr.set HG2.out (k+1) _)⟩
       case measure=>simp[intOf] <;> omega
    ·obtain rfl:k=15:=by omega
     go_region
     all_goals
      go_wp2;refine aJ (fun w2=>aQ .i64 w2 b 16 (upd (DU f 15) 15 (v % 65536))/\w.grownBy w2 (some b)) ⟨?_,Gr.drew (Gr.set HG1.out 15 _)⟩ ?_
      ·have h2:=(HO1.out.set 15 (v+65536 - q * 65536)).drew;rw[HQ1.out] at h2 ⊢;exact h2.congr fun i _=>FT _ _ _ _ i
      rintro w2 ⟨ho2,hg2⟩;have e2:=ho2.cell 0 aH;have f2:=ho2.free 0;rw[upd_ne _ _ aH,Wq f] at e2;obtain⟨u,hu⟩:∃u,u=f 0 % 65536:=⟨_,rfl⟩
      have c3:0<=u:=by omega
      have c4:u<=65535:=by omega
      rw[<-hu] at e2;have HU:=ak hu;have tT:=ak ho2;have HG2:=ak hg2;clear ho2 hg2 HO1 HG1 e1' f1' hu
      go_region
      all_goals
       go_wp2;go_roundw
       case rel=>exact⟨16,by omega,by go_num,by have h3:=(tT.out.set 0 (u+38 * (q - 1))).drew;rw[Pj.out,HU.out,HV.out] at h3;rw[Pj.out,HU.out,HV.out];exact h3.congr (Wp f),Gr.drew (Gr.set HG2.out 0 _)⟩
       case measure=>simp[intOf] <;> omega
  ·obtain rfl:k=16:=by omega
   go_wp2
   go_end0
   exact⟨⟨_,rfl⟩,by rw[<-Ws];exact ho,hg⟩
abbrev El (f:Nat->Int):Value:=.agg (arr .i64 16 f)
theorem gG (f g:Nat->Int) (X Y:Int) (hf:Fe f X) (hg:Fe g Y) (w:World):
  Calls Tryz.prog 218 #[El f,El g] w fun e w'=>e=.returned (El (dD f g))/\Below w.heap.size w w':=by
 have HF:=ak hf;have HG:=ak hg;clear hf hg;unfold El
 go_enter Tryz.func218,Tryz.ntmps218
 go_wp2
 go_loopw [6] (fun i wr=> ∃k:Nat,k<=16/\i=.int .i64 k/\aQ .i64 wr w.heap.size 16 (upto k (fun i=>f i+g i) f)/\aQ .i64 wr (w.heap.size+1) 16 g/\aQ .i64 wr (w.heap.size+2) 16 (fun _=>0)/\Below w.heap.size w wr) (fun i _=>16 - (intOf i).toNat)
 case atStart=>exact⟨0,gX _,rfl,by rw[dH];exact aQ.alloc (aQ.alloc (bU (by first | omega | (simp<;> omega)) (by rfl)) _) _,aQ.alloc (bU (by first | omega | (simp<;> omega)) (by rfl)) _,bU (by first | omega | (simp<;> omega)) (by rfl),(((bT _ _).alloc (bB _) _).alloc aR _).alloc (by simp;omega) _⟩
 case round=>
  obtain⟨k,hk,rfl,hA,hB,hZ,aA⟩:=hrel;by_cases hlt:k<16
  ·have e1:=hA.cell k hlt;have e2:=hB.cell k hlt;have f1:=hA.free k;rw[upto_at] at e1;obtain⟨x0,x1⟩:=HF.out.1.bound k hlt;obtain⟨y0,y1⟩:=HG.out.1.bound k hlt;have HA:=ak hA;have HB:=ak hB;have HZ:=ak hZ;have iq:=ak aA;clear hA hB hZ aA;go_wp2
   go_region
   all_goals
    go_wp2;go_roundw
    case rel=>exact⟨k+1,by omega,by go_num,by rw[<-bW rfl];exact(HA.out.set k _).drew,(HB.out.other (by first | omega | (simp<;> omega)) _).drew,(HZ.out.other (by first | omega | (simp<;> omega)) _).drew,(iq.out.setCell (bB _) _).drew⟩
    case measure=>simp[intOf] <;> omega
  ·obtain rfl:k=16:=by omega
   have iK:=hA.congr (dQ _ _ (bB _));have hl:=hZ.lt;go_wp2_with fail;refine(lJ _ w.heap.size _ iK (fun i hi=>by have:=HF.out.1.bound i hi;have:=HG.out.1.bound i hi;omega)).mono ?_;rintro e w1 ⟨⟨v,rfl⟩,hC,hg⟩;have hZ1:=hZ.grown hg aR;have eP:=aA.trans (Gr.below hg (bB _) aH);have hs1:=hZ1.lt;clear hA hB hZ aA iK hg
   go_wp2_with (first
    | (refine bN rfl 191 _ rfl .i64 w.heap.size 16 _ cZ rfl bQ rfl hC ?_)
    | (refine aM rfl 191 _ _ rfl .i64 (w.heap.size+2) 16 (fun _=>0) _ bQ rfl rfl hZ1 ?_))
   exact bodyPost_ret (dG rfl _ _ .i64 (w.heap.size+2) 16 _ rfl (hZ1.setRow _ _) cZ rfl bQ) rfl ⟨rfl,aC eP aH _⟩
theorem jk (f g:Nat->Int) (X Y:Int) (hf:Fe f X) (hg:Fe g Y) (w:World):
  Calls Tryz.prog 244 #[El f,El g] w fun e w'=>e=.returned (El (fE f g))/\Below w.heap.size w w':=by
 have HF:=ak hf;have HG:=ak hg;clear hf hg;unfold El
 go_enter Tryz.func244,Tryz.ntmps244
 go_wp2
 go_loopw [6] (fun i wr=> ∃k:Nat,k<=16/\i=.int .i64 k/\aQ .i64 wr w.heap.size 16 (upto k (fun i=>f i - g i) f)/\aQ .i64 wr (w.heap.size+1) 16 g/\aQ .i64 wr (w.heap.size+2) 16 (fun _=>0)/\Below w.heap.size w wr) (fun i _=>16 - (intOf i).toNat)
 case atStart=>exact⟨0,gX _,rfl,by rw[dH];exact aQ.alloc (aQ.alloc (bU (by first | omega | (simp<;> omega)) (by rfl)) _) _,aQ.alloc (bU (by first | omega | (simp<;> omega)) (by rfl)) _,bU (by first | omega | (simp<;> omega)) (by rfl),(((bT _ _).alloc (bB _) _).alloc aR _).alloc (by simp;omega) _⟩
 case round=>
  obtain⟨k,hk,rfl,hA,hB,hZ,aA⟩:=hrel;by_cases hlt:k<16
  ·have e1:=hA.cell k hlt;have e2:=hB.cell k hlt;have f1:=hA.free k;rw[upto_at] at e1;obtain⟨x0,x1⟩:=HF.out.1.bound k hlt;obtain⟨y0,y1⟩:=HG.out.1.bound k hlt;have HA:=ak hA;have HB:=ak hB;have HZ:=ak hZ;have iq:=ak aA;clear hA hB hZ aA;go_wp2
   go_region
   all_goals
    go_wp2;go_roundw
    case rel=>exact⟨k+1,by omega,by go_num,by rw[<-bW rfl];exact(HA.out.set k _).drew,(HB.out.other (by first | omega | (simp<;> omega)) _).drew,(HZ.out.other (by first | omega | (simp<;> omega)) _).drew,(iq.out.setCell (bB _) _).drew⟩
    case measure=>simp[intOf] <;> omega
  ·obtain rfl:k=16:=by omega
   have iK:=hA.congr (dQ _ _ (bB _));have hl:=hZ.lt;go_wp2_with fail;refine(lJ _ w.heap.size _ iK (fun i hi=>by have:=HF.out.1.bound i hi;have:=HG.out.1.bound i hi;omega)).mono ?_;rintro e w1 ⟨⟨v,rfl⟩,hC,hg⟩;have hZ1:=hZ.grown hg aR;have eP:=aA.trans (Gr.below hg (bB _) aH);have hs1:=hZ1.lt;clear hA hB hZ aA iK hg
   go_wp2_with (first
    | (refine bN rfl 191 _ rfl .i64 w.heap.size 16 _ cZ rfl bQ rfl hC ?_)
    | (refine aM rfl 191 _ _ rfl .i64 (w.heap.size+2) 16 (fun _=>0) _ bQ rfl rfl hZ1 ?_))
   exact bodyPost_ret (dG rfl _ _ .i64 (w.heap.size+2) 16 _ rfl (hZ1.setRow _ _) cZ rfl bQ) rfl ⟨rfl,aC eP aH _⟩
theorem KV {a:Act} (w:World):(Instr.build 191 ((#[] :Array (Nat × Operand)).map fun(i,x)=>(i,a.eval x))).run Tryz.prog w=.ok (.agg (arr .i64 16 (fun _=>0))) w:=by
 simp only[zw,List.map_nil];rw[Go.run_build w _ _ (arr .i64 16 (fun _=>0)) aS]
theorem nP (f:Nat->Int) (X:Int) (hf:Fe f X) (w:World):
  Calls Tryz.prog 211 #[El f] w fun e w'=>e=.returned (El (iJ f))/\Below w.heap.size w w':=by
 have HF:=ak hf;clear hf;unfold El
 go_enter Tryz.func211,Tryz.ntmps211
 go_wp2_with (first
  | (refine gq rfl (gN rfl (KV _)) ?_)
  | (refine bN rfl 191 _ rfl .i64 w.heap.size 16 _ cZ rfl bQ rfl (aQ.alloc (aQ.new .i64 w 191 16 f) _) ?_))
 refine(jk (fun _=>0) f 0 X Ad HF.out _).mono ?_;rintro e w1 ⟨rfl,hb⟩;have hZ:aQ .i64 w1 (w.heap.size+1) 16 (fun _=>0):=aQ.kept (bU (by first | omega | (simp<;> omega)) (by rfl)) hb;have eP:Below w.heap.size w w1:=(((bT _ _).alloc (bB _) _).alloc aR _).trans (hb.mono (by simp;omega));clear hb;unfold El;go_wp2_with (refine aM rfl 191 _ _ rfl .i64 (w.heap.size+1) 16 (fun _=>0) _ bQ rfl rfl hZ ?_);refine bodyPost_ret (dG rfl _ _ .i64 (w.heap.size+1) 16 _ rfl (hZ.setRow _ _) cZ rfl bQ) rfl ⟨rfl,aC eP aH _⟩
end Go.Proofs.YtpcjekgfnfjbpaaGreat
