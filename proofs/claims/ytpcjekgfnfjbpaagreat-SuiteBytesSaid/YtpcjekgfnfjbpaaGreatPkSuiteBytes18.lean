/- Part 18 of SuiteBytes; conditions: in each theorem. -/
import Derived.Test.YtpcjekgfnfjbpaaGreatPkSuiteBytes16
import Derived.Test.YtpcjekgfnfjbpaaGreatPkSuiteBytes17
set_option linter.unusedVariables false
set_option linter.unusedSimpArgs false
set_option maxRecDepth 100000
set_option maxHeartbeats 1600000
namespace Go.bC
open Go.RowKit
theorem Rd.agL {F:Nat->Prop} {w w':World} {k:IntKind} {v:Value} {n:Nat} {f:Nat->Int} (h:Rd k w v n f) (hg:iW F w w') (gB:0<n->∀b,v.ownBlock=some b->¬ F b):Rd k w' v n f:=by
 obtain⟨a,c,rfl,h1,h2,h3,h4⟩:=h;refine⟨a,c,rfl,h1,h2,h3,fun hn=>?_⟩;obtain⟨b,o,rfl,hlt,hc⟩:=h4 hn;have:=hg.size;exact⟨b,o,rfl,by omega,fun i hi=>(hg.cell (p:=⟨b,o+i,none⟩) hlt (gB hn b rfl)).trans (hc i hi)⟩
end Go.bC
namespace Go.Proofs.YtpcjekgfnfjbpaaGreat
open Go.RowKit Go.bC Go.ChangeShapes Go.Maps
attribute [local go_sem ↓] Go.wp_at_zero Go.wp_at_succ
section
variable {B : Nat} {w w' : World} {p mb mt : Nat} {vl vb : Value} {tv : Nat -> Value} {S : TS}
theorem PG {F:Nat->Prop} (h:zR B w p F S) (hB:B<=w.heap.size) (s:Int) (hl:S.l.length<=1000):
  Calls Tryz.prog 79 #[.pointer (some ⟨p,0,none⟩),.int .i64 s] w fun e w'=>e=.returned (.tuple #[.int .i64 (zo S s).1,.int .i64 (zo S s).2])/\∃F',zR B w' p F' (S.draw s)/\iW F w w'/\∀b,F' b->F b\/w.heap.size<=b:=by
 obtain⟨mb,mt,vl,vb,tv,h1,h2,h3⟩:=h;have H:=ak h1;have Cy:=ak h2;have FK:=ak h3;have zT:=ak hB;have HL:=ak hl;obtain⟨PA,Vs⟩:∃x,x=zo S s:=⟨_,rfl⟩
 obtain⟨SP,hSP⟩:∃x,x=S.draw s:=⟨_,rfl⟩
 rw[<-Vs,←hSP];have Sk:=ak Vs;have Si:=ak hSP;clear h1 h2 h3 hB hl Vs hSP
 go_enter Tryz.func79,Tryz.ntmps79
 go_wp2_with fail;refine(qE H.out).mono ?_;rintro e w1' ⟨rfl,rfl⟩;go_wp2_with fail;refine(Ei s _).mono ?_;rintro e w1 ⟨rfl,rfl⟩
 cases hm:isSort s with
 | false=>
  have E1:Hid (PA=(0,2)):=ak (by rw[Sk.out];unfold zo;rw[if_neg (by rw[hm];decide)]);have E2:Hid (SP=S):=ak (by rw[Si.out];unfold TS.draw;rw[if_neg (fun h=>by rw[hm] at h;cases h.1)]);clear hm;go_wp2;go_ret2;rw[E1.out,E2.out];exact⟨rfl,F,⟨mb,mt,vl,vb,tv,H.out,Cy.out,FK.out⟩,.refl _ _,fun b hb=>.inl hb⟩
 | true=>
  have hs:=hm;simp only[isSort,NK,decide_eq_true_eq] at hs;obtain⟨k,rfl⟩:=IL (show 0<=s by omega);have hk5:k<5:=by omega
  have hk9:(k:Int)<5:=by omega
  have z0:=H.out.nx k hk5;have asF:=ak (Yr S.l k);have Ll:=ak (Mw S.l k);by_cases hx:xR S.l k<=oz
  ·have E1:Hid (PA=((S.l.length:Int),0)):=ak (by rw[Sk.out];unfold zo;rw[if_pos hm,if_pos hx]);have E2:Hid (SP=S.add (1,(k:Int),xR S.l k)):=ak (by rw[Si.out];unfold TS.draw;rw[if_pos ⟨hm,hx⟩]);have adS:=ak (Yt hx);have OK2:Hid ((S.add (1,(k:Int),xR S.l k)).Ok):=ak (Cy.out.add adS.out (.inl ⟨rfl,hs,Ll.out⟩));have HS:=ak hs;have hgt:¬ (4611686018427387904:Int)<xR S.l k:=by unfold oz at hx;omega
   obtain⟨X,hX⟩:∃X,X=xR S.l k:=⟨_,rfl⟩
   have HXT:Hid (0<=X/\X<=4611686018427387904):=ak (by rw[hX];exact⟨Ll.out,by unfold oz at hx;exact hx⟩);rw[<-hX] at z0 E2 adS OK2 hgt;clear hm hs hx hX;go_wp2_with fail;refine(Am H.out zT.out (1,(k:Int),X) ⟨⟨by simp,by simp⟩,⟨by simp only;omega,by simp only;omega⟩,⟨by simp only;have:=HXT.out;omega,by simp only;have:=HXT.out;omega⟩⟩ adS.out (fun _=>HS.out) HL.out).mono ?_;rintro e w4 ⟨rfl,CG,h4,hc4,hf4⟩;have S4:Hid (zR B w4 p (TF p mb mt CG vb S.tx.length tv) (S.add (1,(k:Int),X))):=ak ⟨mb,mt,CG,vb,tv,h4,OK2.out,fun b=>Iff.rfl⟩;have C4:Hid (iW F w1 w4):=ak (hc4.mono (G:=F) fun b _ hb=>(FK.out b).2 (by
    rcases hb with h | h | h
    ·exact .inl h
    ·exact .inr (.inl h)
    ·exact .inr (.inr (.inr (.inl h)))))
   have F4:Hid (∀b,TF p mb mt CG vb S.tx.length tv b->F b\/w1.heap.size<=b):=ak fun b hb=>(TF.add (N:=w1.heap.size) hf4 b hb).imp (FK.out b).2 id;clear h4 hc4 hf4;go_wp2;go_ret2;rw[E1.out,E2.out];exact⟨rfl,_,S4.out,C4.out,F4.out⟩
  ·have E1:Hid (PA=(0,3)):=ak (by rw[Sk.out];unfold zo;rw[if_pos hm,if_neg hx]);have E2:Hid (SP=S):=ak (by rw[Si.out];unfold TS.draw;rw[if_neg (fun h=>hx h.2)]);have hgt:(4611686018427387904:Int)<xR S.l k:=by unfold oz at hx;omega
   clear hm hs hx;go_wp2;go_ret2;rw[E1.out,E2.out];exact⟨rfl,F,⟨mb,mt,vl,vb,tv,H.out,Cy.out,FK.out⟩,.refl _ _,fun b hb=>.inl hb⟩
end
section
variable {B : Nat} {w w' : World} {p : Nat} {F : Nat -> Prop} {S : TS}
def KC (S:TS) (n:Int):Tm × Bool:=if 0<=n then (match S.l[n.toNat]? with | some t=>(t,true) | none=>((0,0,0),false)) else ((0,0,0),false)
theorem KA {n:Nat} {t:Tm} (h:S.l[n]? =some t):KC S n=(t,true):=by
 unfold KC;rw[if_pos aH,Ct,h]
theorem Zg {n:Int} (h:ig S.l n 0=false):KC S n=((0,0,0),false):=by
 unfold KC
 split
 ·rename_i h0
  split
  ·rename_i t ht
   obtain⟨a,rfl⟩:=IL h0;rw[Ct] at ht;rw[qj.2 ⟨a,rfl,t,ht,.inl rfl⟩] at h;cases h
  ·rfl
 ·rfl
theorem SX (h:zR B w p F S) (n:Int):Calls Tryz.prog 61 #[.pointer (some ⟨p,0,none⟩),.int .i64 n] w fun e w'=>e=.returned (.tuple #[LC (KC S n).1,.bool (KC S n).2])/\Below w.heap.size w w':=by
 obtain⟨mb,mt,vl,vb,tv,h1,h2,h3⟩:=h;have H:=ak h1;obtain⟨G,hG⟩:∃x,x=KC S n:=⟨_,rfl⟩
 rw[<-hG];have HG:=ak hG;clear h1 h2 h3 hG
 go_enter Tryz.func61,Tryz.ntmps61
 go_upto_region 1 with(fail);refine aJ (fun w1=>aQ .i64 w1 w.heap.size 3 (fun _=>0)/\Below w.heap.size w w1) ⟨bU rfl rfl,(bT _ _).alloc (bB _) _⟩ ?_;rintro w1 ⟨mU,bb1⟩;have HA1:=ak mU;have B1:=ak bb1;have H1:=ak (H.out.below bb1);clear mU bb1;go_wp2_with fail;refine(qE H1.out).mono ?_;rintro e w1' ⟨rfl,rfl⟩;go_wp2_with fail;refine(iC H1.out n 0).mono ?_;rintro e w2 ⟨rfl,rfl⟩
 cases hm:ig S.l n 0 with
 | false=>
  have E1:Hid (G=((0,0,0),false)):=ak (HG.out.trans (Zg hm));obtain⟨t1,ht1⟩:=HA1.out;have HT1:=ak ht1;clear hm ht1;go_wp2_with (refine Aw rfl 96 _ _ rfl w.heap.size 3 (fun i=>.int .i64 (tf (0,0,0) i)) _ t1 HT1.out rfl Tryz.sizeTm rfl rfl (fun i _=>rfl) ?_);have HA2:Hid (aQ .i64 (w2.setRow w.heap.size (oC 3 fun i=>.int .i64 (tf (0,0,0) i))) w.heap.size 3 (tf (0,0,0))):=ak (HA1.out.setRow 3 (tf (0,0,0)));have B2:Hid (Below w.heap.size w (w2.setRow w.heap.size (oC 3 fun i=>.int .i64 (tf (0,0,0) i)))):=ak (aC B1.out (bB _) _);rw[E1.out];refine bodyPost_ret (eD rfl _ _ .i64 w.heap.size 3 _ rfl HA2.out Tryz.underlying96 rfl Tryz.sizeTm) rfl ?_;exact⟨rfl,B2.out⟩
 | true=>
  obtain⟨a,rfl,ha,_⟩:=nG hm;obtain⟨t,ht⟩:∃t,S.l[a]? =some t:=⟨_,tO ha⟩
  have E1:Hid (G=(t,true)):=ak (HG.out.trans (KA ht));obtain⟨t1,ht1⟩:=HA1.out;have HT1:=ak ht1;have c0:=H1.out.c0;obtain⟨g,cap,ev,_,_,_,hc⟩:=H1.out.ls.form aH;have HC:Hid (∀i,i<3->w2.cell? ⟨g,a * 3+i,none⟩=some (.int .i64 (tf t i))):=ak fun i hi=>(hc a ha i hi).trans (congrArg some (FU ht));rw[ev] at c0;have h9:(a:Int)<(S.l.length:Int):=by omega
  clear hm ht1 ha ht hc ev
  go_wp2_with (first
   | (refine Bz (y:=fun i=>.int .i64 (tf t i)) rfl rfl rfl Tryz.underlying96 rfl Tryz.sizeTm HC.out ?_)
   | (refine Aw rfl 96 _ _ rfl w.heap.size 3 (fun i=>.int .i64 (tf t i)) _ t1 HT1.out rfl Tryz.sizeTm rfl rfl (fun i _=>rfl) ?_))
  have HA2:Hid (aQ .i64 (w2.setRow w.heap.size (oC 3 fun i=>.int .i64 (tf t i))) w.heap.size 3 (tf t)):=ak (HA1.out.setRow 3 (tf t));have B2:Hid (Below w.heap.size w (w2.setRow w.heap.size (oC 3 fun i=>.int .i64 (tf t i)))):=ak (aC B1.out (bB _) _);rw[E1.out];refine bodyPost_ret (eD rfl _ _ .i64 w.heap.size 3 _ rfl HA2.out Tryz.underlying96 rfl Tryz.sizeTm) rfl ?_;exact⟨rfl,B2.out⟩
end
section
variable {B : Nat} {w w' : World} {p mb mt : Nat} {vl vb : Value} {tv : Nat -> Value} {S : TS}
theorem CU.ofText {b:List Int} {CG vb':Value} {tv':Nat->Value} (h:CU B w p mb mt vl vb tv S) (Sb:okX b) (hn:b ∉ S.tx) (h9:((9,(S.tx.length:Int),0):Tm) ∉ S.l) (hlen:S.tx.length<=1000000) {nf:Nat->Int} (hp:Tsp B w' p mb mt CG vb' tv' (S.l++ [(9,(S.tx.length:Int),0)]) (S.l++ [(9,(S.tx.length:Int),0)]) (S.tx++ [b]) (S.tx++ [b]) (IY (S.text b)) nf) (hf:∀k:Nat,k<5->nf k=xR S.l k):CU B w' p mb mt CG vb' tv' (S.text b):=by
 have hS:S.text b=⟨S.l++ [(9,(S.tx.length:Int),0)],S.tx++ [b]⟩:=if_neg hn;rw[hS] at hp ⊢;refine⟨⟨hp.row,hp.c0,hp.c1,hp.c2,hp.c3,fun k hk=>(hp.nx k hk).trans (by rw[hf k hk,sQ,if_neg (fun h=>by have:=h.1;simp at this)]),hp.ls,hp.am,hp.xm,hp.bs,hp.bt,hp.ne,hp.hp,hp.hb,hp.hm,hp.hl,hp.hv⟩,gH h.nd h9,gH h.txn hn,fun j hj=>?_,fun u hu=>?_,fun u hu=>?_⟩
 ·have hj:j<(S.tx++ [b]).length:=hj;rw[List.length_append,List.length_singleton] at hj;refine List.mem_append.2 ?_;by_cases h':j<S.tx.length
  ·exact .inl (h.all j h')
  ·exact .inr (by rw[show j=S.tx.length by omega];simp)
 ·rcases List.mem_append.1 hu with hu | hu
  ·exact h.okt u hu
  ·rw[List.mem_singleton.1 hu];exact⟨⟨by simp,by simp⟩,⟨by simp only;omega,by simp only;omega⟩,⟨by simp,by simp⟩⟩
 ·rcases List.mem_append.1 hu with hu | hu
  ·exact h.okx u hu
  ·rw[List.mem_singleton.1 hu];exact Sb
theorem XM {b:List Int} (h:S.l.Nodup) (hx:S.tx.Nodup) (hn:b ∉ S.tx) (h9:((9,(S.tx.length:Int),0):Tm) ∉ S.l):IY (S.text b) b=S.l.length:=by
 have hS:S.text b=⟨S.l++ [(9,(S.tx.length:Int),0)],S.tx++ [b]⟩:=if_neg hn;rw[hS];unfold IY;have e1:DC (S.tx++ [b]) b=S.tx.length:=Gz (gH hx hn) (by rw[IQ (bB _),Nat.sub_self];rfl);simp only[e1];exact Gz (gH h h9) (by rw[IQ (bB _),Nat.sub_self];rfl)
theorem XL {b y:List Int} (hx:S.tx.Nodup) (hn:b ∉ S.tx) (hy:y ∈ S.tx):IY (S.text b) y=IY (S.add (9,(S.tx.length:Int),0)) y:=by
 have hS:S.text b=⟨S.l++ [(9,(S.tx.length:Int),0)],S.tx++ [b]⟩:=if_neg hn;rw[hS];unfold IY;simp only[uX (gH hx hn) (List.prefix_append _ _) hy]
 rfl
theorem PE {F:Nat->Prop} (h:zR B w p F S) (hB:B<=w.heap.size) (b:List Int) (Sb:okX b) (v:Value) (hv:Rd .u8 w v b.length (bf b)) (hvF:0<b.length->∀c,v.ownBlock=some c->¬ F c) (hl:S.l.length<=1000) (hx:S.tx.length<=1000):
  Calls Tryz.prog 81 #[.pointer (some ⟨p,0,none⟩),v] w fun e w'=>e=.returned (.tuple #[.int .i64 (yQ S b),.int .i64 0])/\∃F',zR B w' p F' (S.text b)/\iW F w w'/\∀b,F' b->F b\/w.heap.size<=b:=by
 obtain⟨mb,mt,vl,vb,tv,h1,h2,h3⟩:=h;have H:=ak h1;have Cy:=ak h2;have FK:=ak h3;have zT:=ak hB;have HL:=ak hl;have HX:=ak hx;have ZN:=ak Sb;have HV:=ak hv;have HVF:=ak hvF;clear hvF;obtain⟨av,cv,rfl,_⟩:=hv;obtain⟨PA,Vs⟩:∃x,x=yQ S b:=⟨_,rfl⟩
 obtain⟨SP,hSP⟩:∃x,x=S.text b:=⟨_,rfl⟩
 rw[<-Vs,←hSP];have Sk:=ak Vs;have Si:=ak hSP;have h9:¬ (1048576:Int)<(b.length:Int):=by have:=Sb.2;omega
 clear h1 h2 h3 hB hl hx Sb Vs hSP
 go_enter Tryz.func81,Tryz.ntmps81
 go_wp2_with fail;refine(qE H.out).mono ?_;rintro e w1 ⟨rfl,rfl⟩;go_upto_region 5 with(fail);have c2:=H.out.c2;clear h9;by_cases hin:b ∈ S.tx
 ·have E1:Hid (PA=(IY S b:Int)):=ak (by rw[Sk.out];unfold yQ;rw[if_pos hin];rfl);have E2:Hid (SP=S):=ak (by rw[Si.out];unfold TS.text;rw[if_pos hin]);have l1:∀n,(Instr.lookup 161 (.map (some mt)) (.string (strOf b.length (bf b))) true).run Tryz.prog (w1.drewN n)=.ok (.tuple #[wU (IY S b),.bool true]) (w1.drewN n):=fun n=>UD.OE (H.out.below (Go.bC.below_drewN (bT _ _) n)).xm hin;obtain⟨X,hX⟩:∃X,X=IY S b:=⟨_,rfl⟩
  rw[<-hX] at l1 E1;clear hin hX;refine wp_region_quiet_lit aS aS ?_
  repeat (first | (refine yg rfl (fun n=>sK rfl rfl (HV.out.below (Go.bC.below_drewN (bT _ _) n)) lK Tryz.underlying5 Tryz.underlying9 ZN.out.1.at) ?_) | quiet_step (fail))
  refine wpQuiet_nil ?_;rintro _ ⟨nq,rfl⟩;go_wp2;go_ret2;rw[E1.out,E2.out];exact⟨rfl,F,⟨mb,mt,vl,vb,tv,H.out.below (Go.bC.below_drewN (bT _ _) nq),Cy.out,FK.out⟩,.of_below (Go.bC.below_drewN (bT _ _) nq) _,fun b hb=>.inl hb⟩
 ·have E1:Hid (PA=(S.l.length:Int)):=ak (by rw[Sk.out];unfold yQ;rw[if_neg hin]);have l1:∀n,(Instr.lookup 161 (.map (some mt)) (.string (strOf b.length (bf b))) true).run Tryz.prog (w1.drewN n)=.ok (.tuple #[.int .i64 0,.bool false]) (w1.drewN n):=fun n=>UD.Uu (H.out.below (Go.bC.below_drewN (bT _ _) n)).xm H.out.okx ZN.out hin;have HIN:=ak hin;clear hin;refine wp_region_quiet_lit aS aS ?_
  repeat (first | (refine yg rfl (fun n=>sK rfl rfl (HV.out.below (Go.bC.below_drewN (bT _ _) n)) lK Tryz.underlying5 Tryz.underlying9 ZN.out.1.at) ?_) | quiet_step (fail))
  refine wpQuiet_nil ?_;rintro _ ⟨nq,rfl⟩;clear l1 c2;have B3:=ak (Go.bC.below_drewN (bT w1.heap.size w1) nq);have H3:=ak (H.out.below B3.out);have HN9:=ak Cy.out.Vz;have c3:=H3.out.c3;obtain⟨ab,cb,eb,_⟩:=H3.out.bs.slice;have HEB:=ak eb;rw[eb] at c3;clear eb;go_wp2_with fail;refine(Am H3.out (jS zT.out B3.out.size) (9,(S.tx.length:Int),0) ⟨⟨by simp,by simp⟩,⟨by simp only;have:=HX.out;omega,by simp only;have:=HX.out;omega⟩,⟨by simp,by simp⟩⟩ HN9.out (fun h=>by simp at h) HL.out).mono ?_;rintro e w4 ⟨rfl,CG,h4,hc4,hf4⟩;have H4:=ak h4;have C4:=ak hc4;have F4:=ak hf4;clear h4 hc4 hf4 c3;go_upto_region 11 with(fail)
  apply ji (n:=63) [.f,.e,.e,.e,.e,.e,.c,.c,.c,.f,.f,.c] 2 aS aS aS rfl
  ·intro w5 QU;have c3:=(H4.out.below QU).c3;rw[HEB.out] at c3;simp only[fK,Cl.II,cond_true,cond_false]
   repeat still_step
   exact wpStill_nil rfl
  ·intro w5;simp only[fK,Cl.Xu,cond_true,cond_false]
   repeat still_step
   exact wpStill_nil rfl
  ·simp only[fK,Cl.qg,cond_true,cond_false];refine qw ((bT _ _).drew) (fun K hK=>?_)
   go_simp
   have CF4:Hid (iW F w1 w4):=ak ((iW.of_below B3.out F).trans (C4.out.mono (G:=F) fun b _ hb=>(FK.out b).2 (by
    rcases hb with h | h | h
    ·exact .inl h
    ·exact .inr (.inl h)
    ·exact .inr (.inr (.inr (.inl h))))) fun _ _ h=>h)
   have HV4:=ak ((HV.out.agL CF4.out HVF.out).below ((bT w4.heap.size w4).drew));have RY:Hid (B<=w4.heap.size):=ak (jS zT.out CF4.out.size);refine(yI _ _ _ _ HV4.out (by have:=ZN.out.2;omega)).mono ?_;rintro e w5 ⟨u,rfl,hu,b5⟩;have UB:Hid (∀c,u.ownBlock=some c->w4.heap.size<=c):=ak hu.block;have hu:=hu.mono (show B<=w4.drew.heap.size from RY.out);have Pd:Below w4.heap.size w4 w5:=((bT w4.heap.size w4).drew).trans b5;refine hK _ _ Pd ?_;clear hK K;obtain⟨au,cu,eu,_⟩:=hu.zH.slice;subst eu;refine qw Pd (fun K hK=>?_);refine aO <| Eb 55 23 1 _ rfl Tryz.underlying55 #[.slice au b.length cu] aS (hK _ _ (Pd.alloc Pd.size _) (qp ?_));clear hK K;have H5:=ak (H4.out.below Pd);refine vL (w0:=w5) rfl _ _ rfl rfl rfl (HEB.out▸H5.out.bs) Tryz.underlying55 Tryz.infoBs rfl rfl rfl (by have:=HX.out;unfold maxLen;show S.tx.length+1<=_;omega) (by have:=HX.out;show (S.tx.length+1) * 24<=_;omega) ?_;intro v6 w6 Xv hg6 hp6;obtain⟨⟨e0,f0⟩,hT7,hC7,hF7⟩:=H5.out.toTsp.aeZ (b0:=b) (jS RY.out Pd.size) Xv rfl hu (HEB.out▸hg6) (HEB.out▸hp6);rw[HEB.out] at e0;have T7:=ak hT7;have C7:Hid (iW (fun b=>b=p\/vb.ownBlock=some b) w4 _):=ak ((iW.of_below Pd _).trans hC7 fun _ _ h=>h);have F7:Hid (∀b,v6.ownBlock=some b->vb.ownBlock=some b\/w4.heap.size<=b):=ak fun b hb=>(hF7 b hb).imp id fun h=>jS Pd.size h;obtain⟨a6,q6,rfl,_⟩:=Xv.slice;clear Xv hg6 hp6 hT7 hC7 hF7 hu b5 Pd;go_wp2;refine EF ?_;go_upto_region 12 with(fail);refine aJ (fun w7=>Tsp B w7 p mb mt CG (.slice a6 (S.tx.length+1) q6) (fun j=>if j=S.tx.length then .slice au b.length cu else tv j) (S.l++ [(9,(S.tx.length:Int),0)]) (S.l++ [(9,(S.tx.length:Int),0)]) (S.tx++ [b]) S.tx (IY (S.add (9,(S.tx.length:Int),0))) (fun k=>xR (S.l++ [(9,(S.tx.length:Int),0)]) k)/\iW (fun b=>b=p\/vb.ownBlock=some b) w4 w7) ⟨T7.out,C7.out⟩ ?_;rintro w7 ⟨hT7,hC7⟩;have T7:=ak hT7;have C7:=ak hC7;have CF7:Hid (iW F w1 w7):=ak (CF4.out.trans (hC7.mono (G:=F) fun c _ hc=>(FK.out c).2 (by
    rcases hc with h | h
    ·exact .inl h
    ·exact .inr (.inr (.inr (.inr (.inl h)))))) fun _ _ h=>h)
   clear hT7 hC7 e0 f0;have HV7:=ak (HV.out.agL CF7.out HVF.out);have alz:=HIN.out;obtain⟨w8,hrun,hT8,hC8⟩:=(T7.out.below ((bT w7.heap.size w7).drew)).ajq (xv':=IY (S.text b)) H.out.okx ZN.out HIN.out (by have:=HX.out;omega) (XM H.out.nd H.out.txn HIN.out HN9.out) (by have:=HL.out;omega) (fun y hy=>XL H.out.txn HIN.out hy);have NV:Hid ((Instr.mapUpdate 161 (.map (some mt)) (.string (strOf b.length (bf b))) (.int .i64 (S.l.length:Int))).run Tryz.prog w7.drew=.ok () w8):=ak hrun;have FIN:=ak (H.out.ofText ZN.out HIN.out HN9.out (by have:=HX.out;omega) hT8 fun k _=>by rw[sQ,if_neg (fun h=>by have:=h.1;simp at this)]);have CF8:Hid (iW F w1 w8):=ak ((CF7.out.trans (iW.of_below ((bT w7.heap.size w7).drew) (fun _=>False)) fun _ _ h=>h.elim).trans (hC8.mono (G:=F) fun c _ hc=>(FK.out c).2 (.inr (.inr (.inl hc)))) fun _ _ h=>h);have OK8:=ak (Cy.out.text b);have F8:Hid (∀c,TF p mb mt CG (.slice a6 (S.tx.length+1) q6) (S.text b).tx.length (fun j=>if j=S.tx.length then .slice au b.length cu else tv j) c->F c\/w1.heap.size<=c):=ak fun c hc=>by
    have s4:=CF4.out.size;rcases hc with h | h | h | h | h | ⟨j,hj,h⟩
    ·exact .inl ((FK.out c).2 (.inl h))
    ·exact .inl ((FK.out c).2 (.inr (.inl h)))
    ·exact .inl ((FK.out c).2 (.inr (.inr (.inl h))))
    ·exact(F4.out c h).imp (fun h=>(FK.out c).2 (.inr (.inr (.inr (.inl h))))) fun h=>jS B3.out.size h
    ·exact(F7.out c h).imp (fun h=>(FK.out c).2 (.inr (.inr (.inr (.inr (.inl h)))))) fun h=>jS s4 h
    ·dsimp only at h
     by_cases e:j=S.tx.length
     ·rw[if_pos e] at h;exact .inr (jS s4 (UB.out c h))
     ·rw[if_neg e] at h;have hj:j<(S.text b).tx.length:=hj;rw[show S.text b=⟨S.l++ [(9,(S.tx.length:Int),0)],S.tx++ [b]⟩ from if_neg HIN.out] at hj;have hj:j<(S.tx++ [b]).length:=hj;rw[List.length_append,List.length_singleton] at hj;exact .inl ((FK.out c).2 (.inr (.inr (.inr (.inr (.inr ⟨j,by omega,h⟩))))))
   clear hrun hT8 hC8 alz;rw[<-Si.out] at FIN OK8 F8
   apply ji (n:=63) [.e,.e,.e,.e,.e,.c,.e,.c] 1 aS aS aS rfl
   ·intro w9 hB9;have c2:=(T7.out.below hB9).c2;simp only[fK,Cl.II,cond_true,cond_false]
    repeat still_step
    exact wpStill_nil rfl
   ·intro w9;simp only[fK,Cl.Xu,cond_true,cond_false]
    repeat still_step
    exact wpStill_nil rfl
   ·simp only[fK,Cl.qg,cond_true,cond_false];refine qw ((bT _ _).drew) (fun K hK=>?_);rw[if_pos (kF rfl)];unfold Oper.wp;rw[sK (v:=.slice av b.length cv) rfl rfl (HV7.out.below ((bT w7.heap.size w7).drew)) lK Tryz.underlying5 Tryz.underlying9 ZN.out.1.at];refine hK _ _ ((bT _ _).drew) (qp ?_);clear hK K;have hrun:=NV.out;go_wp2;refine EF ?_;clear hrun;go_wp2;go_ret2;rw[E1.out];exact⟨rfl,_,⟨mb,mt,_,_,_,FIN.out,OK8.out,fun b=>Iff.rfl⟩,CF8.out,F8.out⟩
end
end Go.Proofs.YtpcjekgfnfjbpaaGreat
