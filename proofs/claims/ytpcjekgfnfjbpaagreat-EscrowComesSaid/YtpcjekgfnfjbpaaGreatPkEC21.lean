/- Part 21 of EscrowComes; conditions: in each theorem. -/
import Derived.Test.YtpcjekgfnfjbpaaGreatPkEC19
import Derived.Test.YtpcjekgfnfjbpaaGreatPkEC20
set_option linter.unusedVariables false
set_option linter.unusedSimpArgs false
set_option maxRecDepth 100000
set_option maxHeartbeats 1600000
namespace Go.bI
open Go.RowKit
theorem Rd.alI {F:Nat->Prop} {w w':World} {k:IntKind} {v:Value} {n:Nat} {f:Nat->Int} (h:Rd k w v n f) (hg:fV F w w') (gW:0<n->∀b,v.ownBlock=some b->¬ F b):Rd k w' v n f:=by
 obtain⟨a,c,rfl,h1,h2,h3,h4⟩:=h;refine⟨a,c,rfl,h1,h2,h3,fun hn=>?_⟩;obtain⟨b,o,rfl,hlt,hc⟩:=h4 hn;have:=hg.size;exact⟨b,o,rfl,by omega,fun i hi=>(hg.cell (p:=⟨b,o+i,none⟩) hlt (gW hn b rfl)).trans (hc i hi)⟩
end Go.bI
namespace Go.Proofs.YtpcjekgfnfjbpaaGreat
open Go.RowKit Go.bI Go.ChangeShapes Go.Maps
attribute [local go_sem ↓] Go.wp_at_zero Go.wp_at_succ
section
variable {B : Nat} {w w' : World} {p mb mt : Nat} {vl vb : Value} {tv : Nat -> Value} {S : TS}
theorem Sy {F:Nat->Prop} (h:zH B w p F S) (hB:B<=w.heap.size) (s:Int) (hl:S.l.length<=1000):
  Calls Tryz.prog 79 #[.pointer (some ⟨p,0,none⟩),.int .i64 s] w fun e w'=>e=.returned (.tuple #[.int .i64 (Ae S s).1,.int .i64 (Ae S s).2])/\∃F',zH B w' p F' (S.draw s)/\fV F w w'/\∀b,F' b->F b\/w.heap.size<=b:=by
 obtain⟨mb,mt,vl,vb,tv,h1,h2,h3⟩:=h;have H:=ay h1;have yM:=ay h2;have Qt:=ay h3;have yJ:=ay hB;have HL:=ay hl;obtain⟨PA,Pm⟩:∃x,x=Ae S s:=⟨_,rfl⟩
 obtain⟨SP,hSP⟩:∃x,x=S.draw s:=⟨_,rfl⟩
 rw[<-Pm,←hSP];have Nh:=ay Pm;have HSP:=ay hSP;clear h1 h2 h3 hB hl Pm hSP
 go_enter Tryz.func79,Tryz.ntmps79
 go_wp2_with fail;refine(Ba H.out).mono ?_;rintro e w1' ⟨rfl,rfl⟩;go_wp2_with fail;refine(Fj s _).mono ?_;rintro e w1 ⟨rfl,rfl⟩
 cases hm:isSort s with
 | false=>
  have E1:Hid (PA=(0,2)):=ay (by rw[Nh.out];unfold Ae;rw[if_neg (by rw[hm];decide)]);have E2:Hid (SP=S):=ay (by rw[HSP.out];unfold TS.draw;rw[if_neg (fun h=>by rw[hm] at h;cases h.1)]);clear hm;go_wp2;go_ret2;rw[E1.out,E2.out];exact⟨rfl,F,⟨mb,mt,vl,vb,tv,H.out,yM.out,Qt.out⟩,.refl _ _,fun b hb=>.inl hb⟩
 | true=>
  have hs:=hm;simp only[isSort,Jg,decide_eq_true_eq] at hs;obtain⟨k,rfl⟩:=Gl (show 0<=s by omega);have hk5:k<5:=by omega
  have hk9:(k:Int)<5:=by omega
  have z0:=H.out.nx k hk5;have ayq:=ay (acj S.l k);have Qs:=ay (CB S.l k);by_cases hx:zY S.l k<=pz
  ·have E1:Hid (PA=((S.l.length:Int),0)):=ay (by rw[Nh.out];unfold Ae;rw[if_pos hm,if_pos hx]);have E2:Hid (SP=S.add (1,(k:Int),zY S.l k)):=ay (by rw[HSP.out];unfold TS.draw;rw[if_pos ⟨hm,hx⟩]);have air:=ay (Rf hx);have OK2:Hid ((S.add (1,(k:Int),zY S.l k)).Ok):=ay (yM.out.add air.out (.inl ⟨rfl,hs,Qs.out⟩));have HS:=ay hs;have hgt:¬ (4611686018427387904:Int)<zY S.l k:=by unfold pz at hx;omega
   obtain⟨X,hX⟩:∃X,X=zY S.l k:=⟨_,rfl⟩
   have HXT:Hid (0<=X/\X<=4611686018427387904):=ay (by rw[hX];exact⟨Qs.out,by unfold pz at hx;exact hx⟩);rw[<-hX] at z0 E2 air OK2 hgt;clear hm hs hx hX;go_wp2_with fail;refine(JW H.out yJ.out (1,(k:Int),X) ⟨⟨by simp,by simp⟩,⟨by simp only;omega,by simp only;omega⟩,⟨by simp only;have:=HXT.out;omega,by simp only;have:=HXT.out;omega⟩⟩ air.out (fun _=>HS.out) HL.out).mono ?_;rintro e w4 ⟨rfl,Nj,h4,hc4,hf4⟩;have S4:Hid (zH B w4 p (TF p mb mt Nj vb S.tx.length tv) (S.add (1,(k:Int),X))):=ay ⟨mb,mt,Nj,vb,tv,h4,OK2.out,fun b=>Iff.rfl⟩;have C4:Hid (fV F w1 w4):=ay (hc4.mono (G:=F) fun b _ hb=>(Qt.out b).2 (by
    rcases hb with h | h | h
    ·exact .inl h
    ·exact .inr (.inl h)
    ·exact .inr (.inr (.inr (.inl h)))))
   have F4:Hid (∀b,TF p mb mt Nj vb S.tx.length tv b->F b\/w1.heap.size<=b):=ay fun b hb=>(TF.add (N:=w1.heap.size) hf4 b hb).imp (Qt.out b).2 id;clear h4 hc4 hf4;go_wp2;go_ret2;rw[E1.out,E2.out];exact⟨rfl,_,S4.out,C4.out,F4.out⟩
  ·have E1:Hid (PA=(0,3)):=ay (by rw[Nh.out];unfold Ae;rw[if_pos hm,if_neg hx]);have E2:Hid (SP=S):=ay (by rw[HSP.out];unfold TS.draw;rw[if_neg (fun h=>hx h.2)]);have hgt:(4611686018427387904:Int)<zY S.l k:=by unfold pz at hx;omega
   clear hm hs hx;go_wp2;go_ret2;rw[E1.out,E2.out];exact⟨rfl,F,⟨mb,mt,vl,vb,tv,H.out,yM.out,Qt.out⟩,.refl _ _,fun b hb=>.inl hb⟩
end
section
variable {B : Nat} {w w' : World} {p : Nat} {F : Nat -> Prop} {S : TS}
def Az (S:TS) (n:Int):Tm × Bool:=if 0<=n then (match S.l[n.toNat]? with | some t=>(t,true) | none=>((0,0,0),false)) else ((0,0,0),false)
theorem CX {n:Nat} {t:Tm} (h:S.l[n]? =some t):Az S n=(t,true):=by
 unfold Az;rw[if_pos aH,MZ,h]
theorem acY {n:Int} (h:jg S.l n 0=false):Az S n=((0,0,0),false):=by
 unfold Az
 split
 ·rename_i h0
  split
  ·rename_i t ht
   obtain⟨a,rfl⟩:=Gl h0;rw[MZ] at ht;rw[xX.2 ⟨a,rfl,t,ht,.inl rfl⟩] at h;cases h
  ·rfl
 ·rfl
theorem JV (h:zH B w p F S) (n:Int):Calls Tryz.prog 61 #[.pointer (some ⟨p,0,none⟩),.int .i64 n] w fun e w'=>e=.returned (.tuple #[NJ (Az S n).1,.bool (Az S n).2])/\Below w.heap.size w w':=by
 obtain⟨mb,mt,vl,vb,tv,h1,h2,h3⟩:=h;have H:=ay h1;obtain⟨G,hG⟩:∃x,x=Az S n:=⟨_,rfl⟩
 rw[<-hG];have HG:=ay hG;clear h1 h2 h3 hG
 go_enter Tryz.func61,Tryz.ntmps61
 go_upto_region 1 with(fail);refine aJ (fun w1=>aK .i64 w1 w.heap.size 3 (fun _=>0)/\Below w.heap.size w w1) ⟨cB rfl rfl,(bT _ _).alloc (bH _) _⟩ ?_;rintro w1 ⟨vO,bb1⟩;have HA1:=ay vO;have B1:=ay bb1;have H1:=ay (H.out.below bb1);clear vO bb1;go_wp2_with fail;refine(Ba H1.out).mono ?_;rintro e w1' ⟨rfl,rfl⟩;go_wp2_with fail;refine(jy H1.out n 0).mono ?_;rintro e w2 ⟨rfl,rfl⟩
 cases hm:jg S.l n 0 with
 | false=>
  have E1:Hid (G=((0,0,0),false)):=ay (HG.out.trans (acY hm));obtain⟨t1,ht1⟩:=HA1.out;have HT1:=ay ht1;clear hm ht1;go_wp2_with (refine gU rfl 96 _ _ rfl w.heap.size 3 (fun i=>.int .i64 (tf (0,0,0) i)) _ t1 HT1.out rfl Tryz.sizeTm rfl rfl (fun i _=>rfl) ?_);have HA2:Hid (aK .i64 (w2.setRow w.heap.size (gV 3 fun i=>.int .i64 (tf (0,0,0) i))) w.heap.size 3 (tf (0,0,0))):=ay (HA1.out.setRow 3 (tf (0,0,0)));have B2:Hid (Below w.heap.size w (w2.setRow w.heap.size (gV 3 fun i=>.int .i64 (tf (0,0,0) i)))):=ay (aB B1.out (bH _) _);rw[E1.out];refine bodyPost_ret (iW rfl _ _ .i64 w.heap.size 3 _ rfl HA2.out Tryz.underlying96 rfl Tryz.sizeTm) rfl ?_;exact⟨rfl,B2.out⟩
 | true=>
  obtain⟨a,rfl,ha,_⟩:=nX hm;obtain⟨t,ht⟩:∃t,S.l[a]? =some t:=⟨_,kP ha⟩
  have E1:Hid (G=(t,true)):=ay (HG.out.trans (CX ht));obtain⟨t1,ht1⟩:=HA1.out;have HT1:=ay ht1;have c0:=H1.out.c0;obtain⟨g,cap,ev,_,_,_,hc⟩:=H1.out.ls.form aH;have HC:Hid (∀i,i<3->w2.cell? ⟨g,a * 3+i,none⟩=some (.int .i64 (tf t i))):=ay fun i hi=>(hc a ha i hi).trans (congrArg some (NI ht));rw[ev] at c0;have h9:(a:Int)<(S.l.length:Int):=by omega
  clear hm ht1 ha ht hc ev
  go_wp2_with (first
   | (refine jl (y:=fun i=>.int .i64 (tf t i)) rfl rfl rfl Tryz.underlying96 rfl Tryz.sizeTm HC.out ?_)
   | (refine gU rfl 96 _ _ rfl w.heap.size 3 (fun i=>.int .i64 (tf t i)) _ t1 HT1.out rfl Tryz.sizeTm rfl rfl (fun i _=>rfl) ?_))
  have HA2:Hid (aK .i64 (w2.setRow w.heap.size (gV 3 fun i=>.int .i64 (tf t i))) w.heap.size 3 (tf t)):=ay (HA1.out.setRow 3 (tf t));have B2:Hid (Below w.heap.size w (w2.setRow w.heap.size (gV 3 fun i=>.int .i64 (tf t i)))):=ay (aB B1.out (bH _) _);rw[E1.out];refine bodyPost_ret (iW rfl _ _ .i64 w.heap.size 3 _ rfl HA2.out Tryz.underlying96 rfl Tryz.sizeTm) rfl ?_;exact⟨rfl,B2.out⟩
end
section
variable {B : Nat} {w w' : World} {p mb mt : Nat} {vl vb : Value} {tv : Nat -> Value} {S : TS}
end
end Go.Proofs.YtpcjekgfnfjbpaaGreat
