/-
  Part 16 of SuiteHides. Conditions: named in each theorem.
-/
import Derived.Test.YtpcjekgfnfjbpaaGreatPkSuiteHides15
import Derived.Test.YtpcjekgfnfjbpaaGreatPkSuiteHides14
set_option linter.unusedVariables false
set_option linter.unusedSimpArgs false
set_option maxRecDepth 100000
set_option maxHeartbeats 1600000
namespace Go.Proofs.YtpcjekgfnfjbpaaGreat
open Go.RowKit Go.aQ Go.ChangeShapes Go.Maps
attribute [local go_sem ↓] Go.wp_at_zero Go.wp_at_succ
section
variable {B : Nat} {w w' : World} {p mb mt : Nat} {vl vb : Value} {tv : Nat -> Value} {S : TS}
theorem OE {F:Nat->Prop} (h:BQ B w p F S) (hB:B<=w.heap.size) (s:Int) (hl:S.l.length<=1000):
  Calls Tryz.prog 79 #[.pointer (some ⟨p,0,none⟩),.int .i64 s] w fun e w'=> e=.returned (.tuple #[.int .i64 (xI S s).1,.int .i64 (xI S s).2])/\∃F',BQ B w' p F' (S.draw s)/\jH F w w'/\∀b,F' b->F b\/w.heap.size<=b:=by
 obtain ⟨mb,mt,vl,vb,tv,h1,h2,h3⟩:=h;have H:=ak h1;have sV:=ak h2;have Zh:=ak h3;have DF:=ak hB;have HL:=ak hl;obtain ⟨PA,hPA⟩:∃x,x=xI S s:=⟨_,rfl⟩
 obtain ⟨SP,hSP⟩:∃x,x=S.draw s:=⟨_,rfl⟩
 rw [<-hPA,←hSP];have HPA:=ak hPA;have Ze:=ak hSP;clear h1 h2 h3 hB hl hPA hSP
 go_enter Tryz.func79,Tryz.ntmps79
 go_wp2_with fail;refine (yu H.out).mono ?_;rintro e w1' ⟨rfl,rfl⟩;go_wp2_with fail;refine (Cc s _).mono ?_;rintro e w1 ⟨rfl,rfl⟩
 cases hm:isSort s with
 | false=>
  have E1:Hid (PA=(0,2)):=ak (by rw [HPA.out];unfold xI;rw [if_neg (by rw [hm];decide)]);have E2:Hid (SP=S):=ak (by rw [Ze.out];unfold TS.draw;rw [if_neg (fun h=> by rw [hm] at h;cases h.1)]);clear hm;go_wp2;go_ret2;rw [E1.out,E2.out];exact ⟨rfl,F,⟨mb,mt,vl,vb,tv,H.out,sV.out,Zh.out⟩,.refl _ _,fun b hb=> .inl hb⟩
 | true=>
  have hs:=hm;simp only [isSort,FT,decide_eq_true_eq] at hs;obtain ⟨k,rfl⟩:=Dv (show 0<=s by omega);have hk5:k<5:=by omega
  have hk9:(k:Int)<5:=by omega
  have z0:=H.out.nx k hk5;have aso:=ak (XJ S.l k);have Dz:=ak (Li S.l k);by_cases hx:xC S.l k<=nE
  ·have E1:Hid (PA=((S.l.length:Int),0)):=ak (by rw [HPA.out];unfold xI;rw [if_pos hm,if_pos hx]);have E2:Hid (SP=S.add (1,(k:Int),xC S.l k)):=ak (by rw [Ze.out];unfold TS.draw;rw [if_pos ⟨hm,hx⟩]);have adg:=ak (XK hx);have OK2:Hid ((S.add (1,(k:Int),xC S.l k)).Ok):=ak (sV.out.add adg.out (.inl ⟨rfl,hs,Dz.out⟩));have HS:=ak hs;have hgt:¬ (4611686018427387904:Int)<xC S.l k:=by unfold nE at hx;omega
   obtain ⟨X,hX⟩:∃X,X=xC S.l k:=⟨_,rfl⟩
   have HXT:Hid (0<=X/\X<=4611686018427387904):=ak (by rw [hX];exact ⟨Dz.out,by unfold nE at hx;exact hx⟩);rw [<-hX] at z0 E2 adg OK2 hgt;clear hm hs hx hX;go_wp2_with fail;refine (Gj H.out DF.out (1,(k:Int),X) ⟨⟨by simp,by simp⟩,⟨by simp only;omega,by simp only;omega⟩,⟨by simp only;have:=HXT.out;omega,by simp only;have:=HXT.out;omega⟩⟩ adg.out (fun _=> HS.out) HL.out).mono ?_;rintro e w4 ⟨rfl,JZ,h4,hc4,hf4⟩;have S4:Hid (BQ B w4 p (TF p mb mt JZ vb S.tx.length tv) (S.add (1,(k:Int),X))):=ak ⟨mb,mt,JZ,vb,tv,h4,OK2.out,fun b=> Iff.rfl⟩;have C4:Hid (jH F w1 w4):=ak (hc4.mono (G:=F) fun b _ hb=> (Zh.out b).2 (by
    rcases hb with h | h | h
    ·exact .inl h
    ·exact .inr (.inl h)
    ·exact .inr (.inr (.inr (.inl h)))))
   have F4:Hid (∀b,TF p mb mt JZ vb S.tx.length tv b->F b\/w1.heap.size<=b):=ak fun b hb=> (TF.add (N:=w1.heap.size) hf4 b hb).imp (Zh.out b).2 id;clear h4 hc4 hf4;go_wp2;go_ret2;rw [E1.out,E2.out];exact ⟨rfl,_,S4.out,C4.out,F4.out⟩
  ·have E1:Hid (PA=(0,3)):=ak (by rw [HPA.out];unfold xI;rw [if_pos hm,if_neg hx]);have E2:Hid (SP=S):=ak (by rw [Ze.out];unfold TS.draw;rw [if_neg (fun h=> hx h.2)]);have hgt:(4611686018427387904:Int)<xC S.l k:=by unfold nE at hx;omega
   clear hm hs hx;go_wp2;go_ret2;rw [E1.out,E2.out];exact ⟨rfl,F,⟨mb,mt,vl,vb,tv,H.out,sV.out,Zh.out⟩,.refl _ _,fun b hb=> .inl hb⟩
end
section
variable {B : Nat} {w w' : World} {p : Nat} {F : Nat -> Prop} {S : TS}
def xZ (S:TS) (n:Int):Tm × Bool:=if 0<=n then (match S.l[n.toNat]? with | some t=> (t,true) | none=> ((0,0,0),false)) else ((0,0,0),false)
theorem IX {n:Nat} {t:Tm} (h:S.l[n]? =some t):xZ S n=(t,true):=by
 unfold xZ;rw [if_pos (by omega),FU,h]
theorem Yx {n:Int} (h:gP S.l n 0=false):xZ S n=((0,0,0),false):=by
 unfold xZ
 split
 ·rename_i h0
  split
  ·rename_i t ht
   obtain ⟨a,rfl⟩:=Dv h0;rw [FU] at ht;rw [uX.2 ⟨a,rfl,t,ht,.inl rfl⟩] at h;cases h
  ·rfl
 ·rfl
theorem Gi (h:BQ B w p F S) (n:Int):Calls Tryz.prog 61 #[.pointer (some ⟨p,0,none⟩),.int .i64 n] w fun e w'=> e=.returned (.tuple #[KD (xZ S n).1,.bool (xZ S n).2])/\Below w.heap.size w w':=by
 obtain ⟨mb,mt,vl,vb,tv,h1,h2,h3⟩:=h;have H:=ak h1;obtain ⟨G,hG⟩:∃x,x=xZ S n:=⟨_,rfl⟩
 rw [<-hG];have HG:=ak hG;clear h1 h2 h3 hG
 go_enter Tryz.func61,Tryz.ntmps61
 go_upto_region 1 with (fail);refine aC (fun w1=> aD .i64 w1 w.heap.size 3 (fun _=> 0)/\Below w.heap.size w w1) ⟨bg rfl rfl,(bA _ _).alloc (aP _) _⟩ ?_;rintro w1 ⟨hA1,bb1⟩;have HA1:=ak hA1;have B1:=ak bb1;have H1:=ak (H.out.below bb1);clear hA1 bb1;go_wp2_with fail;refine (yu H1.out).mono ?_;rintro e w1' ⟨rfl,rfl⟩;go_wp2_with fail;refine (iG H1.out n 0).mono ?_;rintro e w2 ⟨rfl,rfl⟩
 cases hm:gP S.l n 0 with
 | false=>
  have E1:Hid (G=((0,0,0),false)):=ak (HG.out.trans (Yx hm));obtain ⟨t1,ht1⟩:=HA1.out;have HT1:=ak ht1;clear hm ht1;go_wp2_with (refine yX rfl 96 _ _ rfl w.heap.size 3 (fun i=> .int .i64 (tf (0,0,0) i)) _ t1 HT1.out rfl Tryz.sizeTm rfl rfl (fun i _=> rfl) ?_);have HA2:Hid (aD .i64 (w2.setRow w.heap.size (nG 3 fun i=> .int .i64 (tf (0,0,0) i))) w.heap.size 3 (tf (0,0,0))):=ak (HA1.out.setRow 3 (tf (0,0,0)));have B2:Hid (Below w.heap.size w (w2.setRow w.heap.size (nG 3 fun i=> .int .i64 (tf (0,0,0) i)))):=ak (ay B1.out (aP _) _);rw [E1.out];refine bodyPost_ret (pF rfl _ _ .i64 w.heap.size 3 _ rfl HA2.out Tryz.underlying96 rfl Tryz.sizeTm) rfl ?_;exact ⟨rfl,B2.out⟩
 | true=>
  obtain ⟨a,rfl,ha,_⟩:=lZ hm;obtain ⟨t,ht⟩:∃t,S.l[a]? =some t:=⟨_,vL ha⟩
  have E1:Hid (G=(t,true)):=ak (HG.out.trans (IX ht));obtain ⟨t1,ht1⟩:=HA1.out;have HT1:=ak ht1;have c0:=H1.out.c0;obtain ⟨g,cap,ev,_,_,_,hc⟩:=H1.out.ls.form (by omega);have HC:Hid (∀i,i<3->w2.cell? ⟨g,a * 3+i,none⟩=some (.int .i64 (tf t i))):=ak fun i hi=> (hc a ha i hi).trans (congrArg some (KC ht));rw [ev] at c0;have h9:(a:Int)<(S.l.length:Int):=by omega
  clear hm ht1 ha ht hc ev
  go_wp2_with (first
   | (refine zU (y:=fun i=> .int .i64 (tf t i)) rfl rfl rfl Tryz.underlying96 rfl Tryz.sizeTm HC.out ?_)
   | (refine yX rfl 96 _ _ rfl w.heap.size 3 (fun i=> .int .i64 (tf t i)) _ t1 HT1.out rfl Tryz.sizeTm rfl rfl (fun i _=> rfl) ?_))
  have HA2:Hid (aD .i64 (w2.setRow w.heap.size (nG 3 fun i=> .int .i64 (tf t i))) w.heap.size 3 (tf t)):=ak (HA1.out.setRow 3 (tf t));have B2:Hid (Below w.heap.size w (w2.setRow w.heap.size (nG 3 fun i=> .int .i64 (tf t i)))):=ak (ay B1.out (aP _) _);rw [E1.out];refine bodyPost_ret (pF rfl _ _ .i64 w.heap.size 3 _ rfl HA2.out Tryz.underlying96 rfl Tryz.sizeTm) rfl ?_;exact ⟨rfl,B2.out⟩
end
end Go.Proofs.YtpcjekgfnfjbpaaGreat
