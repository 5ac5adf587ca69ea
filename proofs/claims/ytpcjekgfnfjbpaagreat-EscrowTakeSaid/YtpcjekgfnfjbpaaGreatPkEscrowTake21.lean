/-
  Part 21 of EscrowTake. Conditions: named in each theorem.
-/
import Derived.Test.YtpcjekgfnfjbpaaGreatPkEscrowTake19
import Derived.Test.YtpcjekgfnfjbpaaGreatPkEscrowTake20
set_option linter.unusedVariables false
set_option linter.unusedSimpArgs false
set_option maxRecDepth 100000
set_option maxHeartbeats 1600000
namespace Go.aZ
open Go.RowKit
theorem Rd.agt {F:Nat->Prop} {w w':World} {k:IntKind} {v:Value} {n:Nat} {f:Nat->Int} (h:Rd k w v n f) (hg:gY F w w') (hne:0<n->∀b,v.ownBlock=some b->¬ F b):Rd k w' v n f:=by
 obtain ⟨a,c,rfl,h1,h2,h3,h4⟩:=h;refine ⟨a,c,rfl,h1,h2,h3,fun hn=> ?_⟩;obtain ⟨b,o,rfl,hlt,hc⟩:=h4 hn;have:=hg.size;exact ⟨b,o,rfl,by omega,fun i hi=> (hg.cell (p:=⟨b,o+i,none⟩) hlt (hne hn b rfl)).trans (hc i hi)⟩
end Go.aZ
namespace Go.Proofs.YtpcjekgfnfjbpaaGreat
open Go.RowKit Go.aZ Go.ChangeShapes Go.Maps
attribute [local go_sem ↓] Go.wp_at_zero Go.wp_at_succ
section
variable {B : Nat} {w w' : World} {p mb mt : Nat} {vl vb : Value} {tv : Nat -> Value} {S : TS}
theorem NZ {F:Nat->Prop} (h:wG B w p F S) (hB:B<=w.heap.size) (s:Int) (hl:S.l.length<=1000):
  Calls Tryz.prog 79 #[.pointer (some ⟨p,0,none⟩),.int .i64 s] w fun e w'=> e=.returned (.tuple #[.int .i64 (xA S s).1,.int .i64 (xA S s).2])/\∃F',wG B w' p F' (S.draw s)/\gY F w w'/\∀b,F' b->F b\/w.heap.size<=b:=by
 obtain ⟨mb,mt,vl,vb,tv,h1,h2,h3⟩:=h;have H:=ak h1;have Fj:=ak h2;have YZ:=ak h3;have Di:=ak hB;have HL:=ak hl;obtain ⟨PA,Lp⟩:∃x,x=xA S s:=⟨_,rfl⟩
 obtain ⟨SP,hSP⟩:∃x,x=S.draw s:=⟨_,rfl⟩
 rw [<-Lp,←hSP];have AB:=ak Lp;have YS:=ak hSP;clear h1 h2 h3 hB hl Lp hSP
 go_enter Tryz.func79,Tryz.ntmps79
 go_wp2_with fail;refine (yj H.out).mono ?_;rintro e w1' ⟨rfl,rfl⟩;go_wp2_with fail;refine (BU s _).mono ?_;rintro e w1 ⟨rfl,rfl⟩
 cases hm:isSort s with
 | false=>
  have E1:Hid (PA=(0,2)):=ak (by rw [AB.out];unfold xA;rw [if_neg (by rw [hm];decide)]);have E2:Hid (SP=S):=ak (by rw [YS.out];unfold TS.draw;rw [if_neg (fun h=> by rw [hm] at h;cases h.1)]);clear hm;go_wp2;go_ret2;rw [E1.out,E2.out];exact ⟨rfl,F,⟨mb,mt,vl,vb,tv,H.out,Fj.out,YZ.out⟩,.refl _ _,fun b hb=> .inl hb⟩
 | true=>
  have hs:=hm;simp only [isSort,EY,decide_eq_true_eq] at hs;obtain ⟨k,rfl⟩:=Db (show 0<=s by omega);have hk5:k<5:=by omega
  have hk9:(k:Int)<5:=by omega
  have z0:=H.out.nx k hk5;have aqW:=ak (XF S.l k);have Mi:=ak (zD S.l k);by_cases hx:wY S.l k<=mU
  ·have E1:Hid (PA=((S.l.length:Int),0)):=ak (by rw [AB.out];unfold xA;rw [if_pos hm,if_pos hx]);have E2:Hid (SP=S.add (1,(k:Int),wY S.l k)):=ak (by rw [YS.out];unfold TS.draw;rw [if_pos ⟨hm,hx⟩]);have adw:=ak (MX hx);have OK2:Hid ((S.add (1,(k:Int),wY S.l k)).Ok):=ak (Fj.out.add adw.out (.inl ⟨rfl,hs,Mi.out⟩));have HS:=ak hs;have hgt:¬ (4611686018427387904:Int)<wY S.l k:=by unfold mU at hx;omega
   obtain ⟨X,hX⟩:∃X,X=wY S.l k:=⟨_,rfl⟩
   have HXT:Hid (0<=X/\X<=4611686018427387904):=ak (by rw [hX];exact ⟨Mi.out,by unfold mU at hx;exact hx⟩);rw [<-hX] at z0 E2 adw OK2 hgt;clear hm hs hx hX;go_wp2_with fail;refine (FU H.out Di.out (1,(k:Int),X) ⟨⟨by simp,by simp⟩,⟨by simp only;omega,by simp only;omega⟩,⟨by simp only;have:=HXT.out;omega,by simp only;have:=HXT.out;omega⟩⟩ adw.out (fun _=> HS.out) HL.out).mono ?_;rintro e w4 ⟨rfl,JD,h4,hc4,hf4⟩;have S4:Hid (wG B w4 p (TF p mb mt JD vb S.tx.length tv) (S.add (1,(k:Int),X))):=ak ⟨mb,mt,JD,vb,tv,h4,OK2.out,fun b=> Iff.rfl⟩;have C4:Hid (gY F w1 w4):=ak (hc4.mono (G:=F) fun b _ hb=> (YZ.out b).2 (by
    rcases hb with h | h | h
    ·exact .inl h
    ·exact .inr (.inl h)
    ·exact .inr (.inr (.inr (.inl h)))))
   have F4:Hid (∀b,TF p mb mt JD vb S.tx.length tv b->F b\/w1.heap.size<=b):=ak fun b hb=> (TF.add (N:=w1.heap.size) hf4 b hb).imp (YZ.out b).2 id;clear h4 hc4 hf4;go_wp2;go_ret2;rw [E1.out,E2.out];exact ⟨rfl,_,S4.out,C4.out,F4.out⟩
  ·have E1:Hid (PA=(0,3)):=ak (by rw [AB.out];unfold xA;rw [if_pos hm,if_neg hx]);have E2:Hid (SP=S):=ak (by rw [YS.out];unfold TS.draw;rw [if_neg (fun h=> hx h.2)]);have hgt:(4611686018427387904:Int)<wY S.l k:=by unfold mU at hx;omega
   clear hm hs hx;go_wp2;go_ret2;rw [E1.out,E2.out];exact ⟨rfl,F,⟨mb,mt,vl,vb,tv,H.out,Fj.out,YZ.out⟩,.refl _ _,fun b hb=> .inl hb⟩
end
section
variable {B : Nat} {w w' : World} {p : Nat} {F : Nat -> Prop} {S : TS}
def xW (S:TS) (n:Int):Tm × Bool:=if 0<=n then (match S.l[n.toNat]? with | some t=> (t,true) | none=> ((0,0,0),false)) else ((0,0,0),false)
theorem zO {n:Nat} {t:Tm} (h:S.l[n]? =some t):xW S n=(t,true):=by
 unfold xW;rw [if_pos (by omega),Jt,h]
theorem Yl {n:Int} (h:gU S.l n 0=false):xW S n=((0,0,0),false):=by
 unfold xW
 split
 ·rename_i h0
  split
  ·rename_i t ht
   obtain ⟨a,rfl⟩:=Db h0;rw [Jt] at ht;rw [uP.2 ⟨a,rfl,t,ht,.inl rfl⟩] at h;cases h
  ·rfl
 ·rfl
theorem FT (h:wG B w p F S) (n:Int):Calls Tryz.prog 61 #[.pointer (some ⟨p,0,none⟩),.int .i64 n] w fun e w'=> e=.returned (.tuple #[JW (xW S n).1,.bool (xW S n).2])/\Below w.heap.size w w':=by
 obtain ⟨mb,mt,vl,vb,tv,h1,h2,h3⟩:=h;have H:=ak h1;obtain ⟨G,hG⟩:∃x,x=xW S n:=⟨_,rfl⟩
 rw [<-hG];have HG:=ak hG;clear h1 h2 h3 hG
 go_enter Tryz.func61,Tryz.ntmps61
 go_upto_region 1 with (fail);refine aD (fun w1=> aF .i64 w1 w.heap.size 3 (fun _=> 0)/\Below w.heap.size w w1) ⟨bM rfl rfl,(bN _ _).alloc (bA _) _⟩ ?_;rintro w1 ⟨hA1,bb1⟩;have HA1:=ak hA1;have B1:=ak bb1;have H1:=ak (H.out.below bb1);clear hA1 bb1;go_wp2_with fail;refine (yj H1.out).mono ?_;rintro e w1' ⟨rfl,rfl⟩;go_wp2_with fail;refine (iy H1.out n 0).mono ?_;rintro e w2 ⟨rfl,rfl⟩
 cases hm:gU S.l n 0 with
 | false=>
  have E1:Hid (G=((0,0,0),false)):=ak (HG.out.trans (Yl hm));obtain ⟨t1,ht1⟩:=HA1.out;have HT1:=ak ht1;clear hm ht1;go_wp2_with (refine kD rfl 96 _ _ rfl w.heap.size 3 (fun i=> .int .i64 (tf (0,0,0) i)) _ t1 HT1.out rfl Tryz.sizeTm rfl rfl (fun i _=> rfl) ?_);have HA2:Hid (aF .i64 (w2.setRow w.heap.size (fC 3 fun i=> .int .i64 (tf (0,0,0) i))) w.heap.size 3 (tf (0,0,0))):=ak (HA1.out.setRow 3 (tf (0,0,0)));have B2:Hid (Below w.heap.size w (w2.setRow w.heap.size (fC 3 fun i=> .int .i64 (tf (0,0,0) i)))):=ak (ay B1.out (bA _) _);rw [E1.out];refine bodyPost_ret (gK rfl _ _ .i64 w.heap.size 3 _ rfl HA2.out Tryz.underlying96 rfl Tryz.sizeTm) rfl ?_;exact ⟨rfl,B2.out⟩
 | true=>
  obtain ⟨a,rfl,ha,_⟩:=lQ hm;obtain ⟨t,ht⟩:∃t,S.l[a]? =some t:=⟨_,oG ha⟩
  have E1:Hid (G=(t,true)):=ak (HG.out.trans (zO ht));obtain ⟨t1,ht1⟩:=HA1.out;have HT1:=ak ht1;have c0:=H1.out.c0;obtain ⟨g,cap,ev,_,_,_,hc⟩:=H1.out.ls.form (by omega);have HC:Hid (∀i,i<3->w2.cell? ⟨g,a * 3+i,none⟩=some (.int .i64 (tf t i))):=ak fun i hi=> (hc a ha i hi).trans (congrArg some (JV ht));rw [ev] at c0;have h9:(a:Int)<(S.l.length:Int):=by omega
  clear hm ht1 ha ht hc ev
  go_wp2_with (first
   | (refine jQ (y:=fun i=> .int .i64 (tf t i)) rfl rfl rfl Tryz.underlying96 rfl Tryz.sizeTm HC.out ?_)
   | (refine kD rfl 96 _ _ rfl w.heap.size 3 (fun i=> .int .i64 (tf t i)) _ t1 HT1.out rfl Tryz.sizeTm rfl rfl (fun i _=> rfl) ?_))
  have HA2:Hid (aF .i64 (w2.setRow w.heap.size (fC 3 fun i=> .int .i64 (tf t i))) w.heap.size 3 (tf t)):=ak (HA1.out.setRow 3 (tf t));have B2:Hid (Below w.heap.size w (w2.setRow w.heap.size (fC 3 fun i=> .int .i64 (tf t i)))):=ak (ay B1.out (bA _) _);rw [E1.out];refine bodyPost_ret (gK rfl _ _ .i64 w.heap.size 3 _ rfl HA2.out Tryz.underlying96 rfl Tryz.sizeTm) rfl ?_;exact ⟨rfl,B2.out⟩
end
section
variable {B : Nat} {w w' : World} {p mb mt : Nat} {vl vb : Value} {tv : Nat -> Value} {S : TS}
end
end Go.Proofs.YtpcjekgfnfjbpaaGreat
