/-
  Part 52 of SuiteHides. Conditions: named in each theorem.
-/
import Derived.Test.YtpcjekgfnfjbpaaGreatPkSuiteHides49
import Derived.Test.YtpcjekgfnfjbpaaGreatPkSuiteHides27
import Derived.Test.YtpcjekgfnfjbpaaGreatPkSuiteHides18
set_option linter.unusedVariables false
set_option linter.unusedSimpArgs false
set_option maxRecDepth 100000
set_option maxHeartbeats 3200000
namespace Go.Proofs.YtpcjekgfnfjbpaaGreat
open Go.RowKit Go.aQ Go.ChangeShapes Go.Maps
attribute [local go_sem ↓] Go.wp_at_zero Go.wp_at_succ
section
variable {B : Nat} {w w' w1 w2 w3 : World} {p q : Nat} {F G G' : Nat -> Prop} {S S' : TS} {kd n : Int} {sd : Nat -> Int} {s : Value} {v u v' : Value} {l l' : List Int}
theorem Gq (h:wU B w p F S) (hb:eF F w v l) (hb':eF F w v' l') (hl:S.l.length<=1000):Calls Tryz.prog 22 #[.pointer (some ⟨p,0,none⟩),v,v'] w fun e w'=> ∃u,e=.returned (.tuple #[u,.int .i64 (oU S l l').2])/\eF F w' u (oU S l l').1/\Below w.heap.size w w':=by
 have HW:=ak h.which;obtain ⟨q,G,hq,hF⟩:=id h;have HQ:=ak hq;have HO:=ak (oC h hb (by omega));have HO':=ak (fun w1 (b1:Below w.heap.size w w1)=> oC (h.below b1) (hb'.below b1) (by omega));have sV:=ak hb.ok;have JU:=ak hb'.ok;have HSO:=ak h.ok;have ZU:Hid (∀b,F b->b<w.heap.size):=ak fun b hb=> h.lt hb;have HL:=ak hl;obtain ⟨R,hR⟩:∃x,x=oU S l l':=⟨_,rfl⟩
 rw [<-hR];have HR:=ak hR;obtain ⟨av,cv,rfl,_⟩:=hb.rd;obtain ⟨Kj,cv',rfl,_⟩:=hb'.rd;clear hR h hb hb' hl hq hF
 go_enter Tryz.func22,Tryz.ntmps22
 go_wp2_with fail;refine HW.out.mono ?_;rintro e w0 ⟨rfl,rfl⟩;go_wp2_with fail;refine HO.out.mono ?_;rintro e w1 ⟨rfl,b1⟩;have B1:=ak b1;clear b1;obtain ⟨A,hA⟩:∃x,x=Cz S l:=⟨_,rfl⟩
 rw [<-hA];have HA:=ak hA;clear hA;go_upto_region 9 with (fail);refine aC (fun w2=> Below w0.heap.size w0 w2) (B1.out.alloc B1.out.size _) ?_;rintro w2 b2;have B2:=ak b2;clear b2;go_wp2_with fail;refine (HO'.out w2 B2.out).mono ?_;rintro e w3 ⟨rfl,b3⟩;have B3:=ak (B2.out.trans (b3.mono B2.out.size));clear b3;obtain ⟨C,hC⟩:∃x,x=Cz S l':=⟨_,rfl⟩
 rw [<-hC];have HC:=ak hC;clear hC;go_upto_region 10 with (fail);refine aC (fun w4=> w4.cell? ⟨w3.heap.size,0,none⟩=some (.int .i64 C.2.1.1)/\w4.cell? ⟨w3.heap.size,1,none⟩=some (.int .i64 C.2.1.2.1)/\w4.cell? ⟨w3.heap.size,2,none⟩=some (.int .i64 C.2.1.2.2)/\Below w0.heap.size w0 w4) ⟨cell_of_row _ _ 0 _ _ (0,0) (heap_alloc_new w3 _),cell_of_row _ _ 1 _ _ (0,0) (heap_alloc_new w3 _),cell_of_row _ _ 2 _ _ (0,0) (heap_alloc_new w3 _),B3.out.alloc B3.out.size _⟩ ?_;rintro w4 ⟨c0,c1,c2,b4⟩;have B4:=ak b4;clear b4
 cases hm:ku S l with
 | none=>
  have HE:Hid (R=([],11)):=ak (by rw [HR.out];unfold oU;rw [hm]);obtain rfl:A=(0,(0,0,0),11):=HA.out.trans (uN hm);clear hm HA c0 c1 c2;go_wp2;go_ret2;rw [HE.out];exact ⟨_,rfl,eF.nil _ _,B4.out⟩
 | some n=>
  have HM:=ak hm;have HN:=ak (pQ sV.out hm);obtain ⟨t,ht⟩:∃t,t=jO S.l n:=⟨_,rfl⟩
  obtain rfl:A=((n:Int),t,0):=HA.out.trans (ht▸uM hm);clear hm HA ht
  cases hm:ku S l' with
  | none=>
   have HE:Hid (R=([],11)):=ak (by rw [HR.out];unfold oU;rw [HM.out,hm]);obtain rfl:C=(0,(0,0,0),11):=HC.out.trans (uN hm);clear hm HC c0 c1 c2;go_wp2;go_ret2;rw [HE.out];exact ⟨_,rfl,eF.nil _ _,B4.out⟩
  | some m=>
   have ZT:=ak (pQ JU.out hm);have Kn:Hid (R=if Kc S m=4/\(xZ S (jO S.l m).2.1).1.2.1=n then (jM (jO S.l m).2.2,0) else ([],20)):=ak (by rw [HR.out];unfold oU;rw [HM.out,hm]);have HB:=ak (fun hk=> Nw HSO.out ZT.out hk);obtain rfl:C=((m:Int),jO S.l m,0):=HC.out.trans (uM hm);have hkd:Kc S m=(jO S.l m).1:=rfl;rw [hkd] at Kn HB;obtain ⟨u,hu⟩:∃t,t=jO S.l m:=⟨_,rfl⟩
   rw [<-hu] at Kn HB c0 c1 c2 ⊢;have HG:=ak (fun w' (b:Below w0.heap.size w0 w')=> Gi (HQ.out.st.below b) u.2.1);obtain ⟨z,hz⟩:∃z,z=(xZ S u.2.1).1:=⟨_,rfl⟩
   obtain ⟨zb,hzb⟩:∃z,z=(xZ S u.2.1).2:=⟨_,rfl⟩
   rw [<-hz,←hzb] at HG;rw [<-hz] at Kn;have cp:=(HQ.out.r.below B4.out).cp;have HCP:=ak cp;have HC0:=ak c0;have sW:=ak c1;have Ou:=ak c2;have HPL:Hid (p<w4.heap.size):=ak (tN HQ.out.r.row.lt B4.out.size);have HX3:Hid (w3.heap.size<w4.heap.size):=ak (World.block_lt_of_cell? _ _ c0);clear hm HC hkd hu hz hzb c0 c2;obtain ⟨x3,hx3⟩:∃x,x=w3.heap.size:=⟨_,rfl⟩
   rw [<-hx3] at HC0 sW Ou HX3 c1 ⊢;clear hx3;go_upto_region 12 with (fail)
   refine bT (n:=81) (by kernel_rfl) (by kernel_rfl) (by kernel_rfl) rfl
    (mU [(11,10)]) (iO [(11,10)]) (fun _=> arr .i64 3 (tf (0,0,0))) (fun _=> (arr .i64 3 (tf z))) (fun _=> 96) (fun _=> 16)
    (fun ii vv _=> (match ii with | 0 | 1=> vv=.pointer (some ⟨p,0,none⟩) | 2=> vv=.pointer (some ⟨p,34,none⟩) | 3=> vv=.pointer (some ⟨q,0,none⟩) | 4=> vv=.pointer (some ⟨x3,1,none⟩) | 5=> vv=.int .i64 (u.2.1) | 6 | 7=> vv=.tuple #[.agg (arr .i64 3 (tf z)),.bool zb] | 8=> vv=.agg (arr .i64 3 (tf z)) | 9 | 12=> vv=.bool zb | _=> True)) (fun _ _=> True) (fun _ _ _=> trivial) (fun _ _ _ _ _ _ _=> trivial) (fun _ _ _ _ h _=> h)
    (jL rfl) (iC rfl) ?_ ?_ ?_ ?_
   ·refine dD ?_;refine ⟨?_,?_,?_,?_,?_,?_,?_,?_,?_,?_,(fun h=> by cases h),(fun _ h=> by cases h),?_,trivial⟩
    ·intro _ _ a w2 hB hF hd;exact aG <| bJ rfl (hF.same 0 rfl)
    ·intro _ _ a w2 hB hF hd;exact aG <| aO (uF rfl (hd 0 _ rfl rfl rfl (aj rfl))) rfl
    ·intro _ _ a w2 hB hF hd;refine aG <| aO (uH (m:=0) (k:=34) rfl (hd 1 _ rfl rfl rfl (aj rfl)) (by kernel_rfl)) ?_;exact rfl
    ·intro _ _ a w2 hB hF hd;exact aG <| aO (GA rfl (hd 2 _ rfl rfl rfl (aj rfl)) Tryz.underlying43 ((hB.cell (p:=⟨p,34,none⟩) HPL.out).trans HCP.out)) rfl
    ·intro _ _ a w2 hB hF hd;refine aG <| aO (uH (m:=0) (k:=1) rfl (hF.same 14 rfl) (by kernel_rfl)) ?_;exact rfl
    ·intro _ _ a w2 hB hF hd;exact aG <| aO (aJ rfl (hd 4 _ rfl rfl rfl (aj rfl)) Tryz.underlying3 ((hB.cell (p:=⟨x3,1,none⟩) HX3.out).trans sW.out)) rfl
    ·intro _ _ a w2 hB hF hd;refine aG <| aI _ _ _ rfl Tryz.call61 _ (args2 (hd 3 _ rfl rfl rfl (aj rfl)) (hd 5 _ rfl rfl rfl (aj rfl))) (by simp) ((HG.out w2 (B4.out.trans (hB.mono B4.out.size))).mono ?_);rintro e w3 ⟨rfl,hb⟩;exact ⟨_,rfl,rfl,hb⟩
    ·intro _ _ a w2 hB hF hd;exact aG <| bJ rfl (hd 6 _ rfl rfl rfl (aj rfl))
    ·intro _ _ a w2 hB hF hd;exact aG <| aO (aU rfl (hd 7 _ rfl rfl rfl (aj rfl)) rfl) rfl
    ·intro _ _ a w2 hB hF hd;exact aG <| aO (aU rfl (hd 7 _ rfl rfl rfl (aj rfl)) rfl) rfl
    ·intro _ _ a w2 hB hF hd;exact aG <| lS rfl (hd 9 _ rfl rfl rfl (aj rfl))
   ·refine dD ?_;refine ⟨(fun h=> by cases h),(fun h=> by cases h),(fun h=> by cases h),(fun h=> by cases h),(fun h=> by cases h),(fun h=> by cases h),(fun h=> by cases h),(fun h=> by cases h),(fun h=> by cases h),(fun h=> by cases h),?_,(fun h=> by cases h),(fun h=> by cases h),trivial⟩
    ·exact fun _=> ⟨rfl,rfl,fun a w2 K h=> bE rfl rfl Tryz.zeroValue96 (by simp) h⟩
   ·refine dD ?_;refine ⟨(fun _ h=> by cases h),(fun _ h=> by cases h),(fun _ h=> by cases h),(fun _ h=> by cases h),(fun _ h=> by cases h),(fun _ h=> by cases h),(fun _ h=> by cases h),(fun _ h=> by cases h),(fun _ h=> by cases h),(fun _ h=> by cases h),(fun _ h=> by cases h),?_,(fun _ h=> by cases h),trivial⟩
    ·intro p hp;obtain rfl:10=p:=iV hp;exact ⟨rfl,rfl,⟨_,rfl⟩,aj rfl,fun a w2 b K hB hF hd hx hb h=> cK rfl rfl Tryz.size96 hx (hd 8 _ rfl rfl rfl (aj rfl)) hb h⟩
   ·intro a w5 blk hB hF hS hv hfin fG;obtain ⟨v10,Kv,Rs⟩:=hv 10 _ rfl rfl;have ha:=aK rfl rfl hF [_,_,_,_,_,_,_,_,_,_,_,undef,_] rfl ⟨hS 0 _ rfl rfl rfl,hS 1 _ rfl rfl rfl,hS 2 _ rfl rfl rfl,hS 3 _ rfl rfl rfl,hS 4 _ rfl rfl rfl,hS 5 _ rfl rfl rfl,hS 6 _ rfl rfl rfl,hS 7 _ rfl rfl rfl,hS 8 _ rfl rfl rfl,hS 9 _ rfl rfl rfl,v10,trivial,hS 12 _ rfl rfl rfl,trivial⟩;have f10:=hfin 11 _ 10 rfl rfl;simp only [puts,Act.put,dS,dU,dV] at ha;subst ha;have VO:aD .i64 w5 (blk 10) 3 (tf z):=⟨_,f10⟩
    clear hS hv hfin fG hF v10 f10;obtain ⟨xg,hxg⟩:∃x,x=blk 10:=⟨_,rfl⟩
    rw [<-hxg] at VO ⊢;have cg:=VO.cell 1 (by decide);have B5:=ak (B4.out.trans (hB.mono B4.out.size));have c0:=(hB.cell (p:=⟨x3,0,none⟩) HX3.out).trans HC0.out;have c2:=(hB.cell (p:=⟨x3,2,none⟩) HX3.out).trans Ou.out;have hz1:tf z 1=z.2.1:=rfl;rw [hz1] at cg;clear hB hz1 hxg VO Kv Rs c1;by_cases hk:u.1=4
    ·have hk':(u.1 !=4)=false:=by simpa using hk
     by_cases hn:z.2.1=n
     ·have hn':(z.2.1 !=(n:Int))=false:=by simpa using hn
      obtain ⟨b,hb1,hb2⟩:=HB.out (.inl hk);have Wt:=ak hb2;have HE:Hid (R=(jM (b:Int),0)):=ak (by rw [Kn.out,if_pos ⟨hk,hn⟩,hb1]);rw [hb1] at c2;clear hk hn hb1 hb2;go_wp2_with fail;refine (oZ (b:Int) (by omega) (by have:=Wt.out;have:=ZT.out;have:=HL.out;omega) w5).mono ?_;rintro e w6 ⟨x,rfl,hx,b6⟩;have HX:=ak (eF.own hx (fO (n:=1) (m:=8) (fun _ _=> by decide) fun i _=> vV _ i) fun b hb=> tN (ZU.out b hb) B5.out.size);have B6:=ak (B5.out.trans (b6.mono B5.out.size));clear hx b6;go_wp2;go_ret2;rw [HE.out];exact ⟨_,rfl,HX.out,B6.out⟩
     ·have hn':(z.2.1 !=(n:Int))=true:=by simpa using hn
      have HE:Hid (R=([],20)):=ak (by rw [Kn.out,if_neg (fun h=> hn h.2)]);clear hk hn;go_wp2;go_ret2;rw [HE.out];exact ⟨_,rfl,eF.nil _ _,B5.out⟩
    ·have hk':(u.1 !=4)=true:=by simpa using hk
     have HE:Hid (R=([],20)):=ak (by rw [Kn.out,if_neg (fun h=> hk h.1)]);clear hk;go_wp2;go_ret2;rw [HE.out];exact ⟨_,rfl,eF.nil _ _,B5.out⟩
end
section
variable {B : Nat} {w w' w1 w2 w3 : World} {p q : Nat} {F G G' : Nat -> Prop} {S S' : TS} {s : Value} {v u v' : Value} {l l' a b : List Int} {T : List (List Int)} {tv : Nat -> Value}
theorem Ya (T:TypeId) (hF:∀b,F b->b<w.heap.size) (x:Int) (hx:x=0\/x=99):eF F (w.alloc (.cells #[.int .u8 247,.int .u8 0,.int .u8 0,.int .u8 0,.int .u8 0,.int .u8 0,.int .u8 0,.int .u8 0,.int .u8 x] T)) (.slice (some ⟨w.heap.size,0,none⟩) 9 9) (jM x):=by
 refine ⟨Ro _,?_,fun _ b hb hf=> ?_⟩
 ·rw [lq];refine ⟨_,_,rfl,aP _,by decide,(fun h=> by cases h),fun _=> ⟨w.heap.size,0,rfl,by simp,fun i hi=> (cell_of_row _ _ (0+i) _ _ (0,0) (heap_alloc_new w _)).trans ?_⟩⟩;rw [lH];rcases hx with rfl | rfl
  all_goals rcases (by omega:i=0\/i=1\/i=2\/i=3\/i=4\/i=5\/i=6\/i=7\/i=8) with rfl | rfl | rfl | rfl | rfl | rfl | rfl | rfl | rfl<;> kernel_rfl
 ·obtain rfl:w.heap.size=b:=by simpa [Value.ownBlock] using hb
  exact absurd (hF _ hf) (Nat.lt_irrefl _)
end
end Go.Proofs.YtpcjekgfnfjbpaaGreat
