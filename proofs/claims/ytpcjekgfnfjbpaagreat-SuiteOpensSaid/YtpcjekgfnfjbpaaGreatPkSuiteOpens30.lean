/-
  Part 30 of the texts that the proof of SuiteOpens rests on, one after the other. Conditions: named in each theorem.
-/
import Derived.Test.YtpcjekgfnfjbpaaGreatPkSuiteOpens22
import Derived.Test.YtpcjekgfnfjbpaaGreatPkSuiteOpens26
import Derived.Test.YtpcjekgfnfjbpaaGreatPkSuiteOpens29
set_option linter.unusedVariables false
set_option linter.unusedSimpArgs false
set_option maxRecDepth 100000
set_option maxHeartbeats 6400000
namespace Go.Proofs.YtpcjekgfnfjbpaaGreat
open Go.RowKit Go.aG Go.ChangeShapes Go.Maps
attribute [local go_sem ↓] Go.wp_at_zero Go.wp_at_succ
section
variable {B : Nat} {w w' w1 w2 w3 : World} {p q : Nat} {F G G' : Nat → Prop} {S S' : TS} {kd n : Int} {sd : Nat → Int} {s : Value} {v u v' : Value} {l l' : List Int}
theorem qC (h:fO B w p F S) (hb:bg F w v l) (hb':bg F w v' l') (hl:S.l.length≤1000):Calls Tryz.prog 22 #[.pointer (some ⟨p,0,none⟩),v,v'] w fun e w'=> ∃u,e=.returned (.tuple #[u,.int .i64 (dM S l l').2])∧bg F w' u (dM S l l').1∧Below w.heap.size w w':=by
 have HW:=Lib.hid h.which
 obtain ⟨q,G,hq,hF⟩:=id h
 have HQ:=Lib.hid hq
 have HO:=Lib.hid (bY h hb (by omega))
 have CP:=Lib.hid (fun w1 (b1:Below w.heap.size w w1)=> bY (h.below b1) (hb'.below b1) (by omega))
 have kr:=Lib.hid hb.ok
 have uf:=Lib.hid hb'.ok
 have uS:=Lib.hid h.ok
 have uT:Hid (∀b,F b→b<w.heap.size):=Lib.hid fun b hb=> h.lt hb
 have HL:=Lib.hid hl
 obtain ⟨R,hR⟩:∃x,x=dM S l l':=⟨_,rfl⟩
 rw [←hR]
 have HR:=Lib.hid hR
 obtain ⟨av,cv,rfl,_⟩:=hb.rd
 obtain ⟨AL,cv',rfl,_⟩:=hb'.rd
 clear hR h hb hb' hl hq hF
 go_enter Tryz.func22,Tryz.ntmps22
 go_wp2_with fail
 refine HW.out.mono ?_
 rintro e w0 ⟨rfl,rfl⟩
 go_wp2_with fail
 refine HO.out.mono ?_
 rintro e w1 ⟨rfl,b1⟩
 have B1:=Lib.hid b1
 clear b1
 obtain ⟨A,hA⟩:∃x,x=kM S l:=⟨_,rfl⟩
 rw [←hA]
 have HA:=Lib.hid hA
 clear hA
 go_upto_region 9 with (fail)
 refine aD (fun w2=> Below w0.heap.size w0 w2) (B1.out.alloc B1.out.size _) ?_
 rintro w2 b2
 have B2:=Lib.hid b2
 clear b2
 go_wp2_with fail
 refine (CP.out w2 B2.out).mono ?_
 rintro e w3 ⟨rfl,b3⟩
 have B3:=Lib.hid (B2.out.trans (b3.mono B2.out.size))
 clear b3
 obtain ⟨C,hC⟩:∃x,x=kM S l':=⟨_,rfl⟩
 rw [←hC]
 have HC:=Lib.hid hC
 clear hC
 go_upto_region 10 with (fail)
 refine aD (fun w4=> w4.cell? ⟨w3.heap.size,0,none⟩=some (.int .i64 C.2.1.1)∧w4.cell? ⟨w3.heap.size,1,none⟩=some (.int .i64 C.2.1.2.1)∧w4.cell? ⟨w3.heap.size,2,none⟩=some (.int .i64 C.2.1.2.2)∧Below w0.heap.size w0 w4) ⟨cell_of_row _ _ 0 _ _ (0,0) (heap_alloc_new w3 _),cell_of_row _ _ 1 _ _ (0,0) (heap_alloc_new w3 _),cell_of_row _ _ 2 _ _ (0,0) (heap_alloc_new w3 _),B3.out.alloc B3.out.size _⟩ ?_
 rintro w4 ⟨c0,c1,c2,b4⟩
 have B4:=Lib.hid b4
 clear b4
 cases hm:bA S l with
 | none=>
  have HE:Hid (R=([],11)):=Lib.hid (by rw [HR.out];unfold dM;rw [hm])
  obtain rfl:A=(0,(0,0,0),11):=HA.out.trans (eF hm)
  clear hm HA c0 c1 c2
  go_wp2
  go_ret2
  rw [HE.out]
  exact ⟨_,rfl,bg.nil _ _,B4.out⟩
 | some n=>
  have HM:=Lib.hid hm
  have HN:=Lib.hid (bV kr.out hm)
  obtain ⟨t,ht⟩:∃t,t=bF S.l n:=⟨_,rfl⟩
  obtain rfl:A=((n:Int),t,0):=HA.out.trans (ht▸eD hm)
  clear hm HA ht
  cases hm:bA S l' with
  | none=>
   have HE:Hid (R=([],11)):=Lib.hid (by rw [HR.out];unfold dM;rw [HM.out,hm])
   obtain rfl:C=(0,(0,0,0),11):=HC.out.trans (eF hm)
   clear hm HC c0 c1 c2
   go_wp2
   go_ret2
   rw [HE.out]
   exact ⟨_,rfl,bg.nil _ _,B4.out⟩
  | some m=>
   have Aj:=Lib.hid (bV uf.out hm)
   have ji:Hid (R=if kN S m=4∧(jG S (bF S.l m).2.1).1.2.1=n then (bD (bF S.l m).2.2,0) else ([],20)):=Lib.hid (by rw [HR.out];unfold dM;rw [HM.out,hm])
   have HB:=Lib.hid (fun hk=> pE uS.out Aj.out hk)
   obtain rfl:C=((m:Int),bF S.l m,0):=HC.out.trans (eD hm)
   have hkd:kN S m=(bF S.l m).1:=rfl
   rw [hkd] at ji HB
   obtain ⟨u,hu⟩:∃t,t=bF S.l m:=⟨_,rfl⟩
   rw [←hu] at ji HB c0 c1 c2 ⊢
   have HG:=Lib.hid (fun w' (b:Below w0.heap.size w0 w')=> gU (HQ.out.st.below b) u.2.1)
   obtain ⟨z,hz⟩:∃z,z=(jG S u.2.1).1:=⟨_,rfl⟩
   obtain ⟨zb,hzb⟩:∃z,z=(jG S u.2.1).2:=⟨_,rfl⟩
   rw [←hz,←hzb] at HG
   rw [←hz] at ji
   have cp:=(HQ.out.r.below B4.out).cp
   have IK:=Lib.hid cp
   have AV:=Lib.hid c0
   have ql:=Lib.hid c1
   have uU:=Lib.hid c2
   have CJ:Hid (p<w4.heap.size):=Lib.hid (Nat.lt_of_lt_of_le HQ.out.r.row.lt B4.out.size)
   have yN:Hid (w3.heap.size<w4.heap.size):=Lib.hid (World.block_lt_of_cell? _ _ c0)
   clear hm HC hkd hu hz hzb c0 c2
   obtain ⟨x3,hx3⟩:∃x,x=w3.heap.size:=⟨_,rfl⟩
   rw [←hx3] at AV ql uU yN c1 ⊢
   clear hx3
   go_upto_region 12 with (fail)
   refine eX (n:=81) (by kernel_rfl) (by kernel_rfl) (by kernel_rfl) rfl
    (qX [(11,10)]) (jw [(11,10)]) (fun _=> arr .i64 3 (tf (0,0,0))) (fun _=> (arr .i64 3 (tf z))) (fun _=> 96) (fun _=> 16)
    (fun ii vv _=> (match ii with | 0 | 1=> vv=.pointer (some ⟨p,0,none⟩) | 2=> vv=.pointer (some ⟨p,34,none⟩) | 3=> vv=.pointer (some ⟨q,0,none⟩) | 4=> vv=.pointer (some ⟨x3,1,none⟩) | 5=> vv=.int .i64 (u.2.1) | 6 | 7=> vv=.tuple #[.agg (arr .i64 3 (tf z)),.bool zb] | 8=> vv=.agg (arr .i64 3 (tf z)) | 9 | 12=> vv=.bool zb | _=> True)) (fun _ _=> True) (fun _ _ _=> trivial) (fun _ _ _ _ _ _ _=> trivial) (fun _ _ _ _ h _=> h)
    (ug rfl) (oI rfl) ?_ ?_ ?_ ?_
   ·refine Each.all ?_
    refine ⟨?_,?_,?_,?_,?_,?_,?_,?_,?_,?_,(fun h=> by cases h),(fun _ h=> by cases h),?_,trivial⟩
    ·intro _ _ a w2 hB hF hd
     rw [if_pos (ah rfl)]
     exact aA _ (.inl rfl) (by simp) (hF.same 0 rfl)
    ·intro _ _ a w2 hB hF hd
     rw [if_pos (ah rfl)]
     exact ak (fun h=> by cases h) (fZ rfl (hd 0 _ rfl rfl rfl (aj rfl))) rfl
    ·intro _ _ a w2 hB hF hd
     rw [if_pos (ah rfl)]
     refine ak (fun h=> by cases h) (bq (m:=0) (k:=34) rfl (hd 1 _ rfl rfl rfl (aj rfl)) (by kernel_rfl)) ?_
     exact rfl
    ·intro _ _ a w2 hB hF hd
     rw [if_pos (ah rfl)]
     exact ak (fun h=> by cases h) (kG rfl (hd 2 _ rfl rfl rfl (aj rfl)) Tryz.underlying43 ((hB.cell (p:=⟨p,34,none⟩) CJ.out).trans IK.out)) rfl
    ·intro _ _ a w2 hB hF hd
     rw [if_pos (ah rfl)]
     refine ak (fun h=> by cases h) (bq (m:=0) (k:=1) rfl (hF.same 14 rfl) (by kernel_rfl)) ?_
     exact rfl
    ·intro _ _ a w2 hB hF hd
     rw [if_pos (ah rfl)]
     exact ak (fun h=> by cases h) (aB rfl (hd 4 _ rfl rfl rfl (aj rfl)) Tryz.underlying3 ((hB.cell (p:=⟨x3,1,none⟩) yN.out).trans ql.out)) rfl
    ·intro _ _ a w2 hB hF hd
     rw [if_pos (ah rfl)]
     refine aJ _ _ _ rfl Tryz.call61 _ (args2 (hd 3 _ rfl rfl rfl (aj rfl)) (hd 5 _ rfl rfl rfl (aj rfl))) (by simp) ((HG.out w2 (B4.out.trans (hB.mono B4.out.size))).mono ?_)
     rintro e w3 ⟨rfl,hb⟩;exact ⟨_,rfl,rfl,hb⟩
    ·intro _ _ a w2 hB hF hd
     rw [if_pos (ah rfl)]
     exact aA _ (.inl rfl) (by simp) (hd 6 _ rfl rfl rfl (aj rfl))
    ·intro _ _ a w2 hB hF hd
     rw [if_pos (ah rfl)]
     exact ak (fun h=> by cases h) (aV rfl (hd 7 _ rfl rfl rfl (aj rfl)) rfl) rfl
    ·intro _ _ a w2 hB hF hd
     rw [if_pos (ah rfl)]
     exact ak (fun h=> by cases h) (aV rfl (hd 7 _ rfl rfl rfl (aj rfl)) rfl) rfl
    ·intro _ _ a w2 hB hF hd
     rw [if_pos (ah rfl)]
     exact aA _ (.inr rfl) (by simp) (hd 9 _ rfl rfl rfl (aj rfl))
   ·refine Each.all ?_
    refine ⟨(fun h=> by cases h),(fun h=> by cases h),(fun h=> by cases h),(fun h=> by cases h),(fun h=> by cases h),(fun h=> by cases h),(fun h=> by cases h),(fun h=> by cases h),(fun h=> by cases h),(fun h=> by cases h),?_,(fun h=> by cases h),(fun h=> by cases h),trivial⟩
    ·exact fun _=> ⟨rfl,rfl,fun a w2 K h=> eP rfl rfl Tryz.zeroValue96 (by simp) h⟩
   ·refine Each.all ?_
    refine ⟨(fun _ h=> by cases h),(fun _ h=> by cases h),(fun _ h=> by cases h),(fun _ h=> by cases h),(fun _ h=> by cases h),(fun _ h=> by cases h),(fun _ h=> by cases h),(fun _ h=> by cases h),(fun _ h=> by cases h),(fun _ h=> by cases h),(fun _ h=> by cases h),?_,(fun _ h=> by cases h),trivial⟩
    ·intro p hp
     obtain rfl:10=p:=Option.some.inj hp
     exact ⟨rfl,rfl,⟨_,rfl⟩,aj rfl,fun a w2 b K hB hF hd hx hb h=> iw rfl rfl Tryz.size96 hx (hd 8 _ rfl rfl rfl (aj rfl)) hb h⟩
   ·intro a w5 blk hB hF hS hv hfin rC
    obtain ⟨v10,Gp,Gn⟩:=hv 10 _ rfl rfl
    have ha:=aH rfl rfl hF [_,_,_,_,_,_,_,_,_,_,_,undef,_] rfl ⟨hS 0 _ rfl rfl rfl,hS 1 _ rfl rfl rfl,hS 2 _ rfl rfl rfl,hS 3 _ rfl rfl rfl,hS 4 _ rfl rfl rfl,hS 5 _ rfl rfl rfl,hS 6 _ rfl rfl rfl,hS 7 _ rfl rfl rfl,hS 8 _ rfl rfl rfl,hS 9 _ rfl rfl rfl,v10,trivial,hS 12 _ rfl rfl rfl,trivial⟩
    have f10:=hfin 11 _ 10 rfl rfl
    simp only [puts,Act.put,List.setIfInBounds_toArray,List.set_cons_succ,List.set_cons_zero] at ha
    subst ha
    have Hz:aI .i64 w5 (blk 10) 3 (tf z):=⟨_,f10⟩
    clear hS hv hfin rC hF v10 f10
    obtain ⟨xg,hxg⟩:∃x,x=blk 10:=⟨_,rfl⟩
    rw [←hxg] at Hz ⊢
    have cg:=Hz.cell 1 (by decide)
    have B5:=Lib.hid (B4.out.trans (hB.mono B4.out.size))
    have c0:=(hB.cell (p:=⟨x3,0,none⟩) yN.out).trans AV.out
    have c2:=(hB.cell (p:=⟨x3,2,none⟩) yN.out).trans uU.out
    have hz1:tf z 1=z.2.1:=rfl
    rw [hz1] at cg
    clear hB hz1 hxg Hz Gp Gn c1
    by_cases hk:u.1=4
    ·have hk':(u.1 !=4)=false:=by simpa using hk
     by_cases hn:z.2.1=n
     ·have hn':(z.2.1 !=(n:Int))=false:=by simpa using hn
      obtain ⟨b,hb1,hb2⟩:=HB.out (.inl hk)
      have Fp:=Lib.hid hb2
      have HE:Hid (R=(bD (b:Int),0)):=Lib.hid (by rw [ji.out,if_pos ⟨hk,hn⟩,hb1])
      rw [hb1] at c2
      clear hk hn hb1 hb2
      go_wp2_with fail
      refine (bP (b:Int) (by omega) (by have:=Fp.out;have:=Aj.out;have:=HL.out;omega) w5).mono ?_
      rintro e w6 ⟨x,rfl,hx,b6⟩
      have HX:=Lib.hid (bg.own hx (bT (n:=1) (m:=8) (fun _ _=> by decide) fun i _=> mo _ i) fun b hb=> Nat.lt_of_lt_of_le (uT.out b hb) B5.out.size)
      have B6:=Lib.hid (B5.out.trans (b6.mono B5.out.size))
      clear hx b6
      go_wp2
      go_ret2
      rw [HE.out]
      exact ⟨_,rfl,HX.out,B6.out⟩
     ·have hn':(z.2.1 !=(n:Int))=true:=by simpa using hn
      have HE:Hid (R=([],20)):=Lib.hid (by rw [ji.out,if_neg (fun h=> hn h.2)])
      clear hk hn
      go_wp2
      go_ret2
      rw [HE.out]
      exact ⟨_,rfl,bg.nil _ _,B5.out⟩
    ·have hk':(u.1 !=4)=true:=by simpa using hk
     have HE:Hid (R=([],20)):=Lib.hid (by rw [ji.out,if_neg (fun h=> hk h.1)])
     clear hk
     go_wp2
     go_ret2
     rw [HE.out]
     exact ⟨_,rfl,bg.nil _ _,B5.out⟩
theorem qx (h:S.Ok):S.tx.length≤S.l.length:=by
 have hn:((List.range S.tx.length).map fun j:Nat=> ((9,(j:Int),0):Tm)).Nodup:=by
  unfold List.Nodup
  rw [List.pairwise_map]
  exact List.nodup_range.imp fun h e=> h (Int.ofNat_inj.1 (congrArg (fun t:Tm=> t.2.1) e))
 have:=vL hn (m:=S.l) fun x hx=> by
  obtain ⟨j,hj,rfl⟩:=List.mem_map.1 hx
  exact h.all j (List.mem_range.1 hj)
 simpa using this
theorem oM (h:S.Ok) (b:List Int):∃a:Nat,fD S b=a∧a<(S.text b).l.length∧a≤S.l.length∧kN (S.text b) a=9:=by
 unfold fD TS.text kN
 by_cases hm:b ∈ S.tx
 ·rw [if_pos hm,if_pos hm]
  have h9:=h.all _ (iZ hm)
  exact ⟨_,rfl,iZ h9,Nat.le_of_lt (iZ h9),by rw [oL (jy h9)]⟩
 ·rw [if_neg hm,if_neg hm]
  have h9:(S.l++ [((9,(S.tx.length:Int),0):Tm)])[S.l.length]? =some (9,(S.tx.length:Int),0):=by simp
  exact ⟨_,rfl,by simp,Nat.le_refl _,by rw [oL h9]⟩
theorem zN {n m:Nat} (h:n<S.l.length) (h':m<S.l.length) (hk:kN S m=9):dK S (8,(n:Int),(m:Int))=true:=by
 rw [xq,kS h,xW h' hk];rfl
theorem BG {m:Nat} (h':m<S.l.length) (hk:kN S m=9):dK S (10,(m:Int),0)=true:=by
 rw [uG,xW h' hk];rfl
theorem uO {w w1 w2:World} {G G1 G2:Nat→Prop} (c1:aZ G w w1) (f1:∀b,G1 b→G b∨w.heap.size≤b) (c2:aZ G1 w1 w2) (f2:∀b,G2 b→G1 b∨w1.heap.size≤b):aZ G w w2∧∀b,G2 b→G b∨w.heap.size≤b:=
 ⟨c1.trans c2 fun b hb h1=> (f1 b h1).elim id fun h=> by omega,fun b hb=> (f2 b hb).elim (f1 b) fun h=> .inr (Nat.le_trans c1.size h)⟩
theorem vg (h:fO B w p F S) (hb:bg F w v l) (hb':bg F w v' l') (hx:l'.length≤1000) (hl:S.l.length≤900):Calls Tryz.prog 37 #[.pointer (some ⟨p,0,none⟩),v,v'] w fun e w'=> ∃u,e=.returned (.tuple #[u,.int .i64 (kE S l l').2.1])∧fB B w p F u (kE S l l') w':=by
 have HW:=Lib.hid h.which
 have HO:=Lib.hid (bY h hb (by omega))
 have kr:=Lib.hid hb.ok
 have yT:=Lib.hid hb'
 have uS:=Lib.hid h.ok
 obtain ⟨q,G,hq,hF⟩:=h
 have HQ:=Lib.hid hq
 have HF:=Lib.hid hF
 have HL:=Lib.hid hl
 have HX:=Lib.hid hx
 obtain ⟨R,hR⟩:∃x,x=kE S l l':=⟨_,rfl⟩
 rw [←hR]
 have HR:=Lib.hid hR
 obtain ⟨av,cv,rfl,_⟩:=hb.rd
 obtain ⟨AL,cv',rfl,_⟩:=hb'.rd
 clear hR hb hb' hl hq hF hx
 go_enter Tryz.func37,Tryz.ntmps37
 go_wp2_with fail
 refine HW.out.mono ?_
 rintro e w0 ⟨rfl,rfl⟩
 go_wp2_with fail
 refine HO.out.mono ?_
 rintro e w1 ⟨rfl,b1⟩
 have B1:=Lib.hid b1
 clear b1
 obtain ⟨A,hA⟩:∃x,x=kM S l:=⟨_,rfl⟩
 rw [←hA]
 have HA:=Lib.hid hA
 clear hA
 go_upto_region 10 with (fail)
 refine aD (fun w2=> Below w0.heap.size w0 w2) (B1.out.alloc B1.out.size _) ?_
 rintro w2 b2
 have B2:=Lib.hid b2
 clear b2
 cases hm:bA S l with
 | none=>
  have HE:Hid (R=([],11,S)):=Lib.hid (by rw [HR.out];unfold kE;rw [hm])
  obtain rfl:A=(0,(0,0,0),11):=HA.out.trans (eF hm)
  clear hm HA
  go_wp2
  go_ret2
  rw [HE.out]
  exact ⟨_,rfl,iU HQ.out HF.out B2.out 11⟩
 | some n=>
  have HN:=Lib.hid (bV kr.out hm)
  obtain ⟨t,ht⟩:∃t,t=bF S.l n:=⟨_,rfl⟩
  obtain rfl:A=((n:Int),t,0):=HA.out.trans (ht▸eD hm)
  obtain ⟨a,ha,ha1,ha2,Ct⟩:=oM uS.out l'
  have ji:Hid (R=(bD (dW (S.text l') (8,n,a)).1,0,(S.text l').put (8,n,a))):=Lib.hid (by rw [HR.out];unfold kE;rw [hm,ha])
  have yR:Hid (dK (S.text l') (8,(n:Int),(a:Int))=true):=Lib.hid (zN (by have:=HN.out;unfold TS.text;split<;> simp<;> omega) ha1 Ct)
  have Fq:=Lib.hid ha2
  have HA:=Lib.hid ha
  have yZ:=Lib.hid (gQ S l')
  clear hm ht ha ha1 ha2 Ct
  have cp:=(HQ.out.r.below B2.out).cp
  go_wp2_with fail
  refine (jN (HQ.out.st.below B2.out) (HQ.out.below B2.out).hB l' ⟨yT.out.ok,by have:=HX.out;omega⟩ _ (yT.out.rd.below B2.out) (fun h c hc hG=> yT.out.off h c hc ((HF.out c).2 (.inr hG))) (by have:=HL.out;omega) (by have:=qx uS.out;have:=HL.out;omega)).mono ?_
  rintro e w3 ⟨rfl,G3,h3,c3,f3⟩
  rw [HA.out]
  have H3:=Lib.hid h3
  have C3:=Lib.hid c3
  have F3:=Lib.hid f3
  have W3:Hid ((S.text l').few):=Lib.hid (HQ.out.few.text l')
  have HR3:=Lib.hid ((HQ.out.below B2.out).put h3 c3 f3 W3.out)
  have cp:=HR3.out.r.cp
  clear h3 c3 f3
  have HP:=Lib.hid (lH yR.out)
  have rR:Hid (jT (8,(n:Int),(a:Int))):=Lib.hid (lI (by omega) (by have:=HN.out;have:=HL.out;omega) (by have:=Fq.out;have:=HL.out;omega))
  go_wp2_with fail
  refine (jo H3.out HR3.out.hB _ rR.out (by have:=yZ.out;have:=HL.out;omega)).mono ?_
  rintro e w4 ⟨rfl,G4,h4,c4,f4⟩
  rw [HP.out.1]
  obtain ⟨X,hX⟩:∃X,X=(dW (S.text l') (8,(n:Int),(a:Int))).1:=⟨_,rfl⟩
  rw [←hX] at HP ji ⊢
  have EM:=Lib.hid HP.out.2
  have H4:=Lib.hid h4
  have CC:=Lib.hid (uO C3.out F3.out c4 f4)
  have Ik:Hid (((S.text l').put (8,(n:Int),(a:Int))).few):=Lib.hid (W3.out.put (by simp))
  clear hX h4 c4 f4 cp HP
  go_wp2_with fail
  refine (bP X EM.out.1 (by have:=EM.out.2;have:=yZ.out;have:=HL.out;omega) w4).mono ?_
  rintro e w5 ⟨u,rfl,hu,b5⟩
  have HD:=Lib.hid (jO HQ.out HF.out B2.out H4.out CC.out.1 CC.out.2 Ik.out hu b5 0)
  clear hu b5
  go_wp2
  go_ret2
  rw [ji.out]
  exact ⟨_,rfl,HD.out⟩
theorem fT {w w':World} {v:Value} {b:Bool} {n:Nat} {f:Nat→Int} (h:∃u,v=.tuple #[u,.bool b] ∧Rd .u8 w u n f) (hb:Below w.heap.size w w'):∃u,v=.tuple #[u,.bool b] ∧Rd .u8 w' u n f:=by
 obtain ⟨u,e,h⟩:=h;exact ⟨u,e,h.below hb⟩
theorem gG {a b:List Int}:kF a.length (bf a) b.length (bf b)=true ↔ a=b:=by
 unfold kF
 constructor
 ·intro h
  simp only [Bool.and_eq_true,decide_eq_true_eq] at h
  rw [←xK a,←xK b,←h.1]
  refine vP fun i hi=> Classical.byContradiction fun hne=> ?_
  have:=h.2
  rw [lW (fun hh=> hne (hh i hi))] at this
  cases this
 ·rintro rfl
  rw [decide_eq_true rfl,lV];rfl
theorem Ab (h:jK B w q G S) (n:Int):okB (bC S n).1:=by
 obtain ⟨mb,mt,vl,vb,tv,h1,h2,_⟩:=h
 unfold bC
 split
 ·rename_i hn
  rw [List.getD_eq_getElem?_getD]
  cases hx:S.tx[(bF S.l n.toNat).2.1.toNat]? with
  | none=> exact fun x hx=> by simp at hx
  | some b=> exact (h1.Aq b (List.mem_of_getElem? hx)).1
 ·exact fun x hx=> by simp at hx
theorem sF {y:Value} {x:List Int} (h:fO B w p F S) (hb:bg F w v l) (hy:bg F w y x) (hb':bg F w v' l') (hl:S.l.length≤1000):Calls Tryz.prog 42 #[.pointer (some ⟨p,0,none⟩),v,y,v'] w fun e w'=> e=.returned (.int .i64 (gD S l x l'))∧Below w.heap.size w w':=by
 have HW:=Lib.hid h.which
 obtain ⟨q,G,hq,hF⟩:=id h
 have HQ:=Lib.hid hq
 have HO:=Lib.hid (bY h hb (by omega))
 have CP:=Lib.hid (fun w1 (b1:Below w.heap.size w w1)=> bY (h.below b1) (hb'.below b1) (by omega))
 have kr:=Lib.hid hb.ok
 have uf:=Lib.hid hb'.ok
 have HY:=Lib.hid hy.rd
 have MW:Hid (∀i,i<x.length→0≤bf x i∧bf x i<256):=Lib.hid fun i hi=> hy.ok.at i hi
 have uS:=Lib.hid h.ok
 have HL:=Lib.hid hl
 obtain ⟨R,hR⟩:∃z,z=gD S l x l':=⟨_,rfl⟩
 rw [←hR]
 have HR:=Lib.hid hR
 obtain ⟨av,cv,rfl,_⟩:=hb.rd
 obtain ⟨AL,cv',rfl,_⟩:=hb'.rd
 obtain ⟨ay,cy,rfl,_⟩:=hy.rd
 clear hR h hb hb' hl hq hF hy
 go_enter Tryz.func42,Tryz.ntmps42
 go_wp2_with fail
 refine HW.out.mono ?_
 rintro e w0 ⟨rfl,rfl⟩
 go_wp2_with fail
 refine HO.out.mono ?_
 rintro e w1 ⟨rfl,b1⟩
 have B1:=Lib.hid b1
 clear b1
 obtain ⟨A,hA⟩:∃x,x=kM S l:=⟨_,rfl⟩
 rw [←hA]
 have HA:=Lib.hid hA
 clear hA
 go_upto_region 9 with (fail)
 refine aD (fun w2=> w2.cell? ⟨w1.heap.size,0,none⟩=some (.int .i64 A.2.1.1)∧w2.cell? ⟨w1.heap.size,1,none⟩=some (.int .i64 A.2.1.2.1)∧Below w0.heap.size w0 w2) ⟨cell_of_row _ _ 0 _ _ (0,0) (heap_alloc_new w1 _),cell_of_row _ _ 1 _ _ (0,0) (heap_alloc_new w1 _),B1.out.alloc B1.out.size _⟩ ?_
 rintro w2 ⟨a0,a1,b2⟩
 have B2:=Lib.hid b2
 have Dp:=Lib.hid a0
 have HA1:=Lib.hid a1
 have Ah:Hid (w1.heap.size<w2.heap.size):=Lib.hid (World.block_lt_of_cell? _ _ a0)
 clear b2 a0 a1
 go_wp2_with fail
 refine (CP.out w2 B2.out).mono ?_
 rintro e w3 ⟨rfl,b3⟩
 have IV:=Lib.hid b3
 have B3:=Lib.hid (B2.out.trans (b3.mono B2.out.size))
 clear b3
 obtain ⟨C,hC⟩:∃x,x=kM S l':=⟨_,rfl⟩
 rw [←hC]
 have HC:=Lib.hid hC
 clear hC
 go_upto_region 10 with (fail)
 refine aD (fun w4=> w4.cell? ⟨w3.heap.size,0,none⟩=some (.int .i64 C.2.1.1)∧w4.cell? ⟨w3.heap.size,1,none⟩=some (.int .i64 C.2.1.2.1)∧w4.cell? ⟨w3.heap.size,2,none⟩=some (.int .i64 C.2.1.2.2)∧Below w3.heap.size w3 w4) ⟨cell_of_row _ _ 0 _ _ (0,0) (heap_alloc_new w3 _),cell_of_row _ _ 1 _ _ (0,0) (heap_alloc_new w3 _),cell_of_row _ _ 2 _ _ (0,0) (heap_alloc_new w3 _),(Below.refl _ _).alloc (Nat.le_refl _) _⟩ ?_
 rintro w4 ⟨c0,c1,c2,b4⟩
 have Ll:=Lib.hid (IV.out.trans (b4.mono IV.out.size))
 have B4:=Lib.hid (B3.out.trans (b4.mono B3.out.size))
 clear b4
 cases hm:bA S l with
 | none=>
  have HE:Hid (R=11):=Lib.hid (by rw [HR.out];unfold gD;rw [hm])
  obtain rfl:A=(0,(0,0,0),11):=HA.out.trans (eF hm)
  clear hm HA c0 c1 c2
  go_wp2
  go_ret
  rw [HE.out]
  exact ⟨rfl,B4.out⟩
 | some n=>
  have HM:=Lib.hid hm
  have HN:=Lib.hid (bV kr.out hm)
  obtain ⟨t,ht⟩:∃t,t=bF S.l n:=⟨_,rfl⟩
  obtain rfl:A=((n:Int),t,0):=HA.out.trans (ht▸eD hm)
  have HT:=Lib.hid ht
  clear hm HA ht
  cases hm:bA S l' with
  | none=>
   have HE:Hid (R=11):=Lib.hid (by rw [HR.out];unfold gD;rw [HM.out,hm])
   obtain rfl:C=(0,(0,0,0),11):=HC.out.trans (eF hm)
   clear hm HC c0 c1 c2
   go_wp2
   go_ret
   rw [HE.out]
   exact ⟨rfl,B4.out⟩
  | some m=>
   have Aj:=Lib.hid (bV uf.out hm)
   obtain ⟨u,hu⟩:∃t,t=bF S.l m:=⟨_,rfl⟩
   obtain rfl:C=((m:Int),u,0):=HC.out.trans (hu▸eD hm)
   obtain ⟨z,hz⟩:∃z,z=(bC S u.2.2).1:=⟨_,rfl⟩
   obtain ⟨zb,hzb⟩:∃z,z=(bC S u.2.2).2:=⟨_,rfl⟩
   have ji:Hid (R=if u.1=8∧t.1=3∧t.2.1=u.2.1∧(z,zb)=(x,true) then 0 else 22):=Lib.hid (by rw [HR.out];unfold gD kN;rw [HM.out,hm,hz,hzb,hu,HT.out])
   have MU:Hid (∀i,i<z.length→0≤bf z i∧bf z i<256):=Lib.hid fun i hi=> (show okB z from hz▸Ab HQ.out.st _).at i hi
   have HG:Hid (∀w',Below w0.heap.size w0 w'→Calls Tryz.prog 62 #[.pointer (some ⟨q,0,none⟩),.int .i64 u.2.2] w' fun e w2=> ∃x,e=.returned x∧(∃y,x=.tuple #[y,.bool zb] ∧Rd .u8 w2 y z.length (bf z))∧Below w'.heap.size w' w2):=Lib.hid fun w' bw=> by
    refine (lY (HQ.out.st.below bw) u.2.2 HL.out (Nat.le_trans (qx uS.out) HL.out)).mono ?_
    rw [←hz,←hzb]
    rintro e w2 ⟨y,rfl,hy,b⟩
    exact ⟨_,rfl,⟨y,rfl,hy⟩,b⟩
   have IK:=Lib.hid (HQ.out.r.below B4.out).cp
   have AV:=Lib.hid c0
   have ql:=Lib.hid c1
   have uU:=Lib.hid c2
   have CJ:Hid (p<w4.heap.size):=Lib.hid (Nat.lt_of_lt_of_le HQ.out.r.row.lt B4.out.size)
   have yN:Hid (w3.heap.size<w4.heap.size):=Lib.hid (World.block_lt_of_cell? _ _ c0)
   have Ag:Hid (w1.heap.size<w3.heap.size):=Lib.hid (Nat.lt_of_lt_of_le Ah.out IV.out.size)
   have HB0:Hid (w4.cell? ⟨w1.heap.size,0,none⟩=some (.int .i64 t.1)):=Lib.hid ((Ll.out.cell (p:=⟨w1.heap.size,0,none⟩) Ah.out).trans Dp.out)
   have HB1:Hid (w4.cell? ⟨w1.heap.size,1,none⟩=some (.int .i64 t.2.1)):=Lib.hid ((Ll.out.cell (p:=⟨w1.heap.size,1,none⟩) Ah.out).trans HA1.out)
   clear hm HC hu hz hzb c0 c1 c2 HR HT Dp HA1
   obtain ⟨x1,hx1⟩:∃x,x=w1.heap.size:=⟨_,rfl⟩
   obtain ⟨x3,hx3⟩:∃x,x=w3.heap.size:=⟨_,rfl⟩
   rw [←hx3] at AV ql uU yN Ag ⊢
   rw [←hx1] at HB0 HB1 Ag ⊢
   clear hx3 hx1 Ah
   go_upto_region 12 with (fail)
   refine aN (n:=92) (by kernel_rfl) (by kernel_rfl) (by kernel_rfl) rfl
    (fun ii vv ww=> (match ii with | 0 | 1=> vv=.pointer (some ⟨p,0,none⟩) | 2=> vv=.pointer (some ⟨p,34,none⟩) | 3=> vv=.pointer (some ⟨q,0,none⟩) | 4=> vv=.pointer (some ⟨x3,2,none⟩) | 5=> vv=.int .i64 (u.2.2) | 9 | 11=> vv=.bool zb | _=> True)∧(ii=6→∃y,vv=.tuple #[y,.bool zb] ∧Rd .u8 ww y z.length (bf z))∧(ii=7→∃y,vv=.tuple #[y,.bool zb] ∧Rd .u8 ww y z.length (bf z))∧(ii=8→Rd .u8 ww vv z.length (bf z))∧(ii=10→Rd .u8 ww vv z.length (bf z)))
    (fun w w'=> Below w.heap.size w w') (fun _ _ h=> h) (fun i v w w' h hE=> ⟨h.1,fun e=> fT (h.2.1 e) hE,fun e=> fT (h.2.2.1 e) hE,fun e=> Rd.below (h.2.2.2.1 e) hE,fun e=> Rd.below (h.2.2.2.2 e) hE⟩) ?_ ?_
   ·refine Each.all ?_
    refine ⟨?_,?_,?_,?_,?_,?_,?_,?_,?_,?_,?_,?_,trivial⟩
    ·intro a w2 hB hF hd
     rw [if_pos (ah rfl)]
     exact aA _ (.inl rfl) (by simp) ⟨(hF.same 0 rfl),fun h=> absurd h (by decide),fun h=> absurd h (by decide),fun h=> absurd h (by decide),fun h=> absurd h (by decide)⟩
    ·intro a w2 hB hF hd
     rw [if_pos (ah rfl)]
     exact ak (fun h=> by cases h) (fZ rfl ((hd 0 _ rfl (aj rfl)).1)) ⟨rfl,fun h=> absurd h (by decide),fun h=> absurd h (by decide),fun h=> absurd h (by decide),fun h=> absurd h (by decide)⟩
    ·intro a w2 hB hF hd
     rw [if_pos (ah rfl)]
     refine ak (fun h=> by cases h) (bq (m:=0) (k:=34) rfl ((hd 1 _ rfl (aj rfl)).1) (by kernel_rfl)) ?_
     exact ⟨rfl,fun h=> absurd h (by decide),fun h=> absurd h (by decide),fun h=> absurd h (by decide),fun h=> absurd h (by decide)⟩
    ·intro a w2 hB hF hd
     rw [if_pos (ah rfl)]
     exact ak (fun h=> by cases h) (kG rfl ((hd 2 _ rfl (aj rfl)).1) Tryz.underlying43 ((hB.cell (p:=⟨p,34,none⟩) CJ.out).trans IK.out)) ⟨rfl,fun h=> absurd h (by decide),fun h=> absurd h (by decide),fun h=> absurd h (by decide),fun h=> absurd h (by decide)⟩
    ·intro a w2 hB hF hd
     rw [if_pos (ah rfl)]
     refine ak (fun h=> by cases h) (bq (m:=0) (k:=2) rfl (hF.same 15 rfl) (by kernel_rfl)) ?_
     exact ⟨rfl,fun h=> absurd h (by decide),fun h=> absurd h (by decide),fun h=> absurd h (by decide),fun h=> absurd h (by decide)⟩
    ·intro a w2 hB hF hd
     rw [if_pos (ah rfl)]
     exact ak (fun h=> by cases h) (aB rfl ((hd 4 _ rfl (aj rfl)).1) Tryz.underlying3 ((hB.cell (p:=⟨x3,2,none⟩) yN.out).trans uU.out)) ⟨rfl,fun h=> absurd h (by decide),fun h=> absurd h (by decide),fun h=> absurd h (by decide),fun h=> absurd h (by decide)⟩
    ·intro a w2 hB hF hd
     rw [if_pos (ah rfl)]
     refine aJ _ _ _ rfl Tryz.call62 _ (args2 ((hd 3 _ rfl (aj rfl)).1) ((hd 5 _ rfl (aj rfl)).1)) (by simp) ((HG.out w2 (B4.out.trans (hB.mono B4.out.size))).mono ?_)
     rintro e w3 ⟨u,rfl,hr,hb⟩;exact ⟨u,rfl,⟨trivial,fun _=> hr,fun h=> absurd h (by decide),fun h=> absurd h (by decide),fun h=> absurd h (by decide)⟩,hb⟩
    ·intro a w2 hB hF hd
     rw [if_pos (ah rfl)]
     exact aA _ (.inl rfl) (by simp) ⟨trivial,fun h=> absurd h (by decide),fun _=> ((hd 6 _ rfl (aj rfl)).2.1 rfl),fun h=> absurd h (by decide),fun h=> absurd h (by decide)⟩
    ·intro a w2 hB hF hd
     rw [if_pos (ah rfl)]
     obtain ⟨u_,yw,Au⟩:=((hd 7 _ rfl (aj rfl)).2.2.1 rfl)
     exact ak (fun h=> by cases h) (aV rfl yw rfl) ⟨trivial,fun h=> absurd h (by decide),fun h=> absurd h (by decide),fun _=> (Au),fun h=> absurd h (by decide)⟩
    ·intro a w2 hB hF hd
     rw [if_pos (ah rfl)]
     obtain ⟨u_,yw,Au⟩:=((hd 7 _ rfl (aj rfl)).2.2.1 rfl)
     exact ak (fun h=> by cases h) (aV rfl yw rfl) ⟨rfl,fun h=> absurd h (by decide),fun h=> absurd h (by decide),fun h=> absurd h (by decide),fun h=> absurd h (by decide)⟩
    ·intro a w2 hB hF hd
     rw [if_pos (ah rfl)]
     exact aA _ (.inr rfl) (by simp) ⟨trivial,fun h=> absurd h (by decide),fun h=> absurd h (by decide),fun h=> absurd h (by decide),fun _=> ((hd 8 _ rfl (aj rfl)).2.2.2.1 rfl)⟩
    ·intro a w2 hB hF hd
     rw [if_pos (ah rfl)]
     exact aA _ (.inr rfl) (by simp) ⟨((hd 9 _ rfl (aj rfl)).1),fun h=> absurd h (by decide),fun h=> absurd h (by decide),fun h=> absurd h (by decide),fun h=> absurd h (by decide)⟩
   ·intro a w5 hB hF hS
    obtain ⟨x64,BR⟩:∃x,x=a.tmps.getD 64 undef:=⟨_,rfl⟩
    have Oj:∃y,x64=.tuple #[y,.bool zb] ∧Rd .u8 w5 y z.length (bf z):=by rw [BR];exact (hS 6 _ rfl).2.1 rfl
    obtain ⟨Ja,BS⟩:∃x,x=a.tmps.getD 57 undef:=⟨_,rfl⟩
    have MN:∃y,Ja=.tuple #[y,.bool zb] ∧Rd .u8 w5 y z.length (bf z):=by rw [BS];exact (hS 7 _ rfl).2.2.1 rfl
    obtain ⟨x65,BQ⟩:∃x,x=a.tmps.getD 65 undef:=⟨_,rfl⟩
    have ML:Rd .u8 w5 x65 z.length (bf z):=by rw [BQ];exact (hS 8 _ rfl).2.2.2.1 rfl
    obtain ⟨Jd,Ca⟩:∃x,x=a.tmps.getD 17 undef:=⟨_,rfl⟩
    have Ko:Rd .u8 w5 Jd z.length (bf z):=by rw [Ca];exact (hS 10 _ rfl).2.2.2.2 rfl
    have ha:=aH rfl rfl hF [_,_,_,_,_,_,x64,Ja,x65,_,Jd,_] rfl ⟨(hS 0 _ rfl).1,(hS 1 _ rfl).1,(hS 2 _ rfl).1,(hS 3 _ rfl).1,(hS 4 _ rfl).1,(hS 5 _ rfl).1,BR.symm,BS.symm,BQ.symm,(hS 9 _ rfl).1,Ca.symm,(hS 11 _ rfl).1,trivial⟩
    simp only [puts,Act.put,List.setIfInBounds_toArray,List.set_cons_succ,List.set_cons_zero] at ha
    subst ha
    clear BR BS BQ Ca
    clear hS hF
    have HP:=Lib.hid Ko
    have c0:=(hB.cell (p:=⟨x3,0,none⟩) yN.out).trans AV.out
    have c1:=(hB.cell (p:=⟨x3,1,none⟩) yN.out).trans ql.out
    have d0:=(hB.cell (p:=⟨x1,0,none⟩) (Nat.lt_trans Ag.out yN.out)).trans HB0.out
    have d1:=(hB.cell (p:=⟨x1,1,none⟩) (Nat.lt_trans Ag.out yN.out)).trans HB1.out
    have B5:=Lib.hid (B4.out.trans (hB.mono B4.out.size))
    have Ld:=Lib.hid (yL _ _ z.length x.length (bf z) (bf x) w5 HP.out (HY.out.below B5.out) MU.out MW.out)
    obtain ⟨az,cz,ez,_⟩:=id HP.out
    rw [ez] at Ld
    clear hB Ko MN ML
    have Om:=Lib.hid HP.out
    subst ez
    by_cases h8:u.1=8
    case neg=>
     have g8:(u.1 !=8)=true:=by simpa using h8
     have HE:Hid (R=22):=Lib.hid (by rw [ji.out,if_neg (fun h=> h8 h.1)])
     clear h8 c1 d0 d1
     go_wp2
     go_ret
     rw [HE.out]
     exact ⟨rfl,B5.out⟩
    have g8:(u.1 !=8)=false:=by simpa using h8
    by_cases h3:t.1=3
    case neg=>
     have g3:(t.1 !=3)=true:=by simpa using h3
     have HE:Hid (R=22):=Lib.hid (by rw [ji.out,if_neg (fun h=> h3 h.2.1)])
     clear h8 h3 c1 d1
     go_wp2
     go_ret
     rw [HE.out]
     exact ⟨rfl,B5.out⟩
    have g3:(t.1 !=3)=false:=by simpa using h3
    by_cases he:t.2.1=u.2.1
    case neg=>
     have ge:(t.2.1 !=u.2.1)=true:=by simpa using he
     have HE:Hid (R=22):=Lib.hid (by rw [ji.out,if_neg (fun h=> he h.2.2.1)])
     clear h8 h3 he
     go_wp2
     go_ret
     rw [HE.out]
     exact ⟨rfl,B5.out⟩
    have ge:(t.2.1 !=u.2.1)=false:=by simpa using he
    cases zb with
    | false=>
     have HE:Hid (R=22):=Lib.hid (by rw [ji.out,if_neg (fun h=> absurd (show false=true from congrArg Prod.snd h.2.2.2) (by decide))])
     clear h8 h3 he
     go_wp2
     go_ret
     rw [HE.out]
     exact ⟨rfl,B5.out⟩
    | true=>
     have HE:Hid (R=if z=x then 0 else 22):=Lib.hid (by
      rw [ji.out]
      by_cases hz:z=x
      ·rw [if_pos hz,if_pos ⟨h8,h3,he,by rw [hz]⟩]
      ·rw [if_neg hz,if_neg fun h=> hz (congrArg Prod.fst h.2.2.2)])
     clear h8 h3 he
     go_wp2_with fail
     refine Ld.out.mono ?_
     rintro e w6 ⟨rfl,b6⟩
     have B6:=Lib.hid (B5.out.trans (b6.mono B5.out.size))
     clear b6
     by_cases hz:z=x
     ·rw [gG.2 hz]
      have HE:Hid (R=0):=Lib.hid (by rw [HE.out,if_pos hz])
      clear hz
      go_wp2
      go_ret
      rw [HE.out]
      exact ⟨rfl,B6.out⟩
     ·rw [Bool.eq_false_iff.2 fun h=> hz (gG.1 h)]
      have HE:Hid (R=22):=Lib.hid (by rw [HE.out,if_neg hz])
      clear hz
      go_wp2
      go_ret
      rw [HE.out]
      exact ⟨rfl,B6.out⟩
theorem qG (h:fO B w p F S) (hb':bg F w v' l') (hx:l'.length≤1000) (hl:S.l.length≤900):Calls Tryz.prog 28 #[.pointer (some ⟨p,0,none⟩),v'] w fun e w'=> ∃u,e=.returned (.tuple #[u,.int .i64 (gB S l').2.1])∧fB B w p F u (gB S l') w':=by
 have HW:=Lib.hid h.which
 have yT:=Lib.hid hb'
 have uS:=Lib.hid h.ok
 obtain ⟨q,G,hq,hF⟩:=h
 have HQ:=Lib.hid hq
 have HF:=Lib.hid hF
 have HL:=Lib.hid hl
 have HX:=Lib.hid hx
 obtain ⟨R,hR⟩:∃x,x=gB S l':=⟨_,rfl⟩
 rw [←hR]
 obtain ⟨a,ha,ha1,ha2,Ct⟩:=oM uS.out l'
 have ji:Hid (R=(bD (dW (S.text l') (10,a,0)).1,0,(S.text l').put (10,a,0))):=Lib.hid (by rw [hR];unfold gB;rw [ha])
 have yR:Hid (dK (S.text l') (10,(a:Int),0)=true):=Lib.hid (BG ha1 Ct)
 have Fq:=Lib.hid ha2
 have HA:=Lib.hid ha
 have yZ:=Lib.hid (gQ S l')
 have cp:=hq.r.cp
 obtain ⟨AL,cv',rfl,_⟩:=hb'.rd
 clear hR hb' hl hq hF hx ha ha1 ha2 Ct
 go_enter Tryz.func28,Tryz.ntmps28
 go_wp2_with fail
 refine HW.out.mono ?_
 rintro e w2 ⟨rfl,rfl⟩
 go_wp2_with fail
 refine (jN HQ.out.st HQ.out.hB l' ⟨yT.out.ok,by have:=HX.out;omega⟩ _ yT.out.rd (fun h c hc hG=> yT.out.off h c hc ((HF.out c).2 (.inr hG))) (by have:=HL.out;omega) (by have:=qx uS.out;have:=HL.out;omega)).mono ?_
 rintro e w3 ⟨rfl,G3,h3,c3,f3⟩
 rw [HA.out]
 have H3:=Lib.hid h3
 have C3:=Lib.hid c3
 have F3:=Lib.hid f3
 have W3:Hid ((S.text l').few):=Lib.hid (HQ.out.few.text l')
 have HR3:=Lib.hid (HQ.out.put h3 c3 f3 W3.out)
 have cp:=HR3.out.r.cp
 clear h3 c3 f3
 have HP:=Lib.hid (lH yR.out)
 have rR:Hid (jT (10,(a:Int),0)):=Lib.hid (lI (by omega) (by have:=Fq.out;have:=HL.out;omega) (by omega))
 go_wp2_with fail
 refine (jo H3.out HR3.out.hB _ rR.out (by have:=yZ.out;have:=HL.out;omega)).mono ?_
 rintro e w4 ⟨rfl,G4,h4,c4,f4⟩
 rw [HP.out.1]
 obtain ⟨X,hX⟩:∃X,X=(dW (S.text l') (10,(a:Int),0)).1:=⟨_,rfl⟩
 rw [←hX] at HP ji ⊢
 have EM:=Lib.hid HP.out.2
 have H4:=Lib.hid h4
 have CC:=Lib.hid (uO C3.out F3.out c4 f4)
 have Ik:Hid (((S.text l').put (10,(a:Int),0)).few):=Lib.hid (W3.out.put (by simp))
 clear hX h4 c4 f4 cp HP
 go_wp2_with fail
 refine (bP X EM.out.1 (by have:=EM.out.2;have:=yZ.out;have:=HL.out;omega) w4).mono ?_
 rintro e w5 ⟨u,rfl,hu,b5⟩
 have HD:=Lib.hid (jO HQ.out HF.out (Below.refl _ _) H4.out CC.out.1 CC.out.2 Ik.out hu b5 0)
 clear hu b5
 go_wp2
 go_ret2
 rw [ji.out]
 exact ⟨_,rfl,HD.out⟩
theorem vE (h:fO B w p F S) (hb':bg F w v' l') (hx:l'.length≤1000) (hl:S.l.length≤900):Calls Tryz.prog 29 #[.pointer (some ⟨p,0,none⟩),v'] w fun e w'=> ∃u,e=.returned (.tuple #[u,.int .i64 (mJ S l').2.1])∧fB B w p F u (mJ S l') w':=by
 have HW:=Lib.hid h.which
 have yT:=Lib.hid hb'
 have uS:=Lib.hid h.ok
 obtain ⟨q,G,hq,hF⟩:=h
 have HQ:=Lib.hid hq
 have HF:=Lib.hid hF
 have HL:=Lib.hid hl
 have HX:=Lib.hid hx
 obtain ⟨R,hR⟩:∃x,x=mJ S l':=⟨_,rfl⟩
 rw [←hR]
 obtain ⟨a,ha,ha1,ha2,Ct⟩:=oM uS.out l'
 have ji:Hid (R=(bD a,0,S.text l')):=Lib.hid (by rw [hR];unfold mJ;rw [ha])
 have Fq:=Lib.hid ha2
 have HA:=Lib.hid ha
 have cp:=hq.r.cp
 obtain ⟨AL,cv',rfl,_⟩:=hb'.rd
 clear hR hb' hl hq hF hx ha ha1 ha2 Ct
 go_enter Tryz.func29,Tryz.ntmps29
 go_wp2_with fail
 refine HW.out.mono ?_
 rintro e w2 ⟨rfl,rfl⟩
 go_wp2_with fail
 refine (jN HQ.out.st HQ.out.hB l' ⟨yT.out.ok,by have:=HX.out;omega⟩ _ yT.out.rd (fun h c hc hG=> yT.out.off h c hc ((HF.out c).2 (.inr hG))) (by have:=HL.out;omega) (by have:=qx uS.out;have:=HL.out;omega)).mono ?_
 rintro e w3 ⟨rfl,G3,h3,c3,f3⟩
 rw [HA.out]
 have H3:=Lib.hid h3
 have C3:=Lib.hid c3
 have F3:=Lib.hid f3
 have W3:Hid ((S.text l').few):=Lib.hid (HQ.out.few.text l')
 clear h3 c3 f3 cp
 go_wp2_with fail
 refine (bP (a:Int) (by omega) (by have:=Fq.out;have:=HL.out;omega) w3).mono ?_
 rintro e w5 ⟨u,rfl,hu,b5⟩
 have HD:=Lib.hid (jO HQ.out HF.out (Below.refl _ _) H3.out C3.out F3.out W3.out hu b5 0)
 clear hu b5
 go_wp2
 go_ret2
 rw [ji.out]
 exact ⟨_,rfl,HD.out⟩
theorem iQ (hq:uR B w p q G S):Calls Tryz.prog 27 #[.pointer (some ⟨p,0,none⟩)] w fun e w'=> e=.returned (.pointer (some ⟨q,0,none⟩))∧w'=w:=by
 have HW:=Lib.hid (aQ hq.r)
 have cp:=hq.r.cp
 clear hq
 go_enter Tryz.func27,Tryz.ntmps27
 go_wp2_with fail
 refine HW.out.mono ?_
 rintro e w1 ⟨rfl,rfl⟩
 go_wp2
 go_ret
 exact ⟨rfl,rfl⟩
end
end Go.Proofs.YtpcjekgfnfjbpaaGreat
namespace Go.aG
open Go.RowKit
abbrev oz:=Int × Int × Int × List Int
structure rP (w:World) (z:Nat→Value) (d:oz):Prop where
 z0:z 0=.int .i64 d.1
 z1:z 1=.int .i64 d.2.1
 z2:z 2=.int .i64 d.2.2.1
 z3:Rd .u8 w (z 3) d.2.2.2.length (bf d.2.2.2)
def tV (w:World) (v:Value) (L:List oz):Prop:=∃q,EK w v L.length 4 q∧∀j d,L[j]? =some d→rP w (q j) d
def zF (d:oz):Prop:=jB d.1∧jB d.2.1∧jB d.2.2.1∧okB d.2.2.2
theorem rP.below {w w':World} {z:Nat→Value} {d:oz} (h:rP w z d) (hb:Below w.heap.size w w'):rP w' z d:=⟨h.z0,h.z1,h.z2,h.z3.below hb⟩
theorem rP.one {w:World} {z:Nat→Value} {d:oz} (h:rP w z d):∀i,i<4→(z i).oneCell'=true:=fun i hi=> by
 rcases (by omega:i=0∨i=1∨i=2∨i=3) with rfl | rfl | rfl | rfl
 ·rw [h.z0];rfl
 ·rw [h.z1];rfl
 ·rw [h.z2];rfl
 ·obtain ⟨a,c,e,_⟩:=h.z3
  rw [e];rfl
def IU (L:List oz):Prop:=L.length≤20∧∀(j:Nat) (d:oz),L[j]? =some d→d.2.2.2.length≤100
def aW (T:List (List Int)) (n:Int):List Int:=if 0≤n∧n<T.length then T.getD n.toNat [] else bD 99
def yY (S:TS) (d:oz) (a b:List Int):TA:=
 if d.1=1 then gI S d.2.1 else if d.1=2 then dJ 2 S a else if d.1=3 then dJ 3 S a else if d.1=4 then fQ 4 S a b else if d.1=5 then fQ 5 S a b
 else if d.1=6 then dJ 6 S a else if d.1=7 then dJ 7 S a else if d.1=8 then kE S a d.2.2.2 else if d.1=9 then mJ S d.2.2.2 else gB S d.2.2.2
end Go.aG
namespace Go.Proofs.YtpcjekgfnfjbpaaGreat
open Go.RowKit Go.aG Go.ChangeShapes Go.Maps
attribute [local go_sem ↓] Go.wp_at_zero Go.wp_at_succ
theorem Tryz.sizeD16:(Tryz.prog.info? 90).map (·.size)=some 4:=by kernel_rfl
section
variable {B : Nat} {w w' w1 w2 w3 : World} {p q : Nat} {F G G' : Nat → Prop} {S S' : TS} {s : Value} {v u v' : Value} {l l' a b : List Int} {T : List (List Int)} {tv : Nat → Value}
theorem EA (v:Value) (L:List oz) (w:World) (h:tV w v L):Calls Tryz.prog 57 #[v] w fun e w'=> ∃r,e=.returned (.bool r)∧(r=true→IU L)∧Below w.heap.size w w':=by
 obtain ⟨q,hq,hd⟩:=h
 obtain ⟨m,hm⟩:∃m,m=L.length:=⟨_,rfl⟩
 rw [←hm] at hq
 obtain ⟨a,cap,rfl,hcap,hcap2,hcell⟩:=hq
 have HD:=Lib.hid hd
 have HC:=Lib.hid hcell
 have HM:=Lib.hid hm
 clear hd hcell hm
 go_enter Tryz.func57,Tryz.ntmps57
 go_wp2
 go_loopw [7] (fun i wr=> ∃k:Nat,k≤m∧i=.int .i64 k∧(∀(j:Nat) (d:oz),j<k→L[j]? =some d→d.2.2.2.length≤100)∧Below w.heap.size w wr) (fun i _=> m - (intOf i).toNat)
 case atStart=> exact ⟨0,Nat.zero_le _,rfl,fun j d hj=> absurd hj (Nat.not_lt_zero _),Below.refl _ _⟩
 case round=>
  obtain ⟨k,hk,rfl,hle,Ka⟩:=hrel
  have HL:=Lib.hid hle
  have Gg:=Lib.hid Ka
  clear hle Ka
  by_cases hlt:k<m
  ·obtain ⟨bb,o,rfl,hbl,hcc⟩:=HC.out (by omega)
   have Gd:Hid (∀i,i<4→wr.cell? ⟨bb,o+k * 4+i,none⟩=some (q k i)):=fun i hi=> (Gg.out.cell (p:=⟨bb,o+k * 4+i,none⟩) hbl).trans (hcc k hlt i hi)
   obtain ⟨d,hd⟩:∃d,L[k]? =some d:=⟨_,List.getElem?_eq_getElem (by rw [←HM.out];exact hlt)⟩
   have za:=Lib.hid (HD.out k d hd)
   have Iw:Hid (∀i,i<4→(q k i).oneCell'=true):=Lib.hid za.out.one
   obtain ⟨ax,cx,e2,_⟩:=za.out.z3
   have HE2:=Lib.hid e2
   have HDK:=Lib.hid hd
   obtain ⟨n5,JB⟩:∃n,n=d.2.2.2.length:=⟨_,rfl⟩
   have La:=Lib.hid JB
   clear hcc e2 hd JB
   go_upto_region 4 with (first | (refine ig rfl rfl rfl Tryz.underlying90 rfl Tryz.sizeD16 Gd.out ?_) | (refine fV rfl 90 _ _ rfl wr.heap.size 4 (q k) _ 90 (heap_alloc_new _ _) rfl Tryz.sizeD16 rfl rfl Iw.out ?_))
   refine aD (fun w4=> nP w4 wr.heap.size 4 90 (q k)∧Below wr.heap.size wr w4) ⟨nP.setRow (heap_alloc_new _ _),aF ((Below.refl _ _).alloc (Nat.le_refl _) _) (Nat.le_refl _) _⟩ ?_
   rintro w4 ⟨hr4,hb4⟩
   have d2:=hr4.2 3 (by decide)
   rw [HE2.out,←La.out] at d2
   have CX:=Lib.hid (Gg.out.trans (hb4.mono Gg.out.size))
   clear hr4 hb4 Gd
   by_cases hgt:n5≤100
   ·have Ma:¬ (100:Int)<(n5:Int):=by omega
    go_wp2
    go_roundw
    case rel=> exact ⟨k+1,by omega,by go_num,fun j d' hj hd'=> by
     by_cases e:j=k
     ·subst e;rw [HDK.out] at hd';cases hd';rw [←La.out];exact hgt
     ·exact HL.out j d' (by omega) hd',CX.out⟩
    case measure=> simp [intOf];omega
   ·have Ma:(100:Int)<(n5:Int):=by omega
    go_wp2
    go_ret
    exact ⟨false,rfl,(fun e=> by cases e),CX.out⟩
  ·obtain rfl:k=m:=by omega
   go_wp2
   go_ret
   refine ⟨_,rfl,fun e=> ⟨?_,fun j d hd=> HL.out j d (by rw [HM.out];exact (List.getElem?_eq_some_iff.1 hd).1) hd⟩,Gg.out⟩
   have:(k:Int)≤20:=by simpa using e
   rw [←HM.out]
   omega
structure yM (F:Nat→Prop) (w:World) (v:Value) (T:List (List Int)) (tv:Nat→Value):Prop where
 os:mW 23 1 w v T.length (fun j _=> tv j)
 bs:∀(j:Nat) (t:List Int),T[j]? =some t→bg F w (tv j) t
theorem yM.below (h:yM F w v T tv) (hb:Below w.heap.size w w'):yM F w' v T tv:=⟨h.os.below hb,fun j t ht=> (h.bs j t ht).below hb⟩
theorem uJ (T:TypeId) (hF:∀b,F b→b<w.heap.size) (x:Int) (hx:x=0∨x=99):bg F (w.alloc (.cells #[.int .u8 247,.int .u8 0,.int .u8 0,.int .u8 0,.int .u8 0,.int .u8 0,.int .u8 0,.int .u8 0,.int .u8 x] T)) (.slice (some ⟨w.heap.size,0,none⟩) 9 9) (bD x):=by
 refine ⟨wE _,?_,fun _ b hb hf=> ?_⟩
 ·rw [bN]
  refine ⟨_,_,rfl,Nat.le_refl _,by decide,(fun h=> by cases h),fun _=> ⟨w.heap.size,0,rfl,by simp,fun i hi=> (cell_of_row _ _ (0+i) _ _ (0,0) (heap_alloc_new w _)).trans ?_⟩⟩
  rw [Nat.zero_add]
  rcases hx with rfl | rfl
  all_goals rcases (by omega:i=0∨i=1∨i=2∨i=3∨i=4∨i=5∨i=6∨i=7∨i=8) with rfl | rfl | rfl | rfl | rfl | rfl | rfl | rfl | rfl<;> kernel_rfl
 ·obtain rfl:w.heap.size=b:=by simpa [Value.ownBlock] using hb
  exact absurd (hF _ hf) (Nat.lt_irrefl _)
theorem wV (h:yM F w v T tv) (hF:∀b,F b→b<w.heap.size) (n:Int):Calls Tryz.prog 58 #[v,.int .i64 n] w fun e w'=> ∃u,e=.returned u∧bg F w' u (aW T n)∧Below w.heap.size w w':=by
 obtain ⟨av,cv,rfl,_⟩:=h.os.m.slice
 have HL:=Lib.hid (fun (w:World) (h:∀b,F b→b<w.heap.size)=> uJ (w:=w) 5 h 99 (.inr rfl))
 have HF:=Lib.hid hF
 obtain ⟨R,hR⟩:∃R,R=aW T n:=⟨_,rfl⟩
 rw [←hR]
 by_cases h0:n<0
 ·have q1:decide (n<0)=true:=decide_eq_true h0
  have HE:Hid (R=bD 99):=Lib.hid (by rw [hR];unfold aW;rw [if_neg (by omega)])
  clear hR h h0 hF
  go_enter Tryz.func58,Tryz.ntmps58
  go_wp2
  go_ret
  rw [HE.out]
  exact ⟨_,rfl,HL.out _ HF.out,(Below.refl _ _).alloc (Nat.le_refl _) _⟩
 ·obtain ⟨k,rfl⟩:=Int.eq_ofNat_of_zero_le (show 0≤n by omega)
  have q1:decide ((k:Int)<0)=false:=decide_eq_false h0
  by_cases hlt:k<T.length
  ·obtain ⟨t,ht⟩:∃t,T[k]? =some t:=⟨_,List.getElem?_eq_getElem hlt⟩
   obtain ⟨g2,cap2,Mr,_,_,_,hcg⟩:=h.os.m.form (by omega)
   cases Mr
   have zr:=hcg k hlt 0 (by decide)
   rw [Nat.mul_one,Nat.add_zero] at zr
   have HB:=Lib.hid (h.bs k t ht)
   have HE:Hid (R=t):=Lib.hid (by rw [hR];unfold aW;rw [if_pos ⟨by omega,by omega⟩,Int.toNat_natCast,List.getD_eq_getElem?_getD,ht];rfl)
   have q2:¬ T.length≤k:=by omega
   have q3:(k:Int)<(T.length:Int):=by omega
   obtain ⟨X,hX⟩:∃X,X=tv k:=⟨_,rfl⟩
   rw [←hX] at zr HB
   obtain ⟨ax,cx,ex,_⟩:=id HB.out.rd
   have Nz:=Lib.hid ex
   rw [ex] at zr
   clear hR h h0 hcg hX hF ex ht
   go_enter Tryz.func58,Tryz.ntmps58
   go_wp2
   go_ret
   rw [HE.out]
   exact ⟨_,rfl,Nz.out▸HB.out,Below.refl _ _⟩
  ·have HE:Hid (R=bD 99):=Lib.hid (by rw [hR];unfold aW;rw [if_neg (by omega)])
   have q2:T.length≤k:=by omega
   clear hR h h0 hlt hF
   go_enter Tryz.func58,Tryz.ntmps58
   go_wp2
   go_ret
   rw [HE.out]
   exact ⟨_,rfl,HL.out _ HF.out,(Below.refl _ _).alloc (Nat.le_refl _) _⟩
theorem fB.pre {r:TA} (h:fB B w1 p F u r w') (hb:Below w.heap.size w w1):fB B w p F u r w':=by
 obtain ⟨F',h1,h2,h3,h4⟩:=h
 exact ⟨F',h1,h2,(aZ.of_below hb F).trans h3 fun _ _ h=> h,fun b hb'=> (h4 b hb').imp id fun h=> Nat.le_trans hb.size h⟩
theorem yx (h:fO B w p F S) (d:oz) (hd:jB d.1) {z:Nat→Value} (hz:rP w z d) (hx:bg F w (z 3) d.2.2.2) (hx1:d.2.2.2.length≤1000) (ha:bg F w v a) (hb:bg F w v' b) (hl:S.l.length≤900):
  Calls Tryz.prog 60 #[.pointer (some ⟨p,0,none⟩),.agg (cB 4 z),v,v'] w fun e w'=> ∃u,e=.returned (.tuple #[u,.int .i64 (yY S d a b).2.1])∧fB B w p F u (yY S d a b) w':=by
 obtain ⟨k,A,C,x⟩:=d
 simp only at hd hx hx1
 have HM:=Lib.hid h
 have HX:=Lib.hid hx
 have Ah:=Lib.hid hx1
 have HA:=Lib.hid ha
 have HB:=Lib.hid hb
 have HL:=Lib.hid hl
 have HZ0:Hid (z 0=.int .i64 k):=Lib.hid hz.z0
 have HZ1:Hid (z 1=.int .i64 A):=Lib.hid hz.z1
 obtain ⟨ax,cx,ex,_⟩:=id hx.rd
 have HZ3:=Lib.hid ex
 obtain ⟨R,hR⟩:∃R,R=yY S (k,A,C,x) a b:=⟨_,rfl⟩
 rw [←hR]
 have HR:=Lib.hid hR
 obtain ⟨V,hV⟩:∃V,V=Value.agg (cB 4 z):=⟨_,rfl⟩
 rw [←hV]
 have HV:=Lib.hid hV
 obtain ⟨va,ca,rfl,_⟩:=ha.rd
 obtain ⟨vb,cb,rfl,_⟩:=hb.rd
 clear h hz hx hx1 ha hb hl hR hV ex hd
 go_enter Tryz.func60,Tryz.ntmps60
 go_upto_region 1 with (fail)
 refine aD (fun w1=> w1.cell? ⟨w.heap.size,0,none⟩=some (.int .i64 k)∧w1.cell? ⟨w.heap.size,1,none⟩=some (.int .i64 A)∧w1.cell? ⟨w.heap.size,3,none⟩=some (.slice ax x.length cx)∧Below w.heap.size w w1) ?_ ?_
 ·rw [HV.out]
  exact ⟨(cell_of_row _ _ 0 _ _ (0,0) (heap_alloc_new w _)).trans ((gX (by decide)).trans (congrArg some HZ0.out)),(cell_of_row _ _ 1 _ _ (0,0) (heap_alloc_new w _)).trans ((gX (by decide)).trans (congrArg some HZ1.out)),
   (cell_of_row _ _ 3 _ _ (0,0) (heap_alloc_new w _)).trans ((gX (by decide)).trans (congrArg some HZ3.out)),(Below.refl _ _).alloc (Nat.le_refl _) _⟩
 rintro w1 ⟨c0,c1,c3,b1⟩
 have B1:=Lib.hid b1
 have M1:=Lib.hid (HM.out.below b1)
 have A1:=Lib.hid (HA.out.below b1)
 have Y1:=Lib.hid (HB.out.below b1)
 have X1:=Lib.hid (HX.out.below b1)
 rw [HZ3.out] at X1
 obtain ⟨x1,hx1⟩:∃x,x=w.heap.size:=⟨_,rfl⟩
 rw [←hx1] at c0 c1 c3 ⊢
 clear b1 hx1
 have FIN:Hid (∀(r:TA) (u:Value) (w':World),R=r→fB B w1 p F u r w'→(r.2.1=R.2.1∧fB B w p F u R w')):=Lib.hid fun r u w' e h=> by rw [e];exact ⟨rfl,h.pre B1.out⟩
 by_cases hk:k=1
 ·subst hk
  have HE:Hid (R=gI S A):=Lib.hid HR.out
  clear c3
  go_wp2_with fail
  refine (nW M1.out A HL.out).mono ?_
  rintro e w2 ⟨u,rfl,hu⟩
  obtain ⟨g1,g2⟩:=FIN.out _ _ _ HE.out hu
  rw [g1]
  have G2:=Lib.hid g2
  clear hu g1 g2
  go_wp2
  go_ret2
  exact ⟨_,rfl,G2.out⟩
 have q1:(k==1)=false:=by simpa using hk
 have r1:¬ k=1:=hk
 clear hk
 by_cases hk:k=2
 ·subst hk
  have HE:Hid (R=dJ 2 S a):=Lib.hid HR.out
  clear c1 c3
  go_wp2_with fail
  refine (qE M1.out A1.out HL.out).mono ?_
  rintro e w2 ⟨u,rfl,hu⟩
  obtain ⟨g1,g2⟩:=FIN.out _ _ _ HE.out hu
  rw [g1]
  have G2:=Lib.hid g2
  clear hu g1 g2
  go_wp2
  go_ret2
  exact ⟨_,rfl,G2.out⟩
 have q2:(k==2)=false:=by simpa using hk
 have r2:¬ k=2:=hk
 clear hk
 by_cases hk:k=3
 ·subst hk
  have HE:Hid (R=dJ 3 S a):=Lib.hid HR.out
  clear c1 c3
  go_wp2_with fail
  refine (nu M1.out A1.out HL.out).mono ?_
  rintro e w2 ⟨u,rfl,hu⟩
  obtain ⟨g1,g2⟩:=FIN.out _ _ _ HE.out hu
  rw [g1]
  have G2:=Lib.hid g2
  clear hu g1 g2
  go_wp2
  go_ret2
  exact ⟨_,rfl,G2.out⟩
 have q3:(k==3)=false:=by simpa using hk
 have r3:¬ k=3:=hk
 clear hk
 by_cases hk:k=4
 ·subst hk
  have HE:Hid (R=fQ 4 S a b):=Lib.hid HR.out
  clear c1 c3
  go_wp2_with fail
  refine (uZ M1.out A1.out Y1.out HL.out).mono ?_
  rintro e w2 ⟨u,rfl,hu⟩
  obtain ⟨g1,g2⟩:=FIN.out _ _ _ HE.out hu
  rw [g1]
  have G2:=Lib.hid g2
  clear hu g1 g2
  go_wp2
  go_ret2
  exact ⟨_,rfl,G2.out⟩
 have q4:(k==4)=false:=by simpa using hk
 have r4:¬ k=4:=hk
 clear hk
 by_cases hk:k=5
 ·subst hk
  have HE:Hid (R=fQ 5 S a b):=Lib.hid HR.out
  clear c1 c3
  go_wp2_with fail
  refine (vB M1.out A1.out Y1.out HL.out).mono ?_
  rintro e w2 ⟨u,rfl,hu⟩
  obtain ⟨g1,g2⟩:=FIN.out _ _ _ HE.out hu
  rw [g1]
  have G2:=Lib.hid g2
  clear hu g1 g2
  go_wp2
  go_ret2
  exact ⟨_,rfl,G2.out⟩
 have q5:(k==5)=false:=by simpa using hk
 have r5:¬ k=5:=hk
 clear hk
 by_cases hk:k=6
 ·subst hk
  have HE:Hid (R=dJ 6 S a):=Lib.hid HR.out
  clear c1 c3
  go_wp2_with fail
  refine (vw M1.out A1.out HL.out).mono ?_
  rintro e w2 ⟨u,rfl,hu⟩
  obtain ⟨g1,g2⟩:=FIN.out _ _ _ HE.out hu
  rw [g1]
  have G2:=Lib.hid g2
  clear hu g1 g2
  go_wp2
  go_ret2
  exact ⟨_,rfl,G2.out⟩
 have q6:(k==6)=false:=by simpa using hk
 have r6:¬ k=6:=hk
 clear hk
 by_cases hk:k=7
 ·subst hk
  have HE:Hid (R=dJ 7 S a):=Lib.hid HR.out
  clear c1 c3
  go_wp2_with fail
  refine (vC M1.out A1.out HL.out).mono ?_
  rintro e w2 ⟨u,rfl,hu⟩
  obtain ⟨g1,g2⟩:=FIN.out _ _ _ HE.out hu
  rw [g1]
  have G2:=Lib.hid g2
  clear hu g1 g2
  go_wp2
  go_ret2
  exact ⟨_,rfl,G2.out⟩
 have q7:(k==7)=false:=by simpa using hk
 have r7:¬ k=7:=hk
 clear hk
 by_cases hk:k=8
 ·subst hk
  have HE:Hid (R=kE S a x):=Lib.hid HR.out
  clear c1
  go_wp2_with fail
  refine (vg M1.out A1.out X1.out Ah.out HL.out).mono ?_
  rintro e w2 ⟨u,rfl,hu⟩
  obtain ⟨g1,g2⟩:=FIN.out _ _ _ HE.out hu
  rw [g1]
  have G2:=Lib.hid g2
  clear hu g1 g2
  go_wp2
  go_ret2
  exact ⟨_,rfl,G2.out⟩
 have q8:(k==8)=false:=by simpa using hk
 have r8:¬ k=8:=hk
 clear hk
 by_cases hk:k=9
 ·subst hk
  have HE:Hid (R=mJ S x):=Lib.hid HR.out
  clear c1
  go_wp2_with fail
  refine (vE M1.out X1.out Ah.out HL.out).mono ?_
  rintro e w2 ⟨u,rfl,hu⟩
  obtain ⟨g1,g2⟩:=FIN.out _ _ _ HE.out hu
  rw [g1]
  have G2:=Lib.hid g2
  clear hu g1 g2
  go_wp2
  go_ret2
  exact ⟨_,rfl,G2.out⟩
 have q9:(k==9)=false:=by simpa using hk
 have r9:¬ k=9:=hk
 clear hk
 have HE:Hid (R=gB S x):=Lib.hid (by rw [HR.out];unfold yY;simp only [if_neg r1,if_neg r2,if_neg r3,if_neg r4,if_neg r5,if_neg r6,if_neg r7,if_neg r8,if_neg r9])
 clear r1 r2 r3 r4 r5 r6 r7 r8 r9 c1
 go_wp2_with fail
 refine (qG M1.out X1.out Ah.out HL.out).mono ?_
 rintro e w2 ⟨u,rfl,hu⟩
 obtain ⟨g1,g2⟩:=FIN.out _ _ _ HE.out hu
 rw [g1]
 have G2:=Lib.hid g2
 clear hu g1 g2
 go_wp2
 go_ret2
 exact ⟨_,rfl,G2.out⟩
end
end Go.Proofs.YtpcjekgfnfjbpaaGreat
namespace Go.aG
open Go.RowKit Go.ChangeShapes Go.WideShapes Go.ChangeAt
section
variable {H : Type} {enc : TypeId × Value → H} {P : Program} {w : World} {base : Nat} {spare : Nat → Bool} {held : Bool}
theorem oJ {t:TypeId} {f0 f1 f2 f3:Field} {fuel:Nat} {cs:List Value} {x:DataW H × List MemPlace} (ht:P.underlying t=some (.struct #[f0,f1,f2,f3])) (h:DataW.trod enc P w base spare held fuel t cs=some x):
  ∃y0 y1 y2 y3 n,DataW.trod enc P w base spare held n f0.type ((cs.drop f0.offset).take (P.cellsOf f0.type))=some y0∧
   DataW.trod enc P w base spare held n f1.type ((cs.drop f1.offset).take (P.cellsOf f1.type))=some y1∧DataW.trod enc P w base spare held n f2.type ((cs.drop f2.offset).take (P.cellsOf f2.type))=some y2∧DataW.trod enc P w base spare held n f3.type ((cs.drop f3.offset).take (P.cellsOf f3.type))=some y3:=by
 obtain ⟨xs,n,_,rfl,hl,hlen,hf⟩:=DataW.trod_struct ht h
 match xs,hlen with
 | [y0,y1,y2,y3],_=> exact ⟨y0,y1,y2,y3,n,by simpa using hf 0 f0 rfl,by simpa using hf 1 f1 rfl,by simpa using hf 2 f2 rfl,by simpa using hf 3 f3 rfl⟩
theorem vK {t e:TypeId} {f0 f1 f2 f3:Field} {eb:TypeId} {v:Value} {d:DataW H} {p:List MemPlace} (ht:P.underlying t=some (.slice e)) (he:P.underlying e=some (.struct #[f0,f1,f2,f3])) (hc:P.cellsOf e=4)
  (ho:(f0.offset,f1.offset,f2.offset,f3.offset)=(0,1,2,3)) (hk:(P.cellsOf f0.type,P.cellsOf f1.type,P.cellsOf f2.type,P.cellsOf f3.type)=(1,1,1,1))
  (h0:P.underlying f0.type=some (.int .i64)) (h1:P.underlying f1.type=some (.int .i64)) (h1':P.underlying f2.type=some (.int .i64)) (h2:P.underlying f3.type=some (.slice eb)) (h3:P.underlying eb=some (.int .u8)) (h4:P.cellsOf eb=1)
  {b0:Nat} (hv:Value.okWide P w .any b0 t v) (h:DataW.Trod enc P w base spare held t v d p):
  ∃L:List oz,tV w v L∧∀(j:Nat) (d:oz),L[j]? =some d→zF d:=by
 obtain ⟨m,q,hq,htr⟩:=wZ ht hc (by decide) hv h
 simp only [Prod.mk.injEq] at ho hk
 have each:∀j,j<m→∃d:oz,rP w (q j) d∧zF d:=by
  intro j hj
  obtain ⟨fuel,y,hy⟩:=htr j hj
  obtain ⟨y0,y1,y2,y3,n',e0,e1,e2,e3⟩:=oJ he hy
  rw [ho.1,hk.1] at e0
  rw [ho.2.1,hk.2.1] at e1
  rw [ho.2.2.1,hk.2.2.1] at e2
  rw [ho.2.2.2,hk.2.2.2] at e3
  obtain ⟨k,hk0,_,wk⟩:=DataW.trod_int h0 e0
  obtain ⟨n,hn0,_,wn⟩:=DataW.trod_int h1 e1
  obtain ⟨a,ha0,_,wa⟩:=DataW.trod_int h1' e2
  obtain ⟨u,l,f,hu,hr,hb⟩:=uj h2 h3 h4 e3
  simp [List.range_succ] at hk0 hn0 hu ha0
  subst hu
  refine ⟨(k,n,a,(List.range l).map f),⟨hk0,hn0,ha0,?_⟩,bounds_i64 wk,bounds_i64 wn,bounds_i64 wa,fun x hx=> ?_⟩
  ·show Rd .u8 w (q j 3) ((List.range l).map f).length (bf ((List.range l).map f))
   rw [List.length_map,List.length_range]
   refine hr.congr fun i hi=> ?_
   unfold bf
   rw [List.getD_eq_getElem?_getD,List.getElem?_map,List.getElem?_range hi]
   rfl
  ·obtain ⟨i,hi,rfl⟩:=List.mem_map.1 hx
   have:=bounds_u8 (hb i (List.mem_range.1 hi))
   omega
 classical
 refine ⟨(List.range m).map fun j=> if h:j<m then Classical.choose (each j h) else default,⟨q,by rw [List.length_map,List.length_range];exact hq,fun j d hd=> ?_⟩,fun j d hd=> ?_⟩
 all_goals rw [List.getElem?_map] at hd
 all_goals by_cases hj:j<m
 ·rw [List.getElem?_range hj,Option.map_some,dif_pos hj] at hd
  cases hd
  exact (Classical.choose_spec (each j hj)).1
 ·rw [List.getElem?_eq_none (by simp;omega)] at hd
  cases hd
 ·rw [List.getElem?_range hj,Option.map_some,dif_pos hj] at hd
  cases hd
  exact (Classical.choose_spec (each j hj)).2
 ·rw [List.getElem?_eq_none (by simp;omega)] at hd
  cases hd
end
end Go.aG
