/-
  Part 27 of the texts that the proof of EscrowWrong rests on, one after the other. Conditions: named in each theorem.
-/
import Derived.Test.YtpcjekgfnfjbpaaGreatPkEscrowWrong22
import Derived.Test.YtpcjekgfnfjbpaaGreatPkEscrowWrong24
import Derived.Test.YtpcjekgfnfjbpaaGreatPkEscrowWrong25
import Derived.Test.YtpcjekgfnfjbpaaGreatPkEscrowWrong26
set_option linter.unusedVariables false
set_option linter.unusedSimpArgs false
set_option maxRecDepth 100000
set_option maxHeartbeats 6400000
namespace Go.Proofs.YtpcjekgfnfjbpaaGreat
open Go.RowKit Go.aG Go.ChangeShapes Go.Maps
attribute [local go_sem ↓] Go.wp_at_zero Go.wp_at_succ
section
variable {B : Nat} {w w' w1 w2 w3 : World} {p q : Nat} {F G G' : Nat → Prop} {S S' : TS} {kd n : Int} {sd : Nat → Int} {s : Value} {v u v' : Value} {l l' : List Int}
theorem fF (h:fA B w p F S) (hb:aT F w v l) (hb':aT F w v' l') (hl:S.l.length≤1000):Calls Tryz.prog 22 #[.pointer (some ⟨p,0,none⟩),v,v'] w fun e w'=> ∃u,e=.returned (.tuple #[u,.int .i64 (aO S l l').2])∧aT F w' u (aO S l l').1∧Below w.heap.size w w':=by
 have HW:=Lib.hid h.which
 obtain ⟨q,G,hq,hF⟩:=id h
 have HQ:=Lib.hid hq
 have HO:=Lib.hid (fG h hb (by omega))
 have Df:=Lib.hid (fun w1 (b1:Below w.heap.size w w1)=> fG (h.below b1) (hb'.below b1) (by omega))
 have qO:=Lib.hid hb.ok
 have Aw:=Lib.hid hb'.ok
 have Kc:=Lib.hid h.ok
 have eB:Hid (∀b,F b→b<w.heap.size):=Lib.hid fun b hb=> h.lt hb
 have HL:=Lib.hid hl
 obtain ⟨R,hR⟩:∃x,x=aO S l l':=⟨_,rfl⟩
 rw [←hR]
 have HR:=Lib.hid hR
 obtain ⟨av,cv,rfl,_⟩:=hb.rd
 obtain ⟨DY,cv',rfl,_⟩:=hb'.rd
 clear hR h hb hb' hl hq hF
 go_enter Tryz.func22,Tryz.ntmps22
 go_wp2_with fail
 refine HW.out.mono ?_
 rintro e w0 ⟨rfl,rfl⟩
 go_wp2_with fail
 refine HO.out.mono ?_
 rintro e w1 ⟨rfl,b1⟩
 have B1:=Lib.hid b1
 clear b1
 obtain ⟨A,hA⟩:∃x,x=kR S l:=⟨_,rfl⟩
 rw [←hA]
 have HA:=Lib.hid hA
 clear hA
 go_upto_region 9 with (fail)
 refine aI (fun w2=> Below w0.heap.size w0 w2) (B1.out.alloc B1.out.size _) ?_
 rintro w2 b2
 have B2:=Lib.hid b2
 clear b2
 go_wp2_with fail
 refine (Df.out w2 B2.out).mono ?_
 rintro e w3 ⟨rfl,b3⟩
 have B3:=Lib.hid (B2.out.trans (b3.mono B2.out.size))
 clear b3
 obtain ⟨C,hC⟩:∃x,x=kR S l':=⟨_,rfl⟩
 rw [←hC]
 have HC:=Lib.hid hC
 clear hC
 go_upto_region 10 with (fail)
 refine aI (fun w4=> w4.cell? ⟨w3.heap.size,0,none⟩=some (.int .i64 C.2.1.1)∧w4.cell? ⟨w3.heap.size,1,none⟩=some (.int .i64 C.2.1.2.1)∧w4.cell? ⟨w3.heap.size,2,none⟩=some (.int .i64 C.2.1.2.2)∧Below w0.heap.size w0 w4) ⟨cell_of_row _ _ 0 _ _ (0,0) (heap_alloc_new w3 _),cell_of_row _ _ 1 _ _ (0,0) (heap_alloc_new w3 _),cell_of_row _ _ 2 _ _ (0,0) (heap_alloc_new w3 _),B3.out.alloc B3.out.size _⟩ ?_
 rintro w4 ⟨c0,c1,c2,b4⟩
 have B4:=Lib.hid b4
 clear b4
 cases hm:bC S l with
 | none=>
  have HE:Hid (R=([],11)):=Lib.hid (by rw [HR.out];unfold aO;rw [hm])
  obtain rfl:A=(0,(0,0,0),11):=HA.out.trans (oJ hm)
  clear hm HA c0 c1 c2
  go_wp2
  go_ret2
  rw [HE.out]
  exact ⟨_,rfl,aT.nil _ _,B4.out⟩
 | some n=>
  have HM:=Lib.hid hm
  have HN:=Lib.hid (cZ qO.out hm)
  obtain ⟨t,ht⟩:∃t,t=dx S.l n:=⟨_,rfl⟩
  obtain rfl:A=((n:Int),t,0):=HA.out.trans (ht▸oI hm)
  clear hm HA ht
  cases hm:bC S l' with
  | none=>
   have HE:Hid (R=([],11)):=Lib.hid (by rw [HR.out];unfold aO;rw [HM.out,hm])
   obtain rfl:C=(0,(0,0,0),11):=HC.out.trans (oJ hm)
   clear hm HC c0 c1 c2
   go_wp2
   go_ret2
   rw [HE.out]
   exact ⟨_,rfl,aT.nil _ _,B4.out⟩
  | some m=>
   have Dl:=Lib.hid (cZ Aw.out hm)
   have wX:Hid (R=if lQ S m=4∧(jh S (dx S.l m).2.1).1.2.1=n then (aR (dx S.l m).2.2,0) else ([],20)):=Lib.hid (by rw [HR.out];unfold aO;rw [HM.out,hm])
   have HB:=Lib.hid (fun hk=> rO Kc.out Dl.out hk)
   obtain rfl:C=((m:Int),dx S.l m,0):=HC.out.trans (oI hm)
   have hkd:lQ S m=(dx S.l m).1:=rfl
   rw [hkd] at wX HB
   obtain ⟨u,hu⟩:∃t,t=dx S.l m:=⟨_,rfl⟩
   rw [←hu] at wX HB c0 c1 c2 ⊢
   have HG:=Lib.hid (fun w' (b:Below w0.heap.size w0 w')=> nV (HQ.out.st.below b) u.2.1)
   obtain ⟨z,hz⟩:∃z,z=(jh S u.2.1).1:=⟨_,rfl⟩
   obtain ⟨zb,hzb⟩:∃z,z=(jh S u.2.1).2:=⟨_,rfl⟩
   rw [←hz,←hzb] at HG
   rw [←hz] at wX
   have cp:=(HQ.out.r.below B4.out).cp
   have yU:=Lib.hid cp
   have IU:=Lib.hid c0
   have yX:=Lib.hid c1
   have yV:=Lib.hid c2
   have Bo:Hid (p<w4.heap.size):=Lib.hid (Nat.lt_of_lt_of_le HQ.out.r.row.lt B4.out.size)
   have wU:Hid (w3.heap.size<w4.heap.size):=Lib.hid (World.block_lt_of_cell? _ _ c0)
   clear hm HC hkd hu hz hzb c0 c2
   obtain ⟨x3,hx3⟩:∃x,x=w3.heap.size:=⟨_,rfl⟩
   rw [←hx3] at IU yX yV wU c1 ⊢
   clear hx3
   go_upto_region 12 with (fail)
   refine ow (n:=81) (by kernel_rfl) (by kernel_rfl) (by kernel_rfl) rfl
    (uY [(11,10)]) (lJ [(11,10)]) (fun _=> arr .i64 3 (tf (0,0,0))) (fun _=> (arr .i64 3 (tf z))) (fun _=> 96) (fun _=> 16)
    (fun ii vv _=> (match ii with | 0 | 1=> vv=.pointer (some ⟨p,0,none⟩) | 2=> vv=.pointer (some ⟨p,34,none⟩) | 3=> vv=.pointer (some ⟨q,0,none⟩) | 4=> vv=.pointer (some ⟨x3,1,none⟩) | 5=> vv=.int .i64 (u.2.1) | 6 | 7=> vv=.tuple #[.agg (arr .i64 3 (tf z)),.bool zb] | 8=> vv=.agg (arr .i64 3 (tf z)) | 9 | 12=> vv=.bool zb | _=> True)) (fun _ _=> True) (fun _ _ _=> trivial) (fun _ _ _ _ _ _ _=> trivial) (fun _ _ _ _ h _=> h)
    (BH rfl) (zf rfl) ?_ ?_ ?_ ?_
   ·refine Each.all ?_
    refine ⟨?_,?_,?_,?_,?_,?_,?_,?_,?_,?_,(fun h=> by cases h),(fun _ h=> by cases h),?_,trivial⟩
    ·intro _ _ a w2 hB hF hd
     rw [if_pos (ay rfl)]
     exact aD _ (.inl rfl) (by simp) (hF.same 0 rfl)
    ·intro _ _ a w2 hB hF hd
     rw [if_pos (ay rfl)]
     exact aA (fun h=> by cases h) (mH rfl (hd 0 _ rfl rfl rfl (aj rfl))) rfl
    ·intro _ _ a w2 hB hF hd
     rw [if_pos (ay rfl)]
     refine aA (fun h=> by cases h) (aM (m:=0) (k:=34) rfl (hd 1 _ rfl rfl rfl (aj rfl)) (by kernel_rfl)) ?_
     exact rfl
    ·intro _ _ a w2 hB hF hd
     rw [if_pos (ay rfl)]
     exact aA (fun h=> by cases h) (oh rfl (hd 2 _ rfl rfl rfl (aj rfl)) Tryz.underlying43 ((hB.cell (p:=⟨p,34,none⟩) Bo.out).trans yU.out)) rfl
    ·intro _ _ a w2 hB hF hd
     rw [if_pos (ay rfl)]
     refine aA (fun h=> by cases h) (aM (m:=0) (k:=1) rfl (hF.same 14 rfl) (by kernel_rfl)) ?_
     exact rfl
    ·intro _ _ a w2 hB hF hd
     rw [if_pos (ay rfl)]
     exact aA (fun h=> by cases h) (bN rfl (hd 4 _ rfl rfl rfl (aj rfl)) Tryz.underlying3 ((hB.cell (p:=⟨x3,1,none⟩) wU.out).trans yX.out)) rfl
    ·intro _ _ a w2 hB hF hd
     rw [if_pos (ay rfl)]
     refine bT _ _ _ rfl Tryz.call61 _ (args2 (hd 3 _ rfl rfl rfl (aj rfl)) (hd 5 _ rfl rfl rfl (aj rfl))) (by simp) ((HG.out w2 (B4.out.trans (hB.mono B4.out.size))).mono ?_)
     rintro e w3 ⟨rfl,hb⟩;exact ⟨_,rfl,rfl,hb⟩
    ·intro _ _ a w2 hB hF hd
     rw [if_pos (ay rfl)]
     exact aD _ (.inl rfl) (by simp) (hd 6 _ rfl rfl rfl (aj rfl))
    ·intro _ _ a w2 hB hF hd
     rw [if_pos (ay rfl)]
     exact aA (fun h=> by cases h) (bD rfl (hd 7 _ rfl rfl rfl (aj rfl)) rfl) rfl
    ·intro _ _ a w2 hB hF hd
     rw [if_pos (ay rfl)]
     exact aA (fun h=> by cases h) (bD rfl (hd 7 _ rfl rfl rfl (aj rfl)) rfl) rfl
    ·intro _ _ a w2 hB hF hd
     rw [if_pos (ay rfl)]
     exact aD _ (.inr rfl) (by simp) (hd 9 _ rfl rfl rfl (aj rfl))
   ·refine Each.all ?_
    refine ⟨(fun h=> by cases h),(fun h=> by cases h),(fun h=> by cases h),(fun h=> by cases h),(fun h=> by cases h),(fun h=> by cases h),(fun h=> by cases h),(fun h=> by cases h),(fun h=> by cases h),(fun h=> by cases h),?_,(fun h=> by cases h),(fun h=> by cases h),trivial⟩
    ·exact fun _=> ⟨rfl,rfl,fun a w2 K h=> qI rfl rfl Tryz.zeroValue96 (by simp) h⟩
   ·refine Each.all ?_
    refine ⟨(fun _ h=> by cases h),(fun _ h=> by cases h),(fun _ h=> by cases h),(fun _ h=> by cases h),(fun _ h=> by cases h),(fun _ h=> by cases h),(fun _ h=> by cases h),(fun _ h=> by cases h),(fun _ h=> by cases h),(fun _ h=> by cases h),(fun _ h=> by cases h),?_,(fun _ h=> by cases h),trivial⟩
    ·intro p hp
     obtain rfl:10=p:=Option.some.inj hp
     exact ⟨rfl,rfl,⟨_,rfl⟩,aj rfl,fun a w2 b K hB hF hd hx hb h=> vG rfl rfl Tryz.size96 hx (hd 8 _ rfl rfl rfl (aj rfl)) hb h⟩
   ·intro a w5 blk hB hF hS hv hfin EX
    obtain ⟨v10,Ev,Eu⟩:=hv 10 _ rfl rfl
    have ha:=aX rfl rfl hF [_,_,_,_,_,_,_,_,_,_,_,undef,_] rfl ⟨hS 0 _ rfl rfl rfl,hS 1 _ rfl rfl rfl,hS 2 _ rfl rfl rfl,hS 3 _ rfl rfl rfl,hS 4 _ rfl rfl rfl,hS 5 _ rfl rfl rfl,hS 6 _ rfl rfl rfl,hS 7 _ rfl rfl rfl,hS 8 _ rfl rfl rfl,hS 9 _ rfl rfl rfl,v10,trivial,hS 12 _ rfl rfl rfl,trivial⟩
    have f10:=hfin 11 _ 10 rfl rfl
    simp only [puts,Act.put,List.setIfInBounds_toArray,List.set_cons_succ,List.set_cons_zero] at ha
    subst ha
    have FD:dH .i64 w5 (blk 10) 3 (tf z):=⟨_,f10⟩
    clear hS hv hfin EX hF v10 f10
    obtain ⟨xg,hxg⟩:∃x,x=blk 10:=⟨_,rfl⟩
    rw [←hxg] at FD ⊢
    have cg:=FD.cell 1 (by decide)
    have B5:=Lib.hid (B4.out.trans (hB.mono B4.out.size))
    have c0:=(hB.cell (p:=⟨x3,0,none⟩) wU.out).trans IU.out
    have c2:=(hB.cell (p:=⟨x3,2,none⟩) wU.out).trans yV.out
    have hz1:tf z 1=z.2.1:=rfl
    rw [hz1] at cg
    clear hB hz1 hxg FD Ev Eu c1
    by_cases hk:u.1=4
    ·have hk':(u.1 !=4)=false:=by simpa using hk
     by_cases hn:z.2.1=n
     ·have hn':(z.2.1 !=(n:Int))=false:=by simpa using hn
      obtain ⟨b,hb1,hb2⟩:=HB.out (.inl hk)
      have wS:=Lib.hid hb2
      have HE:Hid (R=(aR (b:Int),0)):=Lib.hid (by rw [wX.out,if_pos ⟨hk,hn⟩,hb1])
      rw [hb1] at c2
      clear hk hn hb1 hb2
      go_wp2_with fail
      refine (eO (b:Int) (by omega) (by have:=wS.out;have:=Dl.out;have:=HL.out;omega) w5).mono ?_
      rintro e w6 ⟨x,rfl,hx,b6⟩
      have HX:=Lib.hid (aT.own hx (gH (n:=1) (m:=8) (fun _ _=> by decide) fun i _=> qx _ i) fun b hb=> Nat.lt_of_lt_of_le (eB.out b hb) B5.out.size)
      have B6:=Lib.hid (B5.out.trans (b6.mono B5.out.size))
      clear hx b6
      go_wp2
      go_ret2
      rw [HE.out]
      exact ⟨_,rfl,HX.out,B6.out⟩
     ·have hn':(z.2.1 !=(n:Int))=true:=by simpa using hn
      have HE:Hid (R=([],20)):=Lib.hid (by rw [wX.out,if_neg (fun h=> hn h.2)])
      clear hk hn
      go_wp2
      go_ret2
      rw [HE.out]
      exact ⟨_,rfl,aT.nil _ _,B5.out⟩
    ·have hk':(u.1 !=4)=true:=by simpa using hk
     have HE:Hid (R=([],20)):=Lib.hid (by rw [wX.out,if_neg (fun h=> hk h.1)])
     clear hk
     go_wp2
     go_ret2
     rw [HE.out]
     exact ⟨_,rfl,aT.nil _ _,B5.out⟩
theorem eX {a b:List Int}:fQ a.length (bf a) b.length (bf b)=true ↔ a=b:=by
 unfold fQ
 constructor
 ·intro h
  simp only [Bool.and_eq_true,decide_eq_true_eq] at h
  rw [←qA a,←qA b,←h.1]
  refine sU fun i hi=> Classical.byContradiction fun hne=> ?_
  have:=h.2
  rw [og (fun hh=> hne (hh i hi))] at this
  cases this
 ·rintro rfl
  rw [decide_eq_true rfl,gB];rfl
end
end Go.Proofs.YtpcjekgfnfjbpaaGreat
namespace Go.aG
open Go.RowKit
structure eZ where
 nm:ByteArray
 pb:List Int
 vf:List Int
structure fq where
 fr:ByteArray
 ta:ByteArray
 b:List Int
structure jy where
 nm:ByteArray
 sc:List Int
structure lZ (F:Nat→Prop) (w:World) (z:Nat→Value) (a:eZ):Prop where
 z0:z 0=.string a.nm
 z1:aT F w (z 1) a.pb
 z2:aT F w (z 2) a.vf
structure nL (F:Nat→Prop) (w:World) (z:Nat→Value) (a:fq):Prop where
 z0:z 0=.string a.fr
 z1:z 1=.string a.ta
 z2:aT F w (z 2) a.b
structure qM (F:Nat→Prop) (w:World) (z:Nat→Value) (a:jy):Prop where
 z0:z 0=.string a.nm
 z1:aT F w (z 1) a.sc
section
variable {F F' : Nat → Prop} {w w' : World} {z : Nat → Value} {p : Nat}
theorem lZ.below {a:eZ} (h:lZ F w z a) (hb:Below w.heap.size w w'):lZ F w' z a:=⟨h.z0,h.z1.below hb,h.z2.below hb⟩
theorem nL.below {a:fq} (h:nL F w z a) (hb:Below w.heap.size w w'):nL F w' z a:=⟨h.z0,h.z1,h.z2.below hb⟩
theorem qM.below {a:jy} (h:qM F w z a) (hb:Below w.heap.size w w'):qM F w' z a:=⟨h.z0,h.z1.below hb⟩
theorem lZ.iY {a:eZ} (h:lZ F w z a) (hc:dV p F w w') (hF:∀b,F' b→F b∨w.heap.size≤b):lZ F' w' z a:=⟨h.z0,h.z1.iY hc hF,h.z2.iY hc hF⟩
theorem nL.iY {a:fq} (h:nL F w z a) (hc:dV p F w w') (hF:∀b,F' b→F b∨w.heap.size≤b):nL F' w' z a:=⟨h.z0,h.z1,h.z2.iY hc hF⟩
theorem qM.iY {a:jy} (h:qM F w z a) (hc:dV p F w w') (hF:∀b,F' b→F b∨w.heap.size≤b):qM F' w' z a:=⟨h.z0,h.z1.iY hc hF⟩
theorem lZ.one {a:eZ} (h:lZ F w z a):∀i,i<3→(z i).oneCell'=true:=fun i hi=> by
 rcases (by omega:i=0∨i=1∨i=2) with rfl | rfl | rfl
 ·rw [h.z0];rfl
 ·obtain ⟨_,_,e⟩:=h.z1.slice;rw [e];rfl
 ·obtain ⟨_,_,e⟩:=h.z2.slice;rw [e];rfl
theorem nL.one {a:fq} (h:nL F w z a):∀i,i<3→(z i).oneCell'=true:=fun i hi=> by
 rcases (by omega:i=0∨i=1∨i=2) with rfl | rfl | rfl
 ·rw [h.z0];rfl
 ·rw [h.z1];rfl
 ·obtain ⟨_,_,e⟩:=h.z2.slice;rw [e];rfl
theorem qM.one {a:jy} (h:qM F w z a):∀i,i<2→(z i).oneCell'=true:=fun i hi=> by
 rcases (by omega:i=0∨i=1) with rfl | rfl
 ·rw [h.z0];rfl
 ·obtain ⟨_,_,e⟩:=h.z1.slice;rw [e];rfl
end
structure gq {A:Type} (R:World→(Nat→Value)→A→Prop) (e:TypeId) (c:Nat) (w:World) (v:Value) (L:List A) (q:Nat→Nat→Value):Prop where
 os:ig e c w v L.length q
 bs:∀(j:Nat) (a:A),L[j]? =some a→R w (q j) a
theorem wm (a b:ByteArray):(a.toList==b.toList)=decide (a=b):=by
 by_cases h:a=b
 ·rw [fK h,decide_eq_true h]
 ·rw [gX h,decide_eq_false h]
end Go.aG
namespace Go.Proofs.YtpcjekgfnfjbpaaGreat
open Go.RowKit Go.aG Go.ChangeShapes Go.Maps
attribute [local go_sem ↓] Go.wp_at_zero Go.wp_at_succ
structure Eng (B:Nat) where
 σ:Type
 M:World→Nat→(Nat→Prop)→σ→Prop
 sz:σ→Nat
 pub:σ→List Int→List Int × Int × σ
 ver:σ→List Int→List Int × Int × σ
 nS:σ→List Int→List Int→List Int × Int
 below:∀{w w' p F X},M w p F X→Below w.heap.size w w'→M w' p F X
 lt:∀{w p F X b},M w p F X→(b=p∨F b)→b<w.heap.size
 hi:∀{w p F X b},M w p F X→(b=p∨F b)→B≤b
 keep:∀{w w' p F X H},M w p F X→bB H w w'→¬ H p→(∀b,F b→¬ H b)→M w' p F X
 BJ:∀X l,sz (pub X l).2.2≤sz X+1
 Ew:∀X l,sz (ver X l).2.2≤sz X+1
 Ag:∀{w p F X v l},M w p F X→aT F w v l→sz X≤900→Calls Tryz.prog 33 #[.pointer (some ⟨p,0,none⟩),v] w fun e w'=> ∃u,e=.returned (.tuple #[u,.int .i64 (pub X l).2.1])∧∃F',M w' p F' (pub X l).2.2∧aT F' w' u (pub X l).1∧dV p F w w'∧∀b,F' b→F b∨w.heap.size≤b
 Af:∀{w p F X v l},M w p F X→aT F w v l→sz X≤900→Calls Tryz.prog 34 #[.pointer (some ⟨p,0,none⟩),v] w fun e w'=> ∃u,e=.returned (.tuple #[u,.int .i64 (ver X l).2.1])∧∃F',M w' p F' (ver X l).2.2∧aT F' w' u (ver X l).1∧dV p F w w'∧∀b,F' b→F b∨w.heap.size≤b
 CK:∀{w p F X v l v' l'},M w p F X→aT F w v l→aT F w v' l'→l'.length≤400→sz X≤900→Calls Tryz.prog 22 #[.pointer (some ⟨p,0,none⟩),v,v'] w fun e w'=> ∃u,e=.returned (.tuple #[u,.int .i64 (nS X l l').2])∧aT F w' u (nS X l l').1∧Below w.heap.size w w'
section
variable {B : Nat} {E : Eng B} {w w' w1 w2 w3 : World} {p q : Nat} {F F' G G' : Nat → Prop} {v u v' vp vv : Value} {l l' x : List Int} {X X' : E.σ} {P : eZ}
def Eng.is (E:Eng B) (X:E.σ) (P:eZ) (x:List Int):Bool × E.σ:=
 (decide ((E.pub X x).2.1=0∧(E.ver (E.pub X x).2.2 x).2.1=0∧(E.pub X x).1=P.pb∧(E.ver (E.pub X x).2.2 x).1=P.vf),(E.ver (E.pub X x).2.2 x).2.2)
def Eng.take (E:Eng B) (X:E.σ) (P:eZ) (s b:List Int):List Int × Int × E.σ:=
 if (E.nS X s b).2=0 then if (E.is X P (E.nS X s b).1).1=true then ((E.nS X s b).1,0,(E.is X P (E.nS X s b).1).2) else ([],44,(E.is X P (E.nS X s b).1).2)
 else ([],(E.nS X s b).2,X)
def Eng.St (E:Eng B) (w:World) (p:Nat) (F:Nat→Prop) (X:E.σ) (w':World):Prop:=∃F',E.M w' p F' X∧dV p F w w'∧∀b,F' b→F b∨w.heap.size≤b
theorem ku (h:Rd .u8 w v l.length (bf l)) (h':Rd .u8 w v' l'.length (bf l')) (ho:okB l) (ho':okB l'):Calls Tryz.prog 166 #[v,v'] w fun e w'=> e=.returned (.bool (decide (l=l')))∧w'=w:=by
 have H:=Lib.hid h
 have H':=Lib.hid h'
 have HO:=Lib.hid ho
 have Df:=Lib.hid ho'
 have HE:((strOf l.length (bf l)).toList==(strOf l'.length (bf l')).toList)=decide (l=l'):=by
  rw [wm]
  by_cases e:l=l'
  ·subst e;simp
  ·rw [decide_eq_false e,decide_eq_false fun h=> e (xk ho ho' (by unfold Ba;rw [h]))]
 obtain ⟨av,cv,rfl,_⟩:=h
 obtain ⟨DY,cv',rfl,_⟩:=h'
 clear ho ho'
 go_enter Tryz.func166,Tryz.ntmps166
 go_wp2_with (first
  | (refine jE rfl (fH (e:=5) (v:=.slice av l.length cv) rfl rfl H.out Tryz.underlying23 Tryz.underlying5 Tryz.underlying9 (fun i hi=> HO.out.at i hi)) ?_)
  | (refine jE rfl (fH (e:=5) (v:=.slice DY l'.length cv') rfl rfl H'.out Tryz.underlying23 Tryz.underlying5 Tryz.underlying9 (fun i hi=> Df.out.at i hi)) ?_))
 go_ret
 exact ⟨rfl,rfl⟩
theorem vM (h:E.M w p F X) (hb:aT F w v x) (hp:aT F w vp P.pb) (hv:aT F w vv P.vf) (hs:E.sz X≤890):Calls Tryz.prog 110 #[.pointer (some ⟨p,0,none⟩),.agg #[.string P.nm,vp,vv],v] w fun e w'=> e=.returned (.bool (E.is X P x).1)∧E.St w p F (E.is X P x).2 w':=by
 obtain ⟨A,hA⟩:∃A,A=E.pub X x:=⟨_,rfl⟩
 obtain ⟨C,hC⟩:∃C,C=E.ver A.2.2 x:=⟨_,rfl⟩
 have HR:Hid (E.is X P x=(decide (A.2.1=0∧C.2.1=0∧A.1=P.pb∧C.1=P.vf),C.2.2)):=Lib.hid (by rw [hC,hA];rfl)
 rw [HR.out]
 have tV:Hid (E.sz A.2.2≤891):=Lib.hid (by have:=E.BJ X x;rw [hA];omega)
 have yU:=Lib.hid (fun (w1:World) (b1:Below w.heap.size w w1)=> E.Ag (E.below h b1) (hb.below b1) (by omega:E.sz X≤900))
 have Bt:=Lib.hid (fun (w1:World) (F1:Nat→Prop) (v1:Value) (m1:E.M w1 p F1 A.2.2) (b1:aT F1 w1 v1 x)=> E.Af m1 b1 (Nat.le_trans tV.out (by decide)))
 rw [←hA] at yU
 rw [←hC] at Bt
 obtain ⟨a1,a2,A3⟩:=A
 obtain ⟨c1,c2,C3⟩:=C
 dsimp only at yU Bt tV ⊢
 have H:=Lib.hid h
 have HB:=Lib.hid hb
 have HP:=Lib.hid hp
 have HV:=Lib.hid hv
 obtain ⟨av,cv,rfl⟩:=hb.slice
 obtain ⟨ap,cp,rfl⟩:=hp.slice
 obtain ⟨aw,cw,rfl⟩:=hv.slice
 obtain ⟨nm,hnm⟩:∃n,n=P.nm:=⟨_,rfl⟩
 obtain ⟨pb,hpb⟩:∃n,n=P.pb:=⟨_,rfl⟩
 obtain ⟨vf,hvf⟩:∃n,n=P.vf:=⟨_,rfl⟩
 rw [←hpb] at HP ⊢
 rw [←hvf] at HV ⊢
 rw [←hnm]
 obtain ⟨DB,hDB⟩:∃D,D=decide (a2=0∧c2=0∧a1=pb∧c1=vf):=⟨_,rfl⟩
 have Ej:=Lib.hid hDB
 rw [←hDB]
 clear hA hC HR h hb hp hv hs hnm hpb hvf hDB
 go_enter Tryz.func110,Tryz.ntmps110
 go_upto_region 1 with (fail)
 refine aI (fun w1=> w1.cell? ⟨w.heap.size,1,none⟩=some (.slice ap pb.length cp)∧w1.cell? ⟨w.heap.size,2,none⟩=some (.slice aw vf.length cw)∧w.heap.size<w1.heap.size∧Below w.heap.size w w1) ⟨cell_of_row _ _ 1 _ _ (0,0) (heap_alloc_new w _),cell_of_row _ _ 2 _ _ (0,0) (heap_alloc_new w _),by simp,(Below.refl _ _).alloc (Nat.le_refl _) _⟩ ?_
 rintro w1 ⟨k1,k2,s1,b1⟩
 have K1:=Lib.hid k1
 have K2:=Lib.hid k2
 have yO:=Lib.hid s1
 have B1:=Lib.hid b1
 have Di:Hid (¬ (w.heap.size=p∨F w.heap.size)):=Lib.hid fun hh=> absurd (E.lt H.out hh) (Nat.lt_irrefl _)
 obtain ⟨x4,hx4⟩:∃x,x=w.heap.size:=⟨_,rfl⟩
 have tT:=Lib.hid hx4
 rw [←hx4] at K1 K2 yO Di ⊢
 clear k1 k2 s1 b1 hx4
 go_wp2_with fail
 refine (yU.out w1 (tT.out▸B1.out)).mono ?_
 rintro e w2 ⟨u2,rfl,F2,m2,y2,CG,f2⟩
 have M2:=Lib.hid m2
 have Y2:=Lib.hid y2
 have AX:=Lib.hid CG
 have Bv:=Lib.hid f2
 obtain ⟨au,cu,rfl⟩:=y2.slice
 clear m2 y2 CG f2
 go_wp2_with fail
 refine (Bt.out w2 F2 _ M2.out ((HB.out.below (tT.out▸B1.out)).iY AX.out Bv.out)).mono ?_
 rintro e w3 ⟨u3,rfl,F3,m3,y3,pJ,f3⟩
 obtain ⟨az,cz,rfl⟩:=y3.slice
 have Ko:=Lib.hid m3
 have Ir:=Lib.hid (((HP.out.below (tT.out▸B1.out)).iY AX.out Bv.out).iY pJ f3)
 have Il:=Lib.hid (((HV.out.below (tT.out▸B1.out)).iY AX.out Bv.out).iY pJ f3)
 have Y3:=Lib.hid y3
 have Ic:=Lib.hid (Y2.out.iY pJ f3)
 have HS2:=AX.out.dz.size
 have Bj:=B1.out.size
 have FX:¬ (x4=p∨F2 x4):=fun hh=> hh.elim (fun e=> Di.out (.inl e)) fun e=> (Bv.out _ e).elim (fun e=> Di.out (.inr e)) fun e=> absurd yO.out (Nat.not_lt.2 e)
 have k1:=(pJ.dz.cell (p:=⟨x4,1,none⟩) (Nat.lt_of_lt_of_le yO.out HS2) FX).trans ((AX.out.dz.cell (p:=⟨x4,1,none⟩) yO.out Di.out).trans K1.out)
 have k2:=(pJ.dz.cell (p:=⟨x4,2,none⟩) (Nat.lt_of_lt_of_le yO.out HS2) FX).trans ((AX.out.dz.cell (p:=⟨x4,2,none⟩) yO.out Di.out).trans K2.out)
 have HST:Hid (E.St w p F C3 w3):=Lib.hid ⟨F3,Ko.out,((dV.of_below (tT.out▸B1.out) F).trans AX.out fun b hb=> .inl hb).trans pJ fun b hb=> (Bv.out b hb).imp id fun h=> Nat.le_trans (tT.out▸Bj) h,fun b hb=> (f3 b hb).elim (fun h=> (Bv.out b h).imp id fun h=> Nat.le_trans (tT.out▸Bj) h) fun h=> .inr (Nat.le_trans (tT.out▸Bj) (Nat.le_trans HS2 h))⟩
 have wP:=Lib.hid (ku Ic.out.rd Ir.out.rd Ic.out.ok Ir.out.ok)
 have HE2:=Lib.hid (ku Y3.out.rd Il.out.rd Y3.out.ok Il.out.ok)
 clear m3 y3 pJ f3 HS2 Bj FX
 by_cases e1:a2=0
 ·have q1:(a2==0)=true:=by simpa using e1
  by_cases e2:c2=0
  ·have q2:(c2==0)=true:=by simpa using e2
   by_cases e3:a1=pb
   ·rw [decide_eq_true e3] at wP
    obtain rfl:DB=decide (c1=vf):=Ej.out.trans (decide_eq_decide.2 ⟨fun h=> h.2.2.2,fun h=> ⟨e1,e2,e3,h⟩⟩)
    clear e1 e2 e3
    go_wp2_with fail
    refine wP.out.mono ?_
    rintro e w4 ⟨rfl,rfl⟩
    go_wp2_with fail
    refine HE2.out.mono ?_
    rintro e w5 ⟨rfl,rfl⟩
    go_wp2
    go_ret
    exact ⟨rfl,HST.out⟩
   ·rw [decide_eq_false e3] at wP
    obtain rfl:DB=false:=Ej.out.trans (decide_eq_false fun h=> e3 h.2.2.1)
    clear e1 e2 e3
    go_wp2_with fail
    refine wP.out.mono ?_
    rintro e w4 ⟨rfl,rfl⟩
    go_wp2
    go_ret
    exact ⟨rfl,HST.out⟩
  ·have q2:(c2==0)=false:=by simpa using e2
   obtain rfl:DB=false:=Ej.out.trans (decide_eq_false fun h=> e2 h.2.1)
   clear e1 e2
   go_wp2
   go_ret
   exact ⟨rfl,HST.out⟩
 ·have q1:(a2==0)=false:=by simpa using e1
  obtain rfl:DB=false:=Ej.out.trans (decide_eq_false fun h=> e1 h.1)
  clear e1
  go_wp2
  go_ret
  exact ⟨rfl,HST.out⟩
end
end Go.Proofs.YtpcjekgfnfjbpaaGreat
namespace Go.Proofs.YtpcjekgfnfjbpaaGreat
open Go.RowKit Go.aG Go.ChangeShapes Go.Maps
attribute [local go_sem ↓] Go.wp_at_zero Go.wp_at_succ
theorem Tryz.sizePs:(Tryz.prog.info? 78).map (·.size)=some 3:=by kernel_rfl
section
variable {B : Nat} {E : Eng B} {w w' w1 w2 w3 : World} {p q : Nat} {F F' G G' : Nat → Prop} {v u v' vs vb vp vv : Value} {l l' x s b : List Int} {X X' : E.σ} {P : eZ} {z : Nat → Value}
def Eng.DZ (E:Eng B) (w:World) (p:Nat) (F:Nat→Prop) (u:Value) (r:List Int × Int × E.σ) (w':World):Prop:=∃F',E.M w' p F' r.2.2∧aT F' w' u r.1∧dV p F w w'∧∀b,F' b→F b∨w.heap.size≤b
theorem qJ (h:E.M w p F X) (hP:lZ F w z P) (hs:aT F w vs s) (hb:aT F w vb b) (hl:b.length≤400) (hz:E.sz X≤890):Calls Tryz.prog 51 #[.pointer (some ⟨p,0,none⟩),.agg (aW 3 z),vs,vb] w fun e w'=> ∃u,e=.returned (.tuple #[u,.int .i64 (E.take X P s b).2.1])∧E.DZ w p F u (E.take X P s b) w':=by
 obtain ⟨U,hU⟩:∃U,U=E.nS X s b:=⟨_,rfl⟩
 obtain ⟨I,hI⟩:∃I,I=E.is X P U.1:=⟨_,rfl⟩
 obtain ⟨R,hR⟩:∃R,R=E.take X P s b:=⟨_,rfl⟩
 have HR:Hid (R=if U.2=0 then if I.1=true then (U.1,0,I.2) else ([],44,I.2) else ([],U.2,X)):=Lib.hid (by rw [hR,hI,hU];rfl)
 have Gj:=Lib.hid (fun (w1:World) (b1:Below w.heap.size w w1)=> E.CK (E.below h b1) (hs.below b1) (hb.below b1) hl (by omega:E.sz X≤900))
 rw [←hU] at Gj
 rw [←hR]
 have IL:Hid (∀(w1:World),Below w.heap.size w w1→∀v,aT F w1 v U.1→Calls Tryz.prog 110 #[.pointer (some ⟨p,0,none⟩),.agg (aW 3 z),v] w1 fun e w'=> e=.returned (.bool I.1)∧E.St w1 p F I.2 w'):=Lib.hid fun w1 b1 v hv=> by
  have:=vM (E.below h b1) hv (hP.z1.below b1) (hP.z2.below b1) hz
  rw [←hI] at this
  rw [show (aW 3 z)=#[.string P.nm,z 1,z 2] from by rw [←hP.z0];rfl]
  exact this
 obtain ⟨U1,U2⟩:=U
 obtain ⟨I1,I2⟩:=I
 dsimp only at Gj IL HR
 have H:=Lib.hid h
 have HZ:=Lib.hid hP.one
 obtain ⟨a1,c1,rfl⟩:=hs.slice
 obtain ⟨a2,c2,rfl⟩:=hb.slice
 clear hU hI hR h hP hs hb hl hz
 go_enter Tryz.func51,Tryz.ntmps51
 go_upto_region 1 with (fail)
 refine aI (fun w1=> aV w1 w.heap.size 3 78 z∧Below w.heap.size w w1) ⟨aV.new,(Below.refl _ _).alloc (Nat.le_refl _) _⟩ ?_
 rintro w1 ⟨r1,b1⟩
 have R1:=Lib.hid r1
 have B1:=Lib.hid b1
 obtain ⟨x5,hx5⟩:∃x,x=w.heap.size:=⟨_,rfl⟩
 rw [←hx5] at R1 ⊢
 clear r1 b1 hx5
 go_wp2_with fail
 refine (Gj.out w1 B1.out).mono ?_
 rintro e w2 ⟨u2,rfl,y2,b2⟩
 have Y2:=Lib.hid y2
 have B2:=Lib.hid (B1.out.trans (b2.mono B1.out.size))
 have R2:Hid (∀i,i<3→w2.cell? ⟨x5,0+i,none⟩=some (z i)):=Lib.hid fun i hi=> by rw [Nat.zero_add];exact (R1.out.below b2).2 i hi
 obtain ⟨a3,c3,rfl⟩:=y2.slice
 clear y2 b2
 by_cases e2:U2=0
 ·have q1:(U2 !=0)=false:=by simpa using e2
  rw [if_pos e2] at HR
  clear e2
  go_wp2_with (refine aZ rfl rfl rfl Tryz.underlying78 rfl Tryz.sizePs R2.out ?_)
  refine (IL.out w2 B2.out _ Y2.out).mono ?_
  rintro e w3 ⟨rfl,hst⟩
  have HST:=Lib.hid hst
  clear hst
  cases I1 with
  | true=>
   obtain rfl:=HR.out.trans (if_pos rfl)
   go_wp2
   go_ret2
   obtain ⟨F3,m3,pJ,f3⟩:=HST.out
   exact ⟨_,rfl,F3,m3,Y2.out.iY pJ f3,(dV.of_below B2.out F).trans pJ fun b hb=> .inl hb,fun b hb=> (f3 b hb).imp id fun h=> Nat.le_trans B2.out.size h⟩
  | false=>
   obtain rfl:=HR.out.trans (if_neg (by decide))
   go_wp2
   go_ret2
   obtain ⟨F3,m3,pJ,f3⟩:=HST.out
   exact ⟨_,rfl,F3,m3,aT.nil _ _,(dV.of_below B2.out F).trans pJ fun b hb=> .inl hb,fun b hb=> (f3 b hb).imp id fun h=> Nat.le_trans B2.out.size h⟩
 ·have q1:(U2 !=0)=true:=by simpa using e2
  rw [if_neg e2] at HR
  clear e2
  obtain rfl:=HR.out
  go_wp2
  go_ret2
  exact ⟨_,rfl,F,E.below H.out B2.out,aT.nil _ _,dV.of_below B2.out F,fun b hb=> .inl hb⟩
end
end Go.Proofs.YtpcjekgfnfjbpaaGreat
namespace Go.aG
open Go.RowKit
def kH (ns:List ByteArray) (nm:ByteArray):Nat:=ns.findIdx fun a=> decide (a=nm)
theorem jr {ns:List ByteArray} {nm:ByteArray} {k:Nat} (h:ns[k]? =some nm) (hb:∀(j:Nat) a,j<k→ns[j]? =some a→a≠nm):kH ns nm=k:=by
 obtain ⟨hk,e⟩:=List.getElem?_eq_some_iff.1 h
 unfold kH
 rw [List.findIdx_eq hk]
 refine ⟨by simpa using e,fun j hj=> ?_⟩
 simpa using hb j _ hj (List.getElem?_eq_getElem (Nat.lt_trans hj hk))
theorem vH {ns:List ByteArray} {nm:ByteArray} (hb:∀(j:Nat) a,ns[j]? =some a→a≠nm):kH ns nm=ns.length:=by
 unfold kH
 rw [List.findIdx_eq_length]
 intro a ha
 obtain ⟨j,hj⟩:=List.getElem?_of_mem ha
 simpa using hb j a hj
def iJ (ns:List ByteArray) (nm:ByteArray):Int:=if kH ns nm<ns.length then kH ns nm else -1
end Go.aG
namespace Go.Proofs.YtpcjekgfnfjbpaaGreat
open Go.RowKit Go.aG Go.ChangeShapes Go.Maps
attribute [local go_sem ↓] Go.wp_at_zero Go.wp_at_succ
section
variable {w w' w1 w2 w3 : World} {p : Nat} {F : Nat → Prop} {v : Value} {z : Nat → Value} {q : Nat → Nat → Value}
theorem Tryz.sizePsC:(Tryz.prog.info? 78).map (·.size)=some 3:=by kernel_rfl
theorem vL {c:Nat} {a nm:ByteArray} (hz:z 0=.string a) (hc:w.cell? ⟨c,0,none⟩=some (.string nm)) (hl:c<w.heap.size):Calls Tryz.prog 163 #[.agg (aW 3 z),.pointer (some ⟨c,0,none⟩)] w fun e w'=> e=.returned (.bool (decide (a=nm)))∧Below w.heap.size w w':=by
 have HZ:=Lib.hid hz
 have HQ:=Lib.hid (wm a nm)
 go_enter Tryz.func163,Tryz.ntmps163
 go_upto_region 1 with (fail)
 refine aI (fun w1=> w1.cell? ⟨w.heap.size,0,none⟩=some (.string a)∧w1.cell? ⟨c,0,none⟩=some (.string nm)∧Below w.heap.size w w1) ⟨((aV.new (n:=3) (z:=z)).2 0 (by decide)).trans (by rw [hz]),(((Below.refl w.heap.size w).alloc (Nat.le_refl _) (.cells (aW 3 z) 78)).cell (p:=⟨c,0,none⟩) hl).trans hc,(Below.refl _ _).alloc (Nat.le_refl _) _⟩ ?_
 rintro w1 ⟨k0,k1,b1⟩
 have B1:=Lib.hid b1
 clear hz hc hl b1
 go_wp2
 go_ret
 exact ⟨by rw [HQ.out];rfl,B1.out⟩
theorem vK {c:Nat} {nm:ByteArray} {L:List eZ} (hR:gq (lZ F) 78 3 w v L q) (hc:w.cell? ⟨c,0,none⟩=some (.string nm)) (hl:c<w.heap.size):Calls Tryz.prog 162 #[v,.func (.func 163) #[] #[.pointer (some ⟨c,0,none⟩)]] w fun e w'=> e=.returned (.int .i64 (iJ (L.map (·.nm)) nm))∧Below w.heap.size w w':=by
 have HB:=Lib.hid hR.bs
 have wM:=Lib.hid hR.os.m
 have HC:=Lib.hid hc
 have HL:=Lib.hid hl
 obtain ⟨m,hm⟩:∃m,m=L.length:=⟨_,rfl⟩
 have HM:=Lib.hid hm
 rw [←hm] at wM
 obtain ⟨a,cap,rfl,hcap,hcap2⟩:=wM.out.slice
 obtain ⟨RI,qG⟩:∃r,r=iJ (L.map (·.nm)) nm:=⟨_,rfl⟩
 have yP:=Lib.hid qG
 rw [←qG]
 clear hR hm hc hl qG
 go_enter Tryz.func162,Tryz.ntmps162
 go_wp2
 go_loopw [8] (fun i wr=> ∃k:Nat,k≤m∧i=.int .i64 k∧(∀(j:Nat) a,j<k→(L.map (·.nm))[j]? =some a→a≠nm)∧Below w.heap.size w wr) (fun i _=> m - (intOf i).toNat)
 case atStart=> exact ⟨0,Nat.zero_le _,rfl,fun j d hj=> absurd hj (Nat.not_lt_zero _),Below.refl _ _⟩
 case round=>
  obtain ⟨k,hk,rfl,hle,Cw⟩:=hrel
  have wW:=Lib.hid hle
  have tO:=Lib.hid Cw
  clear hle Cw
  by_cases hlt:k<m
  ·obtain ⟨g,cap',e,hrow,_,_,hcell⟩:=wM.out.form (by omega)
   cases e
   have hgl:g<w.heap.size:=hrow.lt
   have pK:Hid (∀i,i<3→wr.cell? ⟨g,k * 3+i,none⟩=some (q k i)):=fun i hi=> (tO.out.cell (p:=⟨g,k * 3+i,none⟩) hgl).trans (hcell k hlt i hi)
   obtain ⟨d,hd⟩:∃d,L[k]? =some d:=⟨_,List.getElem?_eq_getElem (by rw [←HM.out];exact hlt)⟩
   have HDK:=Lib.hid hd
   have Dz:Hid (Calls Tryz.prog 163 #[.agg (aW 3 (q k)),.pointer (some ⟨c,0,none⟩)] wr fun e w'=> e=.returned (.bool (decide (d.nm=nm)))∧Below wr.heap.size wr w'):=Lib.hid (vL (HB.out k d hd).z0 ((tO.out.cell (p:=⟨c,0,none⟩) HL.out).trans HC.out) (Nat.lt_of_lt_of_le HL.out tO.out.size))
   clear hd hrow hcell hgl
   go_wp2_with (refine aZ rfl rfl rfl Tryz.underlying78 rfl Tryz.sizePsC pK.out ?_)
   refine Dz.out.mono ?_
   rintro e w1 ⟨rfl,b1⟩
   have HB1:=Lib.hid (tO.out.trans (b1.mono tO.out.size))
   clear b1 pK Dz
   by_cases hn:d.nm=nm
   ·rw [decide_eq_true hn]
    obtain rfl:RI=(k:Int):=yP.out.trans (by
     have e:kH (L.map (·.nm)) nm=k:=jr (by rw [List.getElem?_map,HDK.out];simp [hn]) wW.out
     unfold iJ
     rw [e,List.length_map,←HM.out,if_pos hlt])
    clear hn
    go_wp2
    go_ret
    exact ⟨rfl,HB1.out⟩
   ·rw [decide_eq_false hn]
    have Bp:=Lib.hid hn
    clear hn
    go_wp2
    go_roundw
    case rel=> exact ⟨k+1,by omega,by go_num,fun j a' hj ha'=> by
     by_cases e:j=k
     ·subst e;rw [List.getElem?_map,HDK.out] at ha';cases ha';exact Bp.out
     ·exact wW.out j a' (by omega) ha',HB1.out⟩
    case measure=> simp [intOf];omega
  ·obtain rfl:k=m:=by omega
   obtain rfl:RI= -1:=yP.out.trans (by
    have e:kH (L.map (·.nm)) nm=(L.map (·.nm)).length:=vH fun j a ha=> wW.out j a (by have:=(List.getElem?_eq_some_iff.1 ha).1;rw [List.length_map,←HM.out] at this;exact this) ha
    unfold iJ
    rw [e,if_neg (Nat.lt_irrefl _)])
   clear hlt
   go_wp2
   go_ret
   exact ⟨rfl,tO.out⟩
theorem Tryz.sizeHdC:(Tryz.prog.info? 71).map (·.size)=some 2:=by kernel_rfl
theorem vO {c:Nat} {a nm:ByteArray} (hz:z 0=.string a) (hc:w.cell? ⟨c,0,none⟩=some (.string nm)) (hl:c<w.heap.size):Calls Tryz.prog 165 #[.agg (aW 2 z),.pointer (some ⟨c,0,none⟩)] w fun e w'=> e=.returned (.bool (decide (a=nm)))∧Below w.heap.size w w':=by
 have HZ:=Lib.hid hz
 have HQ:=Lib.hid (wm a nm)
 go_enter Tryz.func165,Tryz.ntmps165
 go_upto_region 1 with (fail)
 refine aI (fun w1=> w1.cell? ⟨w.heap.size,0,none⟩=some (.string a)∧w1.cell? ⟨c,0,none⟩=some (.string nm)∧Below w.heap.size w w1) ⟨((aV.new (n:=2) (z:=z)).2 0 (by decide)).trans (by rw [hz]),(((Below.refl w.heap.size w).alloc (Nat.le_refl _) (.cells (aW 2 z) 71)).cell (p:=⟨c,0,none⟩) hl).trans hc,(Below.refl _ _).alloc (Nat.le_refl _) _⟩ ?_
 rintro w1 ⟨k0,k1,b1⟩
 have B1:=Lib.hid b1
 clear hz hc hl b1
 go_wp2
 go_ret
 exact ⟨by rw [HQ.out];rfl,B1.out⟩
theorem vN {c:Nat} {nm:ByteArray} {L:List jy} (hR:gq (qM F) 71 2 w v L q) (hc:w.cell? ⟨c,0,none⟩=some (.string nm)) (hl:c<w.heap.size):Calls Tryz.prog 223 #[v,.func (.func 165) #[] #[.pointer (some ⟨c,0,none⟩)]] w fun e w'=> e=.returned (.int .i64 (iJ (L.map (·.nm)) nm))∧Below w.heap.size w w':=by
 have HB:=Lib.hid hR.bs
 have wM:=Lib.hid hR.os.m
 have HC:=Lib.hid hc
 have HL:=Lib.hid hl
 obtain ⟨m,hm⟩:∃m,m=L.length:=⟨_,rfl⟩
 have HM:=Lib.hid hm
 rw [←hm] at wM
 obtain ⟨a,cap,rfl,hcap,hcap2⟩:=wM.out.slice
 obtain ⟨RI,qG⟩:∃r,r=iJ (L.map (·.nm)) nm:=⟨_,rfl⟩
 have yP:=Lib.hid qG
 rw [←qG]
 clear hR hm hc hl qG
 go_enter Tryz.func223,Tryz.ntmps223
 go_wp2
 go_loopw [8] (fun i wr=> ∃k:Nat,k≤m∧i=.int .i64 k∧(∀(j:Nat) a,j<k→(L.map (·.nm))[j]? =some a→a≠nm)∧Below w.heap.size w wr) (fun i _=> m - (intOf i).toNat)
 case atStart=> exact ⟨0,Nat.zero_le _,rfl,fun j d hj=> absurd hj (Nat.not_lt_zero _),Below.refl _ _⟩
 case round=>
  obtain ⟨k,hk,rfl,hle,Cw⟩:=hrel
  have wW:=Lib.hid hle
  have tO:=Lib.hid Cw
  clear hle Cw
  by_cases hlt:k<m
  ·obtain ⟨g,cap',e,hrow,_,_,hcell⟩:=wM.out.form (by omega)
   cases e
   have hgl:g<w.heap.size:=hrow.lt
   have pK:Hid (∀i,i<2→wr.cell? ⟨g,k * 2+i,none⟩=some (q k i)):=fun i hi=> (tO.out.cell (p:=⟨g,k * 2+i,none⟩) hgl).trans (hcell k hlt i hi)
   obtain ⟨d,hd⟩:∃d,L[k]? =some d:=⟨_,List.getElem?_eq_getElem (by rw [←HM.out];exact hlt)⟩
   have HDK:=Lib.hid hd
   have Dz:Hid (Calls Tryz.prog 165 #[.agg (aW 2 (q k)),.pointer (some ⟨c,0,none⟩)] wr fun e w'=> e=.returned (.bool (decide (d.nm=nm)))∧Below wr.heap.size wr w'):=Lib.hid (vO (HB.out k d hd).z0 ((tO.out.cell (p:=⟨c,0,none⟩) HL.out).trans HC.out) (Nat.lt_of_lt_of_le HL.out tO.out.size))
   clear hd hrow hcell hgl
   go_wp2_with (refine aZ rfl rfl rfl Tryz.underlying71 rfl Tryz.sizeHdC pK.out ?_)
   refine Dz.out.mono ?_
   rintro e w1 ⟨rfl,b1⟩
   have HB1:=Lib.hid (tO.out.trans (b1.mono tO.out.size))
   clear b1 pK Dz
   by_cases hn:d.nm=nm
   ·rw [decide_eq_true hn]
    obtain rfl:RI=(k:Int):=yP.out.trans (by
     have e:kH (L.map (·.nm)) nm=k:=jr (by rw [List.getElem?_map,HDK.out];simp [hn]) wW.out
     unfold iJ
     rw [e,List.length_map,←HM.out,if_pos hlt])
    clear hn
    go_wp2
    go_ret
    exact ⟨rfl,HB1.out⟩
   ·rw [decide_eq_false hn]
    have Bp:=Lib.hid hn
    clear hn
    go_wp2
    go_roundw
    case rel=> exact ⟨k+1,by omega,by go_num,fun j a' hj ha'=> by
     by_cases e:j=k
     ·subst e;rw [List.getElem?_map,HDK.out] at ha';cases ha';exact Bp.out
     ·exact wW.out j a' (by omega) ha',HB1.out⟩
    case measure=> simp [intOf];omega
  ·obtain rfl:k=m:=by omega
   obtain rfl:RI= -1:=yP.out.trans (by
    have e:kH (L.map (·.nm)) nm=(L.map (·.nm)).length:=vH fun j a ha=> wW.out j a (by have:=(List.getElem?_eq_some_iff.1 ha).1;rw [List.length_map,←HM.out] at this;exact this) ha
    unfold iJ
    rw [e,if_neg (Nat.lt_irrefl _)])
   clear hlt
   go_wp2
   go_ret
   exact ⟨rfl,tO.out⟩
def Bw:Nat→Value:=fun i=> if i=0 then .string .empty else .slice none 0 0
def fB (L:List eZ) (nm:ByteArray):eZ × Bool:=match L[kH (L.map (·.nm)) nm]? with
 | some a=> (a,true)
 | none=> (⟨.empty, [], []⟩,false)
theorem qQ (F:Nat→Prop) (w:World):lZ F w Bw ⟨.empty, [], []⟩:=⟨rfl,aT.nil _ _,aT.nil _ _⟩
theorem za:aW 3 Bw=#[.string ⟨#[]⟩,.slice none 0 0,.slice none 0 0] :=rfl
theorem aV.at {b n:Nat} {e:TypeId} (h:aV w b n e z):w.heap[b]? =some (.cells (aW n z) e (0,0)):=by
 obtain ⟨⟨cur,hc,hs⟩,h2⟩:=h
 have:cur=aW n z:=Array.ext_getElem? fun i=> by
  by_cases hi:i<n
  ·rw [←cell_of_row w b i cur e (0,0) hc,h2 i hi,jH hi]
  ·rw [Array.getElem?_eq_none (by omega),Array.getElem?_eq_none (by rw [bR];omega)]
 rw [hc,this]
theorem fV {P:Program} {fn:Func} {p q:Tmp} {T:TypeId} (h:fn.results=#[.cell p T,.tmp q]) (tmps:Array Value) (w:World) (b n:Nat) (z:Nat→Value) (e:TypeId) {d:TypeDesc}
  (hp:tmps.getD p undef=.pointer (some ⟨b,0,none⟩)) (ha:aV w b n e z) (hu:P.underlying T=some d) (hd:xZ d=true) (hi:(P.info? T).map (·.size)=some n):
  (results fn tmps).run P w=.ok (.tuple #[.agg (aW n z),tmps.getD q undef]) w:=by
 have ht:=aV.at ha
 have hp':tmps[p]?.getD undef=.pointer (some ⟨b,0,none⟩):=by simpa using hp
 simp [results,h,hp',asAddr,run_loadVar_row w b e T (aW n z) (0,0) _ ht hu (by cases d<;> first | rfl | cases hd) (by rw [hi,bR])]
theorem ng {nm:ByteArray} {L:List eZ} (hR:gq (lZ F) 78 3 w v L q):Calls Tryz.prog 108 #[v,.string nm] w fun e w'=> ∃z,e=.returned (.tuple #[.agg (aW 3 z),.bool (fB L nm).2])∧lZ F w' z (fB L nm).1∧Below w.heap.size w w':=by
 have HB:=Lib.hid hR.bs
 have wM:=Lib.hid hR.os.m
 obtain ⟨m,hm⟩:∃m,m=L.length:=⟨_,rfl⟩
 have HM:=Lib.hid hm
 rw [←hm] at wM
 obtain ⟨a,cap,rfl,hcap,hcap2⟩:=wM.out.slice
 have yS:=Lib.hid (fun (w1:World) (b1:Below w.heap.size w w1) (c:Nat) (hc:w1.cell? ⟨c,0,none⟩=some (.string nm)) (hl:c<w1.heap.size)=> vK (nm:=nm) (⟨hR.os.below b1,fun j a ha=> (HB.out j a ha).below b1⟩:gq (lZ F) 78 3 w1 _ L q) hc hl)
 obtain ⟨PA,qH⟩:∃x,x=fB L nm:=⟨_,rfl⟩
 have qN:=Lib.hid qH
 rw [←qH]
 obtain ⟨RI,qG⟩:∃r,r=iJ (L.map (·.nm)) nm:=⟨_,rfl⟩
 have yP:=Lib.hid qG
 rw [←qG] at yS
 clear hR hm qH qG
 go_enter Tryz.func108,Tryz.ntmps108
 go_upto_region 1 with (fail)
 rw [←za]
 refine aI (fun w1=> w1.cell? ⟨w.heap.size,0,none⟩=some (.string nm)∧aV w1 (w.heap.size+1) 3 78 Bw∧w.heap.size<w1.heap.size∧Below w.heap.size w w1) ⟨?_,?_,?_,((Below.refl _ _).alloc (Nat.le_refl _) _).alloc (by simp) _⟩ ?_
 ·exact (((Below.refl (w.heap.size+1) (w.alloc (.cells #[.string nm] 9))).alloc (by simp) _).cell (p:=⟨w.heap.size,0,none⟩) (by simp)).trans (cell_of_row _ _ 0 _ _ (0,0) (heap_alloc_new w _))
 ·have:=aV.new (w:=w.alloc (.cells #[.string nm] 9)) (n:=3) (z:=Bw) (t:=78)
  rw [World.size_alloc] at this
  exact this
 ·rw [World.size_alloc,World.size_alloc];omega
 rintro w1 ⟨k0,r1,s1,b1⟩
 have K0:=Lib.hid k0
 have R1:=Lib.hid r1
 have S1:=Lib.hid s1
 have B1:=Lib.hid b1
 obtain ⟨x4,hx4⟩:∃x,x=w.heap.size+1:=⟨_,rfl⟩
 have tT:Hid (w.heap.size≤x4):=Lib.hid (by omega)
 rw [←hx4] at R1 ⊢
 obtain ⟨x3,hx3⟩:∃x,x=w.heap.size:=⟨_,rfl⟩
 have wU:=Lib.hid hx3
 rw [←hx3] at K0 S1 ⊢
 clear k0 r1 s1 b1 hx3 hx4
 go_wp2_with fail
 refine (yS.out w1 (wU.out▸B1.out) x3 K0.out S1.out).mono ?_
 rintro e w2 ⟨rfl,b2⟩
 have R2:=Lib.hid (R1.out.below b2)
 have B2:=Lib.hid (B1.out.trans (b2.mono B1.out.size))
 clear b2 R1 K0
 by_cases hf:kH (L.map (·.nm)) nm<L.length
 ·obtain ⟨k,hk⟩:∃k,k=kH (L.map (·.nm)) nm:=⟨_,rfl⟩
  obtain rfl:RI=(k:Int):=yP.out.trans (by unfold iJ;rw [List.length_map,if_pos hf,hk])
  obtain ⟨d,hd⟩:∃d,L[k]? =some d:=⟨_,List.getElem?_eq_getElem (by rw [hk];exact hf)⟩
  obtain rfl:PA=(d,true):=qN.out.trans (by unfold fB;rw [←hk,hd])
  have hlt:k<m:=by rw [HM.out,hk];exact hf
  obtain ⟨g,cap',e,hrow,_,_,hcell⟩:=wM.out.form (by omega)
  cases e
  have hgl:g<w.heap.size:=hrow.lt
  have pK:Hid (∀i,i<3→w2.cell? ⟨g,k * 3+i,none⟩=some (q k i)):=fun i hi=> (B2.out.cell (p:=⟨g,k * 3+i,none⟩) (wU.out▸hgl)).trans (hcell k hlt i hi)
  have Ed:=Lib.hid (HB.out k d hd).one
  have HDK:=Lib.hid hd
  have q1:decide ((k:Int)<0)=false:=decide_eq_false (by omega)
  clear hf hk hd hrow hcell hgl
  go_wp2_with (first
   | (refine aZ rfl rfl rfl Tryz.underlying78 rfl Tryz.sizePsC pK.out ?_)
   | (refine aU rfl 78 _ _ rfl x4 3 (q k) _ 78 (aV.at R2.out) (bR _ _) Tryz.sizePsC rfl rfl Ed.out ?_))
  exact bodyPost_ret (fV rfl _ _ x4 3 _ 78 rfl (aV.setRow (aV.at R2.out)) Tryz.underlying78 rfl Tryz.sizePsC) rfl ⟨_,rfl,(HB.out k d HDK.out).below (aH (wU.out▸B2.out) tT.out _),aH (wU.out▸B2.out) tT.out _⟩
 ·obtain rfl:RI= -1:=yP.out.trans (by unfold iJ;rw [List.length_map,if_neg hf])
  obtain rfl:PA=(⟨.empty, [], []⟩,false):=qN.out.trans (by unfold fB;rw [List.getElem?_eq_none (by omega)])
  clear hf
  go_wp2_with (refine aU rfl 78 _ _ rfl x4 3 Bw _ 78 (aV.at R2.out) (bR _ _) Tryz.sizePsC rfl rfl (qQ F w).one ?_)
  exact bodyPost_ret (fV rfl _ _ x4 3 _ 78 rfl (aV.setRow (aV.at R2.out)) Tryz.underlying78 rfl Tryz.sizePsC) rfl ⟨_,rfl,qQ F _,aH (wU.out▸B2.out) tT.out _⟩
theorem sZ {nm:ByteArray} {L:List jy} (hR:gq (qM F) 71 2 w v L q):Calls Tryz.prog 109 #[v,.string nm] w fun e w'=> e=.returned (.bool (decide (kH (L.map (·.nm)) nm<L.length)))∧Below w.heap.size w w':=by
 have HB:=Lib.hid hR.bs
 have yS:=Lib.hid (fun (w1:World) (b1:Below w.heap.size w w1) (c:Nat) (hc:w1.cell? ⟨c,0,none⟩=some (.string nm)) (hl:c<w1.heap.size)=> vN (nm:=nm) (⟨hR.os.below b1,fun j a ha=> (HB.out j a ha).below b1⟩:gq (qM F) 71 2 w1 _ L q) hc hl)
 obtain ⟨RI,qG⟩:∃r,r=iJ (L.map (·.nm)) nm:=⟨_,rfl⟩
 obtain ⟨RB,Fq⟩:∃r,r=decide (kH (L.map (·.nm)) nm<L.length):=⟨_,rfl⟩
 have FQ:Hid (RB=decide (0≤RI)):=Lib.hid (by
  rw [Fq,qG]
  unfold iJ
  rw [List.length_map]
  by_cases h:kH (L.map (·.nm)) nm<L.length
  ·rw [if_pos h,decide_eq_true h,decide_eq_true (by omega)]
  ·rw [if_neg h,decide_eq_false h];rfl)
 rw [←qG] at yS
 rw [←Fq]
 obtain ⟨m,hm⟩:∃m,m=L.length:=⟨_,rfl⟩
 obtain ⟨a,cap,rfl,hcap,hcap2⟩:=hR.os.m.slice
 rw [←hm] at yS ⊢
 clear hR HB hm qG Fq
 have Ku:Hid (∀(w1:World),Below w.heap.size w w1→∀(c:Nat),w1.cell? ⟨c,0,none⟩=some (.string nm)→c<w1.heap.size→Calls Tryz.prog 164 #[.slice a m cap,.func (.func 165) #[] #[.pointer (some ⟨c,0,none⟩)]] w1 fun e w'=> e=.returned (.bool (decide (0≤RI)))∧Below w1.heap.size w1 w'):=Lib.hid fun w1 b1 c hc hl=> by
  have HC:=Lib.hid (yS.out w1 b1 c hc hl)
  clear yS FQ hc hl b1
  go_enter Tryz.func164,Tryz.ntmps164
  go_wp2_with fail
  refine HC.out.mono ?_
  rintro e w2 ⟨rfl,b2⟩
  have B2:=Lib.hid b2
  clear b2
  go_wp2
  go_ret
  exact ⟨rfl,B2.out⟩
 clear yS
 go_enter Tryz.func109,Tryz.ntmps109
 go_upto_region 1 with (fail)
 refine aI (fun w1=> w1.cell? ⟨w.heap.size,0,none⟩=some (.string nm)∧w.heap.size<w1.heap.size∧Below w.heap.size w w1) ⟨cell_of_row _ _ 0 _ _ (0,0) (heap_alloc_new w _),by simp,(Below.refl _ _).alloc (Nat.le_refl _) _⟩ ?_
 rintro w1 ⟨k0,s1,b1⟩
 have K0:=Lib.hid k0
 have S1:=Lib.hid s1
 have B1:=Lib.hid b1
 clear k0 s1 b1
 go_wp2_with fail
 refine (Ku.out w1 B1.out _ K0.out S1.out).mono ?_
 rintro e w2 ⟨rfl,b2⟩
 have B2:=Lib.hid (B1.out.trans (b2.mono B1.out.size))
 have HE:=Lib.hid FQ.out.symm
 clear b2
 go_wp2
 go_ret
 exact ⟨by rw [FQ.out];rfl,B2.out⟩
end
end Go.Proofs.YtpcjekgfnfjbpaaGreat
namespace Go.aG
open Go.RowKit
theorem iX {A:Type} {p q:A→Bool} (h:∀x,p x=true→q x=true):∀{l:List A} {d:A},d ∈ l→q d=true→p d=false→l.countP p+1≤l.countP q
 | [],d,hd,_,_=> by cases hd
 | a::l,d,hd,h1,h2=> by
  have hle:l.countP p≤l.countP q:=List.countP_mono_left fun x _=> h x
  rw [List.countP_cons,List.countP_cons]
  rcases List.mem_cons.1 hd with rfl | hd
  ·rw [h1,h2];simp;omega
  ·have:=iX h hd h1 h2
   by_cases hp:p a=true
   ·rw [if_pos hp,if_pos (h a hp)];omega
   ·rw [if_neg hp];omega
theorem xS {ns:List ByteArray} {nm:ByteArray}:kH ns nm<ns.length ↔ nm ∈ ns:=by
 unfold kH
 rw [List.findIdx_lt_length]
 constructor
 ·rintro ⟨x,hx,h⟩
  have h:x=nm:=by simpa using h
  exact h▸hx
 ·intro h
  exact ⟨nm,h,by simp⟩
def mX (o:List jy) (nm:ByteArray):Bool:=decide (kH (o.map (·.nm)) nm<o.length)
theorem jS {o:List jy} {nm:ByteArray}:mX o nm=true ↔ nm ∈ o.map (·.nm):=by
 unfold mX
 rw [decide_eq_true_iff,←xS,List.length_map]
end Go.aG
namespace Go.Proofs.YtpcjekgfnfjbpaaGreat
open Go.RowKit Go.aG Go.ChangeShapes Go.Maps
attribute [local go_sem ↓] Go.wp_at_zero Go.wp_at_succ
structure gI (T:Type) where
 X:T
 out:List jy
 bad:Bool
section
variable {B : Nat} {w w' w0 w1 w2 w3 : World} {p : Nat} {F F' F0 : Nat → Prop} {v u vo DJ : Value} {x : List Int} {z : Nat → Value} {q qo : Nat → Nat → Value}
def Eng.one (E:Eng B) (ro:List eZ) (h:jy) (s:gI E.σ) (d:fq):gI E.σ:=
 if d.ta=h.nm then
  if (fB ro d.fr).2=false∨(E.take s.X (fB ro d.fr).1 h.sc d.b).2.1≠0 then ⟨(E.take s.X (fB ro d.fr).1 h.sc d.b).2.2,s.out,true⟩
  else if mX s.out d.fr=true then ⟨(E.take s.X (fB ro d.fr).1 h.sc d.b).2.2,s.out,s.bad⟩
  else ⟨(E.take s.X (fB ro d.fr).1 h.sc d.b).2.2,s.out++ [⟨d.fr,(E.take s.X (fB ro d.fr).1 h.sc d.b).1⟩],s.bad⟩
 else s
def Eng.inn (E:Eng B) (ro:List eZ) (D:List fq) (h:jy) (s:gI E.σ):Nat→gI E.σ
 | 0=> s
 | k+1=> match D[k]? with
  | some d=> E.one ro h (E.inn ro D h s k) d
  | none=> E.inn ro D h s k
def Eng.all (E:Eng B) (ro:List eZ) (D:List fq) (s:gI E.σ):Nat→gI E.σ
 | 0=> s
 | i+1=> match (E.all ro D s i).out[i]? with
  | some h=> E.inn ro D h (E.all ro D s i) D.length
  | none=> E.all ro D s i
variable {E : Eng B} {X : E.σ} {ro : List eZ} {D : List fq} {s : gI E.σ} {h : jy} {d : fq}
theorem Eng.rG (E:Eng B) (ro:List eZ) (h:jy) (s:gI E.σ) (d:fq):s.out <+:(E.one ro h s d).out:=by
 unfold Eng.one
 split
 ·split
  ·exact List.prefix_refl _
  ·split
   ·exact List.prefix_refl _
   ·exact List.prefix_append _ _
 ·exact List.prefix_refl _
theorem Eng.jq (E:Eng B) (ro:List eZ) (D:List fq) (h:jy) (s:gI E.σ):∀k,s.out <+:(E.inn ro D h s k).out
 | 0=> List.prefix_refl _
 | k+1=> by
  show s.out <+:(match D[k]? with | some d=> E.one ro h (E.inn ro D h s k) d | none=> E.inn ro D h s k).out
  split
  ·exact (Eng.jq E ro D h s k).trans (E.rG _ _ _ _)
  ·exact Eng.jq E ro D h s k
theorem eT {A:Type} {l l':List A} (h:l <+:l') {j:Nat} {a:A} (ha:l[j]? =some a):l'[j]? =some a:=by
 obtain ⟨t,rfl⟩:=h
 rw [List.getElem?_append_left (List.getElem?_eq_some_iff.1 ha).1]
 exact ha
def gW (D:List fq) (o:List jy):Nat:=D.countP fun d=> mX o d.fr
theorem Eng.xD (hd:d ∈ D) (hs:s.out.length≤1+gW D s.out):(E.one ro h s d).out.length≤1+gW D (E.one ro h s d).out:=by
 unfold Eng.one
 split
 ·split
  ·exact hs
  ·split
   ·exact hs
   ·rename_i hn
    have:gW D s.out+1≤gW D (s.out++ [⟨d.fr,(E.take s.X (fB ro d.fr).1 h.sc d.b).1⟩]):=iX (fun x hx=> by
     rw [jS] at hx ⊢
     rw [List.map_append,List.mem_append]
     exact .inl hx) hd (by rw [jS];simp) (by simpa using hn)
    show (s.out++ [_]).length≤1+gW D (s.out++ [_])
    rw [List.length_append,List.length_singleton]
    omega
 ·exact hs
theorem Eng.mV (hs:s.out.length≤1+gW D s.out):∀k,(E.inn ro D h s k).out.length≤1+gW D (E.inn ro D h s k).out
 | 0=> hs
 | k+1=> by
  have:=Eng.mV hs k
  show (match D[k]? with | some d=> E.one ro h (E.inn ro D h s k) d | none=> E.inn ro D h s k).out.length≤1+gW D (match D[k]? with | some d=> E.one ro h (E.inn ro D h s k) d | none=> E.inn ro D h s k).out
  split
  ·rename_i d hd
   exact Eng.xD (List.mem_of_getElem? hd) this
  ·exact this
theorem Eng.nG (hs:s.out.length≤1+gW D s.out):∀i,(E.all ro D s i).out.length≤1+gW D (E.all ro D s i).out
 | 0=> hs
 | i+1=> by
  have:=Eng.nG hs i
  show (match (E.all ro D s i).out[i]? with | some h=> E.inn ro D h (E.all ro D s i) D.length | none=> E.all ro D s i).out.length≤1+gW D (match (E.all ro D s i).out[i]? with | some h=> E.inn ro D h (E.all ro D s i) D.length | none=> E.all ro D s i).out
  split
  ·exact Eng.mV this _
  ·exact this
theorem nu (D:List fq) (o:List jy):gW D o≤D.length:=by unfold gW;exact List.countP_le_length
theorem Eng.Jb (E:Eng B) (X:E.σ) (P:eZ) (s b:List Int):E.sz (E.take X P s b).2.2≤E.sz X+2:=by
 have h1:=E.BJ X (E.nS X s b).1
 have h2:=E.Ew (E.pub X (E.nS X s b).1).2.2 (E.nS X s b).1
 unfold Eng.take
 split
 ·split
  ·show E.sz (E.ver (E.pub X (E.nS X s b).1).2.2 (E.nS X s b).1).2.2≤_
   omega
  ·show E.sz (E.ver (E.pub X (E.nS X s b).1).2.2 (E.nS X s b).1).2.2≤_
   omega
 ·show E.sz X≤_
  omega
theorem Eng.zy:E.sz (E.one ro h s d).X≤E.sz s.X+2:=by
 have:=E.Jb s.X (fB ro d.fr).1 h.sc d.b
 unfold Eng.one
 split
 ·split
  ·exact this
  ·split<;> exact this
 ·omega
theorem Eng.mU:∀k,E.sz (E.inn ro D h s k).X≤E.sz s.X+2 * k
 | 0=> Nat.le_refl _
 | k+1=> by
  have:=Eng.mU k
  show E.sz (match D[k]? with | some d=> E.one ro h (E.inn ro D h s k) d | none=> E.inn ro D h s k).X≤_
  split
  ·rename_i d hd
   have:=Eng.zy (E:=E) (ro:=ro) (h:=h) (s:=E.inn ro D h s k) (d:=d)
   omega
  ·omega
theorem Eng.nE:∀i,E.sz (E.all ro D s i).X≤E.sz s.X+2 * (i * D.length)
 | 0=> by simp [Eng.all]
 | i+1=> by
  have:=Eng.nE i
  have e:(i+1) * D.length=i * D.length+D.length:=Nat.succ_mul i D.length
  show E.sz (match (E.all ro D s i).out[i]? with | some h=> E.inn ro D h (E.all ro D s i) D.length | none=> E.all ro D s i).X≤_
  split
  ·rename_i h hh
   have:=Eng.mU (E:=E) (ro:=ro) (D:=D) (h:=h) (s:=E.all ro D s i) D.length
   omega
  ·omega
structure kZ (E:Eng B) (w0:World) (p:Nat) (F0:Nat→Prop) (w:World) (vo:Value) (s:gI E.σ) (F:Nat→Prop) (qo:Nat→Nat→Value):Prop where
 m:E.M w p F s.X
 ou:gq (qM F) 71 2 w vo s.out qo
 oo:∀b,vo.ownBlock=some b→¬ (b=p∨F b)∧w0.heap.size≤b
 ch:dV p F0 w0 w
 fo:∀b,F b→F0 b∨w0.heap.size≤b
theorem kZ.below (g:kZ E w0 p F0 w vo s F qo) (hb:Below w.heap.size w w'):kZ E w0 p F0 w' vo s F qo:=
 ⟨E.below g.m hb,⟨g.ou.os.below hb,fun j a ha=> (g.ou.bs j a ha).below hb⟩,g.oo,g.ch.trans (dV.of_below hb F) g.fo,g.fo⟩
theorem kZ.res {r:List Int × Int × E.σ} (g:kZ E w0 p F0 w vo s F qo) (hr:E.DZ w p F u r w'):∃F',kZ E w0 p F0 w' vo ⟨r.2.2,s.out,s.bad⟩ F' qo∧aT F' w' u r.1:=by
 obtain ⟨F',h1,h2,h3,h4⟩:=hr
 have hs:=g.ch.dz.size
 refine ⟨F',⟨h1,⟨g.ou.os.dz h3.dz fun b hb=> (g.oo b hb).1,fun j a ha=> (g.ou.bs j a ha).iY h3 h4⟩,fun b hb=> ⟨fun hf=> hf.elim (fun e=> (g.oo b hb).1 (.inl e)) fun hf=> (h4 b hf).elim (fun e=> (g.oo b hb).1 (.inr e)) fun h'=> by have:=g.ou.os.m.lt b hb;omega,(g.oo b hb).2⟩,g.ch.trans h3 g.fo,fun b hb=> (h4 b hb).elim (g.fo b) fun h=> .inr (Nat.le_trans hs h)⟩,h2⟩
theorem kZ.bad (g:kZ E w0 p F0 w vo s F qo) (b:Bool):kZ E w0 p F0 w vo ⟨s.X,s.out,b⟩ F qo:=⟨g.m,g.ou,g.oo,g.ch,g.fo⟩
theorem kZ.app {nm:ByteArray} (g:kZ E w0 p F0 w vo s F qo) (hu:aT F w u x) (ho:ig 71 2 w' DJ (s.out.length+1) (fD s.out.length qo (fun _ i=> if i=0 then .string nm else u)))
  (hc:bB (fun b=> vo.ownBlock=some b) w w') (hp:∀b,DJ.ownBlock=some b→vo.ownBlock=some b∨w.heap.size≤b):kZ E w0 p F0 w' DJ ⟨s.X,s.out++ [⟨nm,x⟩],s.bad⟩ F (fun j=> if j=s.out.length then (fun i=> if i=0 then .string nm else u) else qo j):=by
 have hk:∀{v:Value} {l:List Int},aT F w v l→aT F w' v l:=fun g'=> ⟨g'.ok,g'.rd.CB hc fun hn b hb hg=> (g.ou.os.z b hg).ne g'.rd hn b hb rfl,g'.off⟩
 have hs:=g.ch.dz.size
 refine ⟨E.keep g.m hc (fun e=> (g.oo p e).1 (.inl rfl)) fun b hb e=> (g.oo b e).1 (.inr hb),⟨?_,fun j a ha=> ?_⟩,fun b hb=> ?_,⟨g.ch.dz.trans hc fun b hb he=> by have:=(g.oo b he).2;omega,fun b hb hn i x hx=> (hc.cell (p:=⟨b,i,none⟩) (Nat.lt_of_lt_of_le hb hs) (fun he=> by have:=(g.oo b he).2;omega)).trans (g.ch.u8 b hb hn i x hx)⟩,g.fo⟩
 ·show ig _ _ _ _ (s.out++ [(⟨nm,x⟩:jy)]).length _
  rw [List.length_append,List.length_singleton]
  refine ho.congr fun j hj i hi=> ?_
  by_cases hjl:j<s.out.length
  ·rw [jv hjl,if_neg (by omega)]
  ·obtain rfl:j=s.out.length:=by omega
   rw [ny,if_pos rfl]
 ·have ha:(s.out++ [⟨nm,x⟩])[j]? =some a:=ha
  by_cases hj:j<s.out.length
  ·rw [List.getElem?_append_left hj] at ha
   rw [if_neg (by omega)]
   have:=g.ou.bs j a ha
   exact ⟨this.z0,hk this.z1⟩
  ·have:=(List.getElem?_eq_some_iff.1 ha).1
   rw [List.length_append,List.length_singleton] at this
   obtain rfl:j=s.out.length:=by omega
   rw [List.getElem?_append_right (Nat.le_refl _),Nat.sub_self] at ha
   rw [if_pos rfl,←Option.some.inj ha]
   exact ⟨rfl,hk hu⟩
 ·rcases hp b hb with h' | h'
  ·exact g.oo b h'
  ·exact ⟨fun hf=> by have:=E.lt g.m hf;omega,Nat.le_trans hs h'⟩
end
end Go.Proofs.YtpcjekgfnfjbpaaGreat
namespace Go.aG
open Go.RowKit
section
variable {P : Program} {o : Oper} {a : Act} {w : World}
theorem aY {T:TypeId} {x:Operand} {b i:Nat} {v:Value} (ho:o.op=.load T x) (hx:a.eval x=.pointer (some ⟨b,i,none⟩)) (hu:P.underlying T=some .string) (hc:w.cell? ⟨b,i,none⟩=some v):(execOp a.eval o).run P w=.ok (.value v) w:=by
 unfold execOp;simp only [ho,hx]
 simp [Instr.loadAt,Instr.sureAddr,loadVar,isAgg,run_underlying hu,go_sem,hc]
theorem iO {T U:TypeId} {x y:Operand} {s t:ByteArray} (ho:o.op=.binOp .neq T x y U) (hx:a.eval x=.string s) (hy:a.eval y=.string t) (hu:P.underlying T=some .string):
  (execOp a.eval o).run P w=.ok (.value (.bool (!decide (s=t)))) w:=by
 have e:=wm s t
 unfold execOp
 simp only [ho,hx,hy]
 simp [go_sem,hu,e]
end
end Go.aG
namespace Go.Proofs.YtpcjekgfnfjbpaaGreat
open Go.RowKit Go.aG Go.ChangeShapes Go.Maps
attribute [local go_sem ↓] Go.wp_at_zero Go.wp_at_succ
theorem Tryz.infoHeld:(Tryz.prog.info? 71).map (fun i=> (i.zero,i.size,i.bytes))=some (some (.agg #[.string ⟨#[]⟩,.slice none 0 0]),2,40):=by kernel_rfl
theorem Tryz.sizeDp:(Tryz.prog.info? 66).map (·.size)=some 3:=by kernel_rfl
section
variable {B : Nat} {w w' w0 w1 w2 w3 : World} {p : Nat} {F F' F0 : Nat → Prop} {v u vo DJ vr vl vs : Value} {x sec : List Int} {z zd : Nat → Value} {q qo qr qd : Nat → Nat → Value} {E : Eng B} {X : E.σ} {ro : List eZ} {D : List fq} {s : gI E.σ} {R : List Int × Int × E.σ} {iw : Nat}
def kV (E:Eng B) (w0:World) (p:Nat) (F0:Nat→Prop) (vo:Value) (s:gI E.σ) (qo:Nat→Nat→Value) (R:List Int × Int × E.σ) (iw:Nat) (zd:Nat→Value) (w:World) (v:Value):Prop:=aV w iw 3 66 zd∧∃F' u,v=.tuple #[u,.int .i64 R.2.1] ∧kZ E w0 p F0 w vo ⟨R.2.2,s.out,s.bad⟩ F' qo∧aT F' w u R.1
theorem kV.below (h:kV E w0 p F0 vo s qo R iw zd w v) (hb:Below w.heap.size w w'):kV E w0 p F0 vo s qo R iw zd w' v:=by
 obtain ⟨h0,F',u,e,h1,h2⟩:=h
 exact ⟨h0.below hb,F',u,e,h1.below hb,h2.below hb⟩
def nH (E:Eng B) (w0:World) (p:Nat) (F0:Nat→Prop) (vo:Value) (s:gI E.σ) (qo:Nat→Nat→Value) (R:List Int × Int × E.σ) (iw:Nat) (zd:Nat→Value) (w:World) (v:Value):Prop:=aV w iw 3 66 zd∧∃F',kZ E w0 p F0 w vo ⟨R.2.2,s.out,s.bad⟩ F' qo∧aT F' w v R.1
theorem nH.below (h:nH E w0 p F0 vo s qo R iw zd w v) (hb:Below w.heap.size w w'):nH E w0 p F0 vo s qo R iw zd w' v:=by
 obtain ⟨h0,F',h1,h2⟩:=h
 exact ⟨h0.below hb,F',h1.below hb,h2.below hb⟩
theorem kZ.kept {A:Type} {Rw:(Nat→Prop)→World→(Nat→Value)→A→Prop} {e:TypeId} {c:Nat} {L:List A} (g:kZ E w0 p F0 w vo s F qo) (hc:∀{p F F' w w' z a},Rw F w z a→dV p F w w'→(∀b,F' b→F b∨w.heap.size≤b)→Rw F' w' z a) (h:gq (Rw F0) e c w0 v L q) (hn:∀b,v.ownBlock=some b→¬ (b=p∨F0 b)):gq (Rw F) e c w v L q:=
 ⟨h.os.dz g.ch.dz hn,fun j a ha=> hc (h.bs j a ha) g.ch g.fo⟩
theorem lS {me:ByteArray} (h:E.M w p F X) (hR:gq (lZ F) 78 3 w vr ro qr) (Ho:∀b,vr.ownBlock=some b→¬ (b=p∨F b)) (hD:gq (nL F) 66 3 w vl D qd) (hDn:∀b,vl.ownBlock=some b→¬ (b=p∨F b)) (hs:aT F w vs sec) (hm:D.length≤10) (hb:∀(j:Nat) d,D[j]? =some d→d.b.length≤400) (hsl:sec.length≤1000) (hz:E.sz X≤600):
  Calls Tryz.prog 48 #[.pointer (some ⟨p,0,none⟩),vr,vl,.string me,vs] w fun e w'=> ∃i vo,e=.returned (.tuple #[vo,.bool (E.all ro D ⟨X, [⟨me,sec⟩],false⟩ i).bad])∧(E.all ro D ⟨X, [⟨me,sec⟩],false⟩ i).out.length=i∧∃F' qo,kZ E w p F w' vo (E.all ro D ⟨X, [⟨me,sec⟩],false⟩ i) F' qo:=by
 obtain ⟨ST,hST⟩:∃f,f=E.all ro D ⟨X, [⟨me,sec⟩],false⟩:=⟨_,rfl⟩
 have Bl:Hid (ST 0=⟨X, [⟨me,sec⟩],false⟩):=Lib.hid (by rw [hST];rfl)
 have Ka:Hid (∀i g,(ST i).out[i]? =some g→ST (i+1)=E.inn ro D g (ST i) D.length):=Lib.hid fun i g hg=> by
  rw [hST] at hg ⊢
  show (match (E.all ro D ⟨X, [⟨me,sec⟩],false⟩ i).out[i]? with | some h=> E.inn ro D h (E.all ro D ⟨X, [⟨me,sec⟩],false⟩ i) D.length | none=> E.all ro D ⟨X, [⟨me,sec⟩],false⟩ i)= _
  rw [hg]
 have Io:Hid (∀i,(ST i).out.length≤1+gW D (ST i).out):=Lib.hid fun i=> by rw [hST];exact Eng.nG (by simp) i
 have Bh:Hid (∀i,E.sz (ST i).X≤600+20 * i):=Lib.hid fun i=> by
  rw [hST]
  have:=Eng.nE (E:=E) (ro:=ro) (D:=D) (s:=⟨X, [⟨me,sec⟩],false⟩) i
  have h2:i * D.length≤i * 10:=Nat.mul_le_mul_left _ hm
  have h3:E.sz (gI.mk X [⟨me,sec⟩] false).X≤600:=hz
  omega
 rw [←hST]
 have H:=Lib.hid h
 have HR:=Lib.hid hR
 have HD:=Lib.hid hD
 have Kg:=Lib.hid Ho
 have KA:=Lib.hid hDn
 have HS:=Lib.hid hs
 have HB:=Lib.hid hb
 have yt:=Lib.hid hm
 obtain ⟨m,hm'⟩:∃m,m=D.length:=⟨_,rfl⟩
 have HM:=Lib.hid hm'
 have HSL:=Lib.hid hsl
 obtain ⟨ar,cr,Jt,_,_⟩:=hR.os.m.slice
 obtain ⟨al,cl,Hy,_,_⟩:=hD.os.m.slice
 obtain ⟨Ia,cs,evs⟩:=hs.slice
 rw [←hm'] at Hy
 subst Jt
 subst Hy
 subst evs
 clear h hR hD Ho hDn hs hb hm hm' hz hST hsl
 go_enter Tryz.func48,Tryz.ntmps48
 go_wp2_with fail
 refine (lU _ _ _ w HS.out.rd (by have:=HSL.out;omega)).mono ?_
 rintro e w1 ⟨vc,rfl,hown,b1⟩
 have YC:Hid (aT F w1 vc sec):=Lib.hid (by have:=aT.own (F:=F) hown (fun i hi=> HS.out.ok.at i hi) (fun b hb=> E.lt H.out (.inr hb));rwa [qA] at this)
 have B1:=Lib.hid b1
 obtain ⟨Fx,Fw,Jw⟩:=YC.out.slice
 subst Jw
 clear hown b1
 go_upto_region 3 with (fail)
 have Kn:Hid (¬ (w1.heap.size=p∨F w1.heap.size)):=Lib.hid fun hh=> by have:=E.lt H.out hh;have:=B1.out.size;omega
 refine aI (fun w2=> kZ E w p F w2 (.slice (some ⟨w1.heap.size,0,none⟩) 1 1) (ST 0) F (fun _ i=> if i=0 then .string me else .slice Fx sec.length Fw)) ?_ ?_
 ·have ba:=(Below.refl w1.heap.size w1).alloc (Nat.le_refl _) (.cells #[.string me,.slice Fx sec.length Fw] 71)
  have bt:=B1.out.trans (ba.mono B1.out.size)
  rw [Bl.out]
  refine ⟨E.below H.out bt,⟨⟨bP.new w1 _ 2 (by unfold maxLen;decide) rfl fun j hj i hi=> ?_,fun b hb=> ?_⟩,fun j a ha=> ?_⟩,fun b hb=> ?_,dV.of_below bt F,fun b hb=> .inl hb⟩
  ·have hj:j<1:=hj
   obtain rfl:j=0:=by omega
   rcases (by omega:i=0∨i=1) with rfl | rfl<;> rfl
  ·obtain rfl:w1.heap.size=b:=by simpa [Value.ownBlock] using hb
   refine jl.row (heap_alloc_new w1 _) fun u hu=> ?_
   have hu:u=.string me∨u=.slice Fx sec.length Fw:=by simpa using hu
   rcases hu with rfl | rfl<;> exact fun x e=> by cases e
  ·have ha: [(⟨me,sec⟩:jy)][j]? =some a:=ha
   cases j with
   | zero=> obtain rfl:=Option.some.inj ha;exact ⟨rfl,YC.out.below ba⟩
   | succ j=> simp at ha
  ·obtain rfl:w1.heap.size=b:=by simpa [Value.ownBlock] using hb
   exact ⟨Kn.out,B1.out.size⟩
 rintro w2 ha2
 have HA2:=Lib.hid ha2
 clear ha2
 go_wp2
 go_loopw [12,13,14] (fun vo bd i wr=> ∃k:Nat,i=.int .i64 (k:Int)∧bd=.bool (ST k).bad∧k≤(ST k).out.length∧∃F' qo,kZ E w p F wr vo (ST k) F' qo) (fun _ _ i _=> 20 - (intOf i).toNat)
 case atStart=> exact ⟨0,rfl,by rw [Bl.out],Nat.zero_le _,F,_,HA2.out⟩
 case round=>
  rename World=> wo
  obtain ⟨k,rfl,rfl,hk,Fo,qo,hA⟩:=hrel
  have HA:=Lib.hid hA
  have yR:Hid ((ST k).out.length≤11):=Lib.hid (by have:=Io.out k;have:=nu D (ST k).out;have:=yt.out;omega)
  obtain ⟨av,cv,Ju,_,_⟩:=hA.ou.os.m.slice
  subst Ju
  clear hA
  by_cases hlt:k<(ST k).out.length
  ·obtain ⟨hh,hhd⟩:∃d,(ST k).out[k]? =some d:=⟨_,List.getElem?_eq_getElem hlt⟩
   obtain ⟨IN,Ac⟩:∃f,f=E.inn ro D hh (ST k):=⟨_,rfl⟩
   have HI0:Hid (IN 0=ST k):=Lib.hid (by rw [Ac];rfl)
   have Ga:Hid (ST (k+1)=IN m):=Lib.hid (by rw [Ka.out k hh hhd,Ac,HM.out])
   have HIS:Hid (∀j d,D[j]? =some d→IN (j+1)=E.one ro hh (IN j) d):=Lib.hid fun j d hd=> by
    rw [Ac]
    show (match D[j]? with | some d=> E.one ro hh (E.inn ro D hh (ST k) j) d | none=> E.inn ro D hh (ST k) j)= _
    rw [hd]
   have IJ:Hid (∀j,(IN j).out.length≤11):=Lib.hid fun j=> by
    have h1:=Eng.mV (E:=E) (ro:=ro) (h:=hh) (Io.out k) j
    rw [←Ac] at h1
    have:=nu D (IN j).out;have:=yt.out;omega
   have Kt:Hid (∀j,j≤m→E.sz (IN j).X≤880):=Lib.hid fun j hj=> by
    have h1:=Eng.mU (E:=E) (ro:=ro) (D:=D) (h:=hh) (s:=ST k) j
    rw [←Ac] at h1
    have:=Bh.out k;have:=yt.out;have:=HM.out;have:=yR.out;omega
   have IG:Hid (∀j,(IN j).out[k]? =some hh):=Lib.hid fun j=> by
    have:=eT (E.jq ro D hh (ST k) j) hhd
    rwa [←Ac] at this
   have eB:=Lib.hid hlt
   have q0:(k:Int)<((ST k).out.length:Int):=by omega
   clear hhd Ac hlt hk
   go_wp2
   go_loopw [12,13,34] (fun vo bd i wr=> ∃j:Nat,j≤m∧i=.int .i64 (j:Int)∧bd=.bool (IN j).bad∧∃F' qo,kZ E w p F wr vo (IN j) F' qo) (fun _ _ i _=> m - (intOf i).toNat)
   case atStart=> exact ⟨0,Nat.zero_le _,rfl,by rw [HI0.out],Fo,_,by rw [HI0.out];exact HA.out⟩
   case round=>
    obtain ⟨j,hj,rfl,rfl,Fi,qi,DU⟩:=hrel
    have AV:=Lib.hid DU
    have Dn:Hid (k<(IN j).out.length):=Lib.hid (List.getElem?_eq_some_iff.1 (IG.out j)).1
    obtain ⟨g,cap,Jv,hrow,hle,hcap,hcell⟩:=DU.ou.os.m.form (Nat.lt_of_le_of_lt (Nat.zero_le _) Dn.out)
    subst Jv
    have Gg:Hid (g<wr.heap.size):=Lib.hid hrow.lt
    have HQ:=Lib.hid (DU.ou.bs k hh (IG.out j))
    have FV:Hid (wr.cell? ⟨g,k * 2,none⟩=some (.string hh.nm)):=Lib.hid ((hcell k Dn.out 0 (by decide)).trans (by rw [HQ.out.z0]))
    obtain ⟨Ah,cs2,es2⟩:=HQ.out.z1.slice
    have FU:Hid (wr.cell? ⟨g,k * 2+1,none⟩=some (.slice Ah hh.sc.length cs2)):=Lib.hid ((hcell k Dn.out 1 (by decide)).trans (by rw [es2]))
    have Bj:Hid (aT Fi wr (.slice Ah hh.sc.length cs2) hh.sc):=Lib.hid (by rw [←es2];exact HQ.out.z1)
    obtain ⟨no,hno⟩:∃n,n=(IN j).out.length:=⟨_,rfl⟩
    have Iy:=Lib.hid hno
    have Iz:Hid (k<no):=Lib.hid (hno▸Dn.out)
    rw [←hno] at AV ⊢
    clear DU hrow hle hcap hcell es2 HQ hno
    by_cases hlt:j<m
    ·obtain ⟨gl,Jz,e,yI,_,_,vB⟩:=HD.out.os.m.form (by rw [←HM.out];omega)
     rw [←HM.out] at e
     cases e
     have hgl:gl<w.heap.size:=yI.lt
     have hn:=KA.out gl rfl
     have pK:Hid (∀i,i<3→wr.cell? ⟨gl,j * 3+i,none⟩=some (qd j i)):=Lib.hid fun i hi=> (AV.out.ch.dz.cell (p:=⟨gl,j * 3+i,none⟩) hgl hn).trans (vB j (by rw [←HM.out];exact hlt) i hi)
     obtain ⟨d,hd⟩:∃d,D[j]? =some d:=⟨_,List.getElem?_eq_getElem (by rw [←HM.out];exact hlt)⟩
     have eY:=Lib.hid (HB.out j d hd)
     have HDR:Hid (nL Fi wr (qd j) d):=Lib.hid ((HD.out.bs j d hd).iY AV.out.ch AV.out.fo)
     have IK:=Lib.hid HDR.out.one
     have IE:Hid (IN (j+1)=E.one ro hh (IN j) d):=Lib.hid (HIS.out j d hd)
     have tX:=Lib.hid hlt
     clear hd yI vB hgl hn
     go_upto_region 9 with (first | (refine aZ rfl rfl rfl Tryz.underlying66 rfl Tryz.sizeDp pK.out ?_) | (refine aU rfl 66 _ _ rfl wr.heap.size 3 (qd j) _ 66 (heap_alloc_new _ _) rfl Tryz.sizeDp rfl rfl IK.out ?_))
     refine aI (fun w4=> aV w4 wr.heap.size 3 66 (qd j)∧Below wr.heap.size wr w4) ⟨aV.setRow (heap_alloc_new _ _),aH ((Below.refl _ _).alloc (Nat.le_refl _) _) (Nat.le_refl _) _⟩ ?_
     rintro w4 ⟨hr4,hb4⟩
     have R4:=Lib.hid hr4
     have A4:=Lib.hid (AV.out.below hb4)
     have Ei:Hid (g<w4.heap.size):=Lib.hid (Nat.lt_of_lt_of_le Gg.out hb4.size)
     have O0:Hid (w4.cell? ⟨g,k * 2,none⟩=some (.string hh.nm)):=Lib.hid ((hb4.cell (p:=⟨g,k * 2,none⟩) Gg.out).trans FV.out)
     have O1:Hid (w4.cell? ⟨g,k * 2+1,none⟩=some (.slice Ah hh.sc.length cs2)):=Lib.hid ((hb4.cell (p:=⟨g,k * 2+1,none⟩) Gg.out).trans FU.out)
     have Ig:=Lib.hid (Bj.out.below hb4)
     have Gp:=Lib.hid (HDR.out.below hb4)
     have Dj:Hid (¬ (wr.heap.size=p∨Fi wr.heap.size)):=Lib.hid fun hf=> Nat.lt_irrefl _ (E.lt AV.out.m hf)
     have yh:Hid (wr.heap.size<w4.heap.size):=Lib.hid hr4.1.lt
     obtain ⟨iw,hx16⟩:∃x,x=wr.heap.size:=⟨_,rfl⟩
     rw [←hx16] at R4 Dj yh ⊢
     have D1:Hid (w4.cell? ⟨iw,1,none⟩=some (.string d.ta)):=Lib.hid ((R4.out.2 1 (by decide)).trans (by rw [Gp.out.z1]))
     obtain ⟨bq,hbq⟩:∃b,b= !decide (d.ta=hh.nm):=⟨_,rfl⟩
     have qP:=Lib.hid hbq
     clear hr4 hb4 hx16 hbq pK HDR IK
     refine bS (n:=89) (by kernel_rfl) (by kernel_rfl) (by kernel_rfl) rfl
      (fun ii vv _=> (match ii with | 0=> vv=.pointer (some ⟨iw,1,none⟩) | 1=> vv=.string d.ta | 2=> vv=.slice (some ⟨g,0,none⟩) no cap | 3=> vv=.int .i64 ((k:Int)) | 4=> vv=.pointer (some ⟨g,k * 2,none⟩) | 5=> vv=.pointer (some ⟨g,k * 2+0,none⟩) | 6=> vv=.string hh.nm | 7=> vv=.bool bq | _=> True))
      (fun w w'=> Below w.heap.size w w') (fun _ _ h=> h) (fun _ _ _ _ h _=> h) ?_ ?_
     ·refine Each.all ?_
      refine ⟨?_,?_,?_,?_,?_,?_,?_,?_,trivial⟩
      ·intro a w2 hB hF hd
       rw [if_pos (ay rfl)]
       refine aA (fun h=> by cases h) (aM (m:=0) (k:=1) rfl (hF.same 16 rfl) (by kernel_rfl)) ?_
       exact rfl
      ·intro a w2 hB hF hd
       rw [if_pos (ay rfl)]
       exact aA (fun h=> by cases h) (aY rfl (hd 0 _ rfl (aj rfl)) Tryz.underlying9 ((hB.cell (p:=⟨iw,1,none⟩) yh.out).trans D1.out)) rfl
      ·intro a w2 hB hF hd
       rw [if_pos (ay rfl)]
       exact aD _ (.inl rfl) (by simp) (hF.same 12 rfl)
      ·intro a w2 hB hF hd
       rw [if_pos (ay rfl)]
       exact aD _ (.inl rfl) (by simp) (hF.same 14 rfl)
      ·intro a w2 hB hF hd
       rw [if_pos (ay rfl)]
       exact aA (fun h=> by cases h) (aL (i:=k) (sz:=2) rfl (hd 2 _ rfl (aj rfl)) (hd 3 _ rfl (aj rfl)) Tryz.underlying67 Tryz.sizeHdC Iz.out) rfl
      ·intro a w2 hB hF hd
       rw [if_pos (ay rfl)]
       exact aA (fun h=> by cases h) (aM (m:=0) (k:=0) rfl (hd 4 _ rfl (aj rfl)) (by kernel_rfl)) rfl
      ·intro a w2 hB hF hd
       rw [if_pos (ay rfl)]
       exact aA (fun h=> by cases h) (aY rfl (hd 5 _ rfl (aj rfl)) Tryz.underlying9 ((hB.cell (p:=⟨g,k * 2,none⟩) Ei.out).trans O0.out)) rfl
      ·intro a w2 hB hF hd
       rw [if_pos (ay rfl)]
       exact aA (fun h=> by cases h) (iO rfl (hd 1 _ rfl (aj rfl)) (hd 6 _ rfl (aj rfl)) Tryz.underlying9) (congrArg Value.bool qP.out.symm)
     ·intro a w5 hB hF hS
      have ha:=aX rfl rfl hF [_,_,_,_,_,_,_,_] rfl ⟨hS 0 _ rfl,hS 1 _ rfl,hS 2 _ rfl,hS 3 _ rfl,hS 4 _ rfl,hS 5 _ rfl,hS 6 _ rfl,hS 7 _ rfl,trivial⟩
      simp only [puts,Act.put,List.setIfInBounds_toArray,List.set_cons_succ,List.set_cons_zero] at ha
      subst ha
      clear hS hF
      have A5:=Lib.hid (A4.out.below hB)
      have R5:=Lib.hid (R4.out.below hB)
      have CV:Hid (iw<w5.heap.size):=Lib.hid (Nat.lt_of_lt_of_le yh.out hB.size)
      have O5:Hid (w5.cell? ⟨g,k * 2+1,none⟩=some (.slice Ah hh.sc.length cs2)):=Lib.hid ((hB.cell (p:=⟨g,k * 2+1,none⟩) Ei.out).trans O1.out)
      have Gh:Hid (g<w5.heap.size):=Lib.hid (Nat.lt_of_lt_of_le Ei.out hB.size)
      have Ie:=Lib.hid (Ig.out.below hB)
      have Gn:=Lib.hid (Gp.out.below hB)
      clear hB A4 R4 O0 O1 Ei yh D1 Ig Gp
      have q9:(j:Int)<1000000:=by have:=tX.out;have:=yt.out;have:=HM.out;omega
      cases bq with
      | true=>
       have HE:Hid (IN (j+1)=IN j):=Lib.hid (IE.out.trans (if_neg (by simpa using qP.out)))
       go_wp2
       go_roundw
       case rel=> exact ⟨j+1,tX.out,by go_num,by rw [HE.out],Fi,qi,by rw [HE.out];exact A5.out⟩
       case measure=> have:=tX.out;simp [intOf] <;> omega
      | false=>
       have HT:Hid (d.ta=hh.nm):=Lib.hid (by simpa using qP.out)
       have c0:w5.cell? ⟨iw,0,none⟩=some (.string d.fr):=(R5.out.2 0 (by decide)).trans (by rw [Gn.out.z0])
       obtain ⟨⟨P1,P2⟩,qH⟩:∃x,x=fB ro d.fr:=⟨_,rfl⟩
       have FT:=Lib.hid (ng (nm:=d.fr) (A5.out.kept (fun h=> h.iY) HR.out Kg.out))
       rw [←qH] at FT
       have qN:=Lib.hid qH
       dsimp only at FT
       clear qH
       go_wp2_with fail
       refine FT.out.mono ?_
       rintro e w6 ⟨zp,rfl,EJ,b6⟩
       go_upto_region 11 with (refine aU rfl 78 _ _ rfl w6.heap.size 3 zp _ 78 (heap_alloc_new _ _) rfl Tryz.sizePs rfl rfl EJ.one ?_)
       refine aI (fun w7=> aV w7 w6.heap.size 3 78 zp∧Below w6.heap.size w6 w7) ⟨aV.setRow (heap_alloc_new _ _),aH ((Below.refl _ _).alloc (Nat.le_refl _) _) (Nat.le_refl _) _⟩ ?_
       rintro w7 ⟨EP,EZ⟩
       have yY:=b6.trans (EZ.mono b6.size)
       have A7:=Lib.hid (A5.out.below yY)
       have R16:=Lib.hid (R5.out.below yY)
       have JX:Hid (iw<w7.heap.size):=Lib.hid (Nat.lt_of_lt_of_le CV.out yY.size)
       have O7:Hid (w7.cell? ⟨g,k * 2+1,none⟩=some (.slice Ah hh.sc.length cs2)):=Lib.hid ((yY.cell (p:=⟨g,k * 2+1,none⟩) Gh.out).trans O5.out)
       have Kw:Hid (g<w7.heap.size):=Lib.hid (Nat.lt_of_lt_of_le Gh.out yY.size)
       have JG:=Lib.hid (Ie.out.below yY)
       have En:=Lib.hid (Gn.out.below yY)
       have JB:=Lib.hid (EJ.below EZ)
       have CW:Hid (w6.heap.size<w7.heap.size):=Lib.hid EP.1.lt
       have Ih:Hid (∀i,i<3→w7.cell? ⟨w6.heap.size,0+i,none⟩=some (zp i)):=Lib.hid fun i hi=> by rw [Nat.zero_add];exact EP.2 i hi
       obtain ⟨Ja,BS⟩:∃x,x=w6.heap.size:=⟨_,rfl⟩
       rw [←BS] at CW Ih ⊢
       obtain ⟨ad,cd,ed⟩:=En.out.z2.slice
       have D2:Hid (w7.cell? ⟨iw,2,none⟩=some (.slice ad d.b.length cd)):=Lib.hid ((R16.out.2 2 (by decide)).trans (by rw [ed]))
       have JC:Hid (aT Fi w7 (.slice ad d.b.length cd) d.b):=Lib.hid (by rw [←ed];exact En.out.z2)
       obtain ⟨⟨R1,R2,R3⟩,Fj⟩:∃r,r=E.take (IN j).X P1 hh.sc d.b:=⟨_,rfl⟩
       have Ke:=Lib.hid Fj
       have wG:Hid (∀w',Below w7.heap.size w7 w'→Calls Tryz.prog 51 #[.pointer (some ⟨p,0,none⟩),.agg (aW 3 zp),.slice Ah hh.sc.length cs2,.slice ad d.b.length cd] w' fun e wz=> ∃x,e=.returned x∧kV E w p F (.slice (some ⟨g,0,none⟩) no cap) (IN j) qi (R1,R2,R3) iw (qd j) wz x):=Lib.hid fun w' hb'=> by
        have hA':=A7.out.below hb'
        refine (qJ hA'.m (JB.out.below hb') (JG.out.below hb') (JC.out.below hb') eY.out (Nat.le_trans (Kt.out j (Nat.le_of_lt tX.out)) (by decide))).mono ?_
        rw [←Fj]
        rintro e wz ⟨u,rfl,hres⟩
        obtain ⟨F',h1,h2⟩:=hA'.res hres
        obtain ⟨_,_,_,hch,_⟩:=hres
        exact ⟨_,rfl,(R16.out.below hb').keep hch.dz Dj.out,F',u,rfl,h1,h2⟩
       clear EP EZ b6 yY EJ BS ed c0 Fj A5 R5 O5 Gh CV Ie Gn
       refine eP (n:=89) 9 (by kernel_rfl) (by kernel_rfl) (by kernel_rfl) (by kernel_rfl) (by kernel_rfl) rfl
        (fun ii vv=> (match ii with | 0=> vv=.pointer (some ⟨p,0,none⟩) | 1=> vv=.agg (aW 3 zp) | 2=> vv=.slice (some ⟨g,0,none⟩) no cap | 3=> vv=.int .i64 ((k:Int)) | 4=> vv=.pointer (some ⟨g,k * 2,none⟩) | 5=> vv=.pointer (some ⟨g,k * 2+1,none⟩) | 6=> vv=.slice Ah hh.sc.length cs2 | 7=> vv=.pointer (some ⟨iw,2,none⟩) | 8=> vv=.slice ad d.b.length cd | 12 | 14=> vv=.int .i64 (R2) | _=> True)) (fun ii vv ww=> (ii=9→kV E w p F (.slice (some ⟨g,0,none⟩) no cap) (IN j) qi (R1,R2,R3) iw (qd j) ww vv)∧(ii=10→kV E w p F (.slice (some ⟨g,0,none⟩) no cap) (IN j) qi (R1,R2,R3) iw (qd j) ww vv)∧(ii=11→nH E w p F (.slice (some ⟨g,0,none⟩) no cap) (IN j) qi (R1,R2,R3) iw (qd j) ww vv)∧(ii=13→nH E w p F (.slice (some ⟨g,0,none⟩) no cap) (IN j) qi (R1,R2,R3) iw (qd j) ww vv))
        (fun i v w w' h hE=> ⟨fun e=> kV.below (h.1 e) hE,fun e=> kV.below (h.2.1 e) hE,fun e=> nH.below (h.2.2.1 e) hE,fun e=> nH.below (h.2.2.2 e) hE⟩)
        (fun ww=> True) (fun _ _ _ _=> trivial) ?_ ?_ ?_
       ·refine Each.all ?_
        refine ⟨?_,?_,?_,?_,?_,?_,?_,?_,?_,(fun h=> absurd rfl h),?_,?_,?_,?_,?_,trivial⟩
        ·intro _ a w2 hB' hP hF hd
         have hB:=hB' (by kernel_rfl)
         rw [if_pos (ay rfl)]
         exact aD _ (.inl rfl) (by simp) ⟨(hF.same 0 rfl),fun h=> absurd h (by decide),fun h=> absurd h (by decide),fun h=> absurd h (by decide),fun h=> absurd h (by decide)⟩
        ·intro _ a w2 hB' hP hF hd
         have hB:=hB' (by kernel_rfl)
         rw [if_pos (ay rfl)]
         exact aA (fun h=> by cases h) (bW rfl (hF.same 17 rfl) Tryz.underlying78 rfl Tryz.sizePs (fun i hi=> (hB.cell (p:=⟨Ja,0+i,none⟩) CW.out).trans (Ih.out i hi))) ⟨rfl,fun h=> absurd h (by decide),fun h=> absurd h (by decide),fun h=> absurd h (by decide),fun h=> absurd h (by decide)⟩
        ·intro _ a w2 hB' hP hF hd
         have hB:=hB' (by kernel_rfl)
         rw [if_pos (ay rfl)]
         exact aD _ (.inl rfl) (by simp) ⟨(hF.same 12 rfl),fun h=> absurd h (by decide),fun h=> absurd h (by decide),fun h=> absurd h (by decide),fun h=> absurd h (by decide)⟩
        ·intro _ a w2 hB' hP hF hd
         have hB:=hB' (by kernel_rfl)
         rw [if_pos (ay rfl)]
         exact aD _ (.inl rfl) (by simp) ⟨(hF.same 14 rfl),fun h=> absurd h (by decide),fun h=> absurd h (by decide),fun h=> absurd h (by decide),fun h=> absurd h (by decide)⟩
        ·intro _ a w2 hB' hP hF hd
         have hB:=hB' (by kernel_rfl)
         rw [if_pos (ay rfl)]
         exact aA (fun h=> by cases h) (aL (i:=k) (sz:=2) rfl ((hd 2 _ rfl rfl).1) ((hd 3 _ rfl rfl).1) Tryz.underlying67 Tryz.sizeHdC Iz.out) ⟨rfl,fun h=> absurd h (by decide),fun h=> absurd h (by decide),fun h=> absurd h (by decide),fun h=> absurd h (by decide)⟩
        ·intro _ a w2 hB' hP hF hd
         have hB:=hB' (by kernel_rfl)
         rw [if_pos (ay rfl)]
         exact aA (fun h=> by cases h) (aM (m:=0) (k:=1) rfl ((hd 4 _ rfl rfl).1) (by kernel_rfl)) ⟨rfl,fun h=> absurd h (by decide),fun h=> absurd h (by decide),fun h=> absurd h (by decide),fun h=> absurd h (by decide)⟩
        ·intro _ a w2 hB' hP hF hd
         have hB:=hB' (by kernel_rfl)
         rw [if_pos (ay rfl)]
         exact aA (fun h=> by cases h) (aN rfl ((hd 5 _ rfl rfl).1) Tryz.underlying23 ((hB.cell (p:=⟨g,k * 2+1,none⟩) Kw.out).trans O7.out)) ⟨rfl,fun h=> absurd h (by decide),fun h=> absurd h (by decide),fun h=> absurd h (by decide),fun h=> absurd h (by decide)⟩
        ·intro _ a w2 hB' hP hF hd
         have hB:=hB' (by kernel_rfl)
         rw [if_pos (ay rfl)]
         refine aA (fun h=> by cases h) (aM (m:=0) (k:=2) rfl (hF.same 16 rfl) (by kernel_rfl)) ?_
         exact ⟨rfl,fun h=> absurd h (by decide),fun h=> absurd h (by decide),fun h=> absurd h (by decide),fun h=> absurd h (by decide)⟩
        ·intro _ a w2 hB' hP hF hd
         have hB:=hB' (by kernel_rfl)
         rw [if_pos (ay rfl)]
         exact aA (fun h=> by cases h) (aN rfl ((hd 7 _ rfl rfl).1) Tryz.underlying23 ((hB.cell (p:=⟨iw,2,none⟩) JX.out).trans D2.out)) ⟨rfl,fun h=> absurd h (by decide),fun h=> absurd h (by decide),fun h=> absurd h (by decide),fun h=> absurd h (by decide)⟩
        ·intro _ a w2 hB' hP hF hd
         rw [if_pos (ay rfl)]
         exact aD _ (.inl rfl) (by simp) ⟨trivial,fun h=> absurd h (by decide),fun _=> ((((hd 9 _ rfl rfl).2 (by kernel_rfl)).1 rfl)),fun h=> absurd h (by decide),fun h=> absurd h (by decide)⟩
        ·intro _ a w2 hB' hP hF hd
         rw [if_pos (ay rfl)]
         obtain ⟨r_,F_,u_,vJ,yG,yF⟩:=(((hd 10 _ rfl rfl).2 (by kernel_rfl)).2.1 rfl)
         exact aA (fun h=> by cases h) (bD rfl vJ rfl) ⟨trivial,fun h=> absurd h (by decide),fun h=> absurd h (by decide),fun _=> (⟨r_,F_,yG,yF⟩),fun h=> absurd h (by decide)⟩
        ·intro _ a w2 hB' hP hF hd
         rw [if_pos (ay rfl)]
         obtain ⟨r_,F_,u_,vJ,yG,yF⟩:=(((hd 10 _ rfl rfl).2 (by kernel_rfl)).2.1 rfl)
         exact aA (fun h=> by cases h) (bD rfl vJ rfl) ⟨rfl,fun h=> absurd h (by decide),fun h=> absurd h (by decide),fun h=> absurd h (by decide),fun h=> absurd h (by decide)⟩
        ·intro _ a w2 hB' hP hF hd
         rw [if_pos (ay rfl)]
         exact aD _ (.inr rfl) (by simp) ⟨trivial,fun h=> absurd h (by decide),fun h=> absurd h (by decide),fun h=> absurd h (by decide),fun _=> (((hd 11 _ rfl rfl).2 (by kernel_rfl)).2.2.1 rfl)⟩
        ·intro _ a w2 hB' hP hF hd
         rw [if_pos (ay rfl)]
         exact aD _ (.inr rfl) (by simp) ⟨((hd 12 _ rfl rfl).1),fun h=> absurd h (by decide),fun h=> absurd h (by decide),fun h=> absurd h (by decide),fun h=> absurd h (by decide)⟩
       ·intro o ho a w2 hB hF hd
        obtain rfl:=Option.some.inj ho
        refine ⟨by rw [ay rfl],?_⟩
        refine jA 51 #[.tmp 54,.tmp 55,.tmp 60,.tmp 62] _ rfl Tryz.call51 _ (CQ ((hd 0 _ rfl rfl).1) ((hd 1 _ rfl rfl).1) ((hd 6 _ rfl rfl).1) ((hd 8 _ rfl rfl).1)) (by simp) ((wG.out w2 hB).mono ?_)
        rintro e w3 ⟨x,rfl,hr⟩
        exact ⟨x,rfl,⟨trivial,fun _=> (hr),fun h=> absurd h (by decide),fun h=> absurd h (by decide),fun h=> absurd h (by decide)⟩,trivial⟩
       ·intro a w8 hP hF hS
        obtain ⟨x63,zM⟩:∃x,x=a.tmps.getD 63 undef:=⟨_,rfl⟩
        have JI:kV E w p F (.slice (some ⟨g,0,none⟩) no cap) (IN j) qi (R1,R2,R3) iw (qd j) w8 x63:=by rw [zM];exact ((hS 9 _ rfl).2 (by kernel_rfl)).1 rfl
        obtain ⟨Gq,zN⟩:∃x,x=a.tmps.getD 53 undef:=⟨_,rfl⟩
        have JJ:kV E w p F (.slice (some ⟨g,0,none⟩) no cap) (IN j) qi (R1,R2,R3) iw (qd j) w8 Gq:=by rw [zN];exact ((hS 10 _ rfl).2 (by kernel_rfl)).2.1 rfl
        obtain ⟨x64,zL⟩:∃x,x=a.tmps.getD 64 undef:=⟨_,rfl⟩
        have JH:nH E w p F (.slice (some ⟨g,0,none⟩) no cap) (IN j) qi (R1,R2,R3) iw (qd j) w8 x64:=by rw [zL];exact ((hS 11 _ rfl).2 (by kernel_rfl)).2.2.1 rfl
        obtain ⟨Gw,zT⟩:∃x,x=a.tmps.getD 19 undef:=⟨_,rfl⟩
        have Ii:nH E w p F (.slice (some ⟨g,0,none⟩) no cap) (IN j) qi (R1,R2,R3) iw (qd j) w8 Gw:=by rw [zT];exact ((hS 13 _ rfl).2 (by kernel_rfl)).2.2.2 rfl
        have ha:=aX rfl rfl hF [_,_,_,_,_,_,_,_,_,x63,Gq,x64,_,Gw,_] rfl ⟨(hS 0 _ rfl).1,(hS 1 _ rfl).1,(hS 2 _ rfl).1,(hS 3 _ rfl).1,(hS 4 _ rfl).1,(hS 5 _ rfl).1,(hS 6 _ rfl).1,(hS 7 _ rfl).1,(hS 8 _ rfl).1,zM.symm,zN.symm,zL.symm,(hS 12 _ rfl).1,zT.symm,(hS 14 _ rfl).1,trivial⟩
        simp only [puts,Act.put,List.setIfInBounds_toArray,List.set_cons_succ,List.set_cons_zero] at ha
        subst ha
        clear zM zN zL zT
        clear hS hF
        have HP:=Lib.hid Ii
        clear Ii JI JJ JH
        obtain ⟨EO,F8,GY,EK⟩:=HP.out
        have R8:=Lib.hid EO
        have A8:=Lib.hid GY
        have Y8:=Lib.hid EK
        obtain ⟨a9,c9,e9⟩:=EK.slice
        subst e9
        have wN:Hid (IN (j+1)=if P2=false∨R2≠0 then ⟨R3,(IN j).out,true⟩ else if mX (IN j).out d.fr=true then ⟨R3,(IN j).out,(IN j).bad⟩ else ⟨R3,(IN j).out++ [⟨d.fr,R1⟩],(IN j).bad⟩):=Lib.hid (by
         rw [IE.out]
         unfold Eng.one
         rw [if_pos HT.out,←qN.out]
         dsimp only
         rw [←Ke.out])
        have c0:w8.cell? ⟨iw,0,none⟩=some (.string d.fr):=(EO.2 0 (by decide)).trans (by rw [En.out.z0])
        clear EO GY EK HP hP
        cases P2 with
        | false=>
         have HE:Hid (IN (j+1)=⟨R3,(IN j).out,true⟩):=Lib.hid (wN.out.trans (if_pos (.inl rfl)))
         clear c0
         go_wp2
         go_roundw
         case rel=> exact ⟨j+1,tX.out,by go_num,by rw [HE.out],F8,qi,by rw [HE.out];exact A8.out.bad true⟩
         case measure=> have:=tX.out;simp [intOf] <;> omega
        | true=>
         by_cases hr2:R2=0
         ·have q1:(R2 !=0)=false:=by simpa using hr2
          have wP:Hid (IN (j+1)=if mX (IN j).out d.fr=true then ⟨R3,(IN j).out,(IN j).bad⟩ else ⟨R3,(IN j).out++ [⟨d.fr,R1⟩],(IN j).bad⟩):=Lib.hid (wN.out.trans (if_neg (fun h=> h.elim (fun e=> by cases e) fun h=> h hr2)))
          have Dt:=Lib.hid (sZ (nm:=d.fr) A8.out.ou)
          obtain ⟨hq,ET⟩:∃b,b=mX (IN j).out d.fr:=⟨_,rfl⟩
          rw [show decide (kH (List.map (·.nm) (gI.mk R3 (IN j).out (IN j).bad).out) d.fr<(gI.mk R3 (IN j).out (IN j).bad).out.length)=hq from ET.symm] at Dt
          rw [←ET] at wP
          clear hr2 ET
          go_wp2_with fail
          refine Dt.out.mono ?_
          rintro e w9 ⟨rfl,b9⟩
          have A9:=Lib.hid (A8.out.below b9)
          have c0:=((R8.out.below b9).2 0 (by decide)).trans (show some (qd j 0)=some (.string d.fr) by rw [En.out.z0])
          have Y9:=Lib.hid (Y8.out.below b9)
          clear b9
          cases hq with
          | true=>
           have HE:Hid (IN (j+1)=⟨R3,(IN j).out,(IN j).bad⟩):=Lib.hid (wP.out.trans (if_pos rfl))
           clear c0
           go_wp2
           go_roundw
           case rel=> exact ⟨j+1,tX.out,by go_num,by rw [HE.out],F8,qi,by rw [HE.out];exact A9.out⟩
           case measure=> have:=tX.out;simp [intOf] <;> omega
          | false=>
           have HE:Hid (IN (j+1)=⟨R3,(IN j).out++ [⟨d.fr,R1⟩],(IN j).bad⟩):=Lib.hid (wP.out.trans (if_neg (by decide)))
           go_wp2_with (at_builtin;refine dA (y:=fun i=> if i=0 then .string d.fr else .slice a9 R1.length c9) rfl _ _ rfl rfl (by rfl) A9.out.ou.os (by decide) Tryz.underlying67 Tryz.infoHeld rfl rfl (fun i hi=> by rcases (by omega:i=0∨i=1) with rfl | rfl;(· exact ⟨rfl,fun x e=> by cases e⟩);exact ⟨rfl,fun x e=> by cases e⟩) (fun z hz=> by simp [Value.cells] at hz;rcases hz with rfl | rfl<;> exact fun x e=> by cases e) (by have:=IJ.out j;unfold maxLen;show (IN j).out.length+1≤_;omega) (by have:=IJ.out j;show ((IN j).out.length+1) * _≤_;omega) ?_;intro v6 w6 Ci hc6 Cg;have KG:=Lib.hid (A9.out.app (nm:=d.fr) Y9.out Ci hc6 Cg);clear Ci hc6 Cg)
           go_roundw
           case rel=> exact ⟨j+1,tX.out,by go_num,by rw [HE.out],F8,_,by rw [HE.out];exact KG.out⟩
           case measure=> have:=tX.out;simp [intOf] <;> omega
         ·have q1:(R2 !=0)=true:=by simpa using hr2
          have HE:Hid (IN (j+1)=⟨R3,(IN j).out,true⟩):=Lib.hid (wN.out.trans (if_pos (.inr hr2)))
          clear hr2 c0
          go_wp2
          go_roundw
          case rel=> exact ⟨j+1,tX.out,by go_num,by rw [HE.out],F8,qi,by rw [HE.out];exact A8.out.bad true⟩
          case measure=> have:=tX.out;simp [intOf] <;> omega
    ·have e:j=m:=by omega
     subst e
     clear hlt
     have q9:(k:Int)<1000000:=by have:=yR.out;have:=eB.out;omega
     have FZ:Hid (k+1≤(ST (k+1)).out.length):=Lib.hid (by rw [Ga.out];exact Dn.out)
     go_wp2
     go_roundw
     case rel=> exact ⟨k+1,by go_num,by rw [Ga.out],FZ.out,Fi,qi,by rw [Ga.out];exact AV.out⟩
     case measure=> have:=yR.out;have:=eB.out;simp [intOf] <;> omega
  ·have Kr:Hid ((ST k).out.length=k):=Lib.hid (by omega)
   have q0:¬ (k:Int)<((ST k).out.length:Int):=by omega
   clear hlt hk
   go_wp2
   go_ret2
   exact ⟨k,_,rfl,Kr.out,Fo,qo,HA.out⟩
end
end Go.Proofs.YtpcjekgfnfjbpaaGreat
namespace Go.aG
open Go.RowKit
section
variable {A : Type} {p : Nat} {F F' G : Nat → Prop} {w w' : World} {v v' : Value} {l : List Int} {z y : Nat → Value} {e : TypeId} {c : Nat} {L : List A} {q : Nat → Nat → Value} {a : A}
def wY (F:Nat→Prop) (w:World) (z:Nat→Value) (a:List Int):Prop:=aT F w (z 0) a
def Eb (R:(Nat→Prop)→World→(Nat→Value)→A→Prop):Prop:=∀{p:Nat} {F F':Nat→Prop} {w w':World} {z:Nat→Value} {a:A},R F w z a→dV p F w w'→(∀b,F' b→F b∨w.heap.size≤b)→R F' w' z a
def Al (R:(Nat→Prop)→World→(Nat→Value)→A→Prop):Prop:=∀{F G:Nat→Prop} {w w':World} {z:Nat→Value} {a:A},R F w z a→bB G w w'→(∀b,G b→jl w b)→R F w' z a
theorem aT.oL (h:aT F w v l) (hc:bB G w w') (hG:∀b,G b→jl w b):aT F w' v l:=⟨h.ok,h.rd.CB hc fun hn b hb hg=> (hG b hg).ne h.rd hn b hb rfl,h.off⟩
theorem Jc:Eb lZ:=fun h hc hF=> h.iY hc hF
theorem Jy:Eb nL:=fun h hc hF=> h.iY hc hF
theorem JA:Eb wY:=fun h hc hF=> aT.iY h hc hF
theorem DK:Al lZ:=fun h hc hG=> ⟨h.z0,h.z1.oL hc hG,h.z2.oL hc hG⟩
theorem Fv:Al nL:=fun h hc hG=> ⟨h.z0,h.z1,h.z2.oL hc hG⟩
theorem DW:Al wY:=fun h hc hG=> aT.oL h hc hG
variable {R : (Nat → Prop) → World → (Nat → Value) → A → Prop}
theorem gq.uy (h:gq (R F) e c w v L q) (hk:Eb R) (hc:dV p F w w') (hF:∀b,F' b→F b∨w.heap.size≤b) (hn:∀b,v.ownBlock=some b→¬ (b=p∨F b)):gq (R F') e c w' v L q:=⟨h.os.dz hc.dz hn,fun j a ha=> hk (h.bs j a ha) hc hF⟩
theorem gq.nZ (h:gq (R F) e c w v L q) (hk:Al R) (hc:bB G w w') (hG:∀b,G b→jl w b) (hn:∀b,v.ownBlock=some b→¬ G b):gq (R F) e c w' v L q:=⟨h.os.dz hc hn,fun j a ha=> hk (h.bs j a ha) hc hG⟩
theorem gq.below (h:gq (R F) e c w v L q) (hk:Al R) (hb:Below w.heap.size w w'):gq (R F) e c w' v L q:=h.nZ hk (.of_below hb fun _=> False) (fun _ h=> h.elim) fun _ _ h=> h
theorem gq.nil:gq (R F) e c w (.slice none 0 0) [] q:=⟨ig.nil _ _ _ _,fun j a h=> by simp at h⟩
theorem gq.app (h:gq (R F) e c w v L q) (hk:Al R) (ho:ig e c w' v' (L.length+1) (fD L.length q (fun _=> y))) (hc:bB (fun b=> v.ownBlock=some b) w w') (ha:R F w y a):gq (R F) e c w' v' (L++ [a]) (fun j=> if j=L.length then y else q j):=by
 refine ⟨?_,fun j a' ha'=> ?_⟩
 ·rw [List.length_append,List.length_singleton]
  refine ho.congr fun j hj i hi=> ?_
  by_cases hjl:j<L.length
  ·rw [jv hjl,if_neg (by omega)]
  ·obtain rfl:j=L.length:=by omega
   rw [ny,if_pos rfl]
 ·by_cases hj:j<L.length
  ·rw [List.getElem?_append_left hj] at ha'
   rw [if_neg (by omega)]
   exact hk (h.bs j a' ha') hc h.os.z
  ·have:=(List.getElem?_eq_some_iff.1 ha').1
   rw [List.length_append,List.length_singleton] at this
   obtain rfl:j=L.length:=by omega
   rw [List.getElem?_append_right (Nat.le_refl _),Nat.sub_self] at ha'
   rw [if_pos rfl,←Option.some.inj ha']
   exact hk ha hc h.os.z
end
end Go.aG
namespace Go.Proofs.YtpcjekgfnfjbpaaGreat
open Go.RowKit Go.aG Go.ChangeShapes Go.Maps
attribute [local go_sem ↓] Go.wp_at_zero Go.wp_at_succ
structure bU (B:Nat) extends Eng B where
 dU:σ→Int→List Int × Int × σ
 kF:σ→List Int→List Int→List Int × Int × σ
 Ey:∀X s,sz (dU X s).2.2≤sz X+1
 Gz:∀X a b,sz (kF X a b).2.2≤sz X+1
 CO:∀{w p F X} (s:Int),M w p F X→sz X≤900→Calls Tryz.prog 26 #[.pointer (some ⟨p,0,none⟩),.int .i64 s] w fun e w'=> ∃u,e=.returned (.tuple #[u,.int .i64 (dU X s).2.1])∧∃F',M w' p F' (dU X s).2.2∧aT F' w' u (dU X s).1∧dV p F w w'∧∀b,F' b→F b∨w.heap.size≤b
 CJ:∀{w p F X v l v' l'},M w p F X→aT F w v l→aT F w v' l'→l'.length≤300→sz X≤900→Calls Tryz.prog 13 #[.pointer (some ⟨p,0,none⟩),v,v'] w fun e w'=> ∃u,e=.returned (.tuple #[u,.int .i64 (kF X l l').2.1])∧∃F',M w' p F' (kF X l l').2.2∧aT F' w' u (kF X l l').1∧dV p F w w'∧∀b,F' b→F b∨w.heap.size≤b
theorem Tryz.infoPs:(Tryz.prog.info? 78).map (fun i=> (i.zero,i.size,i.bytes))=some (some (.agg #[.string ⟨#[]⟩,.slice none 0 0,.slice none 0 0]),3,64):=by kernel_rfl
def aJ (n:Nat):ByteArray:=⟨#[UInt8.ofNat (97+n)]⟩
section
variable {B : Nat} {w w' w0 w1 w2 w3 : World} {p : Nat} {F F' F0 : Nat → Prop} {v u vr Es vs vs' : Value} {x l : List Int} {z : Nat → Value} {qr qs : Nat → Nat → Value} {E : bU B} {X : E.σ} {ro : List eZ} {ss : List (List Int)} {r : List Int × Int × E.σ} {a : eZ}
def bU.usr (E:bU B) (X:E.σ):Nat→E.σ × List eZ × List (List Int)
 | 0=> (X, [], [])
 | n+1=>
  ((E.ver (E.pub (E.dU (E.usr X n).1 1).2.2 (E.dU (E.usr X n).1 1).1).2.2 (E.dU (E.usr X n).1 1).1).2.2,
   (E.usr X n).2.1++ [⟨aJ n,(E.pub (E.dU (E.usr X n).1 1).2.2 (E.dU (E.usr X n).1 1).1).1,(E.ver (E.pub (E.dU (E.usr X n).1 1).2.2 (E.dU (E.usr X n).1 1).1).2.2 (E.dU (E.usr X n).1 1).1).1⟩],
   (E.usr X n).2.2++ [(E.dU (E.usr X n).1 1).1])
def bU.yA (E:bU B) (X:E.σ):Prop:=∀n,n<5→(E.dU (E.usr X n).1 1).2.1=0∧(E.pub (E.dU (E.usr X n).1 1).2.2 (E.dU (E.usr X n).1 1).1).2.1=0∧(E.ver (E.pub (E.dU (E.usr X n).1 1).2.2 (E.dU (E.usr X n).1 1).1).2.2 (E.dU (E.usr X n).1 1).1).2.1=0
theorem bU.ug (E:bU B) (X:E.σ):∀n,E.sz (E.usr X n).1≤E.sz X+3 * n
 | 0=> Nat.le_refl _
 | n+1=> by
  have h0:=E.ug X n
  have h1:=E.Ey (E.usr X n).1 1
  have h2:=E.BJ (E.dU (E.usr X n).1 1).2.2 (E.dU (E.usr X n).1 1).1
  have h3:=E.Ew (E.pub (E.dU (E.usr X n).1 1).2.2 (E.dU (E.usr X n).1 1).1).2.2 (E.dU (E.usr X n).1 1).1
  show E.sz (E.ver (E.pub (E.dU (E.usr X n).1 1).2.2 (E.dU (E.usr X n).1 1).1).2.2 (E.dU (E.usr X n).1 1).1).2.2≤_
  omega
theorem bU.qR (E:bU B) (X:E.σ):∀n,(E.usr X n).2.1.length=n∧(E.usr X n).2.2.length=n
 | 0=> ⟨rfl,rfl⟩
 | n+1=> by
  have h:=E.qR X n
  exact ⟨by show (_++ [_]).length= _;rw [List.length_append,h.1];rfl,by show (_++ [_]).length= _;rw [List.length_append,h.2];rfl⟩
structure fP (E:bU B) (w0:World) (p:Nat) (F0:Nat→Prop) (w:World) (X:E.σ) (F:Nat→Prop) (vr vs:Value) (ro:List eZ) (ss:List (List Int)) (qr qs:Nat→Nat→Value):Prop where
 m:E.M w p F X
 ro:gq (lZ F) 78 3 w vr ro qr
 ss:gq (wY F) 23 1 w vs ss qs
 rn:∀b,vr.ownBlock=some b→¬ (b=p∨F b)∧w0.heap.size≤b
 sn:∀b,vs.ownBlock=some b→¬ (b=p∨F b)∧w0.heap.size≤b
 ds:∀b,vr.ownBlock=some b→vs.ownBlock≠some b
 ch:dV p F0 w0 w
 fo:∀b,F b→F0 b∨w0.heap.size≤b
theorem fP.below (g:fP E w0 p F0 w X F vr vs ro ss qr qs) (hb:Below w.heap.size w w'):fP E w0 p F0 w' X F vr vs ro ss qr qs:=
 ⟨E.below g.m hb,g.ro.below DK hb,g.ss.below DW hb,g.rn,g.sn,g.ds,g.ch.trans (dV.of_below hb F) g.fo,g.fo⟩
theorem jM {vo:Value} {N:Nat} (hn:∀b,vo.ownBlock=some b→¬ (b=p∨F b)∧N≤b) (hl:∀b,vo.ownBlock=some b→b<w.heap.size) (h4:∀b,F' b→F b∨w.heap.size≤b):∀b,vo.ownBlock=some b→¬ (b=p∨F' b)∧N≤b:=
 fun b hb=> ⟨fun hf=> hf.elim (fun e=> (hn b hb).1 (.inl e)) fun hf=> (h4 b hf).elim (fun e=> (hn b hb).1 (.inr e)) fun h'=> by have:=hl b hb;omega,(hn b hb).2⟩
theorem fP.step {X':E.σ} (g:fP E w0 p F0 w X F vr vs ro ss qr qs) (h1:E.M w' p F' X') (h3:dV p F w w') (h4:∀b,F' b→F b∨w.heap.size≤b):fP E w0 p F0 w' X' F' vr vs ro ss qr qs:=
 ⟨h1,g.ro.uy Jc h3 h4 fun b hb=> (g.rn b hb).1,g.ss.uy JA h3 h4 fun b hb=> (g.sn b hb).1,jM g.rn g.ro.os.m.lt h4,jM g.sn g.ss.os.m.lt h4,g.ds,g.ch.trans h3 g.fo,fun b hb=> (h4 b hb).elim (g.fo b) fun h=> .inr (Nat.le_trans g.ch.dz.size h)⟩
theorem fP.yL {vo:Value} (hch:dV p F0 w0 w) (hn:∀b,vo.ownBlock=some b→w0.heap.size≤b) (hc:bB (fun b=> vo.ownBlock=some b) w w'):dV p F0 w0 w':=
 ⟨hch.dz.trans hc fun b hb he=> by have:=hn b he;omega,fun b hb hF i x hx=> (hc.cell (p:=⟨b,i,none⟩) (Nat.lt_of_lt_of_le hb hch.dz.size) (fun he=> by have:=hn b he;omega)).trans (hch.u8 b hb hF i x hx)⟩
theorem fP.FB {y:Nat→Value} (g:fP E w0 p F0 w X F vr vs ro ss qr qs) (ho:ig 78 3 w' Es (ro.length+1) (fD ro.length qr (fun _=> y))) (hc:bB (fun b=> vr.ownBlock=some b) w w') (hp:∀b,Es.ownBlock=some b→vr.ownBlock=some b∨w.heap.size≤b) (ha:lZ F w y a):fP E w0 p F0 w' X F Es vs (ro++ [a]) ss (fun j=> if j=ro.length then y else qr j) qs:=
 have hs:=g.ch.dz.size
 ⟨E.keep g.m hc (fun e=> (g.rn p e).1 (.inl rfl)) fun b hb e=> (g.rn b e).1 (.inr hb),g.ro.app DK ho hc ha,g.ss.nZ DW hc g.ro.os.z fun b hb e=> g.ds b e hb,fun b hb=> (hp b hb).elim (g.rn b) fun h=> ⟨fun hf=> by have:=E.lt g.m hf;omega,Nat.le_trans hs h⟩,g.sn,fun b hb=> (hp b hb).elim (g.ds b) fun h e=> by have:=g.ss.os.m.lt b e;omega,fP.yL g.ch (fun b hb=> (g.rn b hb).2) hc,g.fo⟩
theorem fP.Fz {y:Nat→Value} (g:fP E w0 p F0 w X F vr vs ro ss qr qs) (ho:ig 23 1 w' vs' (ss.length+1) (fD ss.length qs (fun _=> y))) (hc:bB (fun b=> vs.ownBlock=some b) w w') (hp:∀b,vs'.ownBlock=some b→vs.ownBlock=some b∨w.heap.size≤b) (ha:aT F w (y 0) x):fP E w0 p F0 w' X F vr vs' ro (ss++ [x]) qr (fun j=> if j=ss.length then y else qs j):=
 have hs:=g.ch.dz.size
 ⟨E.keep g.m hc (fun e=> (g.sn p e).1 (.inl rfl)) fun b hb e=> (g.sn b e).1 (.inr hb),g.ro.nZ DK hc g.ss.os.z fun b hb e=> g.ds b hb e,g.ss.app DW ho hc ha,g.rn,fun b hb=> (hp b hb).elim (g.sn b) fun h=> ⟨fun hf=> by have:=E.lt g.m hf;omega,Nat.le_trans hs h⟩,fun b hb e=> (hp b e).elim (g.ds b hb) fun h=> by have:=g.ro.os.m.lt b hb;omega,fP.yL g.ch (fun b hb=> (g.sn b hb).2) hc,g.fo⟩
theorem fP.base (g:fP E w1 p F0 w X F vr vs ro ss qr qs) (hb:Below w0.heap.size w0 w1):fP E w0 p F0 w X F vr vs ro ss qr qs:=
 ⟨g.m,g.ro,g.ss,fun b hb'=> ⟨(g.rn b hb').1,Nat.le_trans hb.size (g.rn b hb').2⟩,fun b hb'=> ⟨(g.sn b hb').1,Nat.le_trans hb.size (g.sn b hb').2⟩,g.ds,(dV.of_below hb F0).trans g.ch fun b h=> .inl h,fun b h=> (g.fo b h).imp id fun h=> Nat.le_trans hb.size h⟩
end
end Go.Proofs.YtpcjekgfnfjbpaaGreat
namespace Go.Proofs.YtpcjekgfnfjbpaaGreat
open Go.RowKit Go.aG Go.ChangeShapes Go.Maps
attribute [local go_sem ↓] Go.wp_at_zero Go.wp_at_succ
section
variable {B : Nat} {w w' w0 w1 w2 w3 : World} {p : Nat} {F F' F0 : Nat → Prop} {E : bU B} {X : E.σ}
theorem lq (h:E.M w p F X) (hz:E.sz X≤800) (hok:E.yA X):Calls Tryz.prog 45 #[.pointer (some ⟨p,0,none⟩)] w fun e w'=> ∃vr vs,e=.returned (.tuple #[vr,vs,.bool true])∧∃F' qr qs,fP E w p F w' (E.usr X 5).1 F' vr vs (E.usr X 5).2.1 (E.usr X 5).2.2 qr qs:=by
 obtain ⟨US,hUS⟩:∃f,f=E.usr X:=⟨_,rfl⟩
 have JY:Hid (US 0=(X, [], [])):=Lib.hid (by rw [hUS];rfl)
 have yR:Hid (∀k,(US k).2.1.length=k∧(US k).2.2.length=k):=Lib.hid fun k=> by rw [hUS];exact E.qR X k
 have Bh:Hid (∀k,k≤5→E.sz (US k).1≤815):=Lib.hid fun k hk=> by rw [hUS];have:=E.ug X k;omega
 have FW:Hid (∀k,k<5→∃d1 d3 p1 p3 v1 v3,E.dU (US k).1 1=(d1,0,d3)∧E.pub d3 d1=(p1,0,p3)∧E.ver p3 d1=(v1,0,v3)∧US (k+1)=(v3,(US k).2.1++ [⟨aJ k,p1,v1⟩],(US k).2.2++ [d1])):=Lib.hid fun k hk=> by
  obtain ⟨e1,e2,e3⟩:=hok k hk
  rw [hUS]
  have e4:E.usr X (k+1)=((E.ver (E.pub (E.dU (E.usr X k).1 1).2.2 (E.dU (E.usr X k).1 1).1).2.2 (E.dU (E.usr X k).1 1).1).2.2,(E.usr X k).2.1++ [⟨aJ k,(E.pub (E.dU (E.usr X k).1 1).2.2 (E.dU (E.usr X k).1 1).1).1,(E.ver (E.pub (E.dU (E.usr X k).1 1).2.2 (E.dU (E.usr X k).1 1).1).2.2 (E.dU (E.usr X k).1 1).1).1⟩],(E.usr X k).2.2++ [(E.dU (E.usr X k).1 1).1]):=rfl
  obtain ⟨⟨d1,d2,d3⟩,hD⟩:∃D,D=E.dU (E.usr X k).1 1:=⟨_,rfl⟩
  rw [←hD] at e1 e2 e3 e4
  dsimp only at e1 e2 e3 e4
  obtain ⟨⟨p1,p2,p3⟩,hP⟩:∃D,D=E.pub d3 d1:=⟨_,rfl⟩
  rw [←hP] at e2 e3 e4
  dsimp only at e2 e3 e4
  obtain ⟨⟨v1,v2,v3⟩,hV⟩:∃D,D=E.ver p3 d1:=⟨_,rfl⟩
  rw [←hV] at e3 e4
  dsimp only at e3 e4
  subst e1 e2 e3
  exact ⟨d1,d3,p1,p3,v1,v3,hD.symm,hP.symm,hV.symm,e4⟩
 rw [←hUS]
 have H:=Lib.hid h
 clear h hok hz hUS
 go_enter Tryz.func45,Tryz.ntmps45
 go_upto_region 4 with (fail)
 refine aI (fun w1=> (∀i,i<5→w1.cell? ⟨w.heap.size,i,none⟩=some (.string (aJ i)))∧w.heap.size<w1.heap.size∧Below w.heap.size w w1) ⟨fun i hi=> (cell_of_row _ _ i _ _ (0,0) (heap_alloc_new w _)).trans ?_,by simp,(Below.refl _ _).alloc (Nat.le_refl _) _⟩ ?_
 ·rcases (by omega:i=0∨i=1∨i=2∨i=3∨i=4) with rfl | rfl | rfl | rfl | rfl<;> rfl
 rintro w1 ⟨k1,s1,b1⟩
 have K1:=Lib.hid k1
 have S1:=Lib.hid s1
 have B1:=Lib.hid b1
 have HN:Hid (¬ (w.heap.size=p∨F w.heap.size)):=Lib.hid fun hh=> Nat.lt_irrefl _ (E.lt H.out hh)
 obtain ⟨Gx,hx⟩:∃x,x=w.heap.size:=⟨_,rfl⟩
 have HX:=Lib.hid hx
 rw [←hx] at K1 S1 HN ⊢
 clear k1 s1 b1 hx
 go_loopw [5,6,17] (fun vr vs i wr=> ∃k:Nat,k≤5∧i=.int .i64 (k:Int)∧∃Fk qr qs,fP E w1 p F wr (US k).1 Fk vr vs (US k).2.1 (US k).2.2 qr qs) (fun _ _ i _=> 5 - (intOf i).toNat)
 case atStart=> exact ⟨0,Nat.zero_le _,rfl,F,fun _ _=> undef,fun _ _=> undef,by rw [JY.out];exact ⟨E.below H.out (HX.out▸B1.out),.nil,.nil,fun b hb=> (by cases hb),fun b hb=> (by cases hb),fun b hb=> (by cases hb),dV.refl _ _ _,fun b hb=> .inl hb⟩⟩
 case round=>
  obtain ⟨k,hk,rfl,Fk,qr,qs,hI⟩:=hrel
  have I:=Lib.hid hI
  obtain ⟨ar,cr,er,_,_⟩:=hI.ro.os.m.slice
  subst er
  obtain ⟨Ia,cs,es,_,_⟩:=hI.ss.os.m.slice
  subst es
  clear hI
  by_cases hlt:k<5
  ·obtain ⟨d1,d3,p1,p3,v1,v3,hD,hP,hV,hN⟩:=FW.out k hlt
   have kD:=Lib.hid hN
   have IQ:=Lib.hid (E.CO 1 I.out.m (Nat.le_trans (Bh.out k hk) (by decide)))
   rw [hD] at IQ
   have HZ1:Hid (E.sz d3≤820∧E.sz p3≤821):=Lib.hid (by
    have h0:=Bh.out k hk
    have h1:=E.Ey (US k).1 1
    have h2:=E.BJ d3 d1
    rw [hD] at h1
    rw [hP] at h2
    dsimp only at h1 h2
    omega)
   have yU:=Lib.hid (fun (w1:World) (F1:Nat→Prop) (v1:Value) (m1:E.M w1 p F1 d3) (b1:aT F1 w1 v1 d1)=> E.Ag m1 b1 (Nat.le_trans HZ1.out.1 (by decide)))
   rw [hP] at yU
   have Bt:=Lib.hid (fun (w1:World) (F1:Nat→Prop) (v1:Value) (m1:E.M w1 p F1 p3) (b1:aT F1 w1 v1 d1)=> E.Af m1 b1 (Nat.le_trans HZ1.out.2 (by decide)))
   rw [hV] at Bt
   have c5:wr.cell? ⟨Gx,k,none⟩=some (.string (aJ k)):=(I.out.ch.dz.cell (p:=⟨Gx,k,none⟩) S1.out HN.out).trans (K1.out k hlt)
   have HK:=Lib.hid hlt
   clear hD hP hV hN hk
   go_wp2_with fail
   refine IQ.out.mono ?_
   rintro e w2 ⟨u2,rfl,F2,m2,y2,CG,f2⟩
   have I2:=Lib.hid (I.out.step m2 CG f2)
   have Y2:=Lib.hid y2
   obtain ⟨a2,c2,e2⟩:=y2.slice
   subst e2
   clear m2 y2 CG f2 c5
   go_wp2_with fail
   refine (yU.out _ _ _ I2.out.m Y2.out).mono ?_
   rintro e w3 ⟨u3,rfl,F3,m3,y3,pJ,f3⟩
   have I3:=Lib.hid (I2.out.step m3 pJ f3)
   have Ib:=Lib.hid (Y2.out.iY pJ f3)
   have Y3:=Lib.hid y3
   obtain ⟨a3,c3,e3⟩:=y3.slice
   subst e3
   clear m3 y3 pJ f3
   go_wp2_with fail
   refine (Bt.out _ _ _ I3.out.m Ib.out).mono ?_
   rintro e w4 ⟨u4,rfl,F4,m4,y4,DV,f4⟩
   have I4:=Lib.hid (I3.out.step m4 DV f4)
   have JF:=Lib.hid (Ib.out.iY DV f4)
   have JD:=Lib.hid (Y3.out.iY DV f4)
   have Y4:=Lib.hid y4
   obtain ⟨a4,c4,e4⟩:=y4.slice
   subst e4
   have Bq:Hid ((US k).2.1.length≤5):=Lib.hid (by rw [(yR.out k).1];omega)
   have HL2:Hid ((US k).2.2.length≤5):=Lib.hid (by rw [(yR.out k).2];omega)
   clear m4 y4 DV f4
   go_wp2_with (first
    | (at_builtin;refine dA (y:=fun i=> if i=0 then .string (aJ k) else if i=1 then .slice a3 p1.length c3 else .slice a4 v1.length c4) rfl _ _ rfl rfl (by rfl) I4.out.ro.os (by decide) Tryz.underlying57 Tryz.infoPs rfl rfl (fun i hi=> by rcases (by omega:i=0∨i=1∨i=2) with rfl | rfl | rfl;(· exact ⟨rfl,fun x e=> by cases e⟩);(· exact ⟨rfl,fun x e=> by cases e⟩);exact ⟨rfl,fun x e=> by cases e⟩) (fun z hz=> by simp [Value.cells] at hz;rcases hz with rfl | rfl<;> exact fun x e=> by cases e) (by have:=Bq.out;unfold maxLen;omega) (by have:=Bq.out;omega) ?_;intro v6 w6 Ci hc6 Cg;have I6:=Lib.hid (I4.out.FB (a:=⟨aJ k,p1,v1⟩) Ci hc6 Cg ⟨rfl,JD.out,Y4.out⟩);have JE:=Lib.hid (JF.out.oL hc6 I4.out.ro.os.z);clear Ci hc6 Cg)
    | (at_builtin;refine dA (y:=fun _=> .slice a2 d1.length c2) rfl _ _ rfl rfl (by rfl) I6.out.ss.os (by decide) Tryz.underlying55 Tryz.infoBs rfl rfl (fun i hi=> ⟨rfl,fun x e=> by cases e⟩) (fun z hz=> by simp [Value.cells] at hz;subst hz;exact fun x e=> by cases e) (by have:=HL2.out;unfold maxLen;omega) (by have:=HL2.out;omega) ?_;intro v8 w8 Ch hc8 Ce;have I8:=Lib.hid (I6.out.Fz (x:=d1) Ch hc8 Ce JE.out);clear Ch hc8 Ce))
   go_roundw
   case rel=> exact ⟨k+1,HK.out,by go_num,F4,_,_,by rw [kD.out];exact I8.out⟩
   case measure=> have:=HK.out;simp [intOf] <;> omega
  ·obtain rfl:k=5:=by omega
   clear hlt hk
   go_wp2
   go_ret3
   exact ⟨_,_,rfl,Fk,qr,qs,I.out.base (HX.out▸B1.out)⟩
end
end Go.Proofs.YtpcjekgfnfjbpaaGreat
namespace Go.aG
open Go.RowKit
section
variable {P : Program} {o : Oper} {a : Act} {w : World} {K : Act → World → Prop} {Q' : Exit → Act → World → Prop}
theorem qj {T:TypeId} {x y z:Operand} {u v t:Value} {cells:Array Value} (ho:o.op=.build T #[(0,x),(1,y),(2,z)]) (hx:a.eval x=u) (hy:a.eval y=v) (hz:a.eval z=t) (hb:P.built T [(0,u),(1,v),(2,t)] =some cells):
  (execOp a.eval o).run P w=.ok (.value (.agg cells)) w:=by
 refine sN ho ?_
 simp only [List.map_toArray,List.map_cons,List.map_nil,hx,hy,hz]
 exact run_build w _ _ _ hb
theorem mZ {S:Value→World→Prop} {T e:TypeId} {x:Operand} {u:Value} {cells:Array Value} (ho:o.op=.buildSlice T 1 #[(0,x)]) (hu:P.underlying T=some (.slice e)) (hx:a.eval x=u) (hf:builtSlice P e 1 [(0,u)] =some cells) (hd:o.dst≠none)
  (hS:S (.slice (some ⟨w.heap.size,0,none⟩) 1 1) (w.alloc (.cells cells e))):o.wp P a w (fun a' w'=> ∃v,a'=a.put o.dst v∧(o.dst=none→v=undef)∧S v w'∧Below w.heap.size w w') Q':=
 lg T e 1 _ ho hu cells (by simp only [List.map_toArray,List.map_cons,List.map_nil,hx];exact hf) ⟨_,rfl,fun h=> absurd h hd,hS,(Below.refl _ _).alloc (Nat.le_refl _) _⟩
theorem mg {e t:TypeId} {c n b:Nat} {v:Value} {y:Nat→Value} {q:Nat→Nat→Value} {bytes:Nat} {z:Value} (s x:Operand) (hop:o.op=.call { callee:=.builtin .append,args:=#[s,x],argTypes:=#[t,t] })
  (hs:a.eval s=v) (h:ig e c w v n q) (hc:0<c) (h1:P.underlying t=some (.slice e)) (hinfo:(P.info? e).map (fun i=> (i.zero,i.size,i.bytes))=some (some z,c,bytes)) (hz:z.cells.size=c)
  (hx:a.eval x=.slice (some ⟨b,0,none⟩) 1 1) (hy:∀i,i<c→w.cell? ⟨b,i,none⟩=some (y i)) (hu:∀i,i<c→(y i).oneCell'=true∧fI (y i)) (hZ:∀u,u ∈ z.cells.toList→fI u)
  (h63:n+1≤maxLen) (hb:(n+1) * bytes≤140737488355328)
  (hK:∀v' w',ig e c w' v' (n+1) (fD n q (fun _=> y))→bB (fun b=> v.ownBlock=some b) w w'→(∀b,v'.ownBlock=some b→v.ownBlock=some b∨w.heap.size≤b)→K (a.put o.dst v') w'):o.wp P a w K Q':=by
 obtain ⟨v',w',hr,r1,r2,r3⟩:=h.append (ty:=o.type) hc h1 hinfo hz b 0 1 1 (fun _=> y) (fun j hj i hi=> ⟨by
  obtain rfl:j=0:=by omega
  rw [show 0+(0 * c+i)=i by omega]
  exact hy i hi,(hu i hi).1⟩) h63 hb (fun _ _ i hi=> (hu i hi).2) hZ
 unfold Oper.wp execOp
 simp only [hop,resolve,invoke,builtin,Sem.run_bind,Sem.run_pure,Result.andThen_ok,List.map_toArray,List.map_cons,List.map_nil,hs,hx,hr]
 exact hK _ _ r1 (bB.jO r2 fun b hb=> hb) fun b hb=> by
  rcases r3 with r3 | r3
  ·exact .inl (r3▸hb)
  ·exact .inr (r3 b hb)
end
def Bg (w:World) (v:Value) (T:TypeId) (cs:Array Value):Prop:=∃b,v=.slice (some ⟨b,0,none⟩) 1 1∧w.heap[b]? =some (.cells cs T (0,0))
theorem Bg.below {w w':World} {v:Value} {T:TypeId} {cs:Array Value} (h:Bg w v T cs) (hb:Below w.heap.size w w'):Bg w' v T cs:=by
 obtain ⟨b,e,h⟩:=h
 exact ⟨b,e,by rw [hb.block b (Array.getElem?_eq_some_iff.1 h).1];exact h⟩
def yc (w:World) (v:Value) (m:Nat) (f g:Nat→Nat):Prop:=∃q,CS w v m 2 q∧∀j,j<m→q j 0=.int .u8 (f j:Int)∧q j 1=.int .u8 (g j:Int)
end Go.aG
namespace Go.Proofs.YtpcjekgfnfjbpaaGreat
open Go.RowKit Go.aG Go.ChangeShapes Go.Maps
attribute [local go_sem ↓] Go.wp_at_zero Go.wp_at_succ
section
variable {B : Nat} {w w' w0 w1 w2 w3 : World} {p : Nat} {F F' F0 : Nat → Prop} {E : bU B} {X : E.σ} {z : Nat → Value} {P : eZ} {v : Value} {s : List Int}
theorem uM (N r c:Int) (w:World) (hr:N.tmod 5=r) (hc:IntKind.u8.wrap (97+r)=c) (hb:0≤c∧c<256):Calls Tryz.prog 47 #[.int .u8 N] w fun e w'=> e=.returned (.string (strOf 1 (fun _=> c)))∧Below w.heap.size w w':=by
 have hrd:Rd .u8 (w.alloc (.cells #[.int .u8 c] 5)) (.slice (some ⟨w.heap.size,0,none⟩) 1 1) 1 (fun _=> c):=by
  refine ⟨_,_,rfl,Nat.le_refl _,by decide,(fun h=> by cases h),fun _=> ⟨w.heap.size,0,rfl,by simp,fun i hi=> ?_⟩⟩
  refine (cell_of_row _ _ (0+i) _ _ (0,0) (heap_alloc_new w _)).trans ?_
  obtain rfl:i=0:=by omega
  rfl
 have HK:=Lib.hid hrd
 have KC:=Lib.hid hb
 have HB:Hid (Below w.heap.size w (w.alloc (.cells #[.int .u8 c] 5))):=Lib.hid ((Below.refl _ _).alloc (Nat.le_refl _) _)
 clear hrd hb
 go_enter Tryz.func47,Tryz.ntmps47
 go_wp2_with (refine jE rfl (fH (e:=5) (v:=.slice (some ⟨w.heap.size,0,none⟩) 1 1) rfl rfl HK.out Tryz.underlying23 Tryz.underlying5 Tryz.underlying9 (fun i hi=> KC.out)) ?_)
 go_ret
 exact ⟨rfl,HB.out⟩
theorem gQ (n:Nat) (w:World):Calls Tryz.prog 47 #[.int .u8 (n:Int)] w fun e w'=> e=.returned (.string (aJ (n % 5)))∧Below w.heap.size w w':=by
 have hr:(n:Int).tmod 5=((n % 5:Nat):Int):=by rw [Int.tmod_eq_emod_of_nonneg (by omega)];omega
 have h5:n % 5<5:=Nat.mod_lt _ (by decide)
 obtain ⟨r,hr'⟩:∃r,r=n % 5:=⟨_,rfl⟩
 rw [←hr'] at hr h5 ⊢
 have:=uM (n:Int) r (97+r) w hr (by rcases (by omega:r=0∨r=1∨r=2∨r=3∨r=4) with rfl | rfl | rfl | rfl | rfl<;> rfl) (by omega)
 rw [show strOf 1 (fun _=> 97+(r:Int))=aJ r by rcases (by omega:r=0∨r=1∨r=2∨r=3∨r=4) with rfl | rfl | rfl | rfl | rfl<;> rfl] at this
 exact this
theorem jV (h:E.M w p F X) (hP:lZ F w z P) (hs:aT F w v s) (hl:s.length≤300) (hz:E.sz X≤890):Calls Tryz.prog 50 #[.pointer (some ⟨p,0,none⟩),.agg (aW 3 z),v] w fun e w'=> ∃u,e=.returned (.tuple #[u,.int .i64 (E.kF X P.pb s).2.1])∧E.DZ w p F u (E.kF X P.pb s) w':=by
 have HC:=Lib.hid (fun (w1:World) (b1:Below w.heap.size w w1)=> E.CJ (E.below h b1) (hP.z1.below b1) (hs.below b1) hl (by omega:E.sz X≤900))
 obtain ⟨R,hR⟩:∃R,R=E.kF X P.pb s:=⟨_,rfl⟩
 rw [←hR] at HC ⊢
 obtain ⟨ap,cp,e1⟩:=hP.z1.slice
 rw [e1] at HC
 have wP:=Lib.hid e1
 obtain ⟨av,cv,rfl⟩:=hs.slice
 obtain ⟨R1,R2,R3⟩:=R
 dsimp only at HC ⊢
 obtain ⟨n,hn⟩:∃n,n=P.pb.length:=⟨_,rfl⟩
 rw [←hn] at HC wP
 clear h hP hs hl hz hR e1 hn
 go_enter Tryz.func50,Tryz.ntmps50
 go_upto_region 1 with (fail)
 refine aI (fun w1=> w1.cell? ⟨w.heap.size,1,none⟩=some (.slice ap n cp)∧Below w.heap.size w w1) ⟨((aV.new (n:=3) (z:=z)).2 1 (by decide)).trans (by rw [wP.out]),(Below.refl _ _).alloc (Nat.le_refl _) _⟩ ?_
 rintro w1 ⟨k1,b1⟩
 have B1:=Lib.hid b1
 clear b1
 go_wp2_with fail
 refine (HC.out w1 B1.out).mono ?_
 rintro e w2 ⟨u,rfl,F',m,y,ch,fo⟩
 have HR:Hid (E.DZ w p F u (R1,R2,R3) w2):=Lib.hid ⟨F',m,y,(dV.of_below B1.out F).trans ch fun b h=> .inl h,fun b h=> (fo b h).imp id fun h=> Nat.le_trans B1.out.size h⟩
 obtain ⟨au,cu,rfl⟩:=y.slice
 clear m y ch fo k1
 go_wp2
 go_ret2
 exact ⟨_,rfl,HR.out⟩
end
end Go.Proofs.YtpcjekgfnfjbpaaGreat
namespace Go.aG
open Go.RowKit Go.ChangeShapes Go.WideShapes Go.ChangeAt
section
variable {H : Type} {enc : TypeId × Value → H} {P : Program} {w : World} {base : Nat} {spare : Nat → Bool} {held : Bool}
theorem oD {t e ie:TypeId} {v:Value} {d:DataW H} {p:List MemPlace} (ht:P.underlying t=some (.slice e)) (he:P.underlying e=some (.array 2 ie)) (hi:P.underlying ie=some (.int .u8)) (hc:P.cellsOf ie=1) (hn:P.cellsOf e=2)
  {b0:Nat} (hv:Value.okWide P w .any b0 t v) (h:DataW.Trod enc P w base spare held t v d p):∃m f g,yc w v m f g∧∀j,f j<256∧g j<256:=by
 obtain ⟨m,q,hq,htr⟩:=uK ht hn (by decide) hv h
 have each:∀j,j<m→∃a b:Nat,q j 0=.int .u8 (a:Int)∧q j 1=.int .u8 (b:Int)∧a<256∧b<256:=by
  intro j hj
  obtain ⟨fuel,y,hy⟩:=htr j hj
  obtain ⟨f,hf,hb⟩:=um he hi hc hn hy
  simp [List.range_succ,vals] at hf
  have b0:=bounds_u8 (hb 0 (by decide))
  have b1:=bounds_u8 (hb 1 (by decide))
  refine ⟨(f 0).toNat,(f 1).toNat,?_,?_,by omega,by omega⟩
  ·rw [hf.1,Int.toNat_of_nonneg (by omega)]
  ·rw [hf.2,Int.toNat_of_nonneg (by omega)]
 classical
 refine ⟨m,fun j=> if h:j<m then Classical.choose (each j h) else 0,fun j=> if h:j<m then Classical.choose (Classical.choose_spec (each j h)) else 0,⟨q,hq,fun j hj=> ?_⟩,fun j=> ?_⟩
 ·have hs:=Classical.choose_spec (Classical.choose_spec (each j hj))
  simp only [dif_pos hj]
  exact ⟨hs.1,hs.2.1⟩
 ·by_cases hj:j<m
  ·have hs:=Classical.choose_spec (Classical.choose_spec (each j hj))
   simp only [dif_pos hj]
   exact hs.2.2
  ·simp only [dif_neg hj]
   decide
end
end Go.aG
namespace Go.Proofs.YtpcjekgfnfjbpaaGreat
open Go.RowKit Go.aG Go.ChangeShapes Go.Maps
attribute [local go_sem ↓] Go.wp_at_zero Go.wp_at_succ
theorem Tryz.infoDp:(Tryz.prog.info? 66).map (fun i=> (i.zero,i.size,i.bytes))=some (some (.agg #[.string ⟨#[]⟩,.string ⟨#[]⟩,.slice none 0 0]),3,56):=by kernel_rfl
theorem Tryz.sizeU2:(Tryz.prog.info? 64).map (·.size)=some 2:=by kernel_rfl
theorem Tryz.sizeBs:(Tryz.prog.info? 23).map (·.size)=some 1:=by kernel_rfl
section
variable {B : Nat} {w w' w0 w1 w2 w3 : World} {p m : Nat} {F F' F0 : Nat → Prop} {v u vr vs vd Et vl : Value} {x l : List Int} {z : Nat → Value} {qr qs qd : Nat → Nat → Value} {E : bU B} {X : E.σ} {ro : List eZ} {ss : List (List Int)} {D : List fq} {d : fq} {f g : Nat → Nat} {rp sp : Nat → List Int}
def bU.dep (E:bU B) (X:E.σ) (rp sp:Nat→List Int) (f g:Nat→Nat):Nat→E.σ × List fq
 | 0=> (X, [])
 | k+1=> ((E.kF (E.dep X rp sp f g k).1 (rp (g k % 5)) (sp (f k % 5))).2.2,(E.dep X rp sp f g k).2++ [⟨aJ (f k % 5),aJ (g k % 5),(E.kF (E.dep X rp sp f g k).1 (rp (g k % 5)) (sp (f k % 5))).1⟩])
theorem bU.vT (E:bU B) (X:E.σ):∀k,E.sz (E.dep X rp sp f g k).1≤E.sz X+k
 | 0=> Nat.le_refl _
 | k+1=> by
  have h0:=E.vT X k
  have h1:=E.Gz (E.dep X rp sp f g k).1 (rp (g k % 5)) (sp (f k % 5))
  show E.sz (E.kF (E.dep X rp sp f g k).1 (rp (g k % 5)) (sp (f k % 5))).2.2≤_
  omega
theorem bU.nk (E:bU B) (X:E.σ):∀k,(E.dep X rp sp f g k).2.length=k
 | 0=> rfl
 | k+1=> by
  have h0:=E.nk X k
  show (_++ [_]).length= _
  rw [List.length_append,h0]
  rfl
structure iq (E:bU B) (w0:World) (p:Nat) (F0:Nat→Prop) (w:World) (X:E.σ) (F:Nat→Prop) (vr vs:Value) (ro:List eZ) (ss:List (List Int)) (qr qs:Nat→Nat→Value) (vd:Value) (D:List fq) (qd:Nat→Nat→Value):Prop where
 u:fP E w0 p F0 w X F vr vs ro ss qr qs
 dl:gq (nL F) 66 3 w vd D qd
 dn:∀b,vd.ownBlock=some b→¬ (b=p∨F b)∧w0.heap.size≤b
 dr:∀b,vd.ownBlock=some b→vr.ownBlock≠some b
 ds:∀b,vd.ownBlock=some b→vs.ownBlock≠some b
theorem iq.below (h:iq E w0 p F0 w X F vr vs ro ss qr qs vd D qd) (hb:Below w.heap.size w w'):iq E w0 p F0 w' X F vr vs ro ss qr qs vd D qd:=⟨h.u.below hb,h.dl.below Fv hb,h.dn,h.dr,h.ds⟩
theorem iq.step {X':E.σ} (h:iq E w0 p F0 w X F vr vs ro ss qr qs vd D qd) (h1:E.M w' p F' X') (h3:dV p F w w') (h4:∀b,F' b→F b∨w.heap.size≤b):iq E w0 p F0 w' X' F' vr vs ro ss qr qs vd D qd:=
 ⟨h.u.step h1 h3 h4,h.dl.uy Jy h3 h4 fun b hb=> (h.dn b hb).1,jM h.dn h.dl.os.m.lt h4,h.dr,h.ds⟩
theorem fP.dz {G:Nat→Prop} (g:fP E w0 p F0 w X F vr vs ro ss qr qs) (hc:bB G w w') (hG:∀b,G b→jl w b∧¬ (b=p∨F b)∧w0.heap.size≤b∧vr.ownBlock≠some b∧vs.ownBlock≠some b):fP E w0 p F0 w' X F vr vs ro ss qr qs:=
 ⟨E.keep g.m hc (fun e=> (hG p e).2.1 (.inl rfl)) fun b hb e=> (hG b e).2.1 (.inr hb),g.ro.nZ DK hc (fun b e=> (hG b e).1) fun b hb e=> (hG b e).2.2.2.1 hb,g.ss.nZ DW hc (fun b e=> (hG b e).1) fun b hb e=> (hG b e).2.2.2.2 hb,g.rn,g.sn,g.ds,
  ⟨g.ch.dz.trans hc fun b hb he=> by have:=(hG b he).2.2.1;omega,fun b hb hF i x hx=> (hc.cell (p:=⟨b,i,none⟩) (Nat.lt_of_lt_of_le hb g.ch.dz.size) (fun he=> by have:=(hG b he).2.2.1;omega)).trans (g.ch.u8 b hb hF i x hx)⟩,g.fo⟩
theorem iq.app {y:Nat→Value} (h:iq E w0 p F0 w X F vr vs ro ss qr qs vd D qd) (ho:ig 66 3 w' Et (D.length+1) (fD D.length qd (fun _=> y))) (hc:bB (fun b=> vd.ownBlock=some b) w w') (hp:∀b,Et.ownBlock=some b→vd.ownBlock=some b∨w.heap.size≤b) (ha:nL F w y d):iq E w0 p F0 w' X F vr vs ro ss qr qs Et (D++ [d]) (fun j=> if j=D.length then y else qd j):=
 have hs:=h.u.ch.dz.size
 ⟨h.u.dz hc fun b hb=> ⟨h.dl.os.z b hb,(h.dn b hb).1,(h.dn b hb).2,h.dr b hb,h.ds b hb⟩,h.dl.app Fv ho hc ha,fun b hb=> (hp b hb).elim (h.dn b) fun h'=> ⟨fun hf=> by have:=E.lt h.u.m hf;omega,Nat.le_trans hs h'⟩,fun b hb=> (hp b hb).elim (h.dr b) fun h' e=> by have:=h.u.ro.os.m.lt b e;omega,fun b hb=> (hp b hb).elim (h.ds b) fun h' e=> by have:=h.u.ss.os.m.lt b e;omega⟩
def kX (E:bU B) (w0:World) (p:Nat) (F0:Nat→Prop) (vr vs:Value) (ro:List eZ) (ss:List (List Int)) (qr qs:Nat→Nat→Value) (vd:Value) (D:List fq) (qd:Nat→Nat→Value) (R:List Int × Int × E.σ) (gu:Nat) (zd:Nat→Value) (w:World) (v:Value):Prop:=aV w gu 2 64 zd∧∃F' u,v=.tuple #[u,.int .i64 R.2.1] ∧iq E w0 p F0 w R.2.2 F' vr vs ro ss qr qs vd D qd∧aT F' w u R.1
def nI (E:bU B) (w0:World) (p:Nat) (F0:Nat→Prop) (vr vs:Value) (ro:List eZ) (ss:List (List Int)) (qr qs:Nat→Nat→Value) (vd:Value) (D:List fq) (qd:Nat→Nat→Value) (R:List Int × Int × E.σ) (gu:Nat) (zd:Nat→Value) (w:World) (v:Value):Prop:=aV w gu 2 64 zd∧∃F',iq E w0 p F0 w R.2.2 F' vr vs ro ss qr qs vd D qd∧aT F' w v R.1
variable {R : List Int × Int × E.σ} {gu : Nat} {zd : Nat → Value}
theorem kX.below (h:kX E w0 p F0 vr vs ro ss qr qs vd D qd R gu zd w v) (hb:Below w.heap.size w w'):kX E w0 p F0 vr vs ro ss qr qs vd D qd R gu zd w' v:=by
 obtain ⟨h0,F',u,e,h1,h2⟩:=h
 exact ⟨h0.below hb,F',u,e,h1.below hb,h2.below hb⟩
theorem nI.below (h:nI E w0 p F0 vr vs ro ss qr qs vd D qd R gu zd w v) (hb:Below w.heap.size w w'):nI E w0 p F0 vr vs ro ss qr qs vd D qd R gu zd w' v:=by
 obtain ⟨h0,F',h1,h2⟩:=h
 exact ⟨h0.below hb,F',h1.below hb,h2.below hb⟩
theorem ni (U:fP E w0 p F0 w X F vr vs ro ss qr qs) (hP:yc w0 vl m f g) (Hq:0<m→∀b,vl.ownBlock=some b→¬ (b=p∨F0 b)) (hm:m≤10) (hz:E.sz X≤860)
  (hrl:ro.length=5) (hsl:ss.length=5) (hr:∀i,i<5→∃a,ro[i]? =some a∧a.pb=rp i) (hs:∀i,i<5→ss[i]? =some (sp i)∧(sp i).length≤300) (hok:∀k,k<m→(E.kF (E.dep X rp sp f g k).1 (rp (g k % 5)) (sp (f k % 5))).2.1=0):
  Calls Tryz.prog 46 #[.pointer (some ⟨p,0,none⟩),vr,vs,vl] w fun e w'=> ∃vd,e=.returned (.tuple #[vd,.bool true])∧∃F' qd,iq E w0 p F0 w' (E.dep X rp sp f g m).1 F' vr vs ro ss qr qs vd (E.dep X rp sp f g m).2 qd:=by
 obtain ⟨DS,Bd⟩:∃f',f'=E.dep X rp sp f g:=⟨_,rfl⟩
 have HD0:Hid (DS 0=(X, [])):=Lib.hid (by rw [Bd];rfl)
 have eY:Hid (∀k,(DS k).2.length=k):=Lib.hid fun k=> by rw [Bd];exact E.nk X k
 have Bh:Hid (∀k,k≤10→E.sz (DS k).1≤870):=Lib.hid fun k hk=> by rw [Bd];have:=E.vT (rp:=rp) (sp:=sp) (f:=f) (g:=g) X k;omega
 have FW:Hid (∀k,k<m→∃b X',E.kF (DS k).1 (rp (g k % 5)) (sp (f k % 5))=(b,0,X')∧DS (k+1)=(X',(DS k).2++ [⟨aJ (f k % 5),aJ (g k % 5),b⟩])):=Lib.hid fun k hk=> by
  have e1:=hok k hk
  rw [Bd]
  have e4:E.dep X rp sp f g (k+1)=((E.kF (E.dep X rp sp f g k).1 (rp (g k % 5)) (sp (f k % 5))).2.2,(E.dep X rp sp f g k).2++ [⟨aJ (f k % 5),aJ (g k % 5),(E.kF (E.dep X rp sp f g k).1 (rp (g k % 5)) (sp (f k % 5))).1⟩]):=rfl
  obtain ⟨⟨b,e,X'⟩,hW⟩:∃D,D=E.kF (E.dep X rp sp f g k).1 (rp (g k % 5)) (sp (f k % 5)):=⟨_,rfl⟩
  rw [←hW] at e1 e4
  dsimp only at e1 e4
  subst e1
  exact ⟨b,X',hW.symm,e4⟩
 rw [←Bd]
 have HU:=Lib.hid U
 have HR:=Lib.hid hr
 have HS:=Lib.hid hs
 have Kj:=Lib.hid Hq
 obtain ⟨q,⟨al,cap,rfl,hcap,hcap2,hcell⟩,hq⟩:=hP
 have HC:=Lib.hid hcell
 have HQ:=Lib.hid hq
 have HM:=Lib.hid hm
 obtain ⟨gr,kr,er,hr1,_,_,hrc⟩:=U.ro.os.m.form (by omega)
 obtain ⟨gs,ks,es,hs1,_,_,hsc⟩:=U.ss.os.m.form (by omega)
 rw [hrl] at er hrc
 rw [hsl] at es hsc
 subst er
 subst es
 have Ip:=Lib.hid hrl
 have HSL:=Lib.hid hsl
 clear U hr hs Hq hcell hq hm hr1 hs1 hrc hsc hok Bd hcap hz
 go_enter Tryz.func46,Tryz.ntmps46
 go_wp2
 go_loopw [10,17] (fun vd i wr=> ∃k:Nat,k≤m∧i=.int .i64 (k:Int)∧∃Fk qd,iq E w0 p F0 wr (DS k).1 Fk (.slice (some ⟨gr,0,none⟩) 5 kr) (.slice (some ⟨gs,0,none⟩) 5 ks) ro ss qr qs vd (DS k).2 qd) (fun _ i _=> m - (intOf i).toNat)
 case atStart=> exact ⟨0,Nat.zero_le _,rfl,F,fun _ _=> undef,by rw [HD0.out];exact ⟨HU.out,.nil,fun b hb=> (by cases hb),fun b hb=> (by cases hb),fun b hb=> (by cases hb)⟩⟩
 case round=>
  obtain ⟨k,hk,rfl,Fk,qd,hI⟩:=hrel
  have I:=Lib.hid hI
  obtain ⟨ad,cd,ed,_,_⟩:=hI.dl.os.m.slice
  subst ed
  clear hI
  by_cases hlt:k<m
  ·obtain ⟨bb,o,rfl,hbl,hcc⟩:=HC.out (by omega)
   have hnb:=Kj.out (by omega) bb rfl
   have pK:Hid (∀i,i<2→wr.cell? ⟨bb,o+k * 2+i,none⟩=some (q k i)):=fun i hi=> (I.out.u.ch.dz.cell (p:=⟨bb,o+k * 2+i,none⟩) hbl hnb).trans (hcc k hlt i hi)
   obtain ⟨q0,q1⟩:=HQ.out k hlt
   have Ed:Hid (∀i,i<2→(q k i).oneCell'=true):=fun i hi=> by
    rcases (by omega:i=0∨i=1) with rfl | rfl
    ·rw [q0];rfl
    ·rw [q1];rfl
   have yQ:=Lib.hid q0
   have Iq:=Lib.hid q1
   have eB:=Lib.hid hlt
   clear hcc q0 q1 hnb
   go_upto_region 5 with (first | (refine aZ rfl rfl rfl Tryz.underlying64 rfl Tryz.sizeU2 pK.out ?_) | (refine aU rfl 64 _ _ rfl wr.heap.size 2 (q k) _ 64 (heap_alloc_new _ _) rfl Tryz.sizeU2 rfl rfl Ed.out ?_))
   refine aI (fun w4=> aV w4 wr.heap.size 2 64 (q k)∧Below wr.heap.size wr w4) ⟨aV.setRow (heap_alloc_new _ _),aH ((Below.refl _ _).alloc (Nat.le_refl _) _) (Nat.le_refl _) _⟩ ?_
   rintro w4 ⟨hr4,hb4⟩
   have R4:=Lib.hid hr4
   have I4:=Lib.hid (I.out.below hb4)
   have Dk:Hid (¬ (wr.heap.size=p∨Fk wr.heap.size)):=Lib.hid fun hf=> Nat.lt_irrefl _ (E.lt I.out.u.m hf)
   have Am:Hid (wr.heap.size<w4.heap.size):=Lib.hid hr4.1.lt
   obtain ⟨gu,BU⟩:∃x,x=wr.heap.size:=⟨_,rfl⟩
   rw [←BU] at R4 Dk Am ⊢
   have F4:Hid (w4.cell? ⟨gu,0,none⟩=some (.int .u8 (f k:Int))):=Lib.hid ((R4.out.2 0 (by decide)).trans (by rw [yQ.out]))
   have G4:Hid (w4.cell? ⟨gu,1,none⟩=some (.int .u8 (g k:Int))):=Lib.hid ((R4.out.2 1 (by decide)).trans (by rw [Iq.out]))
   obtain ⟨r0,hr0⟩:∃r,r=f k % 5:=⟨_,rfl⟩
   obtain ⟨r1,hr1⟩:∃r,r=g k % 5:=⟨_,rfl⟩
   have Kh:Hid ((f k:Int).tmod 5=(r0:Int)):=Lib.hid (by rw [Int.tmod_eq_emod_of_nonneg (by omega)];omega)
   have HR1:Hid ((g k:Int).tmod 5=(r1:Int)):=Lib.hid (by rw [Int.tmod_eq_emod_of_nonneg (by omega)];omega)
   have AB:Hid (r0<5):=Lib.hid (by omega)
   have Bq:Hid (r1<5):=Lib.hid (by omega)
   obtain ⟨b,X',hW,hN⟩:=FW.out k hlt
   rw [←hr0,←hr1] at hW hN
   have kD:=Lib.hid hN
   obtain ⟨pa,hpa,hpb⟩:=HR.out r1 Bq.out
   have qN:=Lib.hid (I4.out.u.ro.bs r1 pa hpa)
   obtain ⟨hsa,hsl2⟩:=HS.out r0 AB.out
   have tV:=Lib.hid (I4.out.u.ss.bs r0 _ hsa)
   obtain ⟨a0,c0,e0⟩:=aT.slice tV.out
   obtain ⟨n0,hn0⟩:∃n,n=(sp r0).length:=⟨_,rfl⟩
   rw [←hn0] at e0
   have Ec:Hid (∀i,i<3→w4.cell? ⟨gr,r1 * 3+i,none⟩=some (qr r1 i)):=Lib.hid (by
    obtain ⟨g',c',e,_,_,_,hc⟩:=I4.out.u.ro.os.m.form (by rw [Ip.out];decide)
    rw [Ip.out] at e hc
    cases e
    exact fun i hi=> hc r1 Bq.out i hi)
   have tF:Hid (w4.cell? ⟨gs,r0 * 1,none⟩=some (.slice a0 n0 c0)):=Lib.hid (by
    obtain ⟨g',c',e,_,_,_,hc⟩:=I4.out.u.ss.os.m.form (by rw [HSL.out];decide)
    rw [HSL.out] at e hc
    cases e
    exact (hc r0 AB.out 0 (by decide)).trans (by rw [e0]))
   have Gd:Hid (gr<w4.heap.size):=Lib.hid (I4.out.u.ro.os.m.lt gr rfl)
   have tY:Hid (gs<w4.heap.size):=Lib.hid (I4.out.u.ss.os.m.lt gs rfl)
   have Eh:Hid (∀w',Below w4.heap.size w4 w'→Calls Tryz.prog 50 #[.pointer (some ⟨p,0,none⟩),.agg (aW 3 (qr r1)),.slice a0 n0 c0] w' fun e wz=> ∃x,e=.returned x∧kX E w0 p F0 (.slice (some ⟨gr,0,none⟩) 5 kr) (.slice (some ⟨gs,0,none⟩) 5 ks) ro ss qr qs (.slice ad (DS k).2.length cd) (DS k).2 qd (b,0,X') gu (q k) wz x):=Lib.hid fun w' hb'=> by
    have hI':=I4.out.below hb'
    have hg:=jV hI'.u.m (qN.out.below hb') (aT.below (show aT Fk w4 (.slice a0 n0 c0) (sp r0) from e0▸tV.out) hb') hsl2 (Nat.le_trans (Bh.out k (by have:=HM.out;omega)) (by decide))
    rw [hpb,hW] at hg
    refine hg.mono ?_
    rintro e wz ⟨u,rfl,F',m',y',ch',Fu⟩
    exact ⟨_,rfl,(R4.out.below hb').keep ch'.dz Dk.out,F',u,rfl,hI'.step m' ch' Fu,y'⟩
   have Ky:Hid (f k % 5=r0):=Lib.hid hr0.symm
   have Kv:Hid (g k % 5=r1):=Lib.hid hr1.symm
   clear hr4 hb4 BU hr0 hr1 hW hN hpa hpb hsa hsl2 e0 hn0 pK Ed
   refine eP (n:=53) 13 (by kernel_rfl) (by kernel_rfl) (by kernel_rfl) (by kernel_rfl) (by kernel_rfl) rfl
    (fun ii vv=> (match ii with | 0=> vv=.pointer (some ⟨p,0,none⟩) | 1=> vv=.slice (some ⟨gr,0,none⟩) 5 kr | 2=> vv=.pointer (some ⟨gu,1,none⟩) | 3=> vv=.int .u8 ((g k:Int)) | 4=> vv=.int .u8 ((r1:Int)) | 5=> vv=.pointer (some ⟨gr,r1 * 3,none⟩) | 6=> vv=.agg (aW 3 (qr r1)) | 7=> vv=.slice (some ⟨gs,0,none⟩) 5 ks | 8=> vv=.pointer (some ⟨gu,0,none⟩) | 9=> vv=.int .u8 ((f k:Int)) | 10=> vv=.int .u8 ((r0:Int)) | 11=> vv=.pointer (some ⟨gs,r0 * 1,none⟩) | 12=> vv=.slice a0 n0 c0 | 16 | 18=> vv=.int .i64 (0) | _=> True)) (fun ii vv ww=> (ii=13→kX E w0 p F0 (.slice (some ⟨gr,0,none⟩) 5 kr) (.slice (some ⟨gs,0,none⟩) 5 ks) ro ss qr qs (.slice ad (DS k).2.length cd) (DS k).2 qd (b,0,X') gu (q k) ww vv)∧(ii=14→kX E w0 p F0 (.slice (some ⟨gr,0,none⟩) 5 kr) (.slice (some ⟨gs,0,none⟩) 5 ks) ro ss qr qs (.slice ad (DS k).2.length cd) (DS k).2 qd (b,0,X') gu (q k) ww vv)∧(ii=15→nI E w0 p F0 (.slice (some ⟨gr,0,none⟩) 5 kr) (.slice (some ⟨gs,0,none⟩) 5 ks) ro ss qr qs (.slice ad (DS k).2.length cd) (DS k).2 qd (b,0,X') gu (q k) ww vv)∧(ii=17→nI E w0 p F0 (.slice (some ⟨gr,0,none⟩) 5 kr) (.slice (some ⟨gs,0,none⟩) 5 ks) ro ss qr qs (.slice ad (DS k).2.length cd) (DS k).2 qd (b,0,X') gu (q k) ww vv))
    (fun i v w w' h hE=> ⟨fun e=> kX.below (h.1 e) hE,fun e=> kX.below (h.2.1 e) hE,fun e=> nI.below (h.2.2.1 e) hE,fun e=> nI.below (h.2.2.2 e) hE⟩)
    (fun ww=> True) (fun _ _ _ _=> trivial) ?_ ?_ ?_
   ·refine Each.all ?_
    refine ⟨?_,?_,?_,?_,?_,?_,?_,?_,?_,?_,?_,?_,?_,(fun h=> absurd rfl h),?_,?_,?_,?_,?_,trivial⟩
    ·intro _ a w2 hB' hP hF hd
     have hB:=hB' (by kernel_rfl)
     rw [if_pos (ay rfl)]
     exact aD _ (.inl rfl) (by simp) ⟨(hF.same 0 rfl),fun h=> absurd h (by decide),fun h=> absurd h (by decide),fun h=> absurd h (by decide),fun h=> absurd h (by decide)⟩
    ·intro _ a w2 hB' hP hF hd
     have hB:=hB' (by kernel_rfl)
     rw [if_pos (ay rfl)]
     exact aD _ (.inl rfl) (by simp) ⟨(hF.same 1 rfl),fun h=> absurd h (by decide),fun h=> absurd h (by decide),fun h=> absurd h (by decide),fun h=> absurd h (by decide)⟩
    ·intro _ a w2 hB' hP hF hd
     have hB:=hB' (by kernel_rfl)
     rw [if_pos (ay rfl)]
     exact aA (fun h=> by cases h) (bX rfl (hF.same 12 rfl) rfl Tryz.underlying64 (by kernel_rfl) (by decide) (by decide)) ⟨rfl,fun h=> absurd h (by decide),fun h=> absurd h (by decide),fun h=> absurd h (by decide),fun h=> absurd h (by decide)⟩
    ·intro _ a w2 hB' hP hF hd
     have hB:=hB' (by kernel_rfl)
     rw [if_pos (ay rfl)]
     exact aA (fun h=> by cases h) (bN rfl ((hd 2 _ rfl rfl).1) Tryz.underlying5 ((hB.cell (p:=⟨gu,1,none⟩) Am.out).trans G4.out)) ⟨rfl,fun h=> absurd h (by decide),fun h=> absurd h (by decide),fun h=> absurd h (by decide),fun h=> absurd h (by decide)⟩
    ·intro _ a w2 hB' hP hF hd
     have hB:=hB' (by kernel_rfl)
     rw [if_pos (ay rfl)]
     exact aA (fun h=> by cases h) (Go.aG.rD rfl ((hd 3 _ rfl rfl).1) rfl (by decide)) ⟨(congrArg (Value.int .u8) (HR1.out)),fun h=> absurd h (by decide),fun h=> absurd h (by decide),fun h=> absurd h (by decide),fun h=> absurd h (by decide)⟩
    ·intro _ a w2 hB' hP hF hd
     have hB:=hB' (by kernel_rfl)
     rw [if_pos (ay rfl)]
     exact aA (fun h=> by cases h) (aL (i:=r1) (sz:=3) rfl ((hd 1 _ rfl rfl).1) ((hd 4 _ rfl rfl).1) Tryz.underlying57 Tryz.sizePs Bq.out) ⟨rfl,fun h=> absurd h (by decide),fun h=> absurd h (by decide),fun h=> absurd h (by decide),fun h=> absurd h (by decide)⟩
    ·intro _ a w2 hB' hP hF hd
     have hB:=hB' (by kernel_rfl)
     rw [if_pos (ay rfl)]
     exact aA (fun h=> by cases h) (bW rfl ((hd 5 _ rfl rfl).1) Tryz.underlying78 rfl Tryz.sizePs (fun i hi=> (hB.cell (p:=⟨gr,r1 * 3+i,none⟩) Gd.out).trans (Ec.out i hi))) ⟨rfl,fun h=> absurd h (by decide),fun h=> absurd h (by decide),fun h=> absurd h (by decide),fun h=> absurd h (by decide)⟩
    ·intro _ a w2 hB' hP hF hd
     have hB:=hB' (by kernel_rfl)
     rw [if_pos (ay rfl)]
     exact aD _ (.inl rfl) (by simp) ⟨(hF.same 2 rfl),fun h=> absurd h (by decide),fun h=> absurd h (by decide),fun h=> absurd h (by decide),fun h=> absurd h (by decide)⟩
    ·intro _ a w2 hB' hP hF hd
     have hB:=hB' (by kernel_rfl)
     rw [if_pos (ay rfl)]
     exact aA (fun h=> by cases h) (bX rfl (hF.same 12 rfl) rfl Tryz.underlying64 (by kernel_rfl) (by decide) (by decide)) ⟨rfl,fun h=> absurd h (by decide),fun h=> absurd h (by decide),fun h=> absurd h (by decide),fun h=> absurd h (by decide)⟩
    ·intro _ a w2 hB' hP hF hd
     have hB:=hB' (by kernel_rfl)
     rw [if_pos (ay rfl)]
     exact aA (fun h=> by cases h) (bN rfl ((hd 8 _ rfl rfl).1) Tryz.underlying5 ((hB.cell (p:=⟨gu,0,none⟩) Am.out).trans F4.out)) ⟨rfl,fun h=> absurd h (by decide),fun h=> absurd h (by decide),fun h=> absurd h (by decide),fun h=> absurd h (by decide)⟩
    ·intro _ a w2 hB' hP hF hd
     have hB:=hB' (by kernel_rfl)
     rw [if_pos (ay rfl)]
     exact aA (fun h=> by cases h) (Go.aG.rD rfl ((hd 9 _ rfl rfl).1) rfl (by decide)) ⟨(congrArg (Value.int .u8) (Kh.out)),fun h=> absurd h (by decide),fun h=> absurd h (by decide),fun h=> absurd h (by decide),fun h=> absurd h (by decide)⟩
    ·intro _ a w2 hB' hP hF hd
     have hB:=hB' (by kernel_rfl)
     rw [if_pos (ay rfl)]
     exact aA (fun h=> by cases h) (aL (i:=r0) (sz:=1) rfl ((hd 7 _ rfl rfl).1) ((hd 10 _ rfl rfl).1) Tryz.underlying55 Tryz.sizeBs AB.out) ⟨rfl,fun h=> absurd h (by decide),fun h=> absurd h (by decide),fun h=> absurd h (by decide),fun h=> absurd h (by decide)⟩
    ·intro _ a w2 hB' hP hF hd
     have hB:=hB' (by kernel_rfl)
     rw [if_pos (ay rfl)]
     exact aA (fun h=> by cases h) (aN rfl ((hd 11 _ rfl rfl).1) Tryz.underlying23 ((hB.cell (p:=⟨gs,r0 * 1,none⟩) tY.out).trans tF.out)) ⟨rfl,fun h=> absurd h (by decide),fun h=> absurd h (by decide),fun h=> absurd h (by decide),fun h=> absurd h (by decide)⟩
    ·intro _ a w2 hB' hP hF hd
     rw [if_pos (ay rfl)]
     exact aD _ (.inl rfl) (by simp) ⟨trivial,fun h=> absurd h (by decide),fun _=> ((((hd 13 _ rfl rfl).2 (by kernel_rfl)).1 rfl)),fun h=> absurd h (by decide),fun h=> absurd h (by decide)⟩
    ·intro _ a w2 hB' hP hF hd
     rw [if_pos (ay rfl)]
     obtain ⟨r_,F_,u_,vJ,yG,yF⟩:=(((hd 14 _ rfl rfl).2 (by kernel_rfl)).2.1 rfl)
     exact aA (fun h=> by cases h) (bD rfl vJ rfl) ⟨trivial,fun h=> absurd h (by decide),fun h=> absurd h (by decide),fun _=> (⟨r_,F_,yG,yF⟩),fun h=> absurd h (by decide)⟩
    ·intro _ a w2 hB' hP hF hd
     rw [if_pos (ay rfl)]
     obtain ⟨r_,F_,u_,vJ,yG,yF⟩:=(((hd 14 _ rfl rfl).2 (by kernel_rfl)).2.1 rfl)
     exact aA (fun h=> by cases h) (bD rfl vJ rfl) ⟨rfl,fun h=> absurd h (by decide),fun h=> absurd h (by decide),fun h=> absurd h (by decide),fun h=> absurd h (by decide)⟩
    ·intro _ a w2 hB' hP hF hd
     rw [if_pos (ay rfl)]
     exact aD _ (.inr rfl) (by simp) ⟨trivial,fun h=> absurd h (by decide),fun h=> absurd h (by decide),fun h=> absurd h (by decide),fun _=> (((hd 15 _ rfl rfl).2 (by kernel_rfl)).2.2.1 rfl)⟩
    ·intro _ a w2 hB' hP hF hd
     rw [if_pos (ay rfl)]
     exact aD _ (.inr rfl) (by simp) ⟨((hd 16 _ rfl rfl).1),fun h=> absurd h (by decide),fun h=> absurd h (by decide),fun h=> absurd h (by decide),fun h=> absurd h (by decide)⟩
   ·intro o ho a w2 hB hF hd
    obtain rfl:=Option.some.inj ho
    refine ⟨by rw [ay rfl],?_⟩
    refine jA 50 #[.tmp 22,.tmp 28,.tmp 34] _ rfl Tryz.call50 _ (yM ((hd 0 _ rfl rfl).1) ((hd 6 _ rfl rfl).1) ((hd 12 _ rfl rfl).1)) (by simp) ((Eh.out w2 hB).mono ?_)
    rintro e w3 ⟨x,rfl,hr⟩
    exact ⟨x,rfl,⟨trivial,fun _=> (hr),fun h=> absurd h (by decide),fun h=> absurd h (by decide),fun h=> absurd h (by decide)⟩,trivial⟩
   ·intro a w5 hP hF hS
    obtain ⟨Gu,zQ⟩:∃x,x=a.tmps.getD 35 undef:=⟨_,rfl⟩
    have JM:kX E w0 p F0 (.slice (some ⟨gr,0,none⟩) 5 kr) (.slice (some ⟨gs,0,none⟩) 5 ks) ro ss qr qs (.slice ad (DS k).2.length cd) (DS k).2 qd (b,0,X') gu (q k) w5 Gu:=by rw [zQ];exact ((hS 13 _ rfl).2 (by kernel_rfl)).1 rfl
    obtain ⟨x21,zS⟩:∃x,x=a.tmps.getD 21 undef:=⟨_,rfl⟩
    have JQ:kX E w0 p F0 (.slice (some ⟨gr,0,none⟩) 5 kr) (.slice (some ⟨gs,0,none⟩) 5 ks) ro ss qr qs (.slice ad (DS k).2.length cd) (DS k).2 qd (b,0,X') gu (q k) w5 x21:=by rw [zS];exact ((hS 14 _ rfl).2 (by kernel_rfl)).2.1 rfl
    obtain ⟨Gt,zP⟩:∃x,x=a.tmps.getD 36 undef:=⟨_,rfl⟩
    have JL:nI E w0 p F0 (.slice (some ⟨gr,0,none⟩) 5 kr) (.slice (some ⟨gs,0,none⟩) 5 ks) ro ss qr qs (.slice ad (DS k).2.length cd) (DS k).2 qd (b,0,X') gu (q k) w5 Gt:=by rw [zP];exact ((hS 15 _ rfl).2 (by kernel_rfl)).2.2.1 rfl
    obtain ⟨Gy,zU⟩:∃x,x=a.tmps.getD 13 undef:=⟨_,rfl⟩
    have Ij:nI E w0 p F0 (.slice (some ⟨gr,0,none⟩) 5 kr) (.slice (some ⟨gs,0,none⟩) 5 ks) ro ss qr qs (.slice ad (DS k).2.length cd) (DS k).2 qd (b,0,X') gu (q k) w5 Gy:=by rw [zU];exact ((hS 17 _ rfl).2 (by kernel_rfl)).2.2.2 rfl
    have ha:=aX rfl rfl hF [_,_,_,_,_,_,_,_,_,_,_,_,_,Gu,x21,Gt,_,Gy,_] rfl ⟨(hS 0 _ rfl).1,(hS 1 _ rfl).1,(hS 2 _ rfl).1,(hS 3 _ rfl).1,(hS 4 _ rfl).1,(hS 5 _ rfl).1,(hS 6 _ rfl).1,(hS 7 _ rfl).1,(hS 8 _ rfl).1,(hS 9 _ rfl).1,(hS 10 _ rfl).1,(hS 11 _ rfl).1,(hS 12 _ rfl).1,zQ.symm,zS.symm,zP.symm,(hS 16 _ rfl).1,zU.symm,(hS 18 _ rfl).1,trivial⟩
    simp only [puts,Act.put,List.setIfInBounds_toArray,List.set_cons_succ,List.set_cons_zero] at ha
    subst ha
    clear zQ zS zP zU
    clear hS hF
    have HP:=Lib.hid Ij
    clear Ij JM JQ JL
    obtain ⟨DN,F5,hi5,EL⟩:=HP.out
    have I5:=Lib.hid hi5
    have Y5:=Lib.hid EL
    have KI:Hid (w5.cell? ⟨gu,0,none⟩=some (.int .u8 (f k:Int))):=Lib.hid ((DN.2 0 (by decide)).trans (by rw [yQ.out]))
    have KH:Hid (w5.cell? ⟨gu,1,none⟩=some (.int .u8 (g k:Int))):=Lib.hid ((DN.2 1 (by decide)).trans (by rw [Iq.out]))
    have CV:Hid (gu<w5.heap.size):=Lib.hid DN.1.lt
    obtain ⟨a9,c9,e9⟩:=EL.slice
    subst e9
    obtain ⟨n9,GQ⟩:∃n,n=b.length:=⟨_,rfl⟩
    rw [←GQ] at Y5 ⊢
    obtain ⟨nd,hnd⟩:∃n,n=(DS k).2.length:=⟨_,rfl⟩
    have KU:=Lib.hid hnd
    rw [←hnd] at I5 ⊢
    clear DN hi5 EL HP hP GQ hnd I4 R4 Eh Ec tF qN tV F4 G4
    go_upto_region 8 with (fail)
    refine oz (n:=53) 10 (by decide) (by kernel_rfl) (by kernel_rfl) (by kernel_rfl) (by kernel_rfl) rfl
     (fun ii vv ww=> (match ii with | 0=> vv=.slice ad nd cd | 1=> vv=.pointer (some ⟨gu,0,none⟩) | 2=> vv=.int .u8 ((f k:Int)) | 3=> vv=.string (aJ (f k % 5)) | 4=> vv=.pointer (some ⟨gu,1,none⟩) | 5=> vv=.int .u8 ((g k:Int)) | 6=> vv=.string (aJ (g k % 5)) | 7=> vv=.slice a9 n9 c9 | 8=> vv=.agg #[.string (aJ (f k % 5)),.string (aJ (g k % 5)),.slice a9 n9 c9] | _=> True)∧(ii=9→Bg ww vv 66 #[.string (aJ (f k % 5)),.string (aJ (g k % 5)),.slice a9 n9 c9]))
     (fun i v w w' h hE=> ⟨h.1,fun e=> Bg.below (h.2 e) hE⟩) ?_ ?_
    ·refine Each.all ?_
     refine ⟨?_,?_,?_,?_,?_,?_,?_,?_,?_,?_,(fun h=> absurd h (by decide)),(fun h=> absurd h (by decide)),trivial⟩
     ·intro _ a w2 hB hF hd
      rw [if_pos (ay rfl)]
      exact aD _ (.inl rfl) (by simp) ⟨(hF.same 10 rfl),fun h=> absurd h (by decide)⟩
     ·intro _ a w2 hB hF hd
      rw [if_pos (ay rfl)]
      exact aA (fun h=> by cases h) (bX rfl (hF.same 12 rfl) rfl Tryz.underlying64 (by kernel_rfl) (by decide) (by decide)) ⟨rfl,fun h=> absurd h (by decide)⟩
     ·intro _ a w2 hB hF hd
      rw [if_pos (ay rfl)]
      exact aA (fun h=> by cases h) (bN rfl ((hd 1 _ rfl (aj rfl)).1) Tryz.underlying5 ((hB.cell (p:=⟨gu,0,none⟩) CV.out).trans KI.out)) ⟨rfl,fun h=> absurd h (by decide)⟩
     ·intro _ a w2 hB hF hd
      rw [if_pos (ay rfl)]
      refine bT _ _ _ rfl Tryz.call47 _ (args1 ((hd 2 _ rfl (aj rfl)).1)) (by simp) ((gQ (f k) w2).mono ?_)
      rintro e w3 ⟨rfl,hb⟩;exact ⟨_,rfl,⟨rfl,fun h=> absurd h (by decide)⟩,hb⟩
     ·intro _ a w2 hB hF hd
      rw [if_pos (ay rfl)]
      exact aA (fun h=> by cases h) (bX rfl (hF.same 12 rfl) rfl Tryz.underlying64 (by kernel_rfl) (by decide) (by decide)) ⟨rfl,fun h=> absurd h (by decide)⟩
     ·intro _ a w2 hB hF hd
      rw [if_pos (ay rfl)]
      exact aA (fun h=> by cases h) (bN rfl ((hd 4 _ rfl (aj rfl)).1) Tryz.underlying5 ((hB.cell (p:=⟨gu,1,none⟩) CV.out).trans KH.out)) ⟨rfl,fun h=> absurd h (by decide)⟩
     ·intro _ a w2 hB hF hd
      rw [if_pos (ay rfl)]
      refine bT _ _ _ rfl Tryz.call47 _ (args1 ((hd 5 _ rfl (aj rfl)).1)) (by simp) ((gQ (g k) w2).mono ?_)
      rintro e w3 ⟨rfl,hb⟩;exact ⟨_,rfl,⟨rfl,fun h=> absurd h (by decide)⟩,hb⟩
     ·intro _ a w2 hB hF hd
      rw [if_pos (ay rfl)]
      exact aD _ (.inl rfl) (by simp) ⟨(hF.same 13 rfl),fun h=> absurd h (by decide)⟩
     ·intro _ a w2 hB hF hd
      rw [if_pos (ay rfl)]
      exact aA (fun h=> by cases h) (qj rfl ((hd 3 _ rfl (aj rfl)).1) ((hd 6 _ rfl (aj rfl)).1) ((hd 7 _ rfl (aj rfl)).1) (by kernel_rfl)) ⟨rfl,fun h=> absurd h (by decide)⟩
     ·intro _ a w2 hB hF hd
      rw [if_pos (ay rfl)]
      exact mZ rfl Tryz.underlying60 ((hd 8 _ rfl (aj rfl)).1) (by kernel_rfl) (by simp) ⟨trivial,fun _=> (⟨_,rfl,heap_alloc_new _ _⟩)⟩
    ·intro a w6 hB hF hS
     obtain ⟨Gs,zO⟩:∃x,x=a.tmps.getD 49 undef:=⟨_,rfl⟩
     have JK:Bg w6 Gs 66 #[.string (aJ (f k % 5)),.string (aJ (g k % 5)),.slice a9 n9 c9] :=by rw [zO];exact (hS 9 _ rfl (by decide)).2 rfl
     have ha:=aX rfl rfl hF [_,_,_,_,_,_,_,_,_,Gs] rfl ⟨(hS 0 _ rfl (by decide)).1,(hS 1 _ rfl (by decide)).1,(hS 2 _ rfl (by decide)).1,(hS 3 _ rfl (by decide)).1,(hS 4 _ rfl (by decide)).1,(hS 5 _ rfl (by decide)).1,(hS 6 _ rfl (by decide)).1,(hS 7 _ rfl (by decide)).1,(hS 8 _ rfl (by decide)).1,zO.symm,trivial⟩
     simp only [puts,List.take_succ_cons,List.take_zero,Act.put,List.setIfInBounds_toArray,List.set_cons_succ,List.set_cons_zero] at ha
     subst ha
     change tl _ _ _ (_::_:: []) _ _
     clear zO
     clear hS hF
     have I6:=Lib.hid (I5.out.below hB)
     have Y6:=Lib.hid (Y5.out.below hB)
     have Dh:Hid ((DS k).2.length≤10):=Lib.hid (by rw [eY.out k];have:=HM.out;omega)
     obtain ⟨b9,e9,GR⟩:=JK
     subst e9
     have KD:Hid (∀i,i<3→w6.cell? ⟨b9,i,none⟩=some ((fun i:Nat=> if i=0 then Value.string (aJ (f k % 5)) else if i=1 then .string (aJ (g k % 5)) else .slice a9 n9 c9) i)):=Lib.hid fun i hi=> by
      rw [cell_of_row _ _ i _ _ (0,0) GR]
      rcases (by omega:i=0∨i=1∨i=2) with rfl | rfl | rfl<;> rfl
     clear hB GR
     refine ru rfl (mg _ _ rfl rfl I6.out.dl.os (by decide) Tryz.underlying60 Tryz.infoDp rfl rfl KD.out (fun i hi=> by rcases (by omega:i=0∨i=1∨i=2) with rfl | rfl | rfl;(· exact ⟨rfl,fun x e=> by cases e⟩);(· exact ⟨rfl,fun x e=> by cases e⟩);exact ⟨rfl,fun x e=> by cases e⟩) (fun z hz=> by simp [Value.cells] at hz;rcases hz with rfl | rfl<;> exact fun x e=> by cases e) (by have:=Dh.out;unfold maxLen;omega) (by have:=Dh.out;omega) ?_)
     intro v8 w8 Ch hc8 Ce
     have I8:=Lib.hid (I6.out.app (d:=⟨aJ (f k % 5),aJ (g k % 5),b⟩) Ch hc8 Ce ⟨rfl,rfl,Y6.out⟩)
     clear Ch hc8 Ce
     refine xu rfl _ (.inr rfl) (zl ?_)
     have q9:(k:Int)<1000000:=by have:=eB.out;have:=HM.out;omega
     simp only [Act.put,Act.eval,List.setIfInBounds_toArray,List.set_cons_succ,List.set_cons_zero]
     go_wp2
     go_roundw
     case rel=> exact ⟨k+1,eB.out,by go_num,F5,_,by rw [kD.out,←Ky.out,←Kv.out];exact I8.out⟩
     case measure=> have:=eB.out;simp [intOf] <;> omega
  ·obtain rfl:k=m:=by omega
   clear hlt hk
   go_wp2
   go_ret2
   exact ⟨_,rfl,Fk,qd,I.out⟩
end
end Go.Proofs.YtpcjekgfnfjbpaaGreat
