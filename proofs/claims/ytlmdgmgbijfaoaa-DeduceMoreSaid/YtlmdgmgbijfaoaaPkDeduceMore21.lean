/-
  Part 21 of the texts that the proof of DeduceMore rests on, one after the other. Conditions: named in each theorem.
-/
import Derived.Test.YtlmdgmgbijfaoaaPkDeduceMore9
import Derived.Test.YtlmdgmgbijfaoaaPkDeduceMore8
import Derived.Test.YtlmdgmgbijfaoaaPkDeduceMore14
import Derived.BigQuiet
import Derived.ChangeKeysEq
import Derived.Deep.DrawnRows
import Derived.Deep.QuietTactic
import Derived.Deep.RegionHeld3
import Derived.Deep.WholeRow
import Derived.Laws.CopyOwn
import Derived.Laws.IdiomCopy
import Derived.Laws.StructEq
import Derived.Lib.Hide
import Derived.Maps.AppendAt
import Derived.Maps.Range
import Derived.Orders
import Derived.OrdersIn
import Derived.OwnWalkIn
import Derived.RangeFuncCalls
import Derived.StillTactics
import Derived.Test.YtlmdgmgbijfaoaaArr
import Derived.Test.YtlmdgmgbijfaoaaFlow
import Derived.Test.YtlmdgmgbijfaoaaKit
import Derived.WalkKit
import Derived.WalkLawsBesides
import Derived.WalkSmall
import Derived.WalkSpells
set_option linter.unusedVariables false
set_option linter.unusedSimpArgs false
namespace Go.Bas
open Go.RowKit
section
variable {P : Program} {ops : Array Oper} {Q : Exit → Act → World → Prop}
theorem early_core {a0:Act} {w0:World} {n:Nat} (J:World→Prop) (hJ0:J w0.drew) (ms:List Cl) (k0:Nat) (hb:backB ops=true) (hc:earlyB ops n ms k0=true) (hn:a0.tmps.size=n)
  (h:∃a1 aE,(∀w',J w'→wpStill P ops w' (fun a=> a=a1) (selBy Cl.isE ms ops.toList) a0)∧(∀w',wpStill P ops w' (fun a=> a=aE) (selBy Cl.isF ms ops.toList) a1)∧chJ P ops Q J k0 (selBy Cl.isC ms ops.toList) aE w0.drew):
  ∃I:Array Bool→Act→World→Prop,I (Array.replicate ops.size false) a0 w0.drew∧
   (∀(L:Array Bool) (a:Act) (w:World) (i:Nat) (o:Oper),ops[i]? =some o→L.getD i true=false→(∀e ∈ o.after,Region.binds .any e=true→L.getD e.on false=true)→I L a w→
    if Region.wanted o (yielded ops a.tmps) then o.wp P a w (fun a' w'=> I (L.setIfInBounds i true) a' w') Q else I (L.setIfInBounds i true) (a.put o.dst undef) w)∧
   ∀(L:Array Bool) (a:Act) (w:World),(∀i,i<ops.size→L.getD i false=true)→I L a w→Q .normal a w:=by
 obtain ⟨a1,aE,hw1,hw2,hch⟩:=h
 unfold earlyB at hc
 simp only [Bool.and_eq_true] at hc
 obtain ⟨⟨⟨⟨⟨hsel,hlen⟩,hd⟩,hall⟩,hchain⟩,hwild⟩:=hc
 have hlen':ms.length=ops.toList.length:=by simpa using hlen
 have hsz:ms.length=ops.size:=by simpa using hlen
 have hsel':=Region.noSelect_spec hsel
 have hat:∀(i:Nat) (o:Oper) (m:Cl),ops[i]? =some o→ms[i]? =some m→(m.isC=true∨∃d,o.dst=some d)∧∀t,t ∈ o.looksAt ops→∀(j:Nat) (oj:Oper) (mj:Cl),ops[j]? =some oj→ms[j]? =some mj→oj.dst=some t→
   j ∈ reachL ops i (depsL o)∧j<i∧(m.isC=true∨mj.isC=false)∧(m.isE=true→mj.isE=true):=by
  intro i o m ho hmi
  rw [List.all_eq_true] at hall
  have h1:=hall i (List.mem_range.2 (Array.getElem?_eq_some_iff.1 ho).1)
  rw [ho,hmi] at h1
  simp only [Bool.and_eq_true,Bool.or_eq_true] at h1
  obtain ⟨h1,h2⟩:=h1
  refine ⟨h1.imp (fun h=> h) fun h=> Option.isSome_iff_exists.1 h,fun t ht j oj mj hj hmj hdst=> ?_⟩
  unfold looksB at h2
  rw [List.all_eq_true] at h2
  have h3:=h2 t ht
  rw [List.all_eq_true] at h3
  have h4:=h3 j (List.mem_range.2 (Array.getElem?_eq_some_iff.1 hj).1)
  rw [hj,hmj] at h4
  simp only [Bool.or_eq_true,Bool.and_eq_true,bne_iff_ne,ne_eq,decide_eq_true_eq,List.contains_iff_mem,Bool.not_eq_true'] at h4
  rcases h4 with h4 | ⟨⟨⟨a,b⟩,c⟩,d⟩
  ·exact absurd hdst h4
  ·exact ⟨a,b,c,fun he=> d.resolve_left (by rw [he];decide)⟩
 have hms:∀(i:Nat) (o:Oper),ops[i]? =some o→∃m,ms[i]? =some m:=fun i o ho=> by
  have:=(Array.getElem?_eq_some_iff.1 ho).1
  exact ⟨_,List.getElem?_eq_getElem (by omega)⟩
 have hopd:∀i:Nat,ops.toList[i]? =ops[i]?:=fun i=> by simp
 have hdn:∀(i:Nat) (o:Oper) (d:Nat),ops[i]? =some o→o.dst=some d→d<n:=by
  intro i o d ho hd'
  unfold dstB at hd
  simp only [Bool.and_eq_true] at hd
  have h1:=hd.2
  rw [List.all_eq_true] at h1
  have h2:=h1 o (by rw [List.mem_iff_getElem?];exact ⟨i,by simpa using ho⟩)
  rw [hd'] at h2
  simpa using h2
 have side:∀(k:Cl→Bool),(∀m,k m=true→m.isC=false)→
   (selBy k ms ops.toList).Pairwise (fun x y=> ∀d,x.dst=some d→y.dst≠some d)∧(selBy k ms ops.toList).Pairwise (fun x y=> ∀t,t ∈ x.looksAt ops→y.dst≠some t)∧
   (∀o ∈ selBy k ms ops.toList,∀t,t ∈ o.looksAt ops→o.dst≠some t)∧∀a:Act,a.tmps.size=n→∀o ∈ selBy k ms ops.toList,(∃d,o.dst=some d∧d<a.tmps.size)∧∀cs b,o.op≠.select cs b:=by
  intro k hk1
  refine ⟨selBy_pair hlen' fun i j oi oj mi mj hij hi hj _ _ _ _ d hdi=> dst_spec hd (by rwa [hopd] at hi) (by rwa [hopd] at hj) (by omega) d hdi,
   selBy_pair hlen' fun i j oi oj mi mj hij hi hj hmi hmj _ _ t ht hdj=> by
    have:=((hat i oi mi (by rwa [hopd] at hi) hmi).2 t ht j oj mj (by rwa [hopd] at hj) hmj hdj).2.1
    omega,
   fun o ho t ht hdo=> ?_,fun a ha o ho=> ?_⟩
  ·obtain ⟨i,m,h1,h2,h3⟩:=selBy_mem hlen' ho
   have:=((hat i o m (by rwa [hopd] at h3) h1).2 t ht i o m (by rwa [hopd] at h3) h1 hdo).2.1
   omega
  ·obtain ⟨i,m,h1,h2,h3⟩:=selBy_mem hlen' ho
   rw [hopd] at h3
   rcases (hat i o m h3 h1).1 with h4 | ⟨d,h4⟩
   ·rw [hk1 m h2] at h4;cases h4
   ·exact ⟨⟨d,h4,by rw [ha];exact hdn i o d h3 h4⟩,fun cs b=> hsel' i o cs b h3⟩
 obtain ⟨e1,e2,e3,e4⟩:=side Cl.isE (fun m h=> by cases m<;> first | rfl | cases h)
 obtain ⟨f1,f2,f3,f4⟩:=side Cl.isF (fun m h=> by cases m<;> first | rfl | cases h)
 have g0:=fun w' hw'=> still_get (ops:=ops) _ a0 (hw1 w' hw') e1 (e4 a0 hn) e2 e3
 have hb00:J w0.drew:=hJ0
 obtain ⟨p1,p2,p3,_⟩:=g0 _ hb00
 have hn1:a1.tmps.size=n:=by rw [p3,hn]
 have k0':=fun w'=> still_get (ops:=ops) _ a1 (hw2 w') f1 (f4 a1 hn1) f2 f3
 obtain ⟨q1,q2,q3,_⟩:=k0' w0
 have hnE:aE.tmps.size=n:=by rw [q3,hn1]
 have inE:∀(k:Cl→Bool) (j:Nat) (o:Oper) (m:Cl),ops[j]? =some o→ms[j]? =some m→k m=true→o ∈ selBy k ms ops.toList:=by
  intro k j o m ho hmj hk
  have hmem:=idxBy_mem k ms 0 j m hmj hk
  rw [Nat.zero_add] at hmem
  obtain ⟨q,hq⟩:=List.mem_iff_getElem?.1 hmem
  obtain ⟨_,_,h3,_⟩:=(selBy_get k ms ops.toList 0 hlen').2 q j hq
  rw [Nat.sub_zero,hopd,ho] at h3
  exact List.mem_iff_getElem?.2 ⟨q,h3⟩
 have oE:∀t,(∀(j:Nat) (o:Oper) (m:Cl),ops[j]? =some o→ms[j]? =some m→m.isC=false→o.dst≠some t)→aE.tmps.getD t undef=a0.tmps.getD t undef:=by
  intro t ht
  rw [q1 t fun o ho=> ?_,p1 t fun o ho=> ?_]
  ·obtain ⟨i,m,h1,h2,h3⟩:=selBy_mem hlen' ho
   exact ht i o m (by rwa [hopd] at h3) h1 (by cases m<;> first | rfl | cases h2)
  ·obtain ⟨i,m,h1,h2,h3⟩:=selBy_mem hlen' ho
   exact ht i o m (by rwa [hopd] at h3) h1 (by cases m<;> first | rfl | cases h2)
 have nf:∀t,(∃(j:Nat) (o:Oper),ops[j]? =some o∧ms[j]? =some .e∧o.dst=some t)→aE.tmps.getD t undef=a1.tmps.getD t undef:=by
  rintro t ⟨j,o,hj,hmj,hdo⟩
  refine q1 t fun o' ho'=> ?_
  obtain ⟨i,m,h1,h2,h3⟩:=selBy_mem hlen' ho'
  rw [hopd] at h3
  exact dst_spec hd hj h3 (fun e=> by subst e;rw [hmj] at h1;obtain rfl:=Option.some.inj h1;cases h2) t hdo
 have hE:∀(i:Nat) (o:Oper) (m:Cl),ops[i]? =some o→ms[i]? =some m→m.isC=false→∀w',(m.isE=true→J w')→∀a',(∀t,t ∈ o.looksAt ops→a'.tmps.getD t undef=aE.tmps.getD t undef)→
   ∃d v,o.dst=some d∧aE.tmps.getD d undef=v∧YieldsAt P ops w' o v a':=by
  intro i o m ho hmi hmc w' hw' a' ha'
  obtain ⟨hx,hl⟩:=hat i o m ho hmi
  obtain ⟨d,hdo⟩:∃d,o.dst=some d:=hx.resolve_left (by rw [hmc];decide)
  cases m with
  | c=> cases hmc
  | f=>
   obtain ⟨_,_,_,h4⟩:=k0' w'
   obtain ⟨v,hv,hy⟩:=h4 o (inE _ i o _ ho hmi rfl) a' ha'
   exact ⟨d,v,hdo,hv d hdo,hy⟩
  | e=>
   obtain ⟨_,_,_,h4⟩:=g0 w' (hw' rfl)
   obtain ⟨v,hv,hy⟩:=h4 o (inE _ i o _ ho hmi rfl) a' (fun t ht=> by
    rw [ha' t ht]
    by_cases hex:∃(j:Nat) (oj:Oper),ops[j]? =some oj∧oj.dst=some t
    ·obtain ⟨j,oj,hj,hdj⟩:=hex
     obtain ⟨mj,hmj⟩:=hms j oj hj
     have:=(hl t ht j oj mj hj hmj hdj).2.2.2 rfl
     cases mj with
     | e=> exact nf t ⟨j,oj,hj,hmj,hdj⟩
     | f=> cases this
     | c=> cases this
    ·refine q1 t fun o' ho' hdo'=> ?_
     obtain ⟨i',m',h1,h2,h3⟩:=selBy_mem hlen' ho'
     exact hex ⟨i',o',by rwa [hopd] at h3,hdo'⟩)
   exact ⟨d,v,hdo,by rw [nf d ⟨i,o,ho,hmi,hdo⟩];exact hv d hdo,hy⟩
 let cs:=idxBy Cl.isC 0 ms
 have hcs:cs=idxBy Cl.isC 0 ms:=rfl
 have csup:=(idxBy_up Cl.isC ms 0).1
 have cslt:∀q q',q<q'→q'<cs.length→cs.getD q 0<cs.getD q' 0:=by
  intro q q' h1 h2
  have:=List.pairwise_iff_getElem.1 csup q q' (by rw [←hcs];omega) (by rw [←hcs];omega) h1
  rw [List.getD_eq_getElem?_getD,List.getD_eq_getElem?_getD,List.getElem?_eq_getElem (by omega),List.getElem?_eq_getElem h2]
  exact this
 have csat:∀q,q<cs.length→∃o,ops[cs.getD q 0]? =some o∧ms[cs.getD q 0]? =some .c∧(selBy Cl.isC ms ops.toList)[q]? =some o:=by
  intro q hq
  have e1:cs[q]? =some (cs.getD q 0):=by rw [List.getD_eq_getElem?_getD,List.getElem?_eq_getElem hq];rfl
  obtain ⟨_,h2,h3,m,h4,h5⟩:=(selBy_get Cl.isC ms ops.toList 0 hlen').2 q (cs.getD q 0) e1
  rw [Nat.sub_zero] at h2 h3 h4
  have hlt:cs.getD q 0<ops.size:=by omega
  refine ⟨ops[cs.getD q 0],by simp [hlt],?_,by rw [h3,hopd];simp [hlt]⟩
  rw [h4]
  cases m<;> first | rfl | cases h5
 have csall:∀(i:Nat) (o:Oper),ops[i]? =some o→ms[i]? =some .c→∃q,q<cs.length∧cs.getD q 0=i:=by
  intro i o ho hmi
  have hmem:=idxBy_mem Cl.isC ms 0 i .c hmi rfl
  rw [Nat.zero_add] at hmem
  obtain ⟨q,hq⟩:=List.mem_iff_getElem?.1 hmem
  have hlt:=(List.getElem?_eq_some_iff.1 hq).1
  exact ⟨q,hlt,by rw [List.getD_eq_getElem?_getD,hcs,hq];rfl⟩
 let sC:=selBy Cl.isC ms ops.toList
 have hsC:sC.length=cs.length:=(selBy_get Cl.isC ms ops.toList 0 hlen').1
 have closed:∀(L:Array Bool),(∀(i:Nat) (o:Oper),ops[i]? =some o→L.getD i false=true→∀e ∈ o.after,Region.binds .any e=true→L.getD e.on false=true)→
   ∀(i:Nat) (o:Oper),ops[i]? =some o→(∀e ∈ o.after,Region.binds .any e=true→L.getD e.on false=true)→∀j ∈ reachL ops i (depsL o),L.getD j false=true:=by
  intro L hcl i o ho hdep
  exact reachL_spec (L:=fun j=> L.getD j false) hcl i (depsL o) (fun j hj=> by
   obtain ⟨e,he,rfl,hbd⟩:=depsL_spec hj
   exact hdep e he hbd)
 let Inv:=fun (L:Array Bool) (a:Act) (w:World)=> L.size=ops.size∧(∀(i:Nat) (o:Oper),ops[i]? =some o→L.getD i false=true→∀e ∈ o.after,Region.binds .any e=true→L.getD e.on false=true)∧a.tmps.size=n∧
  (∀t,(∀(j:Nat) (o:Oper),ops[j]? =some o→o.dst≠some t)→a.tmps.getD t undef=a0.tmps.getD t undef)∧
  (∀(j:Nat) (o:Oper) (m:Cl) (d:Nat),ops[j]? =some o→ms[j]? =some m→m.isC=false→o.dst=some d→L.getD j false=true→a.tmps.getD d undef=aE.tmps.getD d undef)∧
  ∃m,m≤cs.length∧(∀q,q<cs.length→(L.getD (cs.getD q 0) false=true ↔ q<m))∧(m≤k0→J w)∧
   ∃a2:Act,a2.defers=a.defers∧a2.tmps.size=n∧(∀t,(∀(j:Nat) (o:Oper) (m:Cl),ops[j]? =some o→ms[j]? =some m→m.isC=false→o.dst≠some t)→a2.tmps.getD t undef=a.tmps.getD t undef)∧
    (∀(j:Nat) (o:Oper) (m:Cl) (d:Nat),ops[j]? =some o→ms[j]? =some m→m.isC=false→o.dst=some d→a2.tmps.getD d undef=aE.tmps.getD d undef)∧chJ P ops Q J (k0 - m) (sC.drop m) a2 w
 have slot:∀(L:Array Bool) (a:Act) (i:Nat) (o:Oper) (m:Cl),ops[i]? =some o→ms[i]? =some m→(∀j ∈ reachL ops i (depsL o),L.getD j false=true)→
   (∀t,(∀(j:Nat) (o:Oper),ops[j]? =some o→o.dst≠some t)→a.tmps.getD t undef=a0.tmps.getD t undef)→
   (∀(j:Nat) (o:Oper) (m:Cl) (d:Nat),ops[j]? =some o→ms[j]? =some m→m.isC=false→o.dst=some d→L.getD j false=true→a.tmps.getD d undef=aE.tmps.getD d undef)→
   m.isC=false→∀t,t ∈ o.looksAt ops→a.tmps.getD t undef=aE.tmps.getD t undef:=by
  intro L a i o m ho hmi hreach hout hdone hmc t ht
  by_cases hex:∃(j:Nat) (oj:Oper),ops[j]? =some oj∧oj.dst=some t
  ·obtain ⟨j,oj,hj,hdj⟩:=hex
   obtain ⟨mj,hmj⟩:=hms j oj hj
   obtain ⟨r1,r2,r3,r4⟩:=(hat i o m ho hmi).2 t ht j oj mj hj hmj hdj
   exact hdone j oj mj t hj hmj (r3.resolve_left (by rw [hmc];decide)) hdj (hreach j r1)
  ·have hno:∀(j:Nat) (o:Oper),ops[j]? =some o→o.dst≠some t:=fun j o' hj hdj=> hex ⟨j,o',hj,hdj⟩
   rw [hout t hno,oE t fun j o' m' hj _ _=> hno j o' hj]
 refine ⟨Inv,?_,?_,?_⟩
 ·have hno:∀j,(Array.replicate ops.size false).getD j false=false:=fun j=> by
   by_cases hj:j<ops.size<;> simp [hj]
  refine ⟨by simp,fun i o _ h=> (by rw [hno] at h;cases h),hn,fun _ _=> rfl,fun j o m d _ _ _ _ h=> (by rw [hno] at h;cases h),0,Nat.zero_le _,fun q _=> ⟨fun h=> (by rw [hno] at h;cases h),fun h=> by omega⟩,fun _=> hb00,
   aE,by rw [q2,p2],hnE,fun t ht=> oE t ht,fun _ _ _ _ _ _ _ _=> rfl,hch⟩
 ·rintro L a w i o ho h0 hdep ⟨hs,hcl,hsn,hout,hdone,m,hmle,hmq,hmB,a2,r1,r2,r3,r4,hW⟩
  have hil:=(Array.getElem?_eq_some_iff.1 ho).1
  have h0':L.getD i false=false:=by
   have hh:i<L.size:=by omega
   simpa [hh] using h0
  have hseti:(L.setIfInBounds i true).getD i false=true:=by
   have:i<L.size:=by omega
   simp [this]
  have up:∀j,L.getD j false=true→(L.setIfInBounds i true).getD j false=true:=fun j hj=> by
   by_cases e:i=j
   ·subst e;exact hseti
   ·rw [getD_set_ne false e];exact hj
  have hcl':∀(j:Nat) (oj:Oper),ops[j]? =some oj→(L.setIfInBounds i true).getD j false=true→∀e ∈ oj.after,Region.binds .any e=true→(L.setIfInBounds i true).getD e.on false=true:=by
   intro j oj hj hL e he hbd
   by_cases hij:i=j
   ·subst hij
    rw [ho] at hj
    obtain rfl:=Option.some.inj hj
    exact up _ (hdep e he hbd)
   ·rw [getD_set_ne false hij] at hL
    exact up _ (hcl j oj hj hL e he hbd)
  have hreach:=closed L hcl i o ho hdep
  obtain ⟨mi,hmi⟩:=hms i o ho
  cases hmc:mi.isC with
  | false=>
   have hne:∀q,q<cs.length→cs.getD q 0≠i:=fun q hq e=> by
    obtain ⟨_,_,h3,_⟩:=csat q hq
    rw [e,hmi] at h3
    obtain rfl:=Option.some.inj h3
    cases hmc
   have htame:mi.isE=true→J w:=by
    intro he
    by_cases hmk:m≤k0
    ·exact hmB hmk
    ·exfalso
     have hk0:k0<cs.length:=by omega
     obtain ⟨o1,h1,h2,_⟩:=csat k0 hk0
     have e1:(idxBy Cl.isC 0 ms)[k0]? =some (cs.getD k0 0):=by rw [←hcs,List.getD_eq_getElem?_getD,List.getElem?_eq_getElem hk0];rfl
     rw [e1] at hwild
     simp only [h1] at hwild
     rw [List.all_eq_true] at hwild
     have hmem:=idxBy_mem Cl.isE ms 0 i mi hmi he
     rw [Nat.zero_add] at hmem
     have h4:=hwild i hmem
     simp only [List.contains_iff_mem] at h4
     have hdone0:=(hmq k0 hk0).2 (by omega)
     have:=closed L hcl _ o1 h1 (fun e hee hbd=> hcl _ o1 h1 hdone0 e hee hbd) i h4
     rw [h0'] at this
     cases this
   obtain ⟨d,v,hdo,hv,hy⟩:=hE i o mi ho hmi hmc w htame a (slot L a i o mi ho hmi hreach hout hdone hmc)
   have hdn':=hdn i o d ho hdo
   have fin:Inv (L.setIfInBounds i true) (a.put o.dst v) w:=by
    have hput:∀t,d≠t→(a.put o.dst v).tmps.getD t undef=a.tmps.getD t undef:=fun t ht=> by
     rw [hdo]
     simp [Act.put,Array.getD_eq_getD_getElem?,Array.getElem?_setIfInBounds_ne ht]
    have hsame:(a.put o.dst v).tmps.getD d undef=v:=by
     rw [hdo]
     simp [Act.put,hsn,hdn']
    refine ⟨by simp [hs],hcl',by rw [hdo];simp [Act.put,hsn],fun t ht=> ?_,fun j oj mj dj hj hmj hjc hdj hL=> ?_,m,hmle,fun q hq=> ?_,hmB,a2,by rw [r1,hdo];rfl,r2,fun t ht=> ?_,r4,hW⟩
    ·rw [hput t fun e=> ht i o ho (by rw [hdo,e])];exact hout t ht
    ·by_cases hij:i=j
     ·subst hij
      rw [ho] at hj
      obtain rfl:=Option.some.inj hj
      rw [hdo] at hdj
      obtain rfl:=Option.some.inj hdj
      rw [hsame,hv]
     ·rw [getD_set_ne false hij] at hL
      rw [hput dj fun e=> dst_spec hd ho hj hij d hdo (by rw [e];exact hdj)]
      exact hdone j oj mj dj hj hmj hjc hdj hL
    ·rw [getD_set_ne false (hne q hq).symm];exact hmq q hq
    ·rw [hput t fun e=> ht i o mi ho hmi hmc (by rw [hdo,e])];exact r3 t ht
   rcases hy with ⟨hw,hr | ⟨hr,rfl⟩ | ⟨f,args,hr,hcall⟩⟩ | ⟨hw,rfl⟩
   ·rw [if_pos hw]
    unfold Oper.wp
    rw [hr]
    exact fin
   ·rw [if_pos hw]
    unfold Oper.wp
    rw [hr]
    exact fin
   ·rw [if_pos hw]
    unfold Oper.wp
    rw [hr]
    exact hcall.mono fun e w'' ⟨he,hw''⟩=> by subst he;subst hw'';exact fin
   ·rw [if_neg (by rw [hw];decide)]
    exact fin
  | true=>
   have hmi':ms[i]? =some .c:=by cases mi<;> first | exact hmi | cases hmc
   obtain ⟨q,hq,hqi⟩:=csall i o ho hmi'
   have hqm:q=m:=by
    have h1:¬ q<m:=fun h=> by
     have:=(hmq q hq).2 h
     rw [hqi,h0'] at this
     cases this
    rcases Nat.lt_or_ge m q with h2 | h2
    ·exfalso
     have step:∀d,d≤q - m→L.getD (cs.getD (q - d) 0) false=true∨d=0:=by
      intro d
      induction d with
      | zero=> intro _;exact .inr rfl
      | succ d ih=>
       intro hd1
       left
       rw [List.all_eq_true] at hchain
       have h3:=hchain (q - d) (List.mem_range.2 (by show q - d<cs.length;omega))
       obtain ⟨o3,h4,_,_⟩:=csat (q - d) (by omega)
       rw [←hcs,h4] at h3
       simp only [Bool.or_eq_true,beq_iff_eq,List.contains_iff_mem] at h3
       have h5:=h3.resolve_left (by omega)
       rw [show q - (d+1)=q - d - 1 by omega]
       rcases ih (by omega) with h6 | h6
       ·exact closed L hcl _ o3 h4 (fun e he hbd=> hcl _ o3 h4 h6 e he hbd) _ h5
       ·subst h6
        rw [Nat.sub_zero] at h4 h5 ⊢
        rw [hqi] at h4
        rw [ho] at h4
        obtain rfl:=Option.some.inj h4
        rw [hqi] at h5
        exact hreach _ h5
     have h7:=step (q - m) (Nat.le_refl _)
     rcases h7 with h7 | h7
     ·rw [show q - (q - m)=m by omega] at h7
      have:=(hmq m (by omega)).1 h7
      omega
     ·omega
    ·omega
   subst hqm
   obtain ⟨o',ho',_,hsq⟩:=csat q hq
   rw [hqi,ho] at ho'
   obtain rfl:=Option.some.inj ho'
   have hdrop:sC.drop q=o::sC.drop (q+1):=by
    have hlt:q<sC.length:=by omega
    rw [List.drop_eq_getElem_cons hlt]
    congr 1
    have:sC[q]? =some o:=hsq
    rw [List.getElem?_eq_getElem hlt] at this
    exact Option.some.inj this
   have hl2:∀t,t ∈ o.looksAt ops→a2.tmps.getD t undef=a.tmps.getD t undef:=by
    intro t ht
    by_cases hex:∃(j:Nat) (oj:Oper) (mj:Cl),ops[j]? =some oj∧ms[j]? =some mj∧mj.isC=false∧oj.dst=some t
    ·obtain ⟨j,oj,mj,hj,hmj,hjc,hdj⟩:=hex
     rw [r4 j oj mj t hj hmj hjc hdj,hdone j oj mj t hj hmj hjc hdj (hreach j ((hat i o .c ho hmi').2 t ht j oj mj hj hmj hdj).1)]
    ·exact r3 t fun j oj mj hj hmj hjc hdj=> hex ⟨j,oj,mj,hj,hmj,hjc,hdj⟩
   have hstep:if Region.wanted o (yielded ops a2.tmps) then o.wp P a2 w (fun a' w'=> (q+1≤k0→J w')∧chJ P ops Q J (k0 - (q+1)) (sC.drop (q+1)) a' w') (OnlyN Q) else (q+1≤k0→J w)∧chJ P ops Q J (k0 - (q+1)) (sC.drop (q+1)) (a2.put o.dst undef) w:=by
    rw [hdrop] at hW
    cases hk:k0 - q with
    | zero=>
     rw [hk] at hW
     have hW':if Region.wanted o (yielded ops a2.tmps) then o.wp P a2 w (wpList P ops (OnlyN Q) (sC.drop (q+1))) (OnlyN Q)∨(o.asks P a2 w∧LetsOut (OnlyN Q)) else wpList P ops (OnlyN Q) (sC.drop (q+1)) (a2.put o.dst undef) w:=hW
     rw [show k0 - (q+1)=0 by omega]
     split
     ·rename_i hw
      rw [if_pos hw] at hW'
      exact Oper.wp_mono (fun a' w' h'=> ⟨fun h=> by omega,h'⟩) (hW'.resolve_right fun h=> onlyN_no h.2)
     ·rename_i hw
      rw [if_neg hw] at hW'
      exact ⟨fun h=> by omega,hW'⟩
    | succ k'=>
     rw [hk] at hW
     have hW':if Region.wanted o (yielded ops a2.tmps) then o.wp P a2 w (fun a' w'=> J w'∧chJ P ops Q J k' (sC.drop (q+1)) a' w') (OnlyN Q) else chJ P ops Q J k' (sC.drop (q+1)) (a2.put o.dst undef) w:=hW
     rw [show k0 - (q+1)=k' by omega]
     split
     ·rename_i hw
      rw [if_pos hw] at hW'
      exact Oper.wp_mono (fun a' w' h'=> ⟨fun _=> h'.1,h'.2⟩) hW'
     ·rename_i hw
      rw [if_neg hw] at hW'
      exact ⟨fun _=> hmB (by omega),hW'⟩
   have fin:∀(D:List Deferred) (v:Value) (w':World),(q+1≤k0→J w')∧chJ P ops Q J (k0 - (q+1)) (sC.drop (q+1)) (({ a2 with defers:=D }:Act).put o.dst v) w'→Inv (L.setIfInBounds i true) (({ a with defers:=D }:Act).put o.dst v) w':=by
    rintro D v w' ⟨hB',hW'⟩
    have hdst:∀(j:Nat) (oj:Oper) (mj:Cl) (d:Nat),ops[j]? =some oj→ms[j]? =some mj→mj.isC=false→oj.dst=some d→o.dst≠some d:=fun j oj mj d hj hmj hjc hdj=>
     dst_spec hd hj ho (fun e=> by subst e;rw [hmi'] at hmj;obtain rfl:=Option.some.inj hmj;cases hjc) d hdj
    have hput:∀(b:Act) (t:Nat),o.dst≠some t→(({ b with defers:=D }:Act).put o.dst v).tmps.getD t undef=b.tmps.getD t undef:=fun b t ht=> by
     cases hdo:o.dst with
     | none=> rfl
     | some d=>
      have hne:d≠t:=fun e=> ht (by rw [hdo,e])
      simp [Act.put,Array.getD_eq_getD_getElem?,Array.getElem?_setIfInBounds_ne hne]
    have hpsz:∀(b:Act),(({ b with defers:=D }:Act).put o.dst v).tmps.size=b.tmps.size:=fun b=> by cases o.dst<;> simp [Act.put]
    refine ⟨by simp [hs],hcl',by rw [hpsz];exact hsn,fun t ht=> ?_,fun j oj mj dj hj hmj hjc hdj hL=> ?_,q+1,by omega,fun q' hq'=> ?_,hB',_,?_,by rw [hpsz];exact r2,fun t ht=> ?_,fun j oj mj dj hj hmj hjc hdj=> ?_,hW'⟩
    ·rw [hput a t (ht i o ho)];exact hout t ht
    ·have hij:i≠j:=fun e=> by subst e;rw [hmi'] at hmj;obtain rfl:=Option.some.inj hmj;cases hjc
     rw [getD_set_ne false hij] at hL
     rw [hput a dj (hdst j oj mj dj hj hmj hjc hdj)]
     exact hdone j oj mj dj hj hmj hjc hdj hL
    ·by_cases e:q'=q
     ·subst e
      rw [hqi,hseti]
      exact ⟨fun _=> by omega,fun _=> rfl⟩
     ·have hne:i≠cs.getD q' 0:=fun e2=> by
       rw [←hqi] at e2
       rcases Nat.lt_or_gt_of_ne e with h1 | h1
       ·have:=cslt q' q h1 hq;omega
       ·have:=cslt q q' h1 hq';omega
      rw [getD_set_ne false hne,hmq q' hq']
      omega
    ·cases o.dst<;> rfl
    ·cases hdo:o.dst with
     | none=> exact r3 t ht
     | some d=>
      by_cases e:d=t
      ·subst e
       have hdn':=hdn i o d ho hdo
       simp [Act.put,r2,hsn,hdn']
      ·have h1:=hput a2 t (by rw [hdo];simpa using e)
       have h2:=hput a t (by rw [hdo];simpa using e)
       rw [hdo] at h1 h2
       rw [h1,h2]
       exact r3 t ht
    ·rw [hput a2 dj (hdst j oj mj dj hj hmj hjc hdj)]
     exact r4 j oj mj dj hj hmj hjc hdj
   have hfin0:∀(v:Value) (w':World),(q+1≤k0→J w')∧chJ P ops Q J (k0 - (q+1)) (sC.drop (q+1)) (a2.put o.dst v) w'→Inv (L.setIfInBounds i true) (a.put o.dst v) w':=fun v w' h'=> by
    have h3:=fin a.defers v w'
    have e2:({ a2 with defers:=a.defers }:Act)=a2:=by rw [←r1]
    rw [e2] at h3
    exact h3 h'
   have hw12:Region.wanted o (yielded ops a2.tmps)=Region.wanted o (yielded ops a.tmps):=wanted_congr hl2
   rw [hw12] at hstep
   split at hstep
   ·rename_i hw
    rw [if_pos hw]
    unfold Oper.wp at hstep ⊢
    rw [exec_congr (fun cs b=> hsel' i o cs b ho) hl2] at hstep
    generalize (execOp a.eval o).run P w=r at *
    cases r with
    | ok nx w'=>
     cases nx<;> simp only [Oper.upon] at hstep ⊢
     case value v=> exact hfin0 _ _ hstep
     case skip=> exact hfin0 _ _ hstep
     case defer dd=>
      have:=fin (dd::a.defers) undef w'
      rw [←r1] at this
      rw [←r1]
      exact this hstep
     case enter f args=>
      refine Calls.mono hstep fun e w'' he=> ?_
      cases e with
      | returned v=> exact hfin0 _ _ he
      | panicked ch=> exact absurd he.1 (by simp)
      | outgrown=> exact absurd he onlyN_no
     case row rw_ args=> exact Rows.mono hstep fun v w'' he=> hfin0 _ _ he
    | halt x w'=> cases x<;> simp only [Oper.upon] at hstep;exact absurd hstep.1 (by simp)
   ·rename_i hw
    rw [if_neg hw]
    exact hfin0 _ _ hstep
 ·rintro L a w hL ⟨hs,hcl,hsn,hout,hdone,m,hmle,hmq,hmB,a2,r1,r2,r3,r4,hW⟩
  have hmm:m=cs.length:=by
   rcases Nat.lt_or_ge m cs.length with h1 | h1
   ·exfalso
    obtain ⟨o1,h2,_,_⟩:=csat m h1
    have:=(hmq m h1).1 (hL _ (Array.getElem?_eq_some_iff.1 h2).1)
    omega
   ·omega
  have hnil:sC.drop m= [] :=List.drop_eq_nil_iff.2 (by omega)
  rw [hnil] at hW
  have hQ:Q .normal a2 w:=by
   cases hk:k0 - m with
   | zero=> rw [hk] at hW;exact hW.2
   | succ k'=> rw [hk] at hW;exact hW.2
  have hat2:a2=a:=by
   have htm:a2.tmps=a.tmps:=by
    refine Array.ext (by rw [r2,hsn]) fun t h1 h2=> ?_
    have key:a2.tmps.getD t undef=a.tmps.getD t undef:=by
     by_cases hex:∃(j:Nat) (oj:Oper) (mj:Cl),ops[j]? =some oj∧ms[j]? =some mj∧mj.isC=false∧oj.dst=some t
     ·obtain ⟨j,oj,mj,hj,hmj,hjc,hdj⟩:=hex
      rw [r4 j oj mj t hj hmj hjc hdj,hdone j oj mj t hj hmj hjc hdj (hL j (Array.getElem?_eq_some_iff.1 hj).1)]
     ·exact r3 t fun j oj mj hj hmj hjc hdj=> hex ⟨j,oj,mj,hj,hmj,hjc,hdj⟩
    simpa [h1,h2] using key
   cases a2;cases a
   simp only at htm r1
   subst htm;subst r1
   rfl
  rw [←hat2]
  exact hQ
theorem region_earlyJI {id l nn:Nat} {a0:Act} {w0:World} {n:Nat} {a1 aE:Act} (J:World→Prop) (ms:List Cl) (k0:Nat) (hm:P.follows .mixedOrders=true) (hb:backB ops=true) (hc:earlyB ops n ms k0=true) (hnd:noDeferB ops=true) (hn:a0.tmps.size=n) (hJ0:J w0.drew)
  (h1:∀w',J w'→wpStill P ops w' (fun a=> a=a1) (selBy Cl.isE ms ops.toList) a0) (h2:∀w',wpStill P ops w' (fun a=> a=aE) (selBy Cl.isF ms ops.toList) a1) (h3:chJ P ops Q J k0 (selBy Cl.isC ms ops.toList) aE w0.drew):
  (Code.region id ops true).wpIn (Fence.wide.inRound l) nn P Q a0 w0:=by
 obtain ⟨I,g1,g2,g3⟩:=early_core (Q:=Q) J hJ0 ms k0 hb hc hn ⟨a1,aE,h1,h2,h3⟩
 exact wpIn_region_inv hm hb hnd I g1 g2 g3
end
end Go.Bas
