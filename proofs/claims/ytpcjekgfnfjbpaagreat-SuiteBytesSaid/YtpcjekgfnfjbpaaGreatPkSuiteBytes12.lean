/- Part 12 of SuiteBytes; conditions: in each theorem. -/
import Derived.Test.YtpcjekgfnfjbpaaGreatPkSuiteBytes11
import Derived.StillTactics
set_option linter.unusedVariables false
set_option linter.unusedSimpArgs false
namespace Go.bC
open Go.RowKit
inductive Cl | e | f | c
def Cl.II:Cl->Bool | .e=>true | _=>false
def Cl.Xu:Cl->Bool | .f=>true | _=>false
def Cl.qg:Cl->Bool | .c=>true | _=>false
def fK (k:Cl->Bool):List Cl->List Oper->List Oper
 | m::ms,o::os=>bif k m then o::fK k ms os else fK k ms os
 | _,_=> []
def idxBy (k:Cl->Bool):Nat->List Cl->List Nat
 | _, [] => []
 | i,m::ms=>bif k m then i::idxBy k (i+1) ms else idxBy k (i+1) ms
def oU (Q:Exit->Act->World->Prop):Exit->Act->World->Prop:=fun e a w=>e=.normal/\Q e a w
section
variable {P : Program} {ops : Array Oper} {Q : Exit -> Act -> World -> Prop}
theorem EF {a:Act} {w:World} (h:Q .normal a w):oU Q .normal a w:=⟨rfl,h⟩
theorem JV:¬ LetsOut (oU Q):=fun⟨_,_,h,_⟩=>by cases h
def Nn (P:Program) (ops:Array Oper) (Q:Exit->Act->World->Prop) (J:World->Prop):Nat->List Oper->Act->World->Prop
 | 0,l,a,w=>wpList P ops (oU Q) l a w
 | _+1, [],a,w=>oU Q .normal a w
 | k+1,o::rest,a,w=>if Region.wanted o (yielded ops a.tmps) then o.wp P a w (fun a' w'=>J w'/\Nn P ops Q J k rest a' w') (oU Q) else Nn P ops Q J k rest (a.put o.dst undef) w
theorem Wx {J:World->Prop} {k:Nat} {o:Oper} {rest:List Oper} {a:Act} {w:World} (hb:J w)
  (h:∀K:Act->World->Prop,(∀a' w',J w'->Nn P ops Q J k rest a' w'->K a' w')->if Region.wanted o (yielded ops a.tmps) then o.wp P a w K (oU Q) else K (a.put o.dst undef) w):Nn P ops Q J (k+1) (o::rest) a w:=by
 have h1:=h (fun a' w'=>J w'/\Nn P ops Q J k rest a' w') fun a' w' h1 h2=>⟨h1,h2⟩
 unfold Nn
 split
 ·rename_i hw;rwa [if_pos hw] at h1
 ·rename_i hw;rw[if_neg hw] at h1;exact h1.2
abbrev chW (P:Program) (ops:Array Oper) (Q:Exit->Act->World->Prop) (w0:World):Nat->List Oper->Act->World->Prop:=Nn P ops Q (fun w=>Below w0.heap.size w0 w)
theorem qw {w0:World} {k:Nat} {o:Oper} {rest:List Oper} {a:Act} {w:World} (hb:Below w0.heap.size w0 w)
  (h:∀K:Act->World->Prop,(∀a' w',Below w0.heap.size w0 w'->chW P ops Q w0 k rest a' w'->K a' w')->if Region.wanted o (yielded ops a.tmps) then o.wp P a w K (oU Q) else K (a.put o.dst undef) w):chW P ops Q w0 (k+1) (o::rest) a w:=Wx hb h
theorem qp {w0:World} {l:List Oper} {a:Act} {w:World} (h:wpList P ops (oU Q) l a w):chW P ops Q w0 0 l a w:=h
theorem vN {o:Oper} {a a':Act} (h:∀t,t ∈ o.looksAt ops->a'.tmps.getD t undef=a.tmps.getD t undef):Region.wanted o (yielded ops a'.tmps)=Region.wanted o (yielded ops a.tmps):=by
 unfold Region.wanted
 cases hg:o.guard with
 | none=>rfl
 | some gw=>
  obtain⟨g,want⟩:=gw;have hyd:yielded ops a'.tmps g=yielded ops a.tmps g:=by
   unfold yielded
   cases ht:(ops[g]?).bind (·.dst) with
   | none=>rfl
   | some t=>
    have:=h t (by simp[Oper.looksAt,hg,ht]);simp only[Array.getD_eq_getD_getElem?] at this;simp only[Option.bind_some];cases h1:a'.tmps[t]?<;> cases h2:a.tmps[t]?<;> rw[h1,h2] at this<;> simp at this
    ·subst this;rfl
    ·subst this;rfl
    ·subst this;rfl
  simp only[hyd]
theorem BR {o:Oper} {a a':Act} (hsel:∀cs b,o.op≠.select cs b) (h:∀t,t ∈ o.looksAt ops->a'.tmps.getD t undef=a.tmps.getD t undef):execOp a'.eval o=execOp a.eval o:=by
 refine execOp_congr o hsel fun x hx=>?_
 cases x with
 | tmp t=>
  have:=h t (List.mem_append_left _ (List.mem_filterMap.2 ⟨.tmp t,by simpa using hx,rfl⟩))
  simpa [Act.eval] using this
 | _=>rfl
theorem Et {w:World} {aE:Act}:∀(l:List Oper) (a:Act),wpStill P ops w (fun a'=>a'=aE) l a->
  l.Pairwise (fun x y=> ∀d,x.dst=some d->y.dst≠some d)->(∀o ∈ l,(∃d,o.dst=some d/\d<a.tmps.size)/\∀cs b,o.op≠.select cs b)->
  l.Pairwise (fun x y=> ∀t,t ∈ x.looksAt ops->y.dst≠some t)->(∀o ∈ l,∀t,t ∈ o.looksAt ops->o.dst≠some t)->
  (∀t,(∀o ∈ l,o.dst≠some t)->aE.tmps.getD t undef=a.tmps.getD t undef)/\aE.defers=a.defers/\aE.tmps.size=a.tmps.size/\
  ∀o ∈ l,∀a',(∀t,t ∈ o.looksAt ops->a'.tmps.getD t undef=aE.tmps.getD t undef)->∃v,(∀d,o.dst=some d->aE.tmps.getD d undef=v)/\YieldsAt P ops w o v a':=by
 intro l
 induction l with
 | nil=>
  intro a h _ _ _ _;obtain rfl:a=aE:=h;exact⟨fun _ _=>rfl,rfl,rfl,fun o ho=>by cases ho⟩
 | cons o rest ih=>
  intro a h hd hs hl hself;have hy:∃v,YieldsAt P ops w o v a/\wpStill P ops w (fun a'=>a'=aE) rest (a.put o.dst v):=by
   have h':if Region.wanted o (yielded ops a.tmps) then o.still P a w (wpStill P ops w (fun a'=>a'=aE) rest) else wpStill P ops w (fun a'=>a'=aE) rest (a.put o.dst undef):=h
   by_cases hw:Region.wanted o (yielded ops a.tmps)=true
   ·rw[if_pos hw] at h';unfold Oper.still at h'
    generalize hr:(execOp a.eval o).run P w=r at h'
    cases r with
    | ok n w'=>
     cases n<;> simp only[Oper.stillUpon] at h'
     case value u=>obtain⟨rfl,h2⟩:=h';exact⟨u,.inl ⟨hw,.inl hr⟩,h2⟩
     case skip=>obtain⟨rfl,h2⟩:=h';exact⟨undef,.inl ⟨hw,.inr (.inl ⟨hr,rfl⟩)⟩,h2⟩
     case enter f args=>obtain⟨rfl,v,hc,h2⟩:=h';exact⟨v,.inl ⟨hw,.inr (.inr ⟨f,args,hr,hc⟩)⟩,h2⟩
    | halt x w'=>simp only[Oper.stillUpon] at h'
   ·rw[if_neg hw] at h';exact⟨undef,.inr ⟨by simpa using hw,rfl⟩,h'⟩
  obtain⟨v,hyv,hrest⟩:=hy;obtain⟨hd1,hd2⟩:=List.pairwise_cons.1 hd;obtain⟨hl1,hl2⟩:=List.pairwise_cons.1 hl;obtain⟨⟨d,hdo,ajX⟩,hsel⟩:=hs o aR;have fD:(a.put o.dst v).tmps.size=a.tmps.size:=by rw[hdo];simp[Act.put]
  obtain⟨q1,q2,q3,q4⟩:=ih (a.put o.dst v) hrest hd2 (fun o' ho'=>⟨by rw[fD];exact(hs o' (by simp[ho'])).1,(hs o' (by simp[ho'])).2⟩) hl2 (fun o' ho'=>hself o' (by simp[ho']));have hput:∀t,o.dst≠some t->(a.put o.dst v).tmps.getD t undef=a.tmps.getD t undef:=fun t ht=>by
   rw[hdo] at ht ⊢;have gB:d≠t:=fun e=>ht (by rw[e]);simp[Act.put,Array.getD_eq_getD_getElem?,Array.getElem?_setIfInBounds_ne gB]
  have hv:aE.tmps.getD d undef=v:=by
   rw[q1 d fun o' ho'=>hd1 o' ho' d hdo,hdo];simp[Act.put,ajX]
  refine⟨fun t ht=>?_,?_,by rw[q3,fD],fun o' ho' a' ha'=>?_⟩
  ·rw[q1 t fun o' ho'=>ht o' (by simp[ho']),hput t (ht o aR)]
  ·rw[q2,hdo];rfl
  ·rcases List.mem_cons.1 ho' with rfl | ho'
   ·refine⟨v,fun d' hd'=>by rw[hdo] at hd';obtain rfl:=iy hd';exact hv,?_⟩;have hag:∀t,t ∈ o'.looksAt ops->a'.tmps.getD t undef=a.tmps.getD t undef:=fun t ht=>by
     rw[ha' t ht,q1 t fun o2 ho2=>hl1 o2 ho2 t ht,hput t (hself o' aR t ht)]
    exact hyv.of_same (BR hsel hag) (vN hag)
   ·exact q4 o' ho' a' ha'
theorem pR (k:Cl->Bool):∀(ms:List Cl) (l:List Oper) (b:Nat),ms.length=l.length->(fK k ms l).length=(idxBy k b ms).length/\∀(q i:Nat),(idxBy k b ms)[q]? =some i->b<=i/\i - b<ms.length/\(fK k ms l)[q]? =l[i - b]?/\∃m,ms[i - b]? =some m/\k m=true:=by
 intro ms
 induction ms with
 | nil=>intro l b h;exact⟨by cases l<;> rfl,fun q i h=>by simp[idxBy] at h⟩
 | cons m ms ih=>
  intro l b h
  cases l with
  | nil=>cases h
  | cons o os=>
   obtain⟨h1,h2⟩:=ih os (b+1) (by simpa using h);have shift:∀i,b+1<=i->i - b=(i - (b+1))+1:=fun i hi=>by omega
   cases hk:k m with
   | true=>
    simp only[fK,idxBy,hk,cond_true,List.length_cons];refine⟨by rw[h1],fun q i hq=>?_⟩
    cases q with
    | zero=>
     simp only[List.getElem?_cons_zero,CO] at hq;subst hq;exact⟨bB _,by omega,by simp,m,by simp,hk⟩
    | succ q=>
     rw[List.getElem?_cons_succ] at hq;obtain⟨q1,q2,q3,q4⟩:=h2 q i hq;refine⟨by omega,by omega,?_,?_⟩
     ·rw[List.getElem?_cons_succ,shift i q1,List.getElem?_cons_succ];exact q3
     ·rw[shift i q1,List.getElem?_cons_succ];exact q4
   | false=>
    simp only[fK,idxBy,hk,cond_false,List.length_cons];refine⟨h1,fun q i hq=>?_⟩;obtain⟨q1,q2,q3,q4⟩:=h2 q i hq;refine⟨by omega,by omega,?_,?_⟩
    ·rw[shift i q1,List.getElem?_cons_succ];exact q3
    ·rw[shift i q1,List.getElem?_cons_succ];exact q4
theorem Kq (k:Cl->Bool):∀(ms:List Cl) (b:Nat),(idxBy k b ms).Pairwise (· < ·)/\∀i ∈ idxBy k b ms,b<=i:=by
 intro ms
 induction ms with
 | nil=>intro b;exact⟨List.Pairwise.nil,fun i h=>by cases h⟩
 | cons m ms ih=>
  intro b;obtain⟨h1,h2⟩:=ih (b+1)
  cases hk:k m with
  | true=>
   simp only[idxBy,hk,cond_true];refine⟨List.pairwise_cons.2 ⟨fun i hi=>by have:=h2 i hi;omega,h1⟩,fun i hi=>?_⟩;rcases List.mem_cons.1 hi with rfl | hi
   ·exact bB _
   ·have:=h2 i hi;omega
  | false=>
   simp only[idxBy,hk,cond_false];exact⟨h1,fun i hi=>by have:=h2 i hi;omega⟩
theorem yC (k:Cl->Bool):∀(ms:List Cl) (b j:Nat) (m:Cl),ms[j]? =some m->k m=true->b+j ∈ idxBy k b ms:=by
 intro ms
 induction ms with
 | nil=>intro b j m h;simp at h
 | cons m0 ms ih=>
  intro b j m h hk
  cases j with
  | zero=>
   simp only[List.getElem?_cons_zero,CO] at h;subst h;simp[idxBy,hk]
  | succ j=>
   rw[List.getElem?_cons_succ] at h;have:=ih (b+1) j m h hk;rw[show b+(j+1)=b+1+j by omega];unfold idxBy;cases k m0<;> simp[this]
theorem nL {k:Cl->Bool} {ms:List Cl} {l:List Oper} (hl:ms.length=l.length) {o:Oper} (h:o ∈ fK k ms l):∃(i:Nat) (m:Cl),ms[i]? =some m/\k m=true/\l[i]? =some o:=by
 obtain⟨q,hq⟩:=List.mem_iff_getElem?.1 h;obtain⟨h1,h2⟩:=pR k ms l 0 hl;have hlt:q<(idxBy k 0 ms).length:=by rw[<-h1];exact(List.getElem?_eq_some_iff.1 hq).1
 obtain⟨_,_,q3,m,q4,q5⟩:=h2 q _ (tO hlt);exact⟨_,m,by simpa using q4,q5,by rw[hq] at q3;simpa using q3.symm⟩
theorem AL {k:Cl->Bool} {R:Oper->Oper->Prop} {ms:List Cl} {l:List Oper} (hl:ms.length=l.length)
  (hR:∀(i j:Nat) (oi oj:Oper) (mi mj:Cl),i<j->l[i]? =some oi->l[j]? =some oj->ms[i]? =some mi->ms[j]? =some mj->k mi=true->k mj=true->R oi oj):(fK k ms l).Pairwise R:=by
 rw[List.pairwise_iff_getElem];intro i j hi hj jw;obtain⟨h1,h2⟩:=pR k ms l 0 hl;have a1:i<(idxBy k 0 ms).length:=by omega
 have a2:j<(idxBy k 0 ms).length:=by omega
 obtain⟨_,_,p3,mi,p4,p5⟩:=h2 i _ (tO a1);obtain⟨_,_,q3,mj,q4,q5⟩:=h2 j _ (tO a2);rw[tO hi] at p3;rw[tO hj] at q3;exact hR _ _ _ _ mi mj (List.pairwise_iff_getElem.1 (Kq k ms 0).1 i j a1 a2 jw) (by simpa using p3.symm) (by simpa using q3.symm) (by simpa using p4) (by simpa using q4) p5 q5
def Us (ops:Array Oper) (ms:List Cl) (i:Nat) (m:Cl) (o:Oper):Bool:=(o.looksAt ops).all fun t=>(List.range ops.size).all fun j=>match ops[j]?,ms[j]? with
 | some oj,some mj=>oj.dst !=some t || ((lF ops i (mK o)).contains j && decide (j<i) && (m.qg || !mj.qg) && (!m.II || mj.II))
 | _,_=>true
def Ie (ops:Array Oper) (n:Nat) (ms:List Cl) (k0:Nat):Bool:=
 Region.noSelect ops && (ms.length==ops.size) && tH ops n && ((List.range ops.size).all fun i=>match ops[i]?,ms[i]? with | some o,some m=>(m.qg || o.dst.isSome) && Us ops ms i m o | _,_=>false) &&
 ((List.range (idxBy Cl.qg 0 ms).length).all fun q=>q==0 || match ops[(idxBy Cl.qg 0 ms).getD q 0]? with | some o=>(lF ops ((idxBy Cl.qg 0 ms).getD q 0) (mK o)).contains ((idxBy Cl.qg 0 ms).getD (q - 1) 0) | none=>false) &&
 (match (idxBy Cl.qg 0 ms)[k0]? with | none=>true | some i=>match ops[i]? with | some o=>(idxBy Cl.II 0 ms).all fun j=>(lF ops i (mK o)).contains j | none=>false)
theorem Dv {id:Nat} {a0:Act} {w0:World} {n:Nat} (J:World->Prop) (hJ0:J w0.drew) (ms:List Cl) (k0:Nat) (hm:P.follows .mixedOrders=true) (hb:mM ops=true) (hc:Ie ops n ms k0=true) (hn:a0.tmps.size=n)
  (h:∃a1 aE,(∀w',J w'->wpStill P ops w' (fun a=>a=a1) (fK Cl.II ms ops.toList) a0)/\(∀w',wpStill P ops w' (fun a=>a=aE) (fK Cl.Xu ms ops.toList) a1)/\Nn P ops Q J k0 (fK Cl.qg ms ops.toList) aE w0.drew):
  (Code.region id ops true).wp P Q a0 w0:=by
 obtain⟨a1,aE,hw1,hw2,hch⟩:=h;unfold Ie at hc;simp only[NK] at hc;obtain⟨⟨⟨⟨⟨hsel,hlen⟩,hd⟩,hall⟩,hchain⟩,OI⟩:=hc;have hlen':ms.length=ops.toList.length:=by simpa using hlen
 have fD:ms.length=ops.size:=by simpa using hlen
 have aar:=Region.noSelect_spec hsel
 have hat:∀(i:Nat) (o:Oper) (m:Cl),ops[i]? =some o->ms[i]? =some m->(m.qg=true\/∃d,o.dst=some d)/\∀t,t ∈ o.looksAt ops->∀(j:Nat) (oj:Oper) (mj:Cl),ops[j]? =some oj->ms[j]? =some mj->oj.dst=some t->
   j ∈ lF ops i (mK o)/\j<i/\(m.qg=true\/mj.qg=false)/\(m.II=true->mj.II=true):=by
  intro i o m ho Ab;rw[CQ] at hall;have h1:=hall i (List.mem_range.2 (Array.getElem?_eq_some_iff.1 ho).1);rw[ho,Ab] at h1;simp only[NK,mP] at h1;obtain⟨h1,h2⟩:=h1;refine⟨h1.imp (fun h=>h) fun h=>Option.isSome_iff_exists.1 h,fun t ht j oj mj hj rU hdst=>?_⟩;unfold Us at h2;rw[CQ] at h2;have h3:=h2 t ht;rw[CQ] at h3;have h4:=h3 j (List.mem_range.2 (Array.getElem?_eq_some_iff.1 hj).1);rw[hj,rU] at h4;simp only[mP,NK,bne_iff_ne,ne_eq,decide_eq_true_eq,List.contains_iff_mem,Bool.not_eq_true'] at h4;rcases h4 with h4 | ⟨⟨⟨a,b⟩,c⟩,d⟩
  ·exact absurd hdst h4
  ·exact⟨a,b,c,fun he=>d.resolve_left (by rw[he];decide)⟩
 have hms:∀(i:Nat) (o:Oper),ops[i]? =some o->∃m,ms[i]? =some m:=fun i o ho=>by
  have:=(Array.getElem?_eq_some_iff.1 ho).1;exact⟨_,tO aH⟩
 have yE:∀i:Nat,ops.toList[i]? =ops[i]?:=fun i=>by simp
 have hdn:∀(i:Nat) (o:Oper) (d:Nat),ops[i]? =some o->o.dst=some d->d<n:=by
  intro i o d ho hd';unfold tH at hd;simp only[NK] at hd;have h1:=hd.2;rw[CQ] at h1;have h2:=h1 o (by rw[List.mem_iff_getElem?];exact⟨i,by simpa using ho⟩);rw[hd'] at h2
  simpa using h2
 have side:∀(k:Cl->Bool),(∀m,k m=true->m.qg=false)->
   (fK k ms ops.toList).Pairwise (fun x y=> ∀d,x.dst=some d->y.dst≠some d)/\(fK k ms ops.toList).Pairwise (fun x y=> ∀t,t ∈ x.looksAt ops->y.dst≠some t)/\
   (∀o ∈ fK k ms ops.toList,∀t,t ∈ o.looksAt ops->o.dst≠some t)/\∀a:Act,a.tmps.size=n->∀o ∈ fK k ms ops.toList,(∃d,o.dst=some d/\d<a.tmps.size)/\∀cs b,o.op≠.select cs b:=by
  intro k hk1
  refine⟨AL hlen' fun i j oi oj mi mj jw hi hj _ _ _ _ d hdi=>iI hd (by rwa [yE] at hi) (by rwa [yE] at hj) aH d hdi,
   AL hlen' fun i j oi oj mi mj jw hi hj Ab rU _ _ t ht hdj=>by
    have:=((hat i oi mi (by rwa [yE] at hi) Ab).2 t ht j oj mj (by rwa [yE] at hj) rU hdj).2.1;omega,
   fun o ho t ht hdo=>?_,fun a ha o ho=>?_⟩
  ·obtain⟨i,m,h1,h2,h3⟩:=nL hlen' ho;have:=((hat i o m (by rwa [yE] at h3) h1).2 t ht i o m (by rwa [yE] at h3) h1 hdo).2.1;omega
  ·obtain⟨i,m,h1,h2,h3⟩:=nL hlen' ho;rw[yE] at h3;rcases(hat i o m h3 h1).1 with h4 | ⟨d,h4⟩
   ·rw[hk1 m h2] at h4;cases h4
   ·exact⟨⟨d,h4,by rw[ha];exact hdn i o d h3 h4⟩,fun cs b=>aar i o cs b h3⟩
 obtain⟨e1,e2,e3,e4⟩:=side Cl.II (fun m h=>by cases m<;> first | rfl | cases h);obtain⟨f1,f2,f3,f4⟩:=side Cl.Xu (fun m h=>by cases m<;> first | rfl | cases h);have g0:=fun w' hw'=>Et (ops:=ops) _ a0 (hw1 w' hw') e1 (e4 a0 hn) e2 e3;have aga:J w0.drew:=hJ0;obtain⟨p1,p2,p3,_⟩:=g0 _ aga;have hn1:a1.tmps.size=n:=by rw[p3,hn]
 have k0':=fun w'=>Et (ops:=ops) _ a1 (hw2 w') f1 (f4 a1 hn1) f2 f3;obtain⟨q1,q2,q3,_⟩:=k0' w0;have hnE:aE.tmps.size=n:=by rw[q3,hn1]
 have inE:∀(k:Cl->Bool) (j:Nat) (o:Oper) (m:Cl),ops[j]? =some o->ms[j]? =some m->k m=true->o ∈ fK k ms ops.toList:=by
  intro k j o m ho rU hk;have hmem:=yC k ms 0 j m rU hk;rw[oD] at hmem;obtain⟨q,hq⟩:=List.mem_iff_getElem?.1 hmem;obtain⟨_,_,h3,_⟩:=(pR k ms ops.toList 0 hlen').2 q j hq;rw[Nat.sub_zero,yE,ho] at h3;exact List.mem_iff_getElem?.2 ⟨q,h3⟩
 have oE:∀t,(∀(j:Nat) (o:Oper) (m:Cl),ops[j]? =some o->ms[j]? =some m->m.qg=false->o.dst≠some t)->aE.tmps.getD t undef=a0.tmps.getD t undef:=by
  intro t ht;rw[q1 t fun o ho=>?_,p1 t fun o ho=>?_]
  ·obtain⟨i,m,h1,h2,h3⟩:=nL hlen' ho;exact ht i o m (by rwa [yE] at h3) h1 (by cases m<;> first | rfl | cases h2)
  ·obtain⟨i,m,h1,h2,h3⟩:=nL hlen' ho;exact ht i o m (by rwa [yE] at h3) h1 (by cases m<;> first | rfl | cases h2)
 have nf:∀t,(∃(j:Nat) (o:Oper),ops[j]? =some o/\ms[j]? =some .e/\o.dst=some t)->aE.tmps.getD t undef=a1.tmps.getD t undef:=by
  rintro t ⟨j,o,hj,rU,hdo⟩;refine q1 t fun o' ho'=>?_;obtain⟨i,m,h1,h2,h3⟩:=nL hlen' ho';rw[yE] at h3;exact iI hd hj h3 (fun e=>by subst e;rw[rU] at h1;obtain rfl:=iy h1;cases h2) t hdo
 have hE:∀(i:Nat) (o:Oper) (m:Cl),ops[i]? =some o->ms[i]? =some m->m.qg=false->∀w',(m.II=true->J w')->∀a',(∀t,t ∈ o.looksAt ops->a'.tmps.getD t undef=aE.tmps.getD t undef)->
   ∃d v,o.dst=some d/\aE.tmps.getD d undef=v/\YieldsAt P ops w' o v a':=by
  intro i o m ho Ab hmc w' hw' a' ha';obtain⟨hx,hl⟩:=hat i o m ho Ab;obtain⟨d,hdo⟩:∃d,o.dst=some d:=hx.resolve_left (by rw[hmc];decide)
  cases m with
  | c=>cases hmc
  | f=>
   obtain⟨_,_,_,h4⟩:=k0' w';obtain⟨v,hv,hy⟩:=h4 o (inE _ i o _ ho Ab rfl) a' ha';exact⟨d,v,hdo,hv d hdo,hy⟩
  | e=>
   obtain⟨_,_,_,h4⟩:=g0 w' (hw' rfl);obtain⟨v,hv,hy⟩:=h4 o (inE _ i o _ ho Ab rfl) a' (fun t ht=>by
    rw[ha' t ht];by_cases hex:∃(j:Nat) (oj:Oper),ops[j]? =some oj/\oj.dst=some t
    ·obtain⟨j,oj,hj,hdj⟩:=hex;obtain⟨mj,rU⟩:=hms j oj hj;have:=(hl t ht j oj mj hj rU hdj).2.2.2 rfl
     cases mj with
     | e=>exact nf t ⟨j,oj,hj,rU,hdj⟩
     | f=>cases this
     | c=>cases this
    ·refine q1 t fun o' ho' ajW=>?_;obtain⟨i',m',h1,h2,h3⟩:=nL hlen' ho';exact hex ⟨i',o',by rwa [yE] at h3,ajW⟩)
   exact⟨d,v,hdo,by rw[nf d ⟨i,o,ho,Ab,hdo⟩];exact hv d hdo,hy⟩
 let cs:=idxBy Cl.qg 0 ms
 have hcs:cs=idxBy Cl.qg 0 ms:=rfl;have csup:=(Kq Cl.qg ms 0).1;have agJ:∀q q',q<q'->q'<cs.length->cs.getD q 0<cs.getD q' 0:=by
  intro q q' h1 h2;have:=List.pairwise_iff_getElem.1 csup q q' (by rw[<-hcs];omega) (by rw[<-hcs];omega) h1;rw[IK,IK,tO aH,tO h2];exact this
 have Wm:∀q,q<cs.length->∃o,ops[cs.getD q 0]? =some o/\ms[cs.getD q 0]? =some .c/\(fK Cl.qg ms ops.toList)[q]? =some o:=by
  intro q hq;have e1:cs[q]? =some (cs.getD q 0):=by rw[IK,tO hq];rfl
  obtain⟨_,h2,h3,m,h4,h5⟩:=(pR Cl.qg ms ops.toList 0 hlen').2 q (cs.getD q 0) e1;rw[Nat.sub_zero] at h2 h3 h4;have hlt:cs.getD q 0<ops.size:=by omega
  refine⟨ops[cs.getD q 0],by simp[hlt],?_,by rw[h3,yE];simp[hlt]⟩;rw[h4];cases m<;> first | rfl | cases h5
 have agK:∀(i:Nat) (o:Oper),ops[i]? =some o->ms[i]? =some .c->∃q,q<cs.length/\cs.getD q 0=i:=by
  intro i o ho Ab;have hmem:=yC Cl.qg ms 0 i .c Ab rfl;rw[oD] at hmem;obtain⟨q,hq⟩:=List.mem_iff_getElem?.1 hmem;have hlt:=(List.getElem?_eq_some_iff.1 hq).1;exact⟨q,hlt,by rw[IK,hcs,hq];rfl⟩
 let sC:=fK Cl.qg ms ops.toList
 have hsC:sC.length=cs.length:=(pR Cl.qg ms ops.toList 0 hlen').1
 have closed:∀(L:Array Bool),(∀(i:Nat) (o:Oper),ops[i]? =some o->L.getD i false=true->∀e ∈ o.after,Region.binds .any e=true->L.getD e.on false=true)->
   ∀(i:Nat) (o:Oper),ops[i]? =some o->(∀e ∈ o.after,Region.binds .any e=true->L.getD e.on false=true)->∀j ∈ lF ops i (mK o),L.getD j false=true:=by
  intro L hcl i o ho mR;exact oM (L:=fun j=>L.getD j false) hcl i (mK o) (fun j hj=>by
   obtain⟨e,he,rfl,hbd⟩:=nZ hj;exact mR e he hbd)
 let Inv:=fun(L:Array Bool) (a:Act) (w:World)=>L.size=ops.size/\(∀(i:Nat) (o:Oper),ops[i]? =some o->L.getD i false=true->∀e ∈ o.after,Region.binds .any e=true->L.getD e.on false=true)/\a.tmps.size=n/\
  (∀t,(∀(j:Nat) (o:Oper),ops[j]? =some o->o.dst≠some t)->a.tmps.getD t undef=a0.tmps.getD t undef)/\
  (∀(j:Nat) (o:Oper) (m:Cl) (d:Nat),ops[j]? =some o->ms[j]? =some m->m.qg=false->o.dst=some d->L.getD j false=true->a.tmps.getD d undef=aE.tmps.getD d undef)/\
  ∃m,m<=cs.length/\(∀q,q<cs.length->(L.getD (cs.getD q 0) false=true ↔ q<m))/\(m<=k0->J w)/\
   ∃a2:Act,a2.defers=a.defers/\a2.tmps.size=n/\(∀t,(∀(j:Nat) (o:Oper) (m:Cl),ops[j]? =some o->ms[j]? =some m->m.qg=false->o.dst≠some t)->a2.tmps.getD t undef=a.tmps.getD t undef)/\
    (∀(j:Nat) (o:Oper) (m:Cl) (d:Nat),ops[j]? =some o->ms[j]? =some m->m.qg=false->o.dst=some d->a2.tmps.getD d undef=aE.tmps.getD d undef)/\Nn P ops Q J (k0 - m) (sC.drop m) a2 w
 have slot:∀(L:Array Bool) (a:Act) (i:Nat) (o:Oper) (m:Cl),ops[i]? =some o->ms[i]? =some m->(∀j ∈ lF ops i (mK o),L.getD j false=true)->
   (∀t,(∀(j:Nat) (o:Oper),ops[j]? =some o->o.dst≠some t)->a.tmps.getD t undef=a0.tmps.getD t undef)->
   (∀(j:Nat) (o:Oper) (m:Cl) (d:Nat),ops[j]? =some o->ms[j]? =some m->m.qg=false->o.dst=some d->L.getD j false=true->a.tmps.getD d undef=aE.tmps.getD d undef)->
   m.qg=false->∀t,t ∈ o.looksAt ops->a.tmps.getD t undef=aE.tmps.getD t undef:=by
  intro L a i o m ho Ab uZ hout hdone hmc t ht;by_cases hex:∃(j:Nat) (oj:Oper),ops[j]? =some oj/\oj.dst=some t
  ·obtain⟨j,oj,hj,hdj⟩:=hex;obtain⟨mj,rU⟩:=hms j oj hj;obtain⟨r1,r2,r3,r4⟩:=(hat i o m ho Ab).2 t ht j oj mj hj rU hdj;exact hdone j oj mj t hj rU (r3.resolve_left (by rw[hmc];decide)) hdj (uZ j r1)
  ·have hno:∀(j:Nat) (o:Oper),ops[j]? =some o->o.dst≠some t:=fun j o' hj hdj=>hex ⟨j,o',hj,hdj⟩;rw[hout t hno,oE t fun j o' m' hj _ _=>hno j o' hj]
 refine lM hm hb Inv ?_ ?_ ?_
 ·have hno:∀j,(Array.replicate ops.size false).getD j false=false:=fun j=>by
   by_cases hj:j<ops.size<;> simp[hj]
  refine⟨by simp,fun i o _ h=>(by rw[hno] at h;cases h),hn,fun _ _=>rfl,fun j o m d _ _ _ _ h=>(by rw[hno] at h;cases h),0,gX _,fun q _=>⟨fun h=>(by rw[hno] at h;cases h),fun h=>by omega⟩,fun _=>aga,
   aE,by rw[q2,p2],hnE,fun t ht=>oE t ht,fun _ _ _ _ _ _ _ _=>rfl,hch⟩
 ·rintro L a w i o ho h0 mR ⟨hs,hcl,hsn,hout,hdone,m,afE,hmq,hmB,a2,r1,r2,r3,r4,hW⟩;have hil:=(Array.getElem?_eq_some_iff.1 ho).1;have h0':L.getD i false=false:=by
   have hh:i<L.size:=by omega
   simpa [hh] using h0
  have rJ:(L.setIfInBounds i true).getD i false=true:=by
   have:i<L.size:=by omega
   simp[this]
  have up:∀j,L.getD j false=true->(L.setIfInBounds i true).getD j false=true:=fun j hj=>by
   by_cases e:i=j
   ·subst e;exact rJ
   ·rw[getD_set_ne false e];exact hj
  have hcl':∀(j:Nat) (oj:Oper),ops[j]? =some oj->(L.setIfInBounds i true).getD j false=true->∀e ∈ oj.after,Region.binds .any e=true->(L.setIfInBounds i true).getD e.on false=true:=by
   intro j oj hj hL e he hbd;by_cases jw:i=j
   ·subst jw;rw[ho] at hj;obtain rfl:=iy hj;exact up _ (mR e he hbd)
   ·rw[getD_set_ne false jw] at hL;exact up _ (hcl j oj hj hL e he hbd)
  have uZ:=closed L hcl i o ho mR;obtain⟨mi,Ab⟩:=hms i o ho
  cases hmc:mi.qg with
  | false=>
   have gB:∀q,q<cs.length->cs.getD q 0≠i:=fun q hq e=>by
    obtain⟨_,_,h3,_⟩:=Wm q hq;rw[e,Ab] at h3;obtain rfl:=iy h3;cases hmc
   have afr:mi.II=true->J w:=by
    intro he;by_cases hmk:m<=k0
    ·exact hmB hmk
    ·exfalso
     have hk0:k0<cs.length:=by omega
     obtain⟨o1,h1,h2,_⟩:=Wm k0 hk0;have e1:(idxBy Cl.qg 0 ms)[k0]? =some (cs.getD k0 0):=by rw[<-hcs,IK,tO hk0];rfl
     rw[e1] at OI;simp only[h1] at OI;rw[CQ] at OI;have hmem:=yC Cl.II ms 0 i mi Ab he;rw[oD] at hmem;have h4:=OI i hmem;simp only[List.contains_iff_mem] at h4;have acN:=(hmq k0 hk0).2 aH;have:=closed L hcl _ o1 h1 (fun e hee hbd=>hcl _ o1 h1 acN e hee hbd) i h4;rw[h0'] at this;cases this
   obtain⟨d,v,hdo,hv,hy⟩:=hE i o mi ho Ab hmc w afr a (slot L a i o mi ho Ab uZ hout hdone hmc);have acO:=hdn i o d ho hdo;have fin:Inv (L.setIfInBounds i true) (a.put o.dst v) w:=by
    have hput:∀t,d≠t->(a.put o.dst v).tmps.getD t undef=a.tmps.getD t undef:=fun t ht=>by
     rw[hdo];simp[Act.put,Array.getD_eq_getD_getElem?,Array.getElem?_setIfInBounds_ne ht]
    have hsame:(a.put o.dst v).tmps.getD d undef=v:=by
     rw[hdo];simp[Act.put,hsn,acO]
    refine⟨by simp[hs],hcl',by rw[hdo];simp[Act.put,hsn],fun t ht=>?_,fun j oj mj dj hj rU hjc hdj hL=>?_,m,afE,fun q hq=>?_,hmB,a2,by rw[r1,hdo];rfl,r2,fun t ht=>?_,r4,hW⟩
    ·rw[hput t fun e=>ht i o ho (by rw[hdo,e])];exact hout t ht
    ·by_cases jw:i=j
     ·subst jw;rw[ho] at hj;obtain rfl:=iy hj;rw[hdo] at hdj;obtain rfl:=iy hdj;rw[hsame,hv]
     ·rw[getD_set_ne false jw] at hL;rw[hput dj fun e=>iI hd ho hj jw d hdo (by rw[e];exact hdj)];exact hdone j oj mj dj hj rU hjc hdj hL
    ·rw[getD_set_ne false (gB q hq).symm];exact hmq q hq
    ·rw[hput t fun e=>ht i o mi ho Ab hmc (by rw[hdo,e])];exact r3 t ht
   rcases hy with⟨hw,hr | ⟨hr,rfl⟩ | ⟨f,args,hr,hcall⟩⟩ | ⟨hw,rfl⟩
   ·rw[if_pos hw];unfold Oper.wp;rw[hr];exact fin
   ·rw[if_pos hw];unfold Oper.wp;rw[hr];exact fin
   ·rw[if_pos hw];unfold Oper.wp;rw[hr];exact hcall.mono fun e w'' ⟨he,hw''⟩=>by subst he;subst hw'';exact fin
   ·rw[if_neg (by rw[hw];decide)];exact fin
  | true=>
   have YW:ms[i]? =some .c:=by cases mi<;> first | exact Ab | cases hmc
   obtain⟨q,hq,hqi⟩:=agK i o ho YW;have hqm:q=m:=by
    have h1:¬ q<m:=fun h=>by
     have:=(hmq q hq).2 h;rw[hqi,h0'] at this;cases this
    rcases Nat.lt_or_ge m q with h2 | h2
    ·exfalso
     have step:∀d,d<=q - m->L.getD (cs.getD (q - d) 0) false=true\/d=0:=by
      intro d
      induction d with
      | zero=>intro _;exact .inr rfl
      | succ d ih=>
       intro hd1
       left
       rw[CQ] at hchain;have h3:=hchain (q - d) (List.mem_range.2 (by show q - d<cs.length;omega));obtain⟨o3,h4,_,_⟩:=Wm (q - d) aH;rw[<-hcs,h4] at h3;simp only[mP,beq_iff_eq,List.contains_iff_mem] at h3;have h5:=h3.resolve_left aH;rw[show q - (d+1)=q - d - 1 by omega];rcases ih aH with h6 | h6
       ·exact closed L hcl _ o3 h4 (fun e he hbd=>hcl _ o3 h4 h6 e he hbd) _ h5
       ·subst h6;rw[Nat.sub_zero] at h4 h5 ⊢;rw[hqi] at h4;rw[ho] at h4;obtain rfl:=iy h4;rw[hqi] at h5;exact uZ _ h5
     have h7:=step (q - m) (bB _);rcases h7 with h7 | h7
     ·rw[show q - (q - m)=m by omega] at h7;have:=(hmq m aH).1 h7;omega
     ·omega
    ·omega
   subst hqm;obtain⟨o',ho',_,QS⟩:=Wm q hq;rw[hqi,ho] at ho';obtain rfl:=iy ho';have hdrop:sC.drop q=o::sC.drop (q+1):=by
    have hlt:q<sC.length:=by omega
    rw[List.drop_eq_getElem_cons hlt]
    congr 1
    have:sC[q]? =some o:=QS;rw[tO hlt] at this;exact iy this
   have hl2:∀t,t ∈ o.looksAt ops->a2.tmps.getD t undef=a.tmps.getD t undef:=by
    intro t ht;by_cases hex:∃(j:Nat) (oj:Oper) (mj:Cl),ops[j]? =some oj/\ms[j]? =some mj/\mj.qg=false/\oj.dst=some t
    ·obtain⟨j,oj,mj,hj,rU,hjc,hdj⟩:=hex;rw[r4 j oj mj t hj rU hjc hdj,hdone j oj mj t hj rU hjc hdj (uZ j ((hat i o .c ho YW).2 t ht j oj mj hj rU hdj).1)]
    ·exact r3 t fun j oj mj hj rU hjc hdj=>hex ⟨j,oj,mj,hj,rU,hjc,hdj⟩
   have hstep:if Region.wanted o (yielded ops a2.tmps) then o.wp P a2 w (fun a' w'=>(q+1<=k0->J w')/\Nn P ops Q J (k0 - (q+1)) (sC.drop (q+1)) a' w') (oU Q) else (q+1<=k0->J w)/\Nn P ops Q J (k0 - (q+1)) (sC.drop (q+1)) (a2.put o.dst undef) w:=by
    rw[hdrop] at hW
    cases hk:k0 - q with
    | zero=>
     rw[hk] at hW;have hW':if Region.wanted o (yielded ops a2.tmps) then o.wp P a2 w (wpList P ops (oU Q) (sC.drop (q+1))) (oU Q)\/(o.asks P a2 w/\LetsOut (oU Q)) else wpList P ops (oU Q) (sC.drop (q+1)) (a2.put o.dst undef) w:=hW
     rw[show k0 - (q+1)=0 by omega]
     split
     ·rename_i hw
      rw[if_pos hw] at hW';exact Oper.wp_mono (fun a' w' h'=>⟨fun h=>by omega,h'⟩) (hW'.resolve_right fun h=>JV h.2)
     ·rename_i hw
      rw[if_neg hw] at hW';exact⟨fun h=>by omega,hW'⟩
    | succ k'=>
     rw[hk] at hW;have hW':if Region.wanted o (yielded ops a2.tmps) then o.wp P a2 w (fun a' w'=>J w'/\Nn P ops Q J k' (sC.drop (q+1)) a' w') (oU Q) else Nn P ops Q J k' (sC.drop (q+1)) (a2.put o.dst undef) w:=hW
     rw[show k0 - (q+1)=k' by omega]
     split
     ·rename_i hw
      rw[if_pos hw] at hW';exact Oper.wp_mono (fun a' w' h'=>⟨fun _=>h'.1,h'.2⟩) hW'
     ·rename_i hw
      rw[if_neg hw] at hW';exact⟨fun _=>hmB aH,hW'⟩
   have fin:∀(D:List Deferred) (v:Value) (w':World),(q+1<=k0->J w')/\Nn P ops Q J (k0 - (q+1)) (sC.drop (q+1)) (({ a2 with defers:=D }:Act).put o.dst v) w'->Inv (L.setIfInBounds i true) (({ a with defers:=D }:Act).put o.dst v) w':=by
    rintro D v w' ⟨hB',hW'⟩
    have hdst:∀(j:Nat) (oj:Oper) (mj:Cl) (d:Nat),ops[j]? =some oj->ms[j]? =some mj->mj.qg=false->oj.dst=some d->o.dst≠some d:=fun j oj mj d hj rU hjc hdj=>
     iI hd hj ho (fun e=>by subst e;rw[YW] at rU;obtain rfl:=iy rU;cases hjc) d hdj
    have hput:∀(b:Act) (t:Nat),o.dst≠some t->(({ b with defers:=D }:Act).put o.dst v).tmps.getD t undef=b.tmps.getD t undef:=fun b t ht=>by
     cases hdo:o.dst with
     | none=>rfl
     | some d=>
      have gB:d≠t:=fun e=>ht (by rw[hdo,e]);simp[Act.put,Array.getD_eq_getD_getElem?,Array.getElem?_setIfInBounds_ne gB]
    have afy:∀(b:Act),(({ b with defers:=D }:Act).put o.dst v).tmps.size=b.tmps.size:=fun b=>by cases o.dst<;> simp[Act.put]
    refine⟨by simp[hs],hcl',by rw[afy];exact hsn,fun t ht=>?_,fun j oj mj dj hj rU hjc hdj hL=>?_,q+1,by omega,fun q' hq'=>?_,hB',_,?_,by rw[afy];exact r2,fun t ht=>?_,fun j oj mj dj hj rU hjc hdj=>?_,hW'⟩
    ·rw[hput a t (ht i o ho)];exact hout t ht
    ·have jw:i≠j:=fun e=>by subst e;rw[YW] at rU;obtain rfl:=iy rU;cases hjc
     rw[getD_set_ne false jw] at hL;rw[hput a dj (hdst j oj mj dj hj rU hjc hdj)];exact hdone j oj mj dj hj rU hjc hdj hL
    ·by_cases e:q'=q
     ·subst e;rw[hqi,rJ];exact⟨fun _=>by omega,fun _=>rfl⟩
     ·have gB:i≠cs.getD q' 0:=fun e2=>by
       rw[<-hqi] at e2;rcases Nat.lt_or_gt_of_ne e with h1 | h1
       ·have:=agJ q' q h1 hq;omega
       ·have:=agJ q q' h1 hq';omega
      rw[getD_set_ne false gB,hmq q' hq'];omega
    ·cases o.dst<;> rfl
    ·cases hdo:o.dst with
     | none=>exact r3 t ht
     | some d=>
      by_cases e:d=t
      ·subst e;have acO:=hdn i o d ho hdo;simp[Act.put,r2,hsn,acO]
      ·have h1:=hput a2 t (by rw[hdo];simpa using e);have h2:=hput a t (by rw[hdo];simpa using e);rw[hdo] at h1 h2;rw[h1,h2];exact r3 t ht
    ·rw[hput a2 dj (hdst j oj mj dj hj rU hjc hdj)];exact r4 j oj mj dj hj rU hjc hdj
   have Kv:∀(v:Value) (w':World),(q+1<=k0->J w')/\Nn P ops Q J (k0 - (q+1)) (sC.drop (q+1)) (a2.put o.dst v) w'->Inv (L.setIfInBounds i true) (a.put o.dst v) w':=fun v w' h'=>by
    have h3:=fin a.defers v w';have e2:({ a2 with defers:=a.defers }:Act)=a2:=by rw[<-r1]
    rw[e2] at h3;exact h3 h'
   have ajz:Region.wanted o (yielded ops a2.tmps)=Region.wanted o (yielded ops a.tmps):=vN hl2;rw[ajz] at hstep
   split at hstep
   ·rename_i hw
    rw[if_pos hw];unfold Oper.wp at hstep ⊢;rw[BR (fun cs b=>aar i o cs b ho) hl2] at hstep
    generalize (execOp a.eval o).run P w=r at *
    cases r with
    | ok nx w'=>
     cases nx<;> simp only[Oper.upon] at hstep ⊢
     case value v=>exact Kv _ _ hstep
     case skip=>exact Kv _ _ hstep
     case defer dd=>
      have:=fin (dd::a.defers) undef w';rw[<-r1] at this;rw[<-r1];exact this hstep
     case enter f args=>
      refine Calls.mono hstep fun e w'' he=>?_
      cases e with
      | returned v=>exact Kv _ _ he
      | panicked ch=>exact absurd he.1 aR
      | outgrown=>exact absurd he JV
     case row rw_ args=>exact Rows.mono hstep fun v w'' he=>Kv _ _ he
    | halt x w'=>cases x<;> simp only[Oper.upon] at hstep;exact absurd hstep.1 aR
   ·rename_i hw
    rw[if_neg hw];exact Kv _ _ hstep
 ·rintro L a w hL ⟨hs,hcl,hsn,hout,hdone,m,afE,hmq,hmB,a2,r1,r2,r3,r4,hW⟩;have hmm:m=cs.length:=by
   rcases Nat.lt_or_ge m cs.length with h1 | h1
   ·exfalso
    obtain⟨o1,h2,_,_⟩:=Wm m h1;have:=(hmq m h1).1 (hL _ (Array.getElem?_eq_some_iff.1 h2).1);omega
   ·omega
  have hnil:sC.drop m= [] :=List.drop_eq_nil_iff.2 aH;rw[hnil] at hW;have hQ:Q .normal a2 w:=by
   cases hk:k0 - m with
   | zero=>rw[hk] at hW;exact hW.2
   | succ k'=>rw[hk] at hW;exact hW.2
  have akf:a2=a:=by
   have htm:a2.tmps=a.tmps:=by
    refine Array.ext (by rw[r2,hsn]) fun t h1 h2=>?_;have key:a2.tmps.getD t undef=a.tmps.getD t undef:=by
     by_cases hex:∃(j:Nat) (oj:Oper) (mj:Cl),ops[j]? =some oj/\ms[j]? =some mj/\mj.qg=false/\oj.dst=some t
     ·obtain⟨j,oj,mj,hj,rU,hjc,hdj⟩:=hex;rw[r4 j oj mj t hj rU hjc hdj,hdone j oj mj t hj rU hjc hdj (hL j (Array.getElem?_eq_some_iff.1 hj).1)]
     ·exact r3 t fun j oj mj hj rU hjc hdj=>hex ⟨j,oj,mj,hj,rU,hjc,hdj⟩
    simpa [h1,h2] using key
   cases a2;cases a
   simp only at htm r1;subst htm;subst r1
   rfl
  rw[<-akf];exact hQ
theorem Gt {id:Nat} {a0:Act} {w0:World} {n:Nat} (ms:List Cl) (k0:Nat) (hm:P.follows .mixedOrders=true) (hb:mM ops=true) (hc:Ie ops n ms k0=true) (hn:a0.tmps.size=n)
  (h:∃a1 aE,(∀w',Below w0.heap.size w0 w'->wpStill P ops w' (fun a=>a=a1) (fK Cl.II ms ops.toList) a0)/\(∀w',wpStill P ops w' (fun a=>a=aE) (fK Cl.Xu ms ops.toList) a1)/\chW P ops Q w0 k0 (fK Cl.qg ms ops.toList) aE w0.drew):
  (Code.region id ops true).wp P Q a0 w0:=Dv (fun w=>Below w0.heap.size w0 w) (bT _ _).drew ms k0 hm hb hc hn h
theorem ji {id:Nat} {a0:Act} {w0:World} {n:Nat} {a1 aE:Act} (ms:List Cl) (k0:Nat) (hm:P.follows .mixedOrders=true) (hb:mM ops=true) (hc:Ie ops n ms k0=true) (hn:a0.tmps.size=n)
  (h1:∀w',Below w0.heap.size w0 w'->wpStill P ops w' (fun a=>a=a1) (fK Cl.II ms ops.toList) a0) (h2:∀w',wpStill P ops w' (fun a=>a=aE) (fK Cl.Xu ms ops.toList) a1) (h3:chW P ops Q w0 k0 (fK Cl.qg ms ops.toList) aE w0.drew):
  (Code.region id ops true).wp P Q a0 w0:=Gt ms k0 hm hb hc hn ⟨a1,aE,h1,h2,h3⟩
end
end Go.bC
