/- Part 15 of EscrowComes; conditions: in each theorem. -/
import Derived.Test.YtpcjekgfnfjbpaaGreatPkEC8
import Derived.StillTactics
set_option linter.unusedVariables false
set_option linter.unusedSimpArgs false
namespace Go.bI
open Go.RowKit
inductive Cl | e | f | c
def Cl.Jv:Cl->Bool | .e=>true | _=>false
def Cl.isF:Cl->Bool | .f=>true | _=>false
def Cl.qR:Cl->Bool | .c=>true | _=>false
def fP (k:Cl->Bool):List Cl->List Oper->List Oper
 | m::ms,o::os=>bif k m then o::fP k ms os else fP k ms os
 | _,_=> []
def idxBy (k:Cl->Bool):Nat->List Cl->List Nat
 | _, [] => []
 | i,m::ms=>bif k m then i::idxBy k (i+1) ms else idxBy k (i+1) ms
def oV (Q:Exit->Act->World->Prop):Exit->Act->World->Prop:=fun e a w=>e=.normal/\Q e a w
section
variable {P : Program} {ops : Array Oper} {Q : Exit -> Act -> World -> Prop}
theorem KZ {a:Act} {w:World} (h:Q .normal a w):oV Q .normal a w:=⟨rfl,h⟩
theorem KY:¬ LetsOut (oV Q):=fun⟨_,_,h,_⟩=>by cases h
def MJ (P:Program) (ops:Array Oper) (Q:Exit->Act->World->Prop) (J:World->Prop):Nat->List Oper->Act->World->Prop
 | 0,l,a,w=>wpList P ops (oV Q) l a w
 | _+1, [],a,w=>oV Q .normal a w
 | k+1,o::rest,a,w=>if Region.wanted o (yielded ops a.tmps) then o.wp P a w (fun a' w'=>J w'/\MJ P ops Q J k rest a' w') (oV Q) else MJ P ops Q J k rest (a.put o.dst undef) w
theorem uf {J:World->Prop} {k:Nat} {o:Oper} {rest:List Oper} {a:Act} {w:World} (hb:J w)
  (h:∀K:Act->World->Prop,(∀a' w',J w'->MJ P ops Q J k rest a' w'->K a' w')->if Region.wanted o (yielded ops a.tmps) then o.wp P a w K (oV Q) else K (a.put o.dst undef) w):MJ P ops Q J (k+1) (o::rest) a w:=by
 have h1:=h (fun a' w'=>J w'/\MJ P ops Q J k rest a' w') fun a' w' h1 h2=>⟨h1,h2⟩
 unfold MJ
 split
 ·rename_i hw;rwa [if_pos hw] at h1
 ·rename_i hw;rw[if_neg hw] at h1;exact h1.2
theorem MI {J:World->Prop} {l:List Oper} {a:Act} {w:World} (h:wpList P ops (oV Q) l a w):MJ P ops Q J 0 l a w:=h
abbrev chW (P:Program) (ops:Array Oper) (Q:Exit->Act->World->Prop) (w0:World):Nat->List Oper->Act->World->Prop:=MJ P ops Q (fun w=>Below w0.heap.size w0 w)
theorem ZT {w0:World} {k:Nat} {o:Oper} {rest:List Oper} {a:Act} {w:World} (hb:Below w0.heap.size w0 w)
  (h:∀K:Act->World->Prop,(∀a' w',Below w0.heap.size w0 w'->chW P ops Q w0 k rest a' w'->K a' w')->if Region.wanted o (yielded ops a.tmps) then o.wp P a w K (oV Q) else K (a.put o.dst undef) w):chW P ops Q w0 (k+1) (o::rest) a w:=uf hb h
theorem Dm {w0:World} {l:List Oper} {a:Act} {w:World} (h:wpList P ops (oV Q) l a w):chW P ops Q w0 0 l a w:=h
theorem wT {o:Oper} {a a':Act} (h:∀t,t ∈ o.looksAt ops->a'.tmps.getD t undef=a.tmps.getD t undef):Region.wanted o (yielded ops a'.tmps)=Region.wanted o (yielded ops a.tmps):=by
 unfold Region.wanted
 cases hg:o.guard with
 | none=>rfl
 | some gw=>
  obtain⟨g,want⟩:=gw;have hyd:yielded ops a'.tmps g=yielded ops a.tmps g:=by
   unfold yielded
   cases ht:(ops[g]?).bind (·.dst) with
   | none=>rfl
   | some t=>
    have:=h t (by simp[Oper.looksAt,hg,ht]);simp only[Array.getD_eq_getD_getElem?] at this;simp only[Option.bind_some];cases h1:a'.tmps[t]?<;> cases h2:a.tmps[t]?<;> rw[h1,h2] at this<;> simp at this
    ·subst this;rfl
    ·subst this;rfl
    ·subst this;rfl
  simp only[hyd]
theorem Dc {o:Oper} {a a':Act} (hsel:∀cs b,o.op≠.select cs b) (h:∀t,t ∈ o.looksAt ops->a'.tmps.getD t undef=a.tmps.getD t undef):execOp a'.eval o=execOp a.eval o:=by
 refine execOp_congr o hsel fun x hx=>?_
 cases x with
 | tmp t=>
  have:=h t (List.mem_append_left _ (List.mem_filterMap.2 ⟨.tmp t,by simpa using hx,rfl⟩))
  simpa [Act.eval] using this
 | _=>rfl
theorem Fy {w:World} {aE:Act}:∀(l:List Oper) (a:Act),wpStill P ops w (fun a'=>a'=aE) l a->
  l.Pairwise (fun x y=> ∀d,x.dst=some d->y.dst≠some d)->(∀o ∈ l,(∃d,o.dst=some d/\d<a.tmps.size)/\∀cs b,o.op≠.select cs b)->
  l.Pairwise (fun x y=> ∀t,t ∈ x.looksAt ops->y.dst≠some t)->(∀o ∈ l,∀t,t ∈ o.looksAt ops->o.dst≠some t)->
  (∀t,(∀o ∈ l,o.dst≠some t)->aE.tmps.getD t undef=a.tmps.getD t undef)/\aE.defers=a.defers/\aE.tmps.size=a.tmps.size/\
  ∀o ∈ l,∀a',(∀t,t ∈ o.looksAt ops->a'.tmps.getD t undef=aE.tmps.getD t undef)->∃v,(∀d,o.dst=some d->aE.tmps.getD d undef=v)/\YieldsAt P ops w o v a':=by
 intro l
 induction l with
 | nil=>
  intro a h _ _ _ _;obtain rfl:a=aE:=h;exact⟨fun _ _=>rfl,rfl,rfl,fun o ho=>by cases ho⟩
 | cons o rest ih=>
  intro a h hd hs hl hself;have hy:∃v,YieldsAt P ops w o v a/\wpStill P ops w (fun a'=>a'=aE) rest (a.put o.dst v):=by
   have h':if Region.wanted o (yielded ops a.tmps) then o.still P a w (wpStill P ops w (fun a'=>a'=aE) rest) else wpStill P ops w (fun a'=>a'=aE) rest (a.put o.dst undef):=h
   by_cases hw:Region.wanted o (yielded ops a.tmps)=true
   ·rw[if_pos hw] at h';unfold Oper.still at h'
    generalize hr:(execOp a.eval o).run P w=r at h'
    cases r with
    | ok n w'=>
     cases n<;> simp only[Oper.stillUpon] at h'
     case value u=>obtain⟨rfl,h2⟩:=h';exact⟨u,.inl ⟨hw,.inl hr⟩,h2⟩
     case skip=>obtain⟨rfl,h2⟩:=h';exact⟨undef,.inl ⟨hw,.inr (.inl ⟨hr,rfl⟩)⟩,h2⟩
     case enter f args=>obtain⟨rfl,v,hc,h2⟩:=h';exact⟨v,.inl ⟨hw,.inr (.inr ⟨f,args,hr,hc⟩)⟩,h2⟩
    | halt x w'=>simp only[Oper.stillUpon] at h'
   ·rw[if_neg hw] at h';exact⟨undef,.inr ⟨by simpa using hw,rfl⟩,h'⟩
  obtain⟨v,hyv,hrest⟩:=hy;obtain⟨hd1,hd2⟩:=List.pairwise_cons.1 hd;obtain⟨hl1,hl2⟩:=List.pairwise_cons.1 hl;obtain⟨⟨d,hdo,apq⟩,hsel⟩:=hs o aR;have gP:(a.put o.dst v).tmps.size=a.tmps.size:=by rw[hdo];simp[Act.put]
  obtain⟨q1,q2,q3,q4⟩:=ih (a.put o.dst v) hrest hd2 (fun o' ho'=>⟨by rw[gP];exact(hs o' (by simp[ho'])).1,(hs o' (by simp[ho'])).2⟩) hl2 (fun o' ho'=>hself o' (by simp[ho']));have hput:∀t,o.dst≠some t->(a.put o.dst v).tmps.getD t undef=a.tmps.getD t undef:=fun t ht=>by
   rw[hdo] at ht ⊢;have gW:d≠t:=fun e=>ht (by rw[e]);simp[Act.put,Array.getD_eq_getD_getElem?,Array.getElem?_setIfInBounds_ne gW]
  have hv:aE.tmps.getD d undef=v:=by
   rw[q1 d fun o' ho'=>hd1 o' ho' d hdo,hdo];simp[Act.put,apq]
  refine⟨fun t ht=>?_,?_,by rw[q3,gP],fun o' ho' a' ha'=>?_⟩
  ·rw[q1 t fun o' ho'=>ht o' (by simp[ho']),hput t (ht o aR)]
  ·rw[q2,hdo];rfl
  ·rcases List.mem_cons.1 ho' with rfl | ho'
   ·refine⟨v,fun d' hd'=>by rw[hdo] at hd';obtain rfl:=gJ hd';exact hv,?_⟩;have hag:∀t,t ∈ o'.looksAt ops->a'.tmps.getD t undef=a.tmps.getD t undef:=fun t ht=>by
     rw[ha' t ht,q1 t fun o2 ho2=>hl1 o2 ho2 t ht,hput t (hself o' aR t ht)]
    exact hyv.of_same (Dc hsel hag) (wT hag)
   ·exact q4 o' ho' a' ha'
theorem qJ (k:Cl->Bool):∀(ms:List Cl) (l:List Oper) (b:Nat),ms.length=l.length->(fP k ms l).length=(idxBy k b ms).length/\∀(q i:Nat),(idxBy k b ms)[q]? =some i->b<=i/\i - b<ms.length/\(fP k ms l)[q]? =l[i - b]?/\∃m,ms[i - b]? =some m/\k m=true:=by
 intro ms
 induction ms with
 | nil=>intro l b h;exact⟨by cases l<;> rfl,fun q i h=>by simp[idxBy] at h⟩
 | cons m ms ih=>
  intro l b h
  cases l with
  | nil=>cases h
  | cons o os=>
   obtain⟨h1,h2⟩:=ih os (b+1) (by simpa using h);have shift:∀i,b+1<=i->i - b=(i - (b+1))+1:=fun i hi=>by omega
   cases hk:k m with
   | true=>
    simp only[fP,idxBy,hk,cond_true,List.length_cons];refine⟨by rw[h1],fun q i hq=>?_⟩
    cases q with
    | zero=>
     simp only[List.getElem?_cons_zero,Zqk] at hq;subst hq;exact⟨bH _,by omega,by simp,m,by simp,hk⟩
    | succ q=>
     rw[List.getElem?_cons_succ] at hq;obtain⟨q1,q2,q3,q4⟩:=h2 q i hq;refine⟨by omega,by omega,?_,?_⟩
     ·rw[List.getElem?_cons_succ,shift i q1,List.getElem?_cons_succ];exact q3
     ·rw[shift i q1,List.getElem?_cons_succ];exact q4
   | false=>
    simp only[fP,idxBy,hk,cond_false,List.length_cons];refine⟨h1,fun q i hq=>?_⟩;obtain⟨q1,q2,q3,q4⟩:=h2 q i hq;refine⟨by omega,by omega,?_,?_⟩
    ·rw[shift i q1,List.getElem?_cons_succ];exact q3
    ·rw[shift i q1,List.getElem?_cons_succ];exact q4
theorem LJ (k:Cl->Bool):∀(ms:List Cl) (b:Nat),(idxBy k b ms).Pairwise (· < ·)/\∀i ∈ idxBy k b ms,b<=i:=by
 intro ms
 induction ms with
 | nil=>intro b;exact⟨List.Pairwise.nil,fun i h=>by cases h⟩
 | cons m ms ih=>
  intro b;obtain⟨h1,h2⟩:=ih (b+1)
  cases hk:k m with
  | true=>
   simp only[idxBy,hk,cond_true];refine⟨List.pairwise_cons.2 ⟨fun i hi=>by have:=h2 i hi;omega,h1⟩,fun i hi=>?_⟩;rcases List.mem_cons.1 hi with rfl | hi
   ·exact bH _
   ·have:=h2 i hi;omega
  | false=>
   simp only[idxBy,hk,cond_false];exact⟨h1,fun i hi=>by have:=h2 i hi;omega⟩
theorem zi (k:Cl->Bool):∀(ms:List Cl) (b j:Nat) (m:Cl),ms[j]? =some m->k m=true->b+j ∈ idxBy k b ms:=by
 intro ms
 induction ms with
 | nil=>intro b j m h;simp at h
 | cons m0 ms ih=>
  intro b j m h hk
  cases j with
  | zero=>
   simp only[List.getElem?_cons_zero,Zqk] at h;subst h;simp[idxBy,hk]
  | succ j=>
   rw[List.getElem?_cons_succ] at h;have:=ih (b+1) j m h hk;rw[show b+(j+1)=b+1+j by omega];unfold idxBy;cases k m0<;> simp[this]
theorem om {k:Cl->Bool} {ms:List Cl} {l:List Oper} (hl:ms.length=l.length) {o:Oper} (h:o ∈ fP k ms l):∃(i:Nat) (m:Cl),ms[i]? =some m/\k m=true/\l[i]? =some o:=by
 obtain⟨q,hq⟩:=List.mem_iff_getElem?.1 h;obtain⟨h1,h2⟩:=qJ k ms l 0 hl;have hlt:q<(idxBy k 0 ms).length:=by rw[<-h1];exact(List.getElem?_eq_some_iff.1 hq).1
 obtain⟨_,_,q3,m,q4,q5⟩:=h2 q _ (kP hlt);exact⟨_,m,by simpa using q4,q5,by rw[hq] at q3;simpa using q3.symm⟩
theorem Ce {k:Cl->Bool} {R:Oper->Oper->Prop} {ms:List Cl} {l:List Oper} (hl:ms.length=l.length)
  (hR:∀(i j:Nat) (oi oj:Oper) (mi mj:Cl),i<j->l[i]? =some oi->l[j]? =some oj->ms[i]? =some mi->ms[j]? =some mj->k mi=true->k mj=true->R oi oj):(fP k ms l).Pairwise R:=by
 rw[List.pairwise_iff_getElem];intro i j hi hj gI;obtain⟨h1,h2⟩:=qJ k ms l 0 hl;have a1:i<(idxBy k 0 ms).length:=by omega
 have a2:j<(idxBy k 0 ms).length:=by omega
 obtain⟨_,_,p3,mi,p4,p5⟩:=h2 i _ (kP a1);obtain⟨_,_,q3,mj,q4,q5⟩:=h2 j _ (kP a2);rw[kP hi] at p3;rw[kP hj] at q3;exact hR _ _ _ _ mi mj (List.pairwise_iff_getElem.1 (LJ k ms 0).1 i j a1 a2 gI) (by simpa using p3.symm) (by simpa using q3.symm) (by simpa using p4) (by simpa using q4) p5 q5
def Yj (ops:Array Oper) (ms:List Cl) (i:Nat) (m:Cl) (o:Oper):Bool:=(o.looksAt ops).all fun t=>(List.range ops.size).all fun j=>match ops[j]?,ms[j]? with
 | some oj,some mj=>oj.dst !=some t || ((jO ops i (iK o)).contains j && decide (j<i) && (m.qR || !mj.qR) && (!m.Jv || mj.Jv))
 | _,_=>true
def Di (ops:Array Oper) (n:Nat) (ms:List Cl) (k0:Nat):Bool:=
 Region.noSelect ops && (ms.length==ops.size) && qw ops n && ((List.range ops.size).all fun i=>match ops[i]?,ms[i]? with | some o,some m=>(m.qR || o.dst.isSome) && Yj ops ms i m o | _,_=>false) &&
 ((List.range (idxBy Cl.qR 0 ms).length).all fun q=>q==0 || match ops[(idxBy Cl.qR 0 ms).getD q 0]? with | some o=>(jO ops ((idxBy Cl.qR 0 ms).getD q 0) (iK o)).contains ((idxBy Cl.qR 0 ms).getD (q - 1) 0) | none=>false) &&
 (match (idxBy Cl.qR 0 ms)[k0]? with | none=>true | some i=>match ops[i]? with | some o=>(idxBy Cl.Jv 0 ms).all fun j=>(jO ops i (iK o)).contains j | none=>false)
theorem vJ {id:Nat} {a0:Act} {w0:World} {n:Nat} (J:World->Prop) (hJ0:J w0.drew) (ms:List Cl) (k0:Nat) (hm:P.follows .mixedOrders=true) (hb:jV ops=true) (hc:Di ops n ms k0=true) (hn:a0.tmps.size=n)
  (h:∃a1 aE,(∀w',J w'->wpStill P ops w' (fun a=>a=a1) (fP Cl.Jv ms ops.toList) a0)/\(∀w',wpStill P ops w' (fun a=>a=aE) (fP Cl.isF ms ops.toList) a1)/\MJ P ops Q J k0 (fP Cl.qR ms ops.toList) aE w0.drew):
  (Code.region id ops true).wp P Q a0 w0:=by
 obtain⟨a1,aE,hw1,hw2,hch⟩:=h;unfold Di at hc;simp only[Jg] at hc;obtain⟨⟨⟨⟨⟨hsel,hlen⟩,hd⟩,hall⟩,hchain⟩,Rp⟩:=hc;have hlen':ms.length=ops.toList.length:=by simpa using hlen
 have gP:ms.length=ops.size:=by simpa using hlen
 have aeg:=Region.noSelect_spec hsel
 have hat:∀(i:Nat) (o:Oper) (m:Cl),ops[i]? =some o->ms[i]? =some m->(m.qR=true\/∃d,o.dst=some d)/\∀t,t ∈ o.looksAt ops->∀(j:Nat) (oj:Oper) (mj:Cl),ops[j]? =some oj->ms[j]? =some mj->oj.dst=some t->
   j ∈ jO ops i (iK o)/\j<i/\(m.qR=true\/mj.qR=false)/\(m.Jv=true->mj.Jv=true):=by
  intro i o m ho Bl;rw[wM] at hall;have h1:=hall i (List.mem_range.2 (Array.getElem?_eq_some_iff.1 ho).1);rw[ho,Bl] at h1;simp only[Jg,kZ] at h1;obtain⟨h1,h2⟩:=h1;refine⟨h1.imp (fun h=>h) fun h=>Option.isSome_iff_exists.1 h,fun t ht j oj mj hj sF hdst=>?_⟩;unfold Yj at h2;rw[wM] at h2;have h3:=h2 t ht;rw[wM] at h3;have h4:=h3 j (List.mem_range.2 (Array.getElem?_eq_some_iff.1 hj).1);rw[hj,sF] at h4;simp only[kZ,Jg,bne_iff_ne,ne_eq,decide_eq_true_eq,List.contains_iff_mem,Bool.not_eq_true'] at h4;rcases h4 with h4 | ⟨⟨⟨a,b⟩,c⟩,d⟩
  ·exact absurd hdst h4
  ·exact⟨a,b,c,fun he=>d.resolve_left (by rw[he];decide)⟩
 have hms:∀(i:Nat) (o:Oper),ops[i]? =some o->∃m,ms[i]? =some m:=fun i o ho=>by
  have:=(Array.getElem?_eq_some_iff.1 ho).1;exact⟨_,kP aH⟩
 have zl:∀i:Nat,ops.toList[i]? =ops[i]?:=fun i=>by simp
 have hdn:∀(i:Nat) (o:Oper) (d:Nat),ops[i]? =some o->o.dst=some d->d<n:=by
  intro i o d ho hd';unfold qw at hd;simp only[Jg] at hd;have h1:=hd.2;rw[wM] at h1;have h2:=h1 o (by rw[List.mem_iff_getElem?];exact⟨i,by simpa using ho⟩);rw[hd'] at h2
  simpa using h2
 have side:∀(k:Cl->Bool),(∀m,k m=true->m.qR=false)->
   (fP k ms ops.toList).Pairwise (fun x y=> ∀d,x.dst=some d->y.dst≠some d)/\(fP k ms ops.toList).Pairwise (fun x y=> ∀t,t ∈ x.looksAt ops->y.dst≠some t)/\
   (∀o ∈ fP k ms ops.toList,∀t,t ∈ o.looksAt ops->o.dst≠some t)/\∀a:Act,a.tmps.size=n->∀o ∈ fP k ms ops.toList,(∃d,o.dst=some d/\d<a.tmps.size)/\∀cs b,o.op≠.select cs b:=by
  intro k hk1
  refine⟨Ce hlen' fun i j oi oj mi mj gI hi hj _ _ _ _ d hdi=>gy hd (by rwa [zl] at hi) (by rwa [zl] at hj) aH d hdi,
   Ce hlen' fun i j oi oj mi mj gI hi hj Bl sF _ _ t ht hdj=>by
    have:=((hat i oi mi (by rwa [zl] at hi) Bl).2 t ht j oj mj (by rwa [zl] at hj) sF hdj).2.1;omega,
   fun o ho t ht hdo=>?_,fun a ha o ho=>?_⟩
  ·obtain⟨i,m,h1,h2,h3⟩:=om hlen' ho;have:=((hat i o m (by rwa [zl] at h3) h1).2 t ht i o m (by rwa [zl] at h3) h1 hdo).2.1;omega
  ·obtain⟨i,m,h1,h2,h3⟩:=om hlen' ho;rw[zl] at h3;rcases(hat i o m h3 h1).1 with h4 | ⟨d,h4⟩
   ·rw[hk1 m h2] at h4;cases h4
   ·exact⟨⟨d,h4,by rw[ha];exact hdn i o d h3 h4⟩,fun cs b=>aeg i o cs b h3⟩
 obtain⟨e1,e2,e3,e4⟩:=side Cl.Jv (fun m h=>by cases m<;> first | rfl | cases h);obtain⟨f1,f2,f3,f4⟩:=side Cl.isF (fun m h=>by cases m<;> first | rfl | cases h);have g0:=fun w' hw'=>Fy (ops:=ops) _ a0 (hw1 w' hw') e1 (e4 a0 hn) e2 e3;have akW:J w0.drew:=hJ0;obtain⟨p1,p2,p3,_⟩:=g0 _ akW;have hn1:a1.tmps.size=n:=by rw[p3,hn]
 have k0':=fun w'=>Fy (ops:=ops) _ a1 (hw2 w') f1 (f4 a1 hn1) f2 f3;obtain⟨q1,q2,q3,_⟩:=k0' w0;have hnE:aE.tmps.size=n:=by rw[q3,hn1]
 have inE:∀(k:Cl->Bool) (j:Nat) (o:Oper) (m:Cl),ops[j]? =some o->ms[j]? =some m->k m=true->o ∈ fP k ms ops.toList:=by
  intro k j o m ho sF hk;have hmem:=zi k ms 0 j m sF hk;rw[qY] at hmem;obtain⟨q,hq⟩:=List.mem_iff_getElem?.1 hmem;obtain⟨_,_,h3,_⟩:=(qJ k ms ops.toList 0 hlen').2 q j hq;rw[Nat.sub_zero,zl,ho] at h3;exact List.mem_iff_getElem?.2 ⟨q,h3⟩
 have oE:∀t,(∀(j:Nat) (o:Oper) (m:Cl),ops[j]? =some o->ms[j]? =some m->m.qR=false->o.dst≠some t)->aE.tmps.getD t undef=a0.tmps.getD t undef:=by
  intro t ht;rw[q1 t fun o ho=>?_,p1 t fun o ho=>?_]
  ·obtain⟨i,m,h1,h2,h3⟩:=om hlen' ho;exact ht i o m (by rwa [zl] at h3) h1 (by cases m<;> first | rfl | cases h2)
  ·obtain⟨i,m,h1,h2,h3⟩:=om hlen' ho;exact ht i o m (by rwa [zl] at h3) h1 (by cases m<;> first | rfl | cases h2)
 have nf:∀t,(∃(j:Nat) (o:Oper),ops[j]? =some o/\ms[j]? =some .e/\o.dst=some t)->aE.tmps.getD t undef=a1.tmps.getD t undef:=by
  rintro t ⟨j,o,hj,sF,hdo⟩;refine q1 t fun o' ho'=>?_;obtain⟨i,m,h1,h2,h3⟩:=om hlen' ho';rw[zl] at h3;exact gy hd hj h3 (fun e=>by subst e;rw[sF] at h1;obtain rfl:=gJ h1;cases h2) t hdo
 have hE:∀(i:Nat) (o:Oper) (m:Cl),ops[i]? =some o->ms[i]? =some m->m.qR=false->∀w',(m.Jv=true->J w')->∀a',(∀t,t ∈ o.looksAt ops->a'.tmps.getD t undef=aE.tmps.getD t undef)->
   ∃d v,o.dst=some d/\aE.tmps.getD d undef=v/\YieldsAt P ops w' o v a':=by
  intro i o m ho Bl hmc w' hw' a' ha';obtain⟨hx,hl⟩:=hat i o m ho Bl;obtain⟨d,hdo⟩:∃d,o.dst=some d:=hx.resolve_left (by rw[hmc];decide)
  cases m with
  | c=>cases hmc
  | f=>
   obtain⟨_,_,_,h4⟩:=k0' w';obtain⟨v,hv,hy⟩:=h4 o (inE _ i o _ ho Bl rfl) a' ha';exact⟨d,v,hdo,hv d hdo,hy⟩
  | e=>
   obtain⟨_,_,_,h4⟩:=g0 w' (hw' rfl);obtain⟨v,hv,hy⟩:=h4 o (inE _ i o _ ho Bl rfl) a' (fun t ht=>by
    rw[ha' t ht];by_cases hex:∃(j:Nat) (oj:Oper),ops[j]? =some oj/\oj.dst=some t
    ·obtain⟨j,oj,hj,hdj⟩:=hex;obtain⟨mj,sF⟩:=hms j oj hj;have:=(hl t ht j oj mj hj sF hdj).2.2.2 rfl
     cases mj with
     | e=>exact nf t ⟨j,oj,hj,sF,hdj⟩
     | f=>cases this
     | c=>cases this
    ·refine q1 t fun o' ho' apo=>?_;obtain⟨i',m',h1,h2,h3⟩:=om hlen' ho';exact hex ⟨i',o',by rwa [zl] at h3,apo⟩)
   exact⟨d,v,hdo,by rw[nf d ⟨i,o,ho,Bl,hdo⟩];exact hv d hdo,hy⟩
 let cs:=idxBy Cl.qR 0 ms
 have hcs:cs=idxBy Cl.qR 0 ms:=rfl;have csup:=(LJ Cl.qR ms 0).1;have alG:∀q q',q<q'->q'<cs.length->cs.getD q 0<cs.getD q' 0:=by
  intro q q' h1 h2;have:=List.pairwise_iff_getElem.1 csup q q' (by rw[<-hcs];omega) (by rw[<-hcs];omega) h1;rw[Na,Na,kP aH,kP h2];exact this
 have ZG:∀q,q<cs.length->∃o,ops[cs.getD q 0]? =some o/\ms[cs.getD q 0]? =some .c/\(fP Cl.qR ms ops.toList)[q]? =some o:=by
  intro q hq;have e1:cs[q]? =some (cs.getD q 0):=by rw[Na,kP hq];rfl
  obtain⟨_,h2,h3,m,h4,h5⟩:=(qJ Cl.qR ms ops.toList 0 hlen').2 q (cs.getD q 0) e1;rw[Nat.sub_zero] at h2 h3 h4;have hlt:cs.getD q 0<ops.size:=by omega
  refine⟨ops[cs.getD q 0],by simp[hlt],?_,by rw[h3,zl];simp[hlt]⟩;rw[h4];cases m<;> first | rfl | cases h5
 have alH:∀(i:Nat) (o:Oper),ops[i]? =some o->ms[i]? =some .c->∃q,q<cs.length/\cs.getD q 0=i:=by
  intro i o ho Bl;have hmem:=zi Cl.qR ms 0 i .c Bl rfl;rw[qY] at hmem;obtain⟨q,hq⟩:=List.mem_iff_getElem?.1 hmem;have hlt:=(List.getElem?_eq_some_iff.1 hq).1;exact⟨q,hlt,by rw[Na,hcs,hq];rfl⟩
 let sC:=fP Cl.qR ms ops.toList
 have hsC:sC.length=cs.length:=(qJ Cl.qR ms ops.toList 0 hlen').1
 have closed:∀(L:Array Bool),(∀(i:Nat) (o:Oper),ops[i]? =some o->L.getD i false=true->∀e ∈ o.after,Region.binds .any e=true->L.getD e.on false=true)->
   ∀(i:Nat) (o:Oper),ops[i]? =some o->(∀e ∈ o.after,Region.binds .any e=true->L.getD e.on false=true)->∀j ∈ jO ops i (iK o),L.getD j false=true:=by
  intro L hcl i o ho jo;exact fQ (L:=fun j=>L.getD j false) hcl i (iK o) (fun j hj=>by
   obtain⟨e,he,rfl,hbd⟩:=gB hj;exact jo e he hbd)
 let Inv:=fun(L:Array Bool) (a:Act) (w:World)=>L.size=ops.size/\(∀(i:Nat) (o:Oper),ops[i]? =some o->L.getD i false=true->∀e ∈ o.after,Region.binds .any e=true->L.getD e.on false=true)/\a.tmps.size=n/\
  (∀t,(∀(j:Nat) (o:Oper),ops[j]? =some o->o.dst≠some t)->a.tmps.getD t undef=a0.tmps.getD t undef)/\
  (∀(j:Nat) (o:Oper) (m:Cl) (d:Nat),ops[j]? =some o->ms[j]? =some m->m.qR=false->o.dst=some d->L.getD j false=true->a.tmps.getD d undef=aE.tmps.getD d undef)/\
  ∃m,m<=cs.length/\(∀q,q<cs.length->(L.getD (cs.getD q 0) false=true ↔ q<m))/\(m<=k0->J w)/\
   ∃a2:Act,a2.defers=a.defers/\a2.tmps.size=n/\(∀t,(∀(j:Nat) (o:Oper) (m:Cl),ops[j]? =some o->ms[j]? =some m->m.qR=false->o.dst≠some t)->a2.tmps.getD t undef=a.tmps.getD t undef)/\
    (∀(j:Nat) (o:Oper) (m:Cl) (d:Nat),ops[j]? =some o->ms[j]? =some m->m.qR=false->o.dst=some d->a2.tmps.getD d undef=aE.tmps.getD d undef)/\MJ P ops Q J (k0 - m) (sC.drop m) a2 w
 have slot:∀(L:Array Bool) (a:Act) (i:Nat) (o:Oper) (m:Cl),ops[i]? =some o->ms[i]? =some m->(∀j ∈ jO ops i (iK o),L.getD j false=true)->
   (∀t,(∀(j:Nat) (o:Oper),ops[j]? =some o->o.dst≠some t)->a.tmps.getD t undef=a0.tmps.getD t undef)->
   (∀(j:Nat) (o:Oper) (m:Cl) (d:Nat),ops[j]? =some o->ms[j]? =some m->m.qR=false->o.dst=some d->L.getD j false=true->a.tmps.getD d undef=aE.tmps.getD d undef)->
   m.qR=false->∀t,t ∈ o.looksAt ops->a.tmps.getD t undef=aE.tmps.getD t undef:=by
  intro L a i o m ho Bl ql hout hdone hmc t ht;by_cases hex:∃(j:Nat) (oj:Oper),ops[j]? =some oj/\oj.dst=some t
  ·obtain⟨j,oj,hj,hdj⟩:=hex;obtain⟨mj,sF⟩:=hms j oj hj;obtain⟨r1,r2,r3,r4⟩:=(hat i o m ho Bl).2 t ht j oj mj hj sF hdj;exact hdone j oj mj t hj sF (r3.resolve_left (by rw[hmc];decide)) hdj (ql j r1)
  ·have hno:∀(j:Nat) (o:Oper),ops[j]? =some o->o.dst≠some t:=fun j o' hj hdj=>hex ⟨j,o',hj,hdj⟩;rw[hout t hno,oE t fun j o' m' hj _ _=>hno j o' hj]
 refine mO hm hb Inv ?_ ?_ ?_
 ·have hno:∀j,(Array.replicate ops.size false).getD j false=false:=fun j=>by
   by_cases hj:j<ops.size<;> simp[hj]
  refine⟨by simp,fun i o _ h=>(by rw[hno] at h;cases h),hn,fun _ _=>rfl,fun j o m d _ _ _ _ h=>(by rw[hno] at h;cases h),0,jm _,fun q _=>⟨fun h=>(by rw[hno] at h;cases h),fun h=>by omega⟩,fun _=>akW,
   aE,by rw[q2,p2],hnE,fun t ht=>oE t ht,fun _ _ _ _ _ _ _ _=>rfl,hch⟩
 ·rintro L a w i o ho h0 jo ⟨hs,hcl,hsn,hout,hdone,m,YB,hmq,hmB,a2,r1,r2,r3,r4,hW⟩;have hil:=(Array.getElem?_eq_some_iff.1 ho).1;have h0':L.getD i false=false:=by
   have hh:i<L.size:=by omega
   simpa [hh] using h0
  have jQ:(L.setIfInBounds i true).getD i false=true:=by
   have:i<L.size:=by omega
   simp[this]
  have up:∀j,L.getD j false=true->(L.setIfInBounds i true).getD j false=true:=fun j hj=>by
   by_cases e:i=j
   ·subst e;exact jQ
   ·rw[getD_set_ne false e];exact hj
  have hcl':∀(j:Nat) (oj:Oper),ops[j]? =some oj->(L.setIfInBounds i true).getD j false=true->∀e ∈ oj.after,Region.binds .any e=true->(L.setIfInBounds i true).getD e.on false=true:=by
   intro j oj hj hL e he hbd;by_cases gI:i=j
   ·subst gI;rw[ho] at hj;obtain rfl:=gJ hj;exact up _ (jo e he hbd)
   ·rw[getD_set_ne false gI] at hL;exact up _ (hcl j oj hj hL e he hbd)
  have ql:=closed L hcl i o ho jo;obtain⟨mi,Bl⟩:=hms i o ho
  cases hmc:mi.qR with
  | false=>
   have gW:∀q,q<cs.length->cs.getD q 0≠i:=fun q hq e=>by
    obtain⟨_,_,h3,_⟩:=ZG q hq;rw[e,Bl] at h3;obtain rfl:=gJ h3;cases hmc
   have akp:mi.Jv=true->J w:=by
    intro he;by_cases hmk:m<=k0
    ·exact hmB hmk
    ·exfalso
     have hk0:k0<cs.length:=by omega
     obtain⟨o1,h1,h2,_⟩:=ZG k0 hk0;have e1:(idxBy Cl.qR 0 ms)[k0]? =some (cs.getD k0 0):=by rw[<-hcs,Na,kP hk0];rfl
     rw[e1] at Rp;simp only[h1] at Rp;rw[wM] at Rp;have hmem:=zi Cl.Jv ms 0 i mi Bl he;rw[qY] at hmem;have h4:=Rp i hmem;simp only[List.contains_iff_mem] at h4;have agN:=(hmq k0 hk0).2 aH;have:=closed L hcl _ o1 h1 (fun e hee hbd=>hcl _ o1 h1 agN e hee hbd) i h4;rw[h0'] at this;cases this
   obtain⟨d,v,hdo,hv,hy⟩:=hE i o mi ho Bl hmc w akp a (slot L a i o mi ho Bl ql hout hdone hmc);have agO:=hdn i o d ho hdo;have fin:Inv (L.setIfInBounds i true) (a.put o.dst v) w:=by
    have hput:∀t,d≠t->(a.put o.dst v).tmps.getD t undef=a.tmps.getD t undef:=fun t ht=>by
     rw[hdo];simp[Act.put,Array.getD_eq_getD_getElem?,Array.getElem?_setIfInBounds_ne ht]
    have hsame:(a.put o.dst v).tmps.getD d undef=v:=by
     rw[hdo];simp[Act.put,hsn,agO]
    refine⟨by simp[hs],hcl',by rw[hdo];simp[Act.put,hsn],fun t ht=>?_,fun j oj mj dj hj sF hjc hdj hL=>?_,m,YB,fun q hq=>?_,hmB,a2,by rw[r1,hdo];rfl,r2,fun t ht=>?_,r4,hW⟩
    ·rw[hput t fun e=>ht i o ho (by rw[hdo,e])];exact hout t ht
    ·by_cases gI:i=j
     ·subst gI;rw[ho] at hj;obtain rfl:=gJ hj;rw[hdo] at hdj;obtain rfl:=gJ hdj;rw[hsame,hv]
     ·rw[getD_set_ne false gI] at hL;rw[hput dj fun e=>gy hd ho hj gI d hdo (by rw[e];exact hdj)];exact hdone j oj mj dj hj sF hjc hdj hL
    ·rw[getD_set_ne false (gW q hq).symm];exact hmq q hq
    ·rw[hput t fun e=>ht i o mi ho Bl hmc (by rw[hdo,e])];exact r3 t ht
   rcases hy with⟨hw,hr | ⟨hr,rfl⟩ | ⟨f,args,hr,hcall⟩⟩ | ⟨hw,rfl⟩
   ·rw[if_pos hw];unfold Oper.wp;rw[hr];exact fin
   ·rw[if_pos hw];unfold Oper.wp;rw[hr];exact fin
   ·rw[if_pos hw];unfold Oper.wp;rw[hr];exact hcall.mono fun e w'' ⟨he,hw''⟩=>by subst he;subst hw'';exact fin
   ·rw[if_neg (by rw[hw];decide)];exact fin
  | true=>
   have acT:ms[i]? =some .c:=by cases mi<;> first | exact Bl | cases hmc
   obtain⟨q,hq,hqi⟩:=alH i o ho acT;have hqm:q=m:=by
    have h1:¬ q<m:=fun h=>by
     have:=(hmq q hq).2 h;rw[hqi,h0'] at this;cases this
    rcases Nat.lt_or_ge m q with h2 | h2
    ·exfalso
     have step:∀d,d<=q - m->L.getD (cs.getD (q - d) 0) false=true\/d=0:=by
      intro d
      induction d with
      | zero=>intro _;exact .inr rfl
      | succ d ih=>
       intro hd1
       left
       rw[wM] at hchain;have h3:=hchain (q - d) (List.mem_range.2 (by show q - d<cs.length;omega));obtain⟨o3,h4,_,_⟩:=ZG (q - d) aH;rw[<-hcs,h4] at h3;simp only[kZ,beq_iff_eq,List.contains_iff_mem] at h3;have h5:=h3.resolve_left aH;rw[show q - (d+1)=q - d - 1 by omega];rcases ih aH with h6 | h6
       ·exact closed L hcl _ o3 h4 (fun e he hbd=>hcl _ o3 h4 h6 e he hbd) _ h5
       ·subst h6;rw[Nat.sub_zero] at h4 h5 ⊢;rw[hqi] at h4;rw[ho] at h4;obtain rfl:=gJ h4;rw[hqi] at h5;exact ql _ h5
     have h7:=step (q - m) (bH _);rcases h7 with h7 | h7
     ·rw[show q - (q - m)=m by omega] at h7;have:=(hmq m aH).1 h7;omega
     ·omega
    ·omega
   subst hqm;obtain⟨o',ho',_,hsq⟩:=ZG q hq;rw[hqi,ho] at ho';obtain rfl:=gJ ho';have hdrop:sC.drop q=o::sC.drop (q+1):=by
    have hlt:q<sC.length:=by omega
    rw[List.drop_eq_getElem_cons hlt]
    congr 1
    have:sC[q]? =some o:=hsq;rw[kP hlt] at this;exact gJ this
   have hl2:∀t,t ∈ o.looksAt ops->a2.tmps.getD t undef=a.tmps.getD t undef:=by
    intro t ht;by_cases hex:∃(j:Nat) (oj:Oper) (mj:Cl),ops[j]? =some oj/\ms[j]? =some mj/\mj.qR=false/\oj.dst=some t
    ·obtain⟨j,oj,mj,hj,sF,hjc,hdj⟩:=hex;rw[r4 j oj mj t hj sF hjc hdj,hdone j oj mj t hj sF hjc hdj (ql j ((hat i o .c ho acT).2 t ht j oj mj hj sF hdj).1)]
    ·exact r3 t fun j oj mj hj sF hjc hdj=>hex ⟨j,oj,mj,hj,sF,hjc,hdj⟩
   have hstep:if Region.wanted o (yielded ops a2.tmps) then o.wp P a2 w (fun a' w'=>(q+1<=k0->J w')/\MJ P ops Q J (k0 - (q+1)) (sC.drop (q+1)) a' w') (oV Q) else (q+1<=k0->J w)/\MJ P ops Q J (k0 - (q+1)) (sC.drop (q+1)) (a2.put o.dst undef) w:=by
    rw[hdrop] at hW
    cases hk:k0 - q with
    | zero=>
     rw[hk] at hW;have hW':if Region.wanted o (yielded ops a2.tmps) then o.wp P a2 w (wpList P ops (oV Q) (sC.drop (q+1))) (oV Q)\/(o.asks P a2 w/\LetsOut (oV Q)) else wpList P ops (oV Q) (sC.drop (q+1)) (a2.put o.dst undef) w:=hW
     rw[show k0 - (q+1)=0 by omega]
     split
     ·rename_i hw
      rw[if_pos hw] at hW';exact Oper.wp_mono (fun a' w' h'=>⟨fun h=>by omega,h'⟩) (hW'.resolve_right fun h=>KY h.2)
     ·rename_i hw
      rw[if_neg hw] at hW';exact⟨fun h=>by omega,hW'⟩
    | succ k'=>
     rw[hk] at hW;have hW':if Region.wanted o (yielded ops a2.tmps) then o.wp P a2 w (fun a' w'=>J w'/\MJ P ops Q J k' (sC.drop (q+1)) a' w') (oV Q) else MJ P ops Q J k' (sC.drop (q+1)) (a2.put o.dst undef) w:=hW
     rw[show k0 - (q+1)=k' by omega]
     split
     ·rename_i hw
      rw[if_pos hw] at hW';exact Oper.wp_mono (fun a' w' h'=>⟨fun _=>h'.1,h'.2⟩) hW'
     ·rename_i hw
      rw[if_neg hw] at hW';exact⟨fun _=>hmB aH,hW'⟩
   have fin:∀(D:List Deferred) (v:Value) (w':World),(q+1<=k0->J w')/\MJ P ops Q J (k0 - (q+1)) (sC.drop (q+1)) (({ a2 with defers:=D }:Act).put o.dst v) w'->Inv (L.setIfInBounds i true) (({ a with defers:=D }:Act).put o.dst v) w':=by
    rintro D v w' ⟨hB',hW'⟩
    have hdst:∀(j:Nat) (oj:Oper) (mj:Cl) (d:Nat),ops[j]? =some oj->ms[j]? =some mj->mj.qR=false->oj.dst=some d->o.dst≠some d:=fun j oj mj d hj sF hjc hdj=>
     gy hd hj ho (fun e=>by subst e;rw[acT] at sF;obtain rfl:=gJ sF;cases hjc) d hdj
    have hput:∀(b:Act) (t:Nat),o.dst≠some t->(({ b with defers:=D }:Act).put o.dst v).tmps.getD t undef=b.tmps.getD t undef:=fun b t ht=>by
     cases hdo:o.dst with
     | none=>rfl
     | some d=>
      have gW:d≠t:=fun e=>ht (by rw[hdo,e]);simp[Act.put,Array.getD_eq_getD_getElem?,Array.getElem?_setIfInBounds_ne gW]
    have akv:∀(b:Act),(({ b with defers:=D }:Act).put o.dst v).tmps.size=b.tmps.size:=fun b=>by cases o.dst<;> simp[Act.put]
    refine⟨by simp[hs],hcl',by rw[akv];exact hsn,fun t ht=>?_,fun j oj mj dj hj sF hjc hdj hL=>?_,q+1,by omega,fun q' hq'=>?_,hB',_,?_,by rw[akv];exact r2,fun t ht=>?_,fun j oj mj dj hj sF hjc hdj=>?_,hW'⟩
    ·rw[hput a t (ht i o ho)];exact hout t ht
    ·have gI:i≠j:=fun e=>by subst e;rw[acT] at sF;obtain rfl:=gJ sF;cases hjc
     rw[getD_set_ne false gI] at hL;rw[hput a dj (hdst j oj mj dj hj sF hjc hdj)];exact hdone j oj mj dj hj sF hjc hdj hL
    ·by_cases e:q'=q
     ·subst e;rw[hqi,jQ];exact⟨fun _=>by omega,fun _=>rfl⟩
     ·have gW:i≠cs.getD q' 0:=fun e2=>by
       rw[<-hqi] at e2;rcases Nat.lt_or_gt_of_ne e with h1 | h1
       ·have:=alG q' q h1 hq;omega
       ·have:=alG q q' h1 hq';omega
      rw[getD_set_ne false gW,hmq q' hq'];omega
    ·cases o.dst<;> rfl
    ·cases hdo:o.dst with
     | none=>exact r3 t ht
     | some d=>
      by_cases e:d=t
      ·subst e;have agO:=hdn i o d ho hdo;simp[Act.put,r2,hsn,agO]
      ·have h1:=hput a2 t (by rw[hdo];simpa using e);have h2:=hput a t (by rw[hdo];simpa using e);rw[hdo] at h1 h2;rw[h1,h2];exact r3 t ht
    ·rw[hput a2 dj (hdst j oj mj dj hj sF hjc hdj)];exact r4 j oj mj dj hj sF hjc hdj
   have LP:∀(v:Value) (w':World),(q+1<=k0->J w')/\MJ P ops Q J (k0 - (q+1)) (sC.drop (q+1)) (a2.put o.dst v) w'->Inv (L.setIfInBounds i true) (a.put o.dst v) w':=fun v w' h'=>by
    have h3:=fin a.defers v w';have e2:({ a2 with defers:=a.defers }:Act)=a2:=by rw[<-r1]
    rw[e2] at h3;exact h3 h'
   have aoY:Region.wanted o (yielded ops a2.tmps)=Region.wanted o (yielded ops a.tmps):=wT hl2;rw[aoY] at hstep
   split at hstep
   ·rename_i hw
    rw[if_pos hw];unfold Oper.wp at hstep ⊢;rw[Dc (fun cs b=>aeg i o cs b ho) hl2] at hstep
    generalize (execOp a.eval o).run P w=r at *
    cases r with
    | ok nx w'=>
     cases nx<;> simp only[Oper.upon] at hstep ⊢
     case value v=>exact LP _ _ hstep
     case skip=>exact LP _ _ hstep
     case defer dd=>
      have:=fin (dd::a.defers) undef w';rw[<-r1] at this;rw[<-r1];exact this hstep
     case enter f args=>
      refine Calls.mono hstep fun e w'' he=>?_
      cases e with
      | returned v=>exact LP _ _ he
      | panicked ch=>exact absurd he.1 aR
      | outgrown=>exact absurd he KY
     case row rw_ args=>exact Rows.mono hstep fun v w'' he=>LP _ _ he
    | halt x w'=>cases x<;> simp only[Oper.upon] at hstep;exact absurd hstep.1 aR
   ·rename_i hw
    rw[if_neg hw];exact LP _ _ hstep
 ·rintro L a w hL ⟨hs,hcl,hsn,hout,hdone,m,YB,hmq,hmB,a2,r1,r2,r3,r4,hW⟩;have hmm:m=cs.length:=by
   rcases Nat.lt_or_ge m cs.length with h1 | h1
   ·exfalso
    obtain⟨o1,h2,_,_⟩:=ZG m h1;have:=(hmq m h1).1 (hL _ (Array.getElem?_eq_some_iff.1 h2).1);omega
   ·omega
  have hnil:sC.drop m= [] :=List.drop_eq_nil_iff.2 aH;rw[hnil] at hW;have hQ:Q .normal a2 w:=by
   cases hk:k0 - m with
   | zero=>rw[hk] at hW;exact hW.2
   | succ k'=>rw[hk] at hW;exact hW.2
  have apw:a2=a:=by
   have htm:a2.tmps=a.tmps:=by
    refine Array.ext (by rw[r2,hsn]) fun t h1 h2=>?_;have key:a2.tmps.getD t undef=a.tmps.getD t undef:=by
     by_cases hex:∃(j:Nat) (oj:Oper) (mj:Cl),ops[j]? =some oj/\ms[j]? =some mj/\mj.qR=false/\oj.dst=some t
     ·obtain⟨j,oj,mj,hj,sF,hjc,hdj⟩:=hex;rw[r4 j oj mj t hj sF hjc hdj,hdone j oj mj t hj sF hjc hdj (hL j (Array.getElem?_eq_some_iff.1 hj).1)]
     ·exact r3 t fun j oj mj hj sF hjc hdj=>hex ⟨j,oj,mj,hj,sF,hjc,hdj⟩
    simpa [h1,h2] using key
   cases a2;cases a
   simp only at htm r1;subst htm;subst r1
   rfl
  rw[<-apw];exact hQ
theorem Ho {id:Nat} {a0:Act} {w0:World} {n:Nat} (ms:List Cl) (k0:Nat) (hm:P.follows .mixedOrders=true) (hb:jV ops=true) (hc:Di ops n ms k0=true) (hn:a0.tmps.size=n)
  (h:∃a1 aE,(∀w',Below w0.heap.size w0 w'->wpStill P ops w' (fun a=>a=a1) (fP Cl.Jv ms ops.toList) a0)/\(∀w',wpStill P ops w' (fun a=>a=aE) (fP Cl.isF ms ops.toList) a1)/\chW P ops Q w0 k0 (fP Cl.qR ms ops.toList) aE w0.drew):
  (Code.region id ops true).wp P Q a0 w0:=vJ (fun w=>Below w0.heap.size w0 w) (bT _ _).drew ms k0 hm hb hc hn h
theorem sW {id:Nat} {a0:Act} {w0:World} {n:Nat} {a1 aE:Act} (J:World->Prop) (ms:List Cl) (k0:Nat) (hm:P.follows .mixedOrders=true) (hb:jV ops=true) (hc:Di ops n ms k0=true) (hn:a0.tmps.size=n) (hJ0:J w0.drew)
  (h1:∀w',J w'->wpStill P ops w' (fun a=>a=a1) (fP Cl.Jv ms ops.toList) a0) (h2:∀w',wpStill P ops w' (fun a=>a=aE) (fP Cl.isF ms ops.toList) a1) (h3:MJ P ops Q J k0 (fP Cl.qR ms ops.toList) aE w0.drew):
  (Code.region id ops true).wp P Q a0 w0:=vJ J hJ0 ms k0 hm hb hc hn ⟨a1,aE,h1,h2,h3⟩
theorem qg {id:Nat} {a0:Act} {w0:World} {n:Nat} {a1 aE:Act} (ms:List Cl) (k0:Nat) (hm:P.follows .mixedOrders=true) (hb:jV ops=true) (hc:Di ops n ms k0=true) (hn:a0.tmps.size=n)
  (h1:∀w',Below w0.heap.size w0 w'->wpStill P ops w' (fun a=>a=a1) (fP Cl.Jv ms ops.toList) a0) (h2:∀w',wpStill P ops w' (fun a=>a=aE) (fP Cl.isF ms ops.toList) a1) (h3:chW P ops Q w0 k0 (fP Cl.qR ms ops.toList) aE w0.drew):
  (Code.region id ops true).wp P Q a0 w0:=Ho ms k0 hm hb hc hn ⟨a1,aE,h1,h2,h3⟩
end
end Go.bI
