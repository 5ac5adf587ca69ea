/- Part 5 of EscrowComes; conditions: in each theorem. -/
import Derived.Test.YtpcjekgfnfjbpaaGreatPkEC4
import Derived.ChangeKeysEq
import Derived.Laws.StructEq
import Derived.Orders
set_option linter.unusedVariables false
set_option linter.unusedSimpArgs false
namespace Go.bI
open Go.RowKit
section
variable {P : Program} {ops : Array Oper} {Q : Exit -> Act -> World -> Prop}
theorem count_set {listed:Array Bool} {i:Nat} (h:listed.getD i true=false):(listed.setIfInBounds i true).toList.count false+1=listed.toList.count false:=by
 have hlt:i<listed.size:=by
  rcases Nat.lt_or_ge i listed.size with h' | h'
  ·exact h'
  ·simp[Array.getElem?_eq_none h'] at h
 have hi:listed[i] =false:=by simpa [hlt] using h
 have key:∀(l:List Bool) (j:Nat),l[j]? =some false->(l.set j true).count false+1=l.count false:=by
  intro l
  induction l with
  | nil=>intro j hj;simp at hj
  | cons b l ih=>
   intro j hj
   cases j with
   | zero=>
    simp at hj;subst hj;simp
   | succ j=>
    have:=ih j (by simpa using hj);cases b<;> simp<;> omega
 have:=key listed.toList i (by simp[hlt,hi])
 simpa [Array.toList_setIfInBounds] using this
def jV (ops:Array Oper):Bool:=ops.toList.zipIdx.all fun(o,i)=>o.after.toList.all fun e=> !Region.binds .any e || decide (e.on<i)
theorem zF (h:jV ops=true) (i:Nat) (o:Oper) (ho:ops[i]? =some o):∀e ∈ o.after,Region.binds .any e=true->e.on<i:=by
 intro e he hbi;unfold jV at h;rw[wM] at h;have hm:(o,i) ∈ ops.toList.zipIdx:=by
  rw[List.mem_zipIdx_iff_getElem?]
  simpa using ho
 have:=h _ hm;simp only[wM] at this;have:=this e (by simpa using he)
 simpa [hbi] using this
theorem mO {id:Nat} {a:Act} {w:World} (hm:P.follows .mixedOrders=true) (hb:jV ops=true)
  (I:Array Bool->Act->World->Prop)
  (hstart:I (Array.replicate ops.size false) a w.drew)
  (hstep:∀(L:Array Bool) (a:Act) (w:World) (i:Nat) (o:Oper),ops[i]? =some o->L.getD i true=false->(∀e ∈ o.after,Region.binds .any e=true->L.getD e.on false=true)->I L a w->
   if Region.wanted o (yielded ops a.tmps) then o.wp P a w (fun a' w'=>I (L.setIfInBounds i true) a' w') Q else I (L.setIfInBounds i true) (a.put o.dst undef) w)
  (hend:∀(L:Array Bool) (a:Act) (w:World),(∀i,i<ops.size->L.getD i false=true)->I L a w->Q .normal a w):
  (Code.region id ops true).wp P Q a w:=by
 have hdone:∀L:Array Bool,L.size=ops.size->Region.ready .any ops L= [] ->∀i,i<ops.size->L.getD i false=true:=by
  intro L hs hr i
  induction i using Nat.strongRecOn with
  | _ i ih=>
   intro hi;rcases hL:L.getD i false with _ | _
   ·exfalso
    have hmem:i ∈ Region.ready .any ops L:=by
     rw[mem_ready];refine⟨?_,ops[i],by simp[hi],fun e he hbi=>?_⟩
     ·simp only[Array.getD_eq_getD_getElem?] at hL ⊢;simp[show i<L.size by omega] at hL ⊢;exact hL
     ·have hlt:=zF hb i ops[i] (by simp[hi]) e he hbi;exact ih e.on hlt aH
    rw[hr] at hmem;cases hmem
   ·rfl
 refine wp_region_any hm ?_;have key:∀(fuel:Nat) (L:Array Bool) (a:Act) (w:World),L.size=ops.size->L.toList.count false=fuel->I L a w->wpAny P .any ops Q fuel L a w:=by
  intro fuel
  induction fuel with
  | zero=>
   intro L a w hs hc hI;have hall:∀i,i<ops.size->L.getD i false=true:=by
    intro i hi;have:=(List.count_eq_zero.1 hc)
    rcases hL:L.getD i false with _ | _
    ·exfalso
     apply this
     have h2:i<L.size:=by omega
     simp[h2] at hL;rw[<-hL];simp
    ·rfl
   refine⟨?_,hend L a w hall hI⟩
   cases hr:Region.ready .any ops L with
   | nil=>rfl
   | cons i r=>
    exfalso
    have hmem:i ∈ Region.ready .any ops L:=by rw[hr];exact List.mem_cons_self
    rw[mem_ready] at hmem;obtain⟨h0,o,ho,_⟩:=hmem;have hi:i<ops.size:=(Array.getElem?_eq_some_iff.1 ho).1;have:=hall i hi;have h2:i<L.size:=by omega
    simp[h2] at this h0;rw[this] at h0;cases h0
  | succ fuel ih=>
   intro L a w hs hc hI;refine⟨fun hr=>hend L a w (hdone L hs hr) hI,fun i hi=>?_⟩;rw[mem_ready] at hi;obtain⟨h0,o,ho,jo⟩:=hi;have iN:=hstep L a w i o ho h0 jo hI;have hc':=count_set h0;unfold wpOp;simp only[ho]
   split
   ·rename_i hw
    rw[if_pos hw] at iN;exact .inl (Oper.wp_mono (fun a' w' h'=>ih _ _ _ (by simpa using hs) aH h') iN)
   ·rename_i hw
    rw[if_neg hw] at iN;exact ih _ _ _ (by simpa using hs) aH iN
 exact key ops.size _ a w.drew aR aR hstart
theorem Eh {id:Nat} {a:Act} {w:World} (hb:jV ops=true)
  (I:Array Bool->Act->World->Prop)
  (hstart:I (Array.replicate ops.size false) a w)
  (hstep:∀(L:Array Bool) (a:Act) (w:World) (i:Nat) (o:Oper),ops[i]? =some o->L.getD i true=false->(∀e ∈ o.after,Region.binds .any e=true->L.getD e.on false=true)->I L a w->
   if Region.wanted o (yielded ops a.tmps) then o.wp P a w (fun a' w'=>I (L.setIfInBounds i true) a' w') Q else I (L.setIfInBounds i true) (a.put o.dst undef) w)
  (hend:∀(L:Array Bool) (a:Act) (w:World),(∀i,i<ops.size->L.getD i false=true)->I L a w->Q .normal a w):
  (Code.region id ops false).wp P Q a w:=by
 refine wp_region_list ?_;have key:∀(n i:Nat) (L:Array Bool) (a:Act) (w:World),i+n=ops.size->L.size=ops.size->(∀j,j<ops.size->L.getD j false=decide (j<i))->I L a w->wpList P ops Q (ops.toList.drop i) a w:=by
  intro n
  induction n with
  | zero=>
   intro i L a w hi hs hL hI;rw[List.drop_eq_nil_of_le iU];exact hend L a w (fun j hj=>by rw[hL j hj];exact decide_eq_true aH) hI
  | succ n ih=>
   intro i L a w hi hs hL hI;have hlt:i<ops.size:=by omega
   have hd:ops.toList.drop i=ops[i] ::ops.toList.drop (i+1):=by
    rw[List.drop_eq_getElem_cons (by simpa using hlt)];simp
   rw[hd];have h0:L.getD i true=false:=by
    have:=hL i hlt;have h2:i<L.size:=by omega
    simp only[Nat.lt_irrefl,decide_false] at this
    simpa [h2] using this
   have ho:ops[i]? =some ops[i] :=by simp[hlt]
   have iN:=hstep L a w i ops[i] ho h0 (fun e he hbi=>by
    have hlt2:=zF hb i ops[i] ho e he hbi;rw[hL e.on aH];exact decide_eq_true hlt2) hI
   have next:∀a' w',I (L.setIfInBounds i true) a' w'->wpList P ops Q (ops.toList.drop (i+1)) a' w':=fun a' w' h=>ih (i+1) _ a' w' aH (by simpa using hs) (fun j hj=>by
    by_cases e:i=j
    ·subst e;have h2:i<L.size:=by omega
     simp[h2]
    ·have h1:(L.setIfInBounds i true).getD j false=L.getD j false:=by
      simp only[Array.getD_eq_getD_getElem?,Array.getElem?_setIfInBounds_ne e]
     rw[h1,hL j hj];exact decide_eq_decide.2 aH) h
   unfold wpList
   split
   ·rename_i hw
    rw[if_pos hw] at iN;exact .inl (Oper.wp_mono (fun a' w' h'=>next a' w' h') iN)
   ·rename_i hw
    rw[if_neg hw] at iN;exact next _ _ iN
 exact key ops.size 0 _ a w aR aR (fun j hj=>by simp[hj]) hstart
theorem iF {id:Nat} {dr:Bool} {a:Act} {w:World} (hm:P.follows .mixedOrders=true) (hb:jV ops=true)
  (I:Array Bool->Act->World->Prop)
  (hstart:I (Array.replicate ops.size false) a w.drew/\I (Array.replicate ops.size false) a w)
  (hstep:∀(L:Array Bool) (a:Act) (w:World) (i:Nat) (o:Oper),ops[i]? =some o->L.getD i true=false->(∀e ∈ o.after,Region.binds .any e=true->L.getD e.on false=true)->I L a w->
   if Region.wanted o (yielded ops a.tmps) then o.wp P a w (fun a' w'=>I (L.setIfInBounds i true) a' w') Q else I (L.setIfInBounds i true) (a.put o.dst undef) w)
  (hend:∀(L:Array Bool) (a:Act) (w:World),(∀i,i<ops.size->L.getD i false=true)->I L a w->Q .normal a w):
  (Code.region id ops dr).wp P Q a w:=by
 cases dr with
 | true=>exact mO hm hb I hstart.1 hstep hend
 | false=>exact Eh hb I hstart.2 hstep hend
def got (o:Oper) (a:Act):Value:=match o.dst with | some d=>a.tmps.getD d undef | none=>undef
def Fr (ops:Array Oper) (a0 a:Act):Prop:=a.defers=a0.defers/\a.tmps.size=a0.tmps.size/\∀t,(∀(i:Nat) (o:Oper),ops[i]? =some o->o.dst≠some t)->a.tmps.getD t undef=a0.tmps.getD t undef
def qw (ops:Array Oper) (n:Nat):Bool:=(ops.toList.zipIdx.all fun(x:Oper × Nat)=>ops.toList.zipIdx.all fun(y:Oper × Nat)=>x.2==y.2 || x.1.dst.isNone || x.1.dst !=y.1.dst) && ops.toList.all fun(o:Oper)=>o.dst.all fun d=>decide (d<n)
theorem gy {n:Nat} (h:qw ops n=true) {i j:Nat} {o o':Oper} (hi:ops[i]? =some o) (hj:ops[j]? =some o') (gW:i≠j):∀d,o.dst=some d->o'.dst≠some d:=by
 intro d hd hd';unfold qw at h;rw[Jg] at h;have h1:=h.1;rw[wM] at h1;have m1:(o,i) ∈ ops.toList.zipIdx:=by rw[List.mem_zipIdx_iff_getElem?];simpa using hi
 have m2:(o',j) ∈ ops.toList.zipIdx:=by rw[List.mem_zipIdx_iff_getElem?];simpa using hj
 have h2:=h1 _ m1;simp only at h2;rw[wM] at h2;have h3:=h2 _ m2;simp[hd,hd',gW] at h3
theorem qp {n:Nat} (h:qw ops n=true) {i:Nat} {o:Oper} (hi:ops[i]? =some o):∀d,o.dst=some d->d<n:=by
 intro d hd;unfold qw at h;rw[Jg] at h;have h1:=h.2;rw[wM] at h1;have:=h1 o (by rw[List.mem_iff_getElem?];exact⟨i,by simpa using hi⟩)
 simpa [hd] using this
theorem qm {a:Act} {d:Nat} (v:Value) (h:d<a.tmps.size):(a.put (some d) v).tmps.getD d undef=v:=by
 simp[Act.put,h]
theorem jS {a:Act} {x:Option Nat} {d:Nat} (v:Value) (h:x≠some d):(a.put x v).tmps.getD d undef=a.tmps.getD d undef:=by
 cases x with
 | none=>rfl
 | some e=>
  have:e≠d:=fun q=>h (by rw[q]);simp[Act.put,Array.getElem?_setIfInBounds_ne this]
theorem Fr.put {a0 a:Act} (h:Fr ops a0 a) {i:Nat} {o:Oper} (hi:ops[i]? =some o) (v:Value):Fr ops a0 (a.put o.dst v):=by
 obtain⟨h1,h2,h3⟩:=h;refine⟨by cases hd:o.dst<;> simpa [Act.put,hd] using h1,by cases hd:o.dst<;> simpa [Act.put,hd] using h2,fun t ht=>?_⟩;rw[jS v (ht i o hi)];exact h3 t ht
theorem gu {a:Act} {o:Oper} (v:Value) (h:∀d,o.dst=some d->d<a.tmps.size) (hn:o.dst=none->v=undef):got o (a.put o.dst v)=v:=by
 unfold got
 cases hd:o.dst with
 | none=>simp only;exact(hn hd).symm
 | some d=>simp only;exact qm v (h d hd)
theorem eZ {a:Act} {o o':Oper} (v:Value) (h:∀d,o.dst=some d->o'.dst≠some d):got o' (a.put o.dst v)=got o' a:=by
 unfold got
 cases hd:o'.dst with
 | none=>rfl
 | some d=>simp only;exact jS v (fun e=>h d e hd)
theorem bC {id:Nat} {dr:Bool} {a0:Act} {w0:World} {n:Nat} (hm:P.follows .mixedOrders=true) (hb:jV ops=true) (hd:qw ops n=true) (hn:a0.tmps.size=n)
  (Sp:Nat->Value->World->Prop) (E:World->World->Prop) (hE:∀w w',Below w.heap.size w w'->E w w')
  (stable:∀i v w w',Sp i v w->E w w'->Sp i v w')
  (jB:∀i o,ops[i]? =some o->∀a w,Below w0.heap.size w0 w->Fr ops a0 a->
   (∀j oj,ops[j]? =some oj->(∃e ∈ o.after,e.on=j/\Region.binds .any e=true)->Sp j (got oj a) w)->
   if Region.wanted o (yielded ops a.tmps) then o.wp P a w (fun a' w'=> ∃v,a'=a.put o.dst v/\(o.dst=none->v=undef)/\Sp i v w'/\Below w.heap.size w w') Q else Sp i undef w)
  (hend:∀a w,Below w0.heap.size w0 w->Fr ops a0 a->(∀j oj,ops[j]? =some oj->Sp j (got oj a) w)->Q .normal a w):
  (Code.region id ops dr).wp P Q a0 w0:=by
 refine iF hm hb (fun L a w=>L.size=ops.size/\Below w0.heap.size w0 w/\Fr ops a0 a/\∀j oj,ops[j]? =some oj->L.getD j false=true->Sp j (got oj a) w) ?_ ?_ ?_
 ·have hno:∀(w:World) (j:Nat) (oj:Oper),ops[j]? =some oj->(Array.replicate ops.size false).getD j false=true->Sp j (got oj a0) w:=by
   intro w j oj hj hL
   exfalso
   have hlt:=(Array.getElem?_eq_some_iff.1 hj).1;simp[hlt] at hL
  exact⟨⟨by simp,(bT _ _).drew,⟨rfl,rfl,fun _ _=>rfl⟩,hno _⟩,⟨by simp,bT _ _,⟨rfl,rfl,fun _ _=>rfl⟩,hno _⟩⟩
 ·rintro L a w i o ho h0 jo ⟨hs,hB,hF,hSp⟩;have iN:=jB i o ho a w hB hF (fun j oj hj ⟨e,he,oN,hbind⟩=>hSp j oj hj (by rw[<-oN];exact jo e he hbind));have hlt:∀d,o.dst=some d->d<a.tmps.size:=fun d hd'=>by rw[hF.2.1,hn];exact qp hd ho d hd'
  have next:∀v w',Below w.heap.size w w'->(o.dst=none->v=undef)->Sp i v w'->(L.setIfInBounds i true).size=ops.size/\Below w0.heap.size w0 w'/\Fr ops a0 (a.put o.dst v)/\
    ∀j oj,ops[j]? =some oj->(L.setIfInBounds i true).getD j false=true->Sp j (got oj (a.put o.dst v)) w':=by
   intro v w' aD hnone hv;refine⟨by simpa using hs,hB.trans (aD.mono hB.size),hF.put ho v,fun j oj hj hL=>?_⟩;by_cases gI:i=j
   ·subst gI;rw[ho] at hj;obtain rfl:=gJ hj;rw[gu v hlt hnone];exact hv
   ·rw[eZ v (gy hd ho hj gI)];rw[getD_set_ne false gI] at hL;exact stable j _ w w' (hSp j oj hj hL) (hE w w' aD)
  split
  ·rename_i hw
   rw[if_pos hw] at iN;refine Oper.wp_mono (fun a' w' ⟨v,ha,hnone,hv,aD⟩=>?_) iN;subst ha;exact next v w' aD hnone hv
  ·rename_i hw
   rw[if_neg hw] at iN;exact next undef w (bT _ _) (fun _=>rfl) iN
 ·rintro L a w hall ⟨hs,hB,hF,hSp⟩;exact hend a w hB hF (fun j oj hj=>hSp j oj hj (hall j (Array.getElem?_eq_some_iff.1 hj).1))
theorem bN {id:Nat} {dr:Bool} {a0:Act} {w0:World} {n:Nat} (hm:P.follows .mixedOrders=true) (hb:jV ops=true) (hd:qw ops n=true) (hn:a0.tmps.size=n)
  (al:Nat->Bool) (pt:Nat->Option Nat) (zc fin:Nat->Array Value) (ty dp:Nat->Nat)
  (Sp:Nat->Value->World->Prop) (E:World->World->Prop) (hE:∀w w',Below w.heap.size w w'->E w w') (hE2:∀w b cs p,al p=true->w0.heap.size<=b->w.heap[b]? =some (.cells (zc p) (ty p) (0,0))->E w (w.setRow b cs))
  (stable:∀i v w w',Sp i v w->E w w'->Sp i v w')
  (hal:∀i p,pt i=some p->al p=true/\al i=false) (hinj:∀i i' p,pt i=some p->pt i'=some p->i=i')
  (jB:∀i o,ops[i]? =some o->al i=false->pt i=none->∀a w,Below w0.heap.size w0 w->Fr ops a0 a->
   (∀j oj,ops[j]? =some oj->al j=false->pt j=none->(∃e ∈ o.after,e.on=j/\Region.binds .any e=true)->Sp j (got oj a) w)->
   if Region.wanted o (yielded ops a.tmps) then o.wp P a w (fun a' w'=> ∃v,a'=a.put o.dst v/\(o.dst=none->v=undef)/\Sp i v w'/\Below w.heap.size w w') Q else Sp i undef w)
  (Ph:∀i o,ops[i]? =some o->al i=true->o.guard=none/\o.dst=some (dp i)/\
   ∀a w (K:Act->World->Prop),K (a.put (some (dp i)) (.pointer (some ⟨w.heap.size,0,none⟩))) (w.alloc (.cells (zc i) (ty i)))->o.wp P a w K Q)
  (hput:∀i o,ops[i]? =some o->∀p,pt i=some p->o.guard=none/\o.dst=none/\(∃op,ops[p]? =some op)/\(∃e ∈ o.after,e.on=p/\Region.binds .any e=true)/\
   ∀a w b (K:Act->World->Prop),Below w0.heap.size w0 w->Fr ops a0 a->
    (∀j oj,ops[j]? =some oj->al j=false->pt j=none->(∃e ∈ o.after,e.on=j/\Region.binds .any e=true)->Sp j (got oj a) w)->
    a.tmps.getD (dp p) undef=.pointer (some ⟨b,0,none⟩)->w.heap[b]? =some (.cells (zc p) (ty p) (0,0))->K a (w.setRow b (fin p))->o.wp P a w K Q)
  (hend:∀a w (blk:Nat->Nat),Below w0.heap.size w0 w->Fr ops a0 a->(∀j oj,ops[j]? =some oj->al j=false->pt j=none->Sp j (got oj a) w)->
   (∀j oj,ops[j]? =some oj->al j=true->a.tmps.getD (dp j) undef=.pointer (some ⟨blk j,0,none⟩)/\w0.heap.size<=blk j/\blk j<w.heap.size)->
   (∀i oi p,ops[i]? =some oi->pt i=some p->w.heap[blk p]? =some (.cells (fin p) (ty p) (0,0)))->
   (∀j j' oj oj',ops[j]? =some oj->ops[j']? =some oj'->al j=true->al j'=true->j≠j'->blk j≠blk j')->Q .normal a w):
  (Code.region id ops dr).wp P Q a0 w0:=by
 refine iF hm hb (fun L a w=>L.size=ops.size/\Below w0.heap.size w0 w/\Fr ops a0 a/\(∀j oj,ops[j]? =some oj->al j=false->pt j=none->L.getD j false=true->Sp j (got oj a) w)/\
   ∃blk:Nat->Nat,(∀j oj,ops[j]? =some oj->al j=true->L.getD j false=true->a.tmps.getD (dp j) undef=.pointer (some ⟨blk j,0,none⟩)/\w0.heap.size<=blk j/\blk j<w.heap.size)/\
    (∀j oj,ops[j]? =some oj->al j=true->L.getD j false=true->(∀i,pt i=some j->L.getD i false=false)->w.heap[blk j]? =some (.cells (zc j) (ty j) (0,0)))/\
    (∀i oi p,ops[i]? =some oi->pt i=some p->L.getD i false=true->L.getD p false=true/\w.heap[blk p]? =some (.cells (fin p) (ty p) (0,0)))/\
    (∀j j' oj oj',ops[j]? =some oj->ops[j']? =some oj'->al j=true->al j'=true->L.getD j false=true->L.getD j' false=true->j≠j'->blk j≠blk j')) ?_ ?_ ?_
 ·have mR:∀j oj,ops[j]? =some oj->¬ (Array.replicate ops.size false).getD j false=true:=by
   intro j oj hj hL;have hlt:=(Array.getElem?_eq_some_iff.1 hj).1;simp[hlt] at hL
  refine⟨⟨by simp,(bT _ _).drew,⟨rfl,rfl,fun _ _=>rfl⟩,fun j oj hj _ _ hL=>absurd hL (mR j oj hj),fun _=>0,fun j oj hj _ hL=>absurd hL (mR j oj hj),fun j oj hj _ hL=>absurd hL (mR j oj hj),
   fun i oi p hi _ hL=>absurd hL (mR i oi hi),fun j j' oj oj' hj _ _ _ hL=>absurd hL (mR j oj hj)⟩,
   ⟨by simp,bT _ _,⟨rfl,rfl,fun _ _=>rfl⟩,fun j oj hj _ _ hL=>absurd hL (mR j oj hj),fun _=>0,fun j oj hj _ hL=>absurd hL (mR j oj hj),fun j oj hj _ hL=>absurd hL (mR j oj hj),
   fun i oi p hi _ hL=>absurd hL (mR i oi hi),fun j j' oj oj' hj _ _ _ hL=>absurd hL (mR j oj hj)⟩⟩
 ·rintro L a w i o ho h0 jo ⟨hs,hB,hF,hSp,blk,hv1,hv2,hv3,hv4⟩;have hL0:L.getD i false=false:=by
   simp only[Array.getD_eq_getD_getElem?] at h0 ⊢
   cases hx:L[i]? with
   | none=>rfl
   | some b=>rw[hx] at h0;exact h0
  have hlt:∀d,o.dst=some d->d<a.tmps.size:=fun d hd'=>by rw[hF.2.1,hn];exact qp hd ho d hd'
  have jQ:(L.setIfInBounds i true).getD i false=true:=by
   have:i<L.size:=by rw[hs];exact(Array.getElem?_eq_some_iff.1 ho).1
   simp[this]
  have LQ:∀j oj,ops[j]? =some oj->al j=false->pt j=none->(∃e ∈ o.after,e.on=j/\Region.binds .any e=true)->Sp j (got oj a) w:=
   fun j oj hj h1 h2 ⟨e,he,oN,hbind⟩=>hSp j oj hj h1 h2 (by rw[<-oN];exact jo e he hbind)
  rcases Iz:al i with _ | _
  ·rcases Aw:pt i with _ | p
   ·-- a flow
    have iN:=jB i o ho Iz Aw a w hB hF LQ
    have next:∀v w',Below w.heap.size w w'->(o.dst=none->v=undef)->Sp i v w'->(L.setIfInBounds i true).size=ops.size/\Below w0.heap.size w0 w'/\Fr ops a0 (a.put o.dst v)/\
      (∀j oj,ops[j]? =some oj->al j=false->pt j=none->(L.setIfInBounds i true).getD j false=true->Sp j (got oj (a.put o.dst v)) w')/\
      ∃blk:Nat->Nat,(∀j oj,ops[j]? =some oj->al j=true->(L.setIfInBounds i true).getD j false=true->(a.put o.dst v).tmps.getD (dp j) undef=.pointer (some ⟨blk j,0,none⟩)/\w0.heap.size<=blk j/\blk j<w'.heap.size)/\
       (∀j oj,ops[j]? =some oj->al j=true->(L.setIfInBounds i true).getD j false=true->(∀i',pt i'=some j->(L.setIfInBounds i true).getD i' false=false)->w'.heap[blk j]? =some (.cells (zc j) (ty j) (0,0)))/\
       (∀i' oi p,ops[i']? =some oi->pt i'=some p->(L.setIfInBounds i true).getD i' false=true->(L.setIfInBounds i true).getD p false=true/\w'.heap[blk p]? =some (.cells (fin p) (ty p) (0,0)))/\
       (∀j j' oj oj',ops[j]? =some oj->ops[j']? =some oj'->al j=true->al j'=true->(L.setIfInBounds i true).getD j false=true->(L.setIfInBounds i true).getD j' false=true->j≠j'->blk j≠blk j'):=by
     intro v w' aD hnone hv;have ne:∀j,al j=true->i≠j:=fun j hj e=>by rw[e,hj] at Iz;cases Iz
     have nep:∀j p,pt j=some p->i≠j:=fun j p hj e=>by rw[e,hj] at Aw;cases Aw
     refine⟨by simpa using hs,hB.trans (aD.mono hB.size),hF.put ho v,fun j oj hj h1 h2 hL=>?_,blk,fun j oj hj h1 hL=>?_,fun j oj hj h1 hL hno=>?_,fun i' oi p hi' hp hL=>?_,fun j j' oj oj' hj hj' h1 h1' hL hL' gW=>?_⟩
     ·by_cases gI:i=j
      ·subst gI;rw[ho] at hj;obtain rfl:=gJ hj;rw[gu v hlt hnone];exact hv
      ·rw[eZ v (gy hd ho hj gI)];rw[getD_set_ne false gI] at hL;exact stable j _ w w' (hSp j oj hj h1 h2 hL) (hE w w' aD)
     ·rw[getD_set_ne false (ne j h1)] at hL;obtain⟨q1,q2,q3⟩:=hv1 j oj hj h1 hL;have hdj:=(Ph j oj hj h1).2.1;rw[jS v (fun e=>gy hd ho hj (ne j h1) _ e hdj)];exact⟨q1,q2,qZ q3 aD.size⟩
     ·rw[getD_set_ne false (ne j h1)] at hL;have:=hv2 j oj hj h1 hL (fun i' hi'=>by have:=hno i' hi';rwa [getD_set_ne false (nep i' j hi')] at this);rw[aD.block _ (hv1 j oj hj h1 hL).2.2];exact this
     ·rw[getD_set_ne false (nep i' p hp)] at hL;obtain⟨q1,q2⟩:=hv3 i' oi p hi' hp hL;rw[getD_set_ne false (ne p (hal i' p hp).1)];refine⟨q1,?_⟩;rw[aD.block _ (Array.getElem?_eq_some_iff.1 q2).1];exact q2
     ·rw[getD_set_ne false (ne j h1)] at hL;rw[getD_set_ne false (ne j' h1')] at hL';exact hv4 j j' oj oj' hj hj' h1 h1' hL hL' gW
    split
    ·rename_i hw
     rw[if_pos hw] at iN;refine Oper.wp_mono (fun a' w' ⟨v,ha,hnone,hv,aD⟩=>?_) iN;subst ha;exact next v w' aD hnone hv
    ·rename_i hw
     rw[if_neg hw] at iN;exact next undef w (bT _ _) (fun _=>rfl) iN
   ·-- a put
    obtain⟨hg,hdst,⟨op,hop⟩,⟨e,he,hep,hbind⟩,hwp⟩:=hput i o ho p Aw;have hLp:L.getD p false=true:=by rw[<-hep];exact jo e he hbind
    have Ul:=(hal i p Aw).1;obtain⟨q1,q2,q3⟩:=hv1 p op hop Ul hLp;have hzero:=hv2 p op hop Ul hLp (fun i' hi'=>by have:=hinj i i' p Aw hi';subst this;exact hL0);have hw:Region.wanted o (yielded ops a.tmps)=true:=by simp[Region.wanted,hg]
    rw[if_pos hw];refine hwp a w (blk p) _ hB hF LQ q1 hzero ?_;have ne:∀j,al j=true->i≠j:=fun j hj e=>by rw[e,hj] at Iz;cases Iz
    refine⟨by simpa using hs,below_setRow hB q2 _,hF,fun j oj hj h1 h2 hL=>?_,blk,fun j oj hj h1 hL=>?_,fun j oj hj h1 hL hno=>?_,fun i' oi p' hi' hp hL=>?_,fun j j' oj oj' hj hj' h1 h1' hL hL' gW=>?_⟩
    ·have gI:i≠j:=fun e=>by rw[e,h2] at Aw;cases Aw
     rw[getD_set_ne false gI] at hL;exact stable j _ w _ (hSp j oj hj h1 h2 hL) (hE2 w _ _ p Ul q2 hzero)
    ·rw[getD_set_ne false (ne j h1)] at hL;obtain⟨r1,r2,r3⟩:=hv1 j oj hj h1 hL;exact⟨r1,r2,by rw[size_setRow];exact r3⟩
    ·rw[getD_set_ne false (ne j h1)] at hL;by_cases hjp:j=p
     ·subst hjp;have:=hno i Aw;rw[jQ] at this;cases this
     ·have hb':=hv4 j p oj op hj hop h1 Ul hL hLp hjp;rw[setRow_other w _ _ _ hb'];exact hv2 j oj hj h1 hL (fun i' hi'=>by
       have gW:i≠i':=fun e=>by subst e;rw[Aw] at hi';exact hjp (gJ hi').symm
       have:=hno i' hi';rwa [getD_set_ne false gW] at this)
    ·by_cases hii:i=i'
     ·subst hii;rw[Aw] at hp;obtain rfl:=gJ hp;exact⟨by rw[getD_set_ne false (ne p Ul)];exact hLp,setRow_heap w _ _ _ _ _ hzero⟩
     ·rw[getD_set_ne false hii] at hL;obtain⟨r1,r2⟩:=hv3 i' oi p' hi' hp hL;have aer:=(hal i' p' hp).1;refine⟨by rw[getD_set_ne false (ne p' aer)];exact r1,?_⟩;have hpp:p'≠p:=fun e=>hii (hinj i i' p Aw (by rw[hp,e]));have hop':∃op',ops[p']? =some op':=(hput i' oi hi' p' hp).2.2.1;obtain⟨op',hop'⟩:=hop';rw[setRow_other w _ _ _ (hv4 p' p op' op hop' hop aer Ul r1 hLp hpp)];exact r2
    ·rw[getD_set_ne false (ne j h1)] at hL;rw[getD_set_ne false (ne j' h1')] at hL';exact hv4 j j' oj oj' hj hj' h1 h1' hL hL' gW
  ·-- an alloc
   obtain⟨hg,hdst,hwp⟩:=Ph i o ho Iz;have hw:Region.wanted o (yielded ops a.tmps)=true:=by simp[Region.wanted,hg]
   rw[if_pos hw];refine hwp a w _ ?_;have aD:Below w.heap.size w (w.alloc (.cells (zc i) (ty i))):=(bT _ _).alloc (bH _) _;have gP:(w.alloc (.cells (zc i) (ty i))).heap.size=w.heap.size+1:=by simp
   have nef:∀j,al j=false->i≠j:=fun j hj e=>by rw[e,hj] at Iz;cases Iz
   have nep:∀j p,pt j=some p->i≠j:=fun j p hj e=>by have:=(hal j p hj).2;rw[<-e,Iz] at this;cases this
   rw[<-hdst];refine⟨by simpa using hs,hB.trans (aD.mono hB.size),hF.put ho _,fun j oj hj h1 h2 hL=>?_,fun j=>if j=i then w.heap.size else blk j,fun j oj hj h1 hL=>?_,fun j oj hj h1 hL hno=>?_,fun i' oi p hi' hp hL=>?_,fun j j' oj oj' hj hj' h1 h1' hL hL' gW=>?_⟩
   ·rw[eZ _ (gy hd ho hj (nef j h1))];rw[getD_set_ne false (nef j h1)] at hL;exact stable j _ w _ (hSp j oj hj h1 h2 hL) (hE w _ aD)
   ·by_cases hji:j=i
    ·subst hji;simp only[if_pos];rw[hdst,qm _ (hlt _ hdst)];exact⟨rfl,hB.size,by rw[gP];omega⟩
    ·simp only[if_neg hji];rw[getD_set_ne false (Ne.symm hji)] at hL;obtain⟨q1,q2,q3⟩:=hv1 j oj hj h1 hL;have hdj:=(Ph j oj hj h1).2.1;rw[jS _ (fun e=>gy hd ho hj (Ne.symm hji) _ e hdj)];exact⟨q1,q2,by rw[gP];omega⟩
   ·by_cases hji:j=i
    ·subst hji;simp only[if_pos];exact heap_alloc_new w _
    ·simp only[if_neg hji];rw[getD_set_ne false (Ne.symm hji)] at hL;rw[Below.heap_alloc w _ _ (hv1 j oj hj h1 hL).2.2];exact hv2 j oj hj h1 hL (fun i' hi'=>by have:=hno i' hi';rwa [getD_set_ne false (nep i' j hi')] at this)
   ·rw[getD_set_ne false (nep i' p hp)] at hL;obtain⟨q1,q2⟩:=hv3 i' oi p hi' hp hL;have dD:p≠i:=fun e=>by rw[e,hL0] at q1;cases q1
    simp only[if_neg dD];refine⟨by rw[getD_set_ne false (Ne.symm dD)];exact q1,?_⟩;rw[Below.heap_alloc w _ _ (Array.getElem?_eq_some_iff.1 q2).1];exact q2
   ·by_cases hji:j=i
    ·subst hji;have YG:j'≠j:=Ne.symm gW;simp only[if_pos,if_neg YG];rw[getD_set_ne false gW] at hL';have:=(hv1 j' oj' hj' h1' hL').2.2;omega
    ·by_cases YG:j'=i
     ·subst YG;simp only[if_pos,if_neg hji];rw[getD_set_ne false (Ne.symm hji)] at hL;have:=(hv1 j oj hj h1 hL).2.2;omega
     ·simp only[if_neg hji,if_neg YG];rw[getD_set_ne false (Ne.symm hji)] at hL;rw[getD_set_ne false (Ne.symm YG)] at hL';exact hv4 j j' oj oj' hj hj' h1 h1' hL hL' gW
 ·rintro L a w hall ⟨hs,hB,hF,hSp,blk,hv1,hv2,hv3,hv4⟩;have on:∀j oj,ops[j]? =some oj->L.getD j false=true:=fun j oj hj=>hall j (Array.getElem?_eq_some_iff.1 hj).1
  exact hend a w blk hB hF (fun j oj hj h1 h2=>hSp j oj hj h1 h2 (on j oj hj)) (fun j oj hj h1=>hv1 j oj hj h1 (on j oj hj)) (fun i oi p hi hp=>(hv3 i oi p hi hp (on i oi hi)).2)
   (fun j j' oj oj' hj hj' h1 h1' gW=>hv4 j j' oj oj' hj hj' h1 h1' (on j oj hj) (on j' oj' hj') gW)
def Each (F:Nat->Oper->Prop):Nat->List Oper->Prop
 | _, [] =>True
 | k,o::l=>F k o/\Each F (k+1) l
theorem Each.at {F:Nat->Oper->Prop}:∀(l:List Oper) (k:Nat),Each F k l->∀i o,l[i]? =some o->F (k+i) o
 | [],_,_,i,o,h=>by simp at h
 | x::l,k,⟨h1,h2⟩,0,o,h=>by simp at h;subst h;exact h1
 | x::l,k,⟨h1,h2⟩,i+1,o,h=>by
  have:=Each.at l (k+1) h2 i o (by simpa using h)
  rwa [show k+1+i=k+(i+1) by omega] at this
theorem Each.all {F:Nat->Oper->Prop} {l:List Oper} (h:Each F 0 l) (i:Nat) (o:Oper) (hi:l.toArray[i]? =some o):F i o:=by
 have:=Each.at l 0 h i o (by simpa using hi)
 rwa [qY] at this
def waits (o:Oper) (j:Nat):Bool:=o.after.toList.any fun(e:Edge)=>e.on==j && Region.binds .any e
theorem aj {o:Oper} {j:Nat} (h:waits o j=true):∃e ∈ o.after,e.on=j/\Region.binds .any e=true:=by
 unfold waits at h;rw[List.any_eq_true] at h;obtain⟨e,he,hc⟩:=h;simp only[Jg,beq_iff_eq] at hc;exact⟨e,by simpa using he,hc⟩
theorem Fr.same {a0 a:Act} (h:Fr ops a0 a) (t:Nat) (ht:(ops.toList.all fun(o:Oper)=>o.dst !=some t)=true):a.tmps.getD t undef=a0.tmps.getD t undef:=by
 refine h.2.2 t fun i o hi=>?_;rw[wM] at ht;have:=ht o (by rw[List.mem_iff_getElem?];exact⟨i,by simpa using hi⟩)
 simpa using this
theorem dA {o:Oper} {y:Nat->Option Bool} (h:o.guard=none):Region.wanted o y=true:=by simp[Region.wanted,h]
theorem dz {o:Oper} {a:Act} {j d:Nat} {want b:Bool} (h:o.guard=some (j,want)) (hj:(ops[j]?).bind (·.dst)=some d) (hv:a.tmps.getD d undef=.bool b):Region.wanted o (yielded ops a.tmps)=(b==want):=by
 have hv':a.tmps[d]?.getD undef=.bool b:=by simpa using hv
 cases hx:a.tmps[d]? with
 | none=>rw[hx] at hv';simp[undef] at hv'
 | some x=>
  rw[hx] at hv';simp at hv';subst hv';cases b<;> cases want<;> simp[Region.wanted,h,yielded,hj,hx]
theorem xZ {o:Oper} {a:Act} {w:World} {v:Value} {S:Value->World->Prop} {Q:Exit->Act->World->Prop} (hd:∀h:o.dst=none,v=undef) (hr:(execOp a.eval o).run P w=.ok (.value v) w) (hs:S v w):
  o.wp P a w (fun a' w'=> ∃v,a'=a.put o.dst v/\(o.dst=none->v=undef)/\S v w'/\Below w.heap.size w w') Q:=by
 unfold Oper.wp;rw[hr];exact⟨v,rfl,hd,hs,bT _ _⟩
theorem vH {o:Oper} {a:Act} {w:World} {f:FuncId} {args:Array Operand} {types:Array TypeId} (ho:o.op=.call ⟨.value (.func f),args,types⟩)
  (hcall:∀as w,(callFunc f as).run P w=.ok (.enter f as) w):(execOp a.eval o).run P w=.ok (.enter f (args.map a.eval)) w:=by
 unfold execOp;simp only[ho,resolve,uV];simp[Act.eval,Deferred.ofValue,invoke,hcall]
theorem aI {o:Oper} {a:Act} {w:World} {S:Value->World->Prop} {Q:Exit->Act->World->Prop} (f:FuncId) (args:Array Operand) (types:Array TypeId) (ho:o.op=.call ⟨.value (.func f),args,types⟩)
  (hcall:∀as w,(callFunc f as).run P w=.ok (.enter f as) w) (vs:Array Value) (hvs:args.map a.eval=vs) (hd:o.dst≠none)
  (hc:Calls P f vs w fun e w'=> ∃v,e=.returned v/\S v w'/\Below w.heap.size w w'):
  o.wp P a w (fun a' w'=> ∃v,a'=a.put o.dst v/\(o.dst=none->v=undef)/\S v w'/\Below w.heap.size w w') Q:=by
 unfold Oper.wp;rw[vH ho hcall,hvs];refine hc.mono ?_;rintro e w' ⟨v,rfl,hs,hb⟩;exact⟨v,rfl,fun h=>absurd h hd,hs,hb⟩
theorem Ak {a:Act}:(#[] :Array Operand).map a.eval=#[] :=by simp
theorem args1 {a:Act} {x:Operand} {v:Value} (h:a.eval x=v):(#[x] :Array Operand).map a.eval=#[v] :=by simp[h]
theorem args2 {a:Act} {x y:Operand} {v u:Value} (h:a.eval x=v) (h':a.eval y=u):(#[x,y] :Array Operand).map a.eval=#[v,u] :=by simp[h,h']
theorem vR {a:Act} {x y z:Operand} {v u t:Value} (h:a.eval x=v) (h':a.eval y=u) (h'':a.eval z=t):(#[x,y,z] :Array Operand).map a.eval=#[v,u,t] :=by simp[h,h',h'']
theorem yD {a:Act} {x y z p:Operand} {v u t q:Value} (h:a.eval x=v) (h':a.eval y=u) (h'':a.eval z=t) (h3:a.eval p=q):(#[x,y,z,p] :Array Operand).map a.eval=#[v,u,t,q] :=by simp[h,h',h'',h3]
theorem bU {o:Oper} {a:Act} {w:World} {x:Operand} {k:Nat} {vs:Array Value} {v:Value} (ho:o.op=.extract x k) (hx:a.eval x=.tuple vs) (hk:vs[k]? =some v):(execOp a.eval o).run P w=.ok (.value v) w:=by
 unfold execOp;simp[ho,hx,Instr.extract,hk]
theorem jN {o:Oper} {a:Act} {w:World} {c x y:Operand} {b:Bool} (ho:o.op=.pick c x y) (hc:a.eval c=.bool b):(execOp a.eval o).run P w=.ok (.value (if b then a.eval x else a.eval y)) w:=by
 unfold execOp;cases b<;> simp[ho,hc,asBool]
theorem pJ {o:Oper} {a:Act} {w:World} {x:Operand} {T:TypeId} {b:Bool} (ho:o.op=.unOp .not T x) (hx:a.eval x=.bool b):(execOp a.eval o).run P w=.ok (.value (.bool (!b))) w:=by
 unfold execOp;simp[ho,hx,Op.unary]
theorem bD {o:Oper} {a:Act} {w:World} {K:Act->World->Prop} {Q:Exit->Act->World->Prop} {T:TypeId} {d:Nat} {cs:Array Value} (ho:o.op=.alloc T) (hd:o.dst=some d)
  (hz:∀w,(zeroValue T).run P w=.ok (.agg cs) w) (gW:cs≠ #[]) (h:K (a.put (some d) (.pointer (some ⟨w.heap.size,0,none⟩))) (w.alloc (.cells cs T))):o.wp P a w K Q:=by
 have hr:(Instr.alloc T true (.tuple #[])).run P w=.ok (.pointer (some ⟨w.heap.size,0,none⟩)) (w.alloc (.cells cs T)):=by
  simp[Instr.alloc,hz,newVar,newRow,gW,Value.cells]
 unfold Oper.wp execOp;simp only[ho,uV,hr,vS];rw[<-hd] at h;exact h
theorem bQ {o:Oper} {a:Act} {w:World} {K:Act->World->Prop} {Q:Exit->Act->World->Prop} {T t:TypeId} {x y:Operand} {b n:Nat} {k:IntKind} {f g:Nat->Int} (ho:o.op=.store T x y) (hd:o.dst=none)
  (hi:(P.info? T).map (·.size)=some n) (hx:a.eval x=.pointer (some ⟨b,0,none⟩)) (hy:a.eval y=.agg (arr k n g)) (hb:w.heap[b]? =some (.cells (arr k n f) t (0,0)))
  (h:K a (w.setRow b (arr k n g))):o.wp P a w K Q:=
 bG T x y ho k b n f g hi hx hy ⟨t,hb⟩ (by rw[hd];exact h)
theorem aG {o:Oper} {a:Act} {w:World} {S:Value->World->Prop} {Q:Exit->Act->World->Prop} (x:Operand) (hop:o.op=.move x\/o.op=.assign x) (hd:o.dst≠none) (hs:S (a.eval x) w):
  o.wp P a w (fun a' w'=> ∃v,a'=a.put o.dst v/\(o.dst=none->v=undef)/\S v w'/\Below w.heap.size w w') Q:=
 xZ (v:=a.eval x) (fun h=>absurd h hd) (by unfold execOp;rcases hop with h | h<;> rw[h] <;> rfl) hs
theorem GX {a:Act} {w:World} {o:Oper} {T e:TypeId} {x:Operand} {k:IntKind} {b n:Nat} {f:Nat->Int} (ho:o.op=.load T x)
  (hu:P.underlying T=some (.array n e)) (hi:(P.info? T).map (·.size)=some n) (hx:a.eval x=.pointer (some ⟨b,0,none⟩)) (h:aK k w b n f):
  (execOp a.eval o).run P w=.ok (.value (.agg (arr k n f))) w:=by
 obtain⟨t,ht⟩:=h;have hr:=run_loadVar_row (P:=P) w b t T (arr k n f) (0,0) _ ht hu rfl (by rw[hi,iZ]);unfold execOp;simp only[ho,hx,Instr.loadAt,Instr.sureAddr,uV,wL,vS,hr]
def EL (d:TypeDesc):Bool:=match d with | .struct _ | .array _ _=>true | _=>false
theorem aF {a:Act} {w:World} {o:Oper} {T:TypeId} {x:Operand} {k:IntKind} {b n:Nat} {f:Nat->Int} {d:TypeDesc} (ho:o.op=.load T x)
  (hu:P.underlying T=some d) (hd:EL d=true) (hi:(P.info? T).map (·.size)=some n) (hx:a.eval x=.pointer (some ⟨b,0,none⟩)) (h:aK k w b n f):
  (execOp a.eval o).run P w=.ok (.value (.agg (arr k n f))) w:=by
 obtain⟨t,ht⟩:=h;have hr:=run_loadVar_row (P:=P) w b t T (arr k n f) (0,0) _ ht hu (by cases d<;> first | rfl | cases hd) (by rw[hi,iZ]);unfold execOp;simp only[ho,hx,Instr.loadAt,Instr.sureAddr,uV,wL,vS,hr]
def ku (vs:List (Nat × Nat)) (i:Nat):Bool:=vs.any fun x=>x.2==i
def gH (vs:List (Nat × Nat)) (i:Nat):Option Nat:=(vs.find? fun x=>x.1==i).map fun x=>x.2
def vsB (vs:List (Nat × Nat)):Bool:=vs.all fun x=>vs.all fun y=>((x.1==y.1)==(x.2==y.2)) && x.1 !=y.2
theorem yV {vs:List (Nat × Nat)} {i p:Nat} (h:gH vs i=some p):(i,p) ∈ vs:=by
 unfold gH at h;rw[Zqb] at h;obtain⟨⟨a,b⟩,h1,h2⟩:=h;have h3:=List.find?_some h1;have h4:=List.mem_of_find?_eq_some h1;simp at h3 h2;subst h3 h2;exact h4
theorem iJ {vs:List (Nat × Nat)} (h:vsB vs=true) (i p:Nat) (hp:gH vs i=some p):ku vs p=true/\ku vs i=false:=by
 have hm:=yV hp;refine⟨by unfold ku;rw[List.any_eq_true];exact⟨_,hm,by simp⟩,?_⟩;unfold ku;rw[List.any_eq_false];intro y hy;unfold vsB at h;rw[wM] at h;have h1:=h _ hm;rw[wM] at h1;have h2:=h1 _ hy;simp only[Jg,bne_iff_ne] at h2
 simpa using fun e=>h2.2 e.symm
theorem fT {vs:List (Nat × Nat)} (h:vsB vs=true) (i i' p:Nat) (hp:gH vs i=some p) (hp':gH vs i'=some p):i=i':=by
 have hm:=yV hp;have hm':=yV hp';unfold vsB at h;rw[wM] at h;have h1:=h _ hm;rw[wM] at h1;have h2:=h1 _ hm';simp at h2;exact h2.1
theorem aJ {c:Code} {Q:Exit->Act->World->Prop} {a:Act} {w:World} (F:World->Prop) (hF:F w) (h:∀w',F w'->c.wp P Q a w'):c.wp P Q a w:=h w hF
def puts:List Oper->List Value->Act->Act
 | o::l,v::vs,b=>puts l vs (b.put o.dst v)
 | _,_,b=>b
theorem abN {a0 a:Act} {n:Nat} (hd:qw ops n=true) (hn:a0.tmps.size=n) (h:Fr ops a0 a) (vs:List Value) (hl:vs.length=ops.size) (hv:∀(i:Nat) (o:Oper) (v:Value),ops[i]? =some o->vs[i]? =some v->∀d,o.dst=some d->a.tmps.getD d undef=v):
  a=puts ops.toList vs a0:=by
 have gP:∀(l:List Oper) (vs:List Value) (b:Act),(puts l vs b).tmps.size=b.tmps.size/\(puts l vs b).defers=b.defers:=by
  intro l
  induction l with
  | nil=>intro vs b;simp[puts]
  | cons o l ih=>
   intro vs b
   cases vs with
   | nil=>simp[puts]
   | cons v vs=>
    have:=ih vs (b.put o.dst v);unfold puts;cases hd:o.dst<;> simpa [Act.put,hd] using this
 have key:∀(l:List Oper) (vs:List Value) (b:Act) (t:Nat),(∀(i:Nat) (o:Oper),l[i]? =some o->o.dst≠some t)->(puts l vs b).tmps.getD t undef=b.tmps.getD t undef:=by
  intro l
  induction l with
  | nil=>intro vs b t _;simp[puts]
  | cons o l ih=>
   intro vs b t ht
   cases vs with
   | nil=>simp[puts]
   | cons v vs=>
    unfold puts;rw[ih vs _ t (fun i o' hi=>ht (i+1) o' (by simpa using hi)),jS v (ht 0 o aR)]
 have key2:∀(l:List Oper) (vs:List Value) (b:Act) (k:Nat),(∀i,l[i]? =ops[k+i]?)->l.length<=vs.length->b.tmps.size=n->∀(i:Nat) (o:Oper) (d:Nat),l[i]? =some o->o.dst=some d->some ((puts l vs b).tmps.getD d undef)=vs[i]?:=by
  intro l
  induction l with
  | nil=>intro vs b k _ _ _ i o d hi;simp at hi
  | cons o l ih=>
   intro vs b k hk hlen hb i o' d hi hd'
   cases vs with
   | nil=>simp at hlen
   | cons v vs=>
    unfold puts;have h0:ops[k]? =some o:=by simpa using (hk 0).symm
    cases i with
    | zero=>
     simp at hi;subst hi;have hlt:=qp hd h0 d hd';rw[key l vs _ d (fun i o' hi e=>gy hd h0 (show ops[k+(i+1)]? =some o' by rw[<-hk (i+1)];simpa using hi) aH d hd' e),hd',qm v (by rw[hb];exact hlt)];simp
    | succ i=>
     have:=ih vs (b.put o.dst v) (k+1) (fun i=>by have:=hk (i+1);simpa [Nat.add_assoc,Nat.add_comm 1 i] using this) (by simpa using hlen) (by cases hx:o.dst<;> simpa [Act.put,hx] using hb) i o' d (by simpa using hi) hd'
     simpa using this
 obtain⟨h1,h2,h3⟩:=h;obtain⟨s1,s2⟩:=gP ops.toList vs a0;have e1:a.tmps=(puts ops.toList vs a0).tmps:=by
  apply Array.ext
  ·rw[s1,h2]
  ·intro t ht ht';have hg:a.tmps.getD t undef=(puts ops.toList vs a0).tmps.getD t undef:=by
    by_cases hex:∃(i:Nat) (o:Oper),ops[i]? =some o/\o.dst=some t
    ·obtain⟨i,o,hi,hdt⟩:=hex;have h4:=key2 ops.toList vs a0 0 (fun i=>by simp) (by simp[hl]) hn i o t (by simpa using hi) hdt;have hi':i<vs.length:=by rw[hl];exact(Array.getElem?_eq_some_iff.1 hi).1
     have h5:=hv i o vs[i] hi (by simp[hi']) t hdt;rw[kP hi'] at h4;rw[h5];exact(gJ h4).symm
    ·have hno:∀(i:Nat) (o:Oper),ops[i]? =some o->o.dst≠some t:=fun i o hi e=>hex ⟨i,o,hi,e⟩;rw[h3 t hno,key ops.toList vs a0 t (fun i o hi=>hno i o (by simpa using hi))]
   have g1:a.tmps.getD t undef=a.tmps[t] :=by simp[ht]
   have g2:(puts ops.toList vs a0).tmps.getD t undef=(puts ops.toList vs a0).tmps[t] :=by simp[ht']
   rw[<-g1,←g2,hg]
 have e2:a.defers=(puts ops.toList vs a0).defers:=by rw[s2,h1]
 cases a
 cases hp:puts ops.toList vs a0
 rw[hp] at e1 e2;simp only at e1 e2;rw[e1,e2]
theorem aO {l:List Oper} {a0 a:Act} {n:Nat} (hd:qw l.toArray n=true) (hn:a0.tmps.size=n) (h:Fr l.toArray a0 a) (vs:List Value) (hl:vs.length=l.length)
  (hv:Each (fun i o=>match o.dst with | some d=>a.tmps.getD d undef=vs.getD i undef | none=>True) 0 l):a=puts l vs a0:=by
 have:=abN hd hn h vs (by simpa using hl) (fun i o v hi hvi d hod=>by
  have h1:=hv.all i o hi;simp only[hod] at h1;rw[h1];simp[List.getD,hvi])
 simpa using this
end
def mY (n:Nat) (f g:Nat->Int):Bool:=decide (∀i,i<n->f i=g i)
theorem Cj {n:Nat} {f:Nat->Int}:mY n f f=true:=decide_eq_true fun _ _=>rfl
theorem yT {n:Nat} {f g:Nat->Int} (h:∀i,i<n->f i=g i):mY n f g=true:=decide_eq_true h
theorem Ck {n:Nat} {f g:Nat->Int} (h:¬ ∀i,i<n->f i=g i):mY n f g=false:=decide_eq_false h
section
variable {P : Program} {a : Act} {w : World} {o : Oper}
theorem rW (d:Nat) {e:TypeId} {k:IntKind} {n:Nat} {f g:Nat->Int} (he:P.underlying e=some (.int k)) (hp:P.plainKey e=true) (hc:P.cellsOf e=1):
  ∀is:List Nat,(∀i ∈ is,i<n)->(Op.eqItems (d+1) e (P.cellsOf e) (arr k n f) (arr k n g) is).run P w=.ok (decide (∀i ∈ is,f i=g i)) w
 | [],_=>by simp[Op.eqItems]
 | i::is,h=>by
  have hi:i<n:=h i aR;have p1:=run_part_plain (w:=w) hp (xs:=arr k n f) (off:=i * P.cellsOf e) (v:=.int k (f i)) (by rw[hc,Nat.mul_one,yC hi]);have p2:=run_part_plain (w:=w) hp (xs:=arr k n g) (off:=i * P.cellsOf e) (v:=.int k (g i)) (by rw[hc,Nat.mul_one,yC hi]);have ih:=rW d (f:=f) (g:=g) he hp hc is fun j hj=>h j (by simp[hj]);simp only[Op.eqItems,uV,p1,p2,vS,run_equalIn_int w d e k k (f i) (g i) he];by_cases hfg:f i=g i
  ·simp[hfg,ih]
  ·simp[hfg]
theorem Eu {T e:TypeId} {k:IntKind} {n:Nat} {f g:Nat->Int} (hu:P.underlying T=some (.array n e)) (he:P.underlying e=some (.int k)) (hp:P.plainKey e=true) (hc:P.cellsOf e=1) (hi:(P.info? e).isSome=true):
  (Op.equal T (.agg (arr k n f)) (.agg (arr k n g))).run P w=.ok (mY n f g) w:=by
 obtain⟨j,hj⟩:=Option.isSome_iff_exists.1 hi;show (Op.equalIn (9999+1) T _ _).run P w= _;rw[run_equalIn_array w 9999 _ _ hu hj,show (9999:Nat)=9998+1 from rfl,rW 9998 he hp hc _ (fun i h=>List.mem_range.1 h)];simp[mY]
theorem Ar {op:BinOp} {T:TypeId} {x y:Operand} {xs ys:Array Value} (h:P.eqGuardType P.depth T=false):(eqGuard op T x y (.agg xs) (.agg ys)).run P w=.ok () w:=run_eqGuard_agg w op T x y xs ys h
theorem sS {T U e:TypeId} {x y:Operand} {k:IntKind} {n:Nat} {f g:Nat->Int} (b:Bool) (ho:o.op=.binOp .eql T x y U) (hx:a.eval x=.agg (arr k n f)) (hy:a.eval y=.agg (arr k n g))
  (hu:P.underlying T=some (.array n e)) (he:P.underlying e=some (.int k)) (hp:P.plainKey e=true) (hc:P.cellsOf e=1) (hi:(P.info? e).isSome=true) (hg:P.eqGuardType P.depth T=false)
  (hb:mY n f g=b):(execOp a.eval o).run P w=.ok (.value (.bool b)) w:=by
 unfold execOp;simp only[ho,hx,hy,uV,Ar hg,vS,binOp,Eu hu he hp hc hi,hb,wL]
theorem mZ {T U:TypeId} {x y:Operand} {k:IntKind} {p q:Int} (ho:o.op=.binOp .eql T x y U) (hx:a.eval x=.int k p) (hy:a.eval y=.int k q):(execOp a.eval o).run P w=.ok (.value (.bool (p==q))) w:=by
 unfold execOp;simp only[ho,hx,hy];simp[go_sem,binOp,Op.intCmp,eqGuard]
theorem gD {T e:TypeId} {x:Operand} {b n:Nat} (ho:o.op=.slice T x none none none) (hx:a.eval x=.pointer (some ⟨b,0,none⟩))
  (hu:P.underlying T=some (.array n e)) (hi:(P.info? e).map (·.size)=some 1):(execOp a.eval o).run P w=.ok (.value (.slice (some ⟨b,0,none⟩) n n)) w:=by
 obtain⟨i,h1,h2⟩:=Option.map_eq_some_iff.1 hi;unfold execOp;simp only[ho,hx];simp[Instr.sliceAt,Instr.sureAddr,run_underlying hu,Instr.sliceBounds,sizeOf,typeInfo,h1,h2];exact fun _=>rfl
theorem fK {T:TypeId} {parts:Array (Nat × Operand)} {v:Value} (ho:o.op=.build T parts)
  (h:(Instr.build T (parts.map fun(i,x)=>(i,a.eval x))).run P w=.ok v w):(execOp a.eval o).run P w=.ok (.value v) w:=by
 unfold execOp;simp only[ho,uV,h,vS,wL]
variable {ops : Array Oper} {Q : Exit -> Act -> World -> Prop} {rest : List Oper}
theorem fC (hg:o.guard=none) {v:Value} (hr:(execOp a.eval o).run P w=.ok (.value v) w) (hK:wpList P ops Q rest (a.put o.dst v) w):wpList P ops Q (o::rest) a w:=
 wpList_plain hg fun K hK'=>by unfold Oper.wp;rw[hr];exact hK' _ _ hK
end
section
variable {P : Program} {ops : Array Oper} {Q : Exit -> Act -> World -> Prop}
def EZ (ops:Array Oper):Bool:=(List.range (ops.size - 1)).all fun j=>ops.toList.zipIdx.any fun(x:Oper × Nat)=>decide (j<x.2) && waits x.1 j
theorem uy (h:EZ ops=true) (L:Array Bool) (hcl:∀i o,ops[i]? =some o->L.getD i false=true->∀e ∈ o.after,Region.binds .any e=true->L.getD e.on false=true)
  (hl:L.getD (ops.size - 1) false=true):∀k j,j+k=ops.size - 1->L.getD j false=true:=by
 intro k
 induction k using Nat.strongRecOn with
 | _ k ih=>
  intro j hj;by_cases hk:k=0
  ·rw[show j=ops.size - 1 by omega];exact hl
  ·unfold EZ at h;rw[wM] at h;have:=h j (List.mem_range.2 aH);rw[List.any_eq_true] at this;obtain⟨⟨o,i⟩,hm,hc⟩:=this;simp only[Jg,decide_eq_true_eq] at hc;rw[List.mem_zipIdx_iff_getElem?] at hm;have hi:ops[i]? =some o:=by simpa using hm
   have hlt:=(Array.getElem?_eq_some_iff.1 hi).1;obtain⟨e,he,oN,hb⟩:=aj hc.2;rw[<-oN];exact hcl i o hi (ih (ops.size - 1 - i) aH i aH) e he hb
theorem Ku {id:Nat} {a0:Act} {w0:World} {n:Nat} {l:List Oper} {ol:Oper} (hops:ops.toList=l++ [ol]) (hm:P.follows .mixedOrders=true) (hb:jV ops=true) (hd:qw ops n=true) (hu:EZ ops=true) (hn:a0.tmps.size=n)
  (Sp:Nat->Value->World->Prop) (E:World->World->Prop) (hE:∀w w',Below w.heap.size w w'->E w w')
  (stable:∀i v w w',Sp i v w->E w w'->Sp i v w')
  (jB:∀i o,l.toArray[i]? =some o->∀a w,Below w0.heap.size w0 w->Fr ops a0 a->
   (∀j oj,ops[j]? =some oj->(∃e ∈ o.after,e.on=j/\Region.binds .any e=true)->Sp j (got oj a) w)->
   if Region.wanted o (yielded ops a.tmps) then o.wp P a w (fun a' w'=> ∃v,a'=a.put o.dst v/\(o.dst=none->v=undef)/\Sp i v w'/\Below w.heap.size w w') Q else Sp i undef w)
  (hg:ol.guard=none)
  (hlast:∀a w,Below w0.heap.size w0 w->Fr ops a0 a->(∀j oj,l[j]? =some oj->Sp j (got oj a) w)->ol.wp P a w (fun a' w'=>Q .normal a' w') Q):
  (Code.region id ops true).wp P Q a0 w0:=by
 have gP:ops.size=l.length+1:=by have:=congrArg List.length hops;simpa using this
 have hat:∀j,j<l.length->ops[j]? =l[j]?:=fun j hj=>by
  rw[<-Array.getElem?_toList,hops,Jh hj]
 have ahe:ops[l.length]? =some ol:=by
  rw[<-Array.getElem?_toList,hops,Ji (bH _)];simp
 refine mO hm hb (fun L a w=>L.size=ops.size/\(∀i o,ops[i]? =some o->L.getD i false=true->∀e ∈ o.after,Region.binds .any e=true->L.getD e.on false=true)/\
  if L.getD l.length false=true then Q .normal a w else Below w0.heap.size w0 w/\Fr ops a0 a/\∀j oj,ops[j]? =some oj->L.getD j false=true->Sp j (got oj a) w) ?_ ?_ ?_
 ·have h0:∀j,(Array.replicate ops.size false).getD j false=false:=fun j=>by
   by_cases hj:j<ops.size<;> simp[hj]
  refine⟨by simp,fun i o _ h=>(by rw[h0] at h;cases h),?_⟩;rw[if_neg (by rw[h0];simp)];exact⟨(bT _ _).drew,⟨rfl,rfl,fun _ _=>rfl⟩,fun j oj _ hL=>by rw[h0] at hL;cases hL⟩
 ·rintro L a w i o ho h0 jo ⟨hs,hcl,hI⟩;have hil:=(Array.getElem?_eq_some_iff.1 ho).1;have h0':L.getD i false=false:=by
   have hh:i<L.size:=by omega
   simpa [hh] using h0
  have hnl:¬ L.getD l.length false=true:=by
   intro h;have:=uy hu L hcl (by rw[show ops.size - 1=l.length by omega];exact h) (ops.size - 1 - i) i aH;rw[h0'] at this;cases this
  rw[if_neg hnl] at hI;obtain⟨hB,hF,hSp⟩:=hI;have hcl':∀i' o',ops[i']? =some o'->(L.setIfInBounds i true).getD i' false=true->∀e ∈ o'.after,Region.binds .any e=true->(L.setIfInBounds i true).getD e.on false=true:=by
   intro i' o' ho' hL e he hbi;have mono:∀j,L.getD j false=true->(L.setIfInBounds i true).getD j false=true:=by
    intro j hj;by_cases gI:i=j
    ·subst gI;rw[h0'] at hj;cases hj
    ·rw[getD_set_ne false gI];exact hj
   by_cases gI:i=i'
   ·subst gI;rw[ho] at ho';obtain rfl:=gJ ho';exact mono _ (jo e he hbi)
   ·rw[getD_set_ne false gI] at hL;exact mono _ (hcl i' o' ho' hL e he hbi)
  by_cases YE:i=l.length
  ·subst YE;rw[ahe] at ho;obtain rfl:=gJ ho;rw[if_pos (dA hg)];have hall:∀j,j<l.length->L.getD j false=true:=by
    intro j hj;have:=uy hu (L.setIfInBounds l.length true) hcl' (by rw[show ops.size - 1=l.length by omega];simp[hs,gP]) (ops.size - 1 - j) j aH;rw[getD_set_ne false aH] at this;exact this
   refine Oper.wp_mono (fun a' w' hq=>⟨by simpa using hs,hcl',?_⟩) (hlast a w hB hF fun j oj hj=>?_)
   ·rw[if_pos (by simp[hs,gP])];exact hq
   ·have hjl:=(List.getElem?_eq_some_iff.1 hj).1;exact hSp j oj (by rw[hat j hjl];exact hj) (hall j hjl)
  ·have hlt:i<l.length:=by omega
   have iN:=jB i o (by rw[<-ho,hat i hlt];simp) a w hB hF (fun j oj hj ⟨e,he,oN,hbind⟩=>hSp j oj hj (by rw[<-oN];exact jo e he hbind));have YD:∀d,o.dst=some d->d<a.tmps.size:=fun d hd'=>by rw[hF.2.1,hn];exact qp hd ho d hd'
   have next:∀v w',Below w.heap.size w w'->(o.dst=none->v=undef)->Sp i v w'->(L.setIfInBounds i true).size=ops.size/\(∀i' o',ops[i']? =some o'->(L.setIfInBounds i true).getD i' false=true->∀e ∈ o'.after,Region.binds .any e=true->(L.setIfInBounds i true).getD e.on false=true)/\
     if (L.setIfInBounds i true).getD l.length false=true then Q .normal (a.put o.dst v) w' else Below w0.heap.size w0 w'/\Fr ops a0 (a.put o.dst v)/\
     ∀j oj,ops[j]? =some oj->(L.setIfInBounds i true).getD j false=true->Sp j (got oj (a.put o.dst v)) w':=by
    intro v w' aD hnone hv;refine⟨by simpa using hs,hcl',?_⟩;rw[if_neg (by rw[getD_set_ne false YE];exact hnl)];refine⟨hB.trans (aD.mono hB.size),hF.put ho v,fun j oj hj hL=>?_⟩;by_cases gI:i=j
    ·subst gI;rw[ho] at hj;obtain rfl:=gJ hj;rw[gu v YD hnone];exact hv
    ·rw[eZ v (gy hd ho hj gI)];rw[getD_set_ne false gI] at hL;exact stable j _ w w' (hSp j oj hj hL) (hE w w' aD)
   split
   ·rename_i hw
    rw[if_pos hw] at iN;refine Oper.wp_mono (fun a' w' ⟨v,ha,hnone,hv,aD⟩=>?_) iN;subst ha;exact next v w' aD hnone hv
   ·rename_i hw
    rw[if_neg hw] at iN;exact next undef w (bT _ _) (fun _=>rfl) iN
 ·rintro L a w hall ⟨hs,hcl,hI⟩;rw[if_pos (hall _ aH)] at hI;exact hI
theorem jZ {id:Nat} {a0:Act} {w0:World} {n:Nat} {ol:Oper} (m:Nat) (hol:ops[m]? =some ol) (hms:m+1=ops.size) (hm:P.follows .mixedOrders=true) (hb:jV ops=true) (hd:qw ops n=true) (hu:EZ ops=true) (hn:a0.tmps.size=n)
  (Sp:Nat->Value->World->Prop) (E:World->World->Prop) (hE:∀w w',Below w.heap.size w w'->E w w')
  (stable:∀i v w w',Sp i v w->E w w'->Sp i v w') (hg:ol.guard=none)
  (jB:∀i o,ops[i]? =some o->i≠m->∀a w,Below w0.heap.size w0 w->Fr ops a0 a->
   (∀j oj,ops[j]? =some oj->(∃e ∈ o.after,e.on=j/\Region.binds .any e=true)->Sp j (got oj a) w)->
   if Region.wanted o (yielded ops a.tmps) then o.wp P a w (fun a' w'=> ∃v,a'=a.put o.dst v/\(o.dst=none->v=undef)/\Sp i v w'/\Below w.heap.size w w') Q else Sp i undef w)
  (hlast:∀a w,Below w0.heap.size w0 w->Fr ops a0 a->(∀j oj,ops[j]? =some oj->j≠m->Sp j (got oj a) w)->ol.wp P a w (fun a' w'=>Q .normal a' w') Q):
  (Code.region id ops true).wp P Q a0 w0:=by
 obtain⟨l⟩:=ops;simp at hms;have hl:l=l.take m++ [ol] :=by
  apply List.ext_getElem?
  intro i;rcases Nat.lt_trichotomy i m with h | h | h
  ·rw[Jh iU];simp[h]
  ·subst h;rw[Ji iU];simp at hol ⊢;rw[hol];simp[show min i l.length=i by omega]
  ·rw[List.getElem?_eq_none aH,List.getElem?_eq_none iU]
 have hlen:(l.take m).length=m:=by simp;omega
 refine Ku (l:=l.take m) (ol:=ol) hl hm hb hd hu hn Sp E hE stable (fun i o hi=>?_) hg (fun a w hB hF hS=>hlast a w hB hF fun j oj hj hjm=>?_)
 ·have hlt:i<m:=by have:=(Array.getElem?_eq_some_iff.1 hi).1;simp at this;omega
  exact jB i o (by simp at hi ⊢;rw[<-hi];simp[hlt]) aH
 ·have hj':l[j]? =some oj:=by simpa using hj
  have hlt:j<m:=by have:=(List.getElem?_eq_some_iff.1 hj').1;omega
  exact hS j oj (by simp[hlt,hj'])
end
section
variable {P : Program} {a : Act} {w : World} {o : Oper} {T U : TypeId} {x y : Operand} {k : IntKind} {p q : Int}
theorem lH (ho:o.op=.binOp .add T x y U) (hx:a.eval x=.int k p) (hy:a.eval y=.int k q):(execOp a.eval o).run P w=.ok (.value (.int k (k.wrap (p+q)))) w:=by
 unfold execOp;simp only[ho,hx,hy];simp[go_sem,binOp,Op.intArith,eqGuard]
theorem uG (ho:o.op=.binOp .sub T x y U) (hx:a.eval x=.int k p) (hy:a.eval y=.int k q):(execOp a.eval o).run P w=.ok (.value (.int k (k.wrap (p - q)))) w:=by
 unfold execOp;simp only[ho,hx,hy];simp[go_sem,binOp,Op.intArith,eqGuard]
theorem GU (ho:o.op=.binOp .quo T x y U) (hx:a.eval x=.int k p) (hy:a.eval y=.int k q) (hq:q≠0):(execOp a.eval o).run P w=.ok (.value (.int k (k.wrap (p.tdiv q)))) w:=by
 unfold execOp;simp only[ho,hx,hy];simp[go_sem,binOp,Op.intDiv,eqGuard,hq]
theorem xA (ho:o.op=.binOp .rem T x y U) (hx:a.eval x=.int k p) (hy:a.eval y=.int k q) (hq:q≠0):(execOp a.eval o).run P w=.ok (.value (.int k (p.tmod q))) w:=by
 unfold execOp;simp only[ho,hx,hy];simp[go_sem,binOp,Op.intDiv,eqGuard,hq]
theorem nT (ho:o.op=.binOp .and T x y U) (hx:a.eval x=.int k p) (hy:a.eval y=.int k q):(execOp a.eval o).run P w=.ok (.value (.int k (bits .and k p q))) w:=by
 unfold execOp;simp only[ho,hx,hy];simp[go_sem,binOp,Op.intBits,eqGuard,bits]
theorem GV (ho:o.op=.binOp .or T x y U) (hx:a.eval x=.int k p) (hy:a.eval y=.int k q):(execOp a.eval o).run P w=.ok (.value (.int k (bits .or k p q))) w:=by
 unfold execOp;simp only[ho,hx,hy];simp[go_sem,binOp,Op.intBits,eqGuard,bits]
theorem xu (ho:o.op=.binOp .xor T x y U) (hx:a.eval x=.int k p) (hy:a.eval y=.int k q):(execOp a.eval o).run P w=.ok (.value (.int k (bits .xor k p q))) w:=by
 unfold execOp;simp only[ho,hx,hy];simp[go_sem,binOp,Op.intBits,eqGuard,bits]
theorem uH {j:IntKind} (ho:o.op=.binOp .shr T x y U) (hx:a.eval x=.int k p) (hy:a.eval y=.int j q) (hq:0<=q):(execOp a.eval o).run P w=.ok (.value (.int k (p.fdiv (2 ^ min q.toNat k.bits)))) w:=by
 unfold execOp;simp only[ho,hx,hy];simp[go_sem,binOp,Op.shift,eqGuard,show ¬ q<0 by omega]
theorem abF {j:IntKind} (ho:o.op=.binOp .shl T x y U) (hx:a.eval x=.int k p) (hy:a.eval y=.int j q) (hq:0<=q):(execOp a.eval o).run P w=.ok (.value (.int k (k.wrap (p * 2 ^ min q.toNat k.bits)))) w:=by
 unfold execOp;simp only[ho,hx,hy];simp[go_sem,binOp,Op.shift,eqGuard,show ¬ q<0 by omega]
theorem QK (ho:o.op=.binOp .gtr T x y U) (hx:a.eval x=.int k p) (hy:a.eval y=.int k q):(execOp a.eval o).run P w=.ok (.value (.bool (decide (q<p)))) w:=by
 unfold execOp;simp only[ho,hx,hy];simp[go_sem,binOp,Op.intCmp,eqGuard]
theorem sV {j:IntKind} {d:TypeDesc} (ho:o.op=.convert T U x) (hx:a.eval x=.int k p) (hT:P.underlying T=some d) (hU:P.underlying U=some (.int j)):(execOp a.eval o).run P w=.ok (.value (.int j (j.wrap p))) w:=by
 unfold execOp;simp only[ho,hx];simp[convert,run_underlying hT,run_underlying hU,Conv.intToInt]
theorem Aq {e:TypeId} {b off n c:Nat} (ho:o.op=.indexAddr T x y) (hx:a.eval x=.slice (some ⟨b,off,none⟩) n c) (hy:a.eval y=.int k p) (hu:P.underlying T=some (.slice e)) (hi:(P.info? e).map (·.size)=some 1)
  (h0:0<=p) (h1:p<n):(execOp a.eval o).run P w=.ok (.value (.pointer (some ⟨b,off+p.toNat,none⟩))) w:=by
 obtain⟨i,hi1,hi2⟩:=Option.map_eq_some_iff.1 hi;unfold execOp;simp only[ho,hx,hy];simp[Instr.indexAt,asIntOf,run_underlying hu,sizeOf,typeInfo,hi1,hi2,h0,h1,Addr.add]
theorem aU {e:TypeId} {b n:Nat} (ho:o.op=.indexAddr T x y) (hx:a.eval x=.pointer (some ⟨b,0,none⟩)) (hy:a.eval y=.int k p) (hu:P.underlying T=some (.array n e)) (hi:(P.info? e).map (·.size)=some 1)
  (h0:0<=p) (h1:p<n):(execOp a.eval o).run P w=.ok (.value (.pointer (some ⟨b,p.toNat,none⟩))) w:=by
 obtain⟨i,hi1,hi2⟩:=Option.map_eq_some_iff.1 hi;unfold execOp;simp only[ho,hx,hy];simp[Instr.indexAt,Instr.sureAddr,asIntOf,run_underlying hu,sizeOf,typeInfo,hi1,hi2,h0,h1,Addr.add] <;> omega
theorem bg {b i:Nat} {v:Value} (ho:o.op=.load T x) (hx:a.eval x=.pointer (some ⟨b,i,none⟩)) (hu:P.underlying T=some (.int k)) (hc:w.cell? ⟨b,i,none⟩=some v):(execOp a.eval o).run P w=.ok (.value v) w:=by
 unfold execOp;simp only[ho,hx];simp[Instr.loadAt,Instr.sureAddr,loadVar,isAgg,run_underlying hu,go_sem,hc]
variable {ops : Array Oper}
theorem aX {j d:Nat} {want b:Bool} (h:o.guard=some (j,want)) (hj:(ops[j]?).bind (·.dst)=some d) (hv:a.tmps.getD d undef=.bool b) (hb:(b==want)=true):Region.wanted o (yielded ops a.tmps)=true:=(dz h hj hv).trans hb
theorem aT {y:Nat->Option Bool} {X Y:Prop} (h:Region.wanted o y=true) (hx:X):if Region.wanted o y then X else Y:=by rw[if_pos h];exact hx
end
section
variable {P : Program} {ops : Array Oper} {Q : Exit -> Act -> World -> Prop}
theorem Hl {id:Nat} {a0:Act} {w0:World} {n:Nat} {l:List Oper} {ol:Oper} (hops:ops.toList=l++ [ol]) (hm:P.follows .mixedOrders=true) (hb:jV ops=true) (hd:qw ops n=true) (hu:EZ ops=true) (hn:a0.tmps.size=n)
  (Sp:Nat->Value->World->Prop) (c:Nat) (R:Bool->World->Prop) (hR0:R false w0.drew) (E:Nat->World->World->Prop) (hEr:∀i w,E i w w) (hRE:∀i b w w',i≠c->R b w->E i w w'->R b w') (hRc:∀w w',R false w->E c w w'->R true w')
  (stable:∀i j b v w w',i≠j->(j=c->b=false)->R b w->Sp i v w->E j w w'->Sp i v w')
  (jB:∀i o,l.toArray[i]? =some o->∀b a w,(i=c->b=false)->R b w->Fr ops a0 a->
   (∀j oj,ops[j]? =some oj->(∃e ∈ o.after,e.on=j/\Region.binds .any e=true)->Sp j (got oj a) w)->
   if Region.wanted o (yielded ops a.tmps) then o.wp P a w (fun a' w'=> ∃v,a'=a.put o.dst v/\(o.dst=none->v=undef)/\Sp i v w'/\E i w w') Q else Sp i undef w)
  (hg:ol.guard=none)
  (hlast:∀b a w,R b w->Fr ops a0 a->(∀j oj,l[j]? =some oj->Sp j (got oj a) w)->ol.wp P a w (fun a' w'=>Q .normal a' w') Q):
  (Code.region id ops true).wp P Q a0 w0:=by
 have gP:ops.size=l.length+1:=by have:=congrArg List.length hops;simpa using this
 have hat:∀j,j<l.length->ops[j]? =l[j]?:=fun j hj=>by
  rw[<-Array.getElem?_toList,hops,Jh hj]
 have ahe:ops[l.length]? =some ol:=by
  rw[<-Array.getElem?_toList,hops,Ji (bH _)];simp
 refine mO hm hb (fun L a w=>L.size=ops.size/\(∀i o,ops[i]? =some o->L.getD i false=true->∀e ∈ o.after,Region.binds .any e=true->L.getD e.on false=true)/\
  if L.getD l.length false=true then Q .normal a w else R (L.getD c false) w/\Fr ops a0 a/\∀j oj,ops[j]? =some oj->L.getD j false=true->Sp j (got oj a) w) ?_ ?_ ?_
 ·have h0:∀j,(Array.replicate ops.size false).getD j false=false:=fun j=>by
   by_cases hj:j<ops.size<;> simp[hj]
  refine⟨by simp,fun i o _ h=>(by rw[h0] at h;cases h),?_⟩;rw[if_neg (by rw[h0];simp)];exact⟨(h0 c).symm▸hR0,⟨rfl,rfl,fun _ _=>rfl⟩,fun j oj _ hL=>by rw[h0] at hL;cases hL⟩
 ·rintro L a w i o ho h0 jo ⟨hs,hcl,hI⟩;have hil:=(Array.getElem?_eq_some_iff.1 ho).1;have h0':L.getD i false=false:=by
   have hh:i<L.size:=by omega
   simpa [hh] using h0
  have hnl:¬ L.getD l.length false=true:=by
   intro h;have:=uy hu L hcl (by rw[show ops.size - 1=l.length by omega];exact h) (ops.size - 1 - i) i aH;rw[h0'] at this;cases this
  rw[if_neg hnl] at hI;obtain⟨hB,hF,hSp⟩:=hI;have hcl':∀i' o',ops[i']? =some o'->(L.setIfInBounds i true).getD i' false=true->∀e ∈ o'.after,Region.binds .any e=true->(L.setIfInBounds i true).getD e.on false=true:=by
   intro i' o' ho' hL e he hbi;have mono:∀j,L.getD j false=true->(L.setIfInBounds i true).getD j false=true:=by
    intro j hj;by_cases gI:i=j
    ·subst gI;rw[h0'] at hj;cases hj
    ·rw[getD_set_ne false gI];exact hj
   by_cases gI:i=i'
   ·subst gI;rw[ho] at ho';obtain rfl:=gJ ho';exact mono _ (jo e he hbi)
   ·rw[getD_set_ne false gI] at hL;exact mono _ (hcl i' o' ho' hL e he hbi)
  by_cases YE:i=l.length
  ·subst YE;rw[ahe] at ho;obtain rfl:=gJ ho;rw[if_pos (dA hg)];have hall:∀j,j<l.length->L.getD j false=true:=by
    intro j hj;have:=uy hu (L.setIfInBounds l.length true) hcl' (by rw[show ops.size - 1=l.length by omega];simp[hs,gP]) (ops.size - 1 - j) j aH;rw[getD_set_ne false aH] at this;exact this
   refine Oper.wp_mono (fun a' w' hq=>⟨by simpa using hs,hcl',?_⟩) (hlast _ a w hB hF fun j oj hj=>?_)
   ·rw[if_pos (by simp[hs,gP])];exact hq
   ·have hjl:=(List.getElem?_eq_some_iff.1 hj).1;exact hSp j oj (by rw[hat j hjl];exact hj) (hall j hjl)
  ·have hlt:i<l.length:=by omega
   have hcb:i=c->L.getD c false=false:=fun e=>by rw[<-e];exact h0'
   have iN:=jB i o (by rw[<-ho,hat i hlt];simp) _ a w hcb hB hF (fun j oj hj ⟨e,he,oN,hbind⟩=>hSp j oj hj (by rw[<-oN];exact jo e he hbind));have YD:∀d,o.dst=some d->d<a.tmps.size:=fun d hd'=>by rw[hF.2.1,hn];exact qp hd ho d hd'
   have next:∀v w',E i w w'->(o.dst=none->v=undef)->Sp i v w'->(L.setIfInBounds i true).size=ops.size/\(∀i' o',ops[i']? =some o'->(L.setIfInBounds i true).getD i' false=true->∀e ∈ o'.after,Region.binds .any e=true->(L.setIfInBounds i true).getD e.on false=true)/\
     if (L.setIfInBounds i true).getD l.length false=true then Q .normal (a.put o.dst v) w' else R ((L.setIfInBounds i true).getD c false) w'/\Fr ops a0 (a.put o.dst v)/\
     ∀j oj,ops[j]? =some oj->(L.setIfInBounds i true).getD j false=true->Sp j (got oj (a.put o.dst v)) w':=by
    intro v w' aD hnone hv;refine⟨by simpa using hs,hcl',?_⟩;rw[if_neg (by rw[getD_set_ne false YE];exact hnl)];refine⟨?_,hF.put ho v,fun j oj hj hL=>?_⟩
    ·by_cases hic:i=c
     ·subst hic;rw[hcb rfl] at hB;have:(L.setIfInBounds i true).getD i false=true:=by simp[hs,hil]
      rw[this];exact hRc _ _ hB aD
     ·rw[getD_set_ne false hic];exact hRE _ _ _ _ hic hB aD
    by_cases gI:i=j
    ·subst gI;rw[ho] at hj;obtain rfl:=gJ hj;rw[gu v YD hnone];exact hv
    ·rw[eZ v (gy hd ho hj gI)];rw[getD_set_ne false gI] at hL;exact stable j i _ _ w w' (fun e=>gI e.symm) hcb hB (hSp j oj hj hL) aD
   split
   ·rename_i hw
    rw[if_pos hw] at iN;refine Oper.wp_mono (fun a' w' ⟨v,ha,hnone,hv,aD⟩=>?_) iN;subst ha;exact next v w' aD hnone hv
   ·rename_i hw
    rw[if_neg hw] at iN;exact next undef w (hEr _ _) (fun _=>rfl) iN
 ·rintro L a w hall ⟨hs,hcl,hI⟩;rw[if_pos (hall _ aH)] at hI;exact hI
theorem qc {id:Nat} {a0:Act} {w0:World} {n:Nat} {ol:Oper} (m:Nat) (hol:ops[m]? =some ol) (hms:m+1=ops.size) (hm:P.follows .mixedOrders=true) (hb:jV ops=true) (hd:qw ops n=true) (hu:EZ ops=true) (hn:a0.tmps.size=n)
  (Sp:Nat->Value->World->Prop) (c:Nat) (R:Bool->World->Prop) (hR0:R false w0.drew) (E:Nat->World->World->Prop) (hEr:∀i w,E i w w) (hRE:∀i b w w',i≠c->R b w->E i w w'->R b w') (hRc:∀w w',R false w->E c w w'->R true w')
  (stable:∀i j b v w w',i≠j->(j=c->b=false)->R b w->Sp i v w->E j w w'->Sp i v w') (hg:ol.guard=none)
  (jB:∀i o,ops[i]? =some o->i≠m->∀b a w,(i=c->b=false)->R b w->Fr ops a0 a->
   (∀j oj,ops[j]? =some oj->(∃e ∈ o.after,e.on=j/\Region.binds .any e=true)->Sp j (got oj a) w)->
   if Region.wanted o (yielded ops a.tmps) then o.wp P a w (fun a' w'=> ∃v,a'=a.put o.dst v/\(o.dst=none->v=undef)/\Sp i v w'/\E i w w') Q else Sp i undef w)
  (hlast:∀b a w,R b w->Fr ops a0 a->(∀j oj,ops[j]? =some oj->j≠m->Sp j (got oj a) w)->ol.wp P a w (fun a' w'=>Q .normal a' w') Q):
  (Code.region id ops true).wp P Q a0 w0:=by
 obtain⟨l⟩:=ops;simp at hms;have hl:l=l.take m++ [ol] :=by
  apply List.ext_getElem?
  intro i;rcases Nat.lt_trichotomy i m with h | h | h
  ·rw[Jh iU];simp[h]
  ·subst h;rw[Ji iU];simp at hol ⊢;rw[hol];simp[show min i l.length=i by omega]
  ·rw[List.getElem?_eq_none aH,List.getElem?_eq_none iU]
 have hlen:(l.take m).length=m:=by simp;omega
 refine Hl (l:=l.take m) (ol:=ol) hl hm hb hd hu hn Sp c R hR0 E hEr hRE hRc stable (fun i o hi=>?_) hg (fun b a w hB hF hS=>hlast b a w hB hF fun j oj hj hjm=>?_)
 ·have hlt:i<m:=by have:=(Array.getElem?_eq_some_iff.1 hi).1;simp at this;omega
  exact jB i o (by simp at hi ⊢;rw[<-hi];simp[hlt]) aH
 ·have hj':l[j]? =some oj:=by simpa using hj
  have hlt:j<m:=by have:=(List.getElem?_eq_some_iff.1 hj').1;omega
  exact hS j oj (by simp[hlt,hj'])
end
theorem _root_.dG:type_of% @Each.all:=@Each.all
theorem aN {o:Oper} {y:Nat->Option Bool} {X Y:Prop} (hx:X) (h:o.guard=none:=by rfl):if Region.wanted o y then X else Y:=by rw[if_pos (dA h)];exact hx
theorem aW {P:Program} {o:Oper} {a:Act} {w:World} {v:Value} {S:Value->World->Prop} {Q:Exit->Act->World->Prop} (hr:(execOp a.eval o).run P w=.ok (.value v) w) (hs:S v w) (hd:∀h:o.dst=none,v=undef:=by(intro h;cases h)):
  o.wp P a w (fun a' w'=> ∃v,a'=a.put o.dst v/\(o.dst=none->v=undef)/\S v w'/\Below w.heap.size w w') Q:=xZ hd hr hs
theorem mvi {o:Oper} {a:Act} {w:World} {x:Operand} {P:Program} {S:Value->World->Prop} {Q:Exit->Act->World->Prop} (hop:o.op=.move x) (hs:S (a.eval x) w) (hd:o.dst≠none:=by simp):
  o.wp P a w (fun a' w'=> ∃v,a'=a.put o.dst v/\(o.dst=none->v=undef)/\S v w'/\Below w.heap.size w w') Q:=aG x (.inl hop) hd hs
theorem mva {o:Oper} {a:Act} {w:World} {x:Operand} {P:Program} {S:Value->World->Prop} {Q:Exit->Act->World->Prop} (hop:o.op=.assign x) (hs:S (a.eval x) w) (hd:o.dst≠none:=by simp):
  o.wp P a w (fun a' w'=> ∃v,a'=a.put o.dst v/\(o.dst=none->v=undef)/\S v w'/\Below w.heap.size w w') Q:=aG x (.inr hop) hd hs
end Go.bI
