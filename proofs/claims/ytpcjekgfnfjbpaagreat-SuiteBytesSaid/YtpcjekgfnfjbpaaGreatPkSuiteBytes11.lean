/- Part 11 of SuiteBytes; conditions: in each theorem. -/
import Derived.Test.YtpcjekgfnfjbpaaGreatPkSuiteBytes5
import Derived.Test.YtpcjekgfnfjbpaaGreatPkSuiteBytes10
set_option linter.unusedVariables false
set_option linter.unusedSimpArgs false
namespace Go.bC
open Go.RowKit
section
variable {P : Program} {ops : Array Oper} {Q : Exit -> Act -> World -> Prop}
def xL (w:World) (b:Nat) (cs:Array Value):Prop:=∃T,w.heap[b]? =some (.cells cs T (0,0))
theorem aQ.row {k:IntKind} {w:World} {b n:Nat} {f:Nat->Int} (h:aQ k w b n f):xL w b (arr k n f):=h
theorem xL.setRow {w:World} {b:Nat} {cs:Array Value} (h:xL w b cs) (ds:Array Value):xL (w.setRow b ds) b ds:=by
 obtain⟨T,h⟩:=h;exact⟨T,setRow_heap w b _ _ T _ h⟩
def pF (qd:Nat->Bool) (tgt:Nat->Nat) (fin:Nat->Array Value) (ops:Array Oper) (L:Nat->Bool) (w1 w:World):Prop:=
 w.os=w1.os/\w.tape=w1.tape/\w.output=w1.output/\w.heap.size=w1.heap.size/\
 (∀b,(∀i,i<ops.size->qd i=true->L i=true->tgt i≠b)->w.heap[b]? =w1.heap[b]?)/\
 ∀i,i<ops.size->qd i=true->L i=true->xL w (tgt i) (fin i)
def mK (o:Oper):List Nat:=o.after.toList.filterMap fun(e:Edge)=>if Region.binds .any e=true then some e.on else none
theorem nZ {o:Oper} {j:Nat} (h:j ∈ mK o):∃e ∈ o.after,e.on=j/\Region.binds .any e=true:=by
 unfold mK at h;obtain⟨e,he,hx⟩:=List.mem_filterMap.1 h;by_cases hb:Region.binds .any e=true
 ·rw[if_pos hb] at hx;exact⟨e,by simpa using he,iy hx,hb⟩
 ·rw[if_neg hb] at hx;cases hx
def lF (ops:Array Oper):Nat->List Nat->List Nat
 | 0,S=>S
 | k+1,S=>lF ops k (if S.contains k then (match ops[k]? with | some o=>mK o++S | none=>S) else S)
theorem oM {L:Nat->Bool} (hcl:∀(i:Nat) (o:Oper),ops[i]? =some o->L i=true->∀e ∈ o.after,Region.binds .any e=true->L e.on=true):
  ∀k S,(∀j ∈ S,L j=true)->∀j ∈ lF ops k S,L j=true:=by
 intro k
 induction k with
 | zero=>intro S h;exact h
 | succ k ih=>
  intro S h;unfold lF;refine ih _ ?_
  split
  ·rename_i hk
   have hLk:=h k (by simpa using hk)
   split
   ·rename_i o ho
    intro j hj;rcases List.mem_append.1 hj with h1 | h1
    ·obtain⟨e,he,DL,hb⟩:=nZ h1;rw[<-DL];exact hcl k o ho hLk e he hb
    ·exact h j h1
   ·exact h
  ·exact h
def MJ (ops:Array Oper) (qd:Nat->Bool):Bool:=ops.toList.zipIdx.all fun(x:Oper × Nat)=>
 if qd x.2 then x.1.guard.isNone && x.1.dst.isNone && (let R:=lF ops x.2 (mK x.1);(List.range ops.size).all (fun j=>qd j || R.contains j)) else x.1.after.toList.all fun e=> !(Region.binds .any e) || !(qd e.on)
theorem Kh {qd:Nat->Bool} (h:MJ ops qd=true) {i:Nat} {o:Oper} (hi:ops[i]? =some o) (hp:qd i=true):o.guard=none/\o.dst=none/\∀j,j<ops.size->qd j=false->j ∈ lF ops i (mK o):=by
 unfold MJ at h;rw[CQ] at h;have hm:(o,i) ∈ ops.toList.zipIdx:=by rw[List.mem_zipIdx_iff_getElem?];simpa using hi
 have:=h _ hm;simp only[hp,if_true,NK,Option.isNone_iff_eq_none,CQ] at this;refine⟨this.1.1,this.1.2,fun j hj kL=>?_⟩;have h2:=this.2 j (List.mem_range.2 hj);rw[kL,Bool.false_or] at h2
 simpa using h2
theorem pF.arr {qd:Nat->Bool} {tgt:Nat->Nat} {fin:Nat->Array Value} {w1 w:World} (h:pF qd tgt fin ops (fun _=>true) w1 w) {k:IntKind} {b n:Nat} {f:Nat->Int} (hb:∀i,i<ops.size->qd i=true->tgt i≠b) (hA:aQ k w1 b n f):aQ k w b n f:=by
 obtain⟨T,hT⟩:=hA;exact⟨T,by rw[h.2.2.2.2.1 b (fun i hi hp _=>hb i hi hp)];exact hT⟩
theorem pF.below {qd:Nat->Bool} {tgt:Nat->Nat} {fin:Nat->Array Value} {w1 w w0:World} (h:pF qd tgt fin ops (fun _=>true) w1 w) {B:Nat} (hb:∀i,i<ops.size->qd i=true->B<=tgt i) (hB:Below B w0 w1):Below B w0 w:=
 ⟨h.1.trans hB.os,h.2.1.trans hB.tape,h.2.2.1.trans hB.output,by rw[h.2.2.2.1];exact hB.size,fun k hk=>by rw[h.2.2.2.2.1 k (fun i hi hp _ e=>by have:=hb i hi hp;omega)];exact hB.block k hk⟩
theorem pF.size {qd:Nat->Bool} {tgt:Nat->Nat} {fin:Nat->Array Value} {w1 w:World} (h:pF qd tgt fin ops (fun _=>true) w1 w):w.heap.size=w1.heap.size:=h.2.2.2.1
theorem pF.at {qd:Nat->Bool} {tgt:Nat->Nat} {fin:Nat->Array Value} {w1 w:World} (h:pF qd tgt fin ops (fun _=>true) w1 w) (i:Nat) (hi:i<ops.size) (hp:qd i=true):xL w (tgt i) (fin i):=h.2.2.2.2.2 i hi hp rfl
theorem dz {id:Nat} {dr:Bool} {a0:Act} {w0:World} {n:Nat} (qd:Nat->Bool) (hm:P.follows .mixedOrders=true) (hb:mM ops=true) (hd:tH ops n=true) (hl:MJ ops qd=true) (hn:a0.tmps.size=n)
  (Sp:Nat->Value->World->Prop) (E:World->World->Prop) (hE:∀w w',Below w.heap.size w w'->E w w')
  (stable:∀i v w w',Sp i v w->E w w'->Sp i v w')
  (tgt:Nat->Nat) (old fin:Nat->Array Value)
  (hinj:∀i j,i<ops.size->j<ops.size->qd i=true->qd j=true->i≠j->tgt i≠tgt j)
  (hold:∀i,i<ops.size->qd i=true->xL w0 (tgt i) (old i))
  (mD:∀i o,ops[i]? =some o->qd i=false->∀a w,Below w0.heap.size w0 w->Fr ops a0 a->
   (∀j oj,ops[j]? =some oj->qd j=false->(∃e ∈ o.after,e.on=j/\Region.binds .any e=true)->Sp j (got oj a) w)->
   if Region.wanted o (yielded ops a.tmps) then o.wp P a w (fun a' w'=> ∃v,a'=a.put o.dst v/\(o.dst=none->v=undef)/\Sp i v w'/\Below w.heap.size w w') Q else Sp i undef w)
  (hput:∀i o,ops[i]? =some o->qd i=true->∀a w1 w (K:Act->World->Prop),Below w0.heap.size w0 w1->Fr ops a0 a->(∀j oj,ops[j]? =some oj->qd j=false->Sp j (got oj a) w1)->
   xL w (tgt i) (old i)->K a (w.setRow (tgt i) (fin i))->o.wp P a w K Q)
  (hend:∀a w1 w,Below w0.heap.size w0 w1->Fr ops a0 a->(∀j oj,ops[j]? =some oj->qd j=false->Sp j (got oj a) w1)->
   pF qd tgt fin ops (fun _=>true) w1 w->Q .normal a w):
  (Code.region id ops dr).wp P Q a0 w0:=by
 let Inv:=fun(L:Array Bool) (a:Act) (w:World)=>L.size=ops.size/\(∀(i:Nat) (o:Oper),ops[i]? =some o->L.getD i false=true->∀e ∈ o.after,Region.binds .any e=true->L.getD e.on false=true)/\Fr ops a0 a/\∃w1,Below w0.heap.size w0 w1/\(∀j oj,ops[j]? =some oj->qd j=false->L.getD j false=true->Sp j (got oj a) w1)/\
  ((∀i,i<ops.size->qd i=true->L.getD i false=false)->w=w1)/\
  (∀i,i<ops.size->qd i=true->L.getD i false=true->∀j,j<ops.size->qd j=false->L.getD j false=true)/\pF qd tgt fin ops (fun i=>L.getD i false) w1 w
 refine kN hm hb Inv ?_ ?_ ?_
 ·have hno:∀j,(Array.replicate ops.size false).getD j false=false:=fun j=>by
   by_cases hj:j<ops.size<;> simp[hj]
  have key:∀w,Below w0.heap.size w0 w->Inv (Array.replicate ops.size false) a0 w:=fun w hB=>
   ⟨by simp,fun i o _ h=>(by rw[hno] at h;cases h),⟨rfl,rfl,fun _ _=>rfl⟩,w,hB,fun j oj _ _ hL=>(by rw[hno] at hL;cases hL),fun _=>rfl,fun i _ _ hL=>(by rw[hno] at hL;cases hL),rfl,rfl,rfl,rfl,fun _ _=>rfl,fun i _ _ hL=>(by simp only[hno] at hL;cases hL)⟩
  exact⟨key _ (bT _ _).drew,key _ (bT _ _)⟩
 ·rintro L a w i o ho h0 mR ⟨hs,hcl,hF,w1,hB,hSp,hno,hall,hos,htp,hou,fD,hoth,hfil⟩;have hil:=(Array.getElem?_eq_some_iff.1 ho).1;have h0':L.getD i false=false:=by
   have hh:i<L.size:=by omega
   simpa [hh] using h0
  have rJ:(L.setIfInBounds i true).getD i false=true:=by
   have:i<L.size:=by omega
   simp[this]
  have hlt:∀d,o.dst=some d->d<a.tmps.size:=fun d hd'=>by rw[hF.2.1,hn];exact vw hd ho d hd'
  have hcl':∀(j:Nat) (oj:Oper),ops[j]? =some oj->(L.setIfInBounds i true).getD j false=true->∀e ∈ oj.after,Region.binds .any e=true->(L.setIfInBounds i true).getD e.on false=true:=by
   have up:∀j,L.getD j false=true->(L.setIfInBounds i true).getD j false=true:=fun j hj=>by
    by_cases e:i=j
    ·subst e;exact rJ
    ·rw[getD_set_ne false e];exact hj
   intro j oj hj hL e he hb;by_cases jw:i=j
   ·subst jw;rw[ho] at hj;obtain rfl:=iy hj;exact up _ (mR e he hb)
   ·rw[getD_set_ne false jw] at hL;exact up _ (hcl j oj hj hL e he hb)
  rcases dx:qd i with _ | _
  ·-- a flow:no store is done yet
   have hnone:∀k,k<ops.size->qd k=true->L.getD k false=false:=by
    intro k hk hpk;rcases hLk:L.getD k false with _ | _
    ·rfl
    ·have:=hall k hk hpk hLk i hil dx;rw[h0'] at this;cases this
   obtain rfl:=hno hnone;have gF:=mD i o ho dx a w hB hF (fun j oj hj kL ⟨e,he,DL,hbind⟩=>hSp j oj hj kL (by rw[<-DL];exact mR e he hbind));have next:∀v w',Below w.heap.size w w'->(o.dst=none->v=undef)->Sp i v w'->Inv (L.setIfInBounds i true) (a.put o.dst v) w':=by
    intro v w' aA hnd hv;have hnone':∀k,k<ops.size->qd k=true->(L.setIfInBounds i true).getD k false=false:=by
     intro k hk hpk;have hik:i≠k:=fun e=>by rw[e,hpk] at dx;cases dx
     rw[getD_set_ne false hik];exact hnone k hk hpk
    refine⟨by simpa using hs,hcl',hF.put ho v,w',hB.trans (aA.mono hB.size),fun j oj hj kL hL=>?_,fun _=>rfl,fun k hk hpk hL=>(by rw[hnone' k hk hpk] at hL;cases hL),rfl,rfl,rfl,rfl,fun _ _=>rfl,fun k hk hpk hL=>(by simp only[hnone' k hk hpk] at hL;cases hL)⟩;by_cases jw:i=j
    ·subst jw;rw[ho] at hj;obtain rfl:=iy hj;rw[jM v hlt hnd];exact hv
    ·rw[iL v (iI hd ho hj jw)];rw[getD_set_ne false jw] at hL;exact stable j _ w w' (hSp j oj hj kL hL) (hE w w' aA)
   split
   ·rename_i hw
    rw[if_pos hw] at gF;exact Oper.wp_mono (fun a' w' ⟨v,ha,hnd,hv,aA⟩=>by subst ha;exact next v w' aA hnd hv) gF
   ·rename_i hw
    rw[if_neg hw] at gF;exact next undef w (bT _ _) (fun _=>rfl) gF
  ·-- a store:all flows are done
   obtain⟨hg,hdst,hw8⟩:=Kh hl ho dx
   have hfl:∀j,j<ops.size->qd j=false->L.getD j false=true:=fun j hj kL=>
    oM (L:=fun j=>L.getD j false) hcl i (mK o) (fun k hk=>by obtain⟨e,he,DL,hb⟩:=nZ hk;rw[<-DL];exact mR e he hb) j (hw8 j hj kL)
   rw[if_pos (by simp[Region.wanted,hg])];have hrow:xL w (tgt i) (old i):=by
    obtain⟨T,hT⟩:=hold i hil dx;refine⟨T,?_⟩;rw[hoth (tgt i) (fun k hk hpk hLk=>hinj k i hk hil hpk dx (fun e=>by have hLk':L.getD k false=true:=hLk;rw[e,h0'] at hLk';cases hLk'))];rw[hB.block _ (Array.getElem?_eq_some_iff.1 hT).1];exact hT
   refine hput i o ho dx a w1 w _ hB hF (fun j oj hj kL=>hSp j oj hj kL (hfl j (Array.getElem?_eq_some_iff.1 hj).1 kL)) hrow ?_;refine⟨by simpa using hs,hcl',hF,w1,hB,fun j oj hj kL hL=>?_,fun h=>?_,fun k hk hpk hL j hj kL=>?_,by rw[setRow_os];exact hos,by rw[setRow_tape];exact htp,by rw[setRow_output];exact hou,by rw[setRow_size];exact fD,fun b hbn=>?_,fun k hk hpk hL=>?_⟩
   ·have jw:i≠j:=fun e=>by rw[e,kL] at dx;cases dx
    rw[getD_set_ne false jw] at hL;exact hSp j oj hj kL hL
   ·have:=h i hil dx;rw[rJ] at this;cases this
   ·have jw:i≠j:=fun e=>by rw[e,kL] at dx;cases dx
    rw[getD_set_ne false jw];exact hfl j hj kL
   ·have eP:tgt i≠b:=hbn i hil dx rJ;rw[setRow_other _ _ _ _ (fun e=>eP e.symm)];refine hoth b fun k hk hpk hLk=>hbn k hk hpk ?_;have hik:i≠k:=fun e=>by have hLk':L.getD k false=true:=hLk;rw[<-e,h0'] at hLk';cases hLk'
    show (L.setIfInBounds i true).getD k false=true;rw[getD_set_ne false hik];exact hLk
   ·by_cases hik:i=k
    ·subst hik;exact hrow.setRow _
    ·have hL':(L.setIfInBounds i true).getD k false=true:=hL;rw[getD_set_ne false hik] at hL';obtain⟨T,hT⟩:=hfil k hk hpk hL';exact⟨T,by rw[setRow_other _ _ _ _ (hinj k i hk hil hpk dx (fun e=>hik e.symm))];exact hT⟩
 ·rintro L a w hdone ⟨hs,hcl,hF,w1,hB,hSp,hno,hall,hos,htp,hou,fD,hoth,hfil⟩;exact hend a w1 w hB hF (fun j oj hj kL=>hSp j oj hj kL (hdone j (Array.getElem?_eq_some_iff.1 hj).1)) ⟨hos,htp,hou,fD,fun b hb=>hoth b fun i hi dx _=>hb i hi dx rfl,fun i hi dx _=>hfil i hi dx (hdone i hi)⟩
end
section
variable {P : Program} {ops : Array Oper} {Q : Exit -> Act -> World -> Prop}
def tl (P:Program) (ops:Array Oper) (Q:Exit->Act->World->Prop):List Oper->Act->World->Prop
 | [],a,w=>Q .normal a w
 | o::rest,a,w=>if Region.wanted o (yielded ops a.tmps) then o.wp P a w (tl P ops Q rest) Q else tl P ops Q rest (a.put o.dst undef) w
theorem vO {o:Oper} {rest:List Oper} {a:Act} {w:World} (hg:o.guard=none) (h:o.wp P a w (tl P ops Q rest) Q):tl P ops Q (o::rest) a w:=by
 unfold tl;rw[if_pos (by simp[Region.wanted,hg])];exact h
theorem Ak {a:Act} {w:World} (h:Q .normal a w):tl P ops Q [] a w:=h
theorem vP {o:Oper} {rest:List Oper} {a:Act} {w:World} (hg:o.guard=none) (x:Operand) (hop:o.op=.move x\/o.op=.assign x) (h:tl P ops Q rest (a.put o.dst (a.eval x)) w):tl P ops Q (o::rest) a w:=by
 refine vO hg ?_;have hr:(execOp a.eval o).run P w=.ok (.value (a.eval x)) w:=by unfold execOp;rcases hop with h | h<;> rw[h] <;> rfl
 unfold Oper.wp;rw[hr];exact h
def Oa (ops:Array Oper) (n0:Nat):Bool:=(List.range ops.size).all fun i=>decide (i<n0) || (match ops[i]? with | none=>true | some o=>(let R:=lF ops i (mK o);(List.range i).all fun j=>R.contains j))
theorem Eh {n0:Nat} (h:Oa ops n0=true) {i:Nat} (hi:n0<=i) {o:Oper} (ho:ops[i]? =some o):∀j,j<i->j ∈ lF ops i (mK o):=by
 intro j hj;unfold Oa at h;rw[CQ] at h;have:=h i (List.mem_range.2 (Array.getElem?_eq_some_iff.1 ho).1);rw[ho] at this;simp only[mP,decide_eq_true_eq,CQ] at this;rcases this with h1 | h1
 ·omega
 ·simpa using h1 j (List.mem_range.2 hj)
theorem PD {a0:Act} {w0:World} {n:Nat} (n0:Nat) (hn0:n0<ops.size) (hb:mM ops=true) (hd:tH ops n=true) (ht:Oa ops n0=true) (hn:a0.tmps.size=n)
  (Sp:Nat->Value->World->Prop) (stable:∀i v w w',Sp i v w->Below w.heap.size w w'->Sp i v w')
  (mD:∀i o,ops[i]? =some o->i<n0->∀a w,Below w0.heap.size w0 w->Fr (ops.toList.take n0).toArray a0 a->
   (∀j oj,ops[j]? =some oj->(∃e ∈ o.after,e.on=j/\Region.binds .any e=true)->Sp j (got oj a) w)->
   if Region.wanted o (yielded ops a.tmps) then o.wp P a w (fun a' w'=> ∃v,a'=a.put o.dst v/\(o.dst=none->v=undef)/\Sp i v w'/\Below w.heap.size w w') Q else Sp i undef w)
  (hend:∀a w,Below w0.heap.size w0 w->Fr (ops.toList.take n0).toArray a0 a->(∀j oj,ops[j]? =some oj->j<n0->Sp j (got oj a) w)->tl P ops Q (ops.toList.drop n0) a w):
  ∃Inv:Array Bool->Act->World->Prop,(Inv (Array.replicate ops.size false) a0 w0.drew/\Inv (Array.replicate ops.size false) a0 w0)/\
   (∀(L:Array Bool) (a:Act) (w:World) (i:Nat) (o:Oper),ops[i]? =some o->L.getD i true=false->(∀e ∈ o.after,Region.binds .any e=true->L.getD e.on false=true)->Inv L a w->
    if Region.wanted o (yielded ops a.tmps) then o.wp P a w (fun a' w'=>Inv (L.setIfInBounds i true) a' w') Q else Inv (L.setIfInBounds i true) (a.put o.dst undef) w)/\
   (∀(L:Array Bool) (a:Act) (w:World),(∀i,i<ops.size->L.getD i false=true)->Inv L a w->Q .normal a w):=by
 let Inv:=fun(L:Array Bool) (a:Act) (w:World)=>L.size=ops.size/\(∀(i:Nat) (o:Oper),ops[i]? =some o->L.getD i false=true->∀e ∈ o.after,Region.binds .any e=true->L.getD e.on false=true)/\
  if L.getD n0 false=true then ∃m,n0<m/\m<=ops.size/\(∀j,j<ops.size->(L.getD j false=true ↔ j<m))/\tl P ops Q (ops.toList.drop m) a w
  else Below w0.heap.size w0 w/\Fr (ops.toList.take n0).toArray a0 a/\∀j oj,ops[j]? =some oj->L.getD j false=true->Sp j (got oj a) w
 refine⟨Inv,?_,?_,?_⟩
 ·have hno:∀j,(Array.replicate ops.size false).getD j false=false:=fun j=>by
   by_cases hj:j<ops.size<;> simp[hj]
  have key:∀w,Below w0.heap.size w0 w->Inv (Array.replicate ops.size false) a0 w:=fun w hB=>
   ⟨by simp,fun i o _ h=>(by rw[hno] at h;cases h),by rw[if_neg (by rw[hno];simp)];exact⟨hB,⟨rfl,rfl,fun _ _=>rfl⟩,fun j oj _ hL=>by rw[hno] at hL;cases hL⟩⟩
  exact⟨key _ (bT _ _).drew,key _ (bT _ _)⟩
 ·rintro L a w i o ho h0 mR ⟨hs,hcl,hI⟩;have hil:=(Array.getElem?_eq_some_iff.1 ho).1;have h0':L.getD i false=false:=by
   have hh:i<L.size:=by omega
   simpa [hh] using h0
  have rJ:(L.setIfInBounds i true).getD i false=true:=by
   have:i<L.size:=by omega
   simp[this]
  have up:∀j,L.getD j false=true->(L.setIfInBounds i true).getD j false=true:=fun j hj=>by
   by_cases e:i=j
   ·subst e;exact rJ
   ·rw[getD_set_ne false e];exact hj
  have hcl':∀(j:Nat) (oj:Oper),ops[j]? =some oj->(L.setIfInBounds i true).getD j false=true->∀e ∈ oj.after,Region.binds .any e=true->(L.setIfInBounds i true).getD e.on false=true:=by
   intro j oj hj hL e he hb;by_cases jw:i=j
   ·subst jw;rw[ho] at hj;obtain rfl:=iy hj;exact up _ (mR e he hb)
   ·rw[getD_set_ne false jw] at hL;exact up _ (hcl j oj hj hL e he hb)
  by_cases hlt:i<n0
  ·have hnl:¬ L.getD n0 false=true:=by
    intro h;rw[if_pos h] at hI;obtain⟨m,h1,_,h2,_⟩:=hI;have:=(h2 i hil).2 aH;rw[h0'] at this;cases this
   rw[if_neg hnl] at hI;obtain⟨hB,hF,hSp⟩:=hI;have gF:=mD i o ho hlt a w hB hF (fun j oj hj ⟨e,he,DL,hbind⟩=>hSp j oj hj (by rw[<-DL];exact mR e he hbind));have Vf:∀d,o.dst=some d->d<a.tmps.size:=fun d hd'=>by rw[hF.2.1,hn];exact vw hd ho d hd'
   have next:∀v w',Below w.heap.size w w'->(o.dst=none->v=undef)->Sp i v w'->Inv (L.setIfInBounds i true) (a.put o.dst v) w':=by
    intro v w' aA hnone hv;refine⟨by simpa using hs,hcl',?_⟩;rw[if_neg (by rw[getD_set_ne false aH];exact hnl)];refine⟨hB.trans (aA.mono hB.size),hF.put (show (ops.toList.take n0).toArray[i]? =some o by rw[<-ho];simp[hlt]) v,fun j oj hj hL=>?_⟩;by_cases jw:i=j
    ·subst jw;rw[ho] at hj;obtain rfl:=iy hj;rw[jM v Vf hnone];exact hv
    ·rw[iL v (iI hd ho hj jw)];rw[getD_set_ne false jw] at hL;exact stable j _ w w' (hSp j oj hj hL) aA
   split
   ·rename_i hw
    rw[if_pos hw] at gF;exact Oper.wp_mono (fun a' w' ⟨v,ha,hnone,hv,aA⟩=>by subst ha;exact next v w' aA hnone hv) gF
   ·rename_i hw
    rw[if_neg hw] at gF;exact next undef w (bT _ _) (fun _=>rfl) gF
  ·have uZ:=oM (L:=fun j=>L.getD j false) hcl i (mK o) (fun k hk=>by obtain⟨e,he,DL,hb⟩:=nZ hk;rw[<-DL];exact mR e he hb);have Kt:∀j,j<i->L.getD j false=true:=fun j hj=>uZ j (Eh ht aH ho j hj);have htl:tl P ops Q (ops.toList.drop i) a w/\∀j,j<ops.size->(L.getD j false=true ↔ j<i):=by
    by_cases hin:i=n0
    ·subst hin;rw[if_neg (by rw[h0'];simp)] at hI;obtain⟨hB,hF,hSp⟩:=hI;refine⟨hend a w hB hF fun j oj hj hlt=>hSp j oj hj (Kt j hlt),fun j hj=>⟨fun hL=>?_,Kt j⟩⟩;rcases Nat.lt_trichotomy j i with h | h | h
     ·exact h
     ·subst h;rw[h0'] at hL;cases hL
     ·exfalso
      have hj':ops[j]? =some ops[j] :=by simp[hj]
      have:=oM (L:=fun j=>L.getD j false) hcl j (mK ops[j]) (fun k hk=>by obtain⟨e,he,DL,hb⟩:=nZ hk;rw[<-DL];exact hcl j _ hj' hL e he hb) i (Eh ht aH hj' i h);rw[h0'] at this;cases this
    ·rw[if_pos (Kt n0 aH)] at hI;obtain⟨m,h1,h2,h3,h4⟩:=hI;have Ab:m=i:=by
      rcases Nat.lt_trichotomy m i with h | h | h
      ·have:=(h3 m aH).1 (Kt m h);omega
      ·exact h
      ·have:=(h3 i hil).2 h;rw[h0'] at this;cases this
     subst Ab;exact⟨h4,h3⟩
   obtain⟨htl,hall⟩:=htl;have hdrop:ops.toList.drop i=o::ops.toList.drop (i+1):=by
    rw[List.drop_eq_getElem_cons (by simpa using hil)];have:=(Array.getElem?_eq_some_iff.1 ho).2;simp[this]
   rw[hdrop] at htl;have next:∀a' w',tl P ops Q (ops.toList.drop (i+1)) a' w'->Inv (L.setIfInBounds i true) a' w':=by
    intro a' w' h;refine⟨by simpa using hs,hcl',?_⟩;have ajM:(L.setIfInBounds i true).getD n0 false=true:=by
     by_cases e:i=n0
     ·rw[<-e];exact rJ
     ·exact up _ (Kt n0 aH)
    rw[if_pos ajM];refine⟨i+1,by omega,hil,fun j hj=>?_,h⟩;by_cases e:i=j
    ·subst e;exact⟨fun _=>Nat.lt_succ_self _,fun _=>rJ⟩
    ·rw[getD_set_ne false e,hall j hj];omega
   unfold tl at htl
   split
   ·rename_i hw
    rw[if_pos hw] at htl;exact Oper.wp_mono (fun a' w' h=>next a' w' h) htl
   ·rename_i hw
    rw[if_neg hw] at htl;exact next _ _ htl
 ·rintro L a w hdone ⟨hs,hcl,hI⟩;rw[if_pos (hdone n0 hn0)] at hI;obtain⟨m,h1,h2,h3,h4⟩:=hI;have hm':m=ops.size:=by
   rcases Nat.lt_or_ge m ops.size with h | h
   ·have:=(h3 m h).1 (hdone m h);omega
   ·omega
  subst hm';rw[List.drop_eq_nil_of_le aR] at h4;exact h4
theorem lZ {id:Nat} {dr:Bool} {a0:Act} {w0:World} {n:Nat} (n0:Nat) (hn0:n0<ops.size) (hm:P.follows .mixedOrders=true) (hb:mM ops=true) (hd:tH ops n=true) (ht:Oa ops n0=true) (hn:a0.tmps.size=n)
  (Sp:Nat->Value->World->Prop) (stable:∀i v w w',Sp i v w->Below w.heap.size w w'->Sp i v w')
  (mD:∀i o,ops[i]? =some o->i<n0->∀a w,Below w0.heap.size w0 w->Fr (ops.toList.take n0).toArray a0 a->
   (∀j oj,ops[j]? =some oj->(∃e ∈ o.after,e.on=j/\Region.binds .any e=true)->Sp j (got oj a) w)->
   if Region.wanted o (yielded ops a.tmps) then o.wp P a w (fun a' w'=> ∃v,a'=a.put o.dst v/\(o.dst=none->v=undef)/\Sp i v w'/\Below w.heap.size w w') Q else Sp i undef w)
  (hend:∀a w,Below w0.heap.size w0 w->Fr (ops.toList.take n0).toArray a0 a->(∀j oj,ops[j]? =some oj->j<n0->Sp j (got oj a) w)->tl P ops Q (ops.toList.drop n0) a w):
  (Code.region id ops dr).wp P Q a0 w0:=by
 obtain⟨Inv,h1,h2,h3⟩:=PD (Q:=Q) n0 hn0 hb hd ht hn Sp stable mD hend;exact kN hm hb Inv h1 h2 h3
end
section
variable {P : Program} {ops : Array Oper} {Q : Exit -> Act -> World -> Prop}
theorem uI {o:Oper} {a:Act} {w:World} {K:Act->World->Prop} {R:Exit->Act->World->Prop} (T:TypeId) (x y:Operand) (ho:o.op=.store T x y) (hd:o.dst=none) {k:IntKind} (b i n:Nat) (f:Nat->Int) (v:Int)
  (hi:(P.info? T).map (·.size)=some 1) (hx:a.eval x=.pointer (some ⟨b,i,none⟩)) (hy:a.eval y=.int k v) (h:aQ k w b n f) (hin:i<n) (hK:K a (w.setCell ⟨b,i,none⟩ (.int k v))):o.wp P a w K R:=by
 have hr:=run_storeCells_cells (P:=P) b i [.int k v] 0 w
  (by
   intro j hj;have hj0:j=0:=by simp at hj;omega
   subst hj0;show (w.cell? ⟨b,i,none⟩).isSome=true;rw[h.cell i hin];rfl)
  (by
   intro j hj;exact h.free _)
  (by
   intro u hu;simp at hu;subst hu;rfl)
 obtain⟨q,hq,hs⟩:=Option.map_eq_some_iff.1 hi;unfold Oper.wp execOp;simp only[Nat.add_zero] at hr;have hs2:(storeVar T ⟨b,i,none⟩ (.int k v)).run P w=.ok () (w.setCell ⟨b,i,none⟩ (.int k v)):=by
  simp[storeVar,sizeOf,typeInfo,hq,hs,Value.cells,hr,World.setCells]
 simp only[ho,hx,hy,Instr.storeAt,Instr.sureAddr,uD,xI,vG,hs2];show K (a.put o.dst undef) _;rw[hd];exact hK
end
section
variable {P : Program} {ops : Array Oper} {Q : Exit -> Act -> World -> Prop}
theorem Jw {o:Oper} {a:Act} {w:World} {T e:TypeId} {x:Operand} {b i:Nat} {v:Value} (ho:o.op=.load T x) (hx:a.eval x=.pointer (some ⟨b,i,none⟩)) (hu:P.underlying T=some (.pointer e)) (hc:w.cell? ⟨b,i,none⟩=some v):(execOp a.eval o).run P w=.ok (.value v) w:=by
 unfold execOp;simp only[ho,hx];simp[Instr.loadAt,Instr.sureAddr,loadVar,isAgg,run_underlying hu,go_sem,hc]
end
end Go.bC
