/- Part 8 of EscrowComes; conditions: in each theorem. -/
import Derived.Test.YtpcjekgfnfjbpaaGreatPkEC5
import Derived.Maps.AppendAt
import Derived.Maps.Range
set_option linter.unusedVariables false
set_option linter.unusedSimpArgs false
namespace Go.bI
open Go.RowKit
theorem Gr.refl (w:World) (b:Nat):w.grownBy w (some b):=⟨rfl,rfl,rfl,bH _,fun _ _ _=>rfl⟩
theorem Gr.drew {w w':World} {r:Option Nat} (h:w.grownBy w' r):w.grownBy w'.drew r:=⟨h.os,h.tape,h.output,h.size,h.block⟩
theorem Gr.set {w w':World} {b:Nat} (h:w.grownBy w' (some b)) (i:Nat) (v:Value):w.grownBy (w'.setCell ⟨b,i,none⟩ v) (some b):=
 ⟨h.os,h.tape,h.output,by rw[size_setCell];exact h.size,fun j hj gW=>by rw[Below.heap_setCell _ _ _ _ (fun e=>gW (by rw[e]))];exact h.block j hj gW⟩
theorem Gr.below {w w':World} {b:Nat} (h:w.grownBy w' (some b)) {B:Nat} (hB:B<=b) (hw:B<=w.heap.size):Below B w w':=
 (bT B w).grown h hw fun k e=>by cases e;exact hB
section
variable {P : Program} {ops : Array Oper} {Q : Exit -> Act -> World -> Prop}
def yH (w:World) (b:Nat) (cs:Array Value):Prop:=∃T,w.heap[b]? =some (.cells cs T (0,0))
theorem aK.row {k:IntKind} {w:World} {b n:Nat} {f:Nat->Int} (h:aK k w b n f):yH w b (arr k n f):=h
theorem yH.setRow {w:World} {b:Nat} {cs:Array Value} (h:yH w b cs) (ds:Array Value):yH (w.setRow b ds) b ds:=by
 obtain⟨T,h⟩:=h;exact⟨T,setRow_heap w b _ _ T _ h⟩
def qy (qQ:Nat->Bool) (tgt:Nat->Nat) (fin:Nat->Array Value) (ops:Array Oper) (L:Nat->Bool) (w1 w:World):Prop:=
 w.os=w1.os/\w.tape=w1.tape/\w.output=w1.output/\w.heap.size=w1.heap.size/\
 (∀b,(∀i,i<ops.size->qQ i=true->L i=true->tgt i≠b)->w.heap[b]? =w1.heap[b]?)/\
 ∀i,i<ops.size->qQ i=true->L i=true->yH w (tgt i) (fin i)
def iK (o:Oper):List Nat:=o.after.toList.filterMap fun(e:Edge)=>if Region.binds .any e=true then some e.on else none
theorem gB {o:Oper} {j:Nat} (h:j ∈ iK o):∃e ∈ o.after,e.on=j/\Region.binds .any e=true:=by
 unfold iK at h;obtain⟨e,he,hx⟩:=List.mem_filterMap.1 h;by_cases hb:Region.binds .any e=true
 ·rw[if_pos hb] at hx;exact⟨e,by simpa using he,gJ hx,hb⟩
 ·rw[if_neg hb] at hx;cases hx
def jO (ops:Array Oper):Nat->List Nat->List Nat
 | 0,S=>S
 | k+1,S=>jO ops k (if S.contains k then (match ops[k]? with | some o=>iK o++S | none=>S) else S)
theorem fQ {L:Nat->Bool} (hcl:∀(i:Nat) (o:Oper),ops[i]? =some o->L i=true->∀e ∈ o.after,Region.binds .any e=true->L e.on=true):
  ∀k S,(∀j ∈ S,L j=true)->∀j ∈ jO ops k S,L j=true:=by
 intro k
 induction k with
 | zero=>intro S h;exact h
 | succ k ih=>
  intro S h;unfold jO;refine ih _ ?_
  split
  ·rename_i hk
   have hLk:=h k (by simpa using hk)
   split
   ·rename_i o ho
    intro j hj;rcases List.mem_append.1 hj with h1 | h1
    ·obtain⟨e,he,oN,hb⟩:=gB h1;rw[<-oN];exact hcl k o ho hLk e he hb
    ·exact h j h1
   ·exact h
  ·exact h
def OQ (ops:Array Oper) (qQ:Nat->Bool):Bool:=ops.toList.zipIdx.all fun(x:Oper × Nat)=>
 if qQ x.2 then x.1.guard.isNone && x.1.dst.isNone && (let R:=jO ops x.2 (iK x.1);(List.range ops.size).all (fun j=>qQ j || R.contains j)) else x.1.after.toList.all fun e=> !(Region.binds .any e) || !(qQ e.on)
theorem Lv {qQ:Nat->Bool} (h:OQ ops qQ=true) {i:Nat} {o:Oper} (hi:ops[i]? =some o) (hp:qQ i=true):o.guard=none/\o.dst=none/\∀j,j<ops.size->qQ j=false->j ∈ jO ops i (iK o):=by
 unfold OQ at h;rw[wM] at h;have hm:(o,i) ∈ ops.toList.zipIdx:=by rw[List.mem_zipIdx_iff_getElem?];simpa using hi
 have:=h _ hm;simp only[hp,if_true,Jg,Option.isNone_iff_eq_none,wM] at this;refine⟨this.1.1,this.1.2,fun j hj jJ=>?_⟩;have h2:=this.2 j (List.mem_range.2 hj);rw[jJ,Bool.false_or] at h2
 simpa using h2
theorem qy.arr {qQ:Nat->Bool} {tgt:Nat->Nat} {fin:Nat->Array Value} {w1 w:World} (h:qy qQ tgt fin ops (fun _=>true) w1 w) {k:IntKind} {b n:Nat} {f:Nat->Int} (hb:∀i,i<ops.size->qQ i=true->tgt i≠b) (hA:aK k w1 b n f):aK k w b n f:=by
 obtain⟨T,hT⟩:=hA;exact⟨T,by rw[h.2.2.2.2.1 b (fun i hi hp _=>hb i hi hp)];exact hT⟩
theorem qy.below {qQ:Nat->Bool} {tgt:Nat->Nat} {fin:Nat->Array Value} {w1 w w0:World} (h:qy qQ tgt fin ops (fun _=>true) w1 w) {B:Nat} (hb:∀i,i<ops.size->qQ i=true->B<=tgt i) (hB:Below B w0 w1):Below B w0 w:=
 ⟨h.1.trans hB.os,h.2.1.trans hB.tape,h.2.2.1.trans hB.output,by rw[h.2.2.2.1];exact hB.size,fun k hk=>by rw[h.2.2.2.2.1 k (fun i hi hp _ e=>by have:=hb i hi hp;omega)];exact hB.block k hk⟩
theorem qy.size {qQ:Nat->Bool} {tgt:Nat->Nat} {fin:Nat->Array Value} {w1 w:World} (h:qy qQ tgt fin ops (fun _=>true) w1 w):w.heap.size=w1.heap.size:=h.2.2.2.1
theorem qy.at {qQ:Nat->Bool} {tgt:Nat->Nat} {fin:Nat->Array Value} {w1 w:World} (h:qy qQ tgt fin ops (fun _=>true) w1 w) (i:Nat) (hi:i<ops.size) (hp:qQ i=true):yH w (tgt i) (fin i):=h.2.2.2.2.2 i hi hp rfl
theorem dJ {id:Nat} {dr:Bool} {a0:Act} {w0:World} {n:Nat} (qQ:Nat->Bool) (hm:P.follows .mixedOrders=true) (hb:jV ops=true) (hd:qw ops n=true) (hl:OQ ops qQ=true) (hn:a0.tmps.size=n)
  (Sp:Nat->Value->World->Prop) (E:World->World->Prop) (hE:∀w w',Below w.heap.size w w'->E w w')
  (stable:∀i v w w',Sp i v w->E w w'->Sp i v w')
  (tgt:Nat->Nat) (old fin:Nat->Array Value)
  (hinj:∀i j,i<ops.size->j<ops.size->qQ i=true->qQ j=true->i≠j->tgt i≠tgt j)
  (hold:∀i,i<ops.size->qQ i=true->yH w0 (tgt i) (old i))
  (jB:∀i o,ops[i]? =some o->qQ i=false->∀a w,Below w0.heap.size w0 w->Fr ops a0 a->
   (∀j oj,ops[j]? =some oj->qQ j=false->(∃e ∈ o.after,e.on=j/\Region.binds .any e=true)->Sp j (got oj a) w)->
   if Region.wanted o (yielded ops a.tmps) then o.wp P a w (fun a' w'=> ∃v,a'=a.put o.dst v/\(o.dst=none->v=undef)/\Sp i v w'/\Below w.heap.size w w') Q else Sp i undef w)
  (hput:∀i o,ops[i]? =some o->qQ i=true->∀a w1 w (K:Act->World->Prop),Below w0.heap.size w0 w1->Fr ops a0 a->(∀j oj,ops[j]? =some oj->qQ j=false->Sp j (got oj a) w1)->
   yH w (tgt i) (old i)->K a (w.setRow (tgt i) (fin i))->o.wp P a w K Q)
  (hend:∀a w1 w,Below w0.heap.size w0 w1->Fr ops a0 a->(∀j oj,ops[j]? =some oj->qQ j=false->Sp j (got oj a) w1)->
   qy qQ tgt fin ops (fun _=>true) w1 w->Q .normal a w):
  (Code.region id ops dr).wp P Q a0 w0:=by
 let Inv:=fun(L:Array Bool) (a:Act) (w:World)=>L.size=ops.size/\(∀(i:Nat) (o:Oper),ops[i]? =some o->L.getD i false=true->∀e ∈ o.after,Region.binds .any e=true->L.getD e.on false=true)/\Fr ops a0 a/\∃w1,Below w0.heap.size w0 w1/\(∀j oj,ops[j]? =some oj->qQ j=false->L.getD j false=true->Sp j (got oj a) w1)/\
  ((∀i,i<ops.size->qQ i=true->L.getD i false=false)->w=w1)/\
  (∀i,i<ops.size->qQ i=true->L.getD i false=true->∀j,j<ops.size->qQ j=false->L.getD j false=true)/\qy qQ tgt fin ops (fun i=>L.getD i false) w1 w
 refine iF hm hb Inv ?_ ?_ ?_
 ·have hno:∀j,(Array.replicate ops.size false).getD j false=false:=fun j=>by
   by_cases hj:j<ops.size<;> simp[hj]
  have key:∀w,Below w0.heap.size w0 w->Inv (Array.replicate ops.size false) a0 w:=fun w hB=>
   ⟨by simp,fun i o _ h=>(by rw[hno] at h;cases h),⟨rfl,rfl,fun _ _=>rfl⟩,w,hB,fun j oj _ _ hL=>(by rw[hno] at hL;cases hL),fun _=>rfl,fun i _ _ hL=>(by rw[hno] at hL;cases hL),rfl,rfl,rfl,rfl,fun _ _=>rfl,fun i _ _ hL=>(by simp only[hno] at hL;cases hL)⟩
  exact⟨key _ (bT _ _).drew,key _ (bT _ _)⟩
 ·rintro L a w i o ho h0 jo ⟨hs,hcl,hF,w1,hB,hSp,hno,hall,hos,htp,hou,gP,hoth,hfil⟩;have hil:=(Array.getElem?_eq_some_iff.1 ho).1;have h0':L.getD i false=false:=by
   have hh:i<L.size:=by omega
   simpa [hh] using h0
  have jQ:(L.setIfInBounds i true).getD i false=true:=by
   have:i<L.size:=by omega
   simp[this]
  have hlt:∀d,o.dst=some d->d<a.tmps.size:=fun d hd'=>by rw[hF.2.1,hn];exact qp hd ho d hd'
  have hcl':∀(j:Nat) (oj:Oper),ops[j]? =some oj->(L.setIfInBounds i true).getD j false=true->∀e ∈ oj.after,Region.binds .any e=true->(L.setIfInBounds i true).getD e.on false=true:=by
   have up:∀j,L.getD j false=true->(L.setIfInBounds i true).getD j false=true:=fun j hj=>by
    by_cases e:i=j
    ·subst e;exact jQ
    ·rw[getD_set_ne false e];exact hj
   intro j oj hj hL e he hb;by_cases gI:i=j
   ·subst gI;rw[ho] at hj;obtain rfl:=gJ hj;exact up _ (jo e he hb)
   ·rw[getD_set_ne false gI] at hL;exact up _ (hcl j oj hj hL e he hb)
  rcases dD:qQ i with _ | _
  ·-- a flow:no store is done yet
   have hnone:∀k,k<ops.size->qQ k=true->L.getD k false=false:=by
    intro k hk hpk;rcases hLk:L.getD k false with _ | _
    ·rfl
    ·have:=hall k hk hpk hLk i hil dD;rw[h0'] at this;cases this
   obtain rfl:=hno hnone;have iN:=jB i o ho dD a w hB hF (fun j oj hj jJ ⟨e,he,oN,hbind⟩=>hSp j oj hj jJ (by rw[<-oN];exact jo e he hbind));have next:∀v w',Below w.heap.size w w'->(o.dst=none->v=undef)->Sp i v w'->Inv (L.setIfInBounds i true) (a.put o.dst v) w':=by
    intro v w' aD hnd hv;have hnone':∀k,k<ops.size->qQ k=true->(L.setIfInBounds i true).getD k false=false:=by
     intro k hk hpk;have hik:i≠k:=fun e=>by rw[e,hpk] at dD;cases dD
     rw[getD_set_ne false hik];exact hnone k hk hpk
    refine⟨by simpa using hs,hcl',hF.put ho v,w',hB.trans (aD.mono hB.size),fun j oj hj jJ hL=>?_,fun _=>rfl,fun k hk hpk hL=>(by rw[hnone' k hk hpk] at hL;cases hL),rfl,rfl,rfl,rfl,fun _ _=>rfl,fun k hk hpk hL=>(by simp only[hnone' k hk hpk] at hL;cases hL)⟩;by_cases gI:i=j
    ·subst gI;rw[ho] at hj;obtain rfl:=gJ hj;rw[gu v hlt hnd];exact hv
    ·rw[eZ v (gy hd ho hj gI)];rw[getD_set_ne false gI] at hL;exact stable j _ w w' (hSp j oj hj jJ hL) (hE w w' aD)
   split
   ·rename_i hw
    rw[if_pos hw] at iN;exact Oper.wp_mono (fun a' w' ⟨v,ha,hnd,hv,aD⟩=>by subst ha;exact next v w' aD hnd hv) iN
   ·rename_i hw
    rw[if_neg hw] at iN;exact next undef w (bT _ _) (fun _=>rfl) iN
  ·-- a store:all flows are done
   obtain⟨hg,hdst,hw8⟩:=Lv hl ho dD
   have hfl:∀j,j<ops.size->qQ j=false->L.getD j false=true:=fun j hj jJ=>
    fQ (L:=fun j=>L.getD j false) hcl i (iK o) (fun k hk=>by obtain⟨e,he,oN,hb⟩:=gB hk;rw[<-oN];exact jo e he hb) j (hw8 j hj jJ)
   rw[if_pos (by simp[Region.wanted,hg])];have hrow:yH w (tgt i) (old i):=by
    obtain⟨T,hT⟩:=hold i hil dD;refine⟨T,?_⟩;rw[hoth (tgt i) (fun k hk hpk hLk=>hinj k i hk hil hpk dD (fun e=>by have hLk':L.getD k false=true:=hLk;rw[e,h0'] at hLk';cases hLk'))];rw[hB.block _ (Array.getElem?_eq_some_iff.1 hT).1];exact hT
   refine hput i o ho dD a w1 w _ hB hF (fun j oj hj jJ=>hSp j oj hj jJ (hfl j (Array.getElem?_eq_some_iff.1 hj).1 jJ)) hrow ?_;refine⟨by simpa using hs,hcl',hF,w1,hB,fun j oj hj jJ hL=>?_,fun h=>?_,fun k hk hpk hL j hj jJ=>?_,by rw[setRow_os];exact hos,by rw[setRow_tape];exact htp,by rw[setRow_output];exact hou,by rw[setRow_size];exact gP,fun b hbn=>?_,fun k hk hpk hL=>?_⟩
   ·have gI:i≠j:=fun e=>by rw[e,jJ] at dD;cases dD
    rw[getD_set_ne false gI] at hL;exact hSp j oj hj jJ hL
   ·have:=h i hil dD;rw[jQ] at this;cases this
   ·have gI:i≠j:=fun e=>by rw[e,jJ] at dD;cases dD
    rw[getD_set_ne false gI];exact hfl j hj jJ
   ·have gX:tgt i≠b:=hbn i hil dD jQ;rw[setRow_other _ _ _ _ (fun e=>gX e.symm)];refine hoth b fun k hk hpk hLk=>hbn k hk hpk ?_;have hik:i≠k:=fun e=>by have hLk':L.getD k false=true:=hLk;rw[<-e,h0'] at hLk';cases hLk'
    show (L.setIfInBounds i true).getD k false=true;rw[getD_set_ne false hik];exact hLk
   ·by_cases hik:i=k
    ·subst hik;exact hrow.setRow _
    ·have hL':(L.setIfInBounds i true).getD k false=true:=hL;rw[getD_set_ne false hik] at hL';obtain⟨T,hT⟩:=hfil k hk hpk hL';exact⟨T,by rw[setRow_other _ _ _ _ (hinj k i hk hil hpk dD (fun e=>hik e.symm))];exact hT⟩
 ·rintro L a w hdone ⟨hs,hcl,hF,w1,hB,hSp,hno,hall,hos,htp,hou,gP,hoth,hfil⟩;exact hend a w1 w hB hF (fun j oj hj jJ=>hSp j oj hj jJ (hdone j (Array.getElem?_eq_some_iff.1 hj).1)) ⟨hos,htp,hou,gP,fun b hb=>hoth b fun i hi dD _=>hb i hi dD rfl,fun i hi dD _=>hfil i hi dD (hdone i hi)⟩
end
section
variable {P : Program} {ops : Array Oper} {Q : Exit -> Act -> World -> Prop}
def tl (P:Program) (ops:Array Oper) (Q:Exit->Act->World->Prop):List Oper->Act->World->Prop
 | [],a,w=>Q .normal a w
 | o::rest,a,w=>if Region.wanted o (yielded ops a.tmps) then o.wp P a w (tl P ops Q rest) Q else tl P ops Q rest (a.put o.dst undef) w
theorem rz {o:Oper} {rest:List Oper} {a:Act} {w:World} (hg:o.guard=none) (h:o.wp P a w (tl P ops Q rest) Q):tl P ops Q (o::rest) a w:=by
 unfold tl;rw[if_pos (by simp[Region.wanted,hg])];exact h
theorem BP {a:Act} {w:World} (h:Q .normal a w):tl P ops Q [] a w:=h
theorem AZ {o:Oper} {rest:List Oper} {a:Act} {w:World} (hg:o.guard=none) (x:Operand) (hop:o.op=.move x\/o.op=.assign x) (h:tl P ops Q rest (a.put o.dst (a.eval x)) w):tl P ops Q (o::rest) a w:=by
 refine rz hg ?_;have hr:(execOp a.eval o).run P w=.ok (.value (a.eval x)) w:=by unfold execOp;rcases hop with h | h<;> rw[h] <;> rfl
 unfold Oper.wp;rw[hr];exact h
def JR (ops:Array Oper) (n0:Nat):Bool:=(List.range ops.size).all fun i=>decide (i<n0) || (match ops[i]? with | none=>true | some o=>(let R:=jO ops i (iK o);(List.range i).all fun j=>R.contains j))
theorem Fg {n0:Nat} (h:JR ops n0=true) {i:Nat} (hi:n0<=i) {o:Oper} (ho:ops[i]? =some o):∀j,j<i->j ∈ jO ops i (iK o):=by
 intro j hj;unfold JR at h;rw[wM] at h;have:=h i (List.mem_range.2 (Array.getElem?_eq_some_iff.1 ho).1);rw[ho] at this;simp only[kZ,decide_eq_true_eq,wM] at this;rcases this with h1 | h1
 ·omega
 ·simpa using h1 j (List.mem_range.2 hj)
theorem Fh {a0:Act} {w0:World} {n:Nat} (n0:Nat) (hn0:n0<ops.size) (hb:jV ops=true) (hd:qw ops n=true) (ht:JR ops n0=true) (hn:a0.tmps.size=n)
  (Sp:Nat->Value->World->Prop) (stable:∀i v w w',Sp i v w->Below w.heap.size w w'->Sp i v w')
  (jB:∀i o,ops[i]? =some o->i<n0->∀a w,Below w0.heap.size w0 w->Fr (ops.toList.take n0).toArray a0 a->
   (∀j oj,ops[j]? =some oj->(∃e ∈ o.after,e.on=j/\Region.binds .any e=true)->Sp j (got oj a) w)->
   if Region.wanted o (yielded ops a.tmps) then o.wp P a w (fun a' w'=> ∃v,a'=a.put o.dst v/\(o.dst=none->v=undef)/\Sp i v w'/\Below w.heap.size w w') Q else Sp i undef w)
  (hend:∀a w,Below w0.heap.size w0 w->Fr (ops.toList.take n0).toArray a0 a->(∀j oj,ops[j]? =some oj->j<n0->Sp j (got oj a) w)->tl P ops Q (ops.toList.drop n0) a w):
  ∃Inv:Array Bool->Act->World->Prop,(Inv (Array.replicate ops.size false) a0 w0.drew/\Inv (Array.replicate ops.size false) a0 w0)/\
   (∀(L:Array Bool) (a:Act) (w:World) (i:Nat) (o:Oper),ops[i]? =some o->L.getD i true=false->(∀e ∈ o.after,Region.binds .any e=true->L.getD e.on false=true)->Inv L a w->
    if Region.wanted o (yielded ops a.tmps) then o.wp P a w (fun a' w'=>Inv (L.setIfInBounds i true) a' w') Q else Inv (L.setIfInBounds i true) (a.put o.dst undef) w)/\
   (∀(L:Array Bool) (a:Act) (w:World),(∀i,i<ops.size->L.getD i false=true)->Inv L a w->Q .normal a w):=by
 let Inv:=fun(L:Array Bool) (a:Act) (w:World)=>L.size=ops.size/\(∀(i:Nat) (o:Oper),ops[i]? =some o->L.getD i false=true->∀e ∈ o.after,Region.binds .any e=true->L.getD e.on false=true)/\
  if L.getD n0 false=true then ∃m,n0<m/\m<=ops.size/\(∀j,j<ops.size->(L.getD j false=true ↔ j<m))/\tl P ops Q (ops.toList.drop m) a w
  else Below w0.heap.size w0 w/\Fr (ops.toList.take n0).toArray a0 a/\∀j oj,ops[j]? =some oj->L.getD j false=true->Sp j (got oj a) w
 refine⟨Inv,?_,?_,?_⟩
 ·have hno:∀j,(Array.replicate ops.size false).getD j false=false:=fun j=>by
   by_cases hj:j<ops.size<;> simp[hj]
  have key:∀w,Below w0.heap.size w0 w->Inv (Array.replicate ops.size false) a0 w:=fun w hB=>
   ⟨by simp,fun i o _ h=>(by rw[hno] at h;cases h),by rw[if_neg (by rw[hno];simp)];exact⟨hB,⟨rfl,rfl,fun _ _=>rfl⟩,fun j oj _ hL=>by rw[hno] at hL;cases hL⟩⟩
  exact⟨key _ (bT _ _).drew,key _ (bT _ _)⟩
 ·rintro L a w i o ho h0 jo ⟨hs,hcl,hI⟩;have hil:=(Array.getElem?_eq_some_iff.1 ho).1;have h0':L.getD i false=false:=by
   have hh:i<L.size:=by omega
   simpa [hh] using h0
  have jQ:(L.setIfInBounds i true).getD i false=true:=by
   have:i<L.size:=by omega
   simp[this]
  have up:∀j,L.getD j false=true->(L.setIfInBounds i true).getD j false=true:=fun j hj=>by
   by_cases e:i=j
   ·subst e;exact jQ
   ·rw[getD_set_ne false e];exact hj
  have hcl':∀(j:Nat) (oj:Oper),ops[j]? =some oj->(L.setIfInBounds i true).getD j false=true->∀e ∈ oj.after,Region.binds .any e=true->(L.setIfInBounds i true).getD e.on false=true:=by
   intro j oj hj hL e he hb;by_cases gI:i=j
   ·subst gI;rw[ho] at hj;obtain rfl:=gJ hj;exact up _ (jo e he hb)
   ·rw[getD_set_ne false gI] at hL;exact up _ (hcl j oj hj hL e he hb)
  by_cases hlt:i<n0
  ·have hnl:¬ L.getD n0 false=true:=by
    intro h;rw[if_pos h] at hI;obtain⟨m,h1,_,h2,_⟩:=hI;have:=(h2 i hil).2 aH;rw[h0'] at this;cases this
   rw[if_neg hnl] at hI;obtain⟨hB,hF,hSp⟩:=hI;have iN:=jB i o ho hlt a w hB hF (fun j oj hj ⟨e,he,oN,hbind⟩=>hSp j oj hj (by rw[<-oN];exact jo e he hbind));have YD:∀d,o.dst=some d->d<a.tmps.size:=fun d hd'=>by rw[hF.2.1,hn];exact qp hd ho d hd'
   have next:∀v w',Below w.heap.size w w'->(o.dst=none->v=undef)->Sp i v w'->Inv (L.setIfInBounds i true) (a.put o.dst v) w':=by
    intro v w' aD hnone hv;refine⟨by simpa using hs,hcl',?_⟩;rw[if_neg (by rw[getD_set_ne false aH];exact hnl)];refine⟨hB.trans (aD.mono hB.size),hF.put (show (ops.toList.take n0).toArray[i]? =some o by rw[<-ho];simp[hlt]) v,fun j oj hj hL=>?_⟩;by_cases gI:i=j
    ·subst gI;rw[ho] at hj;obtain rfl:=gJ hj;rw[gu v YD hnone];exact hv
    ·rw[eZ v (gy hd ho hj gI)];rw[getD_set_ne false gI] at hL;exact stable j _ w w' (hSp j oj hj hL) aD
   split
   ·rename_i hw
    rw[if_pos hw] at iN;exact Oper.wp_mono (fun a' w' ⟨v,ha,hnone,hv,aD⟩=>by subst ha;exact next v w' aD hnone hv) iN
   ·rename_i hw
    rw[if_neg hw] at iN;exact next undef w (bT _ _) (fun _=>rfl) iN
  ·have ql:=fQ (L:=fun j=>L.getD j false) hcl i (iK o) (fun k hk=>by obtain⟨e,he,oN,hb⟩:=gB hk;rw[<-oN];exact jo e he hb);have CU:∀j,j<i->L.getD j false=true:=fun j hj=>ql j (Fg ht aH ho j hj);have htl:tl P ops Q (ops.toList.drop i) a w/\∀j,j<ops.size->(L.getD j false=true ↔ j<i):=by
    by_cases hin:i=n0
    ·subst hin;rw[if_neg (by rw[h0'];simp)] at hI;obtain⟨hB,hF,hSp⟩:=hI;refine⟨hend a w hB hF fun j oj hj hlt=>hSp j oj hj (CU j hlt),fun j hj=>⟨fun hL=>?_,CU j⟩⟩;rcases Nat.lt_trichotomy j i with h | h | h
     ·exact h
     ·subst h;rw[h0'] at hL;cases hL
     ·exfalso
      have hj':ops[j]? =some ops[j] :=by simp[hj]
      have:=fQ (L:=fun j=>L.getD j false) hcl j (iK ops[j]) (fun k hk=>by obtain⟨e,he,oN,hb⟩:=gB hk;rw[<-oN];exact hcl j _ hj' hL e he hb) i (Fg ht aH hj' i h);rw[h0'] at this;cases this
    ·rw[if_pos (CU n0 aH)] at hI;obtain⟨m,h1,h2,h3,h4⟩:=hI;have Bl:m=i:=by
      rcases Nat.lt_trichotomy m i with h | h | h
      ·have:=(h3 m aH).1 (CU m h);omega
      ·exact h
      ·have:=(h3 i hil).2 h;rw[h0'] at this;cases this
     subst Bl;exact⟨h4,h3⟩
   obtain⟨htl,hall⟩:=htl;have hdrop:ops.toList.drop i=o::ops.toList.drop (i+1):=by
    rw[List.drop_eq_getElem_cons (by simpa using hil)];have:=(Array.getElem?_eq_some_iff.1 ho).2;simp[this]
   rw[hdrop] at htl;have next:∀a' w',tl P ops Q (ops.toList.drop (i+1)) a' w'->Inv (L.setIfInBounds i true) a' w':=by
    intro a' w' h;refine⟨by simpa using hs,hcl',?_⟩;have aph:(L.setIfInBounds i true).getD n0 false=true:=by
     by_cases e:i=n0
     ·rw[<-e];exact jQ
     ·exact up _ (CU n0 aH)
    rw[if_pos aph];refine⟨i+1,by omega,hil,fun j hj=>?_,h⟩;by_cases e:i=j
    ·subst e;exact⟨fun _=>Nat.lt_succ_self _,fun _=>jQ⟩
    ·rw[getD_set_ne false e,hall j hj];omega
   unfold tl at htl
   split
   ·rename_i hw
    rw[if_pos hw] at htl;exact Oper.wp_mono (fun a' w' h=>next a' w' h) htl
   ·rename_i hw
    rw[if_neg hw] at htl;exact next _ _ htl
 ·rintro L a w hdone ⟨hs,hcl,hI⟩;rw[if_pos (hdone n0 hn0)] at hI;obtain⟨m,h1,h2,h3,h4⟩:=hI;have hm':m=ops.size:=by
   rcases Nat.lt_or_ge m ops.size with h | h
   ·have:=(h3 m h).1 (hdone m h);omega
   ·omega
  subst hm';rw[List.drop_eq_nil_of_le aR] at h4;exact h4
theorem pK {id:Nat} {dr:Bool} {a0:Act} {w0:World} {n:Nat} (n0:Nat) (hn0:n0<ops.size) (hm:P.follows .mixedOrders=true) (hb:jV ops=true) (hd:qw ops n=true) (ht:JR ops n0=true) (hn:a0.tmps.size=n)
  (Sp:Nat->Value->World->Prop) (stable:∀i v w w',Sp i v w->Below w.heap.size w w'->Sp i v w')
  (jB:∀i o,ops[i]? =some o->i<n0->∀a w,Below w0.heap.size w0 w->Fr (ops.toList.take n0).toArray a0 a->
   (∀j oj,ops[j]? =some oj->(∃e ∈ o.after,e.on=j/\Region.binds .any e=true)->Sp j (got oj a) w)->
   if Region.wanted o (yielded ops a.tmps) then o.wp P a w (fun a' w'=> ∃v,a'=a.put o.dst v/\(o.dst=none->v=undef)/\Sp i v w'/\Below w.heap.size w w') Q else Sp i undef w)
  (hend:∀a w,Below w0.heap.size w0 w->Fr (ops.toList.take n0).toArray a0 a->(∀j oj,ops[j]? =some oj->j<n0->Sp j (got oj a) w)->tl P ops Q (ops.toList.drop n0) a w):
  (Code.region id ops dr).wp P Q a0 w0:=by
 obtain⟨Inv,h1,h2,h3⟩:=Fh (Q:=Q) n0 hn0 hb hd ht hn Sp stable jB hend;exact iF hm hb Inv h1 h2 h3
end
section
variable {P : Program} {ops : Array Oper} {Q : Exit -> Act -> World -> Prop}
def chainB (ops:Array Oper) (ps:List Nat) (Rm:Nat->Bool):Bool:=
 ((List.range ps.length).all fun q=>match ops[ps.getD q 0]? with
  | none=>false
  | some o=>o.guard.isNone && o.dst.isNone && !Rm (ps.getD q 0) && (let R:=jO ops (ps.getD q 0) (iK o);((List.range q).all fun q'=>R.contains (ps.getD q' 0)) && ((List.range ops.size).all fun j=>ps.contains j || Rm j || R.contains j))) &&
 ((List.range ps.length).all fun q=>(List.range q).all fun q'=>ps.getD q 0 !=ps.getD q' 0)
theorem MH {ps:List Nat} {Rm:Nat->Bool} (h:chainB ops ps Rm=true) {q:Nat} (hq:q<ps.length) {o:Oper} (ho:ops[ps.getD q 0]? =some o):
  o.guard=none/\o.dst=none/\Rm (ps.getD q 0)=false/\(∀q',q'<q->ps.getD q' 0 ∈ jO ops (ps.getD q 0) (iK o))/\∀j,j<ops.size->ps.contains j=false->Rm j=false->j ∈ jO ops (ps.getD q 0) (iK o):=by
 unfold chainB at h;rw[Jg] at h;have h1:=h.1;rw[wM] at h1;have h2:=h1 q (List.mem_range.2 hq);rw[ho] at h2;simp only[Jg,Option.isNone_iff_eq_none,wM,Bool.not_eq_true'] at h2;obtain⟨⟨⟨g1,g2⟩,g3⟩,g4,g5⟩:=h2;refine⟨g1,g2,g3,fun q' hq'=>?_,fun j hj hp hu=>?_⟩
 ·have:=g4 q' (List.mem_range.2 hq')
  simpa using this
 ·have:=g5 j (List.mem_range.2 hj);rw[hp,hu] at this
  simpa using this
theorem UE {ps:List Nat} {Rm:Nat->Bool} (h:chainB ops ps Rm=true) {q q':Nat} (hq:q<ps.length) (hq':q'<ps.length) (e:ps.getD q 0=ps.getD q' 0):q=q':=by
 unfold chainB at h;rw[Jg] at h;have h2:=h.2;rw[wM] at h2;rcases Nat.lt_trichotomy q q' with hlt | heq | hgt
 ·have:=h2 q' (List.mem_range.2 hq');rw[wM] at this;have:=this q (List.mem_range.2 hlt);rw[e] at this;simp at this
 ·exact heq
 ·have:=h2 q (List.mem_range.2 hq);rw[wM] at this;have:=this q' (List.mem_range.2 hgt);rw[e] at this;simp at this
theorem ajO {ps:List Nat} {i:Nat} (h:ps.contains i=true):∃q,q<ps.length/\ps.getD q 0=i:=by
 have hm:i ∈ ps:=by simpa using h
 obtain⟨q,hq,he⟩:=List.getElem_of_mem hm;exact⟨q,hq,by simp[hq,he]⟩
theorem ajN {ps:List Nat} {q:Nat} (hq:q<ps.length):ps.contains (ps.getD q 0)=true:=by
 simp[hq]
theorem oJ {o:Oper} {a:Act} {w:World} {S:Value->Prop} {K:Exit->Act->World->Prop} {v:Value} (hd:o.dst=none->v=undef) (hr:(execOp a.eval o).run P w=.ok (.value v) w) (hs:S v):
  o.wp P a w (fun a' w'=> ∃v,a'=a.put o.dst v/\(o.dst=none->v=undef)/\S v/\w'=w) K:=by
 unfold Oper.wp;rw[hr];exact⟨v,rfl,hd,hs,rfl⟩
theorem yY {o:Oper} {a:Act} {w:World} {S:Value->Prop} {K:Exit->Act->World->Prop} (x:Operand) (hop:o.op=.move x\/o.op=.assign x) (hd:o.dst≠none) (hs:S (a.eval x)):
  o.wp P a w (fun a' w'=> ∃v,a'=a.put o.dst v/\(o.dst=none->v=undef)/\S v/\w'=w) K:=
 oJ (v:=a.eval x) (fun h=>absurd h hd) (by unfold execOp;rcases hop with h | h<;> rw[h] <;> rfl) hs
theorem jC {o:Oper} {a:Act} {w:World} {K:Act->World->Prop} {R:Exit->Act->World->Prop} (T:TypeId) (x y:Operand) (ho:o.op=.store T x y) (hd:o.dst=none) {k:IntKind} (b i n:Nat) (f:Nat->Int) (v:Int)
  (hi:(P.info? T).map (·.size)=some 1) (hx:a.eval x=.pointer (some ⟨b,i,none⟩)) (hy:a.eval y=.int k v) (h:aK k w b n f) (hin:i<n) (hK:K a (w.setCell ⟨b,i,none⟩ (.int k v))):o.wp P a w K R:=by
 have hr:=run_storeCells_cells (P:=P) b i [.int k v] 0 w
  (by
   intro j hj;have hj0:j=0:=by simp at hj;omega
   subst hj0;show (w.cell? ⟨b,i,none⟩).isSome=true;rw[h.cell i hin];rfl)
  (by
   intro j hj;exact h.free _)
  (by
   intro u hu;simp at hu;subst hu;rfl)
 obtain⟨q,hq,hs⟩:=Option.map_eq_some_iff.1 hi;unfold Oper.wp execOp;simp only[Nat.add_zero] at hr;have hs2:(storeVar T ⟨b,i,none⟩ (.int k v)).run P w=.ok () (w.setCell ⟨b,i,none⟩ (.int k v)):=by
  simp[storeVar,sizeOf,typeInfo,hq,hs,Value.cells,hr,World.setCells]
 simp only[ho,hx,hy,Instr.storeAt,Instr.sureAddr,uV,wL,vS,hs2];show K (a.put o.dst undef) _;rw[hd];exact hK
theorem Hq {id:Nat} {dr:Bool} {a0:Act} {w0:World} {n:Nat} (ps:List Nat) (Rm:Nat->Bool) (hm:P.follows .mixedOrders=true) (hb:jV ops=true) (hd:qw ops n=true) (hl:chainB ops ps Rm=true) (hn:a0.tmps.size=n)
  (Sp:Nat->Value->World->Prop) (stable:∀i v w w',Sp i v w->Below w.heap.size w w'->Sp i v w')
  (stage:Nat->World->World) (agy:∀w,stage 0 w=w)
  (jB:∀i o,ops[i]? =some o->ps.contains i=false->Rm i=false->∀a w,Below w0.heap.size w0 w->Fr ops a0 a->
   (∀j oj,ops[j]? =some oj->ps.contains j=false->(∃e ∈ o.after,e.on=j/\Region.binds .any e=true)->Sp j (got oj a) w)->
   if Region.wanted o (yielded ops a.tmps) then o.wp P a w (fun a' w'=> ∃v,a'=a.put o.dst v/\(o.dst=none->v=undef)/\Sp i v w'/\Below w.heap.size w w') Q else Sp i undef w)
  (hpure:∀i o,ops[i]? =some o->ps.contains i=false->Rm i=true->∀a w1 w,Below w0.heap.size w0 w1->Fr ops a0 a->
   (∀j oj,ops[j]? =some oj->ps.contains j=false->(∃e ∈ o.after,e.on=j/\Region.binds .any e=true)->Sp j (got oj a) w1)->
   if Region.wanted o (yielded ops a.tmps) then o.wp P a w (fun a' w'=> ∃v,a'=a.put o.dst v/\(o.dst=none->v=undef)/\Sp i v w1/\w'=w) Q else Sp i undef w1)
  (hput:∀q o,q<ps.length->ops[ps.getD q 0]? =some o->∀a w1 (K:Act->World->Prop),Below w0.heap.size w0 w1->Fr ops a0 a->
   (∀j oj,ops[j]? =some oj->ps.contains j=false->(∃e ∈ o.after,e.on=j/\Region.binds .any e=true)->Sp j (got oj a) w1)->
   K a (stage (q+1) w1)->o.wp P a (stage q w1) K Q)
  (hend:∀a w1,Below w0.heap.size w0 w1->Fr ops a0 a->(∀j oj,ops[j]? =some oj->ps.contains j=false->Sp j (got oj a) w1)->Q .normal a (stage ps.length w1)):
  (Code.region id ops dr).wp P Q a0 w0:=by
 let Inv:=fun(L:Array Bool) (a:Act) (w:World)=>L.size=ops.size/\(∀(i:Nat) (o:Oper),ops[i]? =some o->L.getD i false=true->∀e ∈ o.after,Region.binds .any e=true->L.getD e.on false=true)/\Fr ops a0 a/\∃w1 m,Below w0.heap.size w0 w1/\m<=ps.length/\
  (∀j oj,ops[j]? =some oj->ps.contains j=false->L.getD j false=true->Sp j (got oj a) w1)/\
  (∀q,q<ps.length->(L.getD (ps.getD q 0) false=true ↔ q<m))/\
  (0<m->∀j,j<ops.size->ps.contains j=false->Rm j=false->L.getD j false=true)/\w=stage m w1
 refine iF hm hb Inv ?_ ?_ ?_
 ·have hno:∀j,(Array.replicate ops.size false).getD j false=false:=fun j=>by
   by_cases hj:j<ops.size<;> simp[hj]
  have key:∀w,Below w0.heap.size w0 w->Inv (Array.replicate ops.size false) a0 w:=fun w hB=>
   ⟨by simp,fun i o _ h=>(by rw[hno] at h;cases h),⟨rfl,rfl,fun _ _=>rfl⟩,w,0,hB,jm _,fun j oj _ _ hL=>(by rw[hno] at hL;cases hL),fun q _=>by rw[hno];simp,fun h=>absurd h (Nat.lt_irrefl 0),(agy w).symm⟩
  exact⟨key _ (bT _ _).drew,key _ (bT _ _)⟩
 ·rintro L a w i o ho h0 jo ⟨hs,hcl,hF,w1,m,hB,YB,hSp,hps,hall,hw⟩;have hil:=(Array.getElem?_eq_some_iff.1 ho).1;have h0':L.getD i false=false:=by
   have hh:i<L.size:=by omega
   simpa [hh] using h0
  have jQ:(L.setIfInBounds i true).getD i false=true:=by
   have:i<L.size:=by omega
   simp[this]
  have hlt:∀d,o.dst=some d->d<a.tmps.size:=fun d hd'=>by rw[hF.2.1,hn];exact qp hd ho d hd'
  have up:∀j,L.getD j false=true->(L.setIfInBounds i true).getD j false=true:=fun j hj=>by
   by_cases e:i=j
   ·subst e;exact jQ
   ·rw[getD_set_ne false e];exact hj
  have hcl':∀(j:Nat) (oj:Oper),ops[j]? =some oj->(L.setIfInBounds i true).getD j false=true->∀e ∈ oj.after,Region.binds .any e=true->(L.setIfInBounds i true).getD e.on false=true:=by
   intro j oj hj hL e he hb;by_cases gI:i=j
   ·subst gI;rw[ho] at hj;obtain rfl:=gJ hj;exact up _ (jo e he hb)
   ·rw[getD_set_ne false gI] at hL;exact up _ (hcl j oj hj hL e he hb)
  rcases dD:ps.contains i with _ | _
  ·have akw:∀q,q<ps.length->((L.setIfInBounds i true).getD (ps.getD q 0) false=true ↔ q<m):=by
    intro q hq;have gW:i≠ps.getD q 0:=fun e=>by rw[e,ajN hq] at dD;cases dD
    rw[getD_set_ne false gW];exact hps q hq
   have akt:∀v (w2:World),(o.dst=none->v=undef)->Sp i v w2->(∀j oj,ops[j]? =some oj->ps.contains j=false->L.getD j false=true->Sp j (got oj a) w2)->
     ∀j oj,ops[j]? =some oj->ps.contains j=false->(L.setIfInBounds i true).getD j false=true->Sp j (got oj (a.put o.dst v)) w2:=by
    intro v w2 hnd hv hold j oj hj jJ hL;by_cases gI:i=j
    ·subst gI;rw[ho] at hj;obtain rfl:=gJ hj;rw[gu v hlt hnd];exact hv
    ·rw[eZ v (gy hd ho hj gI)];rw[getD_set_ne false gI] at hL;exact hold j oj hj jJ hL
   have LQ:∀j oj,ops[j]? =some oj->ps.contains j=false->(∃e ∈ o.after,e.on=j/\Region.binds .any e=true)->Sp j (got oj a) w1:=
    fun j oj hj jJ ⟨e,he,oN,hbind⟩=>hSp j oj hj jJ (by rw[<-oN];exact jo e he hbind)
   rcases hui:Rm i with _ | _
   ·-- an early operation:no store is done yet
    have hm0:m=0:=by
     rcases Nat.eq_zero_or_pos m with h | h
     ·exact h
     ·have:=hall h i hil dD hui;rw[h0'] at this;cases this
    subst hm0;rw[agy] at hw;subst hw;have iN:=jB i o ho dD hui a w hB hF LQ
    have next:∀v w',Below w.heap.size w w'->(o.dst=none->v=undef)->Sp i v w'->Inv (L.setIfInBounds i true) (a.put o.dst v) w':=fun v w' aD hnd hv=>
     ⟨by simpa using hs,hcl',hF.put ho v,w',0,hB.trans (aD.mono hB.size),jm _,akt v w' hnd hv (fun j oj hj jJ hL=>stable j _ w w' (hSp j oj hj jJ hL) aD),akw,fun h=>absurd h (Nat.lt_irrefl 0),(agy w').symm⟩
    split
    ·rename_i hw
     rw[if_pos hw] at iN;exact Oper.wp_mono (fun a' w' ⟨v,ha,hnd,hv,aD⟩=>by subst ha;exact next v w' aD hnd hv) iN
    ·rename_i hw
     rw[if_neg hw] at iN;exact next undef w (bT _ _) (fun _=>rfl) iN
   ·have iN:=hpure i o ho dD hui a w1 w hB hF LQ
    have next:∀v,(o.dst=none->v=undef)->Sp i v w1->Inv (L.setIfInBounds i true) (a.put o.dst v) w:=fun v hnd hv=>
     ⟨by simpa using hs,hcl',hF.put ho v,w1,m,hB,YB,akt v w1 hnd hv hSp,akw,fun h j hj jJ huj=>up _ (hall h j hj jJ huj),hw⟩
    split
    ·rename_i hw'
     rw[if_pos hw'] at iN;exact Oper.wp_mono (fun a' w' ⟨v,ha,hnd,hv,hww⟩=>by subst ha;subst hww;exact next v hnd hv) iN
    ·rename_i hw'
     rw[if_neg hw'] at iN;exact next undef (fun _=>rfl) iN
  ·obtain⟨q,hq,hqi⟩:=ajO dD;subst hqi;obtain⟨hg,hdst,hu,CU,agM⟩:=MH hl hq ho;have ql:=fQ (L:=fun j=>L.getD j false) hcl (ps.getD q 0) (iK o) (fun k hk=>by obtain⟨e,he,oN,hb⟩:=gB hk;rw[<-oN];exact jo e he hb);have hqm:q=m:=by
    have h1:¬ q<m:=fun h=>by rw[(hps q hq).2 h] at h0';cases h0'
    rcases Nat.lt_or_ge m q with h2 | h2
    ·exfalso
     have hml:m<ps.length:=by omega
     have:=ql _ (CU m h2);exact absurd ((hps m hml).1 this) (Nat.lt_irrefl m)
    ·omega
   subst hqm;subst hw;rw[if_pos (by simp[Region.wanted,hg])];refine hput q o hq ho a w1 _ hB hF (fun j oj hj jJ ⟨e,he,oN,hbind⟩=>hSp j oj hj jJ (by rw[<-oN];exact jo e he hbind)) ?_;refine⟨by simpa using hs,hcl',hF,w1,q+1,hB,hq,fun j oj hj jJ hL=>?_,fun q' hq'=>?_,fun _ j hj jJ huj=>up _ (ql _ (agM j hj jJ huj)),rfl⟩
   ·have gI:ps.getD q 0≠j:=fun e=>by rw[e,jJ] at dD;cases dD
    rw[getD_set_ne false gI] at hL;exact hSp j oj hj jJ hL
   ·by_cases e:q'=q
    ·subst e;exact⟨fun _=>Nat.lt_succ_self _,fun _=>jQ⟩
    ·have gW:ps.getD q 0≠ps.getD q' 0:=fun e2=>e (UE hl hq hq' e2).symm;rw[getD_set_ne false gW,hps q' hq'];omega
 ·rintro L a w hdone ⟨hs,hcl,hF,w1,m,hB,YB,hSp,hps,hall,hw⟩;have hmm:m=ps.length:=by
   rcases Nat.lt_or_ge m ps.length with h | h
   ·exfalso
    rcases hx:ops[ps.getD m 0]? with _ | o
    ·have hl':=hl;unfold chainB at hl';rw[Jg] at hl';have h1:=hl'.1;rw[wM] at h1;have h2:=h1 m (List.mem_range.2 h);rw[hx] at h2;cases h2
    ·have:=(hps m h).1 (hdone _ (Array.getElem?_eq_some_iff.1 hx).1);omega
   ·omega
  subst hmm;subst hw;exact hend a w1 hB hF (fun j oj hj jJ=>hSp j oj hj jJ (hdone j (Array.getElem?_eq_some_iff.1 hj).1))
end
section
variable {P : Program} {ops : Array Oper} {Q : Exit -> Act -> World -> Prop}
def qz (ops:Array Oper) (j i:Nat):Bool:=match ops[j]? with | some oj=>(jO ops j (iK oj)).contains i | none=>false
end
section
variable {P : Program} {ops : Array Oper} {Q : Exit -> Act -> World -> Prop}
def adW (ops:Array Oper) (c:Nat):Bool:=decide (c<ops.size) && (List.range ops.size).all fun i=>i==c || qz ops c i || qz ops i c
theorem Kq {o:Oper} {a:Act} {w:World} {T e:TypeId} {x:Operand} {b i:Nat} {v:Value} (ho:o.op=.load T x) (hx:a.eval x=.pointer (some ⟨b,i,none⟩)) (hu:P.underlying T=some (.pointer e)) (hc:w.cell? ⟨b,i,none⟩=some v):(execOp a.eval o).run P w=.ok (.value v) w:=by
 unfold execOp;simp only[ho,hx];simp[Instr.loadAt,Instr.sureAddr,loadVar,isAgg,run_underlying hu,go_sem,hc]
end
section
variable {P : Program} {ops : Array Oper} {Q : Exit -> Act -> World -> Prop}
def afS (ops:Array Oper) (c i j:Nat):Bool:= !qz ops i c || j==c || qz ops j c
theorem rG {id:Nat} {dr:Bool} {a0:Act} {w0:World} {n:Nat} (c:Nat) (hm:P.follows .mixedOrders=true) (hb:jV ops=true) (hd:qw ops n=true) (hsd:adW ops c=true) (hx:((List.range ops.size).all fun i=> !(qz ops c i && qz ops i c))=true) (hn:a0.tmps.size=n)
  (V:Nat->Value->Prop) (Sp:Nat->Value->World->Prop) (stable:∀j v w w',Sp j v w->Below w.heap.size w w'->Sp j v w') (POST:World->Prop) (hqs:∀w w',POST w->Below w.heap.size w w'->POST w')
  (jB:∀i o,ops[i]? =some o->i≠c->∀a w,(qz ops c i=true->Below w0.heap.size w0 w)->(qz ops i c=true->POST w)->Fr ops a0 a->(∀j oj,ops[j]? =some oj->waits o j=true->V j (got oj a)/\(afS ops c i j=true->Sp j (got oj a) w))->
   if Region.wanted o (yielded ops a.tmps) then o.wp P a w (fun a' w'=> ∃v,a'=a.put o.dst v/\(o.dst=none->v=undef)/\(V i v/\Sp i v w')/\Below w.heap.size w w') Q else V i undef/\Sp i undef w)
  (hcall:∀o,ops[c]? =some o->∀a w,Below w0.heap.size w0 w->Fr ops a0 a->(∀j oj,ops[j]? =some oj->waits o j=true->V j (got oj a)/\(afS ops c c j=true->Sp j (got oj a) w))->
   Region.wanted o (yielded ops a.tmps)=true/\o.wp P a w (fun a' w'=> ∃v,a'=a.put o.dst v/\(o.dst=none->v=undef)/\(V c v/\Sp c v w')/\POST w') Q)
  (hend:∀a w,POST w->Fr ops a0 a->(∀j oj,ops[j]? =some oj->V j (got oj a)/\((j==c || qz ops j c)=true->Sp j (got oj a) w))->Q .normal a w):
  (Code.region id ops dr).wp P Q a0 w0:=by
 have hex:∀i,qz ops c i=true->qz ops i c=true->False:=fun i h1 h2=>by
  by_cases hi:i<ops.size
  ·have:=List.all_eq_true.1 hx i (List.mem_range.2 hi);rw[h1,h2] at this;cases this
  ·unfold qz at h2;rw[Array.getElem?_eq_none aH] at h2;cases h2
 have hcc:qz ops c c=false:=by
  cases h:qz ops c c with
  | false=>rfl
  | true=>exact(hex c h h).elim
 unfold adW at hsd;rw[Jg,decide_eq_true_eq,wM] at hsd;obtain⟨hcs,hside⟩:=hsd
 refine iF hm hb (fun L a w=>L.size=ops.size/\(∀(i:Nat) (o:Oper),ops[i]? =some o->L.getD i false=true->∀e ∈ o.after,Region.binds .any e=true->L.getD e.on false=true)/\Fr ops a0 a/\
  (∀j oj,ops[j]? =some oj->L.getD j false=true->V j (got oj a)/\((L.getD c false=false\/(j==c || qz ops j c)=true)->Sp j (got oj a) w))/\(L.getD c false=false->Below w0.heap.size w0 w)/\(L.getD c false=true->POST w)) ?_ ?_ ?_
 ·have hno:∀j,(Array.replicate ops.size false).getD j false=false:=fun j=>by
   by_cases hj:j<ops.size<;> simp[hj]
  exact⟨⟨by simp,fun i o _ h=>(by rw[hno] at h;cases h),⟨rfl,rfl,fun _ _=>rfl⟩,fun j oj _ hL=>(by rw[hno] at hL;cases hL),fun _=>(bT _ _).drew,fun h=>(by rw[hno] at h;cases h)⟩,
   ⟨by simp,fun i o _ h=>(by rw[hno] at h;cases h),⟨rfl,rfl,fun _ _=>rfl⟩,fun j oj _ hL=>(by rw[hno] at hL;cases hL),fun _=>bT _ _,fun h=>(by rw[hno] at h;cases h)⟩⟩
 ·rintro L a w i o ho h0 jo ⟨hs,hcl,hF,hV,hpre,hpost⟩;have hil:=(Array.getElem?_eq_some_iff.1 ho).1;have h0':L.getD i false=false:=by
   have hh:i<L.size:=by omega
   simpa [hh] using h0
  have jQ:(L.setIfInBounds i true).getD i false=true:=by
   have:i<L.size:=by omega
   simp[this]
  have up:∀j,L.getD j false=true->(L.setIfInBounds i true).getD j false=true:=fun j hj=>by
   by_cases e:i=j
   ·subst e;exact jQ
   ·rw[getD_set_ne false e];exact hj
  have hcl':∀(j:Nat) (oj:Oper),ops[j]? =some oj->(L.setIfInBounds i true).getD j false=true->∀e ∈ oj.after,Region.binds .any e=true->(L.setIfInBounds i true).getD e.on false=true:=by
   intro j oj hj hL e he hb;by_cases gI:i=j
   ·subst gI;rw[ho] at hj;obtain rfl:=gJ hj;exact up _ (jo e he hb)
   ·rw[getD_set_ne false gI] at hL;exact up _ (hcl j oj hj hL e he hb)
  have rM:∀j oj,ops[j]? =some oj->waits o j=true->V j (got oj a)/\((L.getD c false=false\/(j==c || qz ops j c)=true)->Sp j (got oj a) w):=fun j oj hj hw=>by
   obtain⟨e,he,oN,hbind⟩:=aj hw;exact hV j oj hj (by rw[<-oN];exact jo e he hbind)
  have hlt:∀d,o.dst=some d->d<a.tmps.size:=fun d hd'=>by rw[hF.2.1,hn];exact qp hd ho d hd'
  have hbh:∀j oj,ops[j]? =some oj->L.getD j false=true->qz ops j c=true->L.getD c false=true:=fun j oj hj hL hup=>by
   unfold qz at hup;rw[hj] at hup;exact fQ (L:=fun j=>L.getD j false) hcl j (iK oj) (fun k' hk'=>by obtain⟨e,he,oN,hb⟩:=gB hk';rw[<-oN];exact hcl j _ hj hL e he hb) c (by simpa using hup)
  by_cases hic:i=c
  ·subst hic;obtain⟨hw,iN⟩:=hcall o ho a w (hpre h0') hF (fun j oj hj hw=>⟨(rM j oj hj hw).1,fun _=>(rM j oj hj hw).2 (.inl h0')⟩);rw[if_pos hw];refine Oper.wp_mono (fun a' w' ⟨v,ha,hnone,hv,hp⟩=>?_) iN;subst ha;refine⟨by simpa using hs,hcl',hF.put ho v,fun j oj hj hL=>?_,fun h=>(by rw[jQ] at h;cases h),fun _=>hp⟩;by_cases gI:i=j
   ·subst gI;rw[ho] at hj;obtain rfl:=gJ hj;rw[gu v hlt hnone];exact⟨hv.1,fun _=>hv.2⟩
   ·rw[getD_set_ne false gI] at hL;rw[eZ v (gy hd ho hj gI)];refine⟨(hV j oj hj hL).1,fun hk=>?_⟩;rcases hk with h | h
    ·rw[jQ] at h;cases h
    ·rw[kZ,beq_iff_eq] at h;rcases h with h | h
     ·exact absurd h.symm gI
     ·have:=hbh j oj hj hL h;rw[h0'] at this;cases this
  ·have hcn:(L.setIfInBounds i true).getD c false=L.getD c false:=getD_set_ne false hic
   have next:∀v w',(o.dst=none->v=undef)->V i v/\Sp i v w'->Below w.heap.size w w'->(L.setIfInBounds i true).size=ops.size/\(∀(i':Nat) (o:Oper),ops[i']? =some o->(L.setIfInBounds i true).getD i' false=true->∀e ∈ o.after,Region.binds .any e=true->(L.setIfInBounds i true).getD e.on false=true)/\Fr ops a0 (a.put o.dst v)/\
     (∀j oj,ops[j]? =some oj->(L.setIfInBounds i true).getD j false=true->V j (got oj (a.put o.dst v))/\(((L.setIfInBounds i true).getD c false=false\/(j==c || qz ops j c)=true)->Sp j (got oj (a.put o.dst v)) w'))/\((L.setIfInBounds i true).getD c false=false->Below w0.heap.size w0 w')/\((L.setIfInBounds i true).getD c false=true->POST w'):=by
    intro v w' hnone hv hB;refine⟨by simpa using hs,hcl',hF.put ho v,fun j oj hj hL=>?_,fun h=>?_,fun h=>hqs _ _ (hpost (by rw[<-hcn];exact h)) hB⟩
    ·by_cases gI:i=j
     ·subst gI;rw[ho] at hj;obtain rfl:=gJ hj;rw[gu v hlt hnone];exact⟨hv.1,fun _=>hv.2⟩
     ·rw[eZ v (gy hd ho hj gI)];rw[getD_set_ne false gI] at hL;rw[hcn];exact⟨(hV j oj hj hL).1,fun hk=>stable j _ w w' ((hV j oj hj hL).2 hk) hB⟩
    ·have:=hpre (by rw[<-hcn];exact h);exact this.trans (hB.mono this.size)
   have Yy:=hside i (List.mem_range.2 hil);rw[kZ,kZ,beq_iff_eq] at Yy;have iN:=jB i o ho hic a w (fun h=>by
     refine hpre ?_
     cases hq:L.getD c false with
     | false=>rfl
     | true=>
      have hup:=h;unfold qz at hup;rw[Array.getElem?_eq_getElem hcs] at hup;have h:=fQ (L:=fun j=>L.getD j false) hcl c (iK ops[c]) (fun k' hk'=>by obtain⟨e,he,oN,hb⟩:=gB hk';rw[<-oN];exact hcl c _ (Array.getElem?_eq_getElem hcs) hq e he hb) i (by simpa using hup);have h2:L.getD i false=true:=h;rw[h0'] at h2;cases h2)
    (fun h=>by
     refine hpost ?_;have hup:=h;unfold qz at hup;rw[ho] at hup;exact fQ (L:=fun j=>L.getD j false) hcl i (iK o) (fun k' hk'=>by obtain⟨e,he,oN,hb⟩:=gB hk';rw[<-oN];exact jo e he hb) c (by simpa using hup))
    hF (fun j oj hj hw=>⟨(rM j oj hj hw).1,fun hk=>(rM j oj hj hw).2 (by
     unfold afS at hk;rw[kZ,kZ,Bool.not_eq_true'] at hk;rcases hk with(hk | hk) | hk
     ·rcases Yy with(h | h) | h
      ·exact absurd h hic
      ·left
       cases hq:L.getD c false with
       | false=>rfl
       | true=>
        have hup:=h;unfold qz at hup;rw[Array.getElem?_eq_getElem hcs] at hup;have h:=fQ (L:=fun j=>L.getD j false) hcl c (iK ops[c]) (fun k' hk'=>by obtain⟨e,he,oN,hb⟩:=gB hk';rw[<-oN];exact hcl c _ (Array.getElem?_eq_getElem hcs) hq e he hb) i (by simpa using hup);have h2:L.getD i false=true:=h;rw[h0'] at h2;cases h2
      ·rw[h] at hk;cases hk
     ·right;rw[kZ];exact .inl hk
     ·right;rw[kZ];exact .inr hk)⟩)
   split
   ·rename_i hw
    rw[if_pos hw] at iN;refine Oper.wp_mono (fun a' w' ⟨v,ha,hnone,hv,hp⟩=>?_) iN;subst ha;exact next v w' hnone hv hp
   ·rename_i hw
    rw[if_neg hw] at iN;exact next undef w (fun _=>rfl) iN (bT _ _)
 ·rintro L a w hall ⟨hs,hcl,hF,hV,_,hpost⟩;exact hend a w (hpost (hall c hcs)) hF fun j oj hj=>⟨(hV j oj hj (hall j (Array.getElem?_eq_some_iff.1 hj).1)).1,fun hk=>(hV j oj hj (hall j (Array.getElem?_eq_some_iff.1 hj).1)).2 (.inr hk)⟩
theorem wP {o:Oper} {a:Act} {w:World} {S:Value->World->Prop} (f:FuncId) (args:Array Operand) (types:Array TypeId) (ho:o.op=.call ⟨.value (.func f),args,types⟩)
  (hcall:∀as w,(callFunc f as).run P w=.ok (.enter f as) w) (vs:Array Value) (hvs:args.map a.eval=vs) (hd:o.dst≠none) {POST:World->Prop}
  (hc:Calls P f vs w fun e w'=> ∃v,e=.returned v/\S v w'/\POST w'):
  o.wp P a w (fun a' w'=> ∃v,a'=a.put o.dst v/\(o.dst=none->v=undef)/\S v w'/\POST w') Q:=by
 unfold Oper.wp;rw[vH ho hcall,hvs];refine hc.mono ?_;rintro e w' ⟨v,rfl,hs,hb⟩;exact⟨v,rfl,fun h=>absurd h hd,hs,hb⟩
end
section
variable {P : Program} {ops : Array Oper} {Q : Exit -> Act -> World -> Prop}
def ajV (ops:Array Oper) (c i j:Nat):Bool:=qz ops c i || j==c || qz ops j c
theorem Hr {id:Nat} {dr:Bool} {a0:Act} {w0:World} {n:Nat} (c:Nat) (hm:P.follows .mixedOrders=true) (hb:jV ops=true) (hd:qw ops n=true) (hcs:c<ops.size) (hx:((List.range ops.size).all fun i=> !(qz ops c i && qz ops i c))=true) (hn:a0.tmps.size=n)
  (V:Nat->Value->Prop) (Sp:Nat->Value->World->Prop) (stable:∀j v w w',Sp j v w->Below w.heap.size w w'->Sp j v w') (POST:World->Prop) (hqs:∀w w',POST w->Below w.heap.size w w'->POST w')
  (jB:∀i o,ops[i]? =some o->i≠c->∀a w,(qz ops c i=true->Below w0.heap.size w0 w)->(qz ops i c=true->POST w)->(Below w0.heap.size w0 w\/POST w)->Fr ops a0 a->(∀j oj,ops[j]? =some oj->waits o j=true->V j (got oj a)/\(ajV ops c i j=true->Sp j (got oj a) w))->
   if Region.wanted o (yielded ops a.tmps) then o.wp P a w (fun a' w'=> ∃v,a'=a.put o.dst v/\(o.dst=none->v=undef)/\(V i v/\Sp i v w')/\Below w.heap.size w w') Q else V i undef/\Sp i undef w)
  (hcall:∀o,ops[c]? =some o->∀a w,Below w0.heap.size w0 w->Fr ops a0 a->(∀j oj,ops[j]? =some oj->waits o j=true->V j (got oj a)/\(true=true->Sp j (got oj a) w))->
   Region.wanted o (yielded ops a.tmps)=true/\o.wp P a w (fun a' w'=> ∃v,a'=a.put o.dst v/\(o.dst=none->v=undef)/\(V c v/\Sp c v w')/\POST w') Q)
  (hend:∀a w,POST w->Fr ops a0 a->(∀j oj,ops[j]? =some oj->V j (got oj a)/\((j==c || qz ops j c)=true->Sp j (got oj a) w))->Q .normal a w):
  (Code.region id ops dr).wp P Q a0 w0:=by
 have hex:∀i,qz ops c i=true->qz ops i c=true->False:=fun i h1 h2=>by
  by_cases hi:i<ops.size
  ·have:=List.all_eq_true.1 hx i (List.mem_range.2 hi);rw[h1,h2] at this;cases this
  ·unfold qz at h2;rw[Array.getElem?_eq_none aH] at h2;cases h2
 have hcc:qz ops c c=false:=by
  cases h:qz ops c c with
  | false=>rfl
  | true=>exact(hex c h h).elim
 refine iF hm hb (fun L a w=>L.size=ops.size/\(∀(i:Nat) (o:Oper),ops[i]? =some o->L.getD i false=true->∀e ∈ o.after,Region.binds .any e=true->L.getD e.on false=true)/\Fr ops a0 a/\
  (∀j oj,ops[j]? =some oj->L.getD j false=true->V j (got oj a)/\((L.getD c false=false\/(j==c || qz ops j c)=true)->Sp j (got oj a) w))/\(L.getD c false=false->Below w0.heap.size w0 w)/\(L.getD c false=true->POST w)) ?_ ?_ ?_
 ·have hno:∀j,(Array.replicate ops.size false).getD j false=false:=fun j=>by
   by_cases hj:j<ops.size<;> simp[hj]
  exact⟨⟨by simp,fun i o _ h=>(by rw[hno] at h;cases h),⟨rfl,rfl,fun _ _=>rfl⟩,fun j oj _ hL=>(by rw[hno] at hL;cases hL),fun _=>(bT _ _).drew,fun h=>(by rw[hno] at h;cases h)⟩,
   ⟨by simp,fun i o _ h=>(by rw[hno] at h;cases h),⟨rfl,rfl,fun _ _=>rfl⟩,fun j oj _ hL=>(by rw[hno] at hL;cases hL),fun _=>bT _ _,fun h=>(by rw[hno] at h;cases h)⟩⟩
 ·rintro L a w i o ho h0 jo ⟨hs,hcl,hF,hV,hpre,hpost⟩;have hil:=(Array.getElem?_eq_some_iff.1 ho).1;have h0':L.getD i false=false:=by
   have hh:i<L.size:=by omega
   simpa [hh] using h0
  have jQ:(L.setIfInBounds i true).getD i false=true:=by
   have:i<L.size:=by omega
   simp[this]
  have up:∀j,L.getD j false=true->(L.setIfInBounds i true).getD j false=true:=fun j hj=>by
   by_cases e:i=j
   ·subst e;exact jQ
   ·rw[getD_set_ne false e];exact hj
  have hcl':∀(j:Nat) (oj:Oper),ops[j]? =some oj->(L.setIfInBounds i true).getD j false=true->∀e ∈ oj.after,Region.binds .any e=true->(L.setIfInBounds i true).getD e.on false=true:=by
   intro j oj hj hL e he hb;by_cases gI:i=j
   ·subst gI;rw[ho] at hj;obtain rfl:=gJ hj;exact up _ (jo e he hb)
   ·rw[getD_set_ne false gI] at hL;exact up _ (hcl j oj hj hL e he hb)
  have rM:∀j oj,ops[j]? =some oj->waits o j=true->V j (got oj a)/\((L.getD c false=false\/(j==c || qz ops j c)=true)->Sp j (got oj a) w):=fun j oj hj hw=>by
   obtain⟨e,he,oN,hbind⟩:=aj hw;exact hV j oj hj (by rw[<-oN];exact jo e he hbind)
  have hlt:∀d,o.dst=some d->d<a.tmps.size:=fun d hd'=>by rw[hF.2.1,hn];exact qp hd ho d hd'
  have hbh:∀j oj,ops[j]? =some oj->L.getD j false=true->qz ops j c=true->L.getD c false=true:=fun j oj hj hL hup=>by
   unfold qz at hup;rw[hj] at hup;exact fQ (L:=fun j=>L.getD j false) hcl j (iK oj) (fun k' hk'=>by obtain⟨e,he,oN,hb⟩:=gB hk';rw[<-oN];exact hcl j _ hj hL e he hb) c (by simpa using hup)
  by_cases hic:i=c
  ·subst hic;obtain⟨hw,iN⟩:=hcall o ho a w (hpre h0') hF (fun j oj hj hw=>⟨(rM j oj hj hw).1,fun _=>(rM j oj hj hw).2 (.inl h0')⟩);rw[if_pos hw];refine Oper.wp_mono (fun a' w' ⟨v,ha,hnone,hv,hp⟩=>?_) iN;subst ha;refine⟨by simpa using hs,hcl',hF.put ho v,fun j oj hj hL=>?_,fun h=>(by rw[jQ] at h;cases h),fun _=>hp⟩;by_cases gI:i=j
   ·subst gI;rw[ho] at hj;obtain rfl:=gJ hj;rw[gu v hlt hnone];exact⟨hv.1,fun _=>hv.2⟩
   ·rw[getD_set_ne false gI] at hL;rw[eZ v (gy hd ho hj gI)];refine⟨(hV j oj hj hL).1,fun hk=>?_⟩;rcases hk with h | h
    ·rw[jQ] at h;cases h
    ·rw[kZ,beq_iff_eq] at h;rcases h with h | h
     ·exact absurd h.symm gI
     ·have:=hbh j oj hj hL h;rw[h0'] at this;cases this
  ·have hcn:(L.setIfInBounds i true).getD c false=L.getD c false:=getD_set_ne false hic
   have next:∀v w',(o.dst=none->v=undef)->V i v/\Sp i v w'->Below w.heap.size w w'->(L.setIfInBounds i true).size=ops.size/\(∀(i':Nat) (o:Oper),ops[i']? =some o->(L.setIfInBounds i true).getD i' false=true->∀e ∈ o.after,Region.binds .any e=true->(L.setIfInBounds i true).getD e.on false=true)/\Fr ops a0 (a.put o.dst v)/\
     (∀j oj,ops[j]? =some oj->(L.setIfInBounds i true).getD j false=true->V j (got oj (a.put o.dst v))/\(((L.setIfInBounds i true).getD c false=false\/(j==c || qz ops j c)=true)->Sp j (got oj (a.put o.dst v)) w'))/\((L.setIfInBounds i true).getD c false=false->Below w0.heap.size w0 w')/\((L.setIfInBounds i true).getD c false=true->POST w'):=by
    intro v w' hnone hv hB;refine⟨by simpa using hs,hcl',hF.put ho v,fun j oj hj hL=>?_,fun h=>?_,fun h=>hqs _ _ (hpost (by rw[<-hcn];exact h)) hB⟩
    ·by_cases gI:i=j
     ·subst gI;rw[ho] at hj;obtain rfl:=gJ hj;rw[gu v hlt hnone];exact⟨hv.1,fun _=>hv.2⟩
     ·rw[eZ v (gy hd ho hj gI)];rw[getD_set_ne false gI] at hL;rw[hcn];exact⟨(hV j oj hj hL).1,fun hk=>stable j _ w w' ((hV j oj hj hL).2 hk) hB⟩
    ·have:=hpre (by rw[<-hcn];exact h);exact this.trans (hB.mono this.size)
   have iN:=jB i o ho hic a w (fun h=>by
     refine hpre ?_
     cases hq:L.getD c false with
     | false=>rfl
     | true=>
      have hup:=h;unfold qz at hup;rw[Array.getElem?_eq_getElem hcs] at hup;have h:=fQ (L:=fun j=>L.getD j false) hcl c (iK ops[c]) (fun k' hk'=>by obtain⟨e,he,oN,hb⟩:=gB hk';rw[<-oN];exact hcl c _ (Array.getElem?_eq_getElem hcs) hq e he hb) i (by simpa using hup);have h2:L.getD i false=true:=h;rw[h0'] at h2;cases h2)
    (fun h=>by
     refine hpost ?_;have hup:=h;unfold qz at hup;rw[ho] at hup;exact fQ (L:=fun j=>L.getD j false) hcl i (iK o) (fun k' hk'=>by obtain⟨e,he,oN,hb⟩:=gB hk';rw[<-oN];exact jo e he hb) c (by simpa using hup))
    (by
     cases hq:L.getD c false with
     | false=>exact .inl (hpre hq)
     | true=>exact .inr (hpost hq))
    hF (fun j oj hj hw=>⟨(rM j oj hj hw).1,fun hk=>(rM j oj hj hw).2 (by
     unfold ajV at hk;rw[kZ,kZ] at hk;rcases hk with(hk | hk) | hk
     ·left
      cases hq:L.getD c false with
      | false=>rfl
      | true=>
       have hup:=hk;unfold qz at hup;rw[Array.getElem?_eq_getElem hcs] at hup;have h:=fQ (L:=fun j=>L.getD j false) hcl c (iK ops[c]) (fun k' hk'=>by obtain⟨e,he,oN,hb⟩:=gB hk';rw[<-oN];exact hcl c _ (Array.getElem?_eq_getElem hcs) hq e he hb) i (by simpa using hup);have h2:L.getD i false=true:=h;rw[h0'] at h2;cases h2
     ·right;rw[kZ];exact .inl hk
     ·right;rw[kZ];exact .inr hk)⟩)
   split
   ·rename_i hw
    rw[if_pos hw] at iN;refine Oper.wp_mono (fun a' w' ⟨v,ha,hnone,hv,hp⟩=>?_) iN;subst ha;exact next v w' hnone hv hp
   ·rename_i hw
    rw[if_neg hw] at iN;exact next undef w (fun _=>rfl) iN (bT _ _)
 ·rintro L a w hall ⟨hs,hcl,hF,hV,_,hpost⟩;exact hend a w (hpost (hall c hcs)) hF fun j oj hj=>⟨(hV j oj hj (hall j (Array.getElem?_eq_some_iff.1 hj).1)).1,fun hk=>(hV j oj hj (hall j (Array.getElem?_eq_some_iff.1 hj).1)).2 (.inr hk)⟩
end
end Go.bI
