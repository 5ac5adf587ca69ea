/-
  Part 9 of the texts that the proof of RegressReach rests on, one after the other. Conditions: named in each theorem.
-/
import Derived.Test.YtpcjekgfnfjbpaaPkRegressReach8
import Derived.BigQuiet
import Derived.ChangeKeysEq
import Derived.Deep.DrawnRows
import Derived.Deep.QuietTactic
import Derived.Deep.RegionHeld3
import Derived.Deep.WholeRow
import Derived.Laws.CopyOwn
import Derived.Laws.StructEq
import Derived.Lib.Hide
import Derived.Maps.AppendAt
import Derived.Maps.Range
import Derived.Orders
import Derived.Test.YtpcjekgfnfjbpaaArr
import Derived.Test.YtpcjekgfnfjbpaaFlow
import Derived.Test.YtpcjekgfnfjbpaaKit
import Derived.WalkKit
import Derived.WalkLawsBesides
import Derived.WalkSmall
import Derived.WalkSpells
set_option linter.unusedVariables false
set_option linter.unusedSimpArgs false
namespace Go.Bas
open Go.RowKit
section
variable {P : Program} {ops : Array Oper} {Q : Exit → Act → World → Prop}
def RowAt (w:World) (b:Nat) (cs:Array Value):Prop:=∃T,w.heap[b]? =some (.cells cs T (0,0))
theorem Arr.row {k:IntKind} {w:World} {b n:Nat} {f:Nat→Int} (h:Arr k w b n f):RowAt w b (arr k n f):=h
theorem RowAt.setRow {w:World} {b:Nat} {cs:Array Value} (h:RowAt w b cs) (ds:Array Value):RowAt (w.setRow b ds) b ds:=by
 obtain ⟨T,h⟩:=h;exact ⟨T,setRow_heap w b _ _ T _ h⟩
def Filled (isP:Nat→Bool) (tgt:Nat→Nat) (fin:Nat→Array Value) (ops:Array Oper) (L:Nat→Bool) (w1 w:World):Prop:=
 w.os=w1.os∧w.tape=w1.tape∧w.output=w1.output∧w.heap.size=w1.heap.size∧
 (∀b,(∀i,i<ops.size→isP i=true→L i=true→tgt i≠b)→w.heap[b]? =w1.heap[b]?)∧
 ∀i,i<ops.size→isP i=true→L i=true→RowAt w (tgt i) (fin i)
def depsL (o:Oper):List Nat:=o.after.toList.filterMap fun (e:Edge)=> if Region.binds .any e=true then some e.on else none
theorem depsL_spec {o:Oper} {j:Nat} (h:j ∈ depsL o):∃e ∈ o.after,e.on=j∧Region.binds .any e=true:=by
 unfold depsL at h
 obtain ⟨e,he,hx⟩:=List.mem_filterMap.1 h
 by_cases hb:Region.binds .any e=true
 ·rw [if_pos hb] at hx
  exact ⟨e,by simpa using he,Option.some.inj hx,hb⟩
 ·rw [if_neg hb] at hx;cases hx
def reachL (ops:Array Oper):Nat→List Nat→List Nat
 | 0,S=> S
 | k+1,S=> reachL ops k (if S.contains k then (match ops[k]? with | some o=> depsL o++S | none=> S) else S)
theorem reachL_spec {L:Nat→Bool} (hcl:∀(i:Nat) (o:Oper),ops[i]? =some o→L i=true→∀e ∈ o.after,Region.binds .any e=true→L e.on=true):
  ∀k S,(∀j ∈ S,L j=true)→∀j ∈ reachL ops k S,L j=true:=by
 intro k
 induction k with
 | zero=> intro S h;exact h
 | succ k ih=>
  intro S h
  unfold reachL
  refine ih _ ?_
  split
  ·rename_i hk
   have hLk:=h k (by simpa using hk)
   split
   ·rename_i o ho
    intro j hj
    rcases List.mem_append.1 hj with h1 | h1
    ·obtain ⟨e,he,hej,hb⟩:=depsL_spec h1
     rw [←hej];exact hcl k o ho hLk e he hb
    ·exact h j h1
   ·exact h
  ·exact h
def lastsB (ops:Array Oper) (isP:Nat→Bool):Bool:=ops.toList.zipIdx.all fun (x:Oper × Nat)=>
 if isP x.2 then x.1.guard.isNone && x.1.dst.isNone && (let R:=reachL ops x.2 (depsL x.1);(List.range ops.size).all (fun j=> isP j || R.contains j)) else x.1.after.toList.all fun e=> !(Region.binds .any e) || !(isP e.on)
theorem lasts_store {isP:Nat→Bool} (h:lastsB ops isP=true) {i:Nat} {o:Oper} (hi:ops[i]? =some o) (hp:isP i=true):o.guard=none∧o.dst=none∧∀j,j<ops.size→isP j=false→j ∈ reachL ops i (depsL o):=by
 unfold lastsB at h
 rw [List.all_eq_true] at h
 have hm:(o,i) ∈ ops.toList.zipIdx:=by rw [List.mem_zipIdx_iff_getElem?];simpa using hi
 have:=h _ hm
 simp only [hp,if_true,Bool.and_eq_true,Option.isNone_iff_eq_none,List.all_eq_true] at this
 refine ⟨this.1.1,this.1.2,fun j hj hpj=> ?_⟩
 have h2:=this.2 j (List.mem_range.2 hj)
 rw [hpj,Bool.false_or] at h2
 simpa using h2
theorem Filled.arr {isP:Nat→Bool} {tgt:Nat→Nat} {fin:Nat→Array Value} {w1 w:World} (h:Filled isP tgt fin ops (fun _=> true) w1 w) {k:IntKind} {b n:Nat} {f:Nat→Int} (hb:∀i,i<ops.size→isP i=true→tgt i≠b) (hA:Arr k w1 b n f):Arr k w b n f:=by
 obtain ⟨T,hT⟩:=hA
 exact ⟨T,by rw [h.2.2.2.2.1 b (fun i hi hp _=> hb i hi hp)];exact hT⟩
theorem Filled.below {isP:Nat→Bool} {tgt:Nat→Nat} {fin:Nat→Array Value} {w1 w w0:World} (h:Filled isP tgt fin ops (fun _=> true) w1 w) {B:Nat} (hb:∀i,i<ops.size→isP i=true→B≤tgt i) (hB:Below B w0 w1):Below B w0 w:=
 ⟨h.1.trans hB.os,h.2.1.trans hB.tape,h.2.2.1.trans hB.output,by rw [h.2.2.2.1];exact hB.size,fun k hk=> by rw [h.2.2.2.2.1 k (fun i hi hp _ e=> by have:=hb i hi hp;omega)];exact hB.block k hk⟩
theorem Filled.size {isP:Nat→Bool} {tgt:Nat→Nat} {fin:Nat→Array Value} {w1 w:World} (h:Filled isP tgt fin ops (fun _=> true) w1 w):w.heap.size=w1.heap.size:=h.2.2.2.1
theorem Filled.at {isP:Nat→Bool} {tgt:Nat→Nat} {fin:Nat→Array Value} {w1 w:World} (h:Filled isP tgt fin ops (fun _=> true) w1 w) (i:Nat) (hi:i<ops.size) (hp:isP i=true):RowAt w (tgt i) (fin i):=h.2.2.2.2.2 i hi hp rfl
theorem region_lasts {id:Nat} {dr:Bool} {a0:Act} {w0:World} {n:Nat} (isP:Nat→Bool) (hm:P.follows .mixedOrders=true) (hb:backB ops=true) (hd:dstB ops n=true) (hl:lastsB ops isP=true) (hn:a0.tmps.size=n)
  (Sp:Nat→Value→World→Prop) (E:World→World→Prop) (hE:∀w w',Below w.heap.size w w'→E w w')
  (stable:∀i v w w',Sp i v w→E w w'→Sp i v w')
  (tgt:Nat→Nat) (old fin:Nat→Array Value)
  (hinj:∀i j,i<ops.size→j<ops.size→isP i=true→isP j=true→i≠j→tgt i≠tgt j)
  (hold:∀i,i<ops.size→isP i=true→RowAt w0 (tgt i) (old i))
  (hflow:∀i o,ops[i]? =some o→isP i=false→∀a w,Below w0.heap.size w0 w→Fr ops a0 a→
   (∀j oj,ops[j]? =some oj→isP j=false→(∃e ∈ o.after,e.on=j∧Region.binds .any e=true)→Sp j (got oj a) w)→
   if Region.wanted o (yielded ops a.tmps) then o.wp P a w (fun a' w'=> ∃v,a'=a.put o.dst v∧(o.dst=none→v=undef)∧Sp i v w'∧Below w.heap.size w w') Q else Sp i undef w)
  (hput:∀i o,ops[i]? =some o→isP i=true→∀a w1 w (K:Act→World→Prop),Below w0.heap.size w0 w1→Fr ops a0 a→(∀j oj,ops[j]? =some oj→isP j=false→Sp j (got oj a) w1)→
   RowAt w (tgt i) (old i)→K a (w.setRow (tgt i) (fin i))→o.wp P a w K Q)
  (hend:∀a w1 w,Below w0.heap.size w0 w1→Fr ops a0 a→(∀j oj,ops[j]? =some oj→isP j=false→Sp j (got oj a) w1)→
   Filled isP tgt fin ops (fun _=> true) w1 w→Q .normal a w):
  (Code.region id ops dr).wp P Q a0 w0:=by
 let Inv:=fun (L:Array Bool) (a:Act) (w:World)=> L.size=ops.size∧(∀(i:Nat) (o:Oper),ops[i]? =some o→L.getD i false=true→∀e ∈ o.after,Region.binds .any e=true→L.getD e.on false=true)∧Fr ops a0 a∧∃w1,Below w0.heap.size w0 w1∧(∀j oj,ops[j]? =some oj→isP j=false→L.getD j false=true→Sp j (got oj a) w1)∧
  ((∀i,i<ops.size→isP i=true→L.getD i false=false)→w=w1)∧
  (∀i,i<ops.size→isP i=true→L.getD i false=true→∀j,j<ops.size→isP j=false→L.getD j false=true)∧Filled isP tgt fin ops (fun i=> L.getD i false) w1 w
 refine wp_region_both hm hb Inv ?_ ?_ ?_
 ·have hno:∀j,(Array.replicate ops.size false).getD j false=false:=fun j=> by
   by_cases hj:j<ops.size<;> simp [hj]
  have key:∀w,Below w0.heap.size w0 w→Inv (Array.replicate ops.size false) a0 w:=fun w hB=>
   ⟨by simp,fun i o _ h=> (by rw [hno] at h;cases h),⟨rfl,rfl,fun _ _=> rfl⟩,w,hB,fun j oj _ _ hL=> (by rw [hno] at hL;cases hL),fun _=> rfl,fun i _ _ hL=> (by rw [hno] at hL;cases hL),rfl,rfl,rfl,rfl,fun _ _=> rfl,fun i _ _ hL=> (by simp only [hno] at hL;cases hL)⟩
  exact ⟨key _ (Below.refl _ _).drew,key _ (Below.refl _ _)⟩
 ·rintro L a w i o ho h0 hdep ⟨hs,hcl,hF,w1,hB,hSp,hno,hall,hos,htp,hou,hsz,hoth,hfil⟩
  have hil:=(Array.getElem?_eq_some_iff.1 ho).1
  have h0':L.getD i false=false:=by
   have hh:i<L.size:=by omega
   simpa [hh] using h0
  have hseti:(L.setIfInBounds i true).getD i false=true:=by
   have:i<L.size:=by omega
   simp [this]
  have hlt:∀d,o.dst=some d→d<a.tmps.size:=fun d hd'=> by rw [hF.2.1,hn];exact dst_lt hd ho d hd'
  have hcl':∀(j:Nat) (oj:Oper),ops[j]? =some oj→(L.setIfInBounds i true).getD j false=true→∀e ∈ oj.after,Region.binds .any e=true→(L.setIfInBounds i true).getD e.on false=true:=by
   have up:∀j,L.getD j false=true→(L.setIfInBounds i true).getD j false=true:=fun j hj=> by
    by_cases e:i=j
    ·subst e;exact hseti
    ·rw [getD_set_ne false e];exact hj
   intro j oj hj hL e he hb
   by_cases hij:i=j
   ·subst hij
    rw [ho] at hj
    obtain rfl:=Option.some.inj hj
    exact up _ (hdep e he hb)
   ·rw [getD_set_ne false hij] at hL
    exact up _ (hcl j oj hj hL e he hb)
  rcases hpi:isP i with _ | _
  ·-- a flow:no store is done yet
   have hnone:∀k,k<ops.size→isP k=true→L.getD k false=false:=by
    intro k hk hpk
    rcases hLk:L.getD k false with _ | _
    ·rfl
    ·have:=hall k hk hpk hLk i hil hpi
     rw [h0'] at this;cases this
   obtain rfl:=hno hnone
   have hst:=hflow i o ho hpi a w hB hF (fun j oj hj hpj ⟨e,he,hej,hbind⟩=> hSp j oj hj hpj (by rw [←hej];exact hdep e he hbind))
   have next:∀v w',Below w.heap.size w w'→(o.dst=none→v=undef)→Sp i v w'→Inv (L.setIfInBounds i true) (a.put o.dst v) w':=by
    intro v w' hbel hnd hv
    have hnone':∀k,k<ops.size→isP k=true→(L.setIfInBounds i true).getD k false=false:=by
     intro k hk hpk
     have hik:i≠k:=fun e=> by rw [e,hpk] at hpi;cases hpi
     rw [getD_set_ne false hik]
     exact hnone k hk hpk
    refine ⟨by simpa using hs,hcl',hF.put ho v,w',hB.trans (hbel.mono hB.size),fun j oj hj hpj hL=> ?_,fun _=> rfl,fun k hk hpk hL=> (by rw [hnone' k hk hpk] at hL;cases hL),rfl,rfl,rfl,rfl,fun _ _=> rfl,fun k hk hpk hL=> (by simp only [hnone' k hk hpk] at hL;cases hL)⟩
    by_cases hij:i=j
    ·subst hij
     rw [ho] at hj
     obtain rfl:=Option.some.inj hj
     rw [got_put_same v hlt hnd]
     exact hv
    ·rw [got_put_other v (dst_spec hd ho hj hij)]
     rw [getD_set_ne false hij] at hL
     exact stable j _ w w' (hSp j oj hj hpj hL) (hE w w' hbel)
   split
   ·rename_i hw
    rw [if_pos hw] at hst
    exact Oper.wp_mono (fun a' w' ⟨v,ha,hnd,hv,hbel⟩=> by subst ha;exact next v w' hbel hnd hv) hst
   ·rename_i hw
    rw [if_neg hw] at hst
    exact next undef w (Below.refl _ _) (fun _=> rfl) hst
  ·-- a store:all flows are done
   obtain ⟨hg,hdst,hw8⟩:=lasts_store hl ho hpi
   have hfl:∀j,j<ops.size→isP j=false→L.getD j false=true:=fun j hj hpj=>
    reachL_spec (L:=fun j=> L.getD j false) hcl i (depsL o) (fun k hk=> by obtain ⟨e,he,hej,hb⟩:=depsL_spec hk;rw [←hej];exact hdep e he hb) j (hw8 j hj hpj)
   rw [if_pos (by simp [Region.wanted,hg])]
   have hrow:RowAt w (tgt i) (old i):=by
    obtain ⟨T,hT⟩:=hold i hil hpi
    refine ⟨T,?_⟩
    rw [hoth (tgt i) (fun k hk hpk hLk=> hinj k i hk hil hpk hpi (fun e=> by have hLk':L.getD k false=true:=hLk;rw [e,h0'] at hLk';cases hLk'))]
    rw [hB.block _ (Array.getElem?_eq_some_iff.1 hT).1]
    exact hT
   refine hput i o ho hpi a w1 w _ hB hF (fun j oj hj hpj=> hSp j oj hj hpj (hfl j (Array.getElem?_eq_some_iff.1 hj).1 hpj)) hrow ?_
   refine ⟨by simpa using hs,hcl',hF,w1,hB,fun j oj hj hpj hL=> ?_,fun h=> ?_,fun k hk hpk hL j hj hpj=> ?_,by rw [setRow_os];exact hos,by rw [setRow_tape];exact htp,by rw [setRow_output];exact hou,by rw [setRow_size];exact hsz,fun b hbn=> ?_,fun k hk hpk hL=> ?_⟩
   ·have hij:i≠j:=fun e=> by rw [e,hpj] at hpi;cases hpi
    rw [getD_set_ne false hij] at hL
    exact hSp j oj hj hpj hL
   ·have:=h i hil hpi
    rw [hseti] at this;cases this
   ·have hij:i≠j:=fun e=> by rw [e,hpj] at hpi;cases hpi
    rw [getD_set_ne false hij]
    exact hfl j hj hpj
   ·have hb1:tgt i≠b:=hbn i hil hpi hseti
    rw [setRow_other _ _ _ _ (fun e=> hb1 e.symm)]
    refine hoth b fun k hk hpk hLk=> hbn k hk hpk ?_
    have hik:i≠k:=fun e=> by have hLk':L.getD k false=true:=hLk;rw [←e,h0'] at hLk';cases hLk'
    show (L.setIfInBounds i true).getD k false=true
    rw [getD_set_ne false hik];exact hLk
   ·by_cases hik:i=k
    ·subst hik;exact hrow.setRow _
    ·have hL':(L.setIfInBounds i true).getD k false=true:=hL
     rw [getD_set_ne false hik] at hL'
     obtain ⟨T,hT⟩:=hfil k hk hpk hL'
     exact ⟨T,by rw [setRow_other _ _ _ _ (hinj k i hk hil hpk hpi (fun e=> hik e.symm))];exact hT⟩
 ·rintro L a w hdone ⟨hs,hcl,hF,w1,hB,hSp,hno,hall,hos,htp,hou,hsz,hoth,hfil⟩
  exact hend a w1 w hB hF (fun j oj hj hpj=> hSp j oj hj hpj (hdone j (Array.getElem?_eq_some_iff.1 hj).1)) ⟨hos,htp,hou,hsz,fun b hb=> hoth b fun i hi hpi _=> hb i hi hpi rfl,fun i hi hpi _=> hfil i hi hpi (hdone i hi)⟩
end
end Go.Bas
namespace Go.Bas
open Go.RowKit
section
variable {P : Program} {ops : Array Oper} {Q : Exit → Act → World → Prop}
def tl (P:Program) (ops:Array Oper) (Q:Exit→Act→World→Prop):List Oper→Act→World→Prop
 | [],a,w=> Q .normal a w
 | o::rest,a,w=> if Region.wanted o (yielded ops a.tmps) then o.wp P a w (tl P ops Q rest) Q else tl P ops Q rest (a.put o.dst undef) w
theorem tl_step {o:Oper} {rest:List Oper} {a:Act} {w:World} (hg:o.guard=none) (h:o.wp P a w (tl P ops Q rest) Q):tl P ops Q (o::rest) a w:=by
 unfold tl
 rw [if_pos (by simp [Region.wanted,hg])]
 exact h
theorem tl_nil {a:Act} {w:World} (h:Q .normal a w):tl P ops Q [] a w:=h
theorem tl_move {o:Oper} {rest:List Oper} {a:Act} {w:World} (hg:o.guard=none) (x:Operand) (hop:o.op=.move x∨o.op=.assign x) (h:tl P ops Q rest (a.put o.dst (a.eval x)) w):tl P ops Q (o::rest) a w:=by
 refine tl_step hg ?_
 have hr:(execOp a.eval o).run P w=.ok (.value (a.eval x)) w:=by unfold execOp;rcases hop with h | h<;> rw [h] <;> rfl
 unfold Oper.wp
 rw [hr]
 exact h
def tailB (ops:Array Oper) (n0:Nat):Bool:=(List.range ops.size).all fun i=> decide (i<n0) || (match ops[i]? with | none=> true | some o=> (let R:=reachL ops i (depsL o);(List.range i).all fun j=> R.contains j))
theorem tail_spec {n0:Nat} (h:tailB ops n0=true) {i:Nat} (hi:n0≤i) {o:Oper} (ho:ops[i]? =some o):∀j,j<i→j ∈ reachL ops i (depsL o):=by
 intro j hj
 unfold tailB at h
 rw [List.all_eq_true] at h
 have:=h i (List.mem_range.2 (Array.getElem?_eq_some_iff.1 ho).1)
 rw [ho] at this
 simp only [Bool.or_eq_true,decide_eq_true_eq,List.all_eq_true] at this
 rcases this with h1 | h1
 ·omega
 ·simpa using h1 j (List.mem_range.2 hj)
theorem tail_core {a0:Act} {w0:World} {n:Nat} (n0:Nat) (hn0:n0<ops.size) (hb:backB ops=true) (hd:dstB ops n=true) (ht:tailB ops n0=true) (hn:a0.tmps.size=n)
  (Sp:Nat→Value→World→Prop) (stable:∀i v w w',Sp i v w→Below w.heap.size w w'→Sp i v w')
  (hflow:∀i o,ops[i]? =some o→i<n0→∀a w,Below w0.heap.size w0 w→Fr (ops.toList.take n0).toArray a0 a→
   (∀j oj,ops[j]? =some oj→(∃e ∈ o.after,e.on=j∧Region.binds .any e=true)→Sp j (got oj a) w)→
   if Region.wanted o (yielded ops a.tmps) then o.wp P a w (fun a' w'=> ∃v,a'=a.put o.dst v∧(o.dst=none→v=undef)∧Sp i v w'∧Below w.heap.size w w') Q else Sp i undef w)
  (hend:∀a w,Below w0.heap.size w0 w→Fr (ops.toList.take n0).toArray a0 a→(∀j oj,ops[j]? =some oj→j<n0→Sp j (got oj a) w)→tl P ops Q (ops.toList.drop n0) a w):
  ∃Inv:Array Bool→Act→World→Prop,(Inv (Array.replicate ops.size false) a0 w0.drew∧Inv (Array.replicate ops.size false) a0 w0)∧
   (∀(L:Array Bool) (a:Act) (w:World) (i:Nat) (o:Oper),ops[i]? =some o→L.getD i true=false→(∀e ∈ o.after,Region.binds .any e=true→L.getD e.on false=true)→Inv L a w→
    if Region.wanted o (yielded ops a.tmps) then o.wp P a w (fun a' w'=> Inv (L.setIfInBounds i true) a' w') Q else Inv (L.setIfInBounds i true) (a.put o.dst undef) w)∧
   (∀(L:Array Bool) (a:Act) (w:World),(∀i,i<ops.size→L.getD i false=true)→Inv L a w→Q .normal a w):=by
 let Inv:=fun (L:Array Bool) (a:Act) (w:World)=> L.size=ops.size∧(∀(i:Nat) (o:Oper),ops[i]? =some o→L.getD i false=true→∀e ∈ o.after,Region.binds .any e=true→L.getD e.on false=true)∧
  if L.getD n0 false=true then ∃m,n0<m∧m≤ops.size∧(∀j,j<ops.size→(L.getD j false=true ↔ j<m))∧tl P ops Q (ops.toList.drop m) a w
  else Below w0.heap.size w0 w∧Fr (ops.toList.take n0).toArray a0 a∧∀j oj,ops[j]? =some oj→L.getD j false=true→Sp j (got oj a) w
 refine ⟨Inv,?_,?_,?_⟩
 ·have hno:∀j,(Array.replicate ops.size false).getD j false=false:=fun j=> by
   by_cases hj:j<ops.size<;> simp [hj]
  have key:∀w,Below w0.heap.size w0 w→Inv (Array.replicate ops.size false) a0 w:=fun w hB=>
   ⟨by simp,fun i o _ h=> (by rw [hno] at h;cases h),by rw [if_neg (by rw [hno];simp)];exact ⟨hB,⟨rfl,rfl,fun _ _=> rfl⟩,fun j oj _ hL=> by rw [hno] at hL;cases hL⟩⟩
  exact ⟨key _ (Below.refl _ _).drew,key _ (Below.refl _ _)⟩
 ·rintro L a w i o ho h0 hdep ⟨hs,hcl,hI⟩
  have hil:=(Array.getElem?_eq_some_iff.1 ho).1
  have h0':L.getD i false=false:=by
   have hh:i<L.size:=by omega
   simpa [hh] using h0
  have hseti:(L.setIfInBounds i true).getD i false=true:=by
   have:i<L.size:=by omega
   simp [this]
  have up:∀j,L.getD j false=true→(L.setIfInBounds i true).getD j false=true:=fun j hj=> by
   by_cases e:i=j
   ·subst e;exact hseti
   ·rw [getD_set_ne false e];exact hj
  have hcl':∀(j:Nat) (oj:Oper),ops[j]? =some oj→(L.setIfInBounds i true).getD j false=true→∀e ∈ oj.after,Region.binds .any e=true→(L.setIfInBounds i true).getD e.on false=true:=by
   intro j oj hj hL e he hb
   by_cases hij:i=j
   ·subst hij
    rw [ho] at hj
    obtain rfl:=Option.some.inj hj
    exact up _ (hdep e he hb)
   ·rw [getD_set_ne false hij] at hL
    exact up _ (hcl j oj hj hL e he hb)
  by_cases hlt:i<n0
  ·have hnl:¬ L.getD n0 false=true:=by
    intro h
    rw [if_pos h] at hI
    obtain ⟨m,h1,_,h2,_⟩:=hI
    have:=(h2 i hil).2 (by omega)
    rw [h0'] at this;cases this
   rw [if_neg hnl] at hI
   obtain ⟨hB,hF,hSp⟩:=hI
   have hst:=hflow i o ho hlt a w hB hF (fun j oj hj ⟨e,he,hej,hbind⟩=> hSp j oj hj (by rw [←hej];exact hdep e he hbind))
   have hltd:∀d,o.dst=some d→d<a.tmps.size:=fun d hd'=> by rw [hF.2.1,hn];exact dst_lt hd ho d hd'
   have next:∀v w',Below w.heap.size w w'→(o.dst=none→v=undef)→Sp i v w'→Inv (L.setIfInBounds i true) (a.put o.dst v) w':=by
    intro v w' hbel hnone hv
    refine ⟨by simpa using hs,hcl',?_⟩
    rw [if_neg (by rw [getD_set_ne false (by omega)];exact hnl)]
    refine ⟨hB.trans (hbel.mono hB.size),hF.put (show (ops.toList.take n0).toArray[i]? =some o by rw [←ho];simp [hlt]) v,fun j oj hj hL=> ?_⟩
    by_cases hij:i=j
    ·subst hij
     rw [ho] at hj
     obtain rfl:=Option.some.inj hj
     rw [got_put_same v hltd hnone]
     exact hv
    ·rw [got_put_other v (dst_spec hd ho hj hij)]
     rw [getD_set_ne false hij] at hL
     exact stable j _ w w' (hSp j oj hj hL) hbel
   split
   ·rename_i hw
    rw [if_pos hw] at hst
    exact Oper.wp_mono (fun a' w' ⟨v,ha,hnone,hv,hbel⟩=> by subst ha;exact next v w' hbel hnone hv) hst
   ·rename_i hw
    rw [if_neg hw] at hst
    exact next undef w (Below.refl _ _) (fun _=> rfl) hst
  ·have hreach:=reachL_spec (L:=fun j=> L.getD j false) hcl i (depsL o) (fun k hk=> by obtain ⟨e,he,hej,hb⟩:=depsL_spec hk;rw [←hej];exact hdep e he hb)
   have hprev:∀j,j<i→L.getD j false=true:=fun j hj=> hreach j (tail_spec ht (by omega) ho j hj)
   have htl:tl P ops Q (ops.toList.drop i) a w∧∀j,j<ops.size→(L.getD j false=true ↔ j<i):=by
    by_cases hin:i=n0
    ·subst hin
     rw [if_neg (by rw [h0'];simp)] at hI
     obtain ⟨hB,hF,hSp⟩:=hI
     refine ⟨hend a w hB hF fun j oj hj hlt=> hSp j oj hj (hprev j hlt),fun j hj=> ⟨fun hL=> ?_,hprev j⟩⟩
     rcases Nat.lt_trichotomy j i with h | h | h
     ·exact h
     ·subst h;rw [h0'] at hL;cases hL
     ·exfalso
      have hj':ops[j]? =some ops[j] :=by simp [hj]
      have:=reachL_spec (L:=fun j=> L.getD j false) hcl j (depsL ops[j]) (fun k hk=> by obtain ⟨e,he,hej,hb⟩:=depsL_spec hk;rw [←hej];exact hcl j _ hj' hL e he hb) i (tail_spec ht (by omega) hj' i h)
      rw [h0'] at this;cases this
    ·rw [if_pos (hprev n0 (by omega))] at hI
     obtain ⟨m,h1,h2,h3,h4⟩:=hI
     have hmi:m=i:=by
      rcases Nat.lt_trichotomy m i with h | h | h
      ·have:=(h3 m (by omega)).1 (hprev m h);omega
      ·exact h
      ·have:=(h3 i hil).2 h;rw [h0'] at this;cases this
     subst hmi
     exact ⟨h4,h3⟩
   obtain ⟨htl,hall⟩:=htl
   have hdrop:ops.toList.drop i=o::ops.toList.drop (i+1):=by
    rw [List.drop_eq_getElem_cons (by simpa using hil)]
    have:=(Array.getElem?_eq_some_iff.1 ho).2
    simp [this]
   rw [hdrop] at htl
   have next:∀a' w',tl P ops Q (ops.toList.drop (i+1)) a' w'→Inv (L.setIfInBounds i true) a' w':=by
    intro a' w' h
    refine ⟨by simpa using hs,hcl',?_⟩
    have hn0L:(L.setIfInBounds i true).getD n0 false=true:=by
     by_cases e:i=n0
     ·rw [←e];exact hseti
     ·exact up _ (hprev n0 (by omega))
    rw [if_pos hn0L]
    refine ⟨i+1,by omega,hil,fun j hj=> ?_,h⟩
    by_cases e:i=j
    ·subst e;exact ⟨fun _=> Nat.lt_succ_self _,fun _=> hseti⟩
    ·rw [getD_set_ne false e,hall j hj];omega
   unfold tl at htl
   split
   ·rename_i hw
    rw [if_pos hw] at htl
    exact Oper.wp_mono (fun a' w' h=> next a' w' h) htl
   ·rename_i hw
    rw [if_neg hw] at htl
    exact next _ _ htl
 ·rintro L a w hdone ⟨hs,hcl,hI⟩
  rw [if_pos (hdone n0 hn0)] at hI
  obtain ⟨m,h1,h2,h3,h4⟩:=hI
  have hm':m=ops.size:=by
   rcases Nat.lt_or_ge m ops.size with h | h
   ·have:=(h3 m h).1 (hdone m h);omega
   ·omega
  subst hm'
  rw [List.drop_eq_nil_of_le (by simp)] at h4
  exact h4
theorem region_tail {id:Nat} {dr:Bool} {a0:Act} {w0:World} {n:Nat} (n0:Nat) (hn0:n0<ops.size) (hm:P.follows .mixedOrders=true) (hb:backB ops=true) (hd:dstB ops n=true) (ht:tailB ops n0=true) (hn:a0.tmps.size=n)
  (Sp:Nat→Value→World→Prop) (stable:∀i v w w',Sp i v w→Below w.heap.size w w'→Sp i v w')
  (hflow:∀i o,ops[i]? =some o→i<n0→∀a w,Below w0.heap.size w0 w→Fr (ops.toList.take n0).toArray a0 a→
   (∀j oj,ops[j]? =some oj→(∃e ∈ o.after,e.on=j∧Region.binds .any e=true)→Sp j (got oj a) w)→
   if Region.wanted o (yielded ops a.tmps) then o.wp P a w (fun a' w'=> ∃v,a'=a.put o.dst v∧(o.dst=none→v=undef)∧Sp i v w'∧Below w.heap.size w w') Q else Sp i undef w)
  (hend:∀a w,Below w0.heap.size w0 w→Fr (ops.toList.take n0).toArray a0 a→(∀j oj,ops[j]? =some oj→j<n0→Sp j (got oj a) w)→tl P ops Q (ops.toList.drop n0) a w):
  (Code.region id ops dr).wp P Q a0 w0:=by
 obtain ⟨Inv,h1,h2,h3⟩:=tail_core (Q:=Q) n0 hn0 hb hd ht hn Sp stable hflow hend
 exact wp_region_both hm hb Inv h1 h2 h3
end
end Go.Bas
namespace Go.Bas
open Go.RowKit
section
variable {P : Program} {ops : Array Oper} {Q : Exit → Act → World → Prop}
def chainB (ops:Array Oper) (ps:List Nat) (isU:Nat→Bool):Bool:=
 ((List.range ps.length).all fun q=> match ops[ps.getD q 0]? with
  | none=> false
  | some o=> o.guard.isNone && o.dst.isNone && !isU (ps.getD q 0) && (let R:=reachL ops (ps.getD q 0) (depsL o);((List.range q).all fun q'=> R.contains (ps.getD q' 0)) && ((List.range ops.size).all fun j=> ps.contains j || isU j || R.contains j))) &&
 ((List.range ps.length).all fun q=> (List.range q).all fun q'=> ps.getD q 0 !=ps.getD q' 0)
theorem chain_store {ps:List Nat} {isU:Nat→Bool} (h:chainB ops ps isU=true) {q:Nat} (hq:q<ps.length) {o:Oper} (ho:ops[ps.getD q 0]? =some o):
  o.guard=none∧o.dst=none∧isU (ps.getD q 0)=false∧(∀q',q'<q→ps.getD q' 0 ∈ reachL ops (ps.getD q 0) (depsL o))∧∀j,j<ops.size→ps.contains j=false→isU j=false→j ∈ reachL ops (ps.getD q 0) (depsL o):=by
 unfold chainB at h
 rw [Bool.and_eq_true] at h
 have h1:=h.1
 rw [List.all_eq_true] at h1
 have h2:=h1 q (List.mem_range.2 hq)
 rw [ho] at h2
 simp only [Bool.and_eq_true,Option.isNone_iff_eq_none,List.all_eq_true,Bool.not_eq_true'] at h2
 obtain ⟨⟨⟨g1,g2⟩,g3⟩,g4,g5⟩:=h2
 refine ⟨g1,g2,g3,fun q' hq'=> ?_,fun j hj hp hu=> ?_⟩
 ·have:=g4 q' (List.mem_range.2 hq')
  simpa using this
 ·have:=g5 j (List.mem_range.2 hj)
  rw [hp,hu] at this
  simpa using this
theorem chain_inj {ps:List Nat} {isU:Nat→Bool} (h:chainB ops ps isU=true) {q q':Nat} (hq:q<ps.length) (hq':q'<ps.length) (e:ps.getD q 0=ps.getD q' 0):q=q':=by
 unfold chainB at h
 rw [Bool.and_eq_true] at h
 have h2:=h.2
 rw [List.all_eq_true] at h2
 rcases Nat.lt_trichotomy q q' with hlt | heq | hgt
 ·have:=h2 q' (List.mem_range.2 hq')
  rw [List.all_eq_true] at this
  have:=this q (List.mem_range.2 hlt)
  rw [e] at this
  simp at this
 ·exact heq
 ·have:=h2 q (List.mem_range.2 hq)
  rw [List.all_eq_true] at this
  have:=this q' (List.mem_range.2 hgt)
  rw [e] at this
  simp at this
theorem ps_at {ps:List Nat} {i:Nat} (h:ps.contains i=true):∃q,q<ps.length∧ps.getD q 0=i:=by
 have hm:i ∈ ps:=by simpa using h
 obtain ⟨q,hq,he⟩:=List.getElem_of_mem hm
 exact ⟨q,hq,by simp [hq,he]⟩
theorem ps_in {ps:List Nat} {q:Nat} (hq:q<ps.length):ps.contains (ps.getD q 0)=true:=by
 simp [hq]
theorem pure_val {o:Oper} {a:Act} {w:World} {S:Value→Prop} {K:Exit→Act→World→Prop} {v:Value} (hd:o.dst=none→v=undef) (hr:(execOp a.eval o).run P w=.ok (.value v) w) (hs:S v):
  o.wp P a w (fun a' w'=> ∃v,a'=a.put o.dst v∧(o.dst=none→v=undef)∧S v∧w'=w) K:=by
 unfold Oper.wp
 rw [hr]
 exact ⟨v,rfl,hd,hs,rfl⟩
theorem pure_move {o:Oper} {a:Act} {w:World} {S:Value→Prop} {K:Exit→Act→World→Prop} (x:Operand) (hop:o.op=.move x∨o.op=.assign x) (hd:o.dst≠none) (hs:S (a.eval x)):
  o.wp P a w (fun a' w'=> ∃v,a'=a.put o.dst v∧(o.dst=none→v=undef)∧S v∧w'=w) K:=
 pure_val (v:=a.eval x) (fun h=> absurd h hd) (by unfold execOp;rcases hop with h | h<;> rw [h] <;> rfl) hs
theorem wp_store_cell {o:Oper} {a:Act} {w:World} {K:Act→World→Prop} {R:Exit→Act→World→Prop} (T:TypeId) (x y:Operand) (ho:o.op=.store T x y) (hd:o.dst=none) {k:IntKind} (b i n:Nat) (f:Nat→Int) (v:Int)
  (hi:(P.info? T).map (·.size)=some 1) (hx:a.eval x=.pointer (some ⟨b,i,none⟩)) (hy:a.eval y=.int k v) (h:Arr k w b n f) (hin:i<n) (hK:K a (w.setCell ⟨b,i,none⟩ (.int k v))):o.wp P a w K R:=by
 have hr:=run_storeCells_cells (P:=P) b i [.int k v] 0 w
  (by
   intro j hj
   have hj0:j=0:=by simp at hj;omega
   subst hj0
   show (w.cell? ⟨b,i,none⟩).isSome=true
   rw [h.cell i hin];rfl)
  (by
   intro j hj
   exact h.free _)
  (by
   intro u hu
   simp at hu;subst hu;rfl)
 obtain ⟨q,hq,hs⟩:=Option.map_eq_some_iff.1 hi
 unfold Oper.wp execOp
 simp only [Nat.add_zero] at hr
 have hs2:(storeVar T ⟨b,i,none⟩ (.int k v)).run P w=.ok () (w.setCell ⟨b,i,none⟩ (.int k v)):=by
  simp [storeVar,sizeOf,typeInfo,hq,hs,Value.cells,hr,World.setCells]
 simp only [ho,hx,hy,Instr.storeAt,Instr.sureAddr,Sem.run_bind,Sem.run_pure,Result.andThen_ok,hs2]
 show K (a.put o.dst undef) _
 rw [hd]
 exact hK
theorem region_chain {id:Nat} {dr:Bool} {a0:Act} {w0:World} {n:Nat} (ps:List Nat) (isU:Nat→Bool) (hm:P.follows .mixedOrders=true) (hb:backB ops=true) (hd:dstB ops n=true) (hl:chainB ops ps isU=true) (hn:a0.tmps.size=n)
  (Sp:Nat→Value→World→Prop) (stable:∀i v w w',Sp i v w→Below w.heap.size w w'→Sp i v w')
  (stage:Nat→World→World) (hst0:∀w,stage 0 w=w)
  (hflow:∀i o,ops[i]? =some o→ps.contains i=false→isU i=false→∀a w,Below w0.heap.size w0 w→Fr ops a0 a→
   (∀j oj,ops[j]? =some oj→ps.contains j=false→(∃e ∈ o.after,e.on=j∧Region.binds .any e=true)→Sp j (got oj a) w)→
   if Region.wanted o (yielded ops a.tmps) then o.wp P a w (fun a' w'=> ∃v,a'=a.put o.dst v∧(o.dst=none→v=undef)∧Sp i v w'∧Below w.heap.size w w') Q else Sp i undef w)
  (hpure:∀i o,ops[i]? =some o→ps.contains i=false→isU i=true→∀a w1 w,Below w0.heap.size w0 w1→Fr ops a0 a→
   (∀j oj,ops[j]? =some oj→ps.contains j=false→(∃e ∈ o.after,e.on=j∧Region.binds .any e=true)→Sp j (got oj a) w1)→
   if Region.wanted o (yielded ops a.tmps) then o.wp P a w (fun a' w'=> ∃v,a'=a.put o.dst v∧(o.dst=none→v=undef)∧Sp i v w1∧w'=w) Q else Sp i undef w1)
  (hput:∀q o,q<ps.length→ops[ps.getD q 0]? =some o→∀a w1 (K:Act→World→Prop),Below w0.heap.size w0 w1→Fr ops a0 a→
   (∀j oj,ops[j]? =some oj→ps.contains j=false→(∃e ∈ o.after,e.on=j∧Region.binds .any e=true)→Sp j (got oj a) w1)→
   K a (stage (q+1) w1)→o.wp P a (stage q w1) K Q)
  (hend:∀a w1,Below w0.heap.size w0 w1→Fr ops a0 a→(∀j oj,ops[j]? =some oj→ps.contains j=false→Sp j (got oj a) w1)→Q .normal a (stage ps.length w1)):
  (Code.region id ops dr).wp P Q a0 w0:=by
 let Inv:=fun (L:Array Bool) (a:Act) (w:World)=> L.size=ops.size∧(∀(i:Nat) (o:Oper),ops[i]? =some o→L.getD i false=true→∀e ∈ o.after,Region.binds .any e=true→L.getD e.on false=true)∧Fr ops a0 a∧∃w1 m,Below w0.heap.size w0 w1∧m≤ps.length∧
  (∀j oj,ops[j]? =some oj→ps.contains j=false→L.getD j false=true→Sp j (got oj a) w1)∧
  (∀q,q<ps.length→(L.getD (ps.getD q 0) false=true ↔ q<m))∧
  (0<m→∀j,j<ops.size→ps.contains j=false→isU j=false→L.getD j false=true)∧w=stage m w1
 refine wp_region_both hm hb Inv ?_ ?_ ?_
 ·have hno:∀j,(Array.replicate ops.size false).getD j false=false:=fun j=> by
   by_cases hj:j<ops.size<;> simp [hj]
  have key:∀w,Below w0.heap.size w0 w→Inv (Array.replicate ops.size false) a0 w:=fun w hB=>
   ⟨by simp,fun i o _ h=> (by rw [hno] at h;cases h),⟨rfl,rfl,fun _ _=> rfl⟩,w,0,hB,Nat.zero_le _,fun j oj _ _ hL=> (by rw [hno] at hL;cases hL),fun q _=> by rw [hno];simp,fun h=> absurd h (Nat.lt_irrefl 0),(hst0 w).symm⟩
  exact ⟨key _ (Below.refl _ _).drew,key _ (Below.refl _ _)⟩
 ·rintro L a w i o ho h0 hdep ⟨hs,hcl,hF,w1,m,hB,hmle,hSp,hps,hall,hw⟩
  have hil:=(Array.getElem?_eq_some_iff.1 ho).1
  have h0':L.getD i false=false:=by
   have hh:i<L.size:=by omega
   simpa [hh] using h0
  have hseti:(L.setIfInBounds i true).getD i false=true:=by
   have:i<L.size:=by omega
   simp [this]
  have hlt:∀d,o.dst=some d→d<a.tmps.size:=fun d hd'=> by rw [hF.2.1,hn];exact dst_lt hd ho d hd'
  have up:∀j,L.getD j false=true→(L.setIfInBounds i true).getD j false=true:=fun j hj=> by
   by_cases e:i=j
   ·subst e;exact hseti
   ·rw [getD_set_ne false e];exact hj
  have hcl':∀(j:Nat) (oj:Oper),ops[j]? =some oj→(L.setIfInBounds i true).getD j false=true→∀e ∈ oj.after,Region.binds .any e=true→(L.setIfInBounds i true).getD e.on false=true:=by
   intro j oj hj hL e he hb
   by_cases hij:i=j
   ·subst hij
    rw [ho] at hj
    obtain rfl:=Option.some.inj hj
    exact up _ (hdep e he hb)
   ·rw [getD_set_ne false hij] at hL
    exact up _ (hcl j oj hj hL e he hb)
  rcases hpi:ps.contains i with _ | _
  ·have hpsn:∀q,q<ps.length→((L.setIfInBounds i true).getD (ps.getD q 0) false=true ↔ q<m):=by
    intro q hq
    have hne:i≠ps.getD q 0:=fun e=> by rw [e,ps_in hq] at hpi;cases hpi
    rw [getD_set_ne false hne]
    exact hps q hq
   have hspn:∀v (w2:World),(o.dst=none→v=undef)→Sp i v w2→(∀j oj,ops[j]? =some oj→ps.contains j=false→L.getD j false=true→Sp j (got oj a) w2)→
     ∀j oj,ops[j]? =some oj→ps.contains j=false→(L.setIfInBounds i true).getD j false=true→Sp j (got oj (a.put o.dst v)) w2:=by
    intro v w2 hnd hv hold j oj hj hpj hL
    by_cases hij:i=j
    ·subst hij
     rw [ho] at hj
     obtain rfl:=Option.some.inj hj
     rw [got_put_same v hlt hnd]
     exact hv
    ·rw [got_put_other v (dst_spec hd ho hj hij)]
     rw [getD_set_ne false hij] at hL
     exact hold j oj hj hpj hL
   have hdeps:∀j oj,ops[j]? =some oj→ps.contains j=false→(∃e ∈ o.after,e.on=j∧Region.binds .any e=true)→Sp j (got oj a) w1:=
    fun j oj hj hpj ⟨e,he,hej,hbind⟩=> hSp j oj hj hpj (by rw [←hej];exact hdep e he hbind)
   rcases hui:isU i with _ | _
   ·-- an early operation:no store is done yet
    have hm0:m=0:=by
     rcases Nat.eq_zero_or_pos m with h | h
     ·exact h
     ·have:=hall h i hil hpi hui
      rw [h0'] at this;cases this
    subst hm0
    rw [hst0] at hw
    subst hw
    have hst:=hflow i o ho hpi hui a w hB hF hdeps
    have next:∀v w',Below w.heap.size w w'→(o.dst=none→v=undef)→Sp i v w'→Inv (L.setIfInBounds i true) (a.put o.dst v) w':=fun v w' hbel hnd hv=>
     ⟨by simpa using hs,hcl',hF.put ho v,w',0,hB.trans (hbel.mono hB.size),Nat.zero_le _,hspn v w' hnd hv (fun j oj hj hpj hL=> stable j _ w w' (hSp j oj hj hpj hL) hbel),hpsn,fun h=> absurd h (Nat.lt_irrefl 0),(hst0 w').symm⟩
    split
    ·rename_i hw
     rw [if_pos hw] at hst
     exact Oper.wp_mono (fun a' w' ⟨v,ha,hnd,hv,hbel⟩=> by subst ha;exact next v w' hbel hnd hv) hst
    ·rename_i hw
     rw [if_neg hw] at hst
     exact next undef w (Below.refl _ _) (fun _=> rfl) hst
   ·have hst:=hpure i o ho hpi hui a w1 w hB hF hdeps
    have next:∀v,(o.dst=none→v=undef)→Sp i v w1→Inv (L.setIfInBounds i true) (a.put o.dst v) w:=fun v hnd hv=>
     ⟨by simpa using hs,hcl',hF.put ho v,w1,m,hB,hmle,hspn v w1 hnd hv hSp,hpsn,fun h j hj hpj huj=> up _ (hall h j hj hpj huj),hw⟩
    split
    ·rename_i hw'
     rw [if_pos hw'] at hst
     exact Oper.wp_mono (fun a' w' ⟨v,ha,hnd,hv,hww⟩=> by subst ha;subst hww;exact next v hnd hv) hst
    ·rename_i hw'
     rw [if_neg hw'] at hst
     exact next undef (fun _=> rfl) hst
  ·obtain ⟨q,hq,hqi⟩:=ps_at hpi
   subst hqi
   obtain ⟨hg,hdst,hu,hprev,hearly⟩:=chain_store hl hq ho
   have hreach:=reachL_spec (L:=fun j=> L.getD j false) hcl (ps.getD q 0) (depsL o) (fun k hk=> by obtain ⟨e,he,hej,hb⟩:=depsL_spec hk;rw [←hej];exact hdep e he hb)
   have hqm:q=m:=by
    have h1:¬ q<m:=fun h=> by rw [(hps q hq).2 h] at h0';cases h0'
    rcases Nat.lt_or_ge m q with h2 | h2
    ·exfalso
     have hml:m<ps.length:=by omega
     have:=hreach _ (hprev m h2)
     exact absurd ((hps m hml).1 this) (Nat.lt_irrefl m)
    ·omega
   subst hqm
   subst hw
   rw [if_pos (by simp [Region.wanted,hg])]
   refine hput q o hq ho a w1 _ hB hF (fun j oj hj hpj ⟨e,he,hej,hbind⟩=> hSp j oj hj hpj (by rw [←hej];exact hdep e he hbind)) ?_
   refine ⟨by simpa using hs,hcl',hF,w1,q+1,hB,hq,fun j oj hj hpj hL=> ?_,fun q' hq'=> ?_,fun _ j hj hpj huj=> up _ (hreach _ (hearly j hj hpj huj)),rfl⟩
   ·have hij:ps.getD q 0≠j:=fun e=> by rw [e,hpj] at hpi;cases hpi
    rw [getD_set_ne false hij] at hL
    exact hSp j oj hj hpj hL
   ·by_cases e:q'=q
    ·subst e;exact ⟨fun _=> Nat.lt_succ_self _,fun _=> hseti⟩
    ·have hne:ps.getD q 0≠ps.getD q' 0:=fun e2=> e (chain_inj hl hq hq' e2).symm
     rw [getD_set_ne false hne,hps q' hq']
     omega
 ·rintro L a w hdone ⟨hs,hcl,hF,w1,m,hB,hmle,hSp,hps,hall,hw⟩
  have hmm:m=ps.length:=by
   rcases Nat.lt_or_ge m ps.length with h | h
   ·exfalso
    rcases hx:ops[ps.getD m 0]? with _ | o
    ·have hl':=hl
     unfold chainB at hl'
     rw [Bool.and_eq_true] at hl'
     have h1:=hl'.1
     rw [List.all_eq_true] at h1
     have h2:=h1 m (List.mem_range.2 h)
     rw [hx] at h2
     cases h2
    ·have:=(hps m h).1 (hdone _ (Array.getElem?_eq_some_iff.1 hx).1)
     omega
   ·omega
  subst hmm
  subst hw
  exact hend a w1 hB hF (fun j oj hj hpj=> hSp j oj hj hpj (hdone j (Array.getElem?_eq_some_iff.1 hj).1))
end
end Go.Bas
