/-
  Part 12 of the texts that the proof of SuiteOpens rests on, one after the other. Conditions: named in each theorem.
-/
import Derived.Test.YtpcjekgfnfjbpaaGreatPkSuiteOpens4
import Derived.Maps.AppendAt
import Derived.Maps.Range
set_option linter.unusedVariables false
set_option linter.unusedSimpArgs false
namespace Go.aG
open Go.RowKit
section
variable {P : Program} {ops : Array Oper} {Q : Exit → Act → World → Prop}
def jI (w:World) (b:Nat) (cs:Array Value):Prop:=∃T,w.heap[b]? =some (.cells cs T (0,0))
theorem aI.row {k:IntKind} {w:World} {b n:Nat} {f:Nat→Int} (h:aI k w b n f):jI w b (arr k n f):=h
theorem jI.setRow {w:World} {b:Nat} {cs:Array Value} (h:jI w b cs) (ds:Array Value):jI (w.setRow b ds) b ds:=by
 obtain ⟨T,h⟩:=h;exact ⟨T,setRow_heap w b _ _ T _ h⟩
def fC (fG:Nat→Bool) (tgt:Nat→Nat) (fin:Nat→Array Value) (ops:Array Oper) (L:Nat→Bool) (w1 w:World):Prop:=
 w.os=w1.os∧w.tape=w1.tape∧w.output=w1.output∧w.heap.size=w1.heap.size∧
 (∀b,(∀i,i<ops.size→fG i=true→L i=true→tgt i≠b)→w.heap[b]? =w1.heap[b]?)∧
 ∀i,i<ops.size→fG i=true→L i=true→jI w (tgt i) (fin i)
def bX (o:Oper):List Nat:=o.after.toList.filterMap fun (e:Edge)=> if Region.binds .any e=true then some e.on else none
theorem bI {o:Oper} {j:Nat} (h:j ∈ bX o):∃e ∈ o.after,e.on=j∧Region.binds .any e=true:=by
 unfold bX at h
 obtain ⟨e,he,hx⟩:=List.mem_filterMap.1 h
 by_cases hb:Region.binds .any e=true
 ·rw [if_pos hb] at hx
  exact ⟨e,by simpa using he,Option.some.inj hx,hb⟩
 ·rw [if_neg hb] at hx;cases hx
def dx (ops:Array Oper):Nat→List Nat→List Nat
 | 0,S=> S
 | k+1,S=> dx ops k (if S.contains k then (match ops[k]? with | some o=> bX o++S | none=> S) else S)
theorem bH {L:Nat→Bool} (hcl:∀(i:Nat) (o:Oper),ops[i]? =some o→L i=true→∀e ∈ o.after,Region.binds .any e=true→L e.on=true):
  ∀k S,(∀j ∈ S,L j=true)→∀j ∈ dx ops k S,L j=true:=by
 intro k
 induction k with
 | zero=> intro S h;exact h
 | succ k ih=>
  intro S h
  unfold dx
  refine ih _ ?_
  split
  ·rename_i hk
   have hLk:=h k (by simpa using hk)
   split
   ·rename_i o ho
    intro j hj
    rcases List.mem_append.1 hj with h1 | h1
    ·obtain ⟨e,he,jf,hb⟩:=bI h1
     rw [←jf];exact hcl k o ho hLk e he hb
    ·exact h j h1
   ·exact h
  ·exact h
def tq (ops:Array Oper) (fG:Nat→Bool):Bool:=ops.toList.zipIdx.all fun (x:Oper × Nat)=>
 if fG x.2 then x.1.guard.isNone && x.1.dst.isNone && (let R:=dx ops x.2 (bX x.1);(List.range ops.size).all (fun j=> fG j || R.contains j)) else x.1.after.toList.all fun e=> !(Region.binds .any e) || !(fG e.on)
theorem qW {fG:Nat→Bool} (h:tq ops fG=true) {i:Nat} {o:Oper} (hi:ops[i]? =some o) (hp:fG i=true):o.guard=none∧o.dst=none∧∀j,j<ops.size→fG j=false→j ∈ dx ops i (bX o):=by
 unfold tq at h
 rw [List.all_eq_true] at h
 have hm:(o,i) ∈ ops.toList.zipIdx:=by rw [List.mem_zipIdx_iff_getElem?];simpa using hi
 have:=h _ hm
 simp only [hp,if_true,Bool.and_eq_true,Option.isNone_iff_eq_none,List.all_eq_true] at this
 refine ⟨this.1.1,this.1.2,fun j hj lK=> ?_⟩
 have h2:=this.2 j (List.mem_range.2 hj)
 rw [lK,Bool.false_or] at h2
 simpa using h2
theorem fC.arr {fG:Nat→Bool} {tgt:Nat→Nat} {fin:Nat→Array Value} {w1 w:World} (h:fC fG tgt fin ops (fun _=> true) w1 w) {k:IntKind} {b n:Nat} {f:Nat→Int} (hb:∀i,i<ops.size→fG i=true→tgt i≠b) (hA:aI k w1 b n f):aI k w b n f:=by
 obtain ⟨T,hT⟩:=hA
 exact ⟨T,by rw [h.2.2.2.2.1 b (fun i hi hp _=> hb i hi hp)];exact hT⟩
theorem fC.below {fG:Nat→Bool} {tgt:Nat→Nat} {fin:Nat→Array Value} {w1 w w0:World} (h:fC fG tgt fin ops (fun _=> true) w1 w) {B:Nat} (hb:∀i,i<ops.size→fG i=true→B≤tgt i) (hB:Below B w0 w1):Below B w0 w:=
 ⟨h.1.trans hB.os,h.2.1.trans hB.tape,h.2.2.1.trans hB.output,by rw [h.2.2.2.1];exact hB.size,fun k hk=> by rw [h.2.2.2.2.1 k (fun i hi hp _ e=> by have:=hb i hi hp;omega)];exact hB.block k hk⟩
theorem fC.size {fG:Nat→Bool} {tgt:Nat→Nat} {fin:Nat→Array Value} {w1 w:World} (h:fC fG tgt fin ops (fun _=> true) w1 w):w.heap.size=w1.heap.size:=h.2.2.2.1
theorem fC.at {fG:Nat→Bool} {tgt:Nat→Nat} {fin:Nat→Array Value} {w1 w:World} (h:fC fG tgt fin ops (fun _=> true) w1 w) (i:Nat) (hi:i<ops.size) (hp:fG i=true):jI w (tgt i) (fin i):=h.2.2.2.2.2 i hi hp rfl
theorem gy {id:Nat} {dr:Bool} {a0:Act} {w0:World} {n:Nat} (fG:Nat→Bool) (hm:P.follows .mixedOrders=true) (hb:dG ops=true) (hd:gL ops n=true) (hl:tq ops fG=true) (hn:a0.tmps.size=n)
  (Sp:Nat→Value→World→Prop) (E:World→World→Prop) (hE:∀w w',Below w.heap.size w w'→E w w')
  (stable:∀i v w w',Sp i v w→E w w'→Sp i v w')
  (tgt:Nat→Nat) (old fin:Nat→Array Value)
  (hinj:∀i j,i<ops.size→j<ops.size→fG i=true→fG j=true→i≠j→tgt i≠tgt j)
  (hold:∀i,i<ops.size→fG i=true→jI w0 (tgt i) (old i))
  (dz:∀i o,ops[i]? =some o→fG i=false→∀a w,Below w0.heap.size w0 w→Fr ops a0 a→
   (∀j oj,ops[j]? =some oj→fG j=false→(∃e ∈ o.after,e.on=j∧Region.binds .any e=true)→Sp j (got oj a) w)→
   if Region.wanted o (yielded ops a.tmps) then o.wp P a w (fun a' w'=> ∃v,a'=a.put o.dst v∧(o.dst=none→v=undef)∧Sp i v w'∧Below w.heap.size w w') Q else Sp i undef w)
  (hput:∀i o,ops[i]? =some o→fG i=true→∀a w1 w (K:Act→World→Prop),Below w0.heap.size w0 w1→Fr ops a0 a→(∀j oj,ops[j]? =some oj→fG j=false→Sp j (got oj a) w1)→
   jI w (tgt i) (old i)→K a (w.setRow (tgt i) (fin i))→o.wp P a w K Q)
  (hend:∀a w1 w,Below w0.heap.size w0 w1→Fr ops a0 a→(∀j oj,ops[j]? =some oj→fG j=false→Sp j (got oj a) w1)→
   fC fG tgt fin ops (fun _=> true) w1 w→Q .normal a w):
  (Code.region id ops dr).wp P Q a0 w0:=by
 let Inv:=fun (L:Array Bool) (a:Act) (w:World)=> L.size=ops.size∧(∀(i:Nat) (o:Oper),ops[i]? =some o→L.getD i false=true→∀e ∈ o.after,Region.binds .any e=true→L.getD e.on false=true)∧Fr ops a0 a∧∃w1,Below w0.heap.size w0 w1∧(∀j oj,ops[j]? =some oj→fG j=false→L.getD j false=true→Sp j (got oj a) w1)∧
  ((∀i,i<ops.size→fG i=true→L.getD i false=false)→w=w1)∧
  (∀i,i<ops.size→fG i=true→L.getD i false=true→∀j,j<ops.size→fG j=false→L.getD j false=true)∧fC fG tgt fin ops (fun i=> L.getD i false) w1 w
 refine bM hm hb Inv ?_ ?_ ?_
 ·have hno:∀j,(Array.replicate ops.size false).getD j false=false:=fun j=> by
   by_cases hj:j<ops.size<;> simp [hj]
  have key:∀w,Below w0.heap.size w0 w→Inv (Array.replicate ops.size false) a0 w:=fun w hB=>
   ⟨by simp,fun i o _ h=> (by rw [hno] at h;cases h),⟨rfl,rfl,fun _ _=> rfl⟩,w,hB,fun j oj _ _ hL=> (by rw [hno] at hL;cases hL),fun _=> rfl,fun i _ _ hL=> (by rw [hno] at hL;cases hL),rfl,rfl,rfl,rfl,fun _ _=> rfl,fun i _ _ hL=> (by simp only [hno] at hL;cases hL)⟩
  exact ⟨key _ (Below.refl _ _).drew,key _ (Below.refl _ _)⟩
 ·rintro L a w i o ho h0 dB ⟨hs,hcl,hF,w1,hB,hSp,hno,hall,hos,htp,hou,hsz,hoth,hfil⟩
  have hil:=(Array.getElem?_eq_some_iff.1 ho).1
  have h0':L.getD i false=false:=by
   have hh:i<L.size:=by omega
   simpa [hh] using h0
  have dV:(L.setIfInBounds i true).getD i false=true:=by
   have:i<L.size:=by omega
   simp [this]
  have hlt:∀d,o.dst=some d→d<a.tmps.size:=fun d hd'=> by rw [hF.2.1,hn];exact iy hd ho d hd'
  have hcl':∀(j:Nat) (oj:Oper),ops[j]? =some oj→(L.setIfInBounds i true).getD j false=true→∀e ∈ oj.after,Region.binds .any e=true→(L.setIfInBounds i true).getD e.on false=true:=by
   have up:∀j,L.getD j false=true→(L.setIfInBounds i true).getD j false=true:=fun j hj=> by
    by_cases e:i=j
    ·subst e;exact dV
    ·rw [getD_set_ne false e];exact hj
   intro j oj hj hL e he hb
   by_cases hij:i=j
   ·subst hij
    rw [ho] at hj
    obtain rfl:=Option.some.inj hj
    exact up _ (dB e he hb)
   ·rw [getD_set_ne false hij] at hL
    exact up _ (hcl j oj hj hL e he hb)
  rcases hpi:fG i with _ | _
  ·-- a flow:no store is done yet
   have hnone:∀k,k<ops.size→fG k=true→L.getD k false=false:=by
    intro k hk hpk
    rcases hLk:L.getD k false with _ | _
    ·rfl
    ·have:=hall k hk hpk hLk i hil hpi
     rw [h0'] at this;cases this
   obtain rfl:=hno hnone
   have hst:=dz i o ho hpi a w hB hF (fun j oj hj lK ⟨e,he,jf,hbind⟩=> hSp j oj hj lK (by rw [←jf];exact dB e he hbind))
   have next:∀v w',Below w.heap.size w w'→(o.dst=none→v=undef)→Sp i v w'→Inv (L.setIfInBounds i true) (a.put o.dst v) w':=by
    intro v w' hbel hnd hv
    have hnone':∀k,k<ops.size→fG k=true→(L.setIfInBounds i true).getD k false=false:=by
     intro k hk hpk
     have hik:i≠k:=fun e=> by rw [e,hpk] at hpi;cases hpi
     rw [getD_set_ne false hik]
     exact hnone k hk hpk
    refine ⟨by simpa using hs,hcl',hF.put ho v,w',hB.trans (hbel.mono hB.size),fun j oj hj lK hL=> ?_,fun _=> rfl,fun k hk hpk hL=> (by rw [hnone' k hk hpk] at hL;cases hL),rfl,rfl,rfl,rfl,fun _ _=> rfl,fun k hk hpk hL=> (by simp only [hnone' k hk hpk] at hL;cases hL)⟩
    by_cases hij:i=j
    ·subst hij
     rw [ho] at hj
     obtain rfl:=Option.some.inj hj
     rw [bB v hlt hnd]
     exact hv
    ·rw [aP v (aS hd ho hj hij)]
     rw [getD_set_ne false hij] at hL
     exact stable j _ w w' (hSp j oj hj lK hL) (hE w w' hbel)
   split
   ·rename_i hw
    rw [if_pos hw] at hst
    exact Oper.wp_mono (fun a' w' ⟨v,ha,hnd,hv,hbel⟩=> by subst ha;exact next v w' hbel hnd hv) hst
   ·rename_i hw
    rw [if_neg hw] at hst
    exact next undef w (Below.refl _ _) (fun _=> rfl) hst
  ·-- a store:all flows are done
   obtain ⟨hg,hdst,hw8⟩:=qW hl ho hpi
   have hfl:∀j,j<ops.size→fG j=false→L.getD j false=true:=fun j hj lK=>
    bH (L:=fun j=> L.getD j false) hcl i (bX o) (fun k hk=> by obtain ⟨e,he,jf,hb⟩:=bI hk;rw [←jf];exact dB e he hb) j (hw8 j hj lK)
   rw [if_pos (by simp [Region.wanted,hg])]
   have hrow:jI w (tgt i) (old i):=by
    obtain ⟨T,hT⟩:=hold i hil hpi
    refine ⟨T,?_⟩
    rw [hoth (tgt i) (fun k hk hpk hLk=> hinj k i hk hil hpk hpi (fun e=> by have hLk':L.getD k false=true:=hLk;rw [e,h0'] at hLk';cases hLk'))]
    rw [hB.block _ (Array.getElem?_eq_some_iff.1 hT).1]
    exact hT
   refine hput i o ho hpi a w1 w _ hB hF (fun j oj hj lK=> hSp j oj hj lK (hfl j (Array.getElem?_eq_some_iff.1 hj).1 lK)) hrow ?_
   refine ⟨by simpa using hs,hcl',hF,w1,hB,fun j oj hj lK hL=> ?_,fun h=> ?_,fun k hk hpk hL j hj lK=> ?_,by rw [setRow_os];exact hos,by rw [setRow_tape];exact htp,by rw [setRow_output];exact hou,by rw [setRow_size];exact hsz,fun b hbn=> ?_,fun k hk hpk hL=> ?_⟩
   ·have hij:i≠j:=fun e=> by rw [e,lK] at hpi;cases hpi
    rw [getD_set_ne false hij] at hL
    exact hSp j oj hj lK hL
   ·have:=h i hil hpi
    rw [dV] at this;cases this
   ·have hij:i≠j:=fun e=> by rw [e,lK] at hpi;cases hpi
    rw [getD_set_ne false hij]
    exact hfl j hj lK
   ·have hb1:tgt i≠b:=hbn i hil hpi dV
    rw [setRow_other _ _ _ _ (fun e=> hb1 e.symm)]
    refine hoth b fun k hk hpk hLk=> hbn k hk hpk ?_
    have hik:i≠k:=fun e=> by have hLk':L.getD k false=true:=hLk;rw [←e,h0'] at hLk';cases hLk'
    show (L.setIfInBounds i true).getD k false=true
    rw [getD_set_ne false hik];exact hLk
   ·by_cases hik:i=k
    ·subst hik;exact hrow.setRow _
    ·have hL':(L.setIfInBounds i true).getD k false=true:=hL
     rw [getD_set_ne false hik] at hL'
     obtain ⟨T,hT⟩:=hfil k hk hpk hL'
     exact ⟨T,by rw [setRow_other _ _ _ _ (hinj k i hk hil hpk hpi (fun e=> hik e.symm))];exact hT⟩
 ·rintro L a w hdone ⟨hs,hcl,hF,w1,hB,hSp,hno,hall,hos,htp,hou,hsz,hoth,hfil⟩
  exact hend a w1 w hB hF (fun j oj hj lK=> hSp j oj hj lK (hdone j (Array.getElem?_eq_some_iff.1 hj).1)) ⟨hos,htp,hou,hsz,fun b hb=> hoth b fun i hi hpi _=> hb i hi hpi rfl,fun i hi hpi _=> hfil i hi hpi (hdone i hi)⟩
end
end Go.aG
namespace Go.aG
open Go.RowKit
section
variable {P : Program} {ops : Array Oper} {Q : Exit → Act → World → Prop}
def tl (P:Program) (ops:Array Oper) (Q:Exit→Act→World→Prop):List Oper→Act→World→Prop
 | [],a,w=> Q .normal a w
 | o::rest,a,w=> if Region.wanted o (yielded ops a.tmps) then o.wp P a w (tl P ops Q rest) Q else tl P ops Q rest (a.put o.dst undef) w
theorem um {o:Oper} {rest:List Oper} {a:Act} {w:World} (hg:o.guard=none) (h:o.wp P a w (tl P ops Q rest) Q):tl P ops Q (o::rest) a w:=by
 unfold tl
 rw [if_pos (by simp [Region.wanted,hg])]
 exact h
theorem Bg {a:Act} {w:World} (h:Q .normal a w):tl P ops Q [] a w:=h
theorem zn {o:Oper} {rest:List Oper} {a:Act} {w:World} (hg:o.guard=none) (x:Operand) (hop:o.op=.move x∨o.op=.assign x) (h:tl P ops Q rest (a.put o.dst (a.eval x)) w):tl P ops Q (o::rest) a w:=by
 refine um hg ?_
 have hr:(execOp a.eval o).run P w=.ok (.value (a.eval x)) w:=by unfold execOp;rcases hop with h | h<;> rw [h] <;> rfl
 unfold Oper.wp
 rw [hr]
 exact h
def uq (ops:Array Oper) (n0:Nat):Bool:=(List.range ops.size).all fun i=> decide (i<n0) || (match ops[i]? with | none=> true | some o=> (let R:=dx ops i (bX o);(List.range i).all fun j=> R.contains j))
theorem nT {n0:Nat} (h:uq ops n0=true) {i:Nat} (hi:n0≤i) {o:Oper} (ho:ops[i]? =some o):∀j,j<i→j ∈ dx ops i (bX o):=by
 intro j hj
 unfold uq at h
 rw [List.all_eq_true] at h
 have:=h i (List.mem_range.2 (Array.getElem?_eq_some_iff.1 ho).1)
 rw [ho] at this
 simp only [Bool.or_eq_true,decide_eq_true_eq,List.all_eq_true] at this
 rcases this with h1 | h1
 ·omega
 ·simpa using h1 j (List.mem_range.2 hj)
theorem uW {a0:Act} {w0:World} {n:Nat} (n0:Nat) (hn0:n0<ops.size) (hb:dG ops=true) (hd:gL ops n=true) (ht:uq ops n0=true) (hn:a0.tmps.size=n)
  (Sp:Nat→Value→World→Prop) (stable:∀i v w w',Sp i v w→Below w.heap.size w w'→Sp i v w')
  (dz:∀i o,ops[i]? =some o→i<n0→∀a w,Below w0.heap.size w0 w→Fr (ops.toList.take n0).toArray a0 a→
   (∀j oj,ops[j]? =some oj→(∃e ∈ o.after,e.on=j∧Region.binds .any e=true)→Sp j (got oj a) w)→
   if Region.wanted o (yielded ops a.tmps) then o.wp P a w (fun a' w'=> ∃v,a'=a.put o.dst v∧(o.dst=none→v=undef)∧Sp i v w'∧Below w.heap.size w w') Q else Sp i undef w)
  (hend:∀a w,Below w0.heap.size w0 w→Fr (ops.toList.take n0).toArray a0 a→(∀j oj,ops[j]? =some oj→j<n0→Sp j (got oj a) w)→tl P ops Q (ops.toList.drop n0) a w):
  ∃Inv:Array Bool→Act→World→Prop,(Inv (Array.replicate ops.size false) a0 w0.drew∧Inv (Array.replicate ops.size false) a0 w0)∧
   (∀(L:Array Bool) (a:Act) (w:World) (i:Nat) (o:Oper),ops[i]? =some o→L.getD i true=false→(∀e ∈ o.after,Region.binds .any e=true→L.getD e.on false=true)→Inv L a w→
    if Region.wanted o (yielded ops a.tmps) then o.wp P a w (fun a' w'=> Inv (L.setIfInBounds i true) a' w') Q else Inv (L.setIfInBounds i true) (a.put o.dst undef) w)∧
   (∀(L:Array Bool) (a:Act) (w:World),(∀i,i<ops.size→L.getD i false=true)→Inv L a w→Q .normal a w):=by
 let Inv:=fun (L:Array Bool) (a:Act) (w:World)=> L.size=ops.size∧(∀(i:Nat) (o:Oper),ops[i]? =some o→L.getD i false=true→∀e ∈ o.after,Region.binds .any e=true→L.getD e.on false=true)∧
  if L.getD n0 false=true then ∃m,n0<m∧m≤ops.size∧(∀j,j<ops.size→(L.getD j false=true ↔ j<m))∧tl P ops Q (ops.toList.drop m) a w
  else Below w0.heap.size w0 w∧Fr (ops.toList.take n0).toArray a0 a∧∀j oj,ops[j]? =some oj→L.getD j false=true→Sp j (got oj a) w
 refine ⟨Inv,?_,?_,?_⟩
 ·have hno:∀j,(Array.replicate ops.size false).getD j false=false:=fun j=> by
   by_cases hj:j<ops.size<;> simp [hj]
  have key:∀w,Below w0.heap.size w0 w→Inv (Array.replicate ops.size false) a0 w:=fun w hB=>
   ⟨by simp,fun i o _ h=> (by rw [hno] at h;cases h),by rw [if_neg (by rw [hno];simp)];exact ⟨hB,⟨rfl,rfl,fun _ _=> rfl⟩,fun j oj _ hL=> by rw [hno] at hL;cases hL⟩⟩
  exact ⟨key _ (Below.refl _ _).drew,key _ (Below.refl _ _)⟩
 ·rintro L a w i o ho h0 dB ⟨hs,hcl,hI⟩
  have hil:=(Array.getElem?_eq_some_iff.1 ho).1
  have h0':L.getD i false=false:=by
   have hh:i<L.size:=by omega
   simpa [hh] using h0
  have dV:(L.setIfInBounds i true).getD i false=true:=by
   have:i<L.size:=by omega
   simp [this]
  have up:∀j,L.getD j false=true→(L.setIfInBounds i true).getD j false=true:=fun j hj=> by
   by_cases e:i=j
   ·subst e;exact dV
   ·rw [getD_set_ne false e];exact hj
  have hcl':∀(j:Nat) (oj:Oper),ops[j]? =some oj→(L.setIfInBounds i true).getD j false=true→∀e ∈ oj.after,Region.binds .any e=true→(L.setIfInBounds i true).getD e.on false=true:=by
   intro j oj hj hL e he hb
   by_cases hij:i=j
   ·subst hij
    rw [ho] at hj
    obtain rfl:=Option.some.inj hj
    exact up _ (dB e he hb)
   ·rw [getD_set_ne false hij] at hL
    exact up _ (hcl j oj hj hL e he hb)
  by_cases hlt:i<n0
  ·have hnl:¬ L.getD n0 false=true:=by
    intro h
    rw [if_pos h] at hI
    obtain ⟨m,h1,_,h2,_⟩:=hI
    have:=(h2 i hil).2 (by omega)
    rw [h0'] at this;cases this
   rw [if_neg hnl] at hI
   obtain ⟨hB,hF,hSp⟩:=hI
   have hst:=dz i o ho hlt a w hB hF (fun j oj hj ⟨e,he,jf,hbind⟩=> hSp j oj hj (by rw [←jf];exact dB e he hbind))
   have xS:∀d,o.dst=some d→d<a.tmps.size:=fun d hd'=> by rw [hF.2.1,hn];exact iy hd ho d hd'
   have next:∀v w',Below w.heap.size w w'→(o.dst=none→v=undef)→Sp i v w'→Inv (L.setIfInBounds i true) (a.put o.dst v) w':=by
    intro v w' hbel hnone hv
    refine ⟨by simpa using hs,hcl',?_⟩
    rw [if_neg (by rw [getD_set_ne false (by omega)];exact hnl)]
    refine ⟨hB.trans (hbel.mono hB.size),hF.put (show (ops.toList.take n0).toArray[i]? =some o by rw [←ho];simp [hlt]) v,fun j oj hj hL=> ?_⟩
    by_cases hij:i=j
    ·subst hij
     rw [ho] at hj
     obtain rfl:=Option.some.inj hj
     rw [bB v xS hnone]
     exact hv
    ·rw [aP v (aS hd ho hj hij)]
     rw [getD_set_ne false hij] at hL
     exact stable j _ w w' (hSp j oj hj hL) hbel
   split
   ·rename_i hw
    rw [if_pos hw] at hst
    exact Oper.wp_mono (fun a' w' ⟨v,ha,hnone,hv,hbel⟩=> by subst ha;exact next v w' hbel hnone hv) hst
   ·rename_i hw
    rw [if_neg hw] at hst
    exact next undef w (Below.refl _ _) (fun _=> rfl) hst
  ·have je:=bH (L:=fun j=> L.getD j false) hcl i (bX o) (fun k hk=> by obtain ⟨e,he,jf,hb⟩:=bI hk;rw [←jf];exact dB e he hb)
   have ru:∀j,j<i→L.getD j false=true:=fun j hj=> je j (nT ht (by omega) ho j hj)
   have htl:tl P ops Q (ops.toList.drop i) a w∧∀j,j<ops.size→(L.getD j false=true ↔ j<i):=by
    by_cases hin:i=n0
    ·subst hin
     rw [if_neg (by rw [h0'];simp)] at hI
     obtain ⟨hB,hF,hSp⟩:=hI
     refine ⟨hend a w hB hF fun j oj hj hlt=> hSp j oj hj (ru j hlt),fun j hj=> ⟨fun hL=> ?_,ru j⟩⟩
     rcases Nat.lt_trichotomy j i with h | h | h
     ·exact h
     ·subst h;rw [h0'] at hL;cases hL
     ·exfalso
      have hj':ops[j]? =some ops[j] :=by simp [hj]
      have:=bH (L:=fun j=> L.getD j false) hcl j (bX ops[j]) (fun k hk=> by obtain ⟨e,he,jf,hb⟩:=bI hk;rw [←jf];exact hcl j _ hj' hL e he hb) i (nT ht (by omega) hj' i h)
      rw [h0'] at this;cases this
    ·rw [if_pos (ru n0 (by omega))] at hI
     obtain ⟨m,h1,h2,h3,h4⟩:=hI
     have nL:m=i:=by
      rcases Nat.lt_trichotomy m i with h | h | h
      ·have:=(h3 m (by omega)).1 (ru m h);omega
      ·exact h
      ·have:=(h3 i hil).2 h;rw [h0'] at this;cases this
     subst nL
     exact ⟨h4,h3⟩
   obtain ⟨htl,hall⟩:=htl
   have hdrop:ops.toList.drop i=o::ops.toList.drop (i+1):=by
    rw [List.drop_eq_getElem_cons (by simpa using hil)]
    have:=(Array.getElem?_eq_some_iff.1 ho).2
    simp [this]
   rw [hdrop] at htl
   have next:∀a' w',tl P ops Q (ops.toList.drop (i+1)) a' w'→Inv (L.setIfInBounds i true) a' w':=by
    intro a' w' h
    refine ⟨by simpa using hs,hcl',?_⟩
    have GK:(L.setIfInBounds i true).getD n0 false=true:=by
     by_cases e:i=n0
     ·rw [←e];exact dV
     ·exact up _ (ru n0 (by omega))
    rw [if_pos GK]
    refine ⟨i+1,by omega,hil,fun j hj=> ?_,h⟩
    by_cases e:i=j
    ·subst e;exact ⟨fun _=> Nat.lt_succ_self _,fun _=> dV⟩
    ·rw [getD_set_ne false e,hall j hj];omega
   unfold tl at htl
   split
   ·rename_i hw
    rw [if_pos hw] at htl
    exact Oper.wp_mono (fun a' w' h=> next a' w' h) htl
   ·rename_i hw
    rw [if_neg hw] at htl
    exact next _ _ htl
 ·rintro L a w hdone ⟨hs,hcl,hI⟩
  rw [if_pos (hdone n0 hn0)] at hI
  obtain ⟨m,h1,h2,h3,h4⟩:=hI
  have hm':m=ops.size:=by
   rcases Nat.lt_or_ge m ops.size with h | h
   ·have:=(h3 m h).1 (hdone m h);omega
   ·omega
  subst hm'
  rw [List.drop_eq_nil_of_le (by simp)] at h4
  exact h4
theorem qL {id:Nat} {dr:Bool} {a0:Act} {w0:World} {n:Nat} (n0:Nat) (hn0:n0<ops.size) (hm:P.follows .mixedOrders=true) (hb:dG ops=true) (hd:gL ops n=true) (ht:uq ops n0=true) (hn:a0.tmps.size=n)
  (Sp:Nat→Value→World→Prop) (stable:∀i v w w',Sp i v w→Below w.heap.size w w'→Sp i v w')
  (dz:∀i o,ops[i]? =some o→i<n0→∀a w,Below w0.heap.size w0 w→Fr (ops.toList.take n0).toArray a0 a→
   (∀j oj,ops[j]? =some oj→(∃e ∈ o.after,e.on=j∧Region.binds .any e=true)→Sp j (got oj a) w)→
   if Region.wanted o (yielded ops a.tmps) then o.wp P a w (fun a' w'=> ∃v,a'=a.put o.dst v∧(o.dst=none→v=undef)∧Sp i v w'∧Below w.heap.size w w') Q else Sp i undef w)
  (hend:∀a w,Below w0.heap.size w0 w→Fr (ops.toList.take n0).toArray a0 a→(∀j oj,ops[j]? =some oj→j<n0→Sp j (got oj a) w)→tl P ops Q (ops.toList.drop n0) a w):
  (Code.region id ops dr).wp P Q a0 w0:=by
 obtain ⟨Inv,h1,h2,h3⟩:=uW (Q:=Q) n0 hn0 hb hd ht hn Sp stable dz hend
 exact bM hm hb Inv h1 h2 h3
end
end Go.aG
namespace Go.aG
open Go.RowKit
section
variable {P : Program} {ops : Array Oper} {Q : Exit → Act → World → Prop}
theorem iK {o:Oper} {a:Act} {w:World} {K:Act→World→Prop} {R:Exit→Act→World→Prop} (T:TypeId) (x y:Operand) (ho:o.op=.store T x y) (hd:o.dst=none) {k:IntKind} (b i n:Nat) (f:Nat→Int) (v:Int)
  (hi:(P.info? T).map (·.size)=some 1) (hx:a.eval x=.pointer (some ⟨b,i,none⟩)) (hy:a.eval y=.int k v) (h:aI k w b n f) (hin:i<n) (hK:K a (w.setCell ⟨b,i,none⟩ (.int k v))):o.wp P a w K R:=by
 have hr:=run_storeCells_cells (P:=P) b i [.int k v] 0 w
  (by
   intro j hj
   have hj0:j=0:=by simp at hj;omega
   subst hj0
   show (w.cell? ⟨b,i,none⟩).isSome=true
   rw [h.cell i hin];rfl)
  (by
   intro j hj
   exact h.free _)
  (by
   intro u hu
   simp at hu;subst hu;rfl)
 obtain ⟨q,hq,hs⟩:=Option.map_eq_some_iff.1 hi
 unfold Oper.wp execOp
 simp only [Nat.add_zero] at hr
 have hs2:(storeVar T ⟨b,i,none⟩ (.int k v)).run P w=.ok () (w.setCell ⟨b,i,none⟩ (.int k v)):=by
  simp [storeVar,sizeOf,typeInfo,hq,hs,Value.cells,hr,World.setCells]
 simp only [ho,hx,hy,Instr.storeAt,Instr.sureAddr,Sem.run_bind,Sem.run_pure,Result.andThen_ok,hs2]
 show K (a.put o.dst undef) _
 rw [hd]
 exact hK
end
end Go.aG
namespace Go.aG
open Go.RowKit
section
variable {P : Program} {ops : Array Oper} {Q : Exit → Act → World → Prop}
def mU (ops:Array Oper) (j i:Nat):Bool:=match ops[j]? with | some oj=> (dx ops j (bX oj)).contains i | none=> false
end
end Go.aG
namespace Go.aG
open Go.RowKit
section
variable {P : Program} {ops : Array Oper} {Q : Exit → Act → World → Prop}
def Ap (ops:Array Oper) (c:Nat):Bool:=decide (c<ops.size) && (List.range ops.size).all fun i=> i==c || mU ops c i || mU ops i c
theorem kG {o:Oper} {a:Act} {w:World} {T e:TypeId} {x:Operand} {b i:Nat} {v:Value} (ho:o.op=.load T x) (hx:a.eval x=.pointer (some ⟨b,i,none⟩)) (hu:P.underlying T=some (.pointer e)) (hc:w.cell? ⟨b,i,none⟩=some v):(execOp a.eval o).run P w=.ok (.value v) w:=by
 unfold execOp;simp only [ho,hx]
 simp [Instr.loadAt,Instr.sureAddr,loadVar,isAgg,run_underlying hu,go_sem,hc]
end
end Go.aG
namespace Go.aG
open Go.RowKit
section
variable {P : Program} {ops : Array Oper} {Q : Exit → Act → World → Prop}
def Bq (ops:Array Oper) (c i j:Nat):Bool:= !mU ops i c || j==c || mU ops j c
theorem pq {id:Nat} {dr:Bool} {a0:Act} {w0:World} {n:Nat} (c:Nat) (hm:P.follows .mixedOrders=true) (hb:dG ops=true) (hd:gL ops n=true) (hsd:Ap ops c=true) (hx:((List.range ops.size).all fun i=> !(mU ops c i && mU ops i c))=true) (hn:a0.tmps.size=n)
  (V:Nat→Value→Prop) (Sp:Nat→Value→World→Prop) (stable:∀j v w w',Sp j v w→Below w.heap.size w w'→Sp j v w') (POST:World→Prop) (LV:∀w w',POST w→Below w.heap.size w w'→POST w')
  (dz:∀i o,ops[i]? =some o→i≠c→∀a w,(mU ops c i=true→Below w0.heap.size w0 w)→(mU ops i c=true→POST w)→Fr ops a0 a→(∀j oj,ops[j]? =some oj→waits o j=true→V j (got oj a)∧(Bq ops c i j=true→Sp j (got oj a) w))→
   if Region.wanted o (yielded ops a.tmps) then o.wp P a w (fun a' w'=> ∃v,a'=a.put o.dst v∧(o.dst=none→v=undef)∧(V i v∧Sp i v w')∧Below w.heap.size w w') Q else V i undef∧Sp i undef w)
  (hcall:∀o,ops[c]? =some o→∀a w,Below w0.heap.size w0 w→Fr ops a0 a→(∀j oj,ops[j]? =some oj→waits o j=true→V j (got oj a)∧(Bq ops c c j=true→Sp j (got oj a) w))→
   Region.wanted o (yielded ops a.tmps)=true∧o.wp P a w (fun a' w'=> ∃v,a'=a.put o.dst v∧(o.dst=none→v=undef)∧(V c v∧Sp c v w')∧POST w') Q)
  (hend:∀a w,POST w→Fr ops a0 a→(∀j oj,ops[j]? =some oj→V j (got oj a)∧((j==c || mU ops j c)=true→Sp j (got oj a) w))→Q .normal a w):
  (Code.region id ops dr).wp P Q a0 w0:=by
 have hex:∀i,mU ops c i=true→mU ops i c=true→False:=fun i h1 h2=> by
  by_cases hi:i<ops.size
  ·have:=List.all_eq_true.1 hx i (List.mem_range.2 hi)
   rw [h1,h2] at this
   cases this
  ·unfold mU at h2
   rw [Array.getElem?_eq_none (by omega)] at h2
   cases h2
 have hcc:mU ops c c=false:=by
  cases h:mU ops c c with
  | false=> rfl
  | true=> exact (hex c h h).elim
 unfold Ap at hsd
 rw [Bool.and_eq_true,decide_eq_true_eq,List.all_eq_true] at hsd
 obtain ⟨hcs,hside⟩:=hsd
 refine bM hm hb (fun L a w=> L.size=ops.size∧(∀(i:Nat) (o:Oper),ops[i]? =some o→L.getD i false=true→∀e ∈ o.after,Region.binds .any e=true→L.getD e.on false=true)∧Fr ops a0 a∧
  (∀j oj,ops[j]? =some oj→L.getD j false=true→V j (got oj a)∧((L.getD c false=false∨(j==c || mU ops j c)=true)→Sp j (got oj a) w))∧(L.getD c false=false→Below w0.heap.size w0 w)∧(L.getD c false=true→POST w)) ?_ ?_ ?_
 ·have hno:∀j,(Array.replicate ops.size false).getD j false=false:=fun j=> by
   by_cases hj:j<ops.size<;> simp [hj]
  exact ⟨⟨by simp,fun i o _ h=> (by rw [hno] at h;cases h),⟨rfl,rfl,fun _ _=> rfl⟩,fun j oj _ hL=> (by rw [hno] at hL;cases hL),fun _=> (Below.refl _ _).drew,fun h=> (by rw [hno] at h;cases h)⟩,
   ⟨by simp,fun i o _ h=> (by rw [hno] at h;cases h),⟨rfl,rfl,fun _ _=> rfl⟩,fun j oj _ hL=> (by rw [hno] at hL;cases hL),fun _=> Below.refl _ _,fun h=> (by rw [hno] at h;cases h)⟩⟩
 ·rintro L a w i o ho h0 dB ⟨hs,hcl,hF,hV,hpre,hpost⟩
  have hil:=(Array.getElem?_eq_some_iff.1 ho).1
  have h0':L.getD i false=false:=by
   have hh:i<L.size:=by omega
   simpa [hh] using h0
  have dV:(L.setIfInBounds i true).getD i false=true:=by
   have:i<L.size:=by omega
   simp [this]
  have up:∀j,L.getD j false=true→(L.setIfInBounds i true).getD j false=true:=fun j hj=> by
   by_cases e:i=j
   ·subst e;exact dV
   ·rw [getD_set_ne false e];exact hj
  have hcl':∀(j:Nat) (oj:Oper),ops[j]? =some oj→(L.setIfInBounds i true).getD j false=true→∀e ∈ oj.after,Region.binds .any e=true→(L.setIfInBounds i true).getD e.on false=true:=by
   intro j oj hj hL e he hb
   by_cases hij:i=j
   ·subst hij
    rw [ho] at hj
    obtain rfl:=Option.some.inj hj
    exact up _ (dB e he hb)
   ·rw [getD_set_ne false hij] at hL
    exact up _ (hcl j oj hj hL e he hb)
  have pG:∀j oj,ops[j]? =some oj→waits o j=true→V j (got oj a)∧((L.getD c false=false∨(j==c || mU ops j c)=true)→Sp j (got oj a) w):=fun j oj hj hw=> by
   obtain ⟨e,he,jf,hbind⟩:=aj hw
   exact hV j oj hj (by rw [←jf];exact dB e he hbind)
  have hlt:∀d,o.dst=some d→d<a.tmps.size:=fun d hd'=> by rw [hF.2.1,hn];exact iy hd ho d hd'
  have Me:∀j oj,ops[j]? =some oj→L.getD j false=true→mU ops j c=true→L.getD c false=true:=fun j oj hj hL hup=> by
   unfold mU at hup
   rw [hj] at hup
   exact bH (L:=fun j=> L.getD j false) hcl j (bX oj) (fun k' hk'=> by obtain ⟨e,he,jf,hb⟩:=bI hk';rw [←jf];exact hcl j _ hj hL e he hb) c (by simpa using hup)
  by_cases hic:i=c
  ·subst hic
   obtain ⟨hw,hst⟩:=hcall o ho a w (hpre h0') hF (fun j oj hj hw=> ⟨(pG j oj hj hw).1,fun _=> (pG j oj hj hw).2 (.inl h0')⟩)
   rw [if_pos hw]
   refine Oper.wp_mono (fun a' w' ⟨v,ha,hnone,hv,hp⟩=> ?_) hst
   subst ha
   refine ⟨by simpa using hs,hcl',hF.put ho v,fun j oj hj hL=> ?_,fun h=> (by rw [dV] at h;cases h),fun _=> hp⟩
   by_cases hij:i=j
   ·subst hij
    rw [ho] at hj
    obtain rfl:=Option.some.inj hj
    rw [bB v hlt hnone]
    exact ⟨hv.1,fun _=> hv.2⟩
   ·rw [getD_set_ne false hij] at hL
    rw [aP v (aS hd ho hj hij)]
    refine ⟨(hV j oj hj hL).1,fun hk=> ?_⟩
    rcases hk with h | h
    ·rw [dV] at h;cases h
    ·rw [Bool.or_eq_true,beq_iff_eq] at h
     rcases h with h | h
     ·exact absurd h.symm hij
     ·have:=Me j oj hj hL h
      rw [h0'] at this;cases this
  ·have hcn:(L.setIfInBounds i true).getD c false=L.getD c false:=getD_set_ne false hic
   have next:∀v w',(o.dst=none→v=undef)→V i v∧Sp i v w'→Below w.heap.size w w'→(L.setIfInBounds i true).size=ops.size∧(∀(i':Nat) (o:Oper),ops[i']? =some o→(L.setIfInBounds i true).getD i' false=true→∀e ∈ o.after,Region.binds .any e=true→(L.setIfInBounds i true).getD e.on false=true)∧Fr ops a0 (a.put o.dst v)∧
     (∀j oj,ops[j]? =some oj→(L.setIfInBounds i true).getD j false=true→V j (got oj (a.put o.dst v))∧(((L.setIfInBounds i true).getD c false=false∨(j==c || mU ops j c)=true)→Sp j (got oj (a.put o.dst v)) w'))∧((L.setIfInBounds i true).getD c false=false→Below w0.heap.size w0 w')∧((L.setIfInBounds i true).getD c false=true→POST w'):=by
    intro v w' hnone hv hB
    refine ⟨by simpa using hs,hcl',hF.put ho v,fun j oj hj hL=> ?_,fun h=> ?_,fun h=> LV _ _ (hpost (by rw [←hcn];exact h)) hB⟩
    ·by_cases hij:i=j
     ·subst hij
      rw [ho] at hj
      obtain rfl:=Option.some.inj hj
      rw [bB v hlt hnone]
      exact ⟨hv.1,fun _=> hv.2⟩
     ·rw [aP v (aS hd ho hj hij)]
      rw [getD_set_ne false hij] at hL
      rw [hcn]
      exact ⟨(hV j oj hj hL).1,fun hk=> stable j _ w w' ((hV j oj hj hL).2 hk) hB⟩
    ·have:=hpre (by rw [←hcn];exact h)
     exact this.trans (hB.mono this.size)
   have xR:=hside i (List.mem_range.2 hil)
   rw [Bool.or_eq_true,Bool.or_eq_true,beq_iff_eq] at xR
   have hst:=dz i o ho hic a w (fun h=> by
     refine hpre ?_
     cases hq:L.getD c false with
     | false=> rfl
     | true=>
      have hup:=h
      unfold mU at hup
      rw [Array.getElem?_eq_getElem hcs] at hup
      have h:=bH (L:=fun j=> L.getD j false) hcl c (bX ops[c]) (fun k' hk'=> by obtain ⟨e,he,jf,hb⟩:=bI hk';rw [←jf];exact hcl c _ (Array.getElem?_eq_getElem hcs) hq e he hb) i (by simpa using hup)
      have h2:L.getD i false=true:=h
      rw [h0'] at h2;cases h2)
    (fun h=> by
     refine hpost ?_
     have hup:=h
     unfold mU at hup
     rw [ho] at hup
     exact bH (L:=fun j=> L.getD j false) hcl i (bX o) (fun k' hk'=> by obtain ⟨e,he,jf,hb⟩:=bI hk';rw [←jf];exact dB e he hb) c (by simpa using hup))
    hF (fun j oj hj hw=> ⟨(pG j oj hj hw).1,fun hk=> (pG j oj hj hw).2 (by
     unfold Bq at hk
     rw [Bool.or_eq_true,Bool.or_eq_true,Bool.not_eq_true'] at hk
     rcases hk with (hk | hk) | hk
     ·rcases xR with (h | h) | h
      ·exact absurd h hic
      ·left
       cases hq:L.getD c false with
       | false=> rfl
       | true=>
        have hup:=h
        unfold mU at hup
        rw [Array.getElem?_eq_getElem hcs] at hup
        have h:=bH (L:=fun j=> L.getD j false) hcl c (bX ops[c]) (fun k' hk'=> by obtain ⟨e,he,jf,hb⟩:=bI hk';rw [←jf];exact hcl c _ (Array.getElem?_eq_getElem hcs) hq e he hb) i (by simpa using hup)
        have h2:L.getD i false=true:=h
        rw [h0'] at h2;cases h2
      ·rw [h] at hk;cases hk
     ·right;rw [Bool.or_eq_true];exact .inl hk
     ·right;rw [Bool.or_eq_true];exact .inr hk)⟩)
   split
   ·rename_i hw
    rw [if_pos hw] at hst
    refine Oper.wp_mono (fun a' w' ⟨v,ha,hnone,hv,hp⟩=> ?_) hst
    subst ha
    exact next v w' hnone hv hp
   ·rename_i hw
    rw [if_neg hw] at hst
    exact next undef w (fun _=> rfl) hst (Below.refl _ _)
 ·rintro L a w hall ⟨hs,hcl,hF,hV,_,hpost⟩
  exact hend a w (hpost (hall c hcs)) hF fun j oj hj=> ⟨(hV j oj hj (hall j (Array.getElem?_eq_some_iff.1 hj).1)).1,fun hk=> (hV j oj hj (hall j (Array.getElem?_eq_some_iff.1 hj).1)).2 (.inr hk)⟩
theorem wC {o:Oper} {a:Act} {w:World} {S:Value→World→Prop} (f:FuncId) (args:Array Operand) (types:Array TypeId) (ho:o.op=.call ⟨.value (.func f),args,types⟩)
  (hcall:∀as w,(callFunc f as).run P w=.ok (.enter f as) w) (vs:Array Value) (hvs:args.map a.eval=vs) (hd:o.dst≠none) {POST:World→Prop}
  (hc:Calls P f vs w fun e w'=> ∃v,e=.returned v∧S v w'∧POST w'):
  o.wp P a w (fun a' w'=> ∃v,a'=a.put o.dst v∧(o.dst=none→v=undef)∧S v w'∧POST w') Q:=by
 unfold Oper.wp
 rw [iL ho hcall,hvs]
 refine hc.mono ?_
 rintro e w' ⟨v,rfl,hs,hb⟩
 exact ⟨v,rfl,fun h=> absurd h hd,hs,hb⟩
end
end Go.aG
