/-
  Part 12 of the texts that the proof of EscrowWrong rests on, one after the other. Conditions: named in each theorem.
-/
import Derived.Test.YtpcjekgfnfjbpaaGreatPkEscrowWrong4
import Derived.Maps.AppendAt
import Derived.Maps.Range
set_option linter.unusedVariables false
set_option linter.unusedSimpArgs false
namespace Go.aG
open Go.RowKit
section
variable {P : Program} {ops : Array Oper} {Q : Exit → Act → World → Prop}
def bY (o:Oper):List Nat:=o.after.toList.filterMap fun (e:Edge)=> if Region.binds .any e=true then some e.on else none
theorem bJ {o:Oper} {j:Nat} (h:j ∈ bY o):∃e ∈ o.after,e.on=j∧Region.binds .any e=true:=by
 unfold bY at h
 obtain ⟨e,he,hx⟩:=List.mem_filterMap.1 h
 by_cases hb:Region.binds .any e=true
 ·rw [if_pos hb] at hx
  exact ⟨e,by simpa using he,Option.some.inj hx,hb⟩
 ·rw [if_neg hb] at hx;cases hx
def dB (ops:Array Oper):Nat→List Nat→List Nat
 | 0,S=> S
 | k+1,S=> dB ops k (if S.contains k then (match ops[k]? with | some o=> bY o++S | none=> S) else S)
theorem bH {L:Nat→Bool} (hcl:∀(i:Nat) (o:Oper),ops[i]? =some o→L i=true→∀e ∈ o.after,Region.binds .any e=true→L e.on=true):
  ∀k S,(∀j ∈ S,L j=true)→∀j ∈ dB ops k S,L j=true:=by
 intro k
 induction k with
 | zero=> intro S h;exact h
 | succ k ih=>
  intro S h
  unfold dB
  refine ih _ ?_
  split
  ·rename_i hk
   have hLk:=h k (by simpa using hk)
   split
   ·rename_i o ho
    intro j hj
    rcases List.mem_append.1 hj with h1 | h1
    ·obtain ⟨e,he,jg,hb⟩:=bJ h1
     rw [←jg];exact hcl k o ho hLk e he hb
    ·exact h j h1
   ·exact h
  ·exact h
end
end Go.aG
namespace Go.aG
open Go.RowKit
section
variable {P : Program} {ops : Array Oper} {Q : Exit → Act → World → Prop}
def tl (P:Program) (ops:Array Oper) (Q:Exit→Act→World→Prop):List Oper→Act→World→Prop
 | [],a,w=> Q .normal a w
 | o::rest,a,w=> if Region.wanted o (yielded ops a.tmps) then o.wp P a w (tl P ops Q rest) Q else tl P ops Q rest (a.put o.dst undef) w
theorem ru {o:Oper} {rest:List Oper} {a:Act} {w:World} (hg:o.guard=none) (h:o.wp P a w (tl P ops Q rest) Q):tl P ops Q (o::rest) a w:=by
 unfold tl
 rw [if_pos (by simp [Region.wanted,hg])]
 exact h
theorem zl {a:Act} {w:World} (h:Q .normal a w):tl P ops Q [] a w:=h
theorem xu {o:Oper} {rest:List Oper} {a:Act} {w:World} (hg:o.guard=none) (x:Operand) (hop:o.op=.move x∨o.op=.assign x) (h:tl P ops Q rest (a.put o.dst (a.eval x)) w):tl P ops Q (o::rest) a w:=by
 refine ru hg ?_
 have hr:(execOp a.eval o).run P w=.ok (.value (a.eval x)) w:=by unfold execOp;rcases hop with h | h<;> rw [h] <;> rfl
 unfold Oper.wp
 rw [hr]
 exact h
def rz (ops:Array Oper) (n0:Nat):Bool:=(List.range ops.size).all fun i=> decide (i<n0) || (match ops[i]? with | none=> true | some o=> (let R:=dB ops i (bY o);(List.range i).all fun j=> R.contains j))
theorem lC {n0:Nat} (h:rz ops n0=true) {i:Nat} (hi:n0≤i) {o:Oper} (ho:ops[i]? =some o):∀j,j<i→j ∈ dB ops i (bY o):=by
 intro j hj
 unfold rz at h
 rw [List.all_eq_true] at h
 have:=h i (List.mem_range.2 (Array.getElem?_eq_some_iff.1 ho).1)
 rw [ho] at this
 simp only [Bool.or_eq_true,decide_eq_true_eq,List.all_eq_true] at this
 rcases this with h1 | h1
 ·omega
 ·simpa using h1 j (List.mem_range.2 hj)
theorem sF {a0:Act} {w0:World} {n:Nat} (n0:Nat) (hn0:n0<ops.size) (hb:dD ops=true) (hd:gF ops n=true) (ht:rz ops n0=true) (hn:a0.tmps.size=n)
  (Sp:Nat→Value→World→Prop) (stable:∀i v w w',Sp i v w→Below w.heap.size w w'→Sp i v w')
  (eF:∀i o,ops[i]? =some o→i<n0→∀a w,Below w0.heap.size w0 w→Fr (ops.toList.take n0).toArray a0 a→
   (∀j oj,ops[j]? =some oj→(∃e ∈ o.after,e.on=j∧Region.binds .any e=true)→Sp j (got oj a) w)→
   if Region.wanted o (yielded ops a.tmps) then o.wp P a w (fun a' w'=> ∃v,a'=a.put o.dst v∧(o.dst=none→v=undef)∧Sp i v w'∧Below w.heap.size w w') Q else Sp i undef w)
  (hend:∀a w,Below w0.heap.size w0 w→Fr (ops.toList.take n0).toArray a0 a→(∀j oj,ops[j]? =some oj→j<n0→Sp j (got oj a) w)→tl P ops Q (ops.toList.drop n0) a w):
  ∃Inv:Array Bool→Act→World→Prop,(Inv (Array.replicate ops.size false) a0 w0.drew∧Inv (Array.replicate ops.size false) a0 w0)∧
   (∀(L:Array Bool) (a:Act) (w:World) (i:Nat) (o:Oper),ops[i]? =some o→L.getD i true=false→(∀e ∈ o.after,Region.binds .any e=true→L.getD e.on false=true)→Inv L a w→
    if Region.wanted o (yielded ops a.tmps) then o.wp P a w (fun a' w'=> Inv (L.setIfInBounds i true) a' w') Q else Inv (L.setIfInBounds i true) (a.put o.dst undef) w)∧
   (∀(L:Array Bool) (a:Act) (w:World),(∀i,i<ops.size→L.getD i false=true)→Inv L a w→Q .normal a w):=by
 let Inv:=fun (L:Array Bool) (a:Act) (w:World)=> L.size=ops.size∧(∀(i:Nat) (o:Oper),ops[i]? =some o→L.getD i false=true→∀e ∈ o.after,Region.binds .any e=true→L.getD e.on false=true)∧
  if L.getD n0 false=true then ∃m,n0<m∧m≤ops.size∧(∀j,j<ops.size→(L.getD j false=true ↔ j<m))∧tl P ops Q (ops.toList.drop m) a w
  else Below w0.heap.size w0 w∧Fr (ops.toList.take n0).toArray a0 a∧∀j oj,ops[j]? =some oj→L.getD j false=true→Sp j (got oj a) w
 refine ⟨Inv,?_,?_,?_⟩
 ·have hno:∀j,(Array.replicate ops.size false).getD j false=false:=fun j=> by
   by_cases hj:j<ops.size<;> simp [hj]
  have key:∀w,Below w0.heap.size w0 w→Inv (Array.replicate ops.size false) a0 w:=fun w hB=>
   ⟨by simp,fun i o _ h=> (by rw [hno] at h;cases h),by rw [if_neg (by rw [hno];simp)];exact ⟨hB,⟨rfl,rfl,fun _ _=> rfl⟩,fun j oj _ hL=> by rw [hno] at hL;cases hL⟩⟩
  exact ⟨key _ (Below.refl _ _).drew,key _ (Below.refl _ _)⟩
 ·rintro L a w i o ho h0 dQ ⟨hs,hcl,hI⟩
  have hil:=(Array.getElem?_eq_some_iff.1 ho).1
  have h0':L.getD i false=false:=by
   have hh:i<L.size:=by omega
   simpa [hh] using h0
  have fu:(L.setIfInBounds i true).getD i false=true:=by
   have:i<L.size:=by omega
   simp [this]
  have up:∀j,L.getD j false=true→(L.setIfInBounds i true).getD j false=true:=fun j hj=> by
   by_cases e:i=j
   ·subst e;exact fu
   ·rw [getD_set_ne false e];exact hj
  have hcl':∀(j:Nat) (oj:Oper),ops[j]? =some oj→(L.setIfInBounds i true).getD j false=true→∀e ∈ oj.after,Region.binds .any e=true→(L.setIfInBounds i true).getD e.on false=true:=by
   intro j oj hj hL e he hb
   by_cases hij:i=j
   ·subst hij
    rw [ho] at hj
    obtain rfl:=Option.some.inj hj
    exact up _ (dQ e he hb)
   ·rw [getD_set_ne false hij] at hL
    exact up _ (hcl j oj hj hL e he hb)
  by_cases hlt:i<n0
  ·have hnl:¬ L.getD n0 false=true:=by
    intro h
    rw [if_pos h] at hI
    obtain ⟨m,h1,_,h2,_⟩:=hI
    have:=(h2 i hil).2 (by omega)
    rw [h0'] at this;cases this
   rw [if_neg hnl] at hI
   obtain ⟨hB,hF,hSp⟩:=hI
   have hst:=eF i o ho hlt a w hB hF (fun j oj hj ⟨e,he,jg,hbind⟩=> hSp j oj hj (by rw [←jg];exact dQ e he hbind))
   have zW:∀d,o.dst=some d→d<a.tmps.size:=fun d hd'=> by rw [hF.2.1,hn];exact iK hd ho d hd'
   have next:∀v w',Below w.heap.size w w'→(o.dst=none→v=undef)→Sp i v w'→Inv (L.setIfInBounds i true) (a.put o.dst v) w':=by
    intro v w' hbel hnone hv
    refine ⟨by simpa using hs,hcl',?_⟩
    rw [if_neg (by rw [getD_set_ne false (by omega)];exact hnl)]
    refine ⟨hB.trans (hbel.mono hB.size),hF.put (show (ops.toList.take n0).toArray[i]? =some o by rw [←ho];simp [hlt]) v,fun j oj hj hL=> ?_⟩
    by_cases hij:i=j
    ·subst hij
     rw [ho] at hj
     obtain rfl:=Option.some.inj hj
     rw [bK v zW hnone]
     exact hv
    ·rw [bn v (bg hd ho hj hij)]
     rw [getD_set_ne false hij] at hL
     exact stable j _ w w' (hSp j oj hj hL) hbel
   split
   ·rename_i hw
    rw [if_pos hw] at hst
    exact Oper.wp_mono (fun a' w' ⟨v,ha,hnone,hv,hbel⟩=> by subst ha;exact next v w' hbel hnone hv) hst
   ·rename_i hw
    rw [if_neg hw] at hst
    exact next undef w (Below.refl _ _) (fun _=> rfl) hst
  ·have gD:=bH (L:=fun j=> L.getD j false) hcl i (bY o) (fun k hk=> by obtain ⟨e,he,jg,hb⟩:=bJ hk;rw [←jg];exact dQ e he hb)
   have oO:∀j,j<i→L.getD j false=true:=fun j hj=> gD j (lC ht (by omega) ho j hj)
   have htl:tl P ops Q (ops.toList.drop i) a w∧∀j,j<ops.size→(L.getD j false=true ↔ j<i):=by
    by_cases hin:i=n0
    ·subst hin
     rw [if_neg (by rw [h0'];simp)] at hI
     obtain ⟨hB,hF,hSp⟩:=hI
     refine ⟨hend a w hB hF fun j oj hj hlt=> hSp j oj hj (oO j hlt),fun j hj=> ⟨fun hL=> ?_,oO j⟩⟩
     rcases Nat.lt_trichotomy j i with h | h | h
     ·exact h
     ·subst h;rw [h0'] at hL;cases hL
     ·exfalso
      have hj':ops[j]? =some ops[j] :=by simp [hj]
      have:=bH (L:=fun j=> L.getD j false) hcl j (bY ops[j]) (fun k hk=> by obtain ⟨e,he,jg,hb⟩:=bJ hk;rw [←jg];exact hcl j _ hj' hL e he hb) i (lC ht (by omega) hj' i h)
      rw [h0'] at this;cases this
    ·rw [if_pos (oO n0 (by omega))] at hI
     obtain ⟨m,h1,h2,h3,h4⟩:=hI
     have kU:m=i:=by
      rcases Nat.lt_trichotomy m i with h | h | h
      ·have:=(h3 m (by omega)).1 (oO m h);omega
      ·exact h
      ·have:=(h3 i hil).2 h;rw [h0'] at this;cases this
     subst kU
     exact ⟨h4,h3⟩
   obtain ⟨htl,hall⟩:=htl
   have hdrop:ops.toList.drop i=o::ops.toList.drop (i+1):=by
    rw [List.drop_eq_getElem_cons (by simpa using hil)]
    have:=(Array.getElem?_eq_some_iff.1 ho).2
    simp [this]
   rw [hdrop] at htl
   have next:∀a' w',tl P ops Q (ops.toList.drop (i+1)) a' w'→Inv (L.setIfInBounds i true) a' w':=by
    intro a' w' h
    refine ⟨by simpa using hs,hcl',?_⟩
    have ES:(L.setIfInBounds i true).getD n0 false=true:=by
     by_cases e:i=n0
     ·rw [←e];exact fu
     ·exact up _ (oO n0 (by omega))
    rw [if_pos ES]
    refine ⟨i+1,by omega,hil,fun j hj=> ?_,h⟩
    by_cases e:i=j
    ·subst e;exact ⟨fun _=> Nat.lt_succ_self _,fun _=> fu⟩
    ·rw [getD_set_ne false e,hall j hj];omega
   unfold tl at htl
   split
   ·rename_i hw
    rw [if_pos hw] at htl
    exact Oper.wp_mono (fun a' w' h=> next a' w' h) htl
   ·rename_i hw
    rw [if_neg hw] at htl
    exact next _ _ htl
 ·rintro L a w hdone ⟨hs,hcl,hI⟩
  rw [if_pos (hdone n0 hn0)] at hI
  obtain ⟨m,h1,h2,h3,h4⟩:=hI
  have hm':m=ops.size:=by
   rcases Nat.lt_or_ge m ops.size with h | h
   ·have:=(h3 m h).1 (hdone m h);omega
   ·omega
  subst hm'
  rw [List.drop_eq_nil_of_le (by simp)] at h4
  exact h4
theorem oz {id:Nat} {dr:Bool} {a0:Act} {w0:World} {n:Nat} (n0:Nat) (hn0:n0<ops.size) (hm:P.follows .mixedOrders=true) (hb:dD ops=true) (hd:gF ops n=true) (ht:rz ops n0=true) (hn:a0.tmps.size=n)
  (Sp:Nat→Value→World→Prop) (stable:∀i v w w',Sp i v w→Below w.heap.size w w'→Sp i v w')
  (eF:∀i o,ops[i]? =some o→i<n0→∀a w,Below w0.heap.size w0 w→Fr (ops.toList.take n0).toArray a0 a→
   (∀j oj,ops[j]? =some oj→(∃e ∈ o.after,e.on=j∧Region.binds .any e=true)→Sp j (got oj a) w)→
   if Region.wanted o (yielded ops a.tmps) then o.wp P a w (fun a' w'=> ∃v,a'=a.put o.dst v∧(o.dst=none→v=undef)∧Sp i v w'∧Below w.heap.size w w') Q else Sp i undef w)
  (hend:∀a w,Below w0.heap.size w0 w→Fr (ops.toList.take n0).toArray a0 a→(∀j oj,ops[j]? =some oj→j<n0→Sp j (got oj a) w)→tl P ops Q (ops.toList.drop n0) a w):
  (Code.region id ops dr).wp P Q a0 w0:=by
 obtain ⟨Inv,h1,h2,h3⟩:=sF (Q:=Q) n0 hn0 hb hd ht hn Sp stable eF hend
 exact bV hm hb Inv h1 h2 h3
end
end Go.aG
namespace Go.aG
open Go.RowKit
section
variable {P : Program} {ops : Array Oper} {Q : Exit → Act → World → Prop}
end
end Go.aG
namespace Go.aG
open Go.RowKit
section
variable {P : Program} {ops : Array Oper} {Q : Exit → Act → World → Prop}
def kG (ops:Array Oper) (j i:Nat):Bool:=match ops[j]? with | some oj=> (dB ops j (bY oj)).contains i | none=> false
end
end Go.aG
namespace Go.aG
open Go.RowKit
section
variable {P : Program} {ops : Array Oper} {Q : Exit → Act → World → Prop}
def yC (ops:Array Oper) (c:Nat):Bool:=decide (c<ops.size) && (List.range ops.size).all fun i=> i==c || kG ops c i || kG ops i c
theorem oh {o:Oper} {a:Act} {w:World} {T e:TypeId} {x:Operand} {b i:Nat} {v:Value} (ho:o.op=.load T x) (hx:a.eval x=.pointer (some ⟨b,i,none⟩)) (hu:P.underlying T=some (.pointer e)) (hc:w.cell? ⟨b,i,none⟩=some v):(execOp a.eval o).run P w=.ok (.value v) w:=by
 unfold execOp;simp only [ho,hx]
 simp [Instr.loadAt,Instr.sureAddr,loadVar,isAgg,run_underlying hu,go_sem,hc]
end
end Go.aG
namespace Go.aG
open Go.RowKit
section
variable {P : Program} {ops : Array Oper} {Q : Exit → Act → World → Prop}
def zB (ops:Array Oper) (c i j:Nat):Bool:= !kG ops i c || j==c || kG ops j c
theorem eP {id:Nat} {dr:Bool} {a0:Act} {w0:World} {n:Nat} (c:Nat) (hm:P.follows .mixedOrders=true) (hb:dD ops=true) (hd:gF ops n=true) (hsd:yC ops c=true) (hx:((List.range ops.size).all fun i=> !(kG ops c i && kG ops i c))=true) (hn:a0.tmps.size=n)
  (V:Nat→Value→Prop) (Sp:Nat→Value→World→Prop) (stable:∀j v w w',Sp j v w→Below w.heap.size w w'→Sp j v w') (POST:World→Prop) (Jk:∀w w',POST w→Below w.heap.size w w'→POST w')
  (eF:∀i o,ops[i]? =some o→i≠c→∀a w,(kG ops c i=true→Below w0.heap.size w0 w)→(kG ops i c=true→POST w)→Fr ops a0 a→(∀j oj,ops[j]? =some oj→waits o j=true→V j (got oj a)∧(zB ops c i j=true→Sp j (got oj a) w))→
   if Region.wanted o (yielded ops a.tmps) then o.wp P a w (fun a' w'=> ∃v,a'=a.put o.dst v∧(o.dst=none→v=undef)∧(V i v∧Sp i v w')∧Below w.heap.size w w') Q else V i undef∧Sp i undef w)
  (hcall:∀o,ops[c]? =some o→∀a w,Below w0.heap.size w0 w→Fr ops a0 a→(∀j oj,ops[j]? =some oj→waits o j=true→V j (got oj a)∧(zB ops c c j=true→Sp j (got oj a) w))→
   Region.wanted o (yielded ops a.tmps)=true∧o.wp P a w (fun a' w'=> ∃v,a'=a.put o.dst v∧(o.dst=none→v=undef)∧(V c v∧Sp c v w')∧POST w') Q)
  (hend:∀a w,POST w→Fr ops a0 a→(∀j oj,ops[j]? =some oj→V j (got oj a)∧((j==c || kG ops j c)=true→Sp j (got oj a) w))→Q .normal a w):
  (Code.region id ops dr).wp P Q a0 w0:=by
 have hex:∀i,kG ops c i=true→kG ops i c=true→False:=fun i h1 h2=> by
  by_cases hi:i<ops.size
  ·have:=List.all_eq_true.1 hx i (List.mem_range.2 hi)
   rw [h1,h2] at this
   cases this
  ·unfold kG at h2
   rw [Array.getElem?_eq_none (by omega)] at h2
   cases h2
 have hcc:kG ops c c=false:=by
  cases h:kG ops c c with
  | false=> rfl
  | true=> exact (hex c h h).elim
 unfold yC at hsd
 rw [Bool.and_eq_true,decide_eq_true_eq,List.all_eq_true] at hsd
 obtain ⟨hcs,hside⟩:=hsd
 refine bV hm hb (fun L a w=> L.size=ops.size∧(∀(i:Nat) (o:Oper),ops[i]? =some o→L.getD i false=true→∀e ∈ o.after,Region.binds .any e=true→L.getD e.on false=true)∧Fr ops a0 a∧
  (∀j oj,ops[j]? =some oj→L.getD j false=true→V j (got oj a)∧((L.getD c false=false∨(j==c || kG ops j c)=true)→Sp j (got oj a) w))∧(L.getD c false=false→Below w0.heap.size w0 w)∧(L.getD c false=true→POST w)) ?_ ?_ ?_
 ·have hno:∀j,(Array.replicate ops.size false).getD j false=false:=fun j=> by
   by_cases hj:j<ops.size<;> simp [hj]
  exact ⟨⟨by simp,fun i o _ h=> (by rw [hno] at h;cases h),⟨rfl,rfl,fun _ _=> rfl⟩,fun j oj _ hL=> (by rw [hno] at hL;cases hL),fun _=> (Below.refl _ _).drew,fun h=> (by rw [hno] at h;cases h)⟩,
   ⟨by simp,fun i o _ h=> (by rw [hno] at h;cases h),⟨rfl,rfl,fun _ _=> rfl⟩,fun j oj _ hL=> (by rw [hno] at hL;cases hL),fun _=> Below.refl _ _,fun h=> (by rw [hno] at h;cases h)⟩⟩
 ·rintro L a w i o ho h0 dQ ⟨hs,hcl,hF,hV,hpre,hpost⟩
  have hil:=(Array.getElem?_eq_some_iff.1 ho).1
  have h0':L.getD i false=false:=by
   have hh:i<L.size:=by omega
   simpa [hh] using h0
  have fu:(L.setIfInBounds i true).getD i false=true:=by
   have:i<L.size:=by omega
   simp [this]
  have up:∀j,L.getD j false=true→(L.setIfInBounds i true).getD j false=true:=fun j hj=> by
   by_cases e:i=j
   ·subst e;exact fu
   ·rw [getD_set_ne false e];exact hj
  have hcl':∀(j:Nat) (oj:Oper),ops[j]? =some oj→(L.setIfInBounds i true).getD j false=true→∀e ∈ oj.after,Region.binds .any e=true→(L.setIfInBounds i true).getD e.on false=true:=by
   intro j oj hj hL e he hb
   by_cases hij:i=j
   ·subst hij
    rw [ho] at hj
    obtain rfl:=Option.some.inj hj
    exact up _ (dQ e he hb)
   ·rw [getD_set_ne false hij] at hL
    exact up _ (hcl j oj hj hL e he hb)
  have mW:∀j oj,ops[j]? =some oj→waits o j=true→V j (got oj a)∧((L.getD c false=false∨(j==c || kG ops j c)=true)→Sp j (got oj a) w):=fun j oj hj hw=> by
   obtain ⟨e,he,jg,hbind⟩:=aj hw
   exact hV j oj hj (by rw [←jg];exact dQ e he hbind)
  have hlt:∀d,o.dst=some d→d<a.tmps.size:=fun d hd'=> by rw [hF.2.1,hn];exact iK hd ho d hd'
  have Jq:∀j oj,ops[j]? =some oj→L.getD j false=true→kG ops j c=true→L.getD c false=true:=fun j oj hj hL hup=> by
   unfold kG at hup
   rw [hj] at hup
   exact bH (L:=fun j=> L.getD j false) hcl j (bY oj) (fun k' hk'=> by obtain ⟨e,he,jg,hb⟩:=bJ hk';rw [←jg];exact hcl j _ hj hL e he hb) c (by simpa using hup)
  by_cases hic:i=c
  ·subst hic
   obtain ⟨hw,hst⟩:=hcall o ho a w (hpre h0') hF (fun j oj hj hw=> ⟨(mW j oj hj hw).1,fun _=> (mW j oj hj hw).2 (.inl h0')⟩)
   rw [if_pos hw]
   refine Oper.wp_mono (fun a' w' ⟨v,ha,hnone,hv,hp⟩=> ?_) hst
   subst ha
   refine ⟨by simpa using hs,hcl',hF.put ho v,fun j oj hj hL=> ?_,fun h=> (by rw [fu] at h;cases h),fun _=> hp⟩
   by_cases hij:i=j
   ·subst hij
    rw [ho] at hj
    obtain rfl:=Option.some.inj hj
    rw [bK v hlt hnone]
    exact ⟨hv.1,fun _=> hv.2⟩
   ·rw [getD_set_ne false hij] at hL
    rw [bn v (bg hd ho hj hij)]
    refine ⟨(hV j oj hj hL).1,fun hk=> ?_⟩
    rcases hk with h | h
    ·rw [fu] at h;cases h
    ·rw [Bool.or_eq_true,beq_iff_eq] at h
     rcases h with h | h
     ·exact absurd h.symm hij
     ·have:=Jq j oj hj hL h
      rw [h0'] at this;cases this
  ·have hcn:(L.setIfInBounds i true).getD c false=L.getD c false:=getD_set_ne false hic
   have next:∀v w',(o.dst=none→v=undef)→V i v∧Sp i v w'→Below w.heap.size w w'→(L.setIfInBounds i true).size=ops.size∧(∀(i':Nat) (o:Oper),ops[i']? =some o→(L.setIfInBounds i true).getD i' false=true→∀e ∈ o.after,Region.binds .any e=true→(L.setIfInBounds i true).getD e.on false=true)∧Fr ops a0 (a.put o.dst v)∧
     (∀j oj,ops[j]? =some oj→(L.setIfInBounds i true).getD j false=true→V j (got oj (a.put o.dst v))∧(((L.setIfInBounds i true).getD c false=false∨(j==c || kG ops j c)=true)→Sp j (got oj (a.put o.dst v)) w'))∧((L.setIfInBounds i true).getD c false=false→Below w0.heap.size w0 w')∧((L.setIfInBounds i true).getD c false=true→POST w'):=by
    intro v w' hnone hv hB
    refine ⟨by simpa using hs,hcl',hF.put ho v,fun j oj hj hL=> ?_,fun h=> ?_,fun h=> Jk _ _ (hpost (by rw [←hcn];exact h)) hB⟩
    ·by_cases hij:i=j
     ·subst hij
      rw [ho] at hj
      obtain rfl:=Option.some.inj hj
      rw [bK v hlt hnone]
      exact ⟨hv.1,fun _=> hv.2⟩
     ·rw [bn v (bg hd ho hj hij)]
      rw [getD_set_ne false hij] at hL
      rw [hcn]
      exact ⟨(hV j oj hj hL).1,fun hk=> stable j _ w w' ((hV j oj hj hL).2 hk) hB⟩
    ·have:=hpre (by rw [←hcn];exact h)
     exact this.trans (hB.mono this.size)
   have vg:=hside i (List.mem_range.2 hil)
   rw [Bool.or_eq_true,Bool.or_eq_true,beq_iff_eq] at vg
   have hst:=eF i o ho hic a w (fun h=> by
     refine hpre ?_
     cases hq:L.getD c false with
     | false=> rfl
     | true=>
      have hup:=h
      unfold kG at hup
      rw [Array.getElem?_eq_getElem hcs] at hup
      have h:=bH (L:=fun j=> L.getD j false) hcl c (bY ops[c]) (fun k' hk'=> by obtain ⟨e,he,jg,hb⟩:=bJ hk';rw [←jg];exact hcl c _ (Array.getElem?_eq_getElem hcs) hq e he hb) i (by simpa using hup)
      have h2:L.getD i false=true:=h
      rw [h0'] at h2;cases h2)
    (fun h=> by
     refine hpost ?_
     have hup:=h
     unfold kG at hup
     rw [ho] at hup
     exact bH (L:=fun j=> L.getD j false) hcl i (bY o) (fun k' hk'=> by obtain ⟨e,he,jg,hb⟩:=bJ hk';rw [←jg];exact dQ e he hb) c (by simpa using hup))
    hF (fun j oj hj hw=> ⟨(mW j oj hj hw).1,fun hk=> (mW j oj hj hw).2 (by
     unfold zB at hk
     rw [Bool.or_eq_true,Bool.or_eq_true,Bool.not_eq_true'] at hk
     rcases hk with (hk | hk) | hk
     ·rcases vg with (h | h) | h
      ·exact absurd h hic
      ·left
       cases hq:L.getD c false with
       | false=> rfl
       | true=>
        have hup:=h
        unfold kG at hup
        rw [Array.getElem?_eq_getElem hcs] at hup
        have h:=bH (L:=fun j=> L.getD j false) hcl c (bY ops[c]) (fun k' hk'=> by obtain ⟨e,he,jg,hb⟩:=bJ hk';rw [←jg];exact hcl c _ (Array.getElem?_eq_getElem hcs) hq e he hb) i (by simpa using hup)
        have h2:L.getD i false=true:=h
        rw [h0'] at h2;cases h2
      ·rw [h] at hk;cases hk
     ·right;rw [Bool.or_eq_true];exact .inl hk
     ·right;rw [Bool.or_eq_true];exact .inr hk)⟩)
   split
   ·rename_i hw
    rw [if_pos hw] at hst
    refine Oper.wp_mono (fun a' w' ⟨v,ha,hnone,hv,hp⟩=> ?_) hst
    subst ha
    exact next v w' hnone hv hp
   ·rename_i hw
    rw [if_neg hw] at hst
    exact next undef w (fun _=> rfl) hst (Below.refl _ _)
 ·rintro L a w hall ⟨hs,hcl,hF,hV,_,hpost⟩
  exact hend a w (hpost (hall c hcs)) hF fun j oj hj=> ⟨(hV j oj hj (hall j (Array.getElem?_eq_some_iff.1 hj).1)).1,fun hk=> (hV j oj hj (hall j (Array.getElem?_eq_some_iff.1 hj).1)).2 (.inr hk)⟩
theorem jA {o:Oper} {a:Act} {w:World} {S:Value→World→Prop} (f:FuncId) (args:Array Operand) (types:Array TypeId) (ho:o.op=.call ⟨.value (.func f),args,types⟩)
  (hcall:∀as w,(callFunc f as).run P w=.ok (.enter f as) w) (vs:Array Value) (hvs:args.map a.eval=vs) (hd:o.dst≠none) {POST:World→Prop}
  (hc:Calls P f vs w fun e w'=> ∃v,e=.returned v∧S v w'∧POST w'):
  o.wp P a w (fun a' w'=> ∃v,a'=a.put o.dst v∧(o.dst=none→v=undef)∧S v w'∧POST w') Q:=by
 unfold Oper.wp
 rw [fU ho hcall,hvs]
 refine hc.mono ?_
 rintro e w' ⟨v,rfl,hs,hb⟩
 exact ⟨v,rfl,fun h=> absurd h hd,hs,hb⟩
end
end Go.aG
