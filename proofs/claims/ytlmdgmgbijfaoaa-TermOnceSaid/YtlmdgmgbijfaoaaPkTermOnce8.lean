/-
  Part 8 of the texts that the proof of TermOnce rests on, one after the other. Conditions: named in each theorem.
-/
import Derived.BigQuiet
import Derived.ChangeKeysEq
import Derived.Deep.DrawnRows
import Derived.Deep.QuietTactic
import Derived.Deep.RegionHeld3
import Derived.Deep.WholeRow
import Derived.Laws.CopyOwn
import Derived.Laws.StructEq
import Derived.Lib.Hide
import Derived.Maps.AppendAt
import Derived.Maps.Range
import Derived.Orders
import Derived.Test.YtlmdgmgbijfaoaaArr
import Derived.Test.YtlmdgmgbijfaoaaFlow
import Derived.Test.YtlmdgmgbijfaoaaKit
import Derived.WalkKit
import Derived.WalkLawsBesides
import Derived.WalkSmall
import Derived.WalkSpells
set_option linter.unusedVariables false
set_option linter.unusedSimpArgs false
namespace Go.Bas
open Go.RowKit
section
variable {P : Program} {ops : Array Oper} {Q : Exit → Act → World → Prop}
def depsL (o:Oper):List Nat:=o.after.toList.filterMap fun (e:Edge)=> if Region.binds .any e=true then some e.on else none
theorem depsL_spec {o:Oper} {j:Nat} (h:j ∈ depsL o):∃e ∈ o.after,e.on=j∧Region.binds .any e=true:=by
 unfold depsL at h
 obtain ⟨e,he,hx⟩:=List.mem_filterMap.1 h
 by_cases hb:Region.binds .any e=true
 ·rw [if_pos hb] at hx
  exact ⟨e,by simpa using he,Option.some.inj hx,hb⟩
 ·rw [if_neg hb] at hx;cases hx
def reachL (ops:Array Oper):Nat→List Nat→List Nat
 | 0,S=> S
 | k+1,S=> reachL ops k (if S.contains k then (match ops[k]? with | some o=> depsL o++S | none=> S) else S)
theorem reachL_spec {L:Nat→Bool} (hcl:∀(i:Nat) (o:Oper),ops[i]? =some o→L i=true→∀e ∈ o.after,Region.binds .any e=true→L e.on=true):
  ∀k S,(∀j ∈ S,L j=true)→∀j ∈ reachL ops k S,L j=true:=by
 intro k
 induction k with
 | zero=> intro S h;exact h
 | succ k ih=>
  intro S h
  unfold reachL
  refine ih _ ?_
  split
  ·rename_i hk
   have hLk:=h k (by simpa using hk)
   split
   ·rename_i o ho
    intro j hj
    rcases List.mem_append.1 hj with h1 | h1
    ·obtain ⟨e,he,hej,hb⟩:=depsL_spec h1
     rw [←hej];exact hcl k o ho hLk e he hb
    ·exact h j h1
   ·exact h
  ·exact h
end
end Go.Bas
namespace Go.Bas
open Go.RowKit
section
variable {P : Program} {ops : Array Oper} {Q : Exit → Act → World → Prop}
def tl (P:Program) (ops:Array Oper) (Q:Exit→Act→World→Prop):List Oper→Act→World→Prop
 | [],a,w=> Q .normal a w
 | o::rest,a,w=> if Region.wanted o (yielded ops a.tmps) then o.wp P a w (tl P ops Q rest) Q else tl P ops Q rest (a.put o.dst undef) w
theorem tl_step {o:Oper} {rest:List Oper} {a:Act} {w:World} (hg:o.guard=none) (h:o.wp P a w (tl P ops Q rest) Q):tl P ops Q (o::rest) a w:=by
 unfold tl
 rw [if_pos (by simp [Region.wanted,hg])]
 exact h
theorem tl_nil {a:Act} {w:World} (h:Q .normal a w):tl P ops Q [] a w:=h
def tailB (ops:Array Oper) (n0:Nat):Bool:=(List.range ops.size).all fun i=> decide (i<n0) || (match ops[i]? with | none=> true | some o=> (let R:=reachL ops i (depsL o);(List.range i).all fun j=> R.contains j))
theorem tail_spec {n0:Nat} (h:tailB ops n0=true) {i:Nat} (hi:n0≤i) {o:Oper} (ho:ops[i]? =some o):∀j,j<i→j ∈ reachL ops i (depsL o):=by
 intro j hj
 unfold tailB at h
 rw [List.all_eq_true] at h
 have:=h i (List.mem_range.2 (Array.getElem?_eq_some_iff.1 ho).1)
 rw [ho] at this
 simp only [Bool.or_eq_true,decide_eq_true_eq,List.all_eq_true] at this
 rcases this with h1 | h1
 ·omega
 ·simpa using h1 j (List.mem_range.2 hj)
theorem tail_core {a0:Act} {w0:World} {n:Nat} (n0:Nat) (hn0:n0<ops.size) (hb:backB ops=true) (hd:dstB ops n=true) (ht:tailB ops n0=true) (hn:a0.tmps.size=n)
  (Sp:Nat→Value→World→Prop) (stable:∀i v w w',Sp i v w→Below w.heap.size w w'→Sp i v w')
  (hflow:∀i o,ops[i]? =some o→i<n0→∀a w,Below w0.heap.size w0 w→Fr (ops.toList.take n0).toArray a0 a→
   (∀j oj,ops[j]? =some oj→(∃e ∈ o.after,e.on=j∧Region.binds .any e=true)→Sp j (got oj a) w)→
   if Region.wanted o (yielded ops a.tmps) then o.wp P a w (fun a' w'=> ∃v,a'=a.put o.dst v∧(o.dst=none→v=undef)∧Sp i v w'∧Below w.heap.size w w') Q else Sp i undef w)
  (hend:∀a w,Below w0.heap.size w0 w→Fr (ops.toList.take n0).toArray a0 a→(∀j oj,ops[j]? =some oj→j<n0→Sp j (got oj a) w)→tl P ops Q (ops.toList.drop n0) a w):
  ∃Inv:Array Bool→Act→World→Prop,(Inv (Array.replicate ops.size false) a0 w0.drew∧Inv (Array.replicate ops.size false) a0 w0)∧
   (∀(L:Array Bool) (a:Act) (w:World) (i:Nat) (o:Oper),ops[i]? =some o→L.getD i true=false→(∀e ∈ o.after,Region.binds .any e=true→L.getD e.on false=true)→Inv L a w→
    if Region.wanted o (yielded ops a.tmps) then o.wp P a w (fun a' w'=> Inv (L.setIfInBounds i true) a' w') Q else Inv (L.setIfInBounds i true) (a.put o.dst undef) w)∧
   (∀(L:Array Bool) (a:Act) (w:World),(∀i,i<ops.size→L.getD i false=true)→Inv L a w→Q .normal a w):=by
 let Inv:=fun (L:Array Bool) (a:Act) (w:World)=> L.size=ops.size∧(∀(i:Nat) (o:Oper),ops[i]? =some o→L.getD i false=true→∀e ∈ o.after,Region.binds .any e=true→L.getD e.on false=true)∧
  if L.getD n0 false=true then ∃m,n0<m∧m≤ops.size∧(∀j,j<ops.size→(L.getD j false=true ↔ j<m))∧tl P ops Q (ops.toList.drop m) a w
  else Below w0.heap.size w0 w∧Fr (ops.toList.take n0).toArray a0 a∧∀j oj,ops[j]? =some oj→L.getD j false=true→Sp j (got oj a) w
 refine ⟨Inv,?_,?_,?_⟩
 ·have hno:∀j,(Array.replicate ops.size false).getD j false=false:=fun j=> by
   by_cases hj:j<ops.size<;> simp [hj]
  have key:∀w,Below w0.heap.size w0 w→Inv (Array.replicate ops.size false) a0 w:=fun w hB=>
   ⟨by simp,fun i o _ h=> (by rw [hno] at h;cases h),by rw [if_neg (by rw [hno];simp)];exact ⟨hB,⟨rfl,rfl,fun _ _=> rfl⟩,fun j oj _ hL=> by rw [hno] at hL;cases hL⟩⟩
  exact ⟨key _ (Below.refl _ _).drew,key _ (Below.refl _ _)⟩
 ·rintro L a w i o ho h0 hdep ⟨hs,hcl,hI⟩
  have hil:=(Array.getElem?_eq_some_iff.1 ho).1
  have h0':L.getD i false=false:=by
   have hh:i<L.size:=by omega
   simpa [hh] using h0
  have hseti:(L.setIfInBounds i true).getD i false=true:=by
   have:i<L.size:=by omega
   simp [this]
  have up:∀j,L.getD j false=true→(L.setIfInBounds i true).getD j false=true:=fun j hj=> by
   by_cases e:i=j
   ·subst e;exact hseti
   ·rw [getD_set_ne false e];exact hj
  have hcl':∀(j:Nat) (oj:Oper),ops[j]? =some oj→(L.setIfInBounds i true).getD j false=true→∀e ∈ oj.after,Region.binds .any e=true→(L.setIfInBounds i true).getD e.on false=true:=by
   intro j oj hj hL e he hb
   by_cases hij:i=j
   ·subst hij
    rw [ho] at hj
    obtain rfl:=Option.some.inj hj
    exact up _ (hdep e he hb)
   ·rw [getD_set_ne false hij] at hL
    exact up _ (hcl j oj hj hL e he hb)
  by_cases hlt:i<n0
  ·have hnl:¬ L.getD n0 false=true:=by
    intro h
    rw [if_pos h] at hI
    obtain ⟨m,h1,_,h2,_⟩:=hI
    have:=(h2 i hil).2 (by omega)
    rw [h0'] at this;cases this
   rw [if_neg hnl] at hI
   obtain ⟨hB,hF,hSp⟩:=hI
   have hst:=hflow i o ho hlt a w hB hF (fun j oj hj ⟨e,he,hej,hbind⟩=> hSp j oj hj (by rw [←hej];exact hdep e he hbind))
   have hltd:∀d,o.dst=some d→d<a.tmps.size:=fun d hd'=> by rw [hF.2.1,hn];exact dst_lt hd ho d hd'
   have next:∀v w',Below w.heap.size w w'→(o.dst=none→v=undef)→Sp i v w'→Inv (L.setIfInBounds i true) (a.put o.dst v) w':=by
    intro v w' hbel hnone hv
    refine ⟨by simpa using hs,hcl',?_⟩
    rw [if_neg (by rw [getD_set_ne false (by omega)];exact hnl)]
    refine ⟨hB.trans (hbel.mono hB.size),hF.put (show (ops.toList.take n0).toArray[i]? =some o by rw [←ho];simp [hlt]) v,fun j oj hj hL=> ?_⟩
    by_cases hij:i=j
    ·subst hij
     rw [ho] at hj
     obtain rfl:=Option.some.inj hj
     rw [got_put_same v hltd hnone]
     exact hv
    ·rw [got_put_other v (dst_spec hd ho hj hij)]
     rw [getD_set_ne false hij] at hL
     exact stable j _ w w' (hSp j oj hj hL) hbel
   split
   ·rename_i hw
    rw [if_pos hw] at hst
    exact Oper.wp_mono (fun a' w' ⟨v,ha,hnone,hv,hbel⟩=> by subst ha;exact next v w' hbel hnone hv) hst
   ·rename_i hw
    rw [if_neg hw] at hst
    exact next undef w (Below.refl _ _) (fun _=> rfl) hst
  ·have hreach:=reachL_spec (L:=fun j=> L.getD j false) hcl i (depsL o) (fun k hk=> by obtain ⟨e,he,hej,hb⟩:=depsL_spec hk;rw [←hej];exact hdep e he hb)
   have hprev:∀j,j<i→L.getD j false=true:=fun j hj=> hreach j (tail_spec ht (by omega) ho j hj)
   have htl:tl P ops Q (ops.toList.drop i) a w∧∀j,j<ops.size→(L.getD j false=true ↔ j<i):=by
    by_cases hin:i=n0
    ·subst hin
     rw [if_neg (by rw [h0'];simp)] at hI
     obtain ⟨hB,hF,hSp⟩:=hI
     refine ⟨hend a w hB hF fun j oj hj hlt=> hSp j oj hj (hprev j hlt),fun j hj=> ⟨fun hL=> ?_,hprev j⟩⟩
     rcases Nat.lt_trichotomy j i with h | h | h
     ·exact h
     ·subst h;rw [h0'] at hL;cases hL
     ·exfalso
      have hj':ops[j]? =some ops[j] :=by simp [hj]
      have:=reachL_spec (L:=fun j=> L.getD j false) hcl j (depsL ops[j]) (fun k hk=> by obtain ⟨e,he,hej,hb⟩:=depsL_spec hk;rw [←hej];exact hcl j _ hj' hL e he hb) i (tail_spec ht (by omega) hj' i h)
      rw [h0'] at this;cases this
    ·rw [if_pos (hprev n0 (by omega))] at hI
     obtain ⟨m,h1,h2,h3,h4⟩:=hI
     have hmi:m=i:=by
      rcases Nat.lt_trichotomy m i with h | h | h
      ·have:=(h3 m (by omega)).1 (hprev m h);omega
      ·exact h
      ·have:=(h3 i hil).2 h;rw [h0'] at this;cases this
     subst hmi
     exact ⟨h4,h3⟩
   obtain ⟨htl,hall⟩:=htl
   have hdrop:ops.toList.drop i=o::ops.toList.drop (i+1):=by
    rw [List.drop_eq_getElem_cons (by simpa using hil)]
    have:=(Array.getElem?_eq_some_iff.1 ho).2
    simp [this]
   rw [hdrop] at htl
   have next:∀a' w',tl P ops Q (ops.toList.drop (i+1)) a' w'→Inv (L.setIfInBounds i true) a' w':=by
    intro a' w' h
    refine ⟨by simpa using hs,hcl',?_⟩
    have hn0L:(L.setIfInBounds i true).getD n0 false=true:=by
     by_cases e:i=n0
     ·rw [←e];exact hseti
     ·exact up _ (hprev n0 (by omega))
    rw [if_pos hn0L]
    refine ⟨i+1,by omega,hil,fun j hj=> ?_,h⟩
    by_cases e:i=j
    ·subst e;exact ⟨fun _=> Nat.lt_succ_self _,fun _=> hseti⟩
    ·rw [getD_set_ne false e,hall j hj];omega
   unfold tl at htl
   split
   ·rename_i hw
    rw [if_pos hw] at htl
    exact Oper.wp_mono (fun a' w' h=> next a' w' h) htl
   ·rename_i hw
    rw [if_neg hw] at htl
    exact next _ _ htl
 ·rintro L a w hdone ⟨hs,hcl,hI⟩
  rw [if_pos (hdone n0 hn0)] at hI
  obtain ⟨m,h1,h2,h3,h4⟩:=hI
  have hm':m=ops.size:=by
   rcases Nat.lt_or_ge m ops.size with h | h
   ·have:=(h3 m h).1 (hdone m h);omega
   ·omega
  subst hm'
  rw [List.drop_eq_nil_of_le (by simp)] at h4
  exact h4
end
end Go.Bas
namespace Go.Bas
open Go.RowKit
section
variable {P : Program} {ops : Array Oper} {Q : Exit → Act → World → Prop}
end
end Go.Bas
namespace Go.Bas
open Go.RowKit
section
variable {P : Program} {ops : Array Oper} {Q : Exit → Act → World → Prop}
theorem run_load_pt {o:Oper} {a:Act} {w:World} {T e:TypeId} {x:Operand} {b i:Nat} {v:Value} (ho:o.op=.load T x) (hx:a.eval x=.pointer (some ⟨b,i,none⟩)) (hu:P.underlying T=some (.pointer e)) (hc:w.cell? ⟨b,i,none⟩=some v):(execOp a.eval o).run P w=.ok (.value v) w:=by
 unfold execOp;simp only [ho,hx]
 simp [Instr.loadAt,Instr.sureAddr,loadVar,isAgg,run_underlying hu,go_sem,hc]
end
end Go.Bas
