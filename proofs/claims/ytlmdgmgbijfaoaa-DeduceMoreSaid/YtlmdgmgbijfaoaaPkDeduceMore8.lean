/-
  Part 8 of the texts that the proof of DeduceMore rests on, one after the other. Conditions: named in each theorem.
-/
import Derived.BigQuiet
import Derived.ChangeKeysEq
import Derived.Deep.DrawnRows
import Derived.Deep.QuietTactic
import Derived.Deep.RegionHeld3
import Derived.Deep.WholeRow
import Derived.Laws.CopyOwn
import Derived.Laws.StructEq
import Derived.Lib.Hide
import Derived.Maps.AppendAt
import Derived.Maps.Range
import Derived.Orders
import Derived.Test.YtlmdgmgbijfaoaaArr
import Derived.Test.YtlmdgmgbijfaoaaFlow
import Derived.Test.YtlmdgmgbijfaoaaKit
import Derived.WalkKit
import Derived.WalkLawsBesides
import Derived.WalkSmall
import Derived.WalkSpells
set_option linter.unusedVariables false
set_option linter.unusedSimpArgs false
namespace Go.Bas
open Go.RowKit
section
variable {P : Program} {ops : Array Oper} {Q : Exit → Act → World → Prop}
def depsL (o:Oper):List Nat:=o.after.toList.filterMap fun (e:Edge)=> if Region.binds .any e=true then some e.on else none
theorem depsL_spec {o:Oper} {j:Nat} (h:j ∈ depsL o):∃e ∈ o.after,e.on=j∧Region.binds .any e=true:=by
 unfold depsL at h
 obtain ⟨e,he,hx⟩:=List.mem_filterMap.1 h
 by_cases hb:Region.binds .any e=true
 ·rw [if_pos hb] at hx
  exact ⟨e,by simpa using he,Option.some.inj hx,hb⟩
 ·rw [if_neg hb] at hx;cases hx
def reachL (ops:Array Oper):Nat→List Nat→List Nat
 | 0,S=> S
 | k+1,S=> reachL ops k (if S.contains k then (match ops[k]? with | some o=> depsL o++S | none=> S) else S)
theorem reachL_spec {L:Nat→Bool} (hcl:∀(i:Nat) (o:Oper),ops[i]? =some o→L i=true→∀e ∈ o.after,Region.binds .any e=true→L e.on=true):
  ∀k S,(∀j ∈ S,L j=true)→∀j ∈ reachL ops k S,L j=true:=by
 intro k
 induction k with
 | zero=> intro S h;exact h
 | succ k ih=>
  intro S h
  unfold reachL
  refine ih _ ?_
  split
  ·rename_i hk
   have hLk:=h k (by simpa using hk)
   split
   ·rename_i o ho
    intro j hj
    rcases List.mem_append.1 hj with h1 | h1
    ·obtain ⟨e,he,hej,hb⟩:=depsL_spec h1
     rw [←hej];exact hcl k o ho hLk e he hb
    ·exact h j h1
   ·exact h
  ·exact h
end
end Go.Bas
namespace Go.Bas
open Go.RowKit
section
variable {P : Program} {ops : Array Oper} {Q : Exit → Act → World → Prop}
end
end Go.Bas
namespace Go.Bas
open Go.RowKit
section
variable {P : Program} {ops : Array Oper} {Q : Exit → Act → World → Prop}
end
end Go.Bas
namespace Go.Bas
open Go.RowKit
section
variable {P : Program} {ops : Array Oper} {Q : Exit → Act → World → Prop}
def usesB (ops:Array Oper) (uses:Nat→List Nat):Bool:=(List.range ops.size).all fun j=> match ops[j]? with
 | some oj=> (uses j).all fun t=> (List.range ops.size).all fun k=> match ops[k]? with
  | some ok=> ok.dst !=some t || k==j || waits oj k
  | none=> true
 | none=> true
theorem uses_spec {uses:Nat→List Nat} (h:usesB ops uses=true) {j k t:Nat} {oj ok:Oper} (hj:ops[j]? =some oj) (ht:t ∈ uses j) (hk:ops[k]? =some ok) (hd:ok.dst=some t):k=j∨waits oj k=true:=by
 unfold usesB at h
 rw [List.all_eq_true] at h
 have h1:=h j (List.mem_range.2 (Array.getElem?_eq_some_iff.1 hj).1)
 simp only [hj] at h1
 rw [List.all_eq_true] at h1
 have h2:=h1 t ht
 rw [List.all_eq_true] at h2
 have h3:=h2 k (List.mem_range.2 (Array.getElem?_eq_some_iff.1 hk).1)
 simp only [hk,Bool.or_eq_true,beq_iff_eq,bne_iff_ne] at h3
 rcases h3 with (h3 | h3) | h3
 ·exact absurd hd h3
 ·exact .inl h3
 ·exact .inr h3
end
end Go.Bas
namespace Go.Bas
open Go.RowKit
section
variable {P : Program} {ops : Array Oper} {Q : Exit → Act → World → Prop}
def okC (ops:Array Oper) (cons:Nat→List Nat) (i j:Nat):Bool:=(cons j).all fun k=> k==i || (match ops[k]? with | some ok=> (reachL ops k (depsL ok)).contains i | none=> false)
def upB (ops:Array Oper) (j i:Nat):Bool:=match ops[j]? with | some oj=> (reachL ops j (depsL oj)).contains i | none=> false
end
end Go.Bas
namespace Go.Bas
open Go.RowKit
section
variable {P : Program} {ops : Array Oper} {Q : Exit → Act → World → Prop}
theorem run_load_pt {o:Oper} {a:Act} {w:World} {T e:TypeId} {x:Operand} {b i:Nat} {v:Value} (ho:o.op=.load T x) (hx:a.eval x=.pointer (some ⟨b,i,none⟩)) (hu:P.underlying T=some (.pointer e)) (hc:w.cell? ⟨b,i,none⟩=some v):(execOp a.eval o).run P w=.ok (.value v) w:=by
 unfold execOp;simp only [ho,hx]
 simp [Instr.loadAt,Instr.sureAddr,loadVar,isAgg,run_underlying hu,go_sem,hc]
end
end Go.Bas
namespace Go.Bas
open Go.RowKit
section
variable {P : Program} {ops : Array Oper} {Q : Exit → Act → World → Prop}
theorem region_consD {id:Nat} {dr:Bool} {a0:Act} {w0:World} {n:Nat} (hm:P.follows .mixedOrders=true) (hb:backB ops=true) (hd:dstB ops n=true) (hn:a0.tmps.size=n)
  (cons:Nat→List Nat) (uses:Nat→List Nat) (hu:usesB ops uses=true) (Sp:Nat→Act→World→Prop) (E:Nat→World→World→Prop) (I:World→Prop) (hI0:I w0) (hI1:I w0.drew)
  (c1 c2 t1 t2:Nat) (hc1:∀o,ops[c1]? =some o→o.dst=some t1) (hc2:∀o,ops[c2]? =some o→o.dst=some t2) (hl1:c1<ops.size) (hl2:c2<ops.size) (hk1:cons c1= []) (hk2:cons c2= []) (hne:c1≠c2) (D:Act→Prop) (R:Nat→World→Value→Prop)
  (hDl:∀a a',a.tmps.getD t1 undef=a'.tmps.getD t1 undef→a.tmps.getD t2 undef=a'.tmps.getD t2 undef→D a→D a')
  (hR1:∀a w v,Sp c2 a w→R c1 w v→D (a.put (some t1) v)) (hR2:∀a w v,Sp c1 a w→R c2 w v→D (a.put (some t2) v))
  (hloc:∀i a a' w,(∀t,t ∈ uses i→a.tmps.getD t undef=a'.tmps.getD t undef)→Sp i a w→Sp i a' w)
  (stable:∀j i a w w',j≠i→i ∉ cons j→upB ops j i=false→Sp j a w→E i w w'→Sp j a w')
  (hEB:∀i w w',I w→E i w w'→I w')
  (hflow:∀i o,ops[i]? =some o→∀a w,I w→Fr ops a0 a→(∀j oj,ops[j]? =some oj→waits o j=true→okC ops cons i j=true→Sp j a w)→
   if Region.wanted o (yielded ops a.tmps) then o.wp P a w (fun a' w'=> ∃v,a'=a.put o.dst v∧(o.dst=none→v=undef)∧Sp i (a.put o.dst v) w'∧E i w w'∧R i w v) Q else Sp i (a.put o.dst undef) w∧E i w w∧R i w undef)
  (hend:∀a w,I w→Fr ops a0 a→D a→(∀j oj,ops[j]? =some oj→cons j= [] →Sp j a w)→Q .normal a w):
  (Code.region id ops dr).wp P Q a0 w0:=by
 refine wp_region_both hm hb (fun L a w=> L.size=ops.size∧(∀(i:Nat) (o:Oper),ops[i]? =some o→L.getD i false=true→∀e ∈ o.after,Region.binds .any e=true→L.getD e.on false=true)∧I w∧Fr ops a0 a∧
  (∀j oj,ops[j]? =some oj→L.getD j false=true→(∀k,k ∈ cons j→L.getD k false=false)→Sp j a w)∧(L.getD c1 false=true→L.getD c2 false=true→D a)) ?_ ?_ ?_
 ·have hno:∀j,(Array.replicate ops.size false).getD j false=false:=fun j=> by
   by_cases hj:j<ops.size<;> simp [hj]
  have key:∀w,I w→(Array.replicate ops.size false).size=ops.size∧(∀(i:Nat) (o:Oper),ops[i]? =some o→(Array.replicate ops.size false).getD i false=true→∀e ∈ o.after,Region.binds .any e=true→(Array.replicate ops.size false).getD e.on false=true)∧I w∧Fr ops a0 a0∧
    (∀j oj,ops[j]? =some oj→(Array.replicate ops.size false).getD j false=true→(∀k,k ∈ cons j→(Array.replicate ops.size false).getD k false=false)→Sp j a0 w)∧((Array.replicate ops.size false).getD c1 false=true→(Array.replicate ops.size false).getD c2 false=true→D a0):=fun w hB=>
   ⟨by simp,fun i o _ h=> (by rw [hno] at h;cases h),hB,⟨rfl,rfl,fun _ _=> rfl⟩,fun j oj _ hL=> (by rw [hno] at hL;cases hL),fun hL=> (by rw [hno] at hL;cases hL)⟩
  exact ⟨key _ hI1,key _ hI0⟩
 ·rintro L a w i o ho h0 hdep ⟨hs,hcl,hB,hF,hSp,hDD⟩
  have hil:=(Array.getElem?_eq_some_iff.1 ho).1
  have h0':L.getD i false=false:=by
   have hh:i<L.size:=by omega
   simpa [hh] using h0
  have hseti:(L.setIfInBounds i true).getD i false=true:=by
   have:i<L.size:=by omega
   simp [this]
  have up:∀j,L.getD j false=true→(L.setIfInBounds i true).getD j false=true:=fun j hj=> by
   by_cases e:i=j
   ·subst e;exact hseti
   ·rw [getD_set_ne false e];exact hj
  have hcl':∀(j:Nat) (oj:Oper),ops[j]? =some oj→(L.setIfInBounds i true).getD j false=true→∀e ∈ oj.after,Region.binds .any e=true→(L.setIfInBounds i true).getD e.on false=true:=by
   intro j oj hj hL e he hb
   by_cases hij:i=j
   ·subst hij
    rw [ho] at hj
    obtain rfl:=Option.some.inj hj
    exact up _ (hdep e he hb)
   ·rw [getD_set_ne false hij] at hL
    exact up _ (hcl j oj hj hL e he hb)
  have hst:=hflow i o ho a w hB hF (fun j oj hj hwt hc=> by
   obtain ⟨e,he,hej,hbind⟩:=waits_spec hwt
   refine hSp j oj hj (by rw [←hej];exact hdep e he hbind) fun k hk=> ?_
   unfold okC at hc
   rw [List.all_eq_true] at hc
   have hck:=hc k hk
   rw [Bool.or_eq_true,beq_iff_eq] at hck
   rcases hck with hck | hck
   ·rw [hck];exact h0'
   ·cases hok:ops[k]? with
    | none=> rw [hok] at hck;cases hck
    | some ok=>
     rw [hok] at hck
     cases hL:L.getD k false with
     | false=> rfl
     | true=>
      have h:=reachL_spec (L:=fun j=> L.getD j false) hcl k (depsL ok) (fun k' hk'=> by obtain ⟨e,he,hej,hb⟩:=depsL_spec hk';rw [←hej];exact hcl k ok hok hL e he hb) i (by simpa using hck)
      have h2:L.getD i false=true:=h
      rw [h0'] at h2;cases h2)
  have next:∀v w',(o.dst=none→v=undef)→Sp i (a.put o.dst v) w'→E i w w'→R i w v→(L.setIfInBounds i true).size=ops.size∧(∀(i':Nat) (o:Oper),ops[i']? =some o→(L.setIfInBounds i true).getD i' false=true→∀e ∈ o.after,Region.binds .any e=true→(L.setIfInBounds i true).getD e.on false=true)∧I w'∧Fr ops a0 (a.put o.dst v)∧
    (∀j oj,ops[j]? =some oj→(L.setIfInBounds i true).getD j false=true→(∀k,k ∈ cons j→(L.setIfInBounds i true).getD k false=false)→Sp j (a.put o.dst v) w')∧((L.setIfInBounds i true).getD c1 false=true→(L.setIfInBounds i true).getD c2 false=true→D (a.put o.dst v)):=by
   intro v w' hnone hv hE hRv
   refine ⟨by simpa using hs,hcl',hEB i w w' hB hE,hF.put ho v,fun j oj hj hL hc=> ?_,fun hL1 hL2=> ?_⟩
   rotate_left
   ·by_cases e1:i=c1
    ·subst e1
     rw [getD_set_ne false hne] at hL2
     rw [hc1 o ho]
     exact hR1 a w v (hSp c2 _ (Array.getElem?_eq_getElem hl2) hL2 fun k hk=> by rw [hk2] at hk;cases hk) hRv
    ·rw [getD_set_ne false e1] at hL1
     by_cases e2:i=c2
     ·subst e2
      rw [hc2 o ho]
      exact hR2 a w v (hSp c1 _ (Array.getElem?_eq_getElem hl1) hL1 fun k hk=> by rw [hk1] at hk;cases hk) hRv
     ·rw [getD_set_ne false e2] at hL2
      refine hDl a _ (getD_put_other v fun e=> ?_).symm (getD_put_other v fun e=> ?_).symm (hDD hL1 hL2)
      ·exact dst_spec hd ho (Array.getElem?_eq_getElem hl1) e1 t1 e (hc1 _ (Array.getElem?_eq_getElem hl1))
      ·exact dst_spec hd ho (Array.getElem?_eq_getElem hl2) e2 t2 e (hc2 _ (Array.getElem?_eq_getElem hl2))
   by_cases hij:i=j
   ·subst hij;exact hv
   ·rw [getD_set_ne false hij] at hL
    have hci:i ∉ cons j:=fun e=> by have:=hc i e;rw [hseti] at this;cases this
    have hup:upB ops j i=false:=by
     cases hq:upB ops j i with
     | false=> rfl
     | true=>
      unfold upB at hq
      rw [hj] at hq
      have h:=reachL_spec (L:=fun j=> L.getD j false) hcl j (depsL oj) (fun k' hk'=> by obtain ⟨e,he,hej,hb⟩:=depsL_spec hk';rw [←hej];exact hcl j oj hj hL e he hb) i (by simpa using hq)
      have h2:L.getD i false=true:=h
      rw [h0'] at h2;cases h2
    refine hloc j a _ w' (fun t ht=> (getD_put_other v fun e=> ?_).symm) (stable j i a w w' (Ne.symm hij) hci hup (hSp j oj hj hL fun k hk=> ?_) hE)
    ·rcases uses_spec hu hj ht ho e with h | h
     ·exact hij h
     ·obtain ⟨x,hx,hxi,hxb⟩:=waits_spec h
      have:=hcl j oj hj hL x hx hxb
      rw [hxi,h0'] at this;cases this
    ·have h:=hc k hk
     by_cases e:i=k
     ·subst e;exact h0'
     ·rwa [getD_set_ne false e] at h
  split
  ·rename_i hw
   rw [if_pos hw] at hst
   exact Oper.wp_mono (fun a' w' ⟨v,ha,hnone,hv,hE,hRv⟩=> by subst ha;exact next v w' hnone hv hE hRv) hst
  ·rename_i hw
   rw [if_neg hw] at hst
   exact next undef w (fun _=> rfl) hst.1 hst.2.1 hst.2.2
 ·rintro L a w hall ⟨hs,hcl,hB,hF,hSp,hDD⟩
  exact hend a w hB hF (hDD (hall c1 hl1) (hall c2 hl2)) fun j oj hj hc=> hSp j oj hj (hall j (Array.getElem?_eq_some_iff.1 hj).1) fun k hk=> by rw [hc] at hk;cases hk
end
end Go.Bas
