/-
  Part 4 of the texts that the proof of RegressReach rests on, one after the other. Conditions: named in each theorem.
-/
import Derived.Test.YtpcjekgfnfjbpaaPkRegressReach3
import Derived.BigQuiet
import Derived.Deep.DrawnRows
import Derived.Deep.QuietTactic
import Derived.Deep.RegionHeld3
import Derived.Deep.WholeRow
import Derived.Laws.CopyOwn
import Derived.Lib.Hide
import Derived.Test.YtpcjekgfnfjbpaaArr
import Derived.Test.YtpcjekgfnfjbpaaKit
import Derived.WalkKit
import Derived.WalkLawsBesides
import Derived.WalkSmall
import Derived.WalkSpells
set_option linter.unusedVariables false
set_option linter.unusedSimpArgs false
namespace Go.Bas
open Go.RowKit
structure Chg (F:Nat→Prop) (w w':World):Prop where
 os:w'.os=w.os
 tape:w'.tape=w.tape
 output:w'.output=w.output
 size:w.heap.size≤w'.heap.size
 block:∀b,b<w.heap.size→¬ F b→w'.heap[b]? =w.heap[b]?
variable {F G : Nat → Prop} {w w' w'' : World}
theorem Chg.refl (F:Nat→Prop) (w:World):Chg F w w:=⟨rfl,rfl,rfl,Nat.le_refl _,fun _ _ _=> rfl⟩
theorem Chg.mono (h:Chg F w w') (hs:∀b,b<w.heap.size→F b→G b):Chg G w w':=⟨h.os,h.tape,h.output,h.size,fun b hb hn=> h.block b hb fun hf=> hn (hs b hb hf)⟩
theorem Chg.trans (h:Chg F w w') (h':Chg G w' w'') (hs:∀b,b<w.heap.size→G b→F b):Chg F w w'':=
 ⟨h'.os.trans h.os,h'.tape.trans h.tape,h'.output.trans h.output,Nat.le_trans h.size h'.size,fun b hb hn=> (h'.block b (Nat.lt_of_lt_of_le hb h.size) fun hg=> hn (hs b hb hg)).trans (h.block b hb hn)⟩
theorem Chg.of_below (h:Below w.heap.size w w') (F:Nat→Prop):Chg F w w':=⟨h.os,h.tape,h.output,h.size,fun b hb _=> h.block b hb⟩
theorem Chg.below (h:Chg F w w') {B:Nat} (hB:B≤w.heap.size) (hF:∀b,F b→B≤b):Below B w w':=⟨h.os,h.tape,h.output,h.size,fun b hb=> h.block b (Nat.lt_of_lt_of_le hb hB) fun hf=> by have:=hF b hf;omega⟩
theorem Chg.of_grown {row:Option Nat} (h:w.grownBy w' row) (hF:∀b,row=some b→F b):Chg F w w':=⟨h.os,h.tape,h.output,h.size,fun b hb hn=> h.block b hb fun e=> hn (hF b e.symm)⟩
theorem Chg.set (F:Nat→Prop) (w:World) (p:Addr) (v:Value) (hF:F p.block):Chg F w (w.setCell p v):=
 ⟨rfl,rfl,rfl,by rw [size_setCell];exact Nat.le_refl _,fun b hb hn=> by rw [Below.heap_setCell _ _ _ _ (fun e=> hn (by rw [e];exact hF))]⟩
theorem Chg.cell (h:Chg F w w') {p:Addr} (hp:p.block<w.heap.size) (hn:¬ F p.block):w'.cell? p=w.cell? p:=World.cell?_of_block (h.block _ hp hn)
theorem Arr.chg {k:IntKind} {b n:Nat} {f:Nat→Int} (h:Arr k w b n f) (hg:Chg F w w') (hn:¬ F b):Arr k w' b n f:=by
 have hlt:=h.lt
 obtain ⟨T,h⟩:=h
 exact ⟨T,by rw [hg.block b hlt hn];exact h⟩
end Go.Bas
namespace Go.Bas
open Go.RowKit Go.ChangeShapes
theorem wp_append_full {P:Program} {w:World} {o:Oper} {a:Act} {K:Act→World→Prop} {Q:Exit→Act→World→Prop}
  (s x:Operand) (t:TypeId) (hop:o.op=.call { callee:=.builtin .append,args:=#[s,x],argTypes:=#[t,t] })
  (e:TypeId) (k:IntKind) (bytes:Nat) (h1:P.underlying t=some (.slice e)) (hinfo:(P.info? e).map (fun i=> (i.zero,i.size,i.bytes))=some (some (.int k 0),1,bytes))
  (gg oo n:Nat) (f:Nat→Int) (hold:∀i,i<n→w.cell? ⟨gg,oo+i,none⟩=some (.int k (f i))) (hs:a.eval s=.slice (some ⟨gg,oo,none⟩) n n)
  (u:Value) (m:Nat) (g:Nat→Int) (hrd:Rd k w u m g) (hx:a.eval x=u) (hm:0<m) (hf:∀i,i<m→f (n+i)=g i)
  (b2:(n+m) * bytes≤140737488355328) (b3:n+m≤9223372036854775807)
  (hK:∀v' w',Rd k w' v' (n+m) f→Below w.heap.size w w'→K (a.put o.dst v') w'):
  o.wp P a w K Q:=by
 obtain ⟨i,hi,hz0,hz1,hz2⟩:=info_parts hinfo
 obtain ⟨ao,c,rfl,l1,l2,l3,l4⟩:=hrd
 obtain ⟨b,of,rfl,_,hcell⟩:=l4 hm
 have hvm:(vals k m g).length=m * i.size:=by rw [hz1];simp
 have hnews:∀j x,(vals k m g)[j]? =some x→w.cell? ((⟨b,of,none⟩:Addr).add j)=some x:=by
  intro j x hx
  have hj:j<m:=by
   have:=(List.getElem?_eq_some_iff.1 hx).1
   simpa using this
  rw [addr_add,hcell j hj,←vals_get (k:=k) (f:=g) hj]
  exact hx
 have holds:∀j x,(vals k n f)[j]? =some x→w.cell? ((⟨gg,oo,none⟩:Addr).add j)=some x:=by
  intro j x hx
  have hj:j<n:=by
   have:=(List.getElem?_eq_some_iff.1 hx).1
   simpa using this
  rw [addr_add,hold j hj,←vals_get (k:=k) (f:=f) hj]
  exact hx
 have hr:=run_append_grow (P:=P) w t o.type e i _ h1 hi hz0 ⟨gg,oo,none⟩ n n (vals k n f) (by rw [hz1];simp) holds ⟨b,of,none⟩ m c (vals k m g) hvm hnews (by omega) (by omega) (growslice_fits (by omega) (by rw [hz2];exact b2))
 have hge:=grownCap_ge w (n+m) n e
 have hcm:grownCap w (n+m) n e≤maxLen:=grownCap_le_maxLen w (n+m) n e (by unfold maxLen;omega)
 unfold maxLen at hcm
 unfold Oper.wp execOp
 simp only [hop,resolve,invoke,builtin,Sem.run_bind,Sem.run_pure,Result.andThen_ok,List.map_toArray,List.map_cons,List.map_nil,hs,hx,hr]
 refine hK _ _ ?_ (((Below.refl w.heap.size w).drew).alloc (by simp) _)
 refine (OwnAt.rd (OwnAt.whole (k:=k) (e:=e) (base:=0) (m:=n+m) (c:=grownCap w (n+m) n e) (f:=f) (Nat.zero_le _) hge (by omega) ?_ ?_))
 ·have hz:(Value.int k 0).cells=#[.int k 0] :=rfl
  simp only [Array.size_append,List.size_toArray,size_zeroCells,hz,vals_length]
  simp;omega
 ·rw [Array.toList_append,Array.toList_append,←vals_add hf]
  rw [List.take_append_of_le_length (by simp),List.take_of_length_le (by simp)]
theorem append_full {P:Program} {w:World} {ops:Array Oper} {rest:List Oper} {o:Oper} {a:Act} {Q:Exit→Act→World→Prop} (hg:o.guard=none)
  (s x:Operand) (t:TypeId) (hop:o.op=.call { callee:=.builtin .append,args:=#[s,x],argTypes:=#[t,t] })
  (e:TypeId) (k:IntKind) (bytes:Nat) (h1:P.underlying t=some (.slice e)) (hinfo:(P.info? e).map (fun i=> (i.zero,i.size,i.bytes))=some (some (.int k 0),1,bytes))
  (gg oo n:Nat) (f:Nat→Int) (hold:∀i,i<n→w.cell? ⟨gg,oo+i,none⟩=some (.int k (f i))) (hs:a.eval s=.slice (some ⟨gg,oo,none⟩) n n)
  (u:Value) (m:Nat) (g:Nat→Int) (hrd:Rd k w u m g) (hx:a.eval x=u) (hm:0<m) (hf:∀i,i<m→f (n+i)=g i)
  (b2:(n+m) * bytes≤140737488355328) (b3:n+m≤9223372036854775807)
  (hK:∀v' w',Rd k w' v' (n+m) f→Below w.heap.size w w'→wpList P ops Q rest (a.put o.dst v') w'):wpList P ops Q (o::rest) a w:=
 wpList_plain hg fun _ hK'=> wp_append_full s x t hop e k bytes h1 hinfo gg oo n f hold hs u m g hrd hx hm hf b2 b3 fun v' w' q1 q2=> hK' _ _ (hK v' w' q1 q2)
end Go.Bas
