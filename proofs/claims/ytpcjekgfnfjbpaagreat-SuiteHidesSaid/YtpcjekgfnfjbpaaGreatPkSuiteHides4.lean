/-
  Part 4 of SuiteHides. Conditions: named in each theorem.
-/
import Derived.Test.YtpcjekgfnfjbpaaGreatPkSuiteHides2
import Derived.Deep.DrawnRows
import Derived.Deep.RegionHeld3
import Derived.Deep.WholeRow
import Derived.Laws.CopyOwn
set_option linter.unusedVariables false
set_option linter.unusedSimpArgs false
namespace Go.aQ
open Go.RowKit
def aD (k:IntKind) (w:World) (b n:Nat) (f:Nat->Int):Prop:=∃T,w.heap[b]? =some (.cells (arr k n f) T (0,0))
theorem aD.lt {k:IntKind} {w:World} {b n:Nat} {f:Nat->Int} (h:aD k w b n f):b<w.heap.size:=by
 obtain ⟨T,h⟩:=h;exact (Array.getElem?_eq_some_iff.1 h).1
theorem aD.cell {k:IntKind} {w:World} {b n:Nat} {f:Nat->Int} (h:aD k w b n f) (i:Nat) (hi:i<n):w.cell? ⟨b,i,none⟩=some (.int k (f i)):=by
 obtain ⟨T,h⟩:=h;rw [cell_of_row w b i _ T (0,0) h,rY hi]
theorem aD.free {k:IntKind} {w:World} {b n:Nat} {f:Nat->Int} (h:aD k w b n f) (i:Nat):w.frozen? ⟨b,i,none⟩=false:=by
 obtain ⟨T,h⟩:=h;exact frozen_of_row w b i _ T h
theorem aD.congr {k:IntKind} {w:World} {b n:Nat} {f g:Nat->Int} (h:aD k w b n f) (e:∀i,i<n->f i=g i):aD k w b n g:=by
 obtain ⟨T,h⟩:=h;exact ⟨T,by rw [h,dY e]⟩
theorem aD.drew {k:IntKind} {w:World} {b n:Nat} {f:Nat->Int} (h:aD k w b n f):aD k w.drew b n f:=h
theorem aD.drewN {k:IntKind} {w:World} {b n:Nat} {f:Nat->Int} (h:aD k w b n f) (m:Nat):aD k (w.drewN m) b n f:=h
theorem aD.alloc {k:IntKind} {w:World} {b n:Nat} {f:Nat->Int} (h:aD k w b n f) (o:Obj):aD k (w.alloc o) b n f:=by
 have hlt:=h.lt;obtain ⟨T,h⟩:=h;exact ⟨T,by rw [Below.heap_alloc _ _ _ hlt];exact h⟩
theorem aD.new (k:IntKind) (w:World) (T:TypeId) (n:Nat) (f:Nat->Int):aD k (w.alloc (.cells (arr k n f) T)) w.heap.size n f:=⟨T,heap_alloc_new w _⟩
theorem aD.newAt {k:IntKind} {w:World} {T:TypeId} {n b:Nat} {f:Nat->Int} {cs:Array Value} (hb:b=w.heap.size) (h:cs=arr k n f):aD k (w.alloc (.cells cs T)) b n f:=by subst hb;subst h;exact aD.new k w T n f
theorem aD.below {k:IntKind} {w w':World} {b n B:Nat} {f:Nat->Int} (h:aD k w b n f) (hb:Below B w w') (hB:b<B):aD k w' b n f:=by
 obtain ⟨T,h⟩:=h;exact ⟨T,by rw [hb.block b hB];exact h⟩
theorem aD.kept {k:IntKind} {w w':World} {b n:Nat} {f:Nat->Int} (h:aD k w b n f) (hb:Below w.heap.size w w'):aD k w' b n f:=h.below hb h.lt
theorem aD.other {k:IntKind} {w:World} {b n:Nat} {f:Nat->Int} (h:aD k w b n f) {p:Addr} (hp:b≠p.block) (v:Value):aD k (w.setCell p v) b n f:=by
 obtain ⟨T,h⟩:=h;exact ⟨T,by rw [heap_setCell_other w p b v hp];exact h⟩
theorem aD.grown {k:IntKind} {w w':World} {b n:Nat} {f:Nat->Int} {row:Option Nat} (h:aD k w b n f) (hg:w.grownBy w' row) (hne:some b≠row):aD k w' b n f:=by
 have hlt:=h.lt;obtain ⟨T,h⟩:=h;exact ⟨T,by rw [hg.block b hlt hne];exact h⟩
theorem YP {k:IntKind} {n:Nat} {f:Nat->Int} (j:Nat) (x:Int):(arr k n f).setIfInBounds j (.int k x)=arr k n (upd f j x):=by
 unfold arr;rw [dS,Gb]
theorem aD.set {k:IntKind} {w:World} {b n:Nat} {f:Nat->Int} (h:aD k w b n f) (j:Nat) (x:Int):aD k (w.setCell ⟨b,j,none⟩ (.int k x)) b n (upd f j x):=by
 obtain ⟨T,h⟩:=h;exact ⟨T,by rw [heap_setCell_same w b j _ T _ h,YP]⟩
theorem aD.setRow {k:IntKind} {w:World} {b n:Nat} {f:Nat->Int} (h:aD k w b n f) (m:Nat) (g:Nat->Int):aD k (w.setRow b (arr k m g)) b m g:=by
 obtain ⟨T,h⟩:=h;exact ⟨T,setRow_heap w b _ _ T _ h⟩
theorem aD.aA {k:IntKind} {w:World} {b n:Nat} {f:Nat->Int} (h:aD k w b n f) (b':Nat) (hb:b≠b') (cs:Array Value):aD k (w.setRow b' cs) b n f:=by
 obtain ⟨T,h⟩:=h;exact ⟨T,by rw [setRow_other w b' b cs hb];exact h⟩
theorem aD.rd {k:IntKind} {w:World} {b n:Nat} {f:Nat->Int} (h:aD k w b n f) (hn:n<=9223372036854775807):Rd k w (.slice (some ⟨b,0,none⟩) n n) n f:=
 ⟨_,_,rfl,aP _,hn,(fun h=> by cases h),fun _=> ⟨b,0,rfl,h.lt,fun i hi=> by rw [lH];exact h.cell i hi⟩⟩
theorem yg (k:IntKind) (n:Nat) (f:Nat->Int):(arr k n f).all (·.oneCell')=true:=by
 unfold arr;rw [List.all_toArray,vG];intro v hv;obtain ⟨_,_,rfl⟩:=List.mem_map.1 hv
 rfl
section
variable {P : Program} {ops : Array Oper} {rest : List Oper} {o : Oper} {a : Act} {w : World} {Q : Exit -> Act -> World -> Prop}
theorem aM (hg:o.guard=none) (T:TypeId) (x:Operand) (ho:o.op=.load T x) (k:IntKind) (b n:Nat) (f:Nat->Int) (e:TypeId)
  (hu:P.underlying T=some (.array n e)) (hi:(P.info? T).map (·.size)=some n) (hx:a.eval x=.pointer (some ⟨b,0,none⟩)) (h:aD k w b n f)
  (hK:wpList P ops Q rest (a.put o.dst (.agg (arr k n f))) w):wpList P ops Q (o::rest) a w:=by
 obtain ⟨t,ht⟩:=h;exact wpList_load_row hg T x ho b hx t (arr k n f) (0,0) _ ht hu rfl (by rw [hi,gH]) hK
theorem bB {K:Act->World->Prop} (T:TypeId) (x y:Operand) (ho:o.op=.store T x y) (k:IntKind) (b n:Nat) (f g:Nat->Int)
  (hi:(P.info? T).map (·.size)=some n) (hx:a.eval x=.pointer (some ⟨b,0,none⟩)) (hy:a.eval y=.agg (arr k n g)) (h:aD k w b n f)
  (hK:K (a.put o.dst undef) (w.setRow b (arr k n g))):o.wp P a w K Q:=by
 obtain ⟨t,ht⟩:=h;have hr:=run_storeVar_row (P:=P) w b t T (arr k n f) (arr k n g) ht (by rw [hi,gH]) (by simp) (yg k n g);unfold Oper.wp execOp;simp only [ho,hx,hy,Instr.storeAt,Instr.sureAddr,Sem.run_bind,Sem.run_pure,Result.andThen_ok,hr];exact hK
theorem aH (hg:o.guard=none) (T:TypeId) (x y:Operand) (ho:o.op=.store T x y) (k:IntKind) (b n:Nat) (f g:Nat->Int)
  (hi:(P.info? T).map (·.size)=some n) (hx:a.eval x=.pointer (some ⟨b,0,none⟩)) (hy:a.eval y=.agg (arr k n g)) (h:aD k w b n f)
  (hK:wpList P ops Q rest (a.put o.dst undef) (w.setRow b (arr k n g))):wpList P ops Q (o::rest) a w:=
 wpList_plain hg fun _ hK'=> bB T x y ho k b n f g hi hx hy h (hK' _ _ hK)
end
theorem fD {P:Program} {T e:TypeId} {k:IntKind} {n:Nat} {f:Nat->Int} (hu:P.underlying T=some (.array n e)) (he:P.underlying e=some (.int k)) (hi:(P.info? e).map (·.size)=some 1) (i:Nat) (h:i<n) (w:World):
  (Instr.index T (.agg (arr k n f)) (.int .i64 (i:Int))).run P w=.ok (.int k (f i)) w:=by
 obtain ⟨x,hx,hs⟩:=Option.map_eq_some_iff.1 hi;have h2:(0:Int)<=i/\(i:Int)<n:=by omega
 simp [Instr.index,asIntOf,run_underlying hu,run_underlying he,h2,sizeOf,typeInfo,hx,hs,part,isAgg,rY h];intro h3;omega
theorem ay {B g:Nat} {w0 w:World} (hb:Below B w0 w) (hBg:B<=g) (cs:Array Value):Below B w0 (w.setRow g cs):=below_setRow hb hBg cs
theorem aV {P:Program} {fn:Func} {p:Tmp} {T:TypeId} (h:fn.results=#[.cell p T]) (tmps:Array Value) (w:World) (k:IntKind) (b n:Nat) (f:Nat->Int) (e:TypeId)
  (hp:tmps.getD p undef=.pointer (some ⟨b,0,none⟩)) (ha:aD k w b n f) (hu:P.underlying T=some (.array n e)) (hi:(P.info? T).map (·.size)=some n):
  (results fn tmps).run P w=.ok (.agg (arr k n f)) w:=by
 obtain ⟨t,ht⟩:=ha;exact results_cell_row h tmps w b t (arr k n f) (0,0) _ hp ht hu rfl (by rw [hi,gH])
theorem dM {P:Program} {fn:Func} {p q:Tmp} {T:TypeId} (h:fn.results=#[.cell p T,.tmp q]) (tmps:Array Value) (w:World) (k:IntKind) (b n:Nat) (f:Nat->Int) (e:TypeId)
  (hp:tmps.getD p undef=.pointer (some ⟨b,0,none⟩)) (ha:aD k w b n f) (hu:P.underlying T=some (.array n e)) (hi:(P.info? T).map (·.size)=some n):
  (results fn tmps).run P w=.ok (.tuple #[.agg (arr k n f),tmps.getD q undef]) w:=by
 obtain ⟨t,ht⟩:=ha;have hp':tmps[p]?.getD undef=.pointer (some ⟨b,0,none⟩):=by simpa using hp
 simp [results,h,hp',asAddr,run_loadVar_row w b t T (arr k n f) (0,0) _ ht hu rfl (by rw [hi,gH])]
theorem _root_.bg:type_of% @aD.newAt:=@aD.newAt
structure jH (F:Nat->Prop) (w w':World):Prop where
 os:w'.os=w.os
 tape:w'.tape=w.tape
 output:w'.output=w.output
 size:w.heap.size<=w'.heap.size
 block:∀b,b<w.heap.size->¬ F b->w'.heap[b]? =w.heap[b]?
variable {F G : Nat -> Prop} {w w' w'' : World}
theorem jH.refl (F:Nat->Prop) (w:World):jH F w w:=⟨rfl,rfl,rfl,aP _,fun _ _ _=> rfl⟩
theorem jH.mono (h:jH F w w') (hs:∀b,b<w.heap.size->F b->G b):jH G w w':=⟨h.os,h.tape,h.output,h.size,fun b hb hn=> h.block b hb fun hf=> hn (hs b hb hf)⟩
theorem jH.trans (h:jH F w w') (h':jH G w' w'') (hs:∀b,b<w.heap.size->G b->F b):jH F w w'':=
 ⟨h'.os.trans h.os,h'.tape.trans h.tape,h'.output.trans h.output,qw h.size h'.size,fun b hb hn=> (h'.block b (tN hb h.size) fun hg=> hn (hs b hb hg)).trans (h.block b hb hn)⟩
theorem jH.of_below (h:Below w.heap.size w w') (F:Nat->Prop):jH F w w':=⟨h.os,h.tape,h.output,h.size,fun b hb _=> h.block b hb⟩
theorem jH.below (h:jH F w w') {B:Nat} (hB:B<=w.heap.size) (hF:∀b,F b->B<=b):Below B w w':=⟨h.os,h.tape,h.output,h.size,fun b hb=> h.block b (tN hb hB) fun hf=> by have:=hF b hf;omega⟩
theorem jH.Ih {row:Option Nat} (h:w.grownBy w' row) (hF:∀b,row=some b->F b):jH F w w':=⟨h.os,h.tape,h.output,h.size,fun b hb hn=> h.block b hb fun e=> hn (hF b e.symm)⟩
theorem jH.set (F:Nat->Prop) (w:World) (p:Addr) (v:Value) (hF:F p.block):jH F w (w.setCell p v):=
 ⟨rfl,rfl,rfl,by rw [size_setCell];exact aP _,fun b hb hn=> by rw [Below.heap_setCell _ _ _ _ (fun e=> hn (by rw [e];exact hF))]⟩
theorem jH.cell (h:jH F w w') {p:Addr} (hp:p.block<w.heap.size) (hn:¬ F p.block):w'.cell? p=w.cell? p:=World.cell?_of_block (h.block _ hp hn)
theorem aD.wN {k:IntKind} {b n:Nat} {f:Nat->Int} (h:aD k w b n f) (hg:jH F w w') (hn:¬ F b):aD k w' b n f:=by
 have hlt:=h.lt;obtain ⟨T,h⟩:=h;exact ⟨T,by rw [hg.block b hlt hn];exact h⟩
end Go.aQ
namespace Go.aQ
open Go.RowKit Go.ChangeShapes
theorem qE {P:Program} {w:World} {o:Oper} {a:Act} {K:Act->World->Prop} {Q:Exit->Act->World->Prop}
  (s x:Operand) (t:TypeId) (hop:o.op=.call { callee:=.builtin .append,args:=#[s,x],argTypes:=#[t,t] })
  (e:TypeId) (k:IntKind) (bytes:Nat) (h1:P.underlying t=some (.slice e)) (hinfo:(P.info? e).map (fun i=> (i.zero,i.size,i.bytes))=some (some (.int k 0),1,bytes))
  (gg oo n:Nat) (f:Nat->Int) (hold:∀i,i<n->w.cell? ⟨gg,oo+i,none⟩=some (.int k (f i))) (hs:a.eval s=.slice (some ⟨gg,oo,none⟩) n n)
  (u:Value) (m:Nat) (g:Nat->Int) (hrd:Rd k w u m g) (hx:a.eval x=u) (hm:0<m) (hf:∀i,i<m->f (n+i)=g i)
  (b2:(n+m) * bytes<=140737488355328) (b3:n+m<=9223372036854775807)
  (hK:∀v' w',Rd k w' v' (n+m) f->Below w.heap.size w w'->K (a.put o.dst v') w'):
  o.wp P a w K Q:=by
 obtain ⟨i,hi,hz0,hz1,hz2⟩:=info_parts hinfo;obtain ⟨ao,c,rfl,l1,l2,l3,l4⟩:=hrd;obtain ⟨b,of,rfl,_,hcell⟩:=l4 hm;have hvm:(vals k m g).length=m * i.size:=by rw [hz1];simp
 have hnews:∀j x,(vals k m g)[j]? =some x->w.cell? ((⟨b,of,none⟩:Addr).add j)=some x:=by
  intro j x hx;have hj:j<m:=by
   have:=(List.getElem?_eq_some_iff.1 hx).1
   simpa using this
  rw [addr_add,hcell j hj,←bR (k:=k) (f:=g) hj];exact hx
 have holds:∀j x,(vals k n f)[j]? =some x->w.cell? ((⟨gg,oo,none⟩:Addr).add j)=some x:=by
  intro j x hx;have hj:j<n:=by
   have:=(List.getElem?_eq_some_iff.1 hx).1
   simpa using this
  rw [addr_add,hold j hj,←bR (k:=k) (f:=f) hj];exact hx
 have hr:=run_append_grow (P:=P) w t o.type e i _ h1 hi hz0 ⟨gg,oo,none⟩ n n (vals k n f) (by rw [hz1];simp) holds ⟨b,of,none⟩ m c (vals k m g) hvm hnews (by omega) (by omega) (growslice_fits (by omega) (by rw [hz2];exact b2));have hge:=grownCap_ge w (n+m) n e;have hcm:grownCap w (n+m) n e<=maxLen:=grownCap_le_maxLen w (n+m) n e (by unfold maxLen;omega);unfold maxLen at hcm;unfold Oper.wp execOp;simp only [hop,resolve,invoke,builtin,Sem.run_bind,Sem.run_pure,Result.andThen_ok,qy,List.map_cons,List.map_nil,hs,hx,hr];refine hK _ _ ?_ (((bA w.heap.size w).drew).alloc (by simp) _);refine (OwnAt.rd (OwnAt.whole (k:=k) (e:=e) (base:=0) (m:=n+m) (c:=grownCap w (n+m) n e) (f:=f) (dR _) hge (by omega) ?_ ?_))
 ·have hz:(Value.int k 0).cells=#[.int k 0] :=rfl;simp only [Array.size_append,List.size_toArray,size_zeroCells,hz,dO];simp;omega
 ·rw [Array.toList_append,Array.toList_append,←yL hf];rw [List.take_append_of_le_length (by simp),List.take_of_length_le (by simp)]
theorem xO {P:Program} {w:World} {ops:Array Oper} {rest:List Oper} {o:Oper} {a:Act} {Q:Exit->Act->World->Prop} (hg:o.guard=none)
  (s x:Operand) (t:TypeId) (hop:o.op=.call { callee:=.builtin .append,args:=#[s,x],argTypes:=#[t,t] })
  (e:TypeId) (k:IntKind) (bytes:Nat) (h1:P.underlying t=some (.slice e)) (hinfo:(P.info? e).map (fun i=> (i.zero,i.size,i.bytes))=some (some (.int k 0),1,bytes))
  (gg oo n:Nat) (f:Nat->Int) (hold:∀i,i<n->w.cell? ⟨gg,oo+i,none⟩=some (.int k (f i))) (hs:a.eval s=.slice (some ⟨gg,oo,none⟩) n n)
  (u:Value) (m:Nat) (g:Nat->Int) (hrd:Rd k w u m g) (hx:a.eval x=u) (hm:0<m) (hf:∀i,i<m->f (n+i)=g i)
  (b2:(n+m) * bytes<=140737488355328) (b3:n+m<=9223372036854775807)
  (hK:∀v' w',Rd k w' v' (n+m) f->Below w.heap.size w w'->wpList P ops Q rest (a.put o.dst v') w'):wpList P ops Q (o::rest) a w:=
 wpList_plain hg fun _ hK'=> qE s x t hop e k bytes h1 hinfo gg oo n f hold hs u m g hrd hx hm hf b2 b3 fun v' w' q1 q2=> hK' _ _ (hK v' w' q1 q2)
end Go.aQ
