/- Part 4 of EscrowComes; conditions: in each theorem. -/
import Derived.Test.YtpcjekgfnfjbpaaGreatPkEC2
import Derived.Deep.DrawnRows
import Derived.Deep.RegionHeld3
import Derived.Deep.WholeRow
import Derived.Laws.CopyOwn
set_option linter.unusedVariables false
set_option linter.unusedSimpArgs false
namespace Go.bI
open Go.RowKit
def aK (k:IntKind) (w:World) (b n:Nat) (f:Nat->Int):Prop:=∃T,w.heap[b]? =some (.cells (arr k n f) T (0,0))
theorem aK.lt {k:IntKind} {w:World} {b n:Nat} {f:Nat->Int} (h:aK k w b n f):b<w.heap.size:=by
 obtain⟨T,h⟩:=h;exact(Array.getElem?_eq_some_iff.1 h).1
theorem aK.cell {k:IntKind} {w:World} {b n:Nat} {f:Nat->Int} (h:aK k w b n f) (i:Nat) (hi:i<n):w.cell? ⟨b,i,none⟩=some (.int k (f i)):=by
 obtain⟨T,h⟩:=h;rw[cell_of_row w b i _ T (0,0) h,yC hi]
theorem aK.free {k:IntKind} {w:World} {b n:Nat} {f:Nat->Int} (h:aK k w b n f) (i:Nat):w.frozen? ⟨b,i,none⟩=false:=by
 obtain⟨T,h⟩:=h;exact frozen_of_row w b i _ T h
theorem aK.congr {k:IntKind} {w:World} {b n:Nat} {f g:Nat->Int} (h:aK k w b n f) (e:∀i,i<n->f i=g i):aK k w b n g:=by
 obtain⟨T,h⟩:=h;exact⟨T,by rw[h,iQ e]⟩
theorem aK.drew {k:IntKind} {w:World} {b n:Nat} {f:Nat->Int} (h:aK k w b n f):aK k w.drew b n f:=h
theorem aK.drewN {k:IntKind} {w:World} {b n:Nat} {f:Nat->Int} (h:aK k w b n f) (m:Nat):aK k (w.drewN m) b n f:=h
theorem aK.alloc {k:IntKind} {w:World} {b n:Nat} {f:Nat->Int} (h:aK k w b n f) (o:Obj):aK k (w.alloc o) b n f:=by
 have hlt:=h.lt;obtain⟨T,h⟩:=h;exact⟨T,by rw[Below.heap_alloc _ _ _ hlt];exact h⟩
theorem aK.new (k:IntKind) (w:World) (T:TypeId) (n:Nat) (f:Nat->Int):aK k (w.alloc (.cells (arr k n f) T)) w.heap.size n f:=⟨T,heap_alloc_new w _⟩
theorem aK.newAt {k:IntKind} {w:World} {T:TypeId} {n b:Nat} {f:Nat->Int} {cs:Array Value} (hb:b=w.heap.size) (h:cs=arr k n f):aK k (w.alloc (.cells cs T)) b n f:=by subst hb;subst h;exact aK.new k w T n f
theorem aK.below {k:IntKind} {w w':World} {b n B:Nat} {f:Nat->Int} (h:aK k w b n f) (hb:Below B w w') (hB:b<B):aK k w' b n f:=by
 obtain⟨T,h⟩:=h;exact⟨T,by rw[hb.block b hB];exact h⟩
theorem aK.kept {k:IntKind} {w w':World} {b n:Nat} {f:Nat->Int} (h:aK k w b n f) (hb:Below w.heap.size w w'):aK k w' b n f:=h.below hb h.lt
theorem aK.other {k:IntKind} {w:World} {b n:Nat} {f:Nat->Int} (h:aK k w b n f) {p:Addr} (hp:b≠p.block) (v:Value):aK k (w.setCell p v) b n f:=by
 obtain⟨T,h⟩:=h;exact⟨T,by rw[heap_setCell_other w p b v hp];exact h⟩
theorem aK.grown {k:IntKind} {w w':World} {b n:Nat} {f:Nat->Int} {row:Option Nat} (h:aK k w b n f) (hg:w.grownBy w' row) (gW:some b≠row):aK k w' b n f:=by
 have hlt:=h.lt;obtain⟨T,h⟩:=h;exact⟨T,by rw[hg.block b hlt gW];exact h⟩
theorem adv {k:IntKind} {n:Nat} {f:Nat->Int} (j:Nat) (x:Int):(arr k n f).setIfInBounds j (.int k x)=arr k n (upd f j x):=by
 unfold arr;rw[fB,JF]
theorem aK.set {k:IntKind} {w:World} {b n:Nat} {f:Nat->Int} (h:aK k w b n f) (j:Nat) (x:Int):aK k (w.setCell ⟨b,j,none⟩ (.int k x)) b n (upd f j x):=by
 obtain⟨T,h⟩:=h;exact⟨T,by rw[heap_setCell_same w b j _ T _ h,adv]⟩
theorem aK.setRow {k:IntKind} {w:World} {b n:Nat} {f:Nat->Int} (h:aK k w b n f) (m:Nat) (g:Nat->Int):aK k (w.setRow b (arr k m g)) b m g:=by
 obtain⟨T,h⟩:=h;exact⟨T,setRow_heap w b _ _ T _ h⟩
theorem aK.aC {k:IntKind} {w:World} {b n:Nat} {f:Nat->Int} (h:aK k w b n f) (b':Nat) (hb:b≠b') (cs:Array Value):aK k (w.setRow b' cs) b n f:=by
 obtain⟨T,h⟩:=h;exact⟨T,by rw[setRow_other w b' b cs hb];exact h⟩
theorem aK.rd {k:IntKind} {w:World} {b n:Nat} {f:Nat->Int} (h:aK k w b n f) (hn:n<=9223372036854775807):Rd k w (.slice (some ⟨b,0,none⟩) n n) n f:=
 ⟨_,_,rfl,bH _,hn,(fun h=>by cases h),fun _=>⟨b,0,rfl,h.lt,fun i hi=>by rw[qY];exact h.cell i hi⟩⟩
theorem AJ (k:IntKind) (n:Nat) (f:Nat->Int):(arr k n f).all (·.oneCell')=true:=by
 unfold arr;rw[List.all_toArray,wM];intro v hv;obtain⟨_,_,rfl⟩:=List.mem_map.1 hv
 rfl
section
variable {P : Program} {ops : Array Oper} {rest : List Oper} {o : Oper} {a : Act} {w : World} {Q : Exit -> Act -> World -> Prop}
theorem aZ (hg:o.guard=none) (T:TypeId) (x:Operand) (ho:o.op=.load T x) (k:IntKind) (b n:Nat) (f:Nat->Int) (e:TypeId)
  (hu:P.underlying T=some (.array n e)) (hi:(P.info? T).map (·.size)=some n) (hx:a.eval x=.pointer (some ⟨b,0,none⟩)) (h:aK k w b n f)
  (hK:wpList P ops Q rest (a.put o.dst (.agg (arr k n f))) w):wpList P ops Q (o::rest) a w:=by
 obtain⟨t,ht⟩:=h;exact wpList_load_row hg T x ho b hx t (arr k n f) (0,0) _ ht hu rfl (by rw[hi,iZ]) hK
theorem bG {K:Act->World->Prop} (T:TypeId) (x y:Operand) (ho:o.op=.store T x y) (k:IntKind) (b n:Nat) (f g:Nat->Int)
  (hi:(P.info? T).map (·.size)=some n) (hx:a.eval x=.pointer (some ⟨b,0,none⟩)) (hy:a.eval y=.agg (arr k n g)) (h:aK k w b n f)
  (hK:K (a.put o.dst undef) (w.setRow b (arr k n g))):o.wp P a w K Q:=by
 obtain⟨t,ht⟩:=h;have hr:=run_storeVar_row (P:=P) w b t T (arr k n f) (arr k n g) ht (by rw[hi,iZ]) aR (AJ k n g);unfold Oper.wp execOp;simp only[ho,hx,hy,Instr.storeAt,Instr.sureAddr,uV,wL,vS,hr];exact hK
theorem aL (hg:o.guard=none) (T:TypeId) (x y:Operand) (ho:o.op=.store T x y) (k:IntKind) (b n:Nat) (f g:Nat->Int)
  (hi:(P.info? T).map (·.size)=some n) (hx:a.eval x=.pointer (some ⟨b,0,none⟩)) (hy:a.eval y=.agg (arr k n g)) (h:aK k w b n f)
  (hK:wpList P ops Q rest (a.put o.dst undef) (w.setRow b (arr k n g))):wpList P ops Q (o::rest) a w:=
 wpList_plain hg fun _ hK'=>bG T x y ho k b n f g hi hx hy h (hK' _ _ hK)
end
theorem iy {P:Program} {T e:TypeId} {k:IntKind} {n:Nat} {f:Nat->Int} (hu:P.underlying T=some (.array n e)) (he:P.underlying e=some (.int k)) (hi:(P.info? e).map (·.size)=some 1) (i:Nat) (h:i<n) (w:World):
  (Instr.index T (.agg (arr k n f)) (.int .i64 (i:Int))).run P w=.ok (.int k (f i)) w:=by
 obtain⟨x,hx,hs⟩:=Option.map_eq_some_iff.1 hi;have h2:(0:Int)<=i/\(i:Int)<n:=by omega
 simp[Instr.index,asIntOf,run_underlying hu,run_underlying he,h2,sizeOf,typeInfo,hx,hs,part,isAgg,yC h];intro h3;omega
theorem aB {B g:Nat} {w0 w:World} (hb:Below B w0 w) (hBg:B<=g) (cs:Array Value):Below B w0 (w.setRow g cs):=below_setRow hb hBg cs
theorem bV {P:Program} {fn:Func} {p:Tmp} {T:TypeId} (h:fn.results=#[.cell p T]) (tmps:Array Value) (w:World) (k:IntKind) (b n:Nat) (f:Nat->Int) (e:TypeId)
  (hp:tmps.getD p undef=.pointer (some ⟨b,0,none⟩)) (ha:aK k w b n f) (hu:P.underlying T=some (.array n e)) (hi:(P.info? T).map (·.size)=some n):
  (results fn tmps).run P w=.ok (.agg (arr k n f)) w:=by
 obtain⟨t,ht⟩:=ha;exact results_cell_row h tmps w b t (arr k n f) (0,0) _ hp ht hu rfl (by rw[hi,iZ])
theorem gZ {P:Program} {fn:Func} {p q:Tmp} {T:TypeId} (h:fn.results=#[.cell p T,.tmp q]) (tmps:Array Value) (w:World) (k:IntKind) (b n:Nat) (f:Nat->Int) (e:TypeId)
  (hp:tmps.getD p undef=.pointer (some ⟨b,0,none⟩)) (ha:aK k w b n f) (hu:P.underlying T=some (.array n e)) (hi:(P.info? T).map (·.size)=some n):
  (results fn tmps).run P w=.ok (.tuple #[.agg (arr k n f),tmps.getD q undef]) w:=by
 obtain⟨t,ht⟩:=ha;have hp':tmps[p]?.getD undef=.pointer (some ⟨b,0,none⟩):=by simpa using hp
 simp[results,h,hp',asAddr,run_loadVar_row w b t T (arr k n f) (0,0) _ ht hu rfl (by rw[hi,iZ])]
theorem _root_.cB:type_of% @aK.newAt:=@aK.newAt
structure fV (F:Nat->Prop) (w w':World):Prop where
 os:w'.os=w.os
 tape:w'.tape=w.tape
 output:w'.output=w.output
 size:w.heap.size<=w'.heap.size
 block:∀b,b<w.heap.size->¬ F b->w'.heap[b]? =w.heap[b]?
variable {F G : Nat -> Prop} {w w' w'' : World}
theorem fV.refl (F:Nat->Prop) (w:World):fV F w w:=⟨rfl,rfl,rfl,bH _,fun _ _ _=>rfl⟩
theorem fV.mono (h:fV F w w') (hs:∀b,b<w.heap.size->F b->G b):fV G w w':=⟨h.os,h.tape,h.output,h.size,fun b hb hn=>h.block b hb fun hf=>hn (hs b hb hf)⟩
theorem fV.trans (h:fV F w w') (h':fV G w' w'') (hs:∀b,b<w.heap.size->G b->F b):fV F w w'':=
 ⟨h'.os.trans h.os,h'.tape.trans h.tape,h'.output.trans h.output,iw h.size h'.size,fun b hb hn=>(h'.block b (qZ hb h.size) fun hg=>hn (hs b hb hg)).trans (h.block b hb hn)⟩
theorem fV.of_below (h:Below w.heap.size w w') (F:Nat->Prop):fV F w w':=⟨h.os,h.tape,h.output,h.size,fun b hb _=>h.block b hb⟩
theorem fV.below (h:fV F w w') {B:Nat} (hB:B<=w.heap.size) (hF:∀b,F b->B<=b):Below B w w':=⟨h.os,h.tape,h.output,h.size,fun b hb=>h.block b (qZ hb hB) fun hf=>by have:=hF b hf;omega⟩
theorem fV.jP {row:Option Nat} (h:w.grownBy w' row) (hF:∀b,row=some b->F b):fV F w w':=⟨h.os,h.tape,h.output,h.size,fun b hb hn=>h.block b hb fun e=>hn (hF b e.symm)⟩
theorem fV.set (F:Nat->Prop) (w:World) (p:Addr) (v:Value) (hF:F p.block):fV F w (w.setCell p v):=
 ⟨rfl,rfl,rfl,by rw[size_setCell];exact bH _,fun b hb hn=>by rw[Below.heap_setCell _ _ _ _ (fun e=>hn (by rw[e];exact hF))]⟩
theorem fV.cell (h:fV F w w') {p:Addr} (hp:p.block<w.heap.size) (hn:¬ F p.block):w'.cell? p=w.cell? p:=World.cell?_of_block (h.block _ hp hn)
theorem aK.gL {k:IntKind} {b n:Nat} {f:Nat->Int} (h:aK k w b n f) (hg:fV F w w') (hn:¬ F b):aK k w' b n f:=by
 have hlt:=h.lt;obtain⟨T,h⟩:=h;exact⟨T,by rw[hg.block b hlt hn];exact h⟩
end Go.bI
namespace Go.bI
open Go.RowKit Go.ChangeShapes
theorem BD {P:Program} {w:World} {o:Oper} {a:Act} {K:Act->World->Prop} {Q:Exit->Act->World->Prop}
  (s x:Operand) (t:TypeId) (hop:o.op=.call { callee:=.builtin .append,args:=#[s,x],argTypes:=#[t,t] })
  (e:TypeId) (k:IntKind) (bytes:Nat) (h1:P.underlying t=some (.slice e)) (hinfo:(P.info? e).map (fun i=>(i.zero,i.size,i.bytes))=some (some (.int k 0),1,bytes))
  (gg oo n:Nat) (f:Nat->Int) (hold:∀i,i<n->w.cell? ⟨gg,oo+i,none⟩=some (.int k (f i))) (hs:a.eval s=.slice (some ⟨gg,oo,none⟩) n n)
  (u:Value) (m:Nat) (g:Nat->Int) (hrd:Rd k w u m g) (hx:a.eval x=u) (hm:0<m) (hf:∀i,i<m->f (n+i)=g i)
  (b2:(n+m) * bytes<=140737488355328) (b3:n+m<=9223372036854775807)
  (hK:∀v' w',Rd k w' v' (n+m) f->Below w.heap.size w w'->K (a.put o.dst v') w'):
  o.wp P a w K Q:=by
 obtain⟨i,hi,hz0,hz1,hz2⟩:=info_parts hinfo;obtain⟨ao,c,rfl,l1,l2,l3,l4⟩:=hrd;obtain⟨b,of,rfl,_,hcell⟩:=l4 hm;have hvm:(vals k m g).length=m * i.size:=by rw[hz1];simp
 have hnews:∀j x,(vals k m g)[j]? =some x->w.cell? ((⟨b,of,none⟩:Addr).add j)=some x:=by
  intro j x hx;have hj:j<m:=by
   have:=(List.getElem?_eq_some_iff.1 hx).1
   simpa using this
  rw[addr_add,hcell j hj,←dF (k:=k) (f:=g) hj];exact hx
 have holds:∀j x,(vals k n f)[j]? =some x->w.cell? ((⟨gg,oo,none⟩:Addr).add j)=some x:=by
  intro j x hx;have hj:j<n:=by
   have:=(List.getElem?_eq_some_iff.1 hx).1
   simpa using this
  rw[addr_add,hold j hj,←dF (k:=k) (f:=f) hj];exact hx
 have hr:=run_append_grow (P:=P) w t o.type e i _ h1 hi hz0 ⟨gg,oo,none⟩ n n (vals k n f) (by rw[hz1];simp) holds ⟨b,of,none⟩ m c (vals k m g) hvm hnews aH aH (growslice_fits aH (by rw[hz2];exact b2));have hge:=grownCap_ge w (n+m) n e;have hcm:grownCap w (n+m) n e<=maxLen:=grownCap_le_maxLen w (n+m) n e (by unfold maxLen;omega);unfold maxLen at hcm;unfold Oper.wp execOp;simp only[hop,resolve,invoke,builtin,uV,wL,vS,vT,List.map_cons,List.map_nil,hs,hx,hr];refine hK _ _ ?_ (((bT w.heap.size w).drew).alloc aR _);refine(OwnAt.rd (OwnAt.whole (k:=k) (e:=e) (base:=0) (m:=n+m) (c:=grownCap w (n+m) n e) (f:=f) (jm _) hge aH ?_ ?_))
 ·have hz:(Value.int k 0).cells=#[.int k 0] :=rfl;simp only[Array.size_append,List.size_toArray,size_zeroCells,hz,dH];simp;omega
 ·rw[Array.toList_append,Array.toList_append,←BJ hf];rw[List.take_append_of_le_length aR,List.take_of_length_le aR]
theorem MU {P:Program} {w:World} {ops:Array Oper} {rest:List Oper} {o:Oper} {a:Act} {Q:Exit->Act->World->Prop} (hg:o.guard=none)
  (s x:Operand) (t:TypeId) (hop:o.op=.call { callee:=.builtin .append,args:=#[s,x],argTypes:=#[t,t] })
  (e:TypeId) (k:IntKind) (bytes:Nat) (h1:P.underlying t=some (.slice e)) (hinfo:(P.info? e).map (fun i=>(i.zero,i.size,i.bytes))=some (some (.int k 0),1,bytes))
  (gg oo n:Nat) (f:Nat->Int) (hold:∀i,i<n->w.cell? ⟨gg,oo+i,none⟩=some (.int k (f i))) (hs:a.eval s=.slice (some ⟨gg,oo,none⟩) n n)
  (u:Value) (m:Nat) (g:Nat->Int) (hrd:Rd k w u m g) (hx:a.eval x=u) (hm:0<m) (hf:∀i,i<m->f (n+i)=g i)
  (b2:(n+m) * bytes<=140737488355328) (b3:n+m<=9223372036854775807)
  (hK:∀v' w',Rd k w' v' (n+m) f->Below w.heap.size w w'->wpList P ops Q rest (a.put o.dst v') w'):wpList P ops Q (o::rest) a w:=
 wpList_plain hg fun _ hK'=>BD s x t hop e k bytes h1 hinfo gg oo n f hold hs u m g hrd hx hm hf b2 b3 fun v' w' q1 q2=>hK' _ _ (hK v' w' q1 q2)
end Go.bI
