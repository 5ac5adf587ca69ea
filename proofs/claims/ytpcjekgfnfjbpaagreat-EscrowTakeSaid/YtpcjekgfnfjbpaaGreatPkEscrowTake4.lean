/-
  Part 4 of EscrowTake. Conditions: named in each theorem.
-/
import Derived.Test.YtpcjekgfnfjbpaaGreatPkEscrowTake2
import Derived.Deep.DrawnRows
import Derived.Deep.RegionHeld3
import Derived.Deep.WholeRow
import Derived.Laws.CopyOwn
set_option linter.unusedVariables false
set_option linter.unusedSimpArgs false
namespace Go.aZ
open Go.RowKit
def aF (k:IntKind) (w:World) (b n:Nat) (f:Nat->Int):Prop:=∃T,w.heap[b]? =some (.cells (arr k n f) T (0,0))
theorem aF.lt {k:IntKind} {w:World} {b n:Nat} {f:Nat->Int} (h:aF k w b n f):b<w.heap.size:=by
 obtain ⟨T,h⟩:=h;exact (Array.getElem?_eq_some_iff.1 h).1
theorem aF.cell {k:IntKind} {w:World} {b n:Nat} {f:Nat->Int} (h:aF k w b n f) (i:Nat) (hi:i<n):w.cell? ⟨b,i,none⟩=some (.int k (f i)):=by
 obtain ⟨T,h⟩:=h;rw [cell_of_row w b i _ T (0,0) h,uX hi]
theorem aF.free {k:IntKind} {w:World} {b n:Nat} {f:Nat->Int} (h:aF k w b n f) (i:Nat):w.frozen? ⟨b,i,none⟩=false:=by
 obtain ⟨T,h⟩:=h;exact frozen_of_row w b i _ T h
theorem aF.congr {k:IntKind} {w:World} {b n:Nat} {f g:Nat->Int} (h:aF k w b n f) (e:∀i,i<n->f i=g i):aF k w b n g:=by
 obtain ⟨T,h⟩:=h;exact ⟨T,by rw [h,gJ e]⟩
theorem aF.drew {k:IntKind} {w:World} {b n:Nat} {f:Nat->Int} (h:aF k w b n f):aF k w.drew b n f:=h
theorem aF.drewN {k:IntKind} {w:World} {b n:Nat} {f:Nat->Int} (h:aF k w b n f) (m:Nat):aF k (w.drewN m) b n f:=h
theorem aF.alloc {k:IntKind} {w:World} {b n:Nat} {f:Nat->Int} (h:aF k w b n f) (o:Obj):aF k (w.alloc o) b n f:=by
 have hlt:=h.lt;obtain ⟨T,h⟩:=h;exact ⟨T,by rw [Below.heap_alloc _ _ _ hlt];exact h⟩
theorem aF.new (k:IntKind) (w:World) (T:TypeId) (n:Nat) (f:Nat->Int):aF k (w.alloc (.cells (arr k n f) T)) w.heap.size n f:=⟨T,heap_alloc_new w _⟩
theorem aF.newAt {k:IntKind} {w:World} {T:TypeId} {n b:Nat} {f:Nat->Int} {cs:Array Value} (hb:b=w.heap.size) (h:cs=arr k n f):aF k (w.alloc (.cells cs T)) b n f:=by subst hb;subst h;exact aF.new k w T n f
theorem aF.below {k:IntKind} {w w':World} {b n B:Nat} {f:Nat->Int} (h:aF k w b n f) (hb:Below B w w') (hB:b<B):aF k w' b n f:=by
 obtain ⟨T,h⟩:=h;exact ⟨T,by rw [hb.block b hB];exact h⟩
theorem aF.kept {k:IntKind} {w w':World} {b n:Nat} {f:Nat->Int} (h:aF k w b n f) (hb:Below w.heap.size w w'):aF k w' b n f:=h.below hb h.lt
theorem aF.other {k:IntKind} {w:World} {b n:Nat} {f:Nat->Int} (h:aF k w b n f) {p:Addr} (hp:b≠p.block) (v:Value):aF k (w.setCell p v) b n f:=by
 obtain ⟨T,h⟩:=h;exact ⟨T,by rw [heap_setCell_other w p b v hp];exact h⟩
theorem aF.grown {k:IntKind} {w w':World} {b n:Nat} {f:Nat->Int} {row:Option Nat} (h:aF k w b n f) (hg:w.grownBy w' row) (hne:some b≠row):aF k w' b n f:=by
 have hlt:=h.lt;obtain ⟨T,h⟩:=h;exact ⟨T,by rw [hg.block b hlt hne];exact h⟩
theorem YH {k:IntKind} {n:Nat} {f:Nat->Int} (j:Nat) (x:Int):(arr k n f).setIfInBounds j (.int k x)=arr k n (upd f j x):=by
 unfold arr;rw [dQ,FD]
theorem aF.set {k:IntKind} {w:World} {b n:Nat} {f:Nat->Int} (h:aF k w b n f) (j:Nat) (x:Int):aF k (w.setCell ⟨b,j,none⟩ (.int k x)) b n (upd f j x):=by
 obtain ⟨T,h⟩:=h;exact ⟨T,by rw [heap_setCell_same w b j _ T _ h,YH]⟩
theorem aF.setRow {k:IntKind} {w:World} {b n:Nat} {f:Nat->Int} (h:aF k w b n f) (m:Nat) (g:Nat->Int):aF k (w.setRow b (arr k m g)) b m g:=by
 obtain ⟨T,h⟩:=h;exact ⟨T,setRow_heap w b _ _ T _ h⟩
theorem aF.aA {k:IntKind} {w:World} {b n:Nat} {f:Nat->Int} (h:aF k w b n f) (b':Nat) (hb:b≠b') (cs:Array Value):aF k (w.setRow b' cs) b n f:=by
 obtain ⟨T,h⟩:=h;exact ⟨T,by rw [setRow_other w b' b cs hb];exact h⟩
theorem aF.rd {k:IntKind} {w:World} {b n:Nat} {f:Nat->Int} (h:aF k w b n f) (hn:n<=9223372036854775807):Rd k w (.slice (some ⟨b,0,none⟩) n n) n f:=
 ⟨_,_,rfl,bA _,hn,(fun h=> by cases h),fun _=> ⟨b,0,rfl,h.lt,fun i hi=> by rw [pz];exact h.cell i hi⟩⟩
theorem xX (k:IntKind) (n:Nat) (f:Nat->Int):(arr k n f).all (·.oneCell')=true:=by
 unfold arr;rw [List.all_toArray,tH];intro v hv;obtain ⟨_,_,rfl⟩:=List.mem_map.1 hv
 rfl
section
variable {P : Program} {ops : Array Oper} {rest : List Oper} {o : Oper} {a : Act} {w : World} {Q : Exit -> Act -> World -> Prop}
theorem aQ (hg:o.guard=none) (T:TypeId) (x:Operand) (ho:o.op=.load T x) (k:IntKind) (b n:Nat) (f:Nat->Int) (e:TypeId)
  (hu:P.underlying T=some (.array n e)) (hi:(P.info? T).map (·.size)=some n) (hx:a.eval x=.pointer (some ⟨b,0,none⟩)) (h:aF k w b n f)
  (hK:wpList P ops Q rest (a.put o.dst (.agg (arr k n f))) w):wpList P ops Q (o::rest) a w:=by
 obtain ⟨t,ht⟩:=h;exact wpList_load_row hg T x ho b hx t (arr k n f) (0,0) _ ht hu rfl (by rw [hi,gN]) hK
theorem aX {K:Act->World->Prop} (T:TypeId) (x y:Operand) (ho:o.op=.store T x y) (k:IntKind) (b n:Nat) (f g:Nat->Int)
  (hi:(P.info? T).map (·.size)=some n) (hx:a.eval x=.pointer (some ⟨b,0,none⟩)) (hy:a.eval y=.agg (arr k n g)) (h:aF k w b n f)
  (hK:K (a.put o.dst undef) (w.setRow b (arr k n g))):o.wp P a w K Q:=by
 obtain ⟨t,ht⟩:=h;have hr:=run_storeVar_row (P:=P) w b t T (arr k n f) (arr k n g) ht (by rw [hi,gN]) (by simp) (xX k n g);unfold Oper.wp execOp;simp only [ho,hx,hy,Instr.storeAt,Instr.sureAddr,Sem.run_bind,Sem.run_pure,Result.andThen_ok,hr];exact hK
theorem aG (hg:o.guard=none) (T:TypeId) (x y:Operand) (ho:o.op=.store T x y) (k:IntKind) (b n:Nat) (f g:Nat->Int)
  (hi:(P.info? T).map (·.size)=some n) (hx:a.eval x=.pointer (some ⟨b,0,none⟩)) (hy:a.eval y=.agg (arr k n g)) (h:aF k w b n f)
  (hK:wpList P ops Q rest (a.put o.dst undef) (w.setRow b (arr k n g))):wpList P ops Q (o::rest) a w:=
 wpList_plain hg fun _ hK'=> aX T x y ho k b n f g hi hx hy h (hK' _ _ hK)
end
theorem fV {P:Program} {T e:TypeId} {k:IntKind} {n:Nat} {f:Nat->Int} (hu:P.underlying T=some (.array n e)) (he:P.underlying e=some (.int k)) (hi:(P.info? e).map (·.size)=some 1) (i:Nat) (h:i<n) (w:World):
  (Instr.index T (.agg (arr k n f)) (.int .i64 (i:Int))).run P w=.ok (.int k (f i)) w:=by
 obtain ⟨x,hx,hs⟩:=Option.map_eq_some_iff.1 hi;have h2:(0:Int)<=i/\(i:Int)<n:=by omega
 simp [Instr.index,asIntOf,run_underlying hu,run_underlying he,h2,sizeOf,typeInfo,hx,hs,part,isAgg,uX h];intro h3;omega
theorem ay {B g:Nat} {w0 w:World} (hb:Below B w0 w) (hBg:B<=g) (cs:Array Value):Below B w0 (w.setRow g cs):=below_setRow hb hBg cs
theorem bG {P:Program} {fn:Func} {p:Tmp} {T:TypeId} (h:fn.results=#[.cell p T]) (tmps:Array Value) (w:World) (k:IntKind) (b n:Nat) (f:Nat->Int) (e:TypeId)
  (hp:tmps.getD p undef=.pointer (some ⟨b,0,none⟩)) (ha:aF k w b n f) (hu:P.underlying T=some (.array n e)) (hi:(P.info? T).map (·.size)=some n):
  (results fn tmps).run P w=.ok (.agg (arr k n f)) w:=by
 obtain ⟨t,ht⟩:=ha;exact results_cell_row h tmps w b t (arr k n f) (0,0) _ hp ht hu rfl (by rw [hi,gN])
theorem fT {P:Program} {fn:Func} {p q:Tmp} {T:TypeId} (h:fn.results=#[.cell p T,.tmp q]) (tmps:Array Value) (w:World) (k:IntKind) (b n:Nat) (f:Nat->Int) (e:TypeId)
  (hp:tmps.getD p undef=.pointer (some ⟨b,0,none⟩)) (ha:aF k w b n f) (hu:P.underlying T=some (.array n e)) (hi:(P.info? T).map (·.size)=some n):
  (results fn tmps).run P w=.ok (.tuple #[.agg (arr k n f),tmps.getD q undef]) w:=by
 obtain ⟨t,ht⟩:=ha;have hp':tmps[p]?.getD undef=.pointer (some ⟨b,0,none⟩):=by simpa using hp
 simp [results,h,hp',asAddr,run_loadVar_row w b t T (arr k n f) (0,0) _ ht hu rfl (by rw [hi,gN])]
theorem _root_.bM:type_of% @aF.newAt:=@aF.newAt
structure gY (F:Nat->Prop) (w w':World):Prop where
 os:w'.os=w.os
 tape:w'.tape=w.tape
 output:w'.output=w.output
 size:w.heap.size<=w'.heap.size
 block:∀b,b<w.heap.size->¬ F b->w'.heap[b]? =w.heap[b]?
variable {F G : Nat -> Prop} {w w' w'' : World}
theorem gY.refl (F:Nat->Prop) (w:World):gY F w w:=⟨rfl,rfl,rfl,bA _,fun _ _ _=> rfl⟩
theorem gY.mono (h:gY F w w') (hs:∀b,b<w.heap.size->F b->G b):gY G w w':=⟨h.os,h.tape,h.output,h.size,fun b hb hn=> h.block b hb fun hf=> hn (hs b hb hf)⟩
theorem gY.trans (h:gY F w w') (h':gY G w' w'') (hs:∀b,b<w.heap.size->G b->F b):gY F w w'':=
 ⟨h'.os.trans h.os,h'.tape.trans h.tape,h'.output.trans h.output,gQ h.size h'.size,fun b hb hn=> (h'.block b (pJ hb h.size) fun hg=> hn (hs b hb hg)).trans (h.block b hb hn)⟩
theorem gY.of_below (h:Below w.heap.size w w') (F:Nat->Prop):gY F w w':=⟨h.os,h.tape,h.output,h.size,fun b hb _=> h.block b hb⟩
theorem gY.below (h:gY F w w') {B:Nat} (hB:B<=w.heap.size) (hF:∀b,F b->B<=b):Below B w w':=⟨h.os,h.tape,h.output,h.size,fun b hb=> h.block b (pJ hb hB) fun hf=> by have:=hF b hf;omega⟩
theorem gY.Hf {row:Option Nat} (h:w.grownBy w' row) (hF:∀b,row=some b->F b):gY F w w':=⟨h.os,h.tape,h.output,h.size,fun b hb hn=> h.block b hb fun e=> hn (hF b e.symm)⟩
theorem gY.set (F:Nat->Prop) (w:World) (p:Addr) (v:Value) (hF:F p.block):gY F w (w.setCell p v):=
 ⟨rfl,rfl,rfl,by rw [size_setCell];exact bA _,fun b hb hn=> by rw [Below.heap_setCell _ _ _ _ (fun e=> hn (by rw [e];exact hF))]⟩
theorem gY.cell (h:gY F w w') {p:Addr} (hp:p.block<w.heap.size) (hn:¬ F p.block):w'.cell? p=w.cell? p:=World.cell?_of_block (h.block _ hp hn)
theorem aF.kV {k:IntKind} {b n:Nat} {f:Nat->Int} (h:aF k w b n f) (hg:gY F w w') (hn:¬ F b):aF k w' b n f:=by
 have hlt:=h.lt;obtain ⟨T,h⟩:=h;exact ⟨T,by rw [hg.block b hlt hn];exact h⟩
end Go.aZ
namespace Go.aZ
open Go.RowKit Go.ChangeShapes
theorem yK {P:Program} {w:World} {o:Oper} {a:Act} {K:Act->World->Prop} {Q:Exit->Act->World->Prop}
  (s x:Operand) (t:TypeId) (hop:o.op=.call { callee:=.builtin .append,args:=#[s,x],argTypes:=#[t,t] })
  (e:TypeId) (k:IntKind) (bytes:Nat) (h1:P.underlying t=some (.slice e)) (hinfo:(P.info? e).map (fun i=> (i.zero,i.size,i.bytes))=some (some (.int k 0),1,bytes))
  (gg oo n:Nat) (f:Nat->Int) (hold:∀i,i<n->w.cell? ⟨gg,oo+i,none⟩=some (.int k (f i))) (hs:a.eval s=.slice (some ⟨gg,oo,none⟩) n n)
  (u:Value) (m:Nat) (g:Nat->Int) (hrd:Rd k w u m g) (hx:a.eval x=u) (hm:0<m) (hf:∀i,i<m->f (n+i)=g i)
  (b2:(n+m) * bytes<=140737488355328) (b3:n+m<=9223372036854775807)
  (hK:∀v' w',Rd k w' v' (n+m) f->Below w.heap.size w w'->K (a.put o.dst v') w'):
  o.wp P a w K Q:=by
 obtain ⟨i,hi,hz0,hz1,hz2⟩:=info_parts hinfo;obtain ⟨ao,c,rfl,l1,l2,l3,l4⟩:=hrd;obtain ⟨b,of,rfl,_,hcell⟩:=l4 hm;have hvm:(vals k m g).length=m * i.size:=by rw [hz1];simp
 have hnews:∀j x,(vals k m g)[j]? =some x->w.cell? ((⟨b,of,none⟩:Addr).add j)=some x:=by
  intro j x hx;have hj:j<m:=by
   have:=(List.getElem?_eq_some_iff.1 hx).1
   simpa using this
  rw [addr_add,hcell j hj,←cK (k:=k) (f:=g) hj];exact hx
 have holds:∀j x,(vals k n f)[j]? =some x->w.cell? ((⟨gg,oo,none⟩:Addr).add j)=some x:=by
  intro j x hx;have hj:j<n:=by
   have:=(List.getElem?_eq_some_iff.1 hx).1
   simpa using this
  rw [addr_add,hold j hj,←cK (k:=k) (f:=f) hj];exact hx
 have hr:=run_append_grow (P:=P) w t o.type e i _ h1 hi hz0 ⟨gg,oo,none⟩ n n (vals k n f) (by rw [hz1];simp) holds ⟨b,of,none⟩ m c (vals k m g) hvm hnews (by omega) (by omega) (growslice_fits (by omega) (by rw [hz2];exact b2));have hge:=grownCap_ge w (n+m) n e;have hcm:grownCap w (n+m) n e<=maxLen:=grownCap_le_maxLen w (n+m) n e (by unfold maxLen;omega);unfold maxLen at hcm;unfold Oper.wp execOp;simp only [hop,resolve,invoke,builtin,Sem.run_bind,Sem.run_pure,Result.andThen_ok,vg,List.map_cons,List.map_nil,hs,hx,hr];refine hK _ _ ?_ (((bN w.heap.size w).drew).alloc (by simp) _);refine (OwnAt.rd (OwnAt.whole (k:=k) (e:=e) (base:=0) (m:=n+m) (c:=grownCap w (n+m) n e) (f:=f) (iY _) hge (by omega) ?_ ?_))
 ·have hz:(Value.int k 0).cells=#[.int k 0] :=rfl;simp only [Array.size_append,List.size_toArray,size_zeroCells,hz,dh];simp;omega
 ·rw [Array.toList_append,Array.toList_append,←yN hf];rw [List.take_append_of_le_length (by simp),List.take_of_length_le (by simp)]
theorem Jq {P:Program} {w:World} {ops:Array Oper} {rest:List Oper} {o:Oper} {a:Act} {Q:Exit->Act->World->Prop} (hg:o.guard=none)
  (s x:Operand) (t:TypeId) (hop:o.op=.call { callee:=.builtin .append,args:=#[s,x],argTypes:=#[t,t] })
  (e:TypeId) (k:IntKind) (bytes:Nat) (h1:P.underlying t=some (.slice e)) (hinfo:(P.info? e).map (fun i=> (i.zero,i.size,i.bytes))=some (some (.int k 0),1,bytes))
  (gg oo n:Nat) (f:Nat->Int) (hold:∀i,i<n->w.cell? ⟨gg,oo+i,none⟩=some (.int k (f i))) (hs:a.eval s=.slice (some ⟨gg,oo,none⟩) n n)
  (u:Value) (m:Nat) (g:Nat->Int) (hrd:Rd k w u m g) (hx:a.eval x=u) (hm:0<m) (hf:∀i,i<m->f (n+i)=g i)
  (b2:(n+m) * bytes<=140737488355328) (b3:n+m<=9223372036854775807)
  (hK:∀v' w',Rd k w' v' (n+m) f->Below w.heap.size w w'->wpList P ops Q rest (a.put o.dst v') w'):wpList P ops Q (o::rest) a w:=
 wpList_plain hg fun _ hK'=> yK s x t hop e k bytes h1 hinfo gg oo n f hold hs u m g hrd hx hm hf b2 b3 fun v' w' q1 q2=> hK' _ _ (hK v' w' q1 q2)
end Go.aZ
