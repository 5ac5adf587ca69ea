/- Part 4 of SuiteBytes; conditions: in each theorem. -/
import Derived.Test.YtpcjekgfnfjbpaaGreatPkSuiteBytes2
import Derived.Deep.DrawnRows
import Derived.Deep.RegionHeld3
import Derived.Deep.WholeRow
import Derived.Laws.CopyOwn
set_option linter.unusedVariables false
set_option linter.unusedSimpArgs false
namespace Go.bC
open Go.RowKit
def aQ (k:IntKind) (w:World) (b n:Nat) (f:Nat->Int):Prop:=∃T,w.heap[b]? =some (.cells (arr k n f) T (0,0))
theorem aQ.lt {k:IntKind} {w:World} {b n:Nat} {f:Nat->Int} (h:aQ k w b n f):b<w.heap.size:=by
 obtain⟨T,h⟩:=h;exact(Array.getElem?_eq_some_iff.1 h).1
theorem aQ.cell {k:IntKind} {w:World} {b n:Nat} {f:Nat->Int} (h:aQ k w b n f) (i:Nat) (hi:i<n):w.cell? ⟨b,i,none⟩=some (.int k (f i)):=by
 obtain⟨T,h⟩:=h;rw[cell_of_row w b i _ T (0,0) h,rA hi]
theorem aQ.free {k:IntKind} {w:World} {b n:Nat} {f:Nat->Int} (h:aQ k w b n f) (i:Nat):w.frozen? ⟨b,i,none⟩=false:=by
 obtain⟨T,h⟩:=h;exact frozen_of_row w b i _ T h
theorem aQ.congr {k:IntKind} {w:World} {b n:Nat} {f g:Nat->Int} (h:aQ k w b n f) (e:∀i,i<n->f i=g i):aQ k w b n g:=by
 obtain⟨T,h⟩:=h;exact⟨T,by rw[h,gP e]⟩
theorem aQ.drew {k:IntKind} {w:World} {b n:Nat} {f:Nat->Int} (h:aQ k w b n f):aQ k w.drew b n f:=h
theorem aQ.drewN {k:IntKind} {w:World} {b n:Nat} {f:Nat->Int} (h:aQ k w b n f) (m:Nat):aQ k (w.drewN m) b n f:=h
theorem aQ.alloc {k:IntKind} {w:World} {b n:Nat} {f:Nat->Int} (h:aQ k w b n f) (o:Obj):aQ k (w.alloc o) b n f:=by
 have hlt:=h.lt;obtain⟨T,h⟩:=h;exact⟨T,by rw[Below.heap_alloc _ _ _ hlt];exact h⟩
theorem aQ.new (k:IntKind) (w:World) (T:TypeId) (n:Nat) (f:Nat->Int):aQ k (w.alloc (.cells (arr k n f) T)) w.heap.size n f:=⟨T,heap_alloc_new w _⟩
theorem aQ.newAt {k:IntKind} {w:World} {T:TypeId} {n b:Nat} {f:Nat->Int} {cs:Array Value} (hb:b=w.heap.size) (h:cs=arr k n f):aQ k (w.alloc (.cells cs T)) b n f:=by subst hb;subst h;exact aQ.new k w T n f
theorem aQ.below {k:IntKind} {w w':World} {b n B:Nat} {f:Nat->Int} (h:aQ k w b n f) (hb:Below B w w') (hB:b<B):aQ k w' b n f:=by
 obtain⟨T,h⟩:=h;exact⟨T,by rw[hb.block b hB];exact h⟩
theorem aQ.kept {k:IntKind} {w w':World} {b n:Nat} {f:Nat->Int} (h:aQ k w b n f) (hb:Below w.heap.size w w'):aQ k w' b n f:=h.below hb h.lt
theorem aQ.other {k:IntKind} {w:World} {b n:Nat} {f:Nat->Int} (h:aQ k w b n f) {p:Addr} (hp:b≠p.block) (v:Value):aQ k (w.setCell p v) b n f:=by
 obtain⟨T,h⟩:=h;exact⟨T,by rw[heap_setCell_other w p b v hp];exact h⟩
theorem aQ.grown {k:IntKind} {w w':World} {b n:Nat} {f:Nat->Int} {row:Option Nat} (h:aQ k w b n f) (hg:w.grownBy w' row) (gB:some b≠row):aQ k w' b n f:=by
 have hlt:=h.lt;obtain⟨T,h⟩:=h;exact⟨T,by rw[hg.block b hlt gB];exact h⟩
theorem Zv {k:IntKind} {n:Nat} {f:Nat->Int} (j:Nat) (x:Int):(arr k n f).setIfInBounds j (.int k x)=arr k n (upd f j x):=by
 unfold arr;rw[dK,IW]
theorem aQ.set {k:IntKind} {w:World} {b n:Nat} {f:Nat->Int} (h:aQ k w b n f) (j:Nat) (x:Int):aQ k (w.setCell ⟨b,j,none⟩ (.int k x)) b n (upd f j x):=by
 obtain⟨T,h⟩:=h;exact⟨T,by rw[heap_setCell_same w b j _ T _ h,Zv]⟩
theorem aQ.setRow {k:IntKind} {w:World} {b n:Nat} {f:Nat->Int} (h:aQ k w b n f) (m:Nat) (g:Nat->Int):aQ k (w.setRow b (arr k m g)) b m g:=by
 obtain⟨T,h⟩:=h;exact⟨T,setRow_heap w b _ _ T _ h⟩
theorem aQ.aG {k:IntKind} {w:World} {b n:Nat} {f:Nat->Int} (h:aQ k w b n f) (b':Nat) (hb:b≠b') (cs:Array Value):aQ k (w.setRow b' cs) b n f:=by
 obtain⟨T,h⟩:=h;exact⟨T,by rw[setRow_other w b' b cs hb];exact h⟩
theorem aQ.rd {k:IntKind} {w:World} {b n:Nat} {f:Nat->Int} (h:aQ k w b n f) (hn:n<=9223372036854775807):Rd k w (.slice (some ⟨b,0,none⟩) n n) n f:=
 ⟨_,_,rfl,bB _,hn,(fun h=>by cases h),fun _=>⟨b,0,rfl,h.lt,fun i hi=>by rw[oD];exact h.cell i hi⟩⟩
theorem zM (k:IntKind) (n:Nat) (f:Nat->Int):(arr k n f).all (·.oneCell')=true:=by
 unfold arr;rw[List.all_toArray,CQ];intro v hv;obtain⟨_,_,rfl⟩:=List.mem_map.1 hv
 rfl
section
variable {P : Program} {ops : Array Oper} {rest : List Oper} {o : Oper} {a : Act} {w : World} {Q : Exit -> Act -> World -> Prop}
theorem bq (hg:o.guard=none) (T:TypeId) (x:Operand) (ho:o.op=.load T x) (k:IntKind) (b n:Nat) (f:Nat->Int) (e:TypeId)
  (hu:P.underlying T=some (.array n e)) (hi:(P.info? T).map (·.size)=some n) (hx:a.eval x=.pointer (some ⟨b,0,none⟩)) (h:aQ k w b n f)
  (hK:wpList P ops Q rest (a.put o.dst (.agg (arr k n f))) w):wpList P ops Q (o::rest) a w:=by
 obtain⟨t,ht⟩:=h;exact wpList_load_row hg T x ho b hx t (arr k n f) (0,0) _ ht hu rfl (by rw[hi,gW]) hK
theorem bE {K:Act->World->Prop} (T:TypeId) (x y:Operand) (ho:o.op=.store T x y) (k:IntKind) (b n:Nat) (f g:Nat->Int)
  (hi:(P.info? T).map (·.size)=some n) (hx:a.eval x=.pointer (some ⟨b,0,none⟩)) (hy:a.eval y=.agg (arr k n g)) (h:aQ k w b n f)
  (hK:K (a.put o.dst undef) (w.setRow b (arr k n g))):o.wp P a w K Q:=by
 obtain⟨t,ht⟩:=h;have hr:=run_storeVar_row (P:=P) w b t T (arr k n f) (arr k n g) ht (by rw[hi,gW]) aR (zM k n g);unfold Oper.wp execOp;simp only[ho,hx,hy,Instr.storeAt,Instr.sureAddr,uD,xI,vG,hr];exact hK
theorem aM (hg:o.guard=none) (T:TypeId) (x y:Operand) (ho:o.op=.store T x y) (k:IntKind) (b n:Nat) (f g:Nat->Int)
  (hi:(P.info? T).map (·.size)=some n) (hx:a.eval x=.pointer (some ⟨b,0,none⟩)) (hy:a.eval y=.agg (arr k n g)) (h:aQ k w b n f)
  (hK:wpList P ops Q rest (a.put o.dst undef) (w.setRow b (arr k n g))):wpList P ops Q (o::rest) a w:=
 wpList_plain hg fun _ hK'=>bE T x y ho k b n f g hi hx hy h (hK' _ _ hK)
end
theorem gM {P:Program} {T e:TypeId} {k:IntKind} {n:Nat} {f:Nat->Int} (hu:P.underlying T=some (.array n e)) (he:P.underlying e=some (.int k)) (hi:(P.info? e).map (·.size)=some 1) (i:Nat) (h:i<n) (w:World):
  (Instr.index T (.agg (arr k n f)) (.int .i64 (i:Int))).run P w=.ok (.int k (f i)) w:=by
 obtain⟨x,hx,hs⟩:=Option.map_eq_some_iff.1 hi;have h2:(0:Int)<=i/\(i:Int)<n:=by omega
 simp[Instr.index,asIntOf,run_underlying hu,run_underlying he,h2,sizeOf,typeInfo,hx,hs,part,isAgg,rA h];intro h3;omega
theorem aC {B g:Nat} {w0 w:World} (hb:Below B w0 w) (hBg:B<=g) (cs:Array Value):Below B w0 (w.setRow g cs):=below_setRow hb hBg cs
theorem bg {P:Program} {fn:Func} {p:Tmp} {T:TypeId} (h:fn.results=#[.cell p T]) (tmps:Array Value) (w:World) (k:IntKind) (b n:Nat) (f:Nat->Int) (e:TypeId)
  (hp:tmps.getD p undef=.pointer (some ⟨b,0,none⟩)) (ha:aQ k w b n f) (hu:P.underlying T=some (.array n e)) (hi:(P.info? T).map (·.size)=some n):
  (results fn tmps).run P w=.ok (.agg (arr k n f)) w:=by
 obtain⟨t,ht⟩:=ha;exact results_cell_row h tmps w b t (arr k n f) (0,0) _ hp ht hu rfl (by rw[hi,gW])
theorem gK {P:Program} {fn:Func} {p q:Tmp} {T:TypeId} (h:fn.results=#[.cell p T,.tmp q]) (tmps:Array Value) (w:World) (k:IntKind) (b n:Nat) (f:Nat->Int) (e:TypeId)
  (hp:tmps.getD p undef=.pointer (some ⟨b,0,none⟩)) (ha:aQ k w b n f) (hu:P.underlying T=some (.array n e)) (hi:(P.info? T).map (·.size)=some n):
  (results fn tmps).run P w=.ok (.tuple #[.agg (arr k n f),tmps.getD q undef]) w:=by
 obtain⟨t,ht⟩:=ha;have hp':tmps[p]?.getD undef=.pointer (some ⟨b,0,none⟩):=by simpa using hp
 simp[results,h,hp',asAddr,run_loadVar_row w b t T (arr k n f) (0,0) _ ht hu rfl (by rw[hi,gW])]
theorem _root_.bU:type_of% @aQ.newAt:=@aQ.newAt
structure iW (F:Nat->Prop) (w w':World):Prop where
 os:w'.os=w.os
 tape:w'.tape=w.tape
 output:w'.output=w.output
 size:w.heap.size<=w'.heap.size
 block:∀b,b<w.heap.size->¬ F b->w'.heap[b]? =w.heap[b]?
variable {F G : Nat -> Prop} {w w' w'' : World}
theorem iW.refl (F:Nat->Prop) (w:World):iW F w w:=⟨rfl,rfl,rfl,bB _,fun _ _ _=>rfl⟩
theorem iW.mono (h:iW F w w') (hs:∀b,b<w.heap.size->F b->G b):iW G w w':=⟨h.os,h.tape,h.output,h.size,fun b hb hn=>h.block b hb fun hf=>hn (hs b hb hf)⟩
theorem iW.trans (h:iW F w w') (h':iW G w' w'') (hs:∀b,b<w.heap.size->G b->F b):iW F w w'':=
 ⟨h'.os.trans h.os,h'.tape.trans h.tape,h'.output.trans h.output,jS h.size h'.size,fun b hb hn=>(h'.block b (zO hb h.size) fun hg=>hn (hs b hb hg)).trans (h.block b hb hn)⟩
theorem iW.of_below (h:Below w.heap.size w w') (F:Nat->Prop):iW F w w':=⟨h.os,h.tape,h.output,h.size,fun b hb _=>h.block b hb⟩
theorem iW.below (h:iW F w w') {B:Nat} (hB:B<=w.heap.size) (hF:∀b,F b->B<=b):Below B w w':=⟨h.os,h.tape,h.output,h.size,fun b hb=>h.block b (zO hb hB) fun hf=>by have:=hF b hf;omega⟩
theorem iW.Bn {row:Option Nat} (h:w.grownBy w' row) (hF:∀b,row=some b->F b):iW F w w':=⟨h.os,h.tape,h.output,h.size,fun b hb hn=>h.block b hb fun e=>hn (hF b e.symm)⟩
theorem iW.set (F:Nat->Prop) (w:World) (p:Addr) (v:Value) (hF:F p.block):iW F w (w.setCell p v):=
 ⟨rfl,rfl,rfl,by rw[size_setCell];exact bB _,fun b hb hn=>by rw[Below.heap_setCell _ _ _ _ (fun e=>hn (by rw[e];exact hF))]⟩
theorem iW.cell (h:iW F w w') {p:Addr} (hp:p.block<w.heap.size) (hn:¬ F p.block):w'.cell? p=w.cell? p:=World.cell?_of_block (h.block _ hp hn)
theorem aQ.yJ {k:IntKind} {b n:Nat} {f:Nat->Int} (h:aQ k w b n f) (hg:iW F w w') (hn:¬ F b):aQ k w' b n f:=by
 have hlt:=h.lt;obtain⟨T,h⟩:=h;exact⟨T,by rw[hg.block b hlt hn];exact h⟩
end Go.bC
