/- Part 16 of EscrowComes; conditions: in each theorem. -/
import Derived.Test.YtpcjekgfnfjbpaaGreatPkEC12
import Derived.Test.YtpcjekgfnfjbpaaGreatPkEC15
import Derived.Great.BuildSlice
set_option linter.unusedVariables false
set_option linter.unusedSimpArgs false
namespace Go.bI
open Go.RowKit
theorem Kw {w:World} {k:IntKind} {b off n:Nat} {f:Nat->Int} (hc:∀i,i<n->w.cell? ⟨b,off+i,none⟩=some (.int k (f i))):w.rangeAt b off (vals k n f):=by
 intro j v hv;have hj:j<n:=by
  have:=(List.getElem?_eq_some_iff.1 hv).1
  simpa using this
 rw[dF hj] at hv;cases hv
 exact hc j hj
section
variable {P : Program} {ops : Array Oper} {o : Oper} {rest : List Oper} {a : Act} {w : World} {Q : Act -> Prop}
theorem SH (hw:Region.wanted o (yielded ops a.tmps)=true) {v:Value} (hr:(execOp a.eval o).run P w=.ok (.value v) w) (h:wpStill P ops w Q rest (a.put o.dst v)):wpStill P ops w Q (o::rest) a:=by
 unfold wpStill;rw[if_pos hw];unfold Oper.still;rw[hr];exact⟨rfl,h⟩
theorem Es {T:TypeId} {d:TypeDesc} {x:Operand} {k:IntKind} {b off n:Nat} {f:Nat->Int} (ho:o.op=.load T x) (hx:a.eval x=.pointer (some ⟨b,off,none⟩))
  (hu:P.underlying T=some d) (hd:d.isRow=true) (hi:(P.info? T).map (·.size)=some n) (hc:∀i,i<n->w.cell? ⟨b,off+i,none⟩=some (.int k (f i))):
  (execOp a.eval o).run P w=.ok (.value (.agg (arr k n f))) w:=by
 unfold execOp;simp only[ho,hx,Instr.loadAt,Instr.sureAddr,uV,wL,vS,run_loadVar_mid (P:=P) w b off T (vals k n f) d (Kw hc) hu hd (by rw[hi,dH])]
 rfl
def gV (c:Nat) (y:Nat->Value):Array Value:=((List.range c).map y).toArray
theorem kU (c:Nat) (y:Nat->Value):(gV c y).size=c:=by simp[gV]
theorem xC {c:Nat} {y:Nat->Value} {i:Nat} (h:i<c):(gV c y)[i]? =some (y i):=by simp[gV,h]
theorem Og {w:World} {b off n:Nat} {y:Nat->Value} (hc:∀i,i<n->w.cell? ⟨b,off+i,none⟩=some (y i)):w.rangeAt b off ((List.range n).map y):=by
 intro j v hv;have hj:j<n:=by
  have:=(List.getElem?_eq_some_iff.1 hv).1
  simpa using this
 rw[List.getElem?_map,List.getElem?_range hj] at hv;cases hv
 exact hc j hj
theorem lG {T:TypeId} {d:TypeDesc} {x:Operand} {b off n:Nat} {y:Nat->Value} (ho:o.op=.load T x) (hx:a.eval x=.pointer (some ⟨b,off,none⟩))
  (hu:P.underlying T=some d) (hd:d.isRow=true) (hi:(P.info? T).map (·.size)=some n) (hc:∀i,i<n->w.cell? ⟨b,off+i,none⟩=some (y i)):
  (execOp a.eval o).run P w=.ok (.value (.agg (gV n y))) w:=by
 unfold execOp;simp only[ho,hx,Instr.loadAt,Instr.sureAddr,uV,wL,vS,run_loadVar_mid (P:=P) w b off T ((List.range n).map y) d (Og hc) hu hd (by rw[hi];simp)]
 rfl
theorem Fx (hw:Region.wanted o (yielded ops a.tmps)=true) {T:TypeId} {d:TypeDesc} {x:Operand} {b off n:Nat} {y:Nat->Value} (ho:o.op=.load T x) (hx:a.eval x=.pointer (some ⟨b,off,none⟩))
  (hu:P.underlying T=some d) (hd:d.isRow=true) (hi:(P.info? T).map (·.size)=some n) (hc:∀i,i<n->w.cell? ⟨b,off+i,none⟩=some (y i))
  (h:wpStill P ops w Q rest (a.put o.dst (.agg (gV n y)))):wpStill P ops w Q (o::rest) a:=SH hw (lG ho hx hu hd hi hc) h
def builtSlice (P:Program) (e:TypeId) (len:Nat) (parts:List (Nat × Value)):Option (Array Value):=match P.info? e with
 | some ie=>match ie.zero with
  | some z=>if len * ie.size > 2 ^ 24\/len * ie.size=0 then none else Instr.fill (fun i=>some (i * ie.size,ie.size)) ((Array.range (len * ie.size)).map (z.cells[· % z.cells.size]!)) parts
  | none=>none
 | none=>none
theorem yN {K:Act->World->Prop} {Q':Exit->Act->World->Prop} (t e:TypeId) (len:Nat) (parts:Array (Nat × Operand)) (ho:o.op=.buildSlice t len parts) (hu:P.underlying t=some (.slice e)) (cells:Array Value)
  (hf:builtSlice P e len (parts.map fun(i,x)=>(i,a.eval x)).toList=some cells) (h:K (a.put o.dst (.slice (some ⟨w.heap.size,0,none⟩) len len)) (w.alloc (.cells cells e))):o.wp P a w K Q':=by
 unfold builtSlice at hf
 cases hi:P.info? e with
 | none=>simp[hi] at hf
 | some ie=>
  cases hz:ie.zero with
  | none=>simp[hi,hz] at hf
  | some z=>
   simp only[hi,hz] at hf
   split at hf
   ·cases hf
   ·rename_i gW
    exact wp_buildSlice t e len parts ho cells ie z hu hi hz (fun h=>gW (.inl h)) (fun h=>gW (.inr h)) hf h
theorem sH {K:Act->World->Prop} {Q':Exit->Act->World->Prop} {e t:TypeId} {c n:Nat} {v:Value} {q:Nat->Nat->Value} {bytes:Nat} {z:Value} (s x:Operand) (hop:o.op=.call { callee:=.builtin .append,args:=#[s,x],argTypes:=#[t,t] })
  (hs:a.eval s=v) (h:iA e c w v n q) (hc:0<c) (h1:P.underlying t=some (.slice e)) (hinfo:(P.info? e).map (fun i=>(i.zero,i.size,i.bytes))=some (some z,c,bytes)) (hz:z.cells.size=c)
  (b off cp m:Nat) (hx:a.eval x=.slice (some ⟨b,off,none⟩) m cp) (y:Nat->Nat->Value) (hy:∀j,j<m->∀i,i<c->w.cell? ⟨b,off+(j * c+i),none⟩=some (y j i)/\(y j i).oneCell'=true)
  (h63:n+m<=maxLen) (hb:(n+m) * bytes<=140737488355328)
  (hK:∀v' w',iA e c w' v' (n+m) (nY n q y)->w.grownBy w' v.ownBlock->Placed w v v'->K (a.put o.dst v') w'):o.wp P a w K Q':=by
 obtain⟨v',w',hr,r1,r2,r3⟩:=h.append (ty:=o.type) hc h1 hinfo hz b off cp m y hy h63 hb;unfold Oper.wp execOp;simp only[hop,resolve,invoke,builtin,uV,wL,vS,vT,List.map_cons,List.map_nil,hs,hx,hr];exact hK v' w' r1 r2 r3
theorem rU {Q':Exit->Act->World->Prop} {e t:TypeId} {c n:Nat} {v:Value} {q:Nat->Nat->Value} {bytes:Nat} {z:Value} (hg:o.guard=none) (s x:Operand) (hop:o.op=.call { callee:=.builtin .append,args:=#[s,x],argTypes:=#[t,t] })
  (hs:a.eval s=v) (h:iA e c w v n q) (hc:0<c) (h1:P.underlying t=some (.slice e)) (hinfo:(P.info? e).map (fun i=>(i.zero,i.size,i.bytes))=some (some z,c,bytes)) (hz:z.cells.size=c)
  (b off cp m:Nat) (hx:a.eval x=.slice (some ⟨b,off,none⟩) m cp) (y:Nat->Nat->Value) (hy:∀j,j<m->∀i,i<c->w.cell? ⟨b,off+(j * c+i),none⟩=some (y j i)/\(y j i).oneCell'=true)
  (h63:n+m<=maxLen) (hb:(n+m) * bytes<=140737488355328)
  (hK:∀v' w',iA e c w' v' (n+m) (nY n q y)->w.grownBy w' v.ownBlock->Placed w v v'->wpList P ops Q' rest (a.put o.dst v') w'):wpList P ops Q' (o::rest) a w:=
 wpList_plain hg fun _ hK'=>sH s x hop hs h hc h1 hinfo hz b off cp m hx y hy h63 hb fun v' w' q1 q2 q3=>hK' _ _ (hK v' w' q1 q2 q3)
theorem Ef {K:Act->World->Prop} {Q':Exit->Act->World->Prop} (T:TypeId) (x y:Operand) (ho:o.op=.store T x y) (b n:Nat) (z:Nat->Value) (old:Array Value) (t:TypeId) (hb:w.heap[b]? =some (.cells old t (0,0))) (hold:old.size=n)
  (hi:(P.info? T).map (·.size)=some n) (hx:a.eval x=.pointer (some ⟨b,0,none⟩)) (hy:a.eval y=.agg (gV n z)) (h1:∀i,i<n->(z i).oneCell'=true) (hK:K (a.put o.dst undef) (w.setRow b (gV n z))):o.wp P a w K Q':=by
 have h1':(gV n z).all (·.oneCell')=true:=all_oneCell_toArray fun v hv=>by
  obtain⟨i,hi,rfl⟩:=List.mem_map.1 hv;exact h1 i (List.mem_range.1 hi)
 have hr:=run_storeVar_row (P:=P) w b t T old (gV n z) hb (by rw[hi,kU]) (by rw[hold,kU]) h1';unfold Oper.wp execOp;simp only[ho,hx,hy,Instr.storeAt,Instr.sureAddr,uV,wL,vS,hr];exact hK
theorem gU {Q':Exit->Act->World->Prop} (hg:o.guard=none) (T:TypeId) (x y:Operand) (ho:o.op=.store T x y) (b n:Nat) (z:Nat->Value) (old:Array Value) (t:TypeId) (hb:w.heap[b]? =some (.cells old t (0,0))) (hold:old.size=n)
  (hi:(P.info? T).map (·.size)=some n) (hx:a.eval x=.pointer (some ⟨b,0,none⟩)) (hy:a.eval y=.agg (gV n z)) (h1:∀i,i<n->(z i).oneCell'=true) (hK:wpList P ops Q' rest (a.put o.dst undef) (w.setRow b (gV n z))):wpList P ops Q' (o::rest) a w:=
 wpList_plain hg fun _ hK'=>Ef T x y ho b n z old t hb hold hi hx hy h1 (hK' _ _ hK)
def iM (w:World) (b n:Nat) (e:TypeId) (z:Nat->Value):Prop:=lX w b e n/\∀i,i<n->w.cell? ⟨b,i,none⟩=some (z i)
theorem iM.setRow {b n:Nat} {z:Nat->Value} {old:Array Value} {t:TypeId} (hb:w.heap[b]? =some (.cells old t (0,0))):iM (w.setRow b (gV n z)) b n t z:=by
 have h:=setRow_heap w b old (gV n z) t _ hb;exact⟨⟨_,h,kU n z⟩,fun i hi=>by rw[cell_of_row _ b i _ t (0,0) h,xC hi]⟩
theorem iM.new {n:Nat} {z:Nat->Value} {t:TypeId}:iM (w.alloc (.cells (gV n z) t)) w.heap.size n t z:=by
 have h:=heap_alloc_new w (.cells (gV n z) t);exact⟨⟨_,h,kU n z⟩,fun i hi=>by rw[cell_of_row _ _ i _ t (0,0) h,xC hi]⟩
theorem iM.keep {w':World} {F:Nat->Prop} {b n:Nat} {e:TypeId} {z:Nat->Value} (h:iM w b n e z) (hc:fV F w w') (hn:¬ F b):iM w' b n e z:=
 ⟨h.1.heap (hc.block b h.1.lt hn),fun i hi=>by rw[hc.cell (p:=⟨b,i,none⟩) h.1.lt hn];exact h.2 i hi⟩
theorem iM.below {w':World} {b n:Nat} {e:TypeId} {z:Nat->Value} (h:iM w b n e z) (hb:Below w.heap.size w w'):iM w' b n e z:=h.keep (.of_below hb fun _=>False) id
theorem jl {Q':Exit->Act->World->Prop} (hg:o.guard=none) {T:TypeId} {d:TypeDesc} {x:Operand} {b off n:Nat} {y:Nat->Value} (ho:o.op=.load T x) (hx:a.eval x=.pointer (some ⟨b,off,none⟩))
  (hu:P.underlying T=some d) (hd:d.isRow=true) (hi:(P.info? T).map (·.size)=some n) (hc:∀i,i<n->w.cell? ⟨b,off+i,none⟩=some (y i))
  (h:wpList P ops Q' rest (a.put o.dst (.agg (gV n y))) w):wpList P ops Q' (o::rest) a w:=
 wpList_plain hg fun _ hK=>by unfold Oper.wp;rw[lG ho hx hu hd hi hc];exact hK _ _ h
end
end Go.bI
