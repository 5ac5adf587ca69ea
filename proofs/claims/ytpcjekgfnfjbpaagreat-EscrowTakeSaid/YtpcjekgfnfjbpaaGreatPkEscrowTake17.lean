/-
  Part 17 of EscrowTake. Conditions: named in each theorem.
-/
import Derived.Test.YtpcjekgfnfjbpaaGreatPkEscrowTake14
import Derived.Test.YtpcjekgfnfjbpaaGreatPkEscrowTake3
import Derived.Test.YtpcjekgfnfjbpaaGreatPkEscrowTake6
import Derived.Test.YtpcjekgfnfjbpaaGreatPkEscrowTake16
import Derived.ChangeMaps5
import Derived.Deep.Slices
import Derived.Deep.Strs
set_option linter.unusedVariables false
set_option linter.unusedSimpArgs false
namespace Go.aZ
open Go.RowKit
open Go.Maps (Keyed)
section
variable {K : Type}
theorem Vr {a b:ByteArray} (h:a=b):(a.toList==b.toList)=true:=by subst h;simp
theorem Yz {a b:ByteArray} (h:a≠b):(a.toList==b.toList)=false:=by
 rw [<-beq_toListBytes]
 cases hq:(a==b) with
 | false=> rfl
 | true=>
  exfalso
  apply h
  cases a;cases b
  congr 1
  exact eq_of_beq hq
def lv (kv:K->Value) (L:List K):Nat->Nat->Value:=fun j _=> match L[j]? with | some x=> kv x | none=> undef
theorem Na {kv:K->Value} {L:List K} {j i:Nat} {x:K} (h:L[j]? =some x):lv kv L j i=kv x:=by unfold lv;rw [h]
theorem vD.Cq {P:Program} {k e:TypeId} {w:World} {b n:Nat} {key val:Nat->Value} (h:vD P k e w b n key val) {t:TypeId} {m:Nat} (hr:kL w b t m):False:=by
 obtain ⟨D,⟨es,clock,hb,_⟩,_⟩:=h;obtain ⟨cur,hc,_⟩:=hr;rw [hb] at hc;cases hc
end
section
variable {w : World} {e : TypeId} {c n b : Nat} {v : Value} {q : Nat -> Nat -> Value}
theorem jH.rowOf (h:jH e c w v n q) (hb:v.ownBlock=some b):∃m,kL w b e m:=by
 rcases h with ⟨rfl,_⟩ | ⟨g,cap,rfl,h1,_⟩
 ·cases hb
 ·cases hb;exact ⟨_,h1⟩
theorem kL.type {g m m':Nat} {e e':TypeId} (h:kL w g e m) (h':kL w g e' m'):e=e':=by
 obtain ⟨c,h,_⟩:=h;obtain ⟨c',h',_⟩:=h';rw [h] at h';simp at h';exact h'.2
theorem jH.oV (h:jH e c w v n q) {e':TypeId} {m:Nat} (hr:kL w b e' m) (hne:e'≠e) (hb:v.ownBlock=some b):False:=by
 obtain ⟨m',h'⟩:=h.rowOf hb;exact hne (hr.type h')
theorem jH.Hr (h:jH e c w v n q) {P:Program} {k t:TypeId} {n':Nat} {key val:Nat->Value} (hm:vD P k t w b n' key val) (hb:v.ownBlock=some b):False:=by
 obtain ⟨m',h'⟩:=h.rowOf hb;exact hm.Cq h'
theorem jH.VL (h:jH e c w v n q) {e':TypeId} {c' n':Nat} {u:Value} {q':Nat->Nat->Value} (hu:jH e' c' w u n' q') (hne:e'≠e) (hb:v.ownBlock=some b) (hb':u.ownBlock=some b):False:=by
 obtain ⟨m',h'⟩:=h.rowOf hb;obtain ⟨m2,h2⟩:=hu.rowOf hb';exact hne (h2.type h')
end
theorem gY.SE {w w':World} {o:Obj} {row:Option Nat} (h:(w.alloc o).grownBy w' row):gY (fun b=> row=some b) w w':=
 (gY.of_below ((bN w.heap.size w).alloc (bA _) o) _).trans (gY.Hf h fun _ hb=> hb) fun _ _ h=> h
abbrev xU (n:Nat):Value:=.int .i64 (n:Int)
section
variable {K : Type} {P : Program} {kT mT iT : TypeId} {kv : K -> Value} {ok : K -> Prop} {w w' : World} {mb : Nat} {nd : List K}
theorem XH {n:Nat} (h:n<=9223372036854775807):(Lit.int .i64 (n:Int)).wf=true:=by
 simp [Lit.wf,IntKind.min,IntKind.max,IntKind.signed,IntKind.bits];omega
section
variable {gT : TypeId} {p : Nat} {vn vo : Value} {ed : Nat} {F : Nat -> Prop}
end
section
variable {gT lT : TypeId} {B p : Nat} {vn vo : Value} {ov : Nat -> Value} {os : List (List Nat)} {ed : Nat} {F : Nat -> Prop}
end
end
section
variable {K : Type} {P : Program} {kT iT : TypeId} {kv : K -> Value} {B : Nat} {w w' : World} {mb : Nat} {va vb : Value} {s : List K × List Int}
end
end Go.aZ
namespace Go.aZ
open Go.RowKit
theorem Ow {P:Program} {ops:Array Oper} {o:Oper} {rest:List Oper} {a:Act} {w:World} {Q:Act->Prop} (hw:Region.wanted o (yielded ops a.tmps)=true) {v:Value} (hr:∀n,(execOp a.eval o).run P (w.drewN n)=.ok (.value v) (w.drewN n))
  (h:wpQuiet P ops (fun w'=> ∃n,w'=w.drewN n) Q rest (a.put o.dst v)):wpQuiet P ops (fun w'=> ∃n,w'=w.drewN n) Q (o::rest) a:=by
 unfold wpQuiet;rw [if_pos hw];refine ⟨v,?_,h⟩;rintro w' ⟨n,rfl⟩;unfold Oper.quietAt;rw [hr n];exact ⟨rfl,rfl⟩
theorem zq {P:Program} {ops:Array Oper} {o:Oper} {rest:List Oper} {a:Act} {w:World} {Q:Act->Prop} (hw:Region.wanted o (yielded ops a.tmps)=true) {T:TypeId} {d:TypeDesc} {x:Operand} {k:IntKind} {b off n:Nat} {f:Nat->Int} (ho:o.op=.load T x) (hx:a.eval x=.pointer (some ⟨b,off,none⟩))
  (hu:P.underlying T=some d) (hd:d.isRow=true) (hi:(P.info? T).map (·.size)=some n) (hc:∀i,i<n->w.cell? ⟨b,off+i,none⟩=some (.int k (f i))) (hb:b<w.heap.size)
  (h:wpQuiet P ops (fun w'=> ∃n,w'=w.drewN n) Q rest (a.put o.dst (.agg (arr k n f)))):wpQuiet P ops (fun w'=> ∃n,w'=w.drewN n) Q (o::rest) a:=
 Ow hw (fun m=> Bg ho hx hu hd hi fun i hi'=> ((Go.aZ.below_drewN (bN w.heap.size w) m).cell (p:=⟨b,off+i,none⟩) hb).trans (hc i hi')) h
theorem tL {P:Program} {ops:Array Oper} {rest:List Oper} {o:Oper} {a:Act} {w w0:World} {Q':Exit->Act->World->Prop} {e t:TypeId} {c n:Nat} {v:Value} {y:Nat->Value} {q:Nat->Nat->Value} {bytes:Nat} {z:Value} (hg:o.guard=none) (s x:Operand) (hop:o.op=.call { callee:=.builtin .append,args:=#[s,x],argTypes:=#[t,t] })
  (hs:a.eval s=v) (hw:w=w0.alloc (.cells (fC c y) e)) (h:jH e c w0 v n q) (hc:0<c) (h1:P.underlying t=some (.slice e)) (hinfo:(P.info? e).map (fun i=> (i.zero,i.size,i.bytes))=some (some z,c,bytes)) (hz:z.cells.size=c)
  (hx:a.eval x=.slice (some ⟨w0.heap.size,0,none⟩) 1 1) (hu:∀i,i<c->(y i).oneCell'=true)
  (h63:n+1<=maxLen) (hb:(n+1) * bytes<=140737488355328)
  (hK:∀v' w',jH e c w' v' (n+1) (rO n q (fun _ i=> y i))->w.grownBy w' v.ownBlock->Placed w0 v v'->wpList P ops Q' rest (a.put o.dst v') w'):wpList P ops Q' (o::rest) a w:=by
 subst hw;refine xJ hg s x hop hs (h.alloc _) hc h1 hinfo hz w0.heap.size 0 1 1 hx (fun _ i=> y i) (fun j hj i hi=> ⟨?_,hu i hi⟩) h63 hb fun v' w' h1 h2 h3=> hK v' w' h1 h2 ?_
 ·obtain rfl:j=0:=by omega
  rw [show 0+(0 * c+i)=i by omega,iW.new.2 i hi]
 ·rcases h3 with h3 | h3
  ·exact .inl h3
  ·exact .inr fun b hb=> by have:=h3 b hb;rw [World.size_alloc] at this;omega
def xS (v:Value):Prop:=∀x,v≠.int .u8 x
def Dh (w:World) (b:Nat):Prop:=∀i v,w.cell? ⟨b,i,none⟩=some v->xS v
section
variable {w w' : World} {b g : Nat} {cs : Array Value} {T : TypeId}
theorem Dh.row (h:w.heap[b]? =some (.cells cs T (0,0))) (hc:∀v,v ∈ cs.toList->xS v):Dh w b:=fun i v hv=> by
 rw [cell_of_row w b i cs T (0,0) h] at hv;exact hc v (by rw [Array.mem_toList_iff];exact Array.mem_of_getElem? hv)
theorem Dh.cells (h:Dh w b) (hb:w.heap[b]? =some (.cells cs T (0,0))):∀v,v ∈ cs.toList->xS v:=fun v hv=> by
 obtain ⟨i,hi⟩:=List.getElem?_of_mem hv;refine h i v ?_;rw [cell_of_row w b i cs T (0,0) hb,←Array.getElem?_toList];exact hi
theorem Dh.heap (h:Dh w b) (hb:w'.heap[b]? =w.heap[b]?):Dh w' b:=fun i v hv=> h i v ((World.cell?_of_block (a:=⟨b,i,none⟩) hb).symm.trans hv)
theorem Dh.ne {v:Value} {n:Nat} {f:Nat->Int} (h:Dh w g) (hr:Rd .u8 w v n f) (hn:0<n):∀b,v.ownBlock=some b->b≠g:=by
 rintro b hb rfl;obtain ⟨a,c,rfl,_,_,_,h4⟩:=hr;obtain ⟨b',o,rfl,_,hc⟩:=h4 hn;obtain rfl:b'=b:=by simpa [Value.ownBlock] using hb
 exact h _ _ (hc 0 hn) _ rfl
theorem AU {z:Array Value} (hz:∀v,v ∈ z.toList->xS v) (hs:0<z.size) (n:Nat):∀v,v ∈ (Builtin.zeroCells z n).toList->xS v:=by
 intro v hv;rw [Array.mem_toList_iff] at hv;unfold Builtin.zeroCells at hv;obtain ⟨i,_,rfl⟩:=Array.mem_map.1 hv;have:i % z.size<z.size:=Nat.mod_lt _ hs;rw [getElem!_pos z _ this];exact hz _ (by rw [Array.mem_toList_iff];exact Array.getElem_mem this)
theorem zl {P:Program} (w:World) (base:Nat) (t ty e:TypeId) (i:TypeInfo) (z:Value) (size bytes:Nat) (ht:P.underlying t=some (.slice e)) (hi:P.info? e=some i) (hz:i.zero=some z)
  (hsize:i.size=size) (hby:i.bytes=bytes) (hzs:z.cells.size=size) (hsz:0<size)
  (v:Value) (n:Nat) (xs:List Value) (hown:w.ownsRow base e size v n xs)
  (a:Addr) (m c:Nat) (news:List Value) (hl:news.length=m * size) (hnews:∀j u,news[j]? =some u->w.cell? (a.add j)=some u) (h1:∀u ∈ news,u.oneCell'=true)
  (h63:n+m<=maxLen) (hbytes:(n+m) * bytes<=140737488355328) (v':Value) (w':World) (hrun:(Builtin.append_ #[t,t] ty #[v,.slice (some a) m c]).run P w=.ok v' w')
  (hU:∀b,v.ownBlock=some b->Dh w b) (hN:∀u,u ∈ news->xS u) (hZ:∀u,u ∈ z.cells.toList->xS u):∀b,v'.ownBlock=some b->Dh w' b:=by
 subst hsize;subst hby;have hsmall:n+m<=9223372036854775807:=by simp only [maxLen] at h63;omega
 have hZ':=fun k=> AU hZ (by omega) k;rcases hown.2 with ⟨rfl,rfl⟩ | ⟨g,cap,cur,rfl,hbg,hg,hnc,hcm,hcs,htake⟩
 ·have hx:xs= [] :=List.eq_nil_of_length_eq_zero (by simpa using hown.1);subst hx;by_cases hm:m=0
  ·subst hm;have hn:news= [] :=List.eq_nil_of_length_eq_zero (by simpa using hl);subst hn;have hr:(Builtin.append_ #[t,t] ty #[.slice none 0 0,.slice (some a) 0 c]).run P w=.ok (.slice none 0 0) w:=by
    simp [Builtin.append_,run_underlying ht,sizeOf,typeInfo,hi,Builtin.lenOf,Builtin.firstCells,loadCells,loadCellsFrom]
   rw [hr] at hrun;cases hrun
   intro b hb;cases hb
  ·have hr:=run_append_nil (P:=P) w t ty e i z ht hi hz a m c news hl hnews (by omega) (by omega) (by have hb:=hbytes;simp only [pz] at hb;omega);rw [hr] at hrun;cases hrun
   intro b hb;obtain rfl:w.heap.size=b:=by simpa [Value.ownBlock] using hb
   refine Dh.row (heap_alloc_new w.drew _) fun u hu=> ?_;rw [Array.toList_append,List.mem_append] at hu;exact hu.elim (hN u) (hZ' _ u)
 ·have hcur:=(hU g rfl).cells hg;by_cases hroom:n+m<=cap
  ·have hfit:n * i.size+news.length<=cur.size:=by rw [hl,hcs,←Nat.add_mul];exact Nat.mul_le_mul_right _ hroom
   have hr:=run_append_room (P:=P) w t ty e i ht hi g n cap cur hg a m c news hl hnews h1 hroom hfit;rw [hr] at hrun;cases hrun
   intro b hb;obtain rfl:g=b:=by simpa [Value.ownBlock] using hb
   refine Dh.row (setRow_heap w g _ _ _ _ hg) fun u hu=> ?_;simp only [List.mem_append] at hu;rcases hu with (hu | hu) | hu
   ·exact hcur u (List.mem_of_mem_take hu)
   ·exact hN u hu
   ·exact hcur u (List.mem_of_mem_drop hu)
  ·have holds:∀j u,xs[j]? =some u->w.cell? ((⟨g,0,none⟩:Addr).add j)=some u:=hown.cells (g:=g) rfl;have hr:=run_append_grow (P:=P) w t ty e i z ht hi hz ⟨g,0,none⟩ n cap xs hown.1 holds a m c news hl hnews (by omega) (by omega) (growslice_fits (by omega) hbytes);rw [hr] at hrun;cases hrun
   intro b hb;obtain rfl:w.heap.size=b:=by simpa [Value.ownBlock] using hb
   refine Dh.row (heap_alloc_new w.drew _) fun u hu=> ?_;rw [Array.toList_append,Array.toList_append,List.mem_append,List.mem_append] at hu;rcases hu with (hu | hu) | hu
   ·rw [<-htake] at hu;exact hcur u (List.mem_of_mem_take hu)
   ·exact hN u hu
   ·exact hZ' _ u hu
end
structure xI (e:TypeId) (c:Nat) (w:World) (v:Value) (n:Nat) (q:Nat->Nat->Value):Prop where
 m:jH e c w v n q
 z:∀b,v.ownBlock=some b->Dh w b
section
variable {e : TypeId} {c n m : Nat} {w w' : World} {v : Value} {q : Nat -> Nat -> Value} {F : Nat -> Prop}
theorem xI.nil (e:TypeId) (c:Nat) (w:World) (q:Nat->Nat->Value):xI e c w (.slice none 0 0) 0 q:=⟨jH.nil _ _ _ _,fun b hb=> by cases hb⟩
theorem xI.kV (h:xI e c w v n q) (hg:gY F w w') (hn:∀b,v.ownBlock=some b->¬ F b):xI e c w' v n q:=⟨h.m.kV hg hn,fun b hb=> (h.z b hb).heap (hg.block b (h.m.lt b hb) (hn b hb))⟩
theorem xI.below (h:xI e c w v n q) (hb:Below w.heap.size w w'):xI e c w' v n q:=h.kV (.of_below hb fun _=> False) fun _ _=> id
theorem xI.alloc (h:xI e c w v n q) (o:Obj):xI e c (w.alloc o) v n q:=h.below ((bN _ _).alloc (bA _) _)
theorem xI.congr {q':Nat->Nat->Value} (h:xI e c w v n q) (hq:∀j,j<n->∀i,i<c->q j i=q' j i):xI e c w v n q':=⟨h.m.congr hq,h.z⟩
theorem xI.append {P:Program} {t ty:TypeId} {bytes:Nat} {z:Value} (h:xI e c w v n q) (hc:0<c) (h1:P.underlying t=some (.slice e)) (hinfo:(P.info? e).map (fun i=> (i.zero,i.size,i.bytes))=some (some z,c,bytes)) (hz:z.cells.size=c)
  (b o cp m:Nat) (y:Nat->Nat->Value) (hy:∀j,j<m->∀i,i<c->w.cell? ⟨b,o+(j * c+i),none⟩=some (y j i)/\(y j i).oneCell'=true)
  (h63:n+m<=maxLen) (hb:(n+m) * bytes<=140737488355328) (hyU:∀j,j<m->∀i,i<c->xS (y j i)) (hZ:∀u,u ∈ z.cells.toList->xS u):
  ∃v' w',(Builtin.append_ #[t,t] ty #[v,.slice (some ⟨b,o,none⟩) m cp]).run P w=.ok v' w'/\xI e c w' v' (n+m) (rO n q y)/\w.grownBy w' v.ownBlock/\Placed w v v':=by
 obtain ⟨v',w',hr,r1,r2,r3⟩:=h.m.append (ty:=ty) hc h1 hinfo hz b o cp m y hy h63 hb;obtain ⟨i0,hi,hz0,hz1,hz2⟩:=info_parts hinfo;obtain ⟨xs,hown,hxs⟩:=h.m.owns hc;have hdiv:∀k,k<m * c->k / c<m/\k % c<c/\k / c * c+k % c=k:=fun k hk=> ⟨by rw [Nat.div_lt_iff_lt_mul hc];exact hk,Nat.mod_lt _ hc,by rw [Nat.mul_comm];exact Nat.div_add_mod k c⟩
 let news:List Value:=(List.range (m * c)).map fun k=> y (k / c) (k % c)
 have hl:news.length=m * c:=by simp [news]
 have hget:∀j,j<m->∀i,i<c->news[j * c+i]? =some (y j i):=by
  intro j hj i hi;have h5:(j+1) * c<=m * c:=Nat.mul_le_mul_right c hj;rw [Nat.succ_mul] at h5;have e1:(j * c+i) / c=j:=by rw [Nat.mul_comm,Nat.mul_add_div hc,Nat.div_eq_of_lt hi,Nat.add_zero]
  have e2:(j * c+i) % c=i:=by rw [Nat.mul_comm,Nat.mul_add_mod,Nat.mod_eq_of_lt hi]
  simp only [news,List.getElem?_map];rw [List.getElem?_range (by omega),Option.map_some,e1,e2]
 have hn:∀j u,news[j]? =some u->w.cell? ((⟨b,o,none⟩:Addr).add j)=some u:=by
  intro j u hu;have hj:j<m * c:=by
   have:=(List.getElem?_eq_some_iff.1 hu).1
   rwa [hl] at this
  obtain ⟨d1,d2,d3⟩:=hdiv j hj;have h6:=hget _ d1 _ d2;rw [d3] at h6;rw [hu] at h6;have h7:=(hy _ d1 _ d2).1;rw [d3] at h7;rw [CY,h7,h6]
 have h1':∀u ∈ news,u.oneCell'=true:=by
  intro u hu;simp only [news,List.mem_map,Zqa] at hu;obtain ⟨k,hk,rfl⟩:=hu;obtain ⟨d1,d2,d3⟩:=hdiv k hk;exact (hy _ d1 _ d2).2
 have hU:∀u,u ∈ news->xS u:=by
  intro u hu;simp only [news,List.mem_map,Zqa] at hu;obtain ⟨k,hk,rfl⟩:=hu;obtain ⟨d1,d2,d3⟩:=hdiv k hk;exact hyU _ d1 _ d2
 exact ⟨v',w',hr,⟨r1,zl w 0 t ty e i0 z c bytes h1 hi hz0 hz1 hz2 hz hc v n xs hown ⟨b,o,none⟩ m cp news hl hn h1' h63 hb v' w' hr h.z hU hZ⟩,r2,r3⟩
theorem lu {P:Program} {ops:Array Oper} {rest:List Oper} {o:Oper} {a:Act} {w w0:World} {Q':Exit->Act->World->Prop} {e t:TypeId} {c n:Nat} {v:Value} {y:Nat->Value} {q:Nat->Nat->Value} {bytes:Nat} {z:Value} (hg:o.guard=none) (s x:Operand) (hop:o.op=.call { callee:=.builtin .append,args:=#[s,x],argTypes:=#[t,t] })
  (hs:a.eval s=v) (hw:w=w0.alloc (.cells (fC c y) e)) (h:xI e c w0 v n q) (hc:0<c) (h1:P.underlying t=some (.slice e)) (hinfo:(P.info? e).map (fun i=> (i.zero,i.size,i.bytes))=some (some z,c,bytes)) (hz:z.cells.size=c)
  (hx:a.eval x=.slice (some ⟨w0.heap.size,0,none⟩) 1 1) (hu:∀i,i<c->(y i).oneCell'=true/\xS (y i)) (hZ:∀u,u ∈ z.cells.toList->xS u)
  (h63:n+1<=maxLen) (hb:(n+1) * bytes<=140737488355328)
  (hK:∀v' w',xI e c w' v' (n+1) (rO n q (fun _ i=> y i))->gY (fun b=> v.ownBlock=some b) w0 w'->(∀b,v'.ownBlock=some b->v.ownBlock=some b\/w0.heap.size<=b)->wpList P ops Q' rest (a.put o.dst v') w'):wpList P ops Q' (o::rest) a w:=by
 subst hw;obtain ⟨v',w',hr,r1,r2,r3⟩:=(h.alloc (.cells (fC c y) e)).append (ty:=o.type) hc h1 hinfo hz w0.heap.size 0 1 1 (fun _ i=> y i) (fun j hj i hi=> ⟨by
  obtain rfl:j=0:=by omega
  rw [show 0+(0 * c+i)=i by omega,iW.new.2 i hi],(hu i hi).1⟩) h63 hb (fun _ _ i hi=> (hu i hi).2) hZ
 refine wpList_plain hg fun _ hK'=> ?_;unfold Oper.wp execOp;simp only [hop,resolve,invoke,builtin,Sem.run_bind,Sem.run_pure,Result.andThen_ok,vg,List.map_cons,List.map_nil,hs,hx,hr];refine hK' _ _ (hK v' w' r1 (gY.SE r2) fun b hb=> ?_);rcases r3 with r3 | r3
 ·exact .inl (r3▸hb)
 ·have:=r3 b hb;rw [World.size_alloc] at this;exact .inr (by omega)
end
end Go.aZ
