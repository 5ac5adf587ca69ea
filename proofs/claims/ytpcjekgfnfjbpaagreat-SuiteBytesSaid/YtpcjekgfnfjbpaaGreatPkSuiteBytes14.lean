/- Part 14 of SuiteBytes; conditions: in each theorem. -/
import Derived.Test.YtpcjekgfnfjbpaaGreatPkSuiteBytes9
import Derived.Test.YtpcjekgfnfjbpaaGreatPkSuiteBytes3
import Derived.Test.YtpcjekgfnfjbpaaGreatPkSuiteBytes6
import Derived.Test.YtpcjekgfnfjbpaaGreatPkSuiteBytes13
import Derived.ChangeMaps5
import Derived.Deep.Slices
import Derived.Deep.Strs
set_option linter.unusedVariables false
set_option linter.unusedSimpArgs false
namespace Go.bC
open Go.RowKit
open Go.Maps (Keyed)
section
variable {K : Type}
def lv (kv:K->Value) (L:List K):Nat->Nat->Value:=fun j _=>match L[j]? with | some x=>kv x | none=>undef
theorem OC {kv:K->Value} {L:List K} {j i:Nat} {x:K} (h:L[j]? =some x):lv kv L j i=kv x:=by unfold lv;rw[h]
theorem xU.wS {P:Program} {k e:TypeId} {w:World} {b n:Nat} {key val:Nat->Value} (h:xU P k e w b n key val) {t:TypeId} {m:Nat} (hr:nI w b t m):False:=by
 obtain⟨D,⟨es,clock,hb,_⟩,_⟩:=h;obtain⟨cur,hc,_⟩:=hr;rw[hb] at hc;cases hc
end
section
variable {w : World} {e : TypeId} {c n b : Nat} {v : Value} {q : Nat -> Nat -> Value}
theorem kZ.rowOf (h:kZ e c w v n q) (hb:v.ownBlock=some b):∃m,nI w b e m:=by
 rcases h with⟨rfl,_⟩ | ⟨g,cap,rfl,h1,_⟩
 ·cases hb
 ·cases hb;exact⟨_,h1⟩
theorem nI.type {g m m':Nat} {e e':TypeId} (h:nI w g e m) (h':nI w g e' m'):e=e':=by
 obtain⟨c,h,_⟩:=h;obtain⟨c',h',_⟩:=h';rw[h] at h';simp at h';exact h'.2
theorem kZ.kW (h:kZ e c w v n q) {e':TypeId} {m:Nat} (hr:nI w b e' m) (gB:e'≠e) (hb:v.ownBlock=some b):False:=by
 obtain⟨m',h'⟩:=h.rowOf hb;exact gB (hr.type h')
theorem kZ.uL (h:kZ e c w v n q) {P:Program} {k t:TypeId} {n':Nat} {key val:Nat->Value} (hm:xU P k t w b n' key val) (hb:v.ownBlock=some b):False:=by
 obtain⟨m',h'⟩:=h.rowOf hb;exact hm.wS h'
theorem kZ.Cq (h:kZ e c w v n q) {e':TypeId} {c' n':Nat} {u:Value} {q':Nat->Nat->Value} (hu:kZ e' c' w u n' q') (gB:e'≠e) (hb:v.ownBlock=some b) (hb':u.ownBlock=some b):False:=by
 obtain⟨m',h'⟩:=h.rowOf hb;obtain⟨m2,h2⟩:=hu.rowOf hb';exact gB (h2.type h')
end
theorem vL {P:Program} {ops:Array Oper} {rest:List Oper} {o:Oper} {a:Act} {w w0:World} {Q':Exit->Act->World->Prop} {e t:TypeId} {n:Nat} {v u:Value} {q:Nat->Nat->Value} {bytes:Nat} {z:Value} (hg:o.guard=none) (s x:Operand) (hop:o.op=.call { callee:=.builtin .append,args:=#[s,x],argTypes:=#[t,t] })
  (hs:a.eval s=v) (hw:w=w0.alloc (.cells #[u] e)) (h:kZ e 1 w0 v n q) (h1:P.underlying t=some (.slice e)) (hinfo:(P.info? e).map (fun i=>(i.zero,i.size,i.bytes))=some (some z,1,bytes)) (hz:z.cells.size=1)
  (hx:a.eval x=.slice (some ⟨w0.heap.size,0,none⟩) 1 1) (hu:u.oneCell'=true)
  (h63:n+1<=maxLen) (hb:(n+1) * bytes<=140737488355328)
  (hK:∀v' w',kZ e 1 w' v' (n+1) (zL n q (fun _ _=>u))->w.grownBy w' v.ownBlock->Placed w0 v v'->wpList P ops Q' rest (a.put o.dst v') w'):wpList P ops Q' (o::rest) a w:=by
 subst hw;refine rE hg s x hop hs (h.alloc _) aN h1 hinfo hz w0.heap.size 0 1 1 hx (fun _ _=>u) (fun j hj i hi=>⟨?_,hu⟩) h63 hb fun v' w' h1 h2 h3=>hK v' w' h1 h2 ?_
 ·obtain rfl:j=0:=by omega
  obtain rfl:i=0:=by omega
  rw[cell_of_row _ _ _ _ _ (0,0) (heap_alloc_new w0 _)]
  rfl
 ·rcases h3 with h3 | h3
  ·exact .inl h3
  ·exact .inr fun b hb=>by have:=h3 b hb;rw[World.size_alloc] at this;omega
theorem iW.Ub {w w':World} {o:Obj} {row:Option Nat} (h:(w.alloc o).grownBy w' row):iW (fun b=>row=some b) w w':=
 (iW.of_below ((bT w.heap.size w).alloc (bB _) o) _).trans (iW.Bn h fun _ hb=>hb) fun _ _ h=>h
abbrev wU (n:Nat):Value:=.int .i64 (n:Int)
section
variable {K : Type} {P : Program} {kT mT iT : TypeId} {kv : K -> Value} {ok : K -> Prop} {w w' : World} {mb : Nat} {nd : List K}
theorem Yy {n:Nat} (h:n<=9223372036854775807):(Lit.int .i64 (n:Int)).wf=true:=by
 simp[Lit.wf,IntKind.min,IntKind.max,IntKind.signed,IntKind.bits];omega
section
variable {gT : TypeId} {p : Nat} {vn vo : Value} {ed : Nat} {F : Nat -> Prop}
end
section
variable {gT lT : TypeId} {B p : Nat} {vn vo : Value} {ov : Nat -> Value} {os : List (List Nat)} {ed : Nat} {F : Nat -> Prop}
end
end
section
variable {K : Type} {P : Program} {kT iT : TypeId} {kv : K -> Value} {B : Nat} {w w' : World} {mb : Nat} {va vb : Value} {s : List K × List Int}
end
end Go.bC
namespace Go.bC
open Go.RowKit
theorem yg {P:Program} {ops:Array Oper} {o:Oper} {rest:List Oper} {a:Act} {w:World} {Q:Act->Prop} (hw:Region.wanted o (yielded ops a.tmps)=true) {v:Value} (hr:∀n,(execOp a.eval o).run P (w.drewN n)=.ok (.value v) (w.drewN n))
  (h:wpQuiet P ops (fun w'=> ∃n,w'=w.drewN n) Q rest (a.put o.dst v)):wpQuiet P ops (fun w'=> ∃n,w'=w.drewN n) Q (o::rest) a:=by
 unfold wpQuiet;rw[if_pos hw];refine⟨v,?_,h⟩;rintro w' ⟨n,rfl⟩;unfold Oper.quietAt;rw[hr n];exact⟨rfl,rfl⟩
theorem Bc {P:Program} {ops:Array Oper} {o:Oper} {rest:List Oper} {a:Act} {w:World} {Q:Act->Prop} (hw:Region.wanted o (yielded ops a.tmps)=true) {T:TypeId} {d:TypeDesc} {x:Operand} {k:IntKind} {b off n:Nat} {f:Nat->Int} (ho:o.op=.load T x) (hx:a.eval x=.pointer (some ⟨b,off,none⟩))
  (hu:P.underlying T=some d) (hd:d.isRow=true) (hi:(P.info? T).map (·.size)=some n) (hc:∀i,i<n->w.cell? ⟨b,off+i,none⟩=some (.int k (f i))) (hb:b<w.heap.size)
  (h:wpQuiet P ops (fun w'=> ∃n,w'=w.drewN n) Q rest (a.put o.dst (.agg (arr k n f)))):wpQuiet P ops (fun w'=> ∃n,w'=w.drewN n) Q (o::rest) a:=
 yg hw (fun m=>Dq ho hx hu hd hi fun i hi'=>((Go.bC.below_drewN (bT w.heap.size w) m).cell (p:=⟨b,off+i,none⟩) hb).trans (hc i hi')) h
theorem vK {P:Program} {ops:Array Oper} {rest:List Oper} {o:Oper} {a:Act} {w w0:World} {Q':Exit->Act->World->Prop} {e t:TypeId} {c n:Nat} {v:Value} {y:Nat->Value} {q:Nat->Nat->Value} {bytes:Nat} {z:Value} (hg:o.guard=none) (s x:Operand) (hop:o.op=.call { callee:=.builtin .append,args:=#[s,x],argTypes:=#[t,t] })
  (hs:a.eval s=v) (hw:w=w0.alloc (.cells (oC c y) e)) (h:kZ e c w0 v n q) (hc:0<c) (h1:P.underlying t=some (.slice e)) (hinfo:(P.info? e).map (fun i=>(i.zero,i.size,i.bytes))=some (some z,c,bytes)) (hz:z.cells.size=c)
  (hx:a.eval x=.slice (some ⟨w0.heap.size,0,none⟩) 1 1) (hu:∀i,i<c->(y i).oneCell'=true)
  (h63:n+1<=maxLen) (hb:(n+1) * bytes<=140737488355328)
  (hK:∀v' w',kZ e c w' v' (n+1) (zL n q (fun _ i=>y i))->w.grownBy w' v.ownBlock->Placed w0 v v'->wpList P ops Q' rest (a.put o.dst v') w'):wpList P ops Q' (o::rest) a w:=by
 subst hw;refine rE hg s x hop hs (h.alloc _) hc h1 hinfo hz w0.heap.size 0 1 1 hx (fun _ i=>y i) (fun j hj i hi=>⟨?_,hu i hi⟩) h63 hb fun v' w' h1 h2 h3=>hK v' w' h1 h2 ?_
 ·obtain rfl:j=0:=by omega
  rw[show 0+(0 * c+i)=i by omega,adF.new.2 i hi]
 ·rcases h3 with h3 | h3
  ·exact .inl h3
  ·exact .inr fun b hb=>by have:=h3 b hb;rw[World.size_alloc] at this;omega
end Go.bC
