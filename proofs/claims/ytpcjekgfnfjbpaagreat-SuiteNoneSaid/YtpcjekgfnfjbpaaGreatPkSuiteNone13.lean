/-
  Part 13 of SuiteNone. Conditions: named in each theorem.
-/
import Derived.Test.YtpcjekgfnfjbpaaGreatPkSuiteNone9
import Derived.Test.YtpcjekgfnfjbpaaGreatPkSuiteNone3
import Derived.Test.YtpcjekgfnfjbpaaGreatPkSuiteNone6
import Derived.Test.YtpcjekgfnfjbpaaGreatPkSuiteNone12
import Derived.ChangeMaps5
import Derived.Deep.Slices
import Derived.Deep.Strs
set_option linter.unusedVariables false
set_option linter.unusedSimpArgs false
namespace Go.bI
open Go.RowKit
open Go.Maps (Keyed)
section
variable {K : Type}
def lv (kv:K->Value) (L:List K):Nat->Nat->Value:=fun j _=> match L[j]? with | some x=> kv x | none=> undef
theorem Ox {kv:K->Value} {L:List K} {j i:Nat} {x:K} (h:L[j]? =some x):lv kv L j i=kv x:=by unfold lv;rw [h]
theorem wL.vM {P:Program} {k e:TypeId} {w:World} {b n:Nat} {key val:Nat->Value} (h:wL P k e w b n key val) {t:TypeId} {m:Nat} (hr:mo w b t m):False:=by
 obtain ⟨D,⟨es,clock,hb,_⟩,_⟩:=h;obtain ⟨cur,hc,_⟩:=hr;rw [hb] at hc;cases hc
end
section
variable {w : World} {e : TypeId} {c n b : Nat} {v : Value} {q : Nat -> Nat -> Value}
theorem kJ.rowOf (h:kJ e c w v n q) (hb:v.ownBlock=some b):∃m,mo w b e m:=by
 rcases h with ⟨rfl,_⟩ | ⟨g,cap,rfl,h1,_⟩
 ·cases hb
 ·cases hb;exact ⟨_,h1⟩
theorem mo.type {g m m':Nat} {e e':TypeId} (h:mo w g e m) (h':mo w g e' m'):e=e':=by
 obtain ⟨c,h,_⟩:=h;obtain ⟨c',h',_⟩:=h';rw [h] at h';simp at h';exact h'.2
theorem kJ.kE (h:kJ e c w v n q) {e':TypeId} {m:Nat} (hr:mo w b e' m) (hne:e'≠e) (hb:v.ownBlock=some b):False:=by
 obtain ⟨m',h'⟩:=h.rowOf hb;exact hne (hr.type h')
theorem kJ.tN (h:kJ e c w v n q) {P:Program} {k t:TypeId} {n':Nat} {key val:Nat->Value} (hm:wL P k t w b n' key val) (hb:v.ownBlock=some b):False:=by
 obtain ⟨m',h'⟩:=h.rowOf hb;exact hm.vM h'
theorem kJ.Bz (h:kJ e c w v n q) {e':TypeId} {c' n':Nat} {u:Value} {q':Nat->Nat->Value} (hu:kJ e' c' w u n' q') (hne:e'≠e) (hb:v.ownBlock=some b) (hb':u.ownBlock=some b):False:=by
 obtain ⟨m',h'⟩:=h.rowOf hb;obtain ⟨m2,h2⟩:=hu.rowOf hb';exact hne (h2.type h')
end
theorem uQ {P:Program} {ops:Array Oper} {rest:List Oper} {o:Oper} {a:Act} {w w0:World} {Q':Exit->Act->World->Prop} {e t:TypeId} {n:Nat} {v u:Value} {q:Nat->Nat->Value} {bytes:Nat} {z:Value} (hg:o.guard=none) (s x:Operand) (hop:o.op=.call { callee:=.builtin .append,args:=#[s,x],argTypes:=#[t,t] })
  (hs:a.eval s=v) (hw:w=w0.alloc (.cells #[u] e)) (h:kJ e 1 w0 v n q) (h1:P.underlying t=some (.slice e)) (hinfo:(P.info? e).map (fun i=> (i.zero,i.size,i.bytes))=some (some z,1,bytes)) (hz:z.cells.size=1)
  (hx:a.eval x=.slice (some ⟨w0.heap.size,0,none⟩) 1 1) (hu:u.oneCell'=true)
  (h63:n+1<=maxLen) (hb:(n+1) * bytes<=140737488355328)
  (hK:∀v' w',kJ e 1 w' v' (n+1) (yX n q (fun _ _=> u))->w.grownBy w' v.ownBlock->Placed w0 v v'->wpList P ops Q' rest (a.put o.dst v') w'):wpList P ops Q' (o::rest) a w:=by
 subst hw;refine qo hg s x hop hs (h.alloc _) (by decide) h1 hinfo hz w0.heap.size 0 1 1 hx (fun _ _=> u) (fun j hj i hi=> ⟨?_,hu⟩) h63 hb fun v' w' h1 h2 h3=> hK v' w' h1 h2 ?_
 ·obtain rfl:j=0:=by omega
  obtain rfl:i=0:=by omega
  rw [cell_of_row _ _ _ _ _ (0,0) (heap_alloc_new w0 _)]
  rfl
 ·rcases h3 with h3 | h3
  ·exact .inl h3
  ·exact .inr fun b hb=> by have:=h3 b hb;rw [World.size_alloc] at this;omega
theorem iH.Uu {w w':World} {o:Obj} {row:Option Nat} (h:(w.alloc o).grownBy w' row):iH (fun b=> row=some b) w w':=
 (iH.of_below ((bM w.heap.size w).alloc (bB _) o) _).trans (iH.Au h fun _ hb=> hb) fun _ _ h=> h
abbrev vP (n:Nat):Value:=.int .i64 (n:Int)
section
variable {K : Type} {P : Program} {kT mT iT : TypeId} {kv : K -> Value} {ok : K -> Prop} {w w' : World} {mb : Nat} {nd : List K}
theorem YL {n:Nat} (h:n<=9223372036854775807):(Lit.int .i64 (n:Int)).wf=true:=by
 simp [Lit.wf,IntKind.min,IntKind.max,IntKind.signed,IntKind.bits];omega
section
variable {gT : TypeId} {p : Nat} {vn vo : Value} {ed : Nat} {F : Nat -> Prop}
end
section
variable {gT lT : TypeId} {B p : Nat} {vn vo : Value} {ov : Nat -> Value} {os : List (List Nat)} {ed : Nat} {F : Nat -> Prop}
end
end
section
variable {K : Type} {P : Program} {kT iT : TypeId} {kv : K -> Value} {B : Nat} {w w' : World} {mb : Nat} {va vb : Value} {s : List K × List Int}
end
end Go.bI
namespace Go.bI
open Go.RowKit
theorem wT {P:Program} {ops:Array Oper} {o:Oper} {rest:List Oper} {a:Act} {w:World} {Q:Act->Prop} (hw:Region.wanted o (yielded ops a.tmps)=true) {v:Value} (hr:∀n,(execOp a.eval o).run P (w.drewN n)=.ok (.value v) (w.drewN n))
  (h:wpQuiet P ops (fun w'=> ∃n,w'=w.drewN n) Q rest (a.put o.dst v)):wpQuiet P ops (fun w'=> ∃n,w'=w.drewN n) Q (o::rest) a:=by
 unfold wpQuiet;rw [if_pos hw];refine ⟨v,?_,h⟩;rintro w' ⟨n,rfl⟩;unfold Oper.quietAt;rw [hr n];exact ⟨rfl,rfl⟩
theorem Ai {P:Program} {ops:Array Oper} {o:Oper} {rest:List Oper} {a:Act} {w:World} {Q:Act->Prop} (hw:Region.wanted o (yielded ops a.tmps)=true) {T:TypeId} {d:TypeDesc} {x:Operand} {k:IntKind} {b off n:Nat} {f:Nat->Int} (ho:o.op=.load T x) (hx:a.eval x=.pointer (some ⟨b,off,none⟩))
  (hu:P.underlying T=some d) (hd:d.isRow=true) (hi:(P.info? T).map (·.size)=some n) (hc:∀i,i<n->w.cell? ⟨b,off+i,none⟩=some (.int k (f i))) (hb:b<w.heap.size)
  (h:wpQuiet P ops (fun w'=> ∃n,w'=w.drewN n) Q rest (a.put o.dst (.agg (arr k n f)))):wpQuiet P ops (fun w'=> ∃n,w'=w.drewN n) Q (o::rest) a:=
 wT hw (fun m=> CB ho hx hu hd hi fun i hi'=> ((Go.bI.below_drewN (bM w.heap.size w) m).cell (p:=⟨b,off+i,none⟩) hb).trans (hc i hi')) h
theorem uP {P:Program} {ops:Array Oper} {rest:List Oper} {o:Oper} {a:Act} {w w0:World} {Q':Exit->Act->World->Prop} {e t:TypeId} {c n:Nat} {v:Value} {y:Nat->Value} {q:Nat->Nat->Value} {bytes:Nat} {z:Value} (hg:o.guard=none) (s x:Operand) (hop:o.op=.call { callee:=.builtin .append,args:=#[s,x],argTypes:=#[t,t] })
  (hs:a.eval s=v) (hw:w=w0.alloc (.cells (nE c y) e)) (h:kJ e c w0 v n q) (hc:0<c) (h1:P.underlying t=some (.slice e)) (hinfo:(P.info? e).map (fun i=> (i.zero,i.size,i.bytes))=some (some z,c,bytes)) (hz:z.cells.size=c)
  (hx:a.eval x=.slice (some ⟨w0.heap.size,0,none⟩) 1 1) (hu:∀i,i<c->(y i).oneCell'=true)
  (h63:n+1<=maxLen) (hb:(n+1) * bytes<=140737488355328)
  (hK:∀v' w',kJ e c w' v' (n+1) (yX n q (fun _ i=> y i))->w.grownBy w' v.ownBlock->Placed w0 v v'->wpList P ops Q' rest (a.put o.dst v') w'):wpList P ops Q' (o::rest) a w:=by
 subst hw;refine qo hg s x hop hs (h.alloc _) hc h1 hinfo hz w0.heap.size 0 1 1 hx (fun _ i=> y i) (fun j hj i hi=> ⟨?_,hu i hi⟩) h63 hb fun v' w' h1 h2 h3=> hK v' w' h1 h2 ?_
 ·obtain rfl:j=0:=by omega
  rw [show 0+(0 * c+i)=i by omega,adO.new.2 i hi]
 ·rcases h3 with h3 | h3
  ·exact .inl h3
  ·exact .inr fun b hb=> by have:=h3 b hb;rw [World.size_alloc] at this;omega
end Go.bI
