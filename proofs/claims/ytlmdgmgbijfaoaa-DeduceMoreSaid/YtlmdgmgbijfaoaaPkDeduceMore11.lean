/-
  Part 11 of the texts that the proof of DeduceMore rests on, one after the other. Conditions: named in each theorem.
-/
import Derived.Test.YtlmdgmgbijfaoaaPkDeduceMore1
import Derived.Test.YtlmdgmgbijfaoaaPkDeduceMore5
import Derived.Test.YtlmdgmgbijfaoaaPkDeduceMore3
import Derived.Test.YtlmdgmgbijfaoaaPkDeduceMore4
import Derived.Test.YtlmdgmgbijfaoaaPkDeduceMore6
import Derived.Test.YtlmdgmgbijfaoaaPkDeduceMore7
import Derived.Test.YtlmdgmgbijfaoaaPkDeduceMore10
import Derived.Test.YtlmdgmgbijfaoaaPkDeduceMore9
import Derived.Test.YtlmdgmgbijfaoaaPkDeduceMore8
import Derived.BigQuiet
import Derived.ChangeKeysEq
import Derived.ChangeMaps5
import Derived.ChangeOld
import Derived.Deep.DrawnRows
import Derived.Deep.MidRow
import Derived.Deep.QuietTactic
import Derived.Deep.RegionHeld3
import Derived.Deep.Slices
import Derived.Deep.Strs
import Derived.Deep.Upon
import Derived.Deep.WholeRow
import Derived.Great.BuildSlice
import Derived.Laws.CopyOwn
import Derived.Laws.IdiomCopy
import Derived.Laws.StructEq
import Derived.Lib.Hide
import Derived.Maps.AppendAt
import Derived.Maps.OwnSet
import Derived.Maps.Range
import Derived.Maps.Views
import Derived.OpenShut
import Derived.Orders
import Derived.ProofKit
import Derived.ShutString
import Derived.StillTactics
import Derived.Test.YtlmdgmgbijfaoaaArr
import Derived.Test.YtlmdgmgbijfaoaaFlow
import Derived.Test.YtlmdgmgbijfaoaaKit
import Derived.Test.YtlmdgmgbijfaoaaOpen
import Derived.Test.YtlmdgmgbijfaoaaOpenT
import Derived.Test.YtlmdgmgbijfaoaaTxt
import Derived.WalkKit
import Derived.WalkLawsBesides
import Derived.WalkSmall
import Derived.WalkSpells
set_option linter.unusedVariables false
set_option linter.unusedSimpArgs false
namespace Go.Bas
open Go.RowKit
open Go.Maps (Keyed)
section
variable {K : Type}
def lv (kv:K→Value) (L:List K):Nat→Nat→Value:=fun j _=> match L[j]? with | some x=> kv x | none=> undef
theorem lv_at {kv:K→Value} {L:List K} {j i:Nat} {x:K} (h:L[j]? =some x):lv kv L j i=kv x:=by unfold lv;rw [h]
theorem lv_one {kv:K→Value} {L:List K} (h1:∀x,(kv x).oneCell'=true) {j i:Nat} (h:j<L.length):(lv kv L j i).oneCell'=true:=by
 rw [lv_at (List.getElem?_eq_getElem h)]
 exact h1 _
theorem lv_app {kv:K→Value} {L:List K} {x:K} {y:Nat→Nat→Value} (hy:y 0 0=kv x):∀j,j<L.length+1→∀i,i<1→catM L.length (lv kv L) y j i=lv kv (L++ [x]) j i:=by
 intro j hj i hi
 obtain rfl:i=0:=by omega
 by_cases h:j<L.length
 ·rw [catM_lo h]
  unfold lv
  rw [List.getElem?_append_left h]
 ·obtain rfl:j=L.length:=by omega
  rw [catM_at,hy,lv_at (x:=x) (by simp)]
theorem OwM.mat {e:TypeId} {c n:Nat} {w:World} {v:Value} {q:Nat→Nat→Value} (h:OwM e c w v n q):Mat w v n c q:=by
 rcases h with ⟨rfl,rfl⟩ | ⟨g,cap,rfl,h1,h2,h3,h4⟩
 ·exact ⟨none,0,rfl,Nat.le_refl _,by omega,fun h=> by omega⟩
 ·unfold maxLen at h3
  exact ⟨_,cap,rfl,h2,by omega,fun _=> ⟨g,0,rfl,h1.lt,fun j hj i hi=> by rw [Nat.zero_add];exact h4 j hj i hi⟩⟩
theorem Mat.chg {F:Nat→Prop} {w w':World} {v:Value} {m c:Nat} {q:Nat→Nat→Value} (h:Mat w v m c q) (hc:Chg F w w') (hn:0<m→∀b,v.ownBlock=some b→¬ F b):Mat w' v m c q:=by
 obtain ⟨a,cap,rfl,h1,h2,h3⟩:=h
 refine ⟨a,cap,rfl,h1,h2,fun hm=> ?_⟩
 obtain ⟨b,o,rfl,hlt,hcc⟩:=h3 hm
 have:=hc.size
 exact ⟨b,o,rfl,by omega,fun j hj i hi=> (hc.cell (p:=⟨b,o+j * c+i,none⟩) hlt (hn hm b rfl)).trans (hcc j hj i hi)⟩
theorem Mat.one {w:World} {v:Value} {n:Nat} {q:Nat→Nat→Value} (h:Mat w v n 1 q):∃a cap,v=.slice a n cap∧n≤cap∧cap≤9223372036854775807∧∀j,j<n→∃b o,a=some ⟨b,o,none⟩∧b<w.heap.size∧w.cell? ⟨b,o+j,none⟩=some (q j 0):=by
 obtain ⟨a,cap,rfl,h1,h2,h3⟩:=h
 refine ⟨a,cap,rfl,h1,h2,fun j hj=> ?_⟩
 obtain ⟨b,o,rfl,hb,hc⟩:=h3 (by omega)
 refine ⟨b,o,rfl,hb,?_⟩
 have:=hc j hj 0 (by decide)
 rwa [show o+j * 1+0=o+j by omega] at this
theorem OwM.snoc {e:TypeId} {kv:K→Value} {L:List K} {x:K} {w:World} {v:Value} {y:Nat→Nat→Value} (h:OwM e 1 w v (L.length+1) (catM L.length (lv kv L) y)) (hy:y 0 0=kv x):OwM e 1 w v (L++ [x]).length (lv kv (L++ [x])):=by
 rw [List.length_append,List.length_singleton]
 exact h.congr (lv_app hy)
theorem Mpv.noRow {P:Program} {k e:TypeId} {w:World} {b n:Nat} {key val:Nat→Value} (h:Mpv P k e w b n key val) {t:TypeId} {m:Nat} (hr:RowB w b t m):False:=by
 obtain ⟨D,⟨es,clock,hb,_⟩,_⟩:=h
 obtain ⟨cur,hc,_⟩:=hr
 rw [hb] at hc
 cases hc
end
section
variable {w : World} {e : TypeId} {c n b : Nat} {v : Value} {q : Nat → Nat → Value}
theorem OwM.rowOf (h:OwM e c w v n q) (hb:v.ownBlock=some b):∃m,RowB w b e m:=by
 rcases h with ⟨rfl,_⟩ | ⟨g,cap,rfl,h1,_⟩
 ·cases hb
 ·cases hb;exact ⟨_,h1⟩
theorem RowB.type {g m m':Nat} {e e':TypeId} (h:RowB w g e m) (h':RowB w g e' m'):e=e':=by
 obtain ⟨c,h,_⟩:=h
 obtain ⟨c',h',_⟩:=h'
 rw [h] at h'
 simp at h'
 exact h'.2
theorem OwM.heap_ne (h:OwM e c w v n q) {e':TypeId} {m:Nat} (hr:RowB w b e' m) (hne:e'≠e) (hb:v.ownBlock=some b):False:=by
 obtain ⟨m',h'⟩:=h.rowOf hb
 exact hne (hr.type h')
theorem OwM.noMap (h:OwM e c w v n q) {P:Program} {k t:TypeId} {n':Nat} {key val:Nat→Value} (hm:Mpv P k t w b n' key val) (hb:v.ownBlock=some b):False:=by
 obtain ⟨m',h'⟩:=h.rowOf hb
 exact hm.noRow h'
theorem OwM.apartT (h:OwM e c w v n q) {e':TypeId} {c' n':Nat} {u:Value} {q':Nat→Nat→Value} (hu:OwM e' c' w u n' q') (hne:e'≠e) (hb:v.ownBlock=some b) (hb':u.ownBlock=some b):False:=by
 obtain ⟨m',h'⟩:=h.rowOf hb
 obtain ⟨m2,h2⟩:=hu.rowOf hb'
 exact hne (h2.type h')
end
theorem wpList_append_lit {P:Program} {ops:Array Oper} {rest:List Oper} {o:Oper} {a:Act} {w w0:World} {Q':Exit→Act→World→Prop} {e t:TypeId} {n:Nat} {v u:Value} {q:Nat→Nat→Value} {bytes:Nat} {z:Value} (hg:o.guard=none) (s x:Operand) (hop:o.op=.call { callee:=.builtin .append,args:=#[s,x],argTypes:=#[t,t] })
  (hs:a.eval s=v) (hw:w=w0.alloc (.cells #[u] e)) (h:OwM e 1 w0 v n q) (h1:P.underlying t=some (.slice e)) (hinfo:(P.info? e).map (fun i=> (i.zero,i.size,i.bytes))=some (some z,1,bytes)) (hz:z.cells.size=1)
  (hx:a.eval x=.slice (some ⟨w0.heap.size,0,none⟩) 1 1) (hu:u.oneCell'=true)
  (h63:n+1≤maxLen) (hb:(n+1) * bytes≤140737488355328)
  (hK:∀v' w',OwM e 1 w' v' (n+1) (catM n q (fun _ _=> u))→w.grownBy w' v.ownBlock→Placed w0 v v'→wpList P ops Q' rest (a.put o.dst v') w'):wpList P ops Q' (o::rest) a w:=by
 subst hw
 refine wpList_append_m hg s x hop hs (h.alloc _) (by decide) h1 hinfo hz w0.heap.size 0 1 1 hx (fun _ _=> u) (fun j hj i hi=> ⟨?_,hu⟩) h63 hb fun v' w' h1 h2 h3=> hK v' w' h1 h2 ?_
 ·obtain rfl:j=0:=by omega
  obtain rfl:i=0:=by omega
  rw [cell_of_row _ _ _ _ _ (0,0) (heap_alloc_new w0 _)]
  rfl
 ·rcases h3 with h3 | h3
  ·exact .inl h3
  ·exact .inr fun b hb=> by have:=h3 b hb;rw [World.size_alloc] at this;omega
theorem Chg.of_lit {w w':World} {o:Obj} {row:Option Nat} (h:(w.alloc o).grownBy w' row):Chg (fun b=> row=some b) w w':=
 (Chg.of_below ((Below.refl w.heap.size w).alloc (Nat.le_refl _) o) _).trans (Chg.of_grown h fun _ hb=> hb) fun _ _ h=> h
abbrev natV (n:Nat):Value:=.int .i64 (n:Int)
section
variable {K : Type} {P : Program} {kT mT iT : TypeId} {kv : K → Value} {ok : K → Prop} {w w' : World} {mb : Nat} {nd : List K}
theorem natV_wf {n:Nat} (h:n≤9223372036854775807):(Lit.int .i64 (n:Int)).wf=true:=by
 simp [Lit.wf,IntKind.min,IntKind.max,IntKind.signed,IntKind.bits]
 omega
section
variable {gT : TypeId} {p : Nat} {vn vo : Value} {ed : Nat} {F : Nat → Prop}
end
section
variable {gT lT : TypeId} {B p : Nat} {vn vo : Value} {ov : Nat → Value} {os : List (List Nat)} {ed : Nat} {F : Nat → Prop}
end
end
section
variable {K : Type} {P : Program} {kT iT : TypeId} {kv : K → Value} {B : Nat} {w w' : World} {mb : Nat} {va vb : Value} {s : List K × List Int}
end
end Go.Bas
namespace Go.Bas
open Go.RowKit
theorem quiet_val {P:Program} {ops:Array Oper} {o:Oper} {rest:List Oper} {a:Act} {w:World} {Q:Act→Prop} (hw:Region.wanted o (yielded ops a.tmps)=true) {v:Value} (hr:∀n,(execOp a.eval o).run P (w.drewN n)=.ok (.value v) (w.drewN n))
  (h:wpQuiet P ops (fun w'=> ∃n,w'=w.drewN n) Q rest (a.put o.dst v)):wpQuiet P ops (fun w'=> ∃n,w'=w.drewN n) Q (o::rest) a:=by
 unfold wpQuiet
 rw [if_pos hw]
 refine ⟨v,?_,h⟩
 rintro w' ⟨n,rfl⟩
 unfold Oper.quietAt
 rw [hr n]
 exact ⟨rfl,rfl⟩
theorem quiet_load {P:Program} {ops:Array Oper} {o:Oper} {rest:List Oper} {a:Act} {w:World} {Q:Act→Prop} (hw:Region.wanted o (yielded ops a.tmps)=true) {T:TypeId} {d:TypeDesc} {x:Operand} {k:IntKind} {b off n:Nat} {f:Nat→Int} (ho:o.op=.load T x) (hx:a.eval x=.pointer (some ⟨b,off,none⟩))
  (hu:P.underlying T=some d) (hd:d.isRow=true) (hi:(P.info? T).map (·.size)=some n) (hc:∀i,i<n→w.cell? ⟨b,off+i,none⟩=some (.int k (f i))) (hb:b<w.heap.size)
  (h:wpQuiet P ops (fun w'=> ∃n,w'=w.drewN n) Q rest (a.put o.dst (.agg (arr k n f)))):wpQuiet P ops (fun w'=> ∃n,w'=w.drewN n) Q (o::rest) a:=
 quiet_val hw (fun m=> run_load_mid' ho hx hu hd hi fun i hi'=> ((Go.Bas.below_drewN (Below.refl w.heap.size w) m).cell (p:=⟨b,off+i,none⟩) hb).trans (hc i hi')) h
theorem wpList_append_row {P:Program} {ops:Array Oper} {rest:List Oper} {o:Oper} {a:Act} {w w0:World} {Q':Exit→Act→World→Prop} {e t:TypeId} {c n:Nat} {v:Value} {y:Nat→Value} {q:Nat→Nat→Value} {bytes:Nat} {z:Value} (hg:o.guard=none) (s x:Operand) (hop:o.op=.call { callee:=.builtin .append,args:=#[s,x],argTypes:=#[t,t] })
  (hs:a.eval s=v) (hw:w=w0.alloc (.cells (rowV c y) e)) (h:OwM e c w0 v n q) (hc:0<c) (h1:P.underlying t=some (.slice e)) (hinfo:(P.info? e).map (fun i=> (i.zero,i.size,i.bytes))=some (some z,c,bytes)) (hz:z.cells.size=c)
  (hx:a.eval x=.slice (some ⟨w0.heap.size,0,none⟩) 1 1) (hu:∀i,i<c→(y i).oneCell'=true)
  (h63:n+1≤maxLen) (hb:(n+1) * bytes≤140737488355328)
  (hK:∀v' w',OwM e c w' v' (n+1) (catM n q (fun _ i=> y i))→w.grownBy w' v.ownBlock→Placed w0 v v'→wpList P ops Q' rest (a.put o.dst v') w'):wpList P ops Q' (o::rest) a w:=by
 subst hw
 refine wpList_append_m hg s x hop hs (h.alloc _) hc h1 hinfo hz w0.heap.size 0 1 1 hx (fun _ i=> y i) (fun j hj i hi=> ⟨?_,hu i hi⟩) h63 hb fun v' w' h1 h2 h3=> hK v' w' h1 h2 ?_
 ·obtain rfl:j=0:=by omega
  rw [show 0+(0 * c+i)=i by omega,RowN.new.2 i hi]
 ·rcases h3 with h3 | h3
  ·exact .inl h3
  ·exact .inr fun b hb=> by have:=h3 b hb;rw [World.size_alloc] at this;omega
end Go.Bas
