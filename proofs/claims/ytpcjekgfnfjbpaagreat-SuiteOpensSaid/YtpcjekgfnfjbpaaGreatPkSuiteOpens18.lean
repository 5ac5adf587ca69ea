/-
  Part 18 of the texts that the proof of SuiteOpens rests on, one after the other. Conditions: named in each theorem.
-/
import Derived.Test.YtpcjekgfnfjbpaaGreatPkSuiteOpens4
import Derived.BigFrame
import Derived.Deep.RegionLaw
import Derived.Maps.AppendAt
import Derived.Maps.Range
set_option linter.unusedVariables false
set_option linter.unusedSimpArgs false
namespace Go.aG
open Go.RowKit
section
variable {P : Program} {ops : Array Oper} {rest : List Oper} {o : Oper} {a : Act} {w : World} {Q : Exit → Act → World → Prop}
end
end Go.aG
namespace Go.aG
open Go.RowKit
section
variable {P : Program} {ops : Array Oper} {rest : List Oper} {o : Oper} {a : Act} {w : World} {Q : Exit → Act → World → Prop}
theorem jv {fn:Func} {p q:Tmp} {T:TypeId} (h:fn.results=#[.cell p T,.tmp q]) (tmps:Array Value) (w:World) (k:IntKind) (b n:Nat) (f:Nat→Int) {d:TypeDesc}
  (hp:tmps.getD p undef=.pointer (some ⟨b,0,none⟩)) (ha:aI k w b n f) (hu:P.underlying T=some d) (hd:CB d=true) (hi:(P.info? T).map (·.size)=some n):
  (results fn tmps).run P w=.ok (.tuple #[.agg (arr k n f),tmps.getD q undef]) w:=by
 obtain ⟨t,ht⟩:=ha
 have hp':tmps[p]?.getD undef=.pointer (some ⟨b,0,none⟩):=by simpa using hp
 simp [results,h,hp',asAddr,run_loadVar_row w b t T (arr k n f) (0,0) _ ht hu (by cases d<;> first | rfl | cases hd) (by rw [hi,dU])]
end
end Go.aG
namespace Go.aG
open Go.RowKit
def laid (f:Nat→Int) (off m:Nat) (h:Nat→Int):Nat→Int:=fun i=> if off≤i∧i<off+m then h (i - off) else f i
theorem vQ {k:IntKind} {n:Nat} {f h:Nat→Int} {off m:Nat} (hf:off+m≤n):((vals k n f).take off++(vals k m h++(vals k n f).drop (off+(vals k m h).length))).toArray=arr k n (laid f off m h):=by
 unfold arr
 congr 1
 apply List.ext_getElem?
 intro i
 rw [aU]
 have hl:((vals k n f).take off).length=off:=by simp;omega
 by_cases h1:i<off
 ·rw [List.getElem?_append_left (by omega),List.getElem?_take,if_pos h1,aK (by omega),aK (by omega)]
  unfold laid;rw [if_neg (by omega)]
 ·rw [List.getElem?_append_right (by omega),hl]
  by_cases h2:i<off+m
  ·rw [List.getElem?_append_left (by simp;omega),aK (by omega),aK (by omega)]
   unfold laid;rw [if_pos (by omega)]
  ·rw [List.getElem?_append_right (by simp;omega),List.getElem?_drop,aU,show off+m+(i - off - m)=i by omega]
   by_cases h3:i<n
   ·rw [aK h3,aK h3]
    unfold laid;rw [if_neg (by omega)]
   ·rw [List.getElem?_eq_none (by simp;omega),List.getElem?_eq_none (by simp;omega)]
theorem oU {P:Program} {w:World} {dT sT:TypeId} (t0:TypeId) {e:TypeId} {k:IntKind} {g off dLen dCap n:Nat} {f:Nat→Int} (hu:P.underlying dT=some (.slice e)) (hsz:(P.info? e).map (·.size)=some 1)
  (hA:aI k w g n f) {u:Value} {m:Nat} {h:Nat→Int} (hr:Rd k w u m h) (hm:m≤dLen) (hf:off+m≤n):
  (Builtin.copy_ #[dT,sT] t0 #[.slice (some ⟨g,off,none⟩) dLen dCap,u]).run P w=.ok (goInt m) (w.setRow g (arr k n (laid f off m h))):=by
 obtain ⟨t,hg⟩:=hA
 obtain ⟨sp,c,rfl,l1,l2,l3,l4⟩:=hr
 have hmin:Nat.min m dLen=m:=Nat.min_eq_left hm
 by_cases h0:m=0
 ·subst h0
  have hrun:=run_copy_none (P:=P) w dT sT t0 e (some ⟨g,off,none⟩) sp dLen dCap 0 c hu hsz (by simp)
  have hl:arr k n (laid f off 0 h)=arr k n f:=ou fun i _=> by unfold laid;rw [if_neg (by omega)]
  rw [hl,setRow_self w g _ t (0,0) hg]
  exact hrun
 ·obtain ⟨b,o,rfl,hb,hc⟩:=l4 (by omega)
  have hrun:=run_copy_row (P:=P) w dT sT t0 e g off dLen dCap ⟨b,o,none⟩ m c (arr k n f) t (vals k m h) hu hsz hg (by rw [aU,hmin]) (fun j v hv=> by
   have hj:j<m:=by have:=(List.getElem?_eq_some_iff.1 hv).1;simpa using this
   have hadd:(⟨b,o,none⟩:Addr).add j=⟨b,o+j,none⟩:=by unfold Addr.add;split<;> simp_all
   rw [hadd,hc j hj,←aK (k:=k) (f:=h) hj]
   exact hv) (by simpa using hf) (fun v hv=> by obtain ⟨_,_,rfl⟩:=List.mem_map.1 hv;rfl)
  have hl:=vQ (k:=k) (f:=f) (h:=h) hf
  have e1:(arr k n f).toList=vals k n f:=by unfold arr;simp
  rw [e1,List.append_assoc,hl,aU] at hrun
  exact hrun
section
variable {P : Program} {ops : Array Oper} {o : Oper} {a : Act} {w : World} {rest : List Oper} {K : Act → World → Prop} {Q : Exit → Act → World → Prop} {E : Prop}
theorem gN (d s:Operand) (dT sT:TypeId) (ho:o.op=.call { callee:=.builtin .copy,args:=#[d,s],argTypes:=#[dT,sT] }) {e:TypeId} {k:IntKind} (g off dLen dCap n:Nat) (f:Nat→Int) (hu:P.underlying dT=some (.slice e)) (hsz:(P.info? e).map (·.size)=some 1)
  (hd:a.eval d=.slice (some ⟨g,off,none⟩) dLen dCap) (hA:aI k w g n f) (u:Value) (m:Nat) (h:Nat→Int) (hr:Rd k w u m h) (hs:a.eval s=u) (hm:m≤dLen) (hf:off+m≤n)
  (hK:K (a.put o.dst (goInt m)) (w.setRow g (arr k n (laid f off m h)))):o.wp P a w K Q:=by
 have hrun:=oU (P:=P) (dT:=dT) (sT:=sT) o.type (dCap:=dCap) hu hsz hA hr hm hf
 unfold Oper.wp
 simp [execOp,ho,resolve,invoke,builtin,hd,hs,hrun,Result.andThen]
 exact hK
theorem nI (hg:o.guard=none) (d s:Operand) (dT sT:TypeId) (ho:o.op=.call { callee:=.builtin .copy,args:=#[d,s],argTypes:=#[dT,sT] }) {e:TypeId} {k:IntKind} (g off dLen dCap n:Nat) (f:Nat→Int) (hu:P.underlying dT=some (.slice e)) (hsz:(P.info? e).map (·.size)=some 1)
  (hd:a.eval d=.slice (some ⟨g,off,none⟩) dLen dCap) (hA:aI k w g n f) (u:Value) (m:Nat) (h:Nat→Int) (hr:Rd k w u m h) (hs:a.eval s=u) (hm:m≤dLen) (hf:off+m≤n)
  (hK:wpList P ops Q rest (a.put o.dst (goInt m)) (w.setRow g (arr k n (laid f off m h)))):wpList P ops Q (o::rest) a w:=
 wpList_plain hg fun _ hK'=> gN d s dT sT ho g off dLen dCap n f hu hsz hd hA u m h hr hs hm hf (hK' _ _ hK)
end
end Go.aG
namespace Go.aG
open Go.RowKit
def Row (k:IntKind) (w:World) (g cap n:Nat) (f:Nat→Int) (T:TypeId):Prop:=
 ∃cs,w.heap[g]? =some (.cells cs T (0,0))∧cs.size=cap∧n≤cap∧∀i,i<n→cs[i]? =some (.int k (f i))
theorem Row.arr {k:IntKind} {w:World} {g n:Nat} {f:Nat→Int} {T:TypeId} (h:Row k w g n n f T):aI k w g n f:=by
 obtain ⟨cs,h1,h2,_,h3⟩:=h
 refine ⟨T,?_⟩
 rw [h1]
 congr 2
 apply Array.ext_getElem?
 intro i
 by_cases hi:i<n
 ·rw [h3 i hi,qc hi]
 ·rw [Array.getElem?_eq_none (by omega),Array.getElem?_eq_none (by rw [dU];omega)]
theorem Own.rows {k:IntKind} {e:TypeId} {base:Nat} {w:World} {g n c:Nat} {f:Nat→Int} (h:Own k e base w (.slice (some ⟨g,0,none⟩) n c) n f):Row k w g c n f e:=by
 rcases h.2 with ⟨h1,_⟩ | ⟨g',cap,cur,hv,hb',hg,hn,hc,hs,ht⟩
 ·cases h1
 ·simp only [Value.slice.injEq,Option.some.injEq,Addr.mk.injEq,and_true,true_and] at hv
  obtain ⟨rfl,rfl⟩:=hv
  refine ⟨cur,hg,by simpa using hs,hn,fun i hi=> ?_⟩
  have:=aK (k:=k) (f:=f) hi
  rw [←ht,List.getElem?_take] at this
  simpa [hi] using this
theorem BI {k:IntKind} {w:World} {T:TypeId} {cs:List Value} {n:Nat} {f:Nat→Int} (hn:cs.length=n) (hm:n≤9223372036854775807) (hc:∀i,i<n→cs[i]? =some (.int k (f i))):
  Rd k (w.alloc (.cells cs.toArray T)) (.slice (some ⟨w.heap.size,0,none⟩) n n) n f:=
 (Own.new k T (base:=0) w cs.toArray n f (Nat.zero_le _) hm (by simpa using hn) (fun i hi=> by simpa using hc i hi)).rd
theorem uK {k:IntKind} {w:World} {T:TypeId} {x:Int}:Rd k (w.alloc (.cells [Value.int k x].toArray T)) (.slice (some ⟨w.heap.size,0,none⟩) 1 1) 1 (fun _=> x):=
 BI rfl (by decide) fun i hi=> by (obtain rfl:i=0:=by omega);rfl
end Go.aG
