/- Part 20 of EscrowComes; conditions: in each theorem. -/
import Derived.Test.YtpcjekgfnfjbpaaGreatPkEC8
import Derived.BigFrame
import Derived.Deep.RegionLaw
set_option linter.unusedVariables false
set_option linter.unusedSimpArgs false
namespace Go.bI
open Go.RowKit
section
variable {P : Program} {ops : Array Oper} {rest : List Oper} {o : Oper} {a : Act} {w : World} {Q : Exit -> Act -> World -> Prop}
end
section
variable {P : Program} {ops : Array Oper} {rest : List Oper} {o : Oper} {a : Act} {w : World} {Q : Exit -> Act -> World -> Prop}
theorem bJ (hg:o.guard=none) (T:TypeId) (x:Operand) (ho:o.op=.load T x) (k:IntKind) (b n:Nat) (f:Nat->Int) {d:TypeDesc}
  (hu:P.underlying T=some d) (hd:EL d=true) (hi:(P.info? T).map (·.size)=some n) (hx:a.eval x=.pointer (some ⟨b,0,none⟩)) (h:aK k w b n f)
  (hK:wpList P ops Q rest (a.put o.dst (.agg (arr k n f))) w):wpList P ops Q (o::rest) a w:=by
 obtain⟨t,ht⟩:=h;exact wpList_load_row hg T x ho b hx t (arr k n f) (0,0) _ ht hu (by cases d<;> first | rfl | cases hd) (by rw[hi,iZ]) hK
theorem dI {fn:Func} {p:Tmp} {T:TypeId} (h:fn.results=#[.cell p T]) (tmps:Array Value) (w:World) (k:IntKind) (b n:Nat) (f:Nat->Int) {d:TypeDesc}
  (hp:tmps.getD p undef=.pointer (some ⟨b,0,none⟩)) (ha:aK k w b n f) (hu:P.underlying T=some d) (hd:EL d=true) (hi:(P.info? T).map (·.size)=some n):
  (results fn tmps).run P w=.ok (.agg (arr k n f)) w:=by
 obtain⟨t,ht⟩:=ha;exact results_cell_row h tmps w b t (arr k n f) (0,0) _ hp ht hu (by cases d<;> first | rfl | cases hd) (by rw[hi,iZ])
theorem iW {fn:Func} {p q:Tmp} {T:TypeId} (h:fn.results=#[.cell p T,.tmp q]) (tmps:Array Value) (w:World) (k:IntKind) (b n:Nat) (f:Nat->Int) {d:TypeDesc}
  (hp:tmps.getD p undef=.pointer (some ⟨b,0,none⟩)) (ha:aK k w b n f) (hu:P.underlying T=some d) (hd:EL d=true) (hi:(P.info? T).map (·.size)=some n):
  (results fn tmps).run P w=.ok (.tuple #[.agg (arr k n f),tmps.getD q undef]) w:=by
 obtain⟨t,ht⟩:=ha;have hp':tmps[p]?.getD undef=.pointer (some ⟨b,0,none⟩):=by simpa using hp
 simp[results,h,hp',asAddr,run_loadVar_row w b t T (arr k n f) (0,0) _ ht hu (by cases d<;> first | rfl | cases hd) (by rw[hi,iZ])]
theorem rF {fn:Func} {p q:Tmp} {T U:TypeId} (h:fn.results=#[.cell p T,.cell q U]) (tmps:Array Value) (w:World) (k:IntKind) (b n:Nat) (f:Nat->Int) (k2:IntKind) (b2 n2:Nat) (f2:Nat->Int) {d d2:TypeDesc}
  (hp:tmps.getD p undef=.pointer (some ⟨b,0,none⟩)) (ha:aK k w b n f) (hu:P.underlying T=some d) (hd:EL d=true) (hi:(P.info? T).map (·.size)=some n)
  (hp2:tmps.getD q undef=.pointer (some ⟨b2,0,none⟩)) (ha2:aK k2 w b2 n2 f2) (hu2:P.underlying U=some d2) (hd2:EL d2=true) (hi2:(P.info? U).map (·.size)=some n2):
  (results fn tmps).run P w=.ok (.tuple #[.agg (arr k n f),.agg (arr k2 n2 f2)]) w:=by
 obtain⟨t,ht⟩:=ha;obtain⟨t2,ht2⟩:=ha2;have hp':tmps[p]?.getD undef=.pointer (some ⟨b,0,none⟩):=by simpa using hp
 have apf:tmps[q]?.getD undef=.pointer (some ⟨b2,0,none⟩):=by simpa using hp2
 simp[results,h,hp',apf,asAddr,run_loadVar_row w b t T (arr k n f) (0,0) _ ht hu (by cases d<;> first | rfl | cases hd) (by rw[hi,iZ]),run_loadVar_row w b2 t2 U (arr k2 n2 f2) (0,0) _ ht2 hu2 (by cases d2<;> first | rfl | cases hd2) (by rw[hi2,iZ])]
end
theorem Gr.setRow {w w':World} {b:Nat} (h:w.grownBy w' (some b)) (cs:Array Value):w.grownBy (w'.setRow b cs) (some b):=by
 refine⟨?_,?_,?_,?_,fun j hj gW=>?_⟩
 ·rw[<-h.os];exact setRow_os _ _ _
 ·rw[<-h.tape];exact setRow_tape _ _ _
 ·rw[<-h.output];exact setRow_output _ _ _
 ·have:=h.size;rw[setRow_size];exact this
 ·rw[setRow_other _ _ _ _ (fun e=>gW (by rw[e]))];exact h.block j hj gW
def laid (f:Nat->Int) (off m:Nat) (h:Nat->Int):Nat->Int:=fun i=>if off<=i/\i<off+m then h (i - off) else f i
theorem TU {k:IntKind} {n:Nat} {f h:Nat->Int} {off m:Nat} (hf:off+m<=n):((vals k n f).take off++(vals k m h++(vals k n f).drop (off+(vals k m h).length))).toArray=arr k n (laid f off m h):=by
 unfold arr
 congr 1
 apply List.ext_getElem?
 intro i;rw[dH];have hl:((vals k n f).take off).length=off:=by simp;omega
 by_cases h1:i<off
 ·rw[Jh aH,List.getElem?_take,if_pos h1,dF aH,dF aH];unfold laid;rw[if_neg aH]
 ·rw[Ji aH,hl];by_cases h2:i<off+m
  ·rw[Jh iU,dF aH,dF aH];unfold laid;rw[if_pos aH]
  ·rw[Ji iU,List.getElem?_drop,dH,show off+m+(i - off - m)=i by omega];by_cases h3:i<n
   ·rw[dF h3,dF h3];unfold laid;rw[if_neg aH]
   ·rw[List.getElem?_eq_none iU,List.getElem?_eq_none iU]
theorem GY {P:Program} {w:World} {dT sT:TypeId} (t0:TypeId) {e:TypeId} {k:IntKind} {g off dLen dCap n:Nat} {f:Nat->Int} (hu:P.underlying dT=some (.slice e)) (gP:(P.info? e).map (·.size)=some 1)
  (hA:aK k w g n f) {u:Value} {m:Nat} {h:Nat->Int} (hr:Rd k w u m h) (hm:m<=dLen) (hf:off+m<=n):
  (Builtin.copy_ #[dT,sT] t0 #[.slice (some ⟨g,off,none⟩) dLen dCap,u]).run P w=.ok (goInt m) (w.setRow g (arr k n (laid f off m h))):=by
 obtain⟨t,hg⟩:=hA;obtain⟨sp,c,rfl,l1,l2,l3,l4⟩:=hr;have hmin:Nat.min m dLen=m:=Nat.min_eq_left hm;by_cases h0:m=0
 ·subst h0;have hrun:=run_copy_none (P:=P) w dT sT t0 e (some ⟨g,off,none⟩) sp dLen dCap 0 c hu gP aR;have hl:arr k n (laid f off 0 h)=arr k n f:=iQ fun i _=>by unfold laid;rw[if_neg aH]
  rw[hl,setRow_self w g _ t (0,0) hg];exact hrun
 ·obtain⟨b,o,rfl,hb,hc⟩:=l4 aH;have hrun:=run_copy_row (P:=P) w dT sT t0 e g off dLen dCap ⟨b,o,none⟩ m c (arr k n f) t (vals k m h) hu gP hg (by rw[dH,hmin]) (fun j v hv=>by
   have hj:j<m:=by have:=(List.getElem?_eq_some_iff.1 hv).1;simpa using this
   have hadd:(⟨b,o,none⟩:Addr).add j=⟨b,o+j,none⟩:=by unfold Addr.add;split<;> simp_all
   rw[hadd,hc j hj,←dF (k:=k) (f:=h) hj];exact hv) (by simpa using hf) (fun v hv=>by obtain⟨_,_,rfl⟩:=List.mem_map.1 hv;rfl)
  have hl:=TU (k:=k) (f:=f) (h:=h) hf;have e1:(arr k n f).toList=vals k n f:=by unfold arr;simp
  rw[e1,List.append_assoc,hl,dH] at hrun;exact hrun
section
variable {P : Program} {ops : Array Oper} {o : Oper} {a : Act} {w : World} {rest : List Oper} {K : Act -> World -> Prop} {Q : Exit -> Act -> World -> Prop} {E : Prop}
theorem mX (d s:Operand) (dT sT:TypeId) (ho:o.op=.call { callee:=.builtin .copy,args:=#[d,s],argTypes:=#[dT,sT] }) {e:TypeId} {k:IntKind} (g off dLen dCap n:Nat) (f:Nat->Int) (hu:P.underlying dT=some (.slice e)) (gP:(P.info? e).map (·.size)=some 1)
  (hd:a.eval d=.slice (some ⟨g,off,none⟩) dLen dCap) (hA:aK k w g n f) (u:Value) (m:Nat) (h:Nat->Int) (hr:Rd k w u m h) (hs:a.eval s=u) (hm:m<=dLen) (hf:off+m<=n)
  (hK:K (a.put o.dst (goInt m)) (w.setRow g (arr k n (laid f off m h)))):o.wp P a w K Q:=by
 have hrun:=GY (P:=P) (dT:=dT) (sT:=sT) o.type (dCap:=dCap) hu gP hA hr hm hf;unfold Oper.wp;simp[execOp,ho,resolve,invoke,builtin,hd,hs,hrun,Result.andThen];exact hK
theorem Eo (hg:o.guard=none) (d s:Operand) (dT sT:TypeId) (ho:o.op=.call { callee:=.builtin .copy,args:=#[d,s],argTypes:=#[dT,sT] }) {e:TypeId} {k:IntKind} (g off dLen dCap n:Nat) (f:Nat->Int) (hu:P.underlying dT=some (.slice e)) (gP:(P.info? e).map (·.size)=some 1)
  (hd:a.eval d=.slice (some ⟨g,off,none⟩) dLen dCap) (hA:aK k w g n f) (u:Value) (m:Nat) (h:Nat->Int) (hr:Rd k w u m h) (hs:a.eval s=u) (hm:m<=dLen) (hf:off+m<=n)
  (hK:K (a.put o.dst (goInt m)) (w.setRow g (arr k n (laid f off m h)))):if Region.wanted o (yielded ops a.tmps)=true then Oper.wp P o a w K Q else E:=by
 have hw:Region.wanted o (yielded ops a.tmps)=true:=by simp[Region.wanted,hg]
 rw[if_pos hw];exact mX d s dT sT ho g off dLen dCap n f hu gP hd hA u m h hr hs hm hf hK
theorem mU (hg:o.guard=none) (d s:Operand) (dT sT:TypeId) (ho:o.op=.call { callee:=.builtin .copy,args:=#[d,s],argTypes:=#[dT,sT] }) {e:TypeId} {k:IntKind} (g off dLen dCap n:Nat) (f:Nat->Int) (hu:P.underlying dT=some (.slice e)) (gP:(P.info? e).map (·.size)=some 1)
  (hd:a.eval d=.slice (some ⟨g,off,none⟩) dLen dCap) (hA:aK k w g n f) (u:Value) (m:Nat) (h:Nat->Int) (hr:Rd k w u m h) (hs:a.eval s=u) (hm:m<=dLen) (hf:off+m<=n)
  (hK:wpList P ops Q rest (a.put o.dst (goInt m)) (w.setRow g (arr k n (laid f off m h)))):wpList P ops Q (o::rest) a w:=
 wpList_plain hg fun _ hK'=>mX d s dT sT ho g off dLen dCap n f hu gP hd hA u m h hr hs hm hf (hK' _ _ hK)
end
def Row (k:IntKind) (w:World) (g cap n:Nat) (f:Nat->Int) (T:TypeId):Prop:=
 ∃cs,w.heap[g]? =some (.cells cs T (0,0))/\cs.size=cap/\n<=cap/\∀i,i<n->cs[i]? =some (.int k (f i))
theorem Row.arr {k:IntKind} {w:World} {g n:Nat} {f:Nat->Int} {T:TypeId} (h:Row k w g n n f T):aK k w g n f:=by
 obtain⟨cs,h1,h2,_,h3⟩:=h;refine⟨T,?_⟩;rw[h1]
 congr 2
 apply Array.ext_getElem?
 intro i;by_cases hi:i<n
 ·rw[h3 i hi,yC hi]
 ·rw[Array.getElem?_eq_none aH,Array.getElem?_eq_none (by rw[iZ];omega)]
theorem Own.rows {k:IntKind} {e:TypeId} {base:Nat} {w:World} {g n c:Nat} {f:Nat->Int} (h:Own k e base w (.slice (some ⟨g,0,none⟩) n c) n f):Row k w g c n f e:=by
 rcases h.2 with⟨h1,_⟩ | ⟨g',cap,cur,hv,hb',hg,hn,hc,hs,ht⟩
 ·cases h1
 ·simp only[VQ,Zqk,Addr.mk.injEq,and_true,true_and] at hv;obtain⟨rfl,rfl⟩:=hv;refine⟨cur,hg,by simpa using hs,hn,fun i hi=>?_⟩;have:=dF (k:=k) (f:=f) hi;rw[<-ht,List.getElem?_take] at this
  simpa [hi] using this
theorem Own.setRow {k:IntKind} {e:TypeId} {base:Nat} {w:World} {v:Value} {n:Nat} {f:Nat->Int} (h:Own k e base w v n f) {b:Nat} (hb:b<base) (cs:Array Value):Own k e base (w.setRow b cs) v n f:=
 World.ownsRow.kept (row:=some b) h (Gr.setRow (Gr.refl w b) cs) (by
  cases hv:v.ownBlock with
  | none=>exact .inl rfl
  | some g=>exact .inr (fun q=>by have:=(World.ownsRow.lt h g hv).1;have:=gJ q;omega))
theorem aai {B:Nat} {w0 w w':World} {b:Nat} (h:Below B w0 w) (hg:w.grownBy w' (some b)) (hB:B<=b) (hs:B<=w.heap.size):Below B w0 w':=
 h.grown hg hs fun k e=>by cases e;exact hB
theorem agf {k:IntKind} {w:World} {T:TypeId} {cs:List Value} {n:Nat} {f:Nat->Int} (hn:cs.length=n) (hm:n<=9223372036854775807) (hc:∀i,i<n->cs[i]? =some (.int k (f i))):
  Rd k (w.alloc (.cells cs.toArray T)) (.slice (some ⟨w.heap.size,0,none⟩) n n) n f:=
 (Own.new k T (base:=0) w cs.toArray n f (jm _) hm (by simpa using hn) (fun i hi=>by simpa using hc i hi)).rd
theorem Ii {k:IntKind} {w:World} {T:TypeId} {x:Int}:Rd k (w.alloc (.cells [Value.int k x].toArray T)) (.slice (some ⟨w.heap.size,0,none⟩) 1 1) 1 (fun _=>x):=
 agf rfl aM fun i hi=>by(obtain rfl:i=0:=by omega);rfl
end Go.bI
