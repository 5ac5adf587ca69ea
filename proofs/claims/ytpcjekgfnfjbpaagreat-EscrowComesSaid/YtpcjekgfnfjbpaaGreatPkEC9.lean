/- Part 9 of EscrowComes; conditions: in each theorem. -/
import Derived.Test.YtpcjekgfnfjbpaaGreatPkEC8
import Derived.Laws.IdiomCopy
import Derived.OrdersIn
import Derived.OwnWalkIn
import Derived.RangeFuncCalls
set_option linter.unusedVariables false
set_option linter.unusedSimpArgs false
namespace Go.bI
open Go.RowKit
section
variable {P : Program} {ops : Array Oper} {Q : Exit -> Act -> World -> Prop}
theorem Nv {o:Oper} {a:Act} {w:World} {K:Act->World->Prop} {l n:Nat} (hd:∀c,o.op≠.defer c) (h:o.wp P a w K Q):o.wpIn (Fence.wide.inRound l) n P a w K Q:=by
 refine⟨fun f _=>trivial,?_⟩;rw[Oper.semAt_plain _ _ _ hd];unfold Oper.wp at h
 generalize (execOp a.eval o).run P w=r at h ⊢
 cases r with
 | ok x w'=>
  cases x with
  | value v=>exact h
  | skip=>exact h
  | defer d=>exact h
  | enter f args=>exact⟨(fun h=>by cases h),CallsIn.inRound l (callsIn_wide.2 h)⟩
  | row row args=>exact⟨(fun h=>by cases h),fun c cs _=>let ⟨v,w',r,s⟩:=h c cs;⟨v,w',r,stepsIn_wide.2 s⟩⟩
  | _=>exact h.elim
 | halt e w'=>cases e<;> exact h
def xP (ops:Array Oper):Bool:=ops.toList.all fun o=>match o.op with | .defer _=>false | _=>true
theorem Ig (h:xP ops=true) {i:Nat} {o:Oper} (ho:ops[i]? =some o):∀c,o.op≠.defer c:=by
 intro c e;unfold xP at h;rw[wM] at h;have:=h o (by rw[List.mem_iff_getElem?];exact⟨i,by simpa using ho⟩);rw[e] at this;cases this
theorem Al {id:Nat} {a:Act} {w:World} {l nn:Nat} (hm:P.follows .mixedOrders=true) (hb:jV ops=true) (hnd:xP ops=true)
  (I:Array Bool->Act->World->Prop)
  (hstart:I (Array.replicate ops.size false) a w.drew)
  (hstep:∀(L:Array Bool) (a:Act) (w:World) (i:Nat) (o:Oper),ops[i]? =some o->L.getD i true=false->(∀e ∈ o.after,Region.binds .any e=true->L.getD e.on false=true)->I L a w->
   if Region.wanted o (yielded ops a.tmps) then o.wp P a w (fun a' w'=>I (L.setIfInBounds i true) a' w') Q else I (L.setIfInBounds i true) (a.put o.dst undef) w)
  (hend:∀(L:Array Bool) (a:Act) (w:World),(∀i,i<ops.size->L.getD i false=true)->I L a w->Q .normal a w):
  (Code.region id ops true).wpIn (Fence.wide.inRound l) nn P Q a w:=by
 have hdone:∀L:Array Bool,L.size=ops.size->Region.ready .any ops L= [] ->∀i,i<ops.size->L.getD i false=true:=by
  intro L hs hr i
  induction i using Nat.strongRecOn with
  | _ i ih=>
   intro hi;rcases hL:L.getD i false with _ | _
   ·exfalso
    have hmem:i ∈ Region.ready .any ops L:=by
     rw[mem_ready];refine⟨?_,ops[i],by simp[hi],fun e he hbi=>?_⟩
     ·simp only[Array.getD_eq_getD_getElem?] at hL ⊢;simp[show i<L.size by omega] at hL ⊢;exact hL
     ·have hlt:=zF hb i ops[i] (by simp[hi]) e he hbi;exact ih e.on hlt aH
    rw[hr] at hmem;cases hmem
   ·rfl
 refine wpIn_region_any hm ?_;have key:∀(fuel:Nat) (L:Array Bool) (a:Act) (w:World),L.size=ops.size->L.toList.count false=fuel->I L a w->wpAnyIn (Fence.wide.inRound l) nn P .any ops Q fuel L a w:=by
  intro fuel
  induction fuel with
  | zero=>
   intro L a w hs hc hI;have hall:∀i,i<ops.size->L.getD i false=true:=by
    intro i hi;have:=(List.count_eq_zero.1 hc)
    rcases hL:L.getD i false with _ | _
    ·exfalso
     apply this
     have h2:i<L.size:=by omega
     simp[h2] at hL;rw[<-hL];simp
    ·rfl
   refine⟨?_,hend L a w hall hI⟩
   cases hr:Region.ready .any ops L with
   | nil=>rfl
   | cons i r=>
    exfalso
    have hmem:i ∈ Region.ready .any ops L:=by rw[hr];exact List.mem_cons_self
    rw[mem_ready] at hmem;obtain⟨h0,o,ho,_⟩:=hmem;have hi:i<ops.size:=(Array.getElem?_eq_some_iff.1 ho).1;have:=hall i hi;have h2:i<L.size:=by omega
    simp[h2] at this h0;rw[this] at h0;cases h0
  | succ fuel ih=>
   intro L a w hs hc hI;refine⟨fun hr=>hend L a w (hdone L hs hr) hI,fun i hi=>?_⟩;rw[mem_ready] at hi;obtain⟨h0,o,ho,jo⟩:=hi;have iN:=hstep L a w i o ho h0 jo hI;have hc':=count_set h0;unfold wpOpIn;simp only[ho]
   split
   ·rename_i hw
    rw[if_pos hw] at iN;exact Oper.wpIn_mono (fun a' w' h'=>ih _ _ _ (by simpa using hs) aH h') (Nv (Ig hnd ho) iN)
   ·rename_i hw
    rw[if_neg hw] at iN;exact⟨fun _ _=>trivial,ih _ _ _ (by simpa using hs) aH iN⟩
 exact key ops.size _ a w.drew aR aR hstart
theorem Cr {id:Nat} {l nn:Nat} (hnd:xP ops=true) {a0:Act} {w0:World} {n:Nat} (n0:Nat) (hn0:n0<ops.size) (hm:P.follows .mixedOrders=true) (hb:jV ops=true) (hd:qw ops n=true) (ht:JR ops n0=true) (hn:a0.tmps.size=n)
  (Sp:Nat->Value->World->Prop) (stable:∀i v w w',Sp i v w->Below w.heap.size w w'->Sp i v w')
  (jB:∀i o,ops[i]? =some o->i<n0->∀a w,Below w0.heap.size w0 w->Fr (ops.toList.take n0).toArray a0 a->
   (∀j oj,ops[j]? =some oj->(∃e ∈ o.after,e.on=j/\Region.binds .any e=true)->Sp j (got oj a) w)->
   if Region.wanted o (yielded ops a.tmps) then o.wp P a w (fun a' w'=> ∃v,a'=a.put o.dst v/\(o.dst=none->v=undef)/\Sp i v w'/\Below w.heap.size w w') Q else Sp i undef w)
  (hend:∀a w,Below w0.heap.size w0 w->Fr (ops.toList.take n0).toArray a0 a->(∀j oj,ops[j]? =some oj->j<n0->Sp j (got oj a) w)->tl P ops Q (ops.toList.drop n0) a w):
  (Code.region id ops true).wpIn (Fence.wide.inRound l) nn P Q a0 w0:=by
 obtain⟨Inv,h1,h2,h3⟩:=Fh (Q:=Q) n0 hn0 hb hd ht hn Sp stable jB hend;exact Al hm hb hnd Inv h1.1 h2 h3
variable {o : Oper} {a : Act} {w : World} {K : Act -> World -> Prop} {R : Exit -> Act -> World -> Prop}
theorem eB {T e:TypeId} {x:Operand} {b i:Nat} {v:Value} (ho:o.op=.load T x) (hx:a.eval x=.pointer (some ⟨b,i,none⟩)) (hu:P.underlying T=some (.slice e)) (hc:w.cell? ⟨b,i,none⟩=some v):(execOp a.eval o).run P w=.ok (.value v) w:=by
 unfold execOp;simp only[ho,hx];simp[Instr.loadAt,Instr.sureAddr,loadVar,isAgg,run_underlying hu,go_sem,hc]
theorem oH {x:Operand} {t:TypeId} {ad:Option Addr} {n c:Nat} (ho:o.op=.call { callee:=.builtin .len,args:=#[x],argTypes:=#[t] }) (hx:a.eval x=.slice ad n c) {e:TypeId} (hu:P.underlying t=some (.slice e)):(execOp a.eval o).run P w=.ok (.value (.int .i64 n)) w:=by
 unfold execOp;simp only[ho,resolve,invoke,builtin,uV,wL,vS,vT,List.map_cons,List.map_nil,hx];simp[go_sem,Builtin.len_,Builtin.lenOf,goInt,run_underlying hu]
theorem acf {f:Nat->Int} {m:Nat} {x:Int} (h:f m=x):∀i,i<1->f (m+i)=x:=fun i hi=>by
 obtain rfl:i=0:=by omega
 exact h
theorem wO (T:TypeId) (x y:Operand) (ho:o.op=.store T x y) (hd:o.dst=none) (b:Nat) (v v0:Value) (hv:v.cells=#[v]) (h1:v.oneCell'=true)
  (hi:(P.info? T).map (·.size)=some 1) (hx:a.eval x=.pointer (some ⟨b,0,none⟩)) (hy:a.eval y=v) (hc:w.cell? ⟨b,0,none⟩=some v0) (hf:w.frozen? ⟨b,0,none⟩=false) (hK:K a (w.setCell ⟨b,0,none⟩ v)):o.wp P a w K R:=by
 have hr:=run_storeCells_cells (P:=P) b 0 [v] 0 w
  (by
   intro j hj;have hj0:j=0:=by simp at hj;omega
   subst hj0;show (w.cell? ⟨b,0,none⟩).isSome=true;rw[hc];rfl)
  (by
   intro j hj;have hj0:j=0:=by simp at hj;omega
   subst hj0;exact hf)
  (by
   intro u hu;simp at hu;subst hu;exact h1)
 obtain⟨q,hq,hs⟩:=Option.map_eq_some_iff.1 hi;unfold Oper.wp execOp;simp only[Nat.add_zero] at hr;have hs2:(storeVar T ⟨b,0,none⟩ v).run P w=.ok () (w.setCell ⟨b,0,none⟩ v):=by
  simp[storeVar,sizeOf,typeInfo,hq,hs,hv,hr,World.setCells]
 simp only[ho,hx,hy,Instr.storeAt,Instr.sureAddr,uV,wL,vS,hs2];show K (a.put o.dst undef) _;rw[hd];exact hK
theorem BF (s x:Operand) (t:TypeId) (hop:o.op=.call { callee:=.builtin .append,args:=#[s,x],argTypes:=#[t,t] })
  (base:Nat) (e:TypeId) (k:IntKind) (bytes:Nat)
  (h1:P.underlying t=some (.slice e)) (hinfo:(P.info? e).map (fun i=>(i.zero,i.size,i.bytes))=some (some (.int k 0),1,bytes))
  (g n cap:Nat) (f:Nat->Int) (cK:bI.Own k e base w (.slice (some ⟨g,0,none⟩) n cap) n f) (hs:a.eval s=.slice (some ⟨g,0,none⟩) n cap)
  (u:Value) (m:Nat) (h:Nat->Int) (hm:0<m) (hrd:Rd k w u m h) (hx:a.eval x=u) (hf:∀i,i<m->f (n+i)=h i) (hfit:n+m<=cap)
  (hK:∀w',bI.Own k e base w' (.slice (some ⟨g,0,none⟩) (n+m) cap) (n+m) f->w.grownBy w' (some g)->K (a.put o.dst (.slice (some ⟨g,0,none⟩) (n+m) cap)) w'):
  o.wp P a w K R:=by
 obtain⟨i,hi,hz0,hz1,hz2⟩:=info_parts hinfo;have hv:vals k n f++vals k m h=vals k (n+m) f:=by
  unfold vals;rw[List.range_add];simp only[List.map_append,List.map_map]
  congr 1
  exact List.map_congr_left fun i hi=>by simp[hf i (List.mem_range.1 hi)]
 obtain⟨ao,c,rfl,l1,l2,l3,l4⟩:=hrd;obtain⟨b,of,rfl,_,hcell⟩:=l4 hm;obtain⟨w',hrun,r1,r2⟩:=run_append_fits (P:=P) w base t o.type e i 1 h1 hi hz1 g n cap (vals k n f) cK ⟨b,of,none⟩ m c (vals k m h) aR (fun j u hu=>by
  have hj:j<m:=by have:=(List.getElem?_eq_some_iff.1 hu).1;simpa using this
  have hadd:(⟨b,of,none⟩:Addr).add j=⟨b,of+j,none⟩:=by unfold Addr.add;split<;> simp_all
  rw[hadd,hcell j hj,←dF (k:=k) (f:=h) hj];exact hu) (fun u hu=>by obtain⟨_,_,rfl⟩:=List.mem_map.1 hu;rfl) hfit
 unfold Oper.wp execOp;simp only[hop,resolve,invoke,builtin,uV,wL,vS,vT,List.map_cons,List.map_nil,hs,hx,hrun];exact hK w' (by unfold bI.Own;rw[<-hv];exact r1) r2
end
end Go.bI
