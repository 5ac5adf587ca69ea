/- Part 6 of EscrowComes; conditions: in each theorem. -/
import Derived.Test.YtpcjekgfnfjbpaaGreatPkEC5
import Derived.Great.BuildSlice
set_option linter.unusedVariables false
set_option linter.unusedSimpArgs false
namespace Go.bI
open Go.RowKit
def dQ (lens:Nat->Nat):Nat->Nat
 | 0=>0
 | j+1=>dQ lens j+lens j
theorem qN (lens:Nat->Nat) {i j:Nat} (h:i<=j):dQ lens i<=dQ lens j:=by
 induction j with
 | zero=>(obtain rfl:i=0:=by omega);exact bH _
 | succ j ih=>
  by_cases e:i=j+1
  ·subst e;exact bH _
  ·have:=ih aH;rw[dQ];omega
def uq (w:World) (v:Value) (m:Nat) (lens:Nat->Nat) (g:Nat->Nat->Int):Prop:=
 ∃a c,v=.slice a m c/\m<=c/\c<=9223372036854775807/\(0<m->∃b o,a=some ⟨b,o,none⟩/\b<w.heap.size/\∀j,j<m->∃u,w.cell? ⟨b,o+j,none⟩=some u/\Rd .u8 w u (lens j) (g j))
theorem uq.below {w w':World} {v:Value} {m:Nat} {lens:Nat->Nat} {g:Nat->Nat->Int} (h:uq w v m lens g) (hb:Below w.heap.size w w'):uq w' v m lens g:=by
 obtain⟨a,c,rfl,h1,h2,h3⟩:=h;refine⟨a,c,rfl,h1,h2,fun hm=>?_⟩;obtain⟨b,o,rfl,hlt,hc⟩:=h3 hm;have:=hb.size;refine⟨b,o,rfl,by omega,fun j hj=>?_⟩;obtain⟨u,hu,hr⟩:=hc j hj;exact⟨u,(hb.cell (p:=⟨b,o+j,none⟩) hlt).trans hu,hr.below hb⟩
theorem uq.nil (w:World) (lens:Nat->Nat) (g:Nat->Nat->Int):uq w (.slice none 0 0) 0 lens g:=
 ⟨none,0,rfl,bH _,by omega,fun h=>by omega⟩
theorem uq.new {w:World} {T:TypeId} {cs:Array Value} {m:Nat} {lens:Nat->Nat} {g:Nat->Nat->Int} (hm:m<=9223372036854775807) (hc:∀j,j<m->∃u,cs[j]? =some u/\Rd .u8 w u (lens j) (g j)):
  uq (w.alloc (.cells cs T)) (.slice (some ⟨w.heap.size,0,none⟩) m m) m lens g:=by
 refine⟨_,_,rfl,bH _,hm,fun _=>⟨_,0,rfl,by simp,fun j hj=>?_⟩⟩;obtain⟨u,hu,hr⟩:=hc j hj;exact⟨u,by rw[qY,cell_of_row _ _ _ cs T (0,0) (heap_alloc_new w _)];exact hu,hr.below ((bT _ _).alloc (bH _) _)⟩
section
variable {P : Program} {a : Act} {w : World} {o : Oper}
theorem oC {S:Value->World->Prop} {Q:Exit->Act->World->Prop} (T e:TypeId) (n:Nat) (parts:Array (Nat × Operand)) (vs:List Value) (ho:o.op=.buildSlice T n parts)
  (hu:P.underlying T=some (.slice e)) (gP:(P.info? e).map (·.size)=some 1) (hz:((P.info? e).bind (·.zero)).isSome=true) (hn:vs.length=n) (hpos:0<n) (hsmall:n<=2 ^ 24)
  (hone:∀v ∈ vs,v.cells=#[v]) (hparts:(parts.map fun(i,x)=>(i,a.eval x)).toList=(vs.zipIdx 0).map fun x=>(x.2,x.1)) (hd:o.dst≠none)
  (hS:S (.slice (some ⟨w.heap.size,0,none⟩) n n) (w.alloc (.cells vs.toArray e))):
  o.wp P a w (fun a' w'=> ∃v,a'=a.put o.dst v/\(o.dst=none->v=undef)/\S v w'/\Below w.heap.size w w') Q:=by
 subst hn
 cases hie:P.info? e with
 | none=>simp[hie] at gP
 | some ie=>
  simp only[hie,Option.map_some,Zqk,Option.bind_some] at gP hz;obtain⟨z,hzz⟩:=Option.isSome_iff_exists.1 hz;refine wp_buildSlice T e vs.length parts ho vs.toArray ie z hu hie hzz (by rw[gP];omega) (by rw[gP];omega) ?_ ⟨_,rfl,fun h=>absurd h hd,hS,(bT _ _).alloc (bH _) _⟩;rw[hparts,gP];exact Great.fill_flat _ _ hone aR
theorem dY {T:TypeId} {x:Operand} {lo hi mx:Option Operand} {v u:Value} (ho:o.op=.slice T x lo hi mx) (hx:a.eval x=v)
  (h:(Instr.sliceAt T v (lo.map a.eval) (hi.map a.eval) (mx.map a.eval)).run P w=.ok u w):(execOp a.eval o).run P w=.ok (.value u) w:=by
 unfold execOp;simp only[ho,hx,uV,h,vS,wL]
theorem Rd.head {P:Program} {t e:TypeId} {k:IntKind} {bytes:Nat} (ht:P.underlying t=some (.slice e)) (hinfo:(P.info? e).map (fun i=>(i.zero,i.size,i.bytes))=some (some (.int k 0),1,bytes))
  (a:Option Addr) (n c hi:Nat) (h2:hi<=n) (h3:n<=c):
  (∀w,(Instr.sliceAt t (.slice a n c) none (some (.int .i64 (hi:Int))) none).run P w=.ok (.slice a hi c) w)/\
   ∀(w:World) (f:Nat->Int),Rd k w (.slice a n c) n f->Rd k w (.slice a hi c) hi f:=by
 have hel:=IK ht;have ht':P.underlying t=some (.slice (P.elem t)):=by rw[hel];exact ht
 refine⟨fun w=>?_,fun w f hr=>?_⟩
 ·rw[run_sliceAt_slice w t _ _ _ _ ht',run_slice_h w t a n c ht' .i64 hi aH aH,hel,mP hinfo];simp[Result.andThen,sliced];intro hc
  cases a with
  | none=>rfl
  | some x=>cases x;simp[Addr.add]
 ·obtain⟨a0,c0,he,l1,l2,l3,l4⟩:=hr;simp only[VQ,true_and] at he;obtain⟨rfl,rfl⟩:=he;refine⟨_,_,rfl,by omega,l2,l3,fun hm=>?_⟩;obtain⟨b,o,rfl,hlt,hcell⟩:=l4 aH;exact⟨b,o,rfl,hlt,fun i hi=>hcell i aH⟩
end
theorem Dj {f:Nat->Int} {n:Nat}:(∀j,j<1->∀x,x<(fun _=>n:Nat->Nat) j->f (dQ (fun _=>n) j+x)=(fun _=>f:Nat->Nat->Int) j x)/\dQ (fun _=>n) 1=n:=by
 constructor
 ·intro j hj x hx;obtain rfl:j=0:=by omega
  simp[dQ]
 ·simp[dQ]
theorem new1 {w w':World} {v:Value} {n:Nat} {f:Nat->Int} {T:TypeId} (h:Rd .u8 w v n f) (hb:Below w.heap.size w w'):uq (w'.alloc (.cells [v].toArray T)) (.slice (some ⟨w'.heap.size,0,none⟩) 1 1) 1 (fun _=>n) (fun _=>f):=
 uq.new aM fun j hj=>⟨v,by(obtain rfl:j=0:=by omega);rfl,h.below hb⟩
def nN (n:Nat) (f g:Nat->Int) (i:Nat):Int:=if i<n then f i else g (i - n)
theorem RP {n i:Nat} {f g:Nat->Int} (h:i<n):nN n f g i=f i:=if_pos h
theorem Bt {n i:Nat} {f g:Nat->Int}:nN n f g (n+i)=g i:=by unfold nN;rw[if_neg aH,Vi]
theorem mJ {n m:Nat} {f g:Nat->Int} (hf:∀i,i<n->0<=f i/\f i<256) (hg:∀i,i<m->0<=g i/\g i<256):∀i,i<n+m->0<=nN n f g i/\nN n f g i<256:=by
 intro i hi;unfold nN
 split
 ·exact hf i aH
 ·exact hg _ aH
def kM (m:Nat) (l1 l2:Nat->Nat) (j:Nat):Nat:=if j<m then l1 j else l2 (j - m)
def nL (m:Nat) (g1 g2:Nat->Nat->Int) (j:Nat):Nat->Int:=if j<m then g1 j else g2 (j - m)
theorem zX (m:Nat) (l1 l2:Nat->Nat):∀j,j<=m->dQ (kM m l1 l2) j=dQ l1 j:=by
 intro j
 induction j with
 | zero=>intro _;rfl
 | succ j ih=>intro h;rw[dQ,dQ,ih aH];unfold kM;rw[if_pos aH]
theorem tF (m:Nat) (l1 l2:Nat->Nat):∀j,dQ (kM m l1 l2) (m+j)=dQ l1 m+dQ l2 j:=by
 intro j
 induction j with
 | zero=>exact zX m l1 l2 m (bH _)
 | succ j ih=>rw[<-Nat.add_assoc,dQ,dQ,ih];unfold kM;rw[if_neg aH,Vi];omega
theorem Ze {m m2:Nat} {l1 l2:Nat->Nat} {g1 g2:Nat->Nat->Int} {F:Nat->Int} (h1:∀j,j<m->∀i,i<l1 j->F (dQ l1 j+i)=g1 j i) (h2:∀j,j<m2->∀i,i<l2 j->F (dQ l1 m+(dQ l2 j+i))=g2 j i):
  ∀j,j<m+m2->∀i,i<kM m l1 l2 j->F (dQ (kM m l1 l2) j+i)=nL m g1 g2 j i:=by
 intro j hj i hi;unfold kM at hi;unfold nL;by_cases h:j<m
 ·rw[if_pos h] at hi ⊢;rw[zX m l1 l2 j aH];exact h1 j h i hi
 ·rw[if_neg h] at hi ⊢;obtain⟨q,rfl⟩:∃q,j=m+q:=⟨j - m,by omega⟩
  rw[Vi] at hi ⊢;rw[tF,Nat.add_assoc];exact h2 q aH i hi
theorem uQ {m m2:Nat} {l1 l2:Nat->Nat} {g1 g2:Nat->Nat->Int} {F1 F2:Nat->Int} (h1:∀j,j<m->∀i,i<l1 j->F1 (dQ l1 j+i)=g1 j i) (h2:∀j,j<m2->∀i,i<l2 j->F2 (dQ l2 j+i)=g2 j i):
  ∀j,j<m+m2->∀i,i<kM m l1 l2 j->nN (dQ l1 m) F1 F2 (dQ (kM m l1 l2) j+i)=nL m g1 g2 j i:=by
 refine Ze (fun j hj i hi=>?_) (fun j hj i hi=>?_)
 ·have:=qN l1 (show j+1<=m by omega);rw[dQ] at this;rw[RP aH];exact h1 j hj i hi
 ·rw[Bt];exact h2 j hj i hi
def DR (w:World) (v:Value) (m:Nat) (us:Nat->Value) (lens:Nat->Nat) (g:Nat->Nat->Int):Prop:=
 ∃a c,v=.slice a m c/\m<=c/\c<=9223372036854775807/\(a=none->m=0)/\(0<m->∃b o,a=some ⟨b,o,none⟩/\b<w.heap.size/\∀j,j<m->w.cell? ⟨b,o+j,none⟩=some (us j)/\Rd .u8 w (us j) (lens j) (g j))
theorem uq.ajw {w:World} {v:Value} {m:Nat} {lens:Nat->Nat} {g:Nat->Nat->Int} (h:uq w v m lens g):∃us,DR w v m us lens g:=by
 obtain⟨a,c,rfl,h1,h2,h3⟩:=h;by_cases hm:0<m
 ·obtain⟨b,o,rfl,hb,hc⟩:=h3 hm;refine⟨fun j=>((w.cell? ⟨b,o+j,none⟩).getD undef),_,_,rfl,h1,h2,fun e=>(by cases e),fun _=>⟨b,o,rfl,hb,fun j hj=>?_⟩⟩;obtain⟨u,hu,hr⟩:=hc j hj;have e1:((w.cell? ⟨b,o+j,none⟩).getD undef)=u:=by rw[hu];rfl
  exact⟨by show _=some ((w.cell? ⟨b,o+j,none⟩).getD undef);rw[e1,hu],by show Rd .u8 w ((w.cell? ⟨b,o+j,none⟩).getD undef) _ _;rw[e1];exact hr⟩
 ·exact⟨fun _=>undef,_,_,rfl,h1,h2,fun _=>by omega,fun h=>absurd h hm⟩
theorem Rd.in {k:IntKind} {w:World} {v:Value} {n:Nat} {f:Nat->Int} (h:Rd k w v n f) (hn:0<n):∃b,v.ownBlock=some b/\b<w.heap.size:=by
 obtain⟨a,c,rfl,_,_,_,h4⟩:=h;obtain⟨b,o,rfl,hb,_⟩:=h4 hn;exact⟨b,rfl,hb⟩
theorem Rd.grown {k:IntKind} {w w':World} {v:Value} {n:Nat} {f:Nat->Int} {row:Option Nat} (h:Rd k w v n f) (hg:w.grownBy w' row) (gW:0<n->v.ownBlock≠row):Rd k w' v n f:=by
 obtain⟨a,c,rfl,h1,h2,h3,h4⟩:=h;refine⟨a,c,rfl,h1,h2,h3,fun hn=>?_⟩;obtain⟨b,o,rfl,hlt,hc⟩:=h4 hn;have:=hg.size;exact⟨b,o,rfl,by omega,fun i hi=>(World.cell?_of_block (hg.block b hlt (gW hn))).trans (hc i hi)⟩
theorem DR.below {w w':World} {v:Value} {m:Nat} {us:Nat->Value} {lens:Nat->Nat} {g:Nat->Nat->Int} (h:DR w v m us lens g) (hb:Below w.heap.size w w'):DR w' v m us lens g:=by
 obtain⟨a,c,rfl,h1,h2,h3,h4⟩:=h;refine⟨a,c,rfl,h1,h2,h3,fun hm=>?_⟩;obtain⟨b,o,rfl,hlt,hc⟩:=h4 hm;have:=hb.size;exact⟨b,o,rfl,by omega,fun j hj=>⟨(hb.cell (p:=⟨b,o+j,none⟩) hlt).trans (hc j hj).1,(hc j hj).2.below hb⟩⟩
theorem DR.far {w:World} {v u:Value} {m:Nat} {us:Nat->Value} {lens:Nat->Nat} {g:Nat->Nat->Int} (h:DR w v m us lens g) (hu:∀b,u.ownBlock=some b->w.heap.size<=b):∀j,j<m->0<lens j->(us j).ownBlock≠u.ownBlock:=by
 intro j hj hl e;obtain⟨a,c,rfl,h1,h2,h3,h4⟩:=h;obtain⟨b,o,rfl,hlt,hc⟩:=h4 aH;obtain⟨b',hb',hlt'⟩:=(hc j hj).2.in hl;have:=hu b' (by rw[<-e,hb']);omega
def fH (e:TypeId) (base:Nat) (w:World) (v:Value) (m:Nat) (lens:Nat->Nat) (g:Nat->Nat->Int):Prop:=
 ∃us:Nat->Value,w.ownsRow base e 1 v m ((List.range m).map us)/\∀j,j<m->Rd .u8 w (us j) (lens j) (g j)/\(0<lens j->(us j).ownBlock≠v.ownBlock)
theorem fH.lit {e:TypeId} {base:Nat} {w:World} {cs:Array Value} {m:Nat} {lens:Nat->Nat} {g:Nat->Nat->Int} (hb:base<=w.heap.size) (hm:m<=140737488355328) (hs:cs.size=m) (hc:∀j,j<m->∃u,cs[j]? =some u/\Rd .u8 w u (lens j) (g j)):
  fH e base (w.alloc (.cells cs e)) (.slice (some ⟨w.heap.size,0,none⟩) m m) m lens g:=by
 refine⟨fun j=>cs.getD j undef,?_,fun j hj=>?_⟩
 ·have:cs.toList=(List.range m).map fun j=>cs.getD j undef:=by
   apply List.ext_getElem?
   intro j;by_cases h:j<m
   ·simp[h,hs]
   ·simp[h,hs]
  rw[<-this];exact World.ownsRow_lit w cs m hb (by unfold maxLen;omega) (by simp[hs])
 ·obtain⟨u,hu,hr⟩:=hc j hj;have e1:cs.getD j undef=u:=by simp[Array.getD_eq_getD_getElem?,hu]
  simp only[e1];refine⟨hr.below ((bT _ _).alloc (bH _) _),fun hp=>?_⟩;obtain⟨b,hb',hlt⟩:=hr.in hp;rw[hb'];simp[Value.ownBlock];omega
theorem fH.aoR {e:TypeId} {base:Nat} {w:World} {u:Value} {n:Nat} {f:Nat->Int} (hb:base<=w.heap.size) (h:Rd .u8 w u n f):
  fH e base (w.alloc (.cells #[u] e)) (.slice (some ⟨w.heap.size,0,none⟩) 1 1) 1 (fun _=>n) (fun _=>f):=
 fH.lit hb aM rfl fun j hj=>⟨u,by
  obtain rfl:j=0:=by omega
  rfl,h⟩
theorem fH.below {e:TypeId} {base:Nat} {w w':World} {v:Value} {m:Nat} {lens:Nat->Nat} {g:Nat->Nat->Int} (h:fH e base w v m lens g) (hb:Below w.heap.size w w'):fH e base w' v m lens g:=by
 obtain⟨us,h1,h2⟩:=h;refine⟨us,⟨h1.1,?_⟩,fun j hj=>⟨(h2 j hj).1.below hb,(h2 j hj).2⟩⟩;rcases h1.2 with hn | ⟨g,cap,cur,rfl,hb',hgg,rest⟩
 ·exact .inl hn
 ·refine .inr ⟨g,cap,cur,rfl,hb',?_,rest⟩;rw[hb.block g (Array.getElem?_eq_some_iff.1 hgg).1];exact hgg
theorem fH.txt {e:TypeId} {base:Nat} {w:World} {v:Value} {m:Nat} {lens:Nat->Nat} {g:Nat->Nat->Int} (h:fH e base w v m lens g):uq w v m lens g:=by
 obtain⟨us,h1,h2⟩:=h;rcases h1.2 with⟨rfl,hz⟩ | ⟨g',cap,cur,rfl,hb,hg,hn,hc,hs,ht⟩
 ·have hm0:m=0:=hz;subst hm0;exact uq.nil _ _ _
 ·unfold maxLen at hc;refine⟨_,_,rfl,hn,by omega,fun _=>⟨g',0,rfl,(Array.getElem?_eq_some_iff.1 hg).1,fun j hj=>⟨us j,?_,(h2 j hj).1⟩⟩⟩;rw[qY,cell_of_row w g' j cur e (0,0) hg];have hx:((List.range m).map us)[j]? =some (us j):=by simp[hj]
  rw[<-ht,List.getElem?_take] at hx
  split at hx
  ·simpa using hx
  ·cases hx
theorem Ei {P:Program} {w:World} {o:Oper} {a:Act} {K:Act->World->Prop} {Q:Exit->Act->World->Prop}
  (s x:Operand) (t:TypeId) (hop:o.op=.call { callee:=.builtin .append,args:=#[s,x],argTypes:=#[t,t] })
  (base:Nat) (e:TypeId) (bytes:Nat) (h1:P.underlying t=some (.slice e)) (hinfo:(P.info? e).map (fun i=>(i.zero,i.size,i.bytes))=some (some (.slice none 0 0),1,bytes))
  (v:Value) (m:Nat) (lens:Nat->Nat) (g:Nat->Nat->Int) (cK:fH e base w v m lens g) (hs:a.eval s=v)
  (u:Value) (m2:Nat) (QD:Nat->Value) (xR:Nat->Nat) (g2:Nat->Nat->Int) (htx:DR w u m2 QD xR g2) (Pd:∀j,j<m2->0<xR j->(QD j).ownBlock≠v.ownBlock) (hx:a.eval x=u)
  (b2:(m+m2) * bytes<=140737488355328) (b3:m+m2<=140737488355328) (b4:base<=w.heap.size)
  (hK:∀v' w',fH e base w' v' (m+m2) (kM m lens xR) (nL m g g2)->w.grownBy w' v.ownBlock->(∀b,v'.ownBlock=some b->base<=b)->Placed w v v'->K (a.put o.dst v') w'):
  o.wp P a w K Q:=by
 obtain⟨i,hi,hz0,hz1,hz2⟩:=info_parts hinfo;obtain⟨us,hrow,hel⟩:=cK;obtain⟨ad,c,rfl,l1,l2,l3,l4⟩:=htx;have hlist:(List.range m).map us++(List.range m2).map QD=(List.range (m+m2)).map fun j=>if j<m then us j else QD (j - m):=by
  rw[List.range_add,List.map_append,List.map_map]
  congr 1
  ·exact List.map_congr_left fun j hj=>by rw[if_pos (List.mem_range.1 hj)]
  ·exact List.map_congr_left fun j hj=>by simp only[Function.comp];rw[if_neg aH,Vi]
 have fin:∀v' w',w'.ownsRow base e 1 v' (m+m2) ((List.range m).map us++(List.range m2).map QD)->w.grownBy w' v.ownBlock->Placed w v v'->fH e base w' v' (m+m2) (kM m lens xR) (nL m g g2):=by
  intro v' w' hr hg hp;have far':∀y n f,Rd .u8 w y n f->(0<n->y.ownBlock≠v.ownBlock)->(0<n->y.ownBlock≠v'.ownBlock):=by
   intro y n f hy gW hn e2;obtain⟨b,hb,hlt⟩:=hy.in hn;rcases hp with hp | hp
   ·exact gW hn (e2.trans hp)
   ·have:=hp b (by rw[<-e2,hb]);omega
  refine⟨fun j=>if j<m then us j else QD (j - m),by rw[<-hlist];exact hr,fun j hj=>?_⟩;by_cases h:j<m
  ·simp only[kM,nL,if_pos h];exact⟨(hel j h).1.grown hg (hel j h).2,far' _ _ _ (hel j h).1 (hel j h).2⟩
  ·simp only[kM,nL,if_neg h];obtain⟨b,of,_,_,hc⟩:=l4 aH;have h2:=(hc (j - m) aH).2;exact⟨h2.grown hg (Pd (j - m) aH),far' _ _ _ h2 (Pd (j - m) aH)⟩
 by_cases hm2:m2=0
 ·subst hm2;have hr0:(Builtin.append_ #[t,t] o.type #[v,.slice ad 0 c]).run P w=.ok v w:=by
   cases ad with
   | none=>
    rcases hrow.2 with⟨rfl,_⟩ | ⟨gg,cap,cur,rfl,hb,hg,hn,hc,hs',ht⟩
    ·simp[Builtin.append_,run_underlying h1,sizeOf,typeInfo,hi,Builtin.lenOf,Builtin.firstCells]
    ·simp[Builtin.append_,run_underlying h1,sizeOf,typeInfo,hi,Builtin.lenOf,Builtin.firstCells,hn,storeCells]
   | some p=>
    rcases hrow.2 with⟨rfl,_⟩ | ⟨gg,cap,cur,rfl,hb,hg,hn,hc,hs',ht⟩
    ·simp[Builtin.append_,run_underlying h1,sizeOf,typeInfo,hi,Builtin.lenOf,Builtin.firstCells,loadCells,loadCellsFrom]
    ·simp[Builtin.append_,run_underlying h1,sizeOf,typeInfo,hi,Builtin.lenOf,Builtin.firstCells,loadCells,loadCellsFrom,hn,storeCells]
  unfold Oper.wp execOp;simp only[hop,resolve,invoke,builtin,uV,wL,vS,vT,List.map_cons,List.map_nil,hs,hx,hr0];refine hK v w (fin v w (by simpa using hrow) (World.grownBy.refl _ _) (.inl rfl)) (World.grownBy.refl _ _) (fun b hb=>(World.ownsRow.lt hrow b hb).1) (.inl rfl)
 ·obtain⟨b,of,rfl,_,hc⟩:=l4 aH;have hnews:∀j y,((List.range m2).map QD)[j]? =some y->w.cell? ((⟨b,of,none⟩:Addr).add j)=some y:=by
   intro j y hy;have hj:j<m2:=by
    have:=(List.getElem?_eq_some_iff.1 hy).1
    simpa using this
   rw[addr_add,(hc j hj).1,←hy];simp[hj]
  have hone:∀y ∈ (List.range m2).map QD,y.oneCell'=true:=by
   intro y hy;obtain⟨j,hj,rfl⟩:=List.mem_map.1 hy;obtain⟨a',c',he,_⟩:=(hc j (List.mem_range.1 hj)).2;rw[he];rfl
  obtain⟨v',w',hr,h2,h3,_⟩:=run_append_own w base t o.type e i (.slice none 0 0) 1 bytes h1 hi hz0 hz1 hz2 rfl aM v m ((List.range m).map us) hrow ⟨b,of,none⟩ m2 c ((List.range m2).map QD) aR hnews hone (by unfold maxLen;omega) b2 b4;have hp:=qK w base t o.type e i (.slice none 0 0) 1 bytes h1 hi hz0 hz1 hz2 rfl aM v m ((List.range m).map us) hrow ⟨b,of,none⟩ m2 c ((List.range m2).map QD) aR hnews hone (by unfold maxLen;omega) b2 v' w' hr;unfold Oper.wp execOp;simp only[hop,resolve,invoke,builtin,uV,wL,vS,vT,List.map_cons,List.map_nil,hs,hx,hr];exact hK v' w' (fin v' w' h2 h3 hp) h3 (fun b hb=>(World.ownsRow.lt h2 b hb).1) hp
end Go.bI
