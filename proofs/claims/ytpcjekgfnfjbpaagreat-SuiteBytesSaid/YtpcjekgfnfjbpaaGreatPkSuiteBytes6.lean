/- Part 6 of SuiteBytes; conditions: in each theorem. -/
import Derived.Test.YtpcjekgfnfjbpaaGreatPkSuiteBytes5
import Derived.Great.BuildSlice
set_option linter.unusedVariables false
set_option linter.unusedSimpArgs false
namespace Go.bC
open Go.RowKit
def fq (lens:Nat->Nat):Nat->Nat
 | 0=>0
 | j+1=>fq lens j+lens j
theorem yw (lens:Nat->Nat) {i j:Nat} (h:i<=j):fq lens i<=fq lens j:=by
 induction j with
 | zero=>(obtain rfl:i=0:=by omega);exact bB _
 | succ j ih=>
  by_cases e:i=j+1
  ·subst e;exact bB _
  ·have:=ih aH;rw[fq];omega
def oq (w:World) (v:Value) (m:Nat) (lens:Nat->Nat) (g:Nat->Nat->Int):Prop:=
 ∃a c,v=.slice a m c/\m<=c/\c<=9223372036854775807/\(0<m->∃b o,a=some ⟨b,o,none⟩/\b<w.heap.size/\∀j,j<m->∃u,w.cell? ⟨b,o+j,none⟩=some u/\Rd .u8 w u (lens j) (g j))
theorem oq.below {w w':World} {v:Value} {m:Nat} {lens:Nat->Nat} {g:Nat->Nat->Int} (h:oq w v m lens g) (hb:Below w.heap.size w w'):oq w' v m lens g:=by
 obtain⟨a,c,rfl,h1,h2,h3⟩:=h;refine⟨a,c,rfl,h1,h2,fun hm=>?_⟩;obtain⟨b,o,rfl,hlt,hc⟩:=h3 hm;have:=hb.size;refine⟨b,o,rfl,by omega,fun j hj=>?_⟩;obtain⟨u,hu,hr⟩:=hc j hj;exact⟨u,(hb.cell (p:=⟨b,o+j,none⟩) hlt).trans hu,hr.below hb⟩
theorem oq.nil (w:World) (lens:Nat->Nat) (g:Nat->Nat->Int):oq w (.slice none 0 0) 0 lens g:=
 ⟨none,0,rfl,bB _,by omega,fun h=>by omega⟩
theorem oq.new {w:World} {T:TypeId} {cs:Array Value} {m:Nat} {lens:Nat->Nat} {g:Nat->Nat->Int} (hm:m<=9223372036854775807) (hc:∀j,j<m->∃u,cs[j]? =some u/\Rd .u8 w u (lens j) (g j)):
  oq (w.alloc (.cells cs T)) (.slice (some ⟨w.heap.size,0,none⟩) m m) m lens g:=by
 refine⟨_,_,rfl,bB _,hm,fun _=>⟨_,0,rfl,by simp,fun j hj=>?_⟩⟩;obtain⟨u,hu,hr⟩:=hc j hj;exact⟨u,by rw[oD,cell_of_row _ _ _ cs T (0,0) (heap_alloc_new w _)];exact hu,hr.below ((bT _ _).alloc (bB _) _)⟩
section
variable {P : Program} {a : Act} {w : World} {o : Oper}
theorem kI {S:Value->World->Prop} {Q:Exit->Act->World->Prop} (T e:TypeId) (n:Nat) (parts:Array (Nat × Operand)) (vs:List Value) (ho:o.op=.buildSlice T n parts)
  (hu:P.underlying T=some (.slice e)) (fD:(P.info? e).map (·.size)=some 1) (hz:((P.info? e).bind (·.zero)).isSome=true) (hn:vs.length=n) (hpos:0<n) (hsmall:n<=2 ^ 24)
  (hone:∀v ∈ vs,v.cells=#[v]) (hparts:(parts.map fun(i,x)=>(i,a.eval x)).toList=(vs.zipIdx 0).map fun x=>(x.2,x.1)) (hd:o.dst≠none)
  (hS:S (.slice (some ⟨w.heap.size,0,none⟩) n n) (w.alloc (.cells vs.toArray e))):
  o.wp P a w (fun a' w'=> ∃v,a'=a.put o.dst v/\(o.dst=none->v=undef)/\S v w'/\Below w.heap.size w w') Q:=by
 subst hn
 cases hie:P.info? e with
 | none=>simp[hie] at fD
 | some ie=>
  simp only[hie,Option.map_some,CO,Option.bind_some] at fD hz;obtain⟨z,hzz⟩:=Option.isSome_iff_exists.1 hz;refine wp_buildSlice T e vs.length parts ho vs.toArray ie z hu hie hzz (by rw[fD];omega) (by rw[fD];omega) ?_ ⟨_,rfl,fun h=>absurd h hd,hS,(bT _ _).alloc (bB _) _⟩;rw[hparts,fD];exact Great.fill_flat _ _ hone aR
theorem eY {T:TypeId} {x:Operand} {lo hi mx:Option Operand} {v u:Value} (ho:o.op=.slice T x lo hi mx) (hx:a.eval x=v)
  (h:(Instr.sliceAt T v (lo.map a.eval) (hi.map a.eval) (mx.map a.eval)).run P w=.ok u w):(execOp a.eval o).run P w=.ok (.value u) w:=by
 unfold execOp;simp only[ho,hx,uD,h,vG,xI]
theorem Rd.head {P:Program} {t e:TypeId} {k:IntKind} {bytes:Nat} (ht:P.underlying t=some (.slice e)) (hinfo:(P.info? e).map (fun i=>(i.zero,i.size,i.bytes))=some (some (.int k 0),1,bytes))
  (a:Option Addr) (n c hi:Nat) (h2:hi<=n) (h3:n<=c):
  (∀w,(Instr.sliceAt t (.slice a n c) none (some (.int .i64 (hi:Int))) none).run P w=.ok (.slice a hi c) w)/\
   ∀(w:World) (f:Nat->Int),Rd k w (.slice a n c) n f->Rd k w (.slice a hi c) hi f:=by
 have hel:=Ic ht;have ht':P.underlying t=some (.slice (P.elem t)):=by rw[hel];exact ht
 refine⟨fun w=>?_,fun w f hr=>?_⟩
 ·rw[run_sliceAt_slice w t _ _ _ _ ht',run_slice_h w t a n c ht' .i64 hi aH aH,hel,lN hinfo];simp[Result.andThen,sliced];intro hc
  cases a with
  | none=>rfl
  | some x=>cases x;simp[Addr.add]
 ·obtain⟨a0,c0,he,l1,l2,l3,l4⟩:=hr;simp only[DV,true_and] at he;obtain⟨rfl,rfl⟩:=he;refine⟨_,_,rfl,by omega,l2,l3,fun hm=>?_⟩;obtain⟨b,o,rfl,hlt,hcell⟩:=l4 aH;exact⟨b,o,rfl,hlt,fun i hi=>hcell i aH⟩
end
theorem uz {f:Nat->Int} {n:Nat}:(∀j,j<1->∀x,x<(fun _=>n:Nat->Nat) j->f (fq (fun _=>n) j+x)=(fun _=>f:Nat->Nat->Int) j x)/\fq (fun _=>n) 1=n:=by
 constructor
 ·intro j hj x hx;obtain rfl:j=0:=by omega
  simp[fq]
 ·simp[fq]
theorem new1 {w w':World} {v:Value} {n:Nat} {f:Nat->Int} {T:TypeId} (h:Rd .u8 w v n f) (hb:Below w.heap.size w w'):oq (w'.alloc (.cells [v].toArray T)) (.slice (some ⟨w'.heap.size,0,none⟩) 1 1) 1 (fun _=>n) (fun _=>f):=
 oq.new aN fun j hj=>⟨v,by(obtain rfl:j=0:=by omega);rfl,h.below hb⟩
def fO (n:Nat) (f g:Nat->Int) (i:Nat):Int:=if i<n then f i else g (i - n)
theorem lV {n i:Nat} {f g:Nat->Int} (h:i<n):fO n f g i=f i:=if_pos h
theorem jQ {n i:Nat} {f g:Nat->Int}:fO n f g (n+i)=g i:=by unfold fO;rw[if_neg aH,WQ]
theorem fU {n m:Nat} {f g:Nat->Int} (hf:∀i,i<n->0<=f i/\f i<256) (hg:∀i,i<m->0<=g i/\g i<256):∀i,i<n+m->0<=fO n f g i/\fO n f g i<256:=by
 intro i hi;unfold fO
 split
 ·exact hf i aH
 ·exact hg _ aH
theorem Np {n m:Nat} {f g f' g':Nat->Int} (hf:∀i,i<n->f i=f' i) (hg:∀i,i<m->g i=g' i):∀i,i<n+m->fO n f g i=fO n f' g' i:=by
 intro i hi;unfold fO
 split
 ·exact hf i aH
 ·exact hg _ aH
def iV (m:Nat) (l1 l2:Nat->Nat) (j:Nat):Nat:=if j<m then l1 j else l2 (j - m)
def jP (m:Nat) (g1 g2:Nat->Nat->Int) (j:Nat):Nat->Int:=if j<m then g1 j else g2 (j - m)
theorem zi (m:Nat) (l1 l2:Nat->Nat):∀j,j<=m->fq (iV m l1 l2) j=fq l1 j:=by
 intro j
 induction j with
 | zero=>intro _;rfl
 | succ j ih=>intro h;rw[fq,fq,ih aH];unfold iV;rw[if_pos aH]
theorem mo (m:Nat) (l1 l2:Nat->Nat):∀j,fq (iV m l1 l2) (m+j)=fq l1 m+fq l2 j:=by
 intro j
 induction j with
 | zero=>exact zi m l1 l2 m (bB _)
 | succ j ih=>rw[<-Nat.add_assoc,fq,fq,ih];unfold iV;rw[if_neg aH,WQ];omega
theorem VF {m m2:Nat} {l1 l2:Nat->Nat} {g1 g2:Nat->Nat->Int} {F:Nat->Int} (h1:∀j,j<m->∀i,i<l1 j->F (fq l1 j+i)=g1 j i) (h2:∀j,j<m2->∀i,i<l2 j->F (fq l1 m+(fq l2 j+i))=g2 j i):
  ∀j,j<m+m2->∀i,i<iV m l1 l2 j->F (fq (iV m l1 l2) j+i)=jP m g1 g2 j i:=by
 intro j hj i hi;unfold iV at hi;unfold jP;by_cases h:j<m
 ·rw[if_pos h] at hi ⊢;rw[zi m l1 l2 j aH];exact h1 j h i hi
 ·rw[if_neg h] at hi ⊢;obtain⟨q,rfl⟩:∃q,j=m+q:=⟨j - m,by omega⟩
  rw[WQ] at hi ⊢;rw[mo,Nat.add_assoc];exact h2 q aH i hi
theorem lI {m m2:Nat} {l1 l2:Nat->Nat} {g1 g2:Nat->Nat->Int} {F1 F2:Nat->Int} (h1:∀j,j<m->∀i,i<l1 j->F1 (fq l1 j+i)=g1 j i) (h2:∀j,j<m2->∀i,i<l2 j->F2 (fq l2 j+i)=g2 j i):
  ∀j,j<m+m2->∀i,i<iV m l1 l2 j->fO (fq l1 m) F1 F2 (fq (iV m l1 l2) j+i)=jP m g1 g2 j i:=by
 refine VF (fun j hj i hi=>?_) (fun j hj i hi=>?_)
 ·have:=yw l1 (show j+1<=m by omega);rw[fq] at this;rw[lV aH];exact h1 j hj i hi
 ·rw[jQ];exact h2 j hj i hi
def Cu (w:World) (v:Value) (m:Nat) (us:Nat->Value) (lens:Nat->Nat) (g:Nat->Nat->Int):Prop:=
 ∃a c,v=.slice a m c/\m<=c/\c<=9223372036854775807/\(a=none->m=0)/\(0<m->∃b o,a=some ⟨b,o,none⟩/\b<w.heap.size/\∀j,j<m->w.cell? ⟨b,o+j,none⟩=some (us j)/\Rd .u8 w (us j) (lens j) (g j))
theorem oq.aeL {w:World} {v:Value} {m:Nat} {lens:Nat->Nat} {g:Nat->Nat->Int} (h:oq w v m lens g):∃us,Cu w v m us lens g:=by
 obtain⟨a,c,rfl,h1,h2,h3⟩:=h;by_cases hm:0<m
 ·obtain⟨b,o,rfl,hb,hc⟩:=h3 hm;refine⟨fun j=>((w.cell? ⟨b,o+j,none⟩).getD undef),_,_,rfl,h1,h2,fun e=>(by cases e),fun _=>⟨b,o,rfl,hb,fun j hj=>?_⟩⟩;obtain⟨u,hu,hr⟩:=hc j hj;have e1:((w.cell? ⟨b,o+j,none⟩).getD undef)=u:=by rw[hu];rfl
  exact⟨by show _=some ((w.cell? ⟨b,o+j,none⟩).getD undef);rw[e1,hu],by show Rd .u8 w ((w.cell? ⟨b,o+j,none⟩).getD undef) _ _;rw[e1];exact hr⟩
 ·exact⟨fun _=>undef,_,_,rfl,h1,h2,fun _=>by omega,fun h=>absurd h hm⟩
theorem Rd.in {k:IntKind} {w:World} {v:Value} {n:Nat} {f:Nat->Int} (h:Rd k w v n f) (hn:0<n):∃b,v.ownBlock=some b/\b<w.heap.size:=by
 obtain⟨a,c,rfl,_,_,_,h4⟩:=h;obtain⟨b,o,rfl,hb,_⟩:=h4 hn;exact⟨b,rfl,hb⟩
theorem Rd.grown {k:IntKind} {w w':World} {v:Value} {n:Nat} {f:Nat->Int} {row:Option Nat} (h:Rd k w v n f) (hg:w.grownBy w' row) (gB:0<n->v.ownBlock≠row):Rd k w' v n f:=by
 obtain⟨a,c,rfl,h1,h2,h3,h4⟩:=h;refine⟨a,c,rfl,h1,h2,h3,fun hn=>?_⟩;obtain⟨b,o,rfl,hlt,hc⟩:=h4 hn;have:=hg.size;exact⟨b,o,rfl,by omega,fun i hi=>(World.cell?_of_block (hg.block b hlt (gB hn))).trans (hc i hi)⟩
theorem Cu.below {w w':World} {v:Value} {m:Nat} {us:Nat->Value} {lens:Nat->Nat} {g:Nat->Nat->Int} (h:Cu w v m us lens g) (hb:Below w.heap.size w w'):Cu w' v m us lens g:=by
 obtain⟨a,c,rfl,h1,h2,h3,h4⟩:=h;refine⟨a,c,rfl,h1,h2,h3,fun hm=>?_⟩;obtain⟨b,o,rfl,hlt,hc⟩:=h4 hm;have:=hb.size;exact⟨b,o,rfl,by omega,fun j hj=>⟨(hb.cell (p:=⟨b,o+j,none⟩) hlt).trans (hc j hj).1,(hc j hj).2.below hb⟩⟩
theorem Cu.far {w:World} {v u:Value} {m:Nat} {us:Nat->Value} {lens:Nat->Nat} {g:Nat->Nat->Int} (h:Cu w v m us lens g) (hu:∀b,u.ownBlock=some b->w.heap.size<=b):∀j,j<m->0<lens j->(us j).ownBlock≠u.ownBlock:=by
 intro j hj hl e;obtain⟨a,c,rfl,h1,h2,h3,h4⟩:=h;obtain⟨b,o,rfl,hlt,hc⟩:=h4 aH;obtain⟨b',hb',hlt'⟩:=(hc j hj).2.in hl;have:=hu b' (by rw[<-e,hb']);omega
def fF (e:TypeId) (base:Nat) (w:World) (v:Value) (m:Nat) (lens:Nat->Nat) (g:Nat->Nat->Int):Prop:=
 ∃us:Nat->Value,w.ownsRow base e 1 v m ((List.range m).map us)/\∀j,j<m->Rd .u8 w (us j) (lens j) (g j)/\(0<lens j->(us j).ownBlock≠v.ownBlock)
theorem fF.lit {e:TypeId} {base:Nat} {w:World} {cs:Array Value} {m:Nat} {lens:Nat->Nat} {g:Nat->Nat->Int} (hb:base<=w.heap.size) (hm:m<=140737488355328) (hs:cs.size=m) (hc:∀j,j<m->∃u,cs[j]? =some u/\Rd .u8 w u (lens j) (g j)):
  fF e base (w.alloc (.cells cs e)) (.slice (some ⟨w.heap.size,0,none⟩) m m) m lens g:=by
 refine⟨fun j=>cs.getD j undef,?_,fun j hj=>?_⟩
 ·have:cs.toList=(List.range m).map fun j=>cs.getD j undef:=by
   apply List.ext_getElem?
   intro j;by_cases h:j<m
   ·simp[h,hs]
   ·simp[h,hs]
  rw[<-this];exact World.ownsRow_lit w cs m hb (by unfold maxLen;omega) (by simp[hs])
 ·obtain⟨u,hu,hr⟩:=hc j hj;have e1:cs.getD j undef=u:=by simp[Array.getD_eq_getD_getElem?,hu]
  simp only[e1];refine⟨hr.below ((bT _ _).alloc (bB _) _),fun hp=>?_⟩;obtain⟨b,hb',hlt⟩:=hr.in hp;rw[hb'];simp[Value.ownBlock];omega
theorem fF.aju {e:TypeId} {base:Nat} {w:World} {u:Value} {n:Nat} {f:Nat->Int} (hb:base<=w.heap.size) (h:Rd .u8 w u n f):
  fF e base (w.alloc (.cells #[u] e)) (.slice (some ⟨w.heap.size,0,none⟩) 1 1) 1 (fun _=>n) (fun _=>f):=
 fF.lit hb aN rfl fun j hj=>⟨u,by
  obtain rfl:j=0:=by omega
  rfl,h⟩
theorem fF.below {e:TypeId} {base:Nat} {w w':World} {v:Value} {m:Nat} {lens:Nat->Nat} {g:Nat->Nat->Int} (h:fF e base w v m lens g) (hb:Below w.heap.size w w'):fF e base w' v m lens g:=by
 obtain⟨us,h1,h2⟩:=h;refine⟨us,⟨h1.1,?_⟩,fun j hj=>⟨(h2 j hj).1.below hb,(h2 j hj).2⟩⟩;rcases h1.2 with hn | ⟨g,cap,cur,rfl,hb',hgg,rest⟩
 ·exact .inl hn
 ·refine .inr ⟨g,cap,cur,rfl,hb',?_,rest⟩;rw[hb.block g (Array.getElem?_eq_some_iff.1 hgg).1];exact hgg
theorem fF.txt {e:TypeId} {base:Nat} {w:World} {v:Value} {m:Nat} {lens:Nat->Nat} {g:Nat->Nat->Int} (h:fF e base w v m lens g):oq w v m lens g:=by
 obtain⟨us,h1,h2⟩:=h;rcases h1.2 with⟨rfl,hz⟩ | ⟨g',cap,cur,rfl,hb,hg,hn,hc,hs,ht⟩
 ·have hm0:m=0:=hz;subst hm0;exact oq.nil _ _ _
 ·unfold maxLen at hc;refine⟨_,_,rfl,hn,by omega,fun _=>⟨g',0,rfl,(Array.getElem?_eq_some_iff.1 hg).1,fun j hj=>⟨us j,?_,(h2 j hj).1⟩⟩⟩;rw[oD,cell_of_row w g' j cur e (0,0) hg];have hx:((List.range m).map us)[j]? =some (us j):=by simp[hj]
  rw[<-ht,List.getElem?_take] at hx
  split at hx
  ·simpa using hx
  ·cases hx
theorem Da {P:Program} {w:World} {o:Oper} {a:Act} {K:Act->World->Prop} {Q:Exit->Act->World->Prop}
  (s x:Operand) (t:TypeId) (hop:o.op=.call { callee:=.builtin .append,args:=#[s,x],argTypes:=#[t,t] })
  (base:Nat) (e:TypeId) (bytes:Nat) (h1:P.underlying t=some (.slice e)) (hinfo:(P.info? e).map (fun i=>(i.zero,i.size,i.bytes))=some (some (.slice none 0 0),1,bytes))
  (v:Value) (m:Nat) (lens:Nat->Nat) (g:Nat->Nat->Int) (bM:fF e base w v m lens g) (hs:a.eval s=v)
  (u:Value) (m2:Nat) (NZ:Nat->Value) (wV:Nat->Nat) (g2:Nat->Nat->Int) (htx:Cu w u m2 NZ wV g2) (DK:∀j,j<m2->0<wV j->(NZ j).ownBlock≠v.ownBlock) (hx:a.eval x=u)
  (b2:(m+m2) * bytes<=140737488355328) (b3:m+m2<=140737488355328) (b4:base<=w.heap.size)
  (hK:∀v' w',fF e base w' v' (m+m2) (iV m lens wV) (jP m g g2)->w.grownBy w' v.ownBlock->(∀b,v'.ownBlock=some b->base<=b)->Placed w v v'->K (a.put o.dst v') w'):
  o.wp P a w K Q:=by
 obtain⟨i,hi,hz0,hz1,hz2⟩:=info_parts hinfo;obtain⟨us,hrow,hel⟩:=bM;obtain⟨ad,c,rfl,l1,l2,l3,l4⟩:=htx;have hlist:(List.range m).map us++(List.range m2).map NZ=(List.range (m+m2)).map fun j=>if j<m then us j else NZ (j - m):=by
  rw[List.range_add,List.map_append,List.map_map]
  congr 1
  ·exact List.map_congr_left fun j hj=>by rw[if_pos (List.mem_range.1 hj)]
  ·exact List.map_congr_left fun j hj=>by simp only[Function.comp];rw[if_neg aH,WQ]
 have fin:∀v' w',w'.ownsRow base e 1 v' (m+m2) ((List.range m).map us++(List.range m2).map NZ)->w.grownBy w' v.ownBlock->Placed w v v'->fF e base w' v' (m+m2) (iV m lens wV) (jP m g g2):=by
  intro v' w' hr hg hp;have far':∀y n f,Rd .u8 w y n f->(0<n->y.ownBlock≠v.ownBlock)->(0<n->y.ownBlock≠v'.ownBlock):=by
   intro y n f hy gB hn e2;obtain⟨b,hb,hlt⟩:=hy.in hn;rcases hp with hp | hp
   ·exact gB hn (e2.trans hp)
   ·have:=hp b (by rw[<-e2,hb]);omega
  refine⟨fun j=>if j<m then us j else NZ (j - m),by rw[<-hlist];exact hr,fun j hj=>?_⟩;by_cases h:j<m
  ·simp only[iV,jP,if_pos h];exact⟨(hel j h).1.grown hg (hel j h).2,far' _ _ _ (hel j h).1 (hel j h).2⟩
  ·simp only[iV,jP,if_neg h];obtain⟨b,of,_,_,hc⟩:=l4 aH;have h2:=(hc (j - m) aH).2;exact⟨h2.grown hg (DK (j - m) aH),far' _ _ _ h2 (DK (j - m) aH)⟩
 by_cases hm2:m2=0
 ·subst hm2;have hr0:(Builtin.append_ #[t,t] o.type #[v,.slice ad 0 c]).run P w=.ok v w:=by
   cases ad with
   | none=>
    rcases hrow.2 with⟨rfl,_⟩ | ⟨gg,cap,cur,rfl,hb,hg,hn,hc,hs',ht⟩
    ·simp[Builtin.append_,run_underlying h1,sizeOf,typeInfo,hi,Builtin.lenOf,Builtin.firstCells]
    ·simp[Builtin.append_,run_underlying h1,sizeOf,typeInfo,hi,Builtin.lenOf,Builtin.firstCells,hn,storeCells]
   | some p=>
    rcases hrow.2 with⟨rfl,_⟩ | ⟨gg,cap,cur,rfl,hb,hg,hn,hc,hs',ht⟩
    ·simp[Builtin.append_,run_underlying h1,sizeOf,typeInfo,hi,Builtin.lenOf,Builtin.firstCells,loadCells,loadCellsFrom]
    ·simp[Builtin.append_,run_underlying h1,sizeOf,typeInfo,hi,Builtin.lenOf,Builtin.firstCells,loadCells,loadCellsFrom,hn,storeCells]
  unfold Oper.wp execOp;simp only[hop,resolve,invoke,builtin,uD,xI,vG,zw,List.map_cons,List.map_nil,hs,hx,hr0];refine hK v w (fin v w (by simpa using hrow) (World.grownBy.refl _ _) (.inl rfl)) (World.grownBy.refl _ _) (fun b hb=>(World.ownsRow.lt hrow b hb).1) (.inl rfl)
 ·obtain⟨b,of,rfl,_,hc⟩:=l4 aH;have hnews:∀j y,((List.range m2).map NZ)[j]? =some y->w.cell? ((⟨b,of,none⟩:Addr).add j)=some y:=by
   intro j y hy;have hj:j<m2:=by
    have:=(List.getElem?_eq_some_iff.1 hy).1
    simpa using this
   rw[addr_add,(hc j hj).1,←hy];simp[hj]
  have hone:∀y ∈ (List.range m2).map NZ,y.oneCell'=true:=by
   intro y hy;obtain⟨j,hj,rfl⟩:=List.mem_map.1 hy;obtain⟨a',c',he,_⟩:=(hc j (List.mem_range.1 hj)).2;rw[he];rfl
  obtain⟨v',w',hr,h2,h3,_⟩:=run_append_own w base t o.type e i (.slice none 0 0) 1 bytes h1 hi hz0 hz1 hz2 rfl aN v m ((List.range m).map us) hrow ⟨b,of,none⟩ m2 c ((List.range m2).map NZ) aR hnews hone (by unfold maxLen;omega) b2 b4;have hp:=lD w base t o.type e i (.slice none 0 0) 1 bytes h1 hi hz0 hz1 hz2 rfl aN v m ((List.range m).map us) hrow ⟨b,of,none⟩ m2 c ((List.range m2).map NZ) aR hnews hone (by unfold maxLen;omega) b2 v' w' hr;unfold Oper.wp execOp;simp only[hop,resolve,invoke,builtin,uD,xI,vG,zw,List.map_cons,List.map_nil,hs,hx,hr];exact hK v' w' (fin v' w' h2 h3 hp) h3 (fun b hb=>(World.ownsRow.lt h2 b hb).1) hp
end Go.bC
