/- Part 12 of EscrowComes; conditions: in each theorem. -/
import Derived.Test.YtpcjekgfnfjbpaaGreatPkEC4
import Derived.Deep.MidRow
import Derived.Deep.Upon
import Derived.Laws.IdiomCopy
set_option linter.unusedVariables false
set_option linter.unusedSimpArgs false
namespace Go.bI
open Go.RowKit
def lX (w:World) (g:Nat) (e:TypeId) (m:Nat):Prop:=∃cur,w.heap[g]? =some (.cells cur e (0,0))/\cur.size=m
variable {w w' : World} {g m : Nat} {e : TypeId} {F : Nat -> Prop}
theorem lX.lt (h:lX w g e m):g<w.heap.size:=by obtain⟨_,h,_⟩:=h;exact(Array.getElem?_eq_some_iff.1 h).1
theorem lX.free (h:lX w g e m) (i:Nat):w.frozen? ⟨g,i,none⟩=false:=by obtain⟨cur,h,_⟩:=h;exact frozen_of_row w g i cur e h
theorem lX.heap (h:lX w g e m) (hb:w'.heap[g]? =w.heap[g]?):lX w' g e m:=by obtain⟨cur,h,h2⟩:=h;exact⟨cur,hb.trans h,h2⟩
theorem lX.new (w:World) (cs:Array Value) (e:TypeId):lX (w.alloc (.cells cs e)) w.heap.size e cs.size:=⟨cs,heap_alloc_new w _,rfl⟩
theorem lX.setCell (h:lX w g e m) (p:Addr) (hp:p.spot=none) (v:Value):lX (w.setCell p v) g e m:=by
 obtain⟨b,o,sp⟩:=p;simp only at hp;subst hp;by_cases hb:g=b
 ·subst hb;obtain⟨cur,h,h2⟩:=h;exact⟨cur.setIfInBounds o v,heap_setCell_same w g o cur e v h,by simp[h2]⟩
 ·exact h.heap (heap_setCell_other w ⟨b,o,none⟩ g v hb)
theorem lX.UF (h:lX w g e m) (i:Nat) (hi:i<m):(w.cell? ⟨g,i,none⟩).isSome=true:=by
 obtain⟨cur,h,rfl⟩:=h;rw[cell_of_row w g i cur e (0,0) h];simp[hi]
def iA (e:TypeId) (c:Nat) (w:World) (v:Value) (n:Nat) (q:Nat->Nat->Value):Prop:=
 (v=.slice none 0 0/\n=0)\/∃g cap,v=.slice (some ⟨g,0,none⟩) n cap/\lX w g e (cap * c)/\n<=cap/\cap<=maxLen/\∀j,j<n->∀i,i<c->w.cell? ⟨g,j * c+i,none⟩=some (q j i)
variable {c n : Nat} {v : Value} {q : Nat -> Nat -> Value}
theorem iA.nil (e:TypeId) (c:Nat) (w:World) (q:Nat->Nat->Value):iA e c w (.slice none 0 0) 0 q:=.inl ⟨rfl,rfl⟩
theorem iA.lt (h:iA e c w v n q):∀b,v.ownBlock=some b->b<w.heap.size:=by
 intro b hb;rcases h with⟨rfl,_⟩ | ⟨g,cap,rfl,h1,_⟩
 ·cases hb
 ·cases hb;exact h1.lt
theorem iA.heap (h:iA e c w v n q) (hb:∀b,v.ownBlock=some b->w'.heap[b]? =w.heap[b]?):iA e c w' v n q:=by
 rcases h with h | ⟨g,cap,rfl,h1,h2,h3,h4⟩
 ·exact .inl h
 ·have:=hb g rfl;exact .inr ⟨g,cap,rfl,h1.heap this,h2,h3,fun j hj i hi=>(World.cell?_of_block this).trans (h4 j hj i hi)⟩
theorem iA.gL (h:iA e c w v n q) (hg:fV F w w') (hn:∀b,v.ownBlock=some b->¬ F b):iA e c w' v n q:=h.heap fun b hb=>hg.block b (h.lt b hb) (hn b hb)
theorem iA.below (h:iA e c w v n q) (hb:Below w.heap.size w w'):iA e c w' v n q:=h.heap fun b hb'=>hb.block b (h.lt b hb')
theorem iA.alloc (h:iA e c w v n q) (o:Obj):iA e c (w.alloc o) v n q:=h.below ((bT _ _).alloc (bH _) _)
theorem iA.congr {q':Nat->Nat->Value} (h:iA e c w v n q) (hq:∀j,j<n->∀i,i<c->q j i=q' j i):iA e c w v n q':=by
 rcases h with h | ⟨g,cap,rfl,h1,h2,h3,h4⟩
 ·exact .inl h
 ·exact .inr ⟨g,cap,rfl,h1,h2,h3,fun j hj i hi=>by rw[h4 j hj i hi,hq j hj i hi]⟩
theorem iA.form (h:iA e c w v n q) (hn:0<n):∃g cap,v=.slice (some ⟨g,0,none⟩) n cap/\lX w g e (cap * c)/\n<=cap/\cap<=9223372036854775807/\∀j,j<n->∀i,i<c->w.cell? ⟨g,j * c+i,none⟩=some (q j i):=by
 rcases h with⟨_,rfl⟩ | ⟨g,cap,rfl,h1,h2,h3,h4⟩
 ·omega
 ·unfold maxLen at h3;exact⟨g,cap,rfl,h1,h2,by omega,h4⟩
theorem iA.slice (h:iA e c w v n q):∃a cap,v=.slice a n cap/\n<=cap/\cap<=9223372036854775807:=by
 rcases h with⟨rfl,rfl⟩ | ⟨g,cap,rfl,h1,h2,h3,h4⟩
 ·exact⟨_,_,rfl,bH _,by omega⟩
 ·unfold maxLen at h3;exact⟨_,_,rfl,h2,by omega⟩
theorem iA.new (w:World) (e:TypeId) (c:Nat) {cs:Array Value} {n:Nat} {q:Nat->Nat->Value} (hn:n<=maxLen) (hs:cs.size=n * c) (hc:∀j,j<n->∀i,i<c->cs[j * c+i]? =some (q j i)):
  iA e c (w.alloc (.cells cs e)) (.slice (some ⟨w.heap.size,0,none⟩) n n) n q:=
 .inr ⟨_,n,rfl,by rw[<-hs];exact lX.new w cs e,bH _,hn,fun j hj i hi=>by rw[cell_of_row _ _ _ cs e (0,0) (heap_alloc_new w _),hc j hj i hi]⟩
theorem iA.owns (h:iA e c w v n q) (hc:0<c):∃xs,w.ownsRow 0 e c v n xs/\∀j,j<n->∀i,i<c->xs[j * c+i]? =some (q j i):=by
 rcases h with⟨rfl,rfl⟩ | ⟨g,cap,rfl,⟨cur,h1,h1'⟩,h2,h3,h4⟩
 ·exact⟨[],World.ownsRow_nil _ _ _ _,fun j hj=>by omega⟩
 ·have hle:n * c<=cap * c:=Nat.mul_le_mul_right c h2;refine⟨cur.toList.take (n * c),⟨by simp[h1',Nat.min_eq_left hle],.inr ⟨g,cap,cur,rfl,jm _,h1,h2,h3,h1',rfl⟩⟩,fun j hj i hi=>?_⟩;have hlt:j * c+i<n * c:=by
   have h5:(j+1) * c<=n * c:=Nat.mul_le_mul_right c hj;rw[Nat.succ_mul] at h5;omega
  have h6:=h4 j hj i hi;rw[cell_of_row w g _ cur e (0,0) h1] at h6;rw[List.getElem?_take,if_pos hlt]
  simpa using h6
theorem iA.Rc {xs:List Value} (h:w.ownsRow 0 e c v n xs) (hx:∀j,j<n->∀i,i<c->xs[j * c+i]? =some (q j i)):iA e c w v n q:=by
 rcases h.2 with⟨rfl,rfl⟩ | ⟨g,cap,cur,rfl,_,h1,h2,h3,h4,h5⟩
 ·exact .inl ⟨rfl,rfl⟩
 ·refine .inr ⟨g,cap,rfl,⟨cur,h1,h4⟩,h2,h3,fun j hj i hi=>?_⟩;have hlt:j * c+i<n * c:=by
   have h5:(j+1) * c<=n * c:=Nat.mul_le_mul_right c hj;rw[Nat.succ_mul] at h5;omega
  rw[cell_of_row w g _ cur e (0,0) h1];have h6:=hx j hj i hi;rw[<-h5,List.getElem?_take,if_pos hlt] at h6
  simpa using h6
def nY (n:Nat) (q y:Nat->Nat->Value):Nat->Nat->Value:=fun j=>if j<n then q j else y (j - n)
theorem uU {n j:Nat} {q y:Nat->Nat->Value} (h:j<n):nY n q y j=q j:=if_pos h
theorem RO {n j:Nat} {q y:Nat->Nat->Value}:nY n q y (n+j)=y j:=by unfold nY;rw[if_neg aH,Vi]
theorem yw {n:Nat} {q y:Nat->Nat->Value}:nY n q y n=y 0:=RO (j:=0)
theorem Gg (b o i:Nat):(⟨b,o,none⟩:Addr).add i=⟨b,o+i,none⟩:=by unfold Addr.add;split<;> simp_all
theorem iA.append {P:Program} {t ty:TypeId} {bytes:Nat} {z:Value} (h:iA e c w v n q) (hc:0<c) (h1:P.underlying t=some (.slice e)) (hinfo:(P.info? e).map (fun i=>(i.zero,i.size,i.bytes))=some (some z,c,bytes)) (hz:z.cells.size=c)
  (b o cp m:Nat) (y:Nat->Nat->Value) (hy:∀j,j<m->∀i,i<c->w.cell? ⟨b,o+(j * c+i),none⟩=some (y j i)/\(y j i).oneCell'=true)
  (h63:n+m<=maxLen) (hb:(n+m) * bytes<=140737488355328):
  ∃v' w',(Builtin.append_ #[t,t] ty #[v,.slice (some ⟨b,o,none⟩) m cp]).run P w=.ok v' w'/\iA e c w' v' (n+m) (nY n q y)/\w.grownBy w' v.ownBlock/\Placed w v v':=by
 obtain⟨i0,hi,hz0,hz1,hz2⟩:=info_parts hinfo;obtain⟨xs,cK,hxs⟩:=h.owns hc;have hdiv:∀k,k<m * c->k / c<m/\k % c<c/\k / c * c+k % c=k:=fun k hk=>⟨by rw[Nat.div_lt_iff_lt_mul hc];exact hk,Nat.mod_lt _ hc,by rw[Nat.mul_comm];exact Nat.div_add_mod k c⟩
 let news:List Value:=(List.range (m * c)).map fun k=>y (k / c) (k % c)
 have hl:news.length=m * c:=by simp[news]
 have hget:∀j,j<m->∀i,i<c->news[j * c+i]? =some (y j i):=by
  intro j hj i hi;have h5:(j+1) * c<=m * c:=Nat.mul_le_mul_right c hj;rw[Nat.succ_mul] at h5;have e1:(j * c+i) / c=j:=by rw[Nat.mul_comm,Nat.mul_add_div hc,Nat.div_eq_of_lt hi,Nat.add_zero]
  have e2:(j * c+i) % c=i:=by rw[Nat.mul_comm,Nat.mul_add_mod,Nat.mod_eq_of_lt hi]
  simp only[news,List.getElem?_map];rw[List.getElem?_range aH,Option.map_some,e1,e2]
 have hn:∀j u,news[j]? =some u->w.cell? ((⟨b,o,none⟩:Addr).add j)=some u:=by
  intro j u hu;have hj:j<m * c:=by
   have:=(List.getElem?_eq_some_iff.1 hu).1
   rwa [hl] at this
  obtain⟨d1,d2,d3⟩:=hdiv j hj;have h6:=hget _ d1 _ d2;rw[d3] at h6;rw[hu] at h6;have h7:=(hy _ d1 _ d2).1;rw[d3] at h7;rw[Gg,h7,h6]
 have h1':∀u ∈ news,u.oneCell'=true:=by
  intro u hu;simp only[news,List.mem_map,Zqa] at hu;obtain⟨k,hk,rfl⟩:=hu;obtain⟨d1,d2,d3⟩:=hdiv k hk;exact(hy _ d1 _ d2).2
 obtain⟨v',w',hr,r1,r2,_⟩:=run_append_own w 0 t ty e i0 z c bytes h1 hi hz0 hz1 hz2 hz hc v n xs cK ⟨b,o,none⟩ m cp news hl hn h1' h63 hb (jm _);have hp:=qK w 0 t ty e i0 z c bytes h1 hi hz0 hz1 hz2 hz hc v n xs cK ⟨b,o,none⟩ m cp news hl hn h1' h63 hb v' w' hr;refine⟨v',w',hr,.Rc r1 fun j hj i hi=>?_,r2,hp⟩;have hx:=cK.1;by_cases hjn:j<n
 ·rw[uU hjn,Jh]
  ·exact hxs j hjn i hi
  ·have h5:(j+1) * c<=n * c:=Nat.mul_le_mul_right c hjn;rw[Nat.succ_mul] at h5;omega
 ·obtain⟨k,rfl⟩:∃k,j=n+k:=⟨j - n,by omega⟩
  rw[RO,Nat.add_mul,Nat.add_assoc,Ji aH,hx,Vi];exact hget k aH i hi
theorem iA.set {cap:Nat} (h:iA e c w (.slice (some ⟨g,0,none⟩) n cap) n q) (j i:Nat) (hj:j<n) (hi:i<c) (x:Value):
  iA e c (w.setCell ⟨g,j * c+i,none⟩ x) (.slice (some ⟨g,0,none⟩) n cap) n (fun j' i'=>if j'=j/\i'=i then x else q j' i'):=by
 rcases h with⟨h,_⟩ | ⟨g',cap',he,h1,h2,h3,h4⟩
 ·cases h
 ·simp only[VQ,Zqk,Addr.mk.injEq,and_true,true_and] at he;obtain⟨rfl,rfl⟩:=he;refine .inr ⟨g,cap,rfl,h1.setCell _ rfl _,h2,h3,fun j' hj' i' hi'=>?_⟩;have hs:(w.cell? ⟨g,j * c+i,none⟩).isSome=true:=by rw[h4 j hj i hi];rfl
  dsimp only
  by_cases e:j'=j/\i'=i
  ·obtain⟨rfl,rfl⟩:=e;rw[if_pos ⟨rfl,rfl⟩];have:=World.cell?_setCells_in g [x] (j' * c+i') w (fun k hk=>by
    simp only[List.length_cons,List.length_nil] at hk;obtain rfl:k=0:=by omega
    exact hs) 0 aR
   simp only[List.getElem_cons_zero,Nat.add_zero] at this;exact this
  ·rw[if_neg e];have gW:j' * c+i'≠j * c+i:=by
    intro e2
    apply e
    have a1:(j' * c+i') / c=j':=by rw[Nat.mul_comm,Nat.mul_add_div aH,Nat.div_eq_of_lt hi',Nat.add_zero]
    have a2:(j * c+i) / c=j:=by rw[Nat.mul_comm,Nat.mul_add_div aH,Nat.div_eq_of_lt hi,Nat.add_zero]
    have a3:j'=j:=by rw[<-a1,←a2,e2]
    subst a3;exact⟨rfl,by omega⟩
   have:=World.cell?_setCells_out g [x] (j * c+i) w ⟨g,j' * c+i',none⟩ (fun _ _=>by simp only[List.length_cons,List.length_nil];omega);rw[<-h4 j' hj' i' hi',←this]
   rfl
end Go.bI
