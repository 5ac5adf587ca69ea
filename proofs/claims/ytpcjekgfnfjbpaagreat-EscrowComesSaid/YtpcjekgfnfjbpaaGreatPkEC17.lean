/- Part 17 of EscrowComes; conditions: in each theorem. -/
import Derived.Test.YtpcjekgfnfjbpaaGreatPkEC13
import Derived.Test.YtpcjekgfnfjbpaaGreatPkEC14
import Derived.Test.YtpcjekgfnfjbpaaGreatPkEC16
set_option linter.unusedVariables false
set_option linter.unusedSimpArgs false
namespace Go.bI
open Go.RowKit
open Go.Maps (Keyed)
section
variable {K : Type}
theorem yx {a b:ByteArray} (h:a=b):(a.toList==b.toList)=true:=by subst h;simp
theorem yA {a b:ByteArray} (h:a≠b):(a.toList==b.toList)=false:=by
 rw[<-beq_toListBytes]
 cases hq:(a==b) with
 | false=>rfl
 | true=>
  exfalso
  apply h
  cases a;cases b
  congr 1
  exact eq_of_beq hq
def lv (kv:K->Value) (L:List K):Nat->Nat->Value:=fun j _=>match L[j]? with | some x=>kv x | none=>undef
theorem lY {kv:K->Value} {L:List K} {j i:Nat} {x:K} (h:L[j]? =some x):lv kv L j i=kv x:=by unfold lv;rw[h]
theorem agd {kv:K->Value} {L:List K} {x:K} {y:Nat->Nat->Value} (hy:y 0 0=kv x):∀j,j<L.length+1->∀i,i<1->nY L.length (lv kv L) y j i=lv kv (L++ [x]) j i:=by
 intro j hj i hi;obtain rfl:i=0:=by omega
 by_cases h:j<L.length
 ·rw[uU h];unfold lv;rw[Jh h]
 ·obtain rfl:j=L.length:=by omega
  rw[yw,hy,lY (x:=x) aR]
theorem iA.mat {e:TypeId} {c n:Nat} {w:World} {v:Value} {q:Nat->Nat->Value} (h:iA e c w v n q):Ns w v n c q:=by
 rcases h with⟨rfl,rfl⟩ | ⟨g,cap,rfl,h1,h2,h3,h4⟩
 ·exact⟨none,0,rfl,bH _,by omega,fun h=>by omega⟩
 ·unfold maxLen at h3;exact⟨_,cap,rfl,h2,by omega,fun _=>⟨g,0,rfl,h1.lt,fun j hj i hi=>by rw[qY];exact h4 j hj i hi⟩⟩
theorem Ns.one {w:World} {v:Value} {n:Nat} {q:Nat->Nat->Value} (h:Ns w v n 1 q):∃a cap,v=.slice a n cap/\n<=cap/\cap<=9223372036854775807/\∀j,j<n->∃b o,a=some ⟨b,o,none⟩/\b<w.heap.size/\w.cell? ⟨b,o+j,none⟩=some (q j 0):=by
 obtain⟨a,cap,rfl,h1,h2,h3⟩:=h;refine⟨a,cap,rfl,h1,h2,fun j hj=>?_⟩;obtain⟨b,o,rfl,hb,hc⟩:=h3 aH;refine⟨b,o,rfl,hb,?_⟩;have:=hc j hj 0 aM
 rwa [show o+j * 1+0=o+j by omega] at this
theorem iA.snoc {e:TypeId} {kv:K->Value} {L:List K} {x:K} {w:World} {v:Value} {y:Nat->Nat->Value} (h:iA e 1 w v (L.length+1) (nY L.length (lv kv L) y)) (hy:y 0 0=kv x):iA e 1 w v (L++ [x]).length (lv kv (L++ [x])):=by
 rw[List.length_append,List.length_singleton];exact h.congr (agd hy)
theorem uw.gL {P:Program} {k e:TypeId} {w w':World} {b n:Nat} {key val:Nat->Value} {F:Nat->Prop} (h:uw P k e w b n key val) (hc:fV F w w') (hn:¬ F b):uw P k e w' b n key val:=h.heap (hc.block b h.lt hn)
theorem uw.vM {P:Program} {k e:TypeId} {w:World} {b n:Nat} {key val:Nat->Value} (h:uw P k e w b n key val) {t:TypeId} {m:Nat} (hr:lX w b t m):False:=by
 obtain⟨D,⟨es,clock,hb,_⟩,_⟩:=h;obtain⟨cur,hc,_⟩:=hr;rw[hb] at hc;cases hc
end
section
variable {w : World} {e : TypeId} {c n b : Nat} {v : Value} {q : Nat -> Nat -> Value}
theorem iA.rowOf (h:iA e c w v n q) (hb:v.ownBlock=some b):∃m,lX w b e m:=by
 rcases h with⟨rfl,_⟩ | ⟨g,cap,rfl,h1,_⟩
 ·cases hb
 ·cases hb;exact⟨_,h1⟩
theorem lX.type {g m m':Nat} {e e':TypeId} (h:lX w g e m) (h':lX w g e' m'):e=e':=by
 obtain⟨c,h,_⟩:=h;obtain⟨c',h',_⟩:=h';rw[h] at h';simp at h';exact h'.2
theorem iA.ig (h:iA e c w v n q) {e':TypeId} {m:Nat} (hr:lX w b e' m) (gW:e'≠e) (hb:v.ownBlock=some b):False:=by
 obtain⟨m',h'⟩:=h.rowOf hb;exact gW (hr.type h')
theorem iA.kW (h:iA e c w v n q) {P:Program} {k t:TypeId} {n':Nat} {key val:Nat->Value} (hm:uw P k t w b n' key val) (hb:v.ownBlock=some b):False:=by
 obtain⟨m',h'⟩:=h.rowOf hb;exact hm.vM h'
theorem iA.uj (h:iA e c w v n q) {e':TypeId} {c' n':Nat} {u:Value} {q':Nat->Nat->Value} (hu:iA e' c' w u n' q') (gW:e'≠e) (hb:v.ownBlock=some b) (hb':u.ownBlock=some b):False:=by
 obtain⟨m',h'⟩:=h.rowOf hb;obtain⟨m2,h2⟩:=hu.rowOf hb';exact gW (h2.type h')
end
theorem gM {P:Program} {ops:Array Oper} {rest:List Oper} {o:Oper} {a:Act} {w w0:World} {Q':Exit->Act->World->Prop} {e t:TypeId} {n:Nat} {v u:Value} {q:Nat->Nat->Value} {bytes:Nat} {z:Value} (hg:o.guard=none) (s x:Operand) (hop:o.op=.call { callee:=.builtin .append,args:=#[s,x],argTypes:=#[t,t] })
  (hs:a.eval s=v) (hw:w=w0.alloc (.cells #[u] e)) (h:iA e 1 w0 v n q) (h1:P.underlying t=some (.slice e)) (hinfo:(P.info? e).map (fun i=>(i.zero,i.size,i.bytes))=some (some z,1,bytes)) (hz:z.cells.size=1)
  (hx:a.eval x=.slice (some ⟨w0.heap.size,0,none⟩) 1 1) (hu:u.oneCell'=true)
  (h63:n+1<=maxLen) (hb:(n+1) * bytes<=140737488355328)
  (hK:∀v' w',iA e 1 w' v' (n+1) (nY n q (fun _ _=>u))->w.grownBy w' v.ownBlock->Placed w0 v v'->wpList P ops Q' rest (a.put o.dst v') w'):wpList P ops Q' (o::rest) a w:=by
 subst hw;refine rU hg s x hop hs (h.alloc _) aM h1 hinfo hz w0.heap.size 0 1 1 hx (fun _ _=>u) (fun j hj i hi=>⟨?_,hu⟩) h63 hb fun v' w' h1 h2 h3=>hK v' w' h1 h2 ?_
 ·obtain rfl:j=0:=by omega
  obtain rfl:i=0:=by omega
  rw[cell_of_row _ _ _ _ _ (0,0) (heap_alloc_new w0 _)]
  rfl
 ·rcases h3 with h3 | h3
  ·exact .inl h3
  ·exact .inr fun b hb=>by have:=h3 b hb;rw[World.size_alloc] at this;omega
theorem fV.tH {w w':World} {o:Obj} {row:Option Nat} (h:(w.alloc o).grownBy w' row):fV (fun b=>row=some b) w w':=
 (fV.of_below ((bT w.heap.size w).alloc (bH _) o) _).trans (fV.jP h fun _ hb=>hb) fun _ _ h=>h
abbrev kF (n:Nat):Value:=.int .i64 (n:Int)
structure Key (P:Program) (kT mT iT:TypeId) {K:Type} (kv:K->Value) (ok:K->Prop):Prop where
 keyed:Keyed P kT
 under:P.underlying mT=some (.map kT iT)
 int:P.underlying iT=some (.int .i64)
 zero:∀w,(zeroValue iT).run P w=.ok (.int .i64 0) w
 key:∀x,ok x->∃kl,keyOf P kT (kv x)=some kl
 inj:∀x y,kv x=kv y->x=y
 one:∀x,(kv x).oneCell'=true
section
variable {K : Type} {P : Program} {kT mT iT : TypeId} {kv : K -> Value} {ok : K -> Prop} {w w' : World} {mb : Nat} {nd : List K}
abbrev vU (P:Program) (kT iT:TypeId) (kv:K->Value) (w:World) (mb:Nat) (nd:List K):Prop:=uw P kT iT w mb nd.length (fun i=>lv kv nd i 0) kF
theorem Rh {n:Nat} (h:n<=9223372036854775807):(Lit.int .i64 (n:Int)).wf=true:=by
 simp[Lit.wf,IntKind.min,IntKind.max,IntKind.signed,IntKind.bits];omega
theorem Key.kN [DecidableEq K] (k:Key P kT mT iT kv ok) (h:vU P kT iT kv w mb nd) {x:K} (hx:x ∈ nd):(Instr.lookup mT (.map (some mb)) (kv x) true).run P w=.ok (.tuple #[kF (kQ nd x),.bool true]) w:=by
 have:=(h.Lu k.keyed k.under (k.zero w) (plainElem_int k.int aM) (kQ nd x) (qh hx)).1;rw[show lv kv nd (kQ nd x) 0=kv x from lY (jH hx)] at this;exact this
theorem Key.nJ (k:Key P kT mT iT kv ok) (h:vU P kT iT kv w mb nd) {x:K} (hok:ok x) (hx:x ∉ nd):(Instr.lookup mT (.map (some mb)) (kv x) true).run P w=.ok (.tuple #[.int .i64 0,.bool false]) w:=by
 obtain⟨kl,hk⟩:=k.key x hok;refine(h.Rj k.keyed k.under (k.zero w) (plainElem_int k.int aM) hk fun i hi e=>hx ?_).1;rw[lY (kP hi)] at e;have:=k.inj _ _ e;rw[<-this];exact List.getElem_mem hi
theorem Key.put (k:Key P kT mT iT kv ok) (h:vU P kT iT kv w mb nd) {x:K} (hok:ok x) (hx:x ∉ nd) (hn:nd.length<=1000000):∃w',(Instr.mapUpdate mT (.map (some mb)) (kv x) (kF nd.length)).run P w=.ok () w'/\vU P kT iT kv w' mb (nd++ [x])/\w.grownBy w' (some mb):=by
 obtain⟨kl,hk⟩:=k.key x hok;have hput:=h.put (key':=fun i=>lv kv (nd++ [x]) i 0) (val':=kF) k.keyed k.under (by unfold maxLen;omega) hk (plainElem_int k.int (Rh aH):plainElem (H:=Unit) P iT (kF nd.length)= _) (fun i hi e=>hx (by
  rw[lY (kP hi)] at e;have:=k.inj _ _ e;rw[<-this];exact List.getElem_mem hi)) (fun i hi=>⟨by
   show lv kv (nd++ [x]) i 0=lv kv nd i 0;unfold lv;rw[Jh hi],rfl⟩) ⟨by
   show lv kv (nd++ [x]) nd.length 0=kv x;exact lY aR,rfl⟩
 obtain⟨w',h1,h2,h3⟩:=hput;refine⟨w',h1,?_,h3⟩;show uw P kT iT w' mb (nd++ [x]).length _ kF;rw[List.length_append,List.length_singleton];exact h2
structure vC (gT:TypeId) (w:World) (p mb:Nat) (vn vo:Value) (ed:Nat):Prop where
 row:lX w p gT 4
 c0:w.cell? ⟨p,0,none⟩=some (.map (some mb))
 c1:w.cell? ⟨p,1,none⟩=some vn
 c2:w.cell? ⟨p,2,none⟩=some vo
 c3:w.cell? ⟨p,3,none⟩=some (kF ed)
theorem Qj {p i j:Nat} (h:i≠j):(⟨p,i,none⟩:Addr)≠⟨p,j,none⟩:=fun e=>h (by cases e;rfl)
section
variable {gT : TypeId} {p : Nat} {vn vo : Value} {ed : Nat} {F : Nat -> Prop}
theorem vC.gL (h:vC gT w p mb vn vo ed) (hc:fV F w w') (hn:¬ F p):vC gT w' p mb vn vo ed:=by
 have o:∀i v,w.cell? ⟨p,i,none⟩=some v->w'.cell? ⟨p,i,none⟩=some v:=fun i v hv=>by rw[hc.cell (p:=⟨p,i,none⟩) h.row.lt hn];exact hv
 exact⟨h.row.heap (hc.block p h.row.lt hn),o 0 _ h.c0,o 1 _ h.c1,o 2 _ h.c2,o 3 _ h.c3⟩
theorem vC.set1 (h:vC gT w p mb vn vo ed) (v:Value):vC gT (w.setCell ⟨p,1,none⟩ v) p mb v vo ed:=by
 have o:∀i v',1≠i->w.cell? ⟨p,i,none⟩=some v'->(w.setCell ⟨p,1,none⟩ v).cell? ⟨p,i,none⟩=some v':=fun i v hi hv=>by rw[World.cell?_setCell_other (h:=Qj hi)];exact hv
 exact⟨h.row.setCell _ rfl _,o 0 _ aM h.c0,World.cell?_setCell_same _ _ _ h.c1,o 2 _ aM h.c2,o 3 _ aM h.c3⟩
theorem vC.set2 (h:vC gT w p mb vn vo ed) (v:Value):vC gT (w.setCell ⟨p,2,none⟩ v) p mb vn v ed:=by
 have o:∀i v',2≠i->w.cell? ⟨p,i,none⟩=some v'->(w.setCell ⟨p,2,none⟩ v).cell? ⟨p,i,none⟩=some v':=fun i v hi hv=>by rw[World.cell?_setCell_other (h:=Qj hi)];exact hv
 exact⟨h.row.setCell _ rfl _,o 0 _ aM h.c0,o 1 _ aM h.c1,World.cell?_setCell_same _ _ _ h.c2,o 3 _ aM h.c3⟩
theorem vC.aoK (h:vC gT w p mb vn vo ed) (n:Nat):vC gT (w.setCell ⟨p,3,none⟩ (kF n)) p mb vn vo n:=by
 have o:∀i v',3≠i->w.cell? ⟨p,i,none⟩=some v'->(w.setCell ⟨p,3,none⟩ (kF n)).cell? ⟨p,i,none⟩=some v':=fun i v hi hv=>by rw[World.cell?_setCell_other (h:=Qj hi)];exact hv
 exact⟨h.row.setCell _ rfl _,o 0 _ aM h.c0,o 1 _ aM h.c1,o 2 _ aM h.c2,World.cell?_setCell_same _ _ _ h.c3⟩
end
def GF (p mb:Nat) (vn vo:Value) (os:List (List Nat)) (ov:Nat->Value) (b:Nat):Prop:=b=p\/b=mb\/vn.ownBlock=some b\/vo.ownBlock=some b\/∃j,j<os.length/\(ov j).ownBlock=some b
structure Qv (P:Program) (gT kT iT lT:TypeId) (kv:K->Value) (B:Nat) (w:World) (p mb:Nat) (vn vo:Value) (ov:Nat->Value) (nd:List K) (os:List (List Nat)) (ed:Nat):Prop where
 row:vC gT w p mb vn vo ed
 map:vU P kT iT kv w mb nd
 nodes:iA kT 1 w vn nd.length (lv kv nd)
 out:iA lT 1 w vo os.length (fun j _=>ov j)
 lists:∀j l,os[j]? =some l->iA iT 1 w (ov j) l.length (lv kF l)
 apart:∀i j,i<os.length->j<os.length->i≠j->∀b,(ov i).ownBlock=some b->(ov j).ownBlock≠some b
 vap:∀j,j<os.length->∀b,(ov j).ownBlock=some b->vn.ownBlock≠some b
 hi:∀b,GF p mb vn vo os ov b->B<=b
 same:nd.length=os.length
 few:nd.length<=1000000
 edf:ed<=1000000
 Ym:∀l,l ∈ os->l.length<=1000000/\∀m,m ∈ l->m<nd.length
 nodup:nd.Nodup
section
variable {gT lT : TypeId} {B p : Nat} {vn vo : Value} {ov : Nat -> Value} {os : List (List Nat)} {ed : Nat} {F : Nat -> Prop}
theorem Qv.keep (h:Qv P gT kT iT lT kv B w p mb vn vo ov nd os ed) (hc:fV F w w') (hF:∀b,GF p mb vn vo os ov b->¬ F b):Qv P gT kT iT lT kv B w' p mb vn vo ov nd os ed:=
 ⟨h.row.gL hc (hF p (.inl rfl)),h.map.gL hc (hF mb (.inr (.inl rfl))),h.nodes.gL hc fun b hb=>hF b (.inr (.inr (.inl hb))),h.out.gL hc fun b hb=>hF b (.inr (.inr (.inr (.inl hb)))),
  fun j l hj=>(h.lists j l hj).gL hc fun b hb=>hF b (.inr (.inr (.inr (.inr ⟨j,(List.getElem?_eq_some_iff.1 hj).1,hb⟩)))),h.apart,h.vap,h.hi,h.same,h.few,h.edf,h.Ym,h.nodup⟩
theorem Qv.below (h:Qv P gT kT iT lT kv B w p mb vn vo ov nd os ed) (hb:Below w.heap.size w w'):Qv P gT kT iT lT kv B w' p mb vn vo ov nd os ed:=h.keep (.of_below hb fun _=>False) (fun _ _=>id)
theorem Qv.lt (h:Qv P gT kT iT lT kv B w p mb vn vo ov nd os ed) {b:Nat} (hb:GF p mb vn vo os ov b):b<w.heap.size:=by
 rcases hb with rfl | rfl | hb | hb | ⟨j,hj,hb⟩
 ·exact h.row.row.lt
 ·exact h.map.lt
 ·exact h.nodes.lt b hb
 ·exact h.out.lt b hb
 ·exact(h.lists j _ (kP hj)).lt b hb
theorem Qv.grow {vn' VG:Value} (h:Qv P gT kT iT lT kv B w p mb vn vo ov nd os ed) (hB:B<=w.heap.size) {x:K} (hx:x ∉ nd) (hf:nd.length<1000000)
  (hr:vC gT w' p mb vn' VG ed) (hm:vU P kT iT kv w' mb (nd++ [x])) (hn:iA kT 1 w' vn' (nd++ [x]).length (lv kv (nd++ [x])))
  (ho:iA lT 1 w' VG (os.length+1) (fun j _=>if j=os.length then .slice none 0 0 else ov j)) (hc:fV (fun b=>b=p\/b=mb\/vn.ownBlock=some b\/vo.ownBlock=some b) w w')
  (pn:∀b,vn'.ownBlock=some b->vn.ownBlock=some b\/w.heap.size<=b) (po:∀b,VG.ownBlock=some b->vo.ownBlock=some b\/w.heap.size<=b)
  (hgl:gT≠iT) (hll:lT≠iT):
  Qv P gT kT iT lT kv B w' p mb vn' VG (fun j=>if j=os.length then .slice none 0 0 else ov j) (nd++ [x]) (os++ [[]]) ed:=by
 have hlist:∀j l,os[j]? =some l->iA iT 1 w' (ov j) l.length (lv kF l):=fun j l hj=>by
  have hjl:=(List.getElem?_eq_some_iff.1 hj).1;refine(h.lists j l hj).gL hc fun b hb hF=>?_;rcases hF with rfl | rfl | hF | hF
  ·exact(h.lists j l hj).ig h.row.row hgl hb
  ·exact(h.lists j l hj).kW h.map hb
  ·exact h.vap j hjl b hb hF
  ·exact(h.lists j l hj).uj h.out hll hb hF
 refine⟨hr,hm,hn,?_,fun j l hj=>?_,fun i j hi hj gW b hb hb'=>?_,fun j hj b hb hb'=>?_,fun b hb=>?_,by simp[h.same],by simp;omega,h.edf,fun l hl=>?_,?_⟩
 ·rw[List.length_append,List.length_singleton];exact ho
 ·by_cases he:j=os.length
  ·subst he;rw[Ji (bH _),Nat.sub_self] at hj;simp at hj;subst hj;rw[if_pos rfl];exact iA.nil _ _ _ _
  ·rw[if_neg he];have hl:=(List.getElem?_eq_some_iff.1 hj).1;simp at hl;rw[Jh aH] at hj;exact hlist j l hj
 ·simp at hi hj;by_cases hi':i=os.length
  ·rw[if_pos hi'] at hb;cases hb
  ·by_cases hj':j=os.length
   ·rw[if_pos hj'] at hb';cases hb'
   ·rw[if_neg hi'] at hb;rw[if_neg hj'] at hb';exact h.apart i j aH aH gW b hb hb'
 ·simp at hj;by_cases hj':j=os.length
  ·rw[if_pos hj'] at hb;cases hb
  ·rw[if_neg hj'] at hb;rcases pn b hb' with h1 | h1
   ·exact h.vap j aH b hb h1
   ·have:=h.lt (.inr (.inr (.inr (.inr ⟨j,by omega,hb⟩))));omega
 ·rcases hb with hb | hb | hb | hb | ⟨j,hj,hb⟩
  ·exact h.hi b (.inl hb)
  ·exact h.hi b (.inr (.inl hb))
  ·rcases pn b hb with h1 | h1
   ·exact h.hi b (.inr (.inr (.inl h1)))
   ·omega
  ·rcases po b hb with h1 | h1
   ·exact h.hi b (.inr (.inr (.inr (.inl h1))))
   ·omega
  ·simp at hj
   dsimp only at hb
   by_cases hj':j=os.length
   ·rw[if_pos hj'] at hb;cases hb
   ·rw[if_neg hj'] at hb;exact h.hi b (.inr (.inr (.inr (.inr ⟨j,by omega,hb⟩))))
 ·rw[List.mem_append,List.mem_singleton] at hl;rcases hl with hl | rfl
  ·refine⟨(h.Ym l hl).1,fun m hm=>?_⟩;have:=(h.Ym l hl).2 m hm;simp;omega
  ·exact⟨by simp,fun m hm=>by cases hm⟩
 ·rw[List.nodup_append];exact⟨h.nodup,by simp,fun a ha b hb=>by simp at hb;subst hb;intro e;subst e;exact hx ha⟩
theorem Qv.link {v':Value} {ed' a m:Nat} {l:List Nat} (h:Qv P gT kT iT lT kv B w p mb vn vo ov nd os ed) (hB:B<=w.heap.size) (ha:os[a]? =some l) (hm:m<nd.length) (hl:l.length<1000000) (he:ed'<=1000000)
  (hr:vC gT w' p mb vn vo ed') (ho:iA lT 1 w' vo os.length (fun j _=>if j=a then v' else ov j)) (hv:iA iT 1 w' v' (l++ [m]).length (lv kF (l++ [m])))
  (hc:fV (fun b=>b=p\/vo.ownBlock=some b\/(ov a).ownBlock=some b) w w') (pv:∀b,v'.ownBlock=some b->(ov a).ownBlock=some b\/w.heap.size<=b)
  (hgl:gT≠iT) (hll:lT≠iT) (hgk:gT≠kT) (hlk:lT≠kT):
  Qv P gT kT iT lT kv B w' p mb vn vo (fun j=>if j=a then v' else ov j) nd (os.set a (l++ [m])) ed':=by
 have hal:a<os.length:=(List.getElem?_eq_some_iff.1 ha).1;have hl0:∀b,v'.ownBlock=some b->∀j,j<os.length->j≠a->(ov j).ownBlock≠some b:=fun b hb j hj hja hb'=>by
  rcases pv b hb with h1 | h1
  ·exact h.apart j a hj hal hja b hb' h1
  ·have:=h.lt (.inr (.inr (.inr (.inr ⟨j,hj,hb'⟩))));omega
 refine⟨hr,h.map.gL hc fun hF=>?_,h.nodes.gL hc fun b hb hF=>?_,?_,fun j l' hj=>?_,fun i j hi hj gW b hb hb'=>?_,fun j hj b hb hb'=>?_,fun b hb=>?_,by simp[h.same],h.few,he,fun l' hl'=>?_,h.nodup⟩
 ·rcases hF with hF | hF | hF
  ·exact h.map.vM (hF▸h.row.row)
  ·exact h.out.kW h.map hF
  ·exact(h.lists a l ha).kW h.map hF
 ·rcases hF with rfl | hF | hF
  ·exact h.nodes.ig h.row.row hgk hb
  ·exact h.nodes.uj h.out hlk hb hF
  ·exact h.vap a hal b hF hb
 ·rw[List.length_set];exact ho
 ·by_cases hja:j=a
  ·subst hja;rw[List.getElem?_set_self hal] at hj;cases hj
   rw[if_pos rfl];exact hv
  ·rw[if_neg hja];rw[List.getElem?_set_ne (Ne.symm hja)] at hj;have hjl:=(List.getElem?_eq_some_iff.1 hj).1;refine(h.lists j l' hj).gL hc fun b hb hF=>?_;rcases hF with rfl | hF | hF
   ·exact(h.lists j l' hj).ig h.row.row hgl hb
   ·exact(h.lists j l' hj).uj h.out hll hb hF
   ·exact h.apart j a hjl hal hja b hb hF
 ·rw[List.length_set] at hi hj
  try dsimp only at hb hb'
  by_cases hia:i=a
  ·rw[if_pos hia] at hb;have hja:j≠a:=fun e=>gW (hia.trans e.symm);rw[if_neg hja] at hb';exact hl0 b hb j hj hja hb'
  ·rw[if_neg hia] at hb;by_cases hja:j=a
   ·rw[if_pos hja] at hb';exact hl0 b hb' i hi hia hb
   ·rw[if_neg hja] at hb';exact h.apart i j hi hj gW b hb hb'
 ·rw[List.length_set] at hj
  try dsimp only at hb
  by_cases hja:j=a
  ·rw[if_pos hja] at hb;rcases pv b hb with h1 | h1
   ·exact h.vap a hal b h1 hb'
   ·have:=h.lt (.inr (.inr (.inl hb')));omega
  ·rw[if_neg hja] at hb;exact h.vap j hj b hb hb'
 ·rcases hb with hb | hb | hb | hb | ⟨j,hj,hb⟩
  ·exact h.hi b (.inl hb)
  ·exact h.hi b (.inr (.inl hb))
  ·exact h.hi b (.inr (.inr (.inl hb)))
  ·exact h.hi b (.inr (.inr (.inr (.inl hb))))
  ·rw[List.length_set] at hj
   try dsimp only at hb
   by_cases hja:j=a
   ·rw[if_pos hja] at hb;rcases pv b hb with h1 | h1
    ·exact h.hi b (.inr (.inr (.inr (.inr ⟨a,hal,h1⟩))))
    ·omega
   ·rw[if_neg hja] at hb;exact h.hi b (.inr (.inr (.inr (.inr ⟨j,hj,hb⟩))))
 ·rcases List.mem_or_eq_of_mem_set hl' with h1 | rfl
  ·exact h.Ym l' h1
  ·have h2:=h.Ym l (List.mem_of_getElem? ha);refine⟨by simp;omega,fun x hx=>?_⟩;rw[List.mem_append,List.mem_singleton] at hx;rcases hx with hx | rfl
   ·exact h2.2 x hx
   ·exact hm
end
end
structure Sr {K:Type} (P:Program) (kT iT:TypeId) (kv:K->Value) (B:Nat) (w:World) (mb:Nat) (va vb:Value) (s:List K × List Int):Prop where
 map:vU P kT iT kv w mb s.1
 all:iA kT 1 w va s.1.length (lv kv s.1)
 PZ:iA iT 1 w vb s.2.length (lv (Value.int .i64) s.2)
 apart:∀b,va.ownBlock=some b->vb.ownBlock≠some b
 hm:B<=mb
 ha:∀b,va.ownBlock=some b->B<=b
 hb:∀b,vb.ownBlock=some b->B<=b
section
variable {K : Type} {P : Program} {kT iT : TypeId} {kv : K -> Value} {B : Nat} {w w' : World} {mb : Nat} {va vb : Value} {s : List K × List Int}
theorem Sr.below (h:Sr P kT iT kv B w mb va vb s) (hb:Below w.heap.size w w'):Sr P kT iT kv B w' mb va vb s:=
 ⟨h.map.heap (hb.block mb h.map.lt),h.all.below hb,h.PZ.below hb,h.apart,h.hm,h.ha,h.hb⟩
theorem Sr.start (hB:B<=w.heap.size):Sr P kT iT kv B (w.alloc (.map #[] 0)) w.heap.size (.slice none 0 0) (.slice none 0 0) (([], []):List K × List Int):=
 ⟨uw.made P kT iT w (fun i=>lv kv [] i 0) kF,iA.nil _ _ _ _,iA.nil _ _ _ _,(fun b hb=>by cases hb),hB,(fun b hb=>by cases hb),fun b hb=>by cases hb⟩
theorem Sr.add {k:K} {i:Int} {w1 w2 w3:World} {o1 o2:Obj} {va' vb':Value} {y1 y2:Nat->Nat->Value} (h:Sr P kT iT kv B w mb va vb s) (hB:B<=w.heap.size)
  (hm1:vU P kT iT kv w1 mb (s.1++ [k])) (g1:w.grownBy w1 (some mb))
  (o2':iA kT 1 w2 va' (s.1.length+1) (nY s.1.length (lv kv s.1) y1)) (e1:y1 0 0=kv k) (g2:(w1.alloc o1).grownBy w2 va.ownBlock) (p2:Placed w1 va va')
  (o3':iA iT 1 w3 vb' (s.2.length+1) (nY s.2.length (lv (Value.int .i64) s.2) y2)) (e2:y2 0 0=.int .i64 i) (g3:(w2.alloc o2).grownBy w3 vb.ownBlock) (p3:Placed w2 vb vb'):
  Sr P kT iT kv B w3 mb va' vb' (s.1++ [k],s.2++ [i])/\Below B w w3:=by
 have C1:fV (fun b=>b=mb) w w1:=fV.jP g1 fun b hb=>by cases hb;rfl
 have C2:=fV.tH g2;have C3:=fV.tH g3;have s1:=C1.size;have s2:=C2.size;have a1:=h.all.gL C1 fun b hb e=>h.all.kW h.map (e▸hb);have b1:=h.PZ.gL C1 fun b hb e=>h.PZ.kW h.map (e▸hb);have m2:=hm1.gL C2 fun e=>a1.kW hm1 e;have b2:=b1.gL C2 fun b hb e=>h.apart b e hb;have m3:=m2.gL C3 fun e=>b2.kW m2 e;have hn:∀b,va'.ownBlock=some b->vb.ownBlock≠some b:=fun b hb e=>by
  rcases p2 with p2 | p2
  ·exact h.apart b (p2▸hb) e
  ·have h1:=p2 b hb;have h2:=h.PZ.lt b e;omega
 have a3:=o2'.gL C3 fun b hb e=>hn b hb e;have va2:∀b,va'.ownBlock=some b->B<=b:=fun b hb=>by
  rcases p2 with p2 | p2
  ·exact h.ha b (p2▸hb)
  ·have:=p2 b hb;omega
 have vb3:∀b,vb'.ownBlock=some b->B<=b:=fun b hb=>by
  rcases p3 with p3 | p3
  ·exact h.hb b (p3▸hb)
  ·have:=p3 b hb;omega
 refine⟨⟨m3,a3.snoc e1,o3'.snoc e2,fun b hb e=>?_,h.hm,va2,vb3⟩,?_⟩
 ·rcases p3 with p3 | p3
  ·exact hn b hb (p3▸e)
  ·have h1:=p3 b e;have h2:=o2'.lt b hb;omega
 ·exact(((C1.mono fun b _ (hb:b=mb)=>(show B<=b by rw[hb];exact h.hm)).trans (C2.mono fun b _ hb=>h.ha b hb) fun _ _ h=>h).trans (C3.mono fun b _ hb=>h.hb b hb) fun _ _ h=>h).below hB fun _ h=>h
end
end Go.bI
namespace Go.bI
open Go.RowKit
theorem Td {P:Program} {ops:Array Oper} {o:Oper} {rest:List Oper} {a:Act} {w:World} {Q:Act->Prop} (hw:Region.wanted o (yielded ops a.tmps)=true) {v:Value} (hr:∀n,(execOp a.eval o).run P (w.drewN n)=.ok (.value v) (w.drewN n))
  (h:wpQuiet P ops (fun w'=> ∃n,w'=w.drewN n) Q rest (a.put o.dst v)):wpQuiet P ops (fun w'=> ∃n,w'=w.drewN n) Q (o::rest) a:=by
 unfold wpQuiet;rw[if_pos hw];refine⟨v,?_,h⟩;rintro w' ⟨n,rfl⟩;unfold Oper.quietAt;rw[hr n];exact⟨rfl,rfl⟩
theorem Ct {P:Program} {ops:Array Oper} {o:Oper} {rest:List Oper} {a:Act} {w:World} {Q:Act->Prop} (hw:Region.wanted o (yielded ops a.tmps)=true) {T:TypeId} {d:TypeDesc} {x:Operand} {k:IntKind} {b off n:Nat} {f:Nat->Int} (ho:o.op=.load T x) (hx:a.eval x=.pointer (some ⟨b,off,none⟩))
  (hu:P.underlying T=some d) (hd:d.isRow=true) (hi:(P.info? T).map (·.size)=some n) (hc:∀i,i<n->w.cell? ⟨b,off+i,none⟩=some (.int k (f i))) (hb:b<w.heap.size)
  (h:wpQuiet P ops (fun w'=> ∃n,w'=w.drewN n) Q rest (a.put o.dst (.agg (arr k n f)))):wpQuiet P ops (fun w'=> ∃n,w'=w.drewN n) Q (o::rest) a:=
 Td hw (fun m=>Es ho hx hu hd hi fun i hi'=>((Go.bI.below_drewN (bT w.heap.size w) m).cell (p:=⟨b,off+i,none⟩) hb).trans (hc i hi')) h
theorem wR {P:Program} {ops:Array Oper} {rest:List Oper} {o:Oper} {a:Act} {w w0:World} {Q':Exit->Act->World->Prop} {e t:TypeId} {c n:Nat} {v:Value} {y:Nat->Value} {q:Nat->Nat->Value} {bytes:Nat} {z:Value} (hg:o.guard=none) (s x:Operand) (hop:o.op=.call { callee:=.builtin .append,args:=#[s,x],argTypes:=#[t,t] })
  (hs:a.eval s=v) (hw:w=w0.alloc (.cells (gV c y) e)) (h:iA e c w0 v n q) (hc:0<c) (h1:P.underlying t=some (.slice e)) (hinfo:(P.info? e).map (fun i=>(i.zero,i.size,i.bytes))=some (some z,c,bytes)) (hz:z.cells.size=c)
  (hx:a.eval x=.slice (some ⟨w0.heap.size,0,none⟩) 1 1) (hu:∀i,i<c->(y i).oneCell'=true)
  (h63:n+1<=maxLen) (hb:(n+1) * bytes<=140737488355328)
  (hK:∀v' w',iA e c w' v' (n+1) (nY n q (fun _ i=>y i))->w.grownBy w' v.ownBlock->Placed w0 v v'->wpList P ops Q' rest (a.put o.dst v') w'):wpList P ops Q' (o::rest) a w:=by
 subst hw;refine rU hg s x hop hs (h.alloc _) hc h1 hinfo hz w0.heap.size 0 1 1 hx (fun _ i=>y i) (fun j hj i hi=>⟨?_,hu i hi⟩) h63 hb fun v' w' h1 h2 h3=>hK v' w' h1 h2 ?_
 ·obtain rfl:j=0:=by omega
  rw[show 0+(0 * c+i)=i by omega,iM.new.2 i hi]
 ·rcases h3 with h3 | h3
  ·exact .inl h3
  ·exact .inr fun b hb=>by have:=h3 b hb;rw[World.size_alloc] at this;omega
def xM (v:Value):Prop:=∀x,v≠.int .u8 x
def EP (w:World) (b:Nat):Prop:=∀i v,w.cell? ⟨b,i,none⟩=some v->xM v
section
variable {w w' : World} {b g : Nat} {cs : Array Value} {T : TypeId}
theorem EP.row (h:w.heap[b]? =some (.cells cs T (0,0))) (hc:∀v,v ∈ cs.toList->xM v):EP w b:=fun i v hv=>by
 rw[cell_of_row w b i cs T (0,0) h] at hv;exact hc v (by rw[Array.mem_toList_iff];exact Array.mem_of_getElem? hv)
theorem EP.cells (h:EP w b) (hb:w.heap[b]? =some (.cells cs T (0,0))):∀v,v ∈ cs.toList->xM v:=fun v hv=>by
 obtain⟨i,hi⟩:=List.getElem?_of_mem hv;refine h i v ?_;rw[cell_of_row w b i cs T (0,0) hb,←Array.getElem?_toList];exact hi
theorem EP.heap (h:EP w b) (hb:w'.heap[b]? =w.heap[b]?):EP w' b:=fun i v hv=>h i v ((World.cell?_of_block (a:=⟨b,i,none⟩) hb).symm.trans hv)
theorem EP.ne {v:Value} {n:Nat} {f:Nat->Int} (h:EP w g) (hr:Rd .u8 w v n f) (hn:0<n):∀b,v.ownBlock=some b->b≠g:=by
 rintro b hb rfl;obtain⟨a,c,rfl,_,_,_,h4⟩:=hr;obtain⟨b',o,rfl,_,hc⟩:=h4 hn;obtain rfl:b'=b:=by simpa [Value.ownBlock] using hb
 exact h _ _ (hc 0 hn) _ rfl
theorem Ee {z:Array Value} (hz:∀v,v ∈ z.toList->xM v) (hs:0<z.size) (n:Nat):∀v,v ∈ (Builtin.zeroCells z n).toList->xM v:=by
 intro v hv;rw[Array.mem_toList_iff] at hv;unfold Builtin.zeroCells at hv;obtain⟨i,_,rfl⟩:=Array.mem_map.1 hv;have:i % z.size<z.size:=Nat.mod_lt _ hs;rw[getElem!_pos z _ this];exact hz _ (by rw[Array.mem_toList_iff];exact Array.getElem_mem this)
theorem Cn {P:Program} (w:World) (base:Nat) (t ty e:TypeId) (i:TypeInfo) (z:Value) (size bytes:Nat) (ht:P.underlying t=some (.slice e)) (hi:P.info? e=some i) (hz:i.zero=some z)
  (hsize:i.size=size) (hby:i.bytes=bytes) (hzs:z.cells.size=size) (gP:0<size)
  (v:Value) (n:Nat) (xs:List Value) (cK:w.ownsRow base e size v n xs)
  (a:Addr) (m c:Nat) (news:List Value) (hl:news.length=m * size) (hnews:∀j u,news[j]? =some u->w.cell? (a.add j)=some u) (h1:∀u ∈ news,u.oneCell'=true)
  (h63:n+m<=maxLen) (hbytes:(n+m) * bytes<=140737488355328) (v':Value) (w':World) (hrun:(Builtin.append_ #[t,t] ty #[v,.slice (some a) m c]).run P w=.ok v' w')
  (hU:∀b,v.ownBlock=some b->EP w b) (hN:∀u,u ∈ news->xM u) (hZ:∀u,u ∈ z.cells.toList->xM u):∀b,v'.ownBlock=some b->EP w' b:=by
 subst hsize;subst hby;have hsmall:n+m<=9223372036854775807:=by simp only[maxLen] at h63;omega
 have hZ':=fun k=>Ee hZ aH k;rcases cK.2 with⟨rfl,rfl⟩ | ⟨g,cap,cur,rfl,hbg,hg,hnc,hcm,hcs,htake⟩
 ·have hx:xs= [] :=List.eq_nil_of_length_eq_zero (by simpa using cK.1);subst hx;by_cases hm:m=0
  ·subst hm;have hn:news= [] :=List.eq_nil_of_length_eq_zero (by simpa using hl);subst hn;have hr:(Builtin.append_ #[t,t] ty #[.slice none 0 0,.slice (some a) 0 c]).run P w=.ok (.slice none 0 0) w:=by
    simp[Builtin.append_,run_underlying ht,sizeOf,typeInfo,hi,Builtin.lenOf,Builtin.firstCells,loadCells,loadCellsFrom]
   rw[hr] at hrun;cases hrun
   intro b hb;cases hb
  ·have hr:=run_append_nil (P:=P) w t ty e i z ht hi hz a m c news hl hnews aH aH (by have hb:=hbytes;simp only[qY] at hb;omega);rw[hr] at hrun;cases hrun
   intro b hb;obtain rfl:w.heap.size=b:=by simpa [Value.ownBlock] using hb
   refine EP.row (heap_alloc_new w.drew _) fun u hu=>?_;rw[Array.toList_append,List.mem_append] at hu;exact hu.elim (hN u) (hZ' _ u)
 ·have hcur:=(hU g rfl).cells hg;by_cases hroom:n+m<=cap
  ·have hfit:n * i.size+news.length<=cur.size:=by rw[hl,hcs,←Nat.add_mul];exact Nat.mul_le_mul_right _ hroom
   have hr:=run_append_room (P:=P) w t ty e i ht hi g n cap cur hg a m c news hl hnews h1 hroom hfit;rw[hr] at hrun;cases hrun
   intro b hb;obtain rfl:g=b:=by simpa [Value.ownBlock] using hb
   refine EP.row (setRow_heap w g _ _ _ _ hg) fun u hu=>?_;simp only[List.mem_append] at hu;rcases hu with(hu | hu) | hu
   ·exact hcur u (List.mem_of_mem_take hu)
   ·exact hN u hu
   ·exact hcur u (List.mem_of_mem_drop hu)
  ·have holds:∀j u,xs[j]? =some u->w.cell? ((⟨g,0,none⟩:Addr).add j)=some u:=cK.cells (g:=g) rfl;have hr:=run_append_grow (P:=P) w t ty e i z ht hi hz ⟨g,0,none⟩ n cap xs cK.1 holds a m c news hl hnews aH aH (growslice_fits aH hbytes);rw[hr] at hrun;cases hrun
   intro b hb;obtain rfl:w.heap.size=b:=by simpa [Value.ownBlock] using hb
   refine EP.row (heap_alloc_new w.drew _) fun u hu=>?_;rw[Array.toList_append,Array.toList_append,List.mem_append,List.mem_append] at hu;rcases hu with(hu | hu) | hu
   ·rw[<-htake] at hu;exact hcur u (List.mem_of_mem_take hu)
   ·exact hN u hu
   ·exact hZ' _ u hu
end
structure yI (e:TypeId) (c:Nat) (w:World) (v:Value) (n:Nat) (q:Nat->Nat->Value):Prop where
 m:iA e c w v n q
 z:∀b,v.ownBlock=some b->EP w b
section
variable {e : TypeId} {c n m : Nat} {w w' : World} {v : Value} {q : Nat -> Nat -> Value} {F : Nat -> Prop}
theorem yI.nil (e:TypeId) (c:Nat) (w:World) (q:Nat->Nat->Value):yI e c w (.slice none 0 0) 0 q:=⟨iA.nil _ _ _ _,fun b hb=>by cases hb⟩
theorem yI.gL (h:yI e c w v n q) (hg:fV F w w') (hn:∀b,v.ownBlock=some b->¬ F b):yI e c w' v n q:=⟨h.m.gL hg hn,fun b hb=>(h.z b hb).heap (hg.block b (h.m.lt b hb) (hn b hb))⟩
theorem yI.below (h:yI e c w v n q) (hb:Below w.heap.size w w'):yI e c w' v n q:=h.gL (.of_below hb fun _=>False) fun _ _=>id
theorem yI.alloc (h:yI e c w v n q) (o:Obj):yI e c (w.alloc o) v n q:=h.below ((bT _ _).alloc (bH _) _)
theorem yI.congr {q':Nat->Nat->Value} (h:yI e c w v n q) (hq:∀j,j<n->∀i,i<c->q j i=q' j i):yI e c w v n q':=⟨h.m.congr hq,h.z⟩
theorem yI.append {P:Program} {t ty:TypeId} {bytes:Nat} {z:Value} (h:yI e c w v n q) (hc:0<c) (h1:P.underlying t=some (.slice e)) (hinfo:(P.info? e).map (fun i=>(i.zero,i.size,i.bytes))=some (some z,c,bytes)) (hz:z.cells.size=c)
  (b o cp m:Nat) (y:Nat->Nat->Value) (hy:∀j,j<m->∀i,i<c->w.cell? ⟨b,o+(j * c+i),none⟩=some (y j i)/\(y j i).oneCell'=true)
  (h63:n+m<=maxLen) (hb:(n+m) * bytes<=140737488355328) (hyU:∀j,j<m->∀i,i<c->xM (y j i)) (hZ:∀u,u ∈ z.cells.toList->xM u):
  ∃v' w',(Builtin.append_ #[t,t] ty #[v,.slice (some ⟨b,o,none⟩) m cp]).run P w=.ok v' w'/\yI e c w' v' (n+m) (nY n q y)/\w.grownBy w' v.ownBlock/\Placed w v v':=by
 obtain⟨v',w',hr,r1,r2,r3⟩:=h.m.append (ty:=ty) hc h1 hinfo hz b o cp m y hy h63 hb;obtain⟨i0,hi,hz0,hz1,hz2⟩:=info_parts hinfo;obtain⟨xs,cK,hxs⟩:=h.m.owns hc;have hdiv:∀k,k<m * c->k / c<m/\k % c<c/\k / c * c+k % c=k:=fun k hk=>⟨by rw[Nat.div_lt_iff_lt_mul hc];exact hk,Nat.mod_lt _ hc,by rw[Nat.mul_comm];exact Nat.div_add_mod k c⟩
 let news:List Value:=(List.range (m * c)).map fun k=>y (k / c) (k % c)
 have hl:news.length=m * c:=by simp[news]
 have hget:∀j,j<m->∀i,i<c->news[j * c+i]? =some (y j i):=by
  intro j hj i hi;have h5:(j+1) * c<=m * c:=Nat.mul_le_mul_right c hj;rw[Nat.succ_mul] at h5;have e1:(j * c+i) / c=j:=by rw[Nat.mul_comm,Nat.mul_add_div hc,Nat.div_eq_of_lt hi,Nat.add_zero]
  have e2:(j * c+i) % c=i:=by rw[Nat.mul_comm,Nat.mul_add_mod,Nat.mod_eq_of_lt hi]
  simp only[news,List.getElem?_map];rw[List.getElem?_range aH,Option.map_some,e1,e2]
 have hn:∀j u,news[j]? =some u->w.cell? ((⟨b,o,none⟩:Addr).add j)=some u:=by
  intro j u hu;have hj:j<m * c:=by
   have:=(List.getElem?_eq_some_iff.1 hu).1
   rwa [hl] at this
  obtain⟨d1,d2,d3⟩:=hdiv j hj;have h6:=hget _ d1 _ d2;rw[d3] at h6;rw[hu] at h6;have h7:=(hy _ d1 _ d2).1;rw[d3] at h7;rw[Gg,h7,h6]
 have h1':∀u ∈ news,u.oneCell'=true:=by
  intro u hu;simp only[news,List.mem_map,Zqa] at hu;obtain⟨k,hk,rfl⟩:=hu;obtain⟨d1,d2,d3⟩:=hdiv k hk;exact(hy _ d1 _ d2).2
 have hU:∀u,u ∈ news->xM u:=by
  intro u hu;simp only[news,List.mem_map,Zqa] at hu;obtain⟨k,hk,rfl⟩:=hu;obtain⟨d1,d2,d3⟩:=hdiv k hk;exact hyU _ d1 _ d2
 exact⟨v',w',hr,⟨r1,Cn w 0 t ty e i0 z c bytes h1 hi hz0 hz1 hz2 hz hc v n xs cK ⟨b,o,none⟩ m cp news hl hn h1' h63 hb v' w' hr h.z hU hZ⟩,r2,r3⟩
theorem nG {P:Program} {ops:Array Oper} {rest:List Oper} {o:Oper} {a:Act} {w w0:World} {Q':Exit->Act->World->Prop} {e t:TypeId} {c n:Nat} {v:Value} {y:Nat->Value} {q:Nat->Nat->Value} {bytes:Nat} {z:Value} (hg:o.guard=none) (s x:Operand) (hop:o.op=.call { callee:=.builtin .append,args:=#[s,x],argTypes:=#[t,t] })
  (hs:a.eval s=v) (hw:w=w0.alloc (.cells (gV c y) e)) (h:yI e c w0 v n q) (hc:0<c) (h1:P.underlying t=some (.slice e)) (hinfo:(P.info? e).map (fun i=>(i.zero,i.size,i.bytes))=some (some z,c,bytes)) (hz:z.cells.size=c)
  (hx:a.eval x=.slice (some ⟨w0.heap.size,0,none⟩) 1 1) (hu:∀i,i<c->(y i).oneCell'=true/\xM (y i)) (hZ:∀u,u ∈ z.cells.toList->xM u)
  (h63:n+1<=maxLen) (hb:(n+1) * bytes<=140737488355328)
  (hK:∀v' w',yI e c w' v' (n+1) (nY n q (fun _ i=>y i))->fV (fun b=>v.ownBlock=some b) w0 w'->(∀b,v'.ownBlock=some b->v.ownBlock=some b\/w0.heap.size<=b)->wpList P ops Q' rest (a.put o.dst v') w'):wpList P ops Q' (o::rest) a w:=by
 subst hw;obtain⟨v',w',hr,r1,r2,r3⟩:=(h.alloc (.cells (gV c y) e)).append (ty:=o.type) hc h1 hinfo hz w0.heap.size 0 1 1 (fun _ i=>y i) (fun j hj i hi=>⟨by
  obtain rfl:j=0:=by omega
  rw[show 0+(0 * c+i)=i by omega,iM.new.2 i hi],(hu i hi).1⟩) h63 hb (fun _ _ i hi=>(hu i hi).2) hZ
 refine wpList_plain hg fun _ hK'=>?_;unfold Oper.wp execOp;simp only[hop,resolve,invoke,builtin,uV,wL,vS,vT,List.map_cons,List.map_nil,hs,hx,hr];refine hK' _ _ (hK v' w' r1 (fV.tH r2) fun b hb=>?_);rcases r3 with r3 | r3
 ·exact .inl (r3▸hb)
 ·have:=r3 b hb;rw[World.size_alloc] at this;exact .inr aH
end
end Go.bI
