/- Part 42 of EscrowComes; conditions: in each theorem. -/
import Derived.Test.YtpcjekgfnfjbpaaGreatPkEC23
import Derived.Test.YtpcjekgfnfjbpaaGreatPkEC35
import Derived.Test.YtpcjekgfnfjbpaaGreatPkEC41
import Derived.Test.YtpcjekgfnfjbpaaGreatPkEC37
set_option linter.unusedVariables false
set_option linter.unusedSimpArgs false
set_option maxRecDepth 100000
set_option maxHeartbeats 6400000
namespace Go.bI
open Go.RowKit
structure mD where
 nm:ByteArray
 pb:List Int
 vf:List Int
structure qG where
 fr:ByteArray
 ta:ByteArray
 b:List Int
structure EW where
 nm:ByteArray
 sc:List Int
structure Ec (F:Nat->Prop) (w:World) (z:Nat->Value) (a:mD):Prop where
 z0:z 0=.string a.nm
 z1:eG F w (z 1) a.pb
 z2:eG F w (z 2) a.vf
structure Jz (F:Nat->Prop) (w:World) (z:Nat->Value) (a:qG):Prop where
 z0:z 0=.string a.fr
 z1:z 1=.string a.ta
 z2:eG F w (z 2) a.b
structure Vm (F:Nat->Prop) (w:World) (z:Nat->Value) (a:EW):Prop where
 z0:z 0=.string a.nm
 z1:eG F w (z 1) a.sc
section
variable {F F' : Nat -> Prop} {w w' : World} {z : Nat -> Value} {p : Nat}
theorem Ec.below {a:mD} (h:Ec F w z a) (hb:Below w.heap.size w w'):Ec F w' z a:=⟨h.z0,h.z1.below hb,h.z2.below hb⟩
theorem Jz.below {a:qG} (h:Jz F w z a) (hb:Below w.heap.size w w'):Jz F w' z a:=⟨h.z0,h.z1,h.z2.below hb⟩
theorem Vm.below {a:EW} (h:Vm F w z a) (hb:Below w.heap.size w w'):Vm F w' z a:=⟨h.z0,h.z1.below hb⟩
theorem Ec.Ah {a:mD} (h:Ec F w z a) (hc:lg p F w w') (hF:∀b,F' b->F b\/w.heap.size<=b):Ec F' w' z a:=⟨h.z0,h.z1.Ah hc hF,h.z2.Ah hc hF⟩
theorem Jz.Ah {a:qG} (h:Jz F w z a) (hc:lg p F w w') (hF:∀b,F' b->F b\/w.heap.size<=b):Jz F' w' z a:=⟨h.z0,h.z1,h.z2.Ah hc hF⟩
theorem Vm.Ah {a:EW} (h:Vm F w z a) (hc:lg p F w w') (hF:∀b,F' b->F b\/w.heap.size<=b):Vm F' w' z a:=⟨h.z0,h.z1.Ah hc hF⟩
theorem Ec.one {a:mD} (h:Ec F w z a):∀i,i<3->(z i).oneCell'=true:=fun i hi=>by
 rcases(by omega:i=0\/i=1\/i=2) with rfl | rfl | rfl
 ·rw[h.z0];rfl
 ·obtain⟨_,_,e⟩:=h.z1.slice;rw[e];rfl
 ·obtain⟨_,_,e⟩:=h.z2.slice;rw[e];rfl
theorem Jz.one {a:qG} (h:Jz F w z a):∀i,i<3->(z i).oneCell'=true:=fun i hi=>by
 rcases(by omega:i=0\/i=1\/i=2) with rfl | rfl | rfl
 ·rw[h.z0];rfl
 ·rw[h.z1];rfl
 ·obtain⟨_,_,e⟩:=h.z2.slice;rw[e];rfl
theorem Vm.one {a:EW} (h:Vm F w z a):∀i,i<2->(z i).oneCell'=true:=fun i hi=>by
 rcases(by omega:i=0\/i=1) with rfl | rfl
 ·rw[h.z0];rfl
 ·obtain⟨_,_,e⟩:=h.z1.slice;rw[e];rfl
end
structure uX {A:Type} (R:World->(Nat->Value)->A->Prop) (e:TypeId) (c:Nat) (w:World) (v:Value) (L:List A) (q:Nat->Nat->Value):Prop where
 os:yI e c w v L.length q
 bs:∀(j:Nat) (a:A),L[j]? =some a->R w (q j) a
theorem aan (a b:ByteArray):(a.toList==b.toList)=decide (a=b):=by
 by_cases h:a=b
 ·rw[yx h,decide_eq_true h]
 ·rw[yA h,decide_eq_false h]
def Bq (ns:List ByteArray) (nm:ByteArray):Nat:=ns.findIdx fun a=>decide (a=nm)
theorem Bo {ns:List ByteArray} {nm:ByteArray} {k:Nat} (h:ns[k]? =some nm) (hb:∀(j:Nat) a,j<k->ns[j]? =some a->a≠nm):Bq ns nm=k:=by
 obtain⟨hk,e⟩:=List.getElem?_eq_some_iff.1 h;unfold Bq;rw[List.findIdx_eq hk];refine⟨by simpa using e,fun j hj=>?_⟩
 simpa using hb j _ hj (kP (Nat.lt_trans hj hk))
theorem Py {ns:List ByteArray} {nm:ByteArray} (hb:∀(j:Nat) a,ns[j]? =some a->a≠nm):Bq ns nm=ns.length:=by
 unfold Bq;rw[List.findIdx_eq_length];intro a ha;obtain⟨j,hj⟩:=List.getElem?_of_mem ha
 simpa using hb j a hj
def zx (ns:List ByteArray) (nm:ByteArray):Int:=if Bq ns nm<ns.length then Bq ns nm else -1
theorem Ag {A:Type} {p q:A->Bool} (h:∀x,p x=true->q x=true):∀{l:List A} {d:A},d ∈ l->q d=true->p d=false->l.countP p+1<=l.countP q
 | [],d,hd,_,_=>by cases hd
 | a::l,d,hd,h1,h2=>by
  have hle:l.countP p<=l.countP q:=List.countP_mono_left fun x _=>h x;rw[List.countP_cons,List.countP_cons];rcases List.mem_cons.1 hd with rfl | hd
  ·rw[h1,h2];simp;omega
  ·have:=Ag h hd h1 h2;by_cases hp:p a=true
   ·rw[if_pos hp,if_pos (h a hp)];omega
   ·rw[if_neg hp];omega
theorem adf {ns:List ByteArray} {nm:ByteArray}:Bq ns nm<ns.length ↔ nm ∈ ns:=by
 unfold Bq;rw[List.findIdx_lt_length]
 constructor
 ·rintro⟨x,hx,h⟩;have h:x=nm:=by simpa using h
  exact h▸hx
 ·intro h;exact⟨nm,h,by simp⟩
def LX (o:List EW) (nm:ByteArray):Bool:=decide (Bq (o.map (·.nm)) nm<o.length)
theorem xY {o:List EW} {nm:ByteArray}:LX o nm=true ↔ nm ∈ o.map (·.nm):=by
 unfold LX;rw[decide_eq_true_iff,←adf,List.length_map]
section
variable {P : Program} {o : Oper} {a : Act} {w : World}
theorem eT {T:TypeId} {x:Operand} {b i:Nat} {v:Value} (ho:o.op=.load T x) (hx:a.eval x=.pointer (some ⟨b,i,none⟩)) (hu:P.underlying T=some .string) (hc:w.cell? ⟨b,i,none⟩=some v):(execOp a.eval o).run P w=.ok (.value v) w:=by
 unfold execOp;simp only[ho,hx];simp[Instr.loadAt,Instr.sureAddr,loadVar,isAgg,run_underlying hu,go_sem,hc]
theorem sP {T U:TypeId} {x y:Operand} {s t:ByteArray} (ho:o.op=.binOp .neq T x y U) (hx:a.eval x=.string s) (hy:a.eval y=.string t) (hu:P.underlying T=some .string):
  (execOp a.eval o).run P w=.ok (.value (.bool (!decide (s=t)))) w:=by
 have e:=aan s t;unfold execOp;simp only[ho,hx,hy];simp[go_sem,hu,e]
end
section
variable {A : Type} {p : Nat} {F F' G : Nat -> Prop} {w w' : World} {v v' : Value} {l : List Int} {z y : Nat -> Value} {e : TypeId} {c : Nat} {L : List A} {q : Nat -> Nat -> Value} {a : A}
def BsR (F:Nat->Prop) (w:World) (z:Nat->Value) (a:List Int):Prop:=eG F w (z 0) a
def KpS (R:(Nat->Prop)->World->(Nat->Value)->A->Prop):Prop:=∀{p:Nat} {F F':Nat->Prop} {w w':World} {z:Nat->Value} {a:A},R F w z a->lg p F w w'->(∀b,F' b->F b\/w.heap.size<=b)->R F' w' z a
def KpU (R:(Nat->Prop)->World->(Nat->Value)->A->Prop):Prop:=∀{F G:Nat->Prop} {w w':World} {z:Nat->Value} {a:A},R F w z a->fV G w w'->(∀b,G b->EP w b)->R F w' z a
theorem eG.LG (h:eG F w v l) (hc:fV G w w') (hG:∀b,G b->EP w b):eG F w' v l:=⟨h.ok,h.rd.alI hc fun hn b hb hg=>(hG b hg).ne h.rd hn b hb rfl,h.off⟩
theorem psS:KpS Ec:=fun h hc hF=>h.Ah hc hF
theorem dpS:KpS Jz:=fun h hc hF=>h.Ah hc hF
theorem bsS:KpS BsR:=fun h hc hF=>eG.Ah h hc hF
theorem psU:KpU Ec:=fun h hc hG=>⟨h.z0,h.z1.LG hc hG,h.z2.LG hc hG⟩
theorem dpU:KpU Jz:=fun h hc hG=>⟨h.z0,h.z1,h.z2.LG hc hG⟩
theorem bsU:KpU BsR:=fun h hc hG=>eG.LG h hc hG
variable {R : (Nat -> Prop) -> World -> (Nat -> Value) -> A -> Prop}
theorem uX.WS (h:uX (R F) e c w v L q) (hk:KpS R) (hc:lg p F w w') (hF:∀b,F' b->F b\/w.heap.size<=b) (hn:∀b,v.ownBlock=some b->¬ (b=p\/F b)):uX (R F') e c w' v L q:=⟨h.os.gL hc.gL hn,fun j a ha=>hk (h.bs j a ha) hc hF⟩
theorem uX.Kh (h:uX (R F) e c w v L q) (hk:KpU R) (hc:fV G w w') (hG:∀b,G b->EP w b) (hn:∀b,v.ownBlock=some b->¬ G b):uX (R F) e c w' v L q:=⟨h.os.gL hc hn,fun j a ha=>hk (h.bs j a ha) hc hG⟩
theorem uX.below (h:uX (R F) e c w v L q) (hk:KpU R) (hb:Below w.heap.size w w'):uX (R F) e c w' v L q:=h.Kh hk (.of_below hb fun _=>False) (fun _ h=>h.elim) fun _ _ h=>h
theorem uX.nil:uX (R F) e c w (.slice none 0 0) [] q:=⟨yI.nil _ _ _ _,fun j a h=>by simp at h⟩
theorem uX.app (h:uX (R F) e c w v L q) (hk:KpU R) (ho:yI e c w' v' (L.length+1) (nY L.length q (fun _=>y))) (hc:fV (fun b=>v.ownBlock=some b) w w') (ha:R F w y a):uX (R F) e c w' v' (L++ [a]) (fun j=>if j=L.length then y else q j):=by
 refine⟨?_,fun j a' ha'=>?_⟩
 ·rw[List.length_append,List.length_singleton];refine ho.congr fun j hj i hi=>?_;by_cases hjl:j<L.length
  ·rw[uU hjl,if_neg aH]
  ·obtain rfl:j=L.length:=by omega
   rw[yw,if_pos rfl]
 ·by_cases hj:j<L.length
  ·rw[Jh hj] at ha';rw[if_neg aH];exact hk (h.bs j a' ha') hc h.os.z
  ·have:=(List.getElem?_eq_some_iff.1 ha').1;rw[List.length_append,List.length_singleton] at this;obtain rfl:j=L.length:=by omega
   rw[Ji (bH _),Nat.sub_self] at ha';rw[if_pos rfl,←gJ ha'];exact hk ha hc h.os.z
end
section
variable {P : Program} {o : Oper} {a : Act} {w : World} {K : Act -> World -> Prop} {Q' : Exit -> Act -> World -> Prop}
theorem Ob {T:TypeId} {x y z:Operand} {u v t:Value} {cells:Array Value} (ho:o.op=.build T #[(0,x),(1,y),(2,z)]) (hx:a.eval x=u) (hy:a.eval y=v) (hz:a.eval z=t) (hb:P.built T [(0,u),(1,v),(2,t)] =some cells):
  (execOp a.eval o).run P w=.ok (.value (.agg cells)) w:=by
 refine fK ho ?_;simp only[vT,List.map_cons,List.map_nil,hx,hy,hz];exact run_build w _ _ _ hb
theorem yc {S:Value->World->Prop} {T e:TypeId} {x:Operand} {u:Value} {cells:Array Value} (ho:o.op=.buildSlice T 1 #[(0,x)]) (hu:P.underlying T=some (.slice e)) (hx:a.eval x=u) (hf:builtSlice P e 1 [(0,u)] =some cells) (hd:o.dst≠none)
  (hS:S (.slice (some ⟨w.heap.size,0,none⟩) 1 1) (w.alloc (.cells cells e))):o.wp P a w (fun a' w'=> ∃v,a'=a.put o.dst v/\(o.dst=none->v=undef)/\S v w'/\Below w.heap.size w w') Q':=
 yN T e 1 _ ho hu cells (by simp only[vT,List.map_cons,List.map_nil,hx];exact hf) ⟨_,rfl,fun h=>absurd h hd,hS,(bT _ _).alloc (bH _) _⟩
theorem Gs {e t:TypeId} {c n b:Nat} {v:Value} {y:Nat->Value} {q:Nat->Nat->Value} {bytes:Nat} {z:Value} (s x:Operand) (hop:o.op=.call { callee:=.builtin .append,args:=#[s,x],argTypes:=#[t,t] })
  (hs:a.eval s=v) (h:yI e c w v n q) (hc:0<c) (h1:P.underlying t=some (.slice e)) (hinfo:(P.info? e).map (fun i=>(i.zero,i.size,i.bytes))=some (some z,c,bytes)) (hz:z.cells.size=c)
  (hx:a.eval x=.slice (some ⟨b,0,none⟩) 1 1) (hy:∀i,i<c->w.cell? ⟨b,i,none⟩=some (y i)) (hu:∀i,i<c->(y i).oneCell'=true/\xM (y i)) (hZ:∀u,u ∈ z.cells.toList->xM u)
  (h63:n+1<=maxLen) (hb:(n+1) * bytes<=140737488355328)
  (hK:∀v' w',yI e c w' v' (n+1) (nY n q (fun _=>y))->fV (fun b=>v.ownBlock=some b) w w'->(∀b,v'.ownBlock=some b->v.ownBlock=some b\/w.heap.size<=b)->K (a.put o.dst v') w'):o.wp P a w K Q':=by
 obtain⟨v',w',hr,r1,r2,r3⟩:=h.append (ty:=o.type) hc h1 hinfo hz b 0 1 1 (fun _=>y) (fun j hj i hi=>⟨by
  obtain rfl:j=0:=by omega
  rw[show 0+(0 * c+i)=i by omega];exact hy i hi,(hu i hi).1⟩) h63 hb (fun _ _ i hi=>(hu i hi).2) hZ
 unfold Oper.wp execOp;simp only[hop,resolve,invoke,builtin,uV,wL,vS,vT,List.map_cons,List.map_nil,hs,hx,hr];exact hK _ _ r1 (fV.jP r2 fun b hb=>hb) fun b hb=>by
  rcases r3 with r3 | r3
  ·exact .inl (r3▸hb)
  ·exact .inr (r3 b hb)
end
def LtB (w:World) (v:Value) (T:TypeId) (cs:Array Value):Prop:=∃b,v=.slice (some ⟨b,0,none⟩) 1 1/\w.heap[b]? =some (.cells cs T (0,0))
theorem LtB.below {w w':World} {v:Value} {T:TypeId} {cs:Array Value} (h:LtB w v T cs) (hb:Below w.heap.size w w'):LtB w' v T cs:=by
 obtain⟨b,e,h⟩:=h;exact⟨b,e,by rw[hb.block b (Array.getElem?_eq_some_iff.1 h).1];exact h⟩
def Pr2 (w:World) (v:Value) (m:Nat) (f g:Nat->Nat):Prop:=∃q,Ns w v m 2 q/\∀j,j<m->q j 0=.int .u8 (f j:Int)/\q j 1=.int .u8 (g j:Int)
end Go.bI
namespace Go.bI
open Go.RowKit Go.ChangeShapes Go.WideShapes Go.ChangeAt
section
variable {H : Type} {enc : TypeId × Value -> H} {P : Program} {w : World} {base : Nat} {spare : Nat -> Bool} {held : Bool}
theorem XK {t e ie:TypeId} {v:Value} {d:DataW H} {p:List MemPlace} (ht:P.underlying t=some (.slice e)) (he:P.underlying e=some (.array 2 ie)) (hi:P.underlying ie=some (.int .u8)) (hc:P.cellsOf ie=1) (hn:P.cellsOf e=2)
  {b0:Nat} (hv:Value.okWide P w .any b0 t v) (h:DataW.Trod enc P w base spare held t v d p):∃m f g,Pr2 w v m f g/\∀j,f j<256/\g j<256:=by
 obtain⟨m,q,hq,htr⟩:=XL ht hn aM hv h;have each:∀j,j<m->∃a b:Nat,q j 0=.int .u8 (a:Int)/\q j 1=.int .u8 (b:Int)/\a<256/\b<256:=by
  intro j hj;obtain⟨fuel,y,hy⟩:=htr j hj;obtain⟨f,hf,hb⟩:=BN he hi hc hn hy;simp[List.range_succ,vals] at hf;have b0:=bounds_u8 (hb 0 aM);have b1:=bounds_u8 (hb 1 aM);refine⟨(f 0).toNat,(f 1).toNat,?_,?_,by omega,by omega⟩
  ·rw[hf.1,Int.toNat_of_nonneg aH]
  ·rw[hf.2,Int.toNat_of_nonneg aH]
 classical
 refine⟨m,fun j=>if h:j<m then Classical.choose (each j h) else 0,fun j=>if h:j<m then Classical.choose (Classical.choose_spec (each j h)) else 0,⟨q,hq,fun j hj=>?_⟩,fun j=>?_⟩
 ·have hs:=Classical.choose_spec (Classical.choose_spec (each j hj));simp only[dif_pos hj];exact⟨hs.1,hs.2.1⟩
 ·by_cases hj:j<m
  ·have hs:=Classical.choose_spec (Classical.choose_spec (each j hj));simp only[dif_pos hj];exact hs.2.2
  ·simp only[dif_neg hj]
   decide
end
end Go.bI
namespace Go.Proofs.YtpcjekgfnfjbpaaGreat
open Go.RowKit Go.bI Go.ChangeShapes Go.Maps
attribute [local go_sem ↓] Go.wp_at_zero Go.wp_at_succ
section
variable {B : Nat} {w w' w1 w2 w3 : World} {p q : Nat} {F G G' : Nat -> Prop} {S S' : TS} {kd n : Int} {sd : Nat -> Int} {s : Value} {v u v' : Value} {l l' : List Int}
theorem zM (h:pF B w p F S) (hb:eG F w v l) (hb':eG F w v' l') (hl:S.l.length<=1000):Calls Tryz.prog 22 #[.pointer (some ⟨p,0,none⟩),v,v'] w fun e w'=> ∃u,e=.returned (.tuple #[u,.int .i64 (eF S l l').2])/\eG F w' u (eF S l l').1/\Below w.heap.size w w':=by
 have HW:=ay h.which;obtain⟨q,G,hq,hF⟩:=id h;have HQ:=ay hq;have HO:=ay (sK h hb aH);have HO':=ay (fun w1 (b1:Below w.heap.size w w1)=>sK (h.below b1) (hb'.below b1) aH);have yM:=ay hb.ok;have ain:=ay hb'.ok;have HSO:=ay h.ok;have wN:Hid (∀b,F b->b<w.heap.size):=ay fun b hb=>h.lt hb;have HL:=ay hl;obtain⟨R,hR⟩:∃x,x=eF S l l':=⟨_,rfl⟩
 rw[<-hR];have HR:=ay hR;obtain⟨av,cv,rfl,_⟩:=hb.rd;obtain⟨av',cv',rfl,_⟩:=hb'.rd;clear hR h hb hb' hl hq hF
 go_enter Tryz.func22,Tryz.ntmps22
 go_wp2_with fail;refine HW.out.mono ?_;rintro e w0 ⟨rfl,rfl⟩;go_wp2_with fail;refine HO.out.mono ?_;rintro e w1 ⟨rfl,b1⟩;have B1:=ay b1;clear b1;obtain⟨A,hA⟩:∃x,x=EB S l:=⟨_,rfl⟩
 rw[<-hA];have HA:=ay hA;clear hA;go_upto_region 9 with(fail);refine aJ (fun w2=>Below w0.heap.size w0 w2) (B1.out.alloc B1.out.size _) ?_;rintro w2 b2;have B2:=ay b2;clear b2;go_wp2_with fail;refine(HO'.out w2 B2.out).mono ?_;rintro e w3 ⟨rfl,b3⟩;have B3:=ay (B2.out.trans (b3.mono B2.out.size));clear b3;obtain⟨C,hC⟩:∃x,x=EB S l':=⟨_,rfl⟩
 rw[<-hC];have HC:=ay hC;clear hC;go_upto_region 10 with(fail);refine aJ (fun w4=>w4.cell? ⟨w3.heap.size,0,none⟩=some (.int .i64 C.2.1.1)/\w4.cell? ⟨w3.heap.size,1,none⟩=some (.int .i64 C.2.1.2.1)/\w4.cell? ⟨w3.heap.size,2,none⟩=some (.int .i64 C.2.1.2.2)/\Below w0.heap.size w0 w4) ⟨cell_of_row _ _ 0 _ _ (0,0) (heap_alloc_new w3 _),cell_of_row _ _ 1 _ _ (0,0) (heap_alloc_new w3 _),cell_of_row _ _ 2 _ _ (0,0) (heap_alloc_new w3 _),B3.out.alloc B3.out.size _⟩ ?_;rintro w4 ⟨c0,c1,c2,b4⟩;have B4:=ay b4;clear b4
 cases hm:lS S l with
 | none=>
  have HE:Hid (R=([],11)):=ay (by rw[HR.out];unfold eF;rw[hm]);obtain rfl:A=(0,(0,0,0),11):=HA.out.trans (Le hm);clear hm HA c0 c1 c2;go_wp2;go_ret2;rw[HE.out];exact⟨_,rfl,eG.nil _ _,B4.out⟩
 | some n=>
  have HM:=ay hm;have HN:=ay (uK yM.out hm);obtain⟨t,ht⟩:∃t,t=pE S.l n:=⟨_,rfl⟩
  obtain rfl:A=((n:Int),t,0):=HA.out.trans (ht▸Ld hm);clear hm HA ht
  cases hm:lS S l' with
  | none=>
   have HE:Hid (R=([],11)):=ay (by rw[HR.out];unfold eF;rw[HM.out,hm]);obtain rfl:C=(0,(0,0,0),11):=HC.out.trans (Le hm);clear hm HC c0 c1 c2;go_wp2;go_ret2;rw[HE.out];exact⟨_,rfl,eG.nil _ _,B4.out⟩
  | some m=>
   have HN':=ay (uK ain.out hm);have Vx:Hid (R=if Nq S m=4/\(Az S (pE S.l m).2.1).1.2.1=n then (eP (pE S.l m).2.2,0) else ([],20)):=ay (by rw[HR.out];unfold eF;rw[HM.out,hm]);have HB:=ay (fun hk=>ach HSO.out HN'.out hk);obtain rfl:C=((m:Int),pE S.l m,0):=HC.out.trans (Ld hm);have hkd:Nq S m=(pE S.l m).1:=rfl;rw[hkd] at Vx HB;obtain⟨u,hu⟩:∃t,t=pE S.l m:=⟨_,rfl⟩
   rw[<-hu] at Vx HB c0 c1 c2 ⊢;have HG:=ay (fun w' (b:Below w0.heap.size w0 w')=>JV (HQ.out.st.below b) u.2.1);obtain⟨z,hz⟩:∃z,z=(Az S u.2.1).1:=⟨_,rfl⟩
   obtain⟨zb,hzb⟩:∃z,z=(Az S u.2.1).2:=⟨_,rfl⟩
   rw[<-hz,←hzb] at HG;rw[<-hz] at Vx;have cp:=(HQ.out.r.below B4.out).cp;have HCP:=ay cp;have HC0:=ay c0;have Bw:=ay c1;have Jq:=ay c2;have HPL:Hid (p<w4.heap.size):=ay (qZ HQ.out.r.row.lt B4.out.size);have Qr:Hid (w3.heap.size<w4.heap.size):=ay (World.block_lt_of_cell? _ _ c0);clear hm HC hkd hu hz hzb c0 c2;obtain⟨x3,hx3⟩:∃x,x=w3.heap.size:=⟨_,rfl⟩
   rw[<-hx3] at HC0 Bw Jq Qr c1 ⊢;clear hx3;go_upto_region 12 with(fail)
   refine bN (n:=81) aQ aQ aQ rfl
    (ku [(11,10)]) (gH [(11,10)]) (fun _=>arr .i64 3 (tf (0,0,0))) (fun _=>(arr .i64 3 (tf z))) (fun _=>96) (fun _=>16)
    (fun ii vv _=>(match ii with | 0 | 1=>vv=.pointer (some ⟨p,0,none⟩) | 2=>vv=.pointer (some ⟨p,34,none⟩) | 3=>vv=.pointer (some ⟨q,0,none⟩) | 4=>vv=.pointer (some ⟨x3,1,none⟩) | 5=>vv=.int .i64 (u.2.1) | 6 | 7=>vv=.tuple #[.agg (arr .i64 3 (tf z)),.bool zb] | 8=>vv=.agg (arr .i64 3 (tf z)) | 9 | 12=>vv=.bool zb | _=>True)) (fun _ _=>True) (fun _ _ _=>trivial) (fun _ _ _ _ _ _ _=>trivial) (fun _ _ _ _ h _=>h)
    (iJ rfl) (fT rfl) ?_ ?_ ?_ ?_
   ·refine dG ?_;refine⟨?_,?_,?_,?_,?_,?_,?_,?_,?_,?_,(fun h=>by cases h),(fun _ h=>by cases h),?_,trivial⟩
    ·intro _ _ a w2 hB hF hd;exact aN <| aG _ (.inl rfl) aR (hF.same 0 rfl)
    ·intro _ _ a w2 hB hF hd;exact aN <| aW (xB rfl (hd 0 _ rfl rfl rfl (aj rfl))) rfl
    ·intro _ _ a w2 hB hF hd;refine aN <| aW (bB (m:=0) (k:=34) rfl (hd 1 _ rfl rfl rfl (aj rfl)) aQ) ?_;exact rfl
    ·intro _ _ a w2 hB hF hd;exact aN <| aW (Kq rfl (hd 2 _ rfl rfl rfl (aj rfl)) Tryz.underlying43 ((hB.cell (p:=⟨p,34,none⟩) HPL.out).trans HCP.out)) rfl
    ·intro _ _ a w2 hB hF hd;refine aN <| aW (bB (m:=0) (k:=1) rfl (hF.same 14 rfl) aQ) ?_;exact rfl
    ·intro _ _ a w2 hB hF hd;exact aN <| aW (bg rfl (hd 4 _ rfl rfl rfl (aj rfl)) Tryz.underlying3 ((hB.cell (p:=⟨x3,1,none⟩) Qr.out).trans Bw.out)) rfl
    ·intro _ _ a w2 hB hF hd;refine aN <| aI _ _ _ rfl Tryz.call61 _ (args2 (hd 3 _ rfl rfl rfl (aj rfl)) (hd 5 _ rfl rfl rfl (aj rfl))) aR ((HG.out w2 (B4.out.trans (hB.mono B4.out.size))).mono ?_);rintro e w3 ⟨rfl,hb⟩;exact⟨_,rfl,rfl,hb⟩
    ·intro _ _ a w2 hB hF hd;exact aN <| aG _ (.inl rfl) aR (hd 6 _ rfl rfl rfl (aj rfl))
    ·intro _ _ a w2 hB hF hd;exact aN <| aW (bU rfl (hd 7 _ rfl rfl rfl (aj rfl)) rfl) rfl
    ·intro _ _ a w2 hB hF hd;exact aN <| aW (bU rfl (hd 7 _ rfl rfl rfl (aj rfl)) rfl) rfl
    ·intro _ _ a w2 hB hF hd;exact aN <| aG _ (.inr rfl) aR (hd 9 _ rfl rfl rfl (aj rfl))
   ·refine dG ?_;refine⟨(fun h=>by cases h),(fun h=>by cases h),(fun h=>by cases h),(fun h=>by cases h),(fun h=>by cases h),(fun h=>by cases h),(fun h=>by cases h),(fun h=>by cases h),(fun h=>by cases h),(fun h=>by cases h),?_,(fun h=>by cases h),(fun h=>by cases h),trivial⟩
    ·exact fun _=>⟨rfl,rfl,fun a w2 K h=>bD rfl rfl Tryz.zeroValue96 aR h⟩
   ·refine dG ?_;refine⟨(fun _ h=>by cases h),(fun _ h=>by cases h),(fun _ h=>by cases h),(fun _ h=>by cases h),(fun _ h=>by cases h),(fun _ h=>by cases h),(fun _ h=>by cases h),(fun _ h=>by cases h),(fun _ h=>by cases h),(fun _ h=>by cases h),(fun _ h=>by cases h),?_,(fun _ h=>by cases h),trivial⟩
    ·intro p hp;obtain rfl:10=p:=gJ hp;exact⟨rfl,rfl,⟨_,rfl⟩,aj rfl,fun a w2 b K hB hF hd hx hb h=>bQ rfl rfl Tryz.size96 hx (hd 8 _ rfl rfl rfl (aj rfl)) hb h⟩
   ·intro a w5 blk hB hF hS hv hfin dS;obtain⟨v10,Wv,aff⟩:=hv 10 _ rfl rfl;have ha:=aO rfl rfl hF [_,_,_,_,_,_,_,_,_,_,_,undef,_] rfl ⟨hS 0 _ rfl rfl rfl,hS 1 _ rfl rfl rfl,hS 2 _ rfl rfl rfl,hS 3 _ rfl rfl rfl,hS 4 _ rfl rfl rfl,hS 5 _ rfl rfl rfl,hS 6 _ rfl rfl rfl,hS 7 _ rfl rfl rfl,hS 8 _ rfl rfl rfl,hS 9 _ rfl rfl rfl,v10,trivial,hS 12 _ rfl rfl rfl,trivial⟩;have f10:=hfin 11 _ 10 rfl rfl;simp only[puts,Act.put,fB,fD,fF] at ha;subst ha;have V10:aK .i64 w5 (blk 10) 3 (tf z):=⟨_,f10⟩
    clear hS hv hfin dS hF v10 f10;obtain⟨xg,hxg⟩:∃x,x=blk 10:=⟨_,rfl⟩
    rw[<-hxg] at V10 ⊢;have cg:=V10.cell 1 aM;have B5:=ay (B4.out.trans (hB.mono B4.out.size));have c0:=(hB.cell (p:=⟨x3,0,none⟩) Qr.out).trans HC0.out;have c2:=(hB.cell (p:=⟨x3,2,none⟩) Qr.out).trans Jq.out;have hz1:tf z 1=z.2.1:=rfl;rw[hz1] at cg;clear hB hz1 hxg V10 Wv aff c1;by_cases hk:u.1=4
    ·have hk':(u.1 !=4)=false:=by simpa using hk
     by_cases hn:z.2.1=n
     ·have hn':(z.2.1 !=(n:Int))=false:=by simpa using hn
      obtain⟨b,gX,fO⟩:=HB.out (.inl hk);have HBL:=ay fO;have HE:Hid (R=(eP (b:Int),0)):=ay (by rw[Vx.out,if_pos ⟨hk,hn⟩,gX]);rw[gX] at c2;clear hk hn gX fO;go_wp2_with fail;refine(rD (b:Int) aH (by have:=HBL.out;have:=HN'.out;have:=HL.out;omega) w5).mono ?_;rintro e w6 ⟨x,rfl,hx,b6⟩;have HX:=ay (eG.own hx (mJ (n:=1) (m:=8) (fun _ _=>by decide) fun i _=>Oi _ i) fun b hb=>qZ (wN.out b hb) B5.out.size);have B6:=ay (B5.out.trans (b6.mono B5.out.size));clear hx b6;go_wp2;go_ret2;rw[HE.out];exact⟨_,rfl,HX.out,B6.out⟩
     ·have hn':(z.2.1 !=(n:Int))=true:=by simpa using hn
      have HE:Hid (R=([],20)):=ay (by rw[Vx.out,if_neg (fun h=>hn h.2)]);clear hk hn;go_wp2;go_ret2;rw[HE.out];exact⟨_,rfl,eG.nil _ _,B5.out⟩
    ·have hk':(u.1 !=4)=true:=by simpa using hk
     have HE:Hid (R=([],20)):=ay (by rw[Vx.out,if_neg (fun h=>hk h.1)]);clear hk;go_wp2;go_ret2;rw[HE.out];exact⟨_,rfl,eG.nil _ _,B5.out⟩
end
structure Eng (B:Nat) where
 σ:Type
 M:World->Nat->(Nat->Prop)->σ->Prop
 sz:σ->Nat
 pub:σ->List Int->List Int × Int × σ
 ver:σ->List Int->List Int × Int × σ
 DZ:σ->List Int->List Int->List Int × Int
 below:∀{w w' p F X},M w p F X->Below w.heap.size w w'->M w' p F X
 lt:∀{w p F X b},M w p F X->(b=p\/F b)->b<w.heap.size
 hi:∀{w p F X b},M w p F X->(b=p\/F b)->B<=b
 keep:∀{w w' p F X H},M w p F X->fV H w w'->¬ H p->(∀b,F b->¬ H b)->M w' p F X
 szP:∀X l,sz (pub X l).2.2<=sz X+1
 szV:∀X l,sz (ver X l).2.2<=sz X+1
 ado:∀{w p F X v l},M w p F X->eG F w v l->sz X<=900->Calls Tryz.prog 33 #[.pointer (some ⟨p,0,none⟩),v] w fun e w'=> ∃u,e=.returned (.tuple #[u,.int .i64 (pub X l).2.1])/\∃F',M w' p F' (pub X l).2.2/\eG F' w' u (pub X l).1/\lg p F w w'/\∀b,F' b->F b\/w.heap.size<=b
 adn:∀{w p F X v l},M w p F X->eG F w v l->sz X<=900->Calls Tryz.prog 34 #[.pointer (some ⟨p,0,none⟩),v] w fun e w'=> ∃u,e=.returned (.tuple #[u,.int .i64 (ver X l).2.1])/\∃F',M w' p F' (ver X l).2.2/\eG F' w' u (ver X l).1/\lg p F w w'/\∀b,F' b->F b\/w.heap.size<=b
 ahL:∀{w p F X v l v' l'},M w p F X->eG F w v l->eG F w v' l'->l'.length<=400->sz X<=900->Calls Tryz.prog 22 #[.pointer (some ⟨p,0,none⟩),v,v'] w fun e w'=> ∃u,e=.returned (.tuple #[u,.int .i64 (DZ X l l').2])/\eG F w' u (DZ X l l').1/\Below w.heap.size w w'
section
variable {B : Nat} {E : Eng B} {w w' w1 w2 w3 : World} {p q : Nat} {F F' G G' : Nat -> Prop} {v u v' vp vv : Value} {l l' x : List Int} {X X' : E.σ} {P : mD}
def Eng.is (E:Eng B) (X:E.σ) (P:mD) (x:List Int):Bool × E.σ:=
 (decide ((E.pub X x).2.1=0/\(E.ver (E.pub X x).2.2 x).2.1=0/\(E.pub X x).1=P.pb/\(E.ver (E.pub X x).2.2 x).1=P.vf),(E.ver (E.pub X x).2.2 x).2.2)
def Eng.take (E:Eng B) (X:E.σ) (P:mD) (s b:List Int):List Int × Int × E.σ:=
 if (E.DZ X s b).2=0 then if (E.is X P (E.DZ X s b).1).1=true then ((E.DZ X s b).1,0,(E.is X P (E.DZ X s b).1).2) else ([],44,(E.is X P (E.DZ X s b).1).2)
 else ([],(E.DZ X s b).2,X)
def Eng.St (E:Eng B) (w:World) (p:Nat) (F:Nat->Prop) (X:E.σ) (w':World):Prop:=∃F',E.M w' p F' X/\lg p F w w'/\∀b,F' b->F b\/w.heap.size<=b
theorem Dy (h:Rd .u8 w v l.length (bf l)) (h':Rd .u8 w v' l'.length (bf l')) (ho:okB l) (ho':okB l'):Calls Tryz.prog 166 #[v,v'] w fun e w'=>e=.returned (.bool (decide (l=l')))/\w'=w:=by
 have H:=ay h;have H':=ay h';have HO:=ay ho;have HO':=ay ho';have HE:((strOf l.length (bf l)).toList==(strOf l'.length (bf l')).toList)=decide (l=l'):=by
  rw[aan];by_cases e:l=l'
  ·subst e;simp
  ·rw[decide_eq_false e,decide_eq_false fun h=>e (abm ho ho' (by unfold txV;rw[h]))]
 obtain⟨av,cv,rfl,_⟩:=h;obtain⟨av',cv',rfl,_⟩:=h';clear ho ho'
 go_enter Tryz.func166,Tryz.ntmps166
 go_wp2_with (first
  | (refine fC rfl (sU (e:=5) (v:=.slice av l.length cv) rfl rfl H.out mo Tryz.underlying5 yG (fun i hi=>HO.out.at i hi)) ?_)
  | (refine fC rfl (sU (e:=5) (v:=.slice av' l'.length cv') rfl rfl H'.out mo Tryz.underlying5 yG (fun i hi=>HO'.out.at i hi)) ?_))
 go_ret;exact⟨rfl,rfl⟩
theorem Zn (h:E.M w p F X) (hb:eG F w v x) (hp:eG F w vp P.pb) (hv:eG F w vv P.vf) (hs:E.sz X<=890):Calls Tryz.prog 110 #[.pointer (some ⟨p,0,none⟩),.agg #[.string P.nm,vp,vv],v] w fun e w'=>e=.returned (.bool (E.is X P x).1)/\E.St w p F (E.is X P x).2 w':=by
 obtain⟨A,hA⟩:∃A,A=E.pub X x:=⟨_,rfl⟩
 obtain⟨C,hC⟩:∃C,C=E.ver A.2.2 x:=⟨_,rfl⟩
 have HR:Hid (E.is X P x=(decide (A.2.1=0/\C.2.1=0/\A.1=P.pb/\C.1=P.vf),C.2.2)):=ay (by rw[hC,hA];rfl);rw[HR.out];have Nf:Hid (E.sz A.2.2<=891):=ay (by have:=E.szP X x;rw[hA];omega);have HCP:=ay (fun(w1:World) (b1:Below w.heap.size w w1)=>E.ado (E.below h b1) (hb.below b1) (by omega:E.sz X<=900));have HCV:=ay (fun(w1:World) (F1:Nat->Prop) (v1:Value) (m1:E.M w1 p F1 A.2.2) (b1:eG F1 w1 v1 x)=>E.adn m1 b1 (iw Nf.out aM));rw[<-hA] at HCP;rw[<-hC] at HCV;obtain⟨a1,a2,A3⟩:=A;obtain⟨c1,c2,C3⟩:=C
 dsimp only at HCP HCV Nf ⊢
 have H:=ay h;have HB:=ay hb;have HP:=ay hp;have HV:=ay hv;obtain⟨av,cv,rfl⟩:=hb.slice;obtain⟨ap,cp,rfl⟩:=hp.slice;obtain⟨aw,cw,rfl⟩:=hv.slice;obtain⟨nm,hnm⟩:∃n,n=P.nm:=⟨_,rfl⟩
 obtain⟨pb,hpb⟩:∃n,n=P.pb:=⟨_,rfl⟩
 obtain⟨vf,hvf⟩:∃n,n=P.vf:=⟨_,rfl⟩
 rw[<-hpb] at HP ⊢;rw[<-hvf] at HV ⊢;rw[<-hnm];obtain⟨DB,hDB⟩:∃D,D=decide (a2=0/\c2=0/\a1=pb/\c1=vf):=⟨_,rfl⟩
 have HDB:=ay hDB;rw[<-hDB];clear hA hC HR h hb hp hv hs hnm hpb hvf hDB
 go_enter Tryz.func110,Tryz.ntmps110
 go_upto_region 1 with(fail);refine aJ (fun w1=>w1.cell? ⟨w.heap.size,1,none⟩=some (.slice ap pb.length cp)/\w1.cell? ⟨w.heap.size,2,none⟩=some (.slice aw vf.length cw)/\w.heap.size<w1.heap.size/\Below w.heap.size w w1) ⟨cell_of_row _ _ 1 _ _ (0,0) (heap_alloc_new w _),cell_of_row _ _ 2 _ _ (0,0) (heap_alloc_new w _),by simp,(bT _ _).alloc (bH _) _⟩ ?_;rintro w1 ⟨k1,k2,s1,b1⟩;have K1:=ay k1;have K2:=ay k2;have Ng:=ay s1;have B1:=ay b1;have HN4:Hid (¬ (w.heap.size=p\/F w.heap.size)):=ay fun hh=>absurd (E.lt H.out hh) (Nat.lt_irrefl _);obtain⟨x4,hx4⟩:∃x,x=w.heap.size:=⟨_,rfl⟩
 have RY:=ay hx4;rw[<-hx4] at K1 K2 Ng HN4 ⊢;clear k1 k2 s1 b1 hx4;go_wp2_with fail;refine(HCP.out w1 (RY.out▸B1.out)).mono ?_;rintro e w2 ⟨u2,rfl,F2,m2,y2,ch2,f2⟩;have M2:=ay m2;have Y2:=ay y2;have VD:=ay ch2;have FF2:=ay f2;obtain⟨au,cu,rfl⟩:=y2.slice;clear m2 y2 ch2 f2;go_wp2_with fail;refine(HCV.out w2 F2 _ M2.out ((HB.out.below (RY.out▸B1.out)).Ah VD.out FF2.out)).mono ?_;rintro e w3 ⟨u3,rfl,F3,m3,y3,Nr,f3⟩;obtain⟨az,cz,rfl⟩:=y3.slice;have HM3:=ay m3;have HPB:=ay (((HP.out.below (RY.out▸B1.out)).Ah VD.out FF2.out).Ah Nr f3);have HVF:=ay (((HV.out.below (RY.out▸B1.out)).Ah VD.out FF2.out).Ah Nr f3);have Y3:=ay y3;have Y2':=ay (Y2.out.Ah Nr f3);have HS2:=VD.out.gL.size;have DW:=B1.out.size;have Vq:¬ (x4=p\/F2 x4):=fun hh=>hh.elim (fun e=>HN4.out (.inl e)) fun e=>(FF2.out _ e).elim (fun e=>HN4.out (.inr e)) fun e=>absurd Ng.out (Nat.not_lt.2 e);have k1:=(Nr.gL.cell (p:=⟨x4,1,none⟩) (qZ Ng.out HS2) Vq).trans ((VD.out.gL.cell (p:=⟨x4,1,none⟩) Ng.out HN4.out).trans K1.out);have k2:=(Nr.gL.cell (p:=⟨x4,2,none⟩) (qZ Ng.out HS2) Vq).trans ((VD.out.gL.cell (p:=⟨x4,2,none⟩) Ng.out HN4.out).trans K2.out);have HST:Hid (E.St w p F C3 w3):=ay ⟨F3,HM3.out,((lg.of_below (RY.out▸B1.out) F).trans VD.out fun b hb=>.inl hb).trans Nr fun b hb=>(FF2.out b hb).imp id fun h=>iw (RY.out▸DW) h,fun b hb=>(f3 b hb).elim (fun h=>(FF2.out b h).imp id fun h=>iw (RY.out▸DW) h) fun h=>.inr (iw (RY.out▸DW) (iw HS2 h))⟩;have HE1:=ay (Dy Y2'.out.rd HPB.out.rd Y2'.out.ok HPB.out.ok);have HE2:=ay (Dy Y3.out.rd HVF.out.rd Y3.out.ok HVF.out.ok);clear m3 y3 Nr f3 HS2 DW Vq;by_cases e1:a2=0
 ·have q1:(a2==0)=true:=by simpa using e1
  by_cases e2:c2=0
  ·have q2:(c2==0)=true:=by simpa using e2
   by_cases e3:a1=pb
   ·rw[decide_eq_true e3] at HE1;obtain rfl:DB=decide (c1=vf):=HDB.out.trans (decide_eq_decide.2 ⟨fun h=>h.2.2.2,fun h=>⟨e1,e2,e3,h⟩⟩);clear e1 e2 e3;go_wp2_with fail;refine HE1.out.mono ?_;rintro e w4 ⟨rfl,rfl⟩;go_wp2_with fail;refine HE2.out.mono ?_;rintro e w5 ⟨rfl,rfl⟩;go_wp2;go_ret;exact⟨rfl,HST.out⟩
   ·rw[decide_eq_false e3] at HE1;obtain rfl:DB=false:=HDB.out.trans (decide_eq_false fun h=>e3 h.2.2.1);clear e1 e2 e3;go_wp2_with fail;refine HE1.out.mono ?_;rintro e w4 ⟨rfl,rfl⟩;go_wp2;go_ret;exact⟨rfl,HST.out⟩
  ·have q2:(c2==0)=false:=by simpa using e2
   obtain rfl:DB=false:=HDB.out.trans (decide_eq_false fun h=>e2 h.2.1);clear e1 e2;go_wp2;go_ret;exact⟨rfl,HST.out⟩
 ·have q1:(a2==0)=false:=by simpa using e1
  obtain rfl:DB=false:=HDB.out.trans (decide_eq_false fun h=>e1 h.1);clear e1;go_wp2;go_ret;exact⟨rfl,HST.out⟩
end
theorem Tryz.sizePs:(Tryz.prog.info? 78).map (·.size)=some 3:=by kernel_rfl
section
variable {B : Nat} {E : Eng B} {w w' w1 w2 w3 : World} {p q : Nat} {F F' G G' : Nat -> Prop} {v u v' vs vb vp vv : Value} {l l' x s b : List Int} {X X' : E.σ} {P : mD} {z : Nat -> Value}
def Eng.Res (E:Eng B) (w:World) (p:Nat) (F:Nat->Prop) (u:Value) (r:List Int × Int × E.σ) (w':World):Prop:=∃F',E.M w' p F' r.2.2/\eG F' w' u r.1/\lg p F w w'/\∀b,F' b->F b\/w.heap.size<=b
theorem PG (h:E.M w p F X) (hP:Ec F w z P) (hs:eG F w vs s) (hb:eG F w vb b) (hl:b.length<=400) (hz:E.sz X<=890):Calls Tryz.prog 51 #[.pointer (some ⟨p,0,none⟩),.agg (gV 3 z),vs,vb] w fun e w'=> ∃u,e=.returned (.tuple #[u,.int .i64 (E.take X P s b).2.1])/\E.Res w p F u (E.take X P s b) w':=by
 obtain⟨U,hU⟩:∃U,U=E.DZ X s b:=⟨_,rfl⟩
 obtain⟨I,hI⟩:∃I,I=E.is X P U.1:=⟨_,rfl⟩
 obtain⟨R,hR⟩:∃R,R=E.take X P s b:=⟨_,rfl⟩
 have HR:Hid (R=if U.2=0 then if I.1=true then (U.1,0,I.2) else ([],44,I.2) else ([],U.2,X)):=ay (by rw[hR,hI,hU];rfl);have HCU:=ay (fun(w1:World) (b1:Below w.heap.size w w1)=>E.ahL (E.below h b1) (hs.below b1) (hb.below b1) hl (by omega:E.sz X<=900));rw[<-hU] at HCU;rw[<-hR];have HCI:Hid (∀(w1:World),Below w.heap.size w w1->∀v,eG F w1 v U.1->Calls Tryz.prog 110 #[.pointer (some ⟨p,0,none⟩),.agg (gV 3 z),v] w1 fun e w'=>e=.returned (.bool I.1)/\E.St w1 p F I.2 w'):=ay fun w1 b1 v hv=>by
  have:=Zn (E.below h b1) hv (hP.z1.below b1) (hP.z2.below b1) hz;rw[<-hI] at this;rw[show (gV 3 z)=#[.string P.nm,z 1,z 2] from by rw[<-hP.z0];rfl];exact this
 obtain⟨U1,U2⟩:=U;obtain⟨I1,I2⟩:=I
 dsimp only at HCU HCI HR
 have H:=ay h;have HZ:=ay hP.one;obtain⟨a1,c1,rfl⟩:=hs.slice;obtain⟨a2,c2,rfl⟩:=hb.slice;clear hU hI hR h hP hs hb hl hz
 go_enter Tryz.func51,Tryz.ntmps51
 go_upto_region 1 with(fail);refine aJ (fun w1=>iM w1 w.heap.size 3 78 z/\Below w.heap.size w w1) ⟨iM.new,(bT _ _).alloc (bH _) _⟩ ?_;rintro w1 ⟨r1,b1⟩;have R1:=ay r1;have B1:=ay b1;obtain⟨x5,hx5⟩:∃x,x=w.heap.size:=⟨_,rfl⟩
 rw[<-hx5] at R1 ⊢;clear r1 b1 hx5;go_wp2_with fail;refine(HCU.out w1 B1.out).mono ?_;rintro e w2 ⟨u2,rfl,y2,b2⟩;have Y2:=ay y2;have B2:=ay (B1.out.trans (b2.mono B1.out.size));have R2:Hid (∀i,i<3->w2.cell? ⟨x5,0+i,none⟩=some (z i)):=ay fun i hi=>by rw[qY];exact(R1.out.below b2).2 i hi
 obtain⟨a3,c3,rfl⟩:=y2.slice;clear y2 b2;by_cases e2:U2=0
 ·have q1:(U2 !=0)=false:=by simpa using e2
  rw[if_pos e2] at HR;clear e2;go_wp2_with (refine jl rfl rfl rfl Tryz.underlying78 rfl Tryz.sizePs R2.out ?_);refine(HCI.out w2 B2.out _ Y2.out).mono ?_;rintro e w3 ⟨rfl,iN⟩;have HST:=ay iN;clear iN
  cases I1 with
  | true=>
   obtain rfl:=HR.out.trans (if_pos rfl);go_wp2;go_ret2;obtain⟨F3,m3,Nr,f3⟩:=HST.out;exact⟨_,rfl,F3,m3,Y2.out.Ah Nr f3,(lg.of_below B2.out F).trans Nr fun b hb=>.inl hb,fun b hb=>(f3 b hb).imp id fun h=>iw B2.out.size h⟩
  | false=>
   obtain rfl:=HR.out.trans (if_neg aM);go_wp2;go_ret2;obtain⟨F3,m3,Nr,f3⟩:=HST.out;exact⟨_,rfl,F3,m3,eG.nil _ _,(lg.of_below B2.out F).trans Nr fun b hb=>.inl hb,fun b hb=>(f3 b hb).imp id fun h=>iw B2.out.size h⟩
 ·have q1:(U2 !=0)=true:=by simpa using e2
  rw[if_neg e2] at HR;clear e2;obtain rfl:=HR.out;go_wp2;go_ret2;exact⟨_,rfl,F,E.below H.out B2.out,eG.nil _ _,lg.of_below B2.out F,fun b hb=>.inl hb⟩
end
section
variable {w w' w1 w2 w3 : World} {p : Nat} {F : Nat -> Prop} {v : Value} {z : Nat -> Value} {q : Nat -> Nat -> Value}
theorem Tryz.sizePsC:(Tryz.prog.info? 78).map (·.size)=some 3:=by kernel_rfl
theorem Zm {c:Nat} {a nm:ByteArray} (hz:z 0=.string a) (hc:w.cell? ⟨c,0,none⟩=some (.string nm)) (hl:c<w.heap.size):Calls Tryz.prog 163 #[.agg (gV 3 z),.pointer (some ⟨c,0,none⟩)] w fun e w'=>e=.returned (.bool (decide (a=nm)))/\Below w.heap.size w w':=by
 have HZ:=ay hz;have HQ:=ay (aan a nm)
 go_enter Tryz.func163,Tryz.ntmps163
 go_upto_region 1 with(fail);refine aJ (fun w1=>w1.cell? ⟨w.heap.size,0,none⟩=some (.string a)/\w1.cell? ⟨c,0,none⟩=some (.string nm)/\Below w.heap.size w w1) ⟨((iM.new (n:=3) (z:=z)).2 0 aM).trans (by rw[hz]),(((bT w.heap.size w).alloc (bH _) (.cells (gV 3 z) 78)).cell (p:=⟨c,0,none⟩) hl).trans hc,(bT _ _).alloc (bH _) _⟩ ?_;rintro w1 ⟨k0,k1,b1⟩;have B1:=ay b1;clear hz hc hl b1;go_wp2;go_ret;exact⟨by rw[HQ.out];rfl,B1.out⟩
theorem Zl {c:Nat} {nm:ByteArray} {L:List mD} (hR:uX (Ec F) 78 3 w v L q) (hc:w.cell? ⟨c,0,none⟩=some (.string nm)) (hl:c<w.heap.size):Calls Tryz.prog 162 #[v,.func (.func 163) #[] #[.pointer (some ⟨c,0,none⟩)]] w fun e w'=>e=.returned (.int .i64 (zx (L.map (·.nm)) nm))/\Below w.heap.size w w':=by
 have HB:=ay hR.bs;have HOS:=ay hR.os.m;have HC:=ay hc;have HL:=ay hl;obtain⟨m,hm⟩:∃m,m=L.length:=⟨_,rfl⟩
 have HM:=ay hm;rw[<-hm] at HOS;obtain⟨a,cap,rfl,hcap,hcap2⟩:=HOS.out.slice;obtain⟨RI,Pk⟩:∃r,r=zx (L.map (·.nm)) nm:=⟨_,rfl⟩
 have HRI:=ay Pk;rw[<-Pk];clear hR hm hc hl Pk
 go_enter Tryz.func162,Tryz.ntmps162
 go_wp2
 go_loopw [8] (fun i wr=> ∃k:Nat,k<=m/\i=.int .i64 k/\(∀(j:Nat) a,j<k->(L.map (·.nm))[j]? =some a->a≠nm)/\Below w.heap.size w wr) (fun i _=>m - (intOf i).toNat)
 case atStart=>exact⟨0,jm _,rfl,fun j d hj=>absurd hj (Nat.not_lt_zero _),bT _ _⟩
 case round=>
  obtain⟨k,hk,rfl,hle,Pn⟩:=hrel;have HLE:=ay hle;have rR:=ay Pn;clear hle Pn;by_cases hlt:k<m
  ·obtain⟨g,cap',e,hrow,_,_,hcell⟩:=HOS.out.form aH;cases e
   have hgl:g<w.heap.size:=hrow.lt;have uY:Hid (∀i,i<3->wr.cell? ⟨g,k * 3+i,none⟩=some (q k i)):=fun i hi=>(rR.out.cell (p:=⟨g,k * 3+i,none⟩) hgl).trans (hcell k hlt i hi);obtain⟨d,hd⟩:∃d,L[k]? =some d:=⟨_,kP (by rw[<-HM.out];exact hlt)⟩
   have HDK:=ay hd;have HCC:Hid (Calls Tryz.prog 163 #[.agg (gV 3 (q k)),.pointer (some ⟨c,0,none⟩)] wr fun e w'=>e=.returned (.bool (decide (d.nm=nm)))/\Below wr.heap.size wr w'):=ay (Zm (HB.out k d hd).z0 ((rR.out.cell (p:=⟨c,0,none⟩) HL.out).trans HC.out) (qZ HL.out rR.out.size));clear hd hrow hcell hgl;go_wp2_with (refine jl rfl rfl rfl Tryz.underlying78 rfl Tryz.sizePsC uY.out ?_);refine HCC.out.mono ?_;rintro e w1 ⟨rfl,b1⟩;have HB1:=ay (rR.out.trans (b1.mono rR.out.size));clear b1 uY HCC;by_cases hn:d.nm=nm
   ·rw[decide_eq_true hn];obtain rfl:RI=(k:Int):=HRI.out.trans (by
     have e:Bq (L.map (·.nm)) nm=k:=Bo (by rw[List.getElem?_map,HDK.out];simp[hn]) HLE.out;unfold zx;rw[e,List.length_map,←HM.out,if_pos hlt])
    clear hn;go_wp2;go_ret;exact⟨rfl,HB1.out⟩
   ·rw[decide_eq_false hn];have Qs:=ay hn;clear hn;go_wp2;go_roundw
    case rel=>exact⟨k+1,by omega,by go_num,fun j a' hj ha'=>by
     by_cases e:j=k
     ·subst e;rw[List.getElem?_map,HDK.out] at ha';cases ha';exact Qs.out
     ·exact HLE.out j a' aH ha',HB1.out⟩
    case measure=>simp[intOf];omega
  ·obtain rfl:k=m:=by omega
   obtain rfl:RI= -1:=HRI.out.trans (by
    have e:Bq (L.map (·.nm)) nm=(L.map (·.nm)).length:=Py fun j a ha=>HLE.out j a (by have:=(List.getElem?_eq_some_iff.1 ha).1;rw[List.length_map,←HM.out] at this;exact this) ha;unfold zx;rw[e,if_neg (Nat.lt_irrefl _)])
   clear hlt;go_wp2;go_ret;exact⟨rfl,rR.out⟩
theorem Tryz.sizeHdC:(Tryz.prog.info? 71).map (·.size)=some 2:=by kernel_rfl
theorem Zp {c:Nat} {a nm:ByteArray} (hz:z 0=.string a) (hc:w.cell? ⟨c,0,none⟩=some (.string nm)) (hl:c<w.heap.size):Calls Tryz.prog 165 #[.agg (gV 2 z),.pointer (some ⟨c,0,none⟩)] w fun e w'=>e=.returned (.bool (decide (a=nm)))/\Below w.heap.size w w':=by
 have HZ:=ay hz;have HQ:=ay (aan a nm)
 go_enter Tryz.func165,Tryz.ntmps165
 go_upto_region 1 with(fail);refine aJ (fun w1=>w1.cell? ⟨w.heap.size,0,none⟩=some (.string a)/\w1.cell? ⟨c,0,none⟩=some (.string nm)/\Below w.heap.size w w1) ⟨((iM.new (n:=2) (z:=z)).2 0 aM).trans (by rw[hz]),(((bT w.heap.size w).alloc (bH _) (.cells (gV 2 z) 71)).cell (p:=⟨c,0,none⟩) hl).trans hc,(bT _ _).alloc (bH _) _⟩ ?_;rintro w1 ⟨k0,k1,b1⟩;have B1:=ay b1;clear hz hc hl b1;go_wp2;go_ret;exact⟨by rw[HQ.out];rfl,B1.out⟩
theorem Zo {c:Nat} {nm:ByteArray} {L:List EW} (hR:uX (Vm F) 71 2 w v L q) (hc:w.cell? ⟨c,0,none⟩=some (.string nm)) (hl:c<w.heap.size):Calls Tryz.prog 223 #[v,.func (.func 165) #[] #[.pointer (some ⟨c,0,none⟩)]] w fun e w'=>e=.returned (.int .i64 (zx (L.map (·.nm)) nm))/\Below w.heap.size w w':=by
 have HB:=ay hR.bs;have HOS:=ay hR.os.m;have HC:=ay hc;have HL:=ay hl;obtain⟨m,hm⟩:∃m,m=L.length:=⟨_,rfl⟩
 have HM:=ay hm;rw[<-hm] at HOS;obtain⟨a,cap,rfl,hcap,hcap2⟩:=HOS.out.slice;obtain⟨RI,Pk⟩:∃r,r=zx (L.map (·.nm)) nm:=⟨_,rfl⟩
 have HRI:=ay Pk;rw[<-Pk];clear hR hm hc hl Pk
 go_enter Tryz.func223,Tryz.ntmps223
 go_wp2
 go_loopw [8] (fun i wr=> ∃k:Nat,k<=m/\i=.int .i64 k/\(∀(j:Nat) a,j<k->(L.map (·.nm))[j]? =some a->a≠nm)/\Below w.heap.size w wr) (fun i _=>m - (intOf i).toNat)
 case atStart=>exact⟨0,jm _,rfl,fun j d hj=>absurd hj (Nat.not_lt_zero _),bT _ _⟩
 case round=>
  obtain⟨k,hk,rfl,hle,Pn⟩:=hrel;have HLE:=ay hle;have rR:=ay Pn;clear hle Pn;by_cases hlt:k<m
  ·obtain⟨g,cap',e,hrow,_,_,hcell⟩:=HOS.out.form aH;cases e
   have hgl:g<w.heap.size:=hrow.lt;have uY:Hid (∀i,i<2->wr.cell? ⟨g,k * 2+i,none⟩=some (q k i)):=fun i hi=>(rR.out.cell (p:=⟨g,k * 2+i,none⟩) hgl).trans (hcell k hlt i hi);obtain⟨d,hd⟩:∃d,L[k]? =some d:=⟨_,kP (by rw[<-HM.out];exact hlt)⟩
   have HDK:=ay hd;have HCC:Hid (Calls Tryz.prog 165 #[.agg (gV 2 (q k)),.pointer (some ⟨c,0,none⟩)] wr fun e w'=>e=.returned (.bool (decide (d.nm=nm)))/\Below wr.heap.size wr w'):=ay (Zp (HB.out k d hd).z0 ((rR.out.cell (p:=⟨c,0,none⟩) HL.out).trans HC.out) (qZ HL.out rR.out.size));clear hd hrow hcell hgl;go_wp2_with (refine jl rfl rfl rfl Tryz.underlying71 rfl Tryz.sizeHdC uY.out ?_);refine HCC.out.mono ?_;rintro e w1 ⟨rfl,b1⟩;have HB1:=ay (rR.out.trans (b1.mono rR.out.size));clear b1 uY HCC;by_cases hn:d.nm=nm
   ·rw[decide_eq_true hn];obtain rfl:RI=(k:Int):=HRI.out.trans (by
     have e:Bq (L.map (·.nm)) nm=k:=Bo (by rw[List.getElem?_map,HDK.out];simp[hn]) HLE.out;unfold zx;rw[e,List.length_map,←HM.out,if_pos hlt])
    clear hn;go_wp2;go_ret;exact⟨rfl,HB1.out⟩
   ·rw[decide_eq_false hn];have Qs:=ay hn;clear hn;go_wp2;go_roundw
    case rel=>exact⟨k+1,by omega,by go_num,fun j a' hj ha'=>by
     by_cases e:j=k
     ·subst e;rw[List.getElem?_map,HDK.out] at ha';cases ha';exact Qs.out
     ·exact HLE.out j a' aH ha',HB1.out⟩
    case measure=>simp[intOf];omega
  ·obtain rfl:k=m:=by omega
   obtain rfl:RI= -1:=HRI.out.trans (by
    have e:Bq (L.map (·.nm)) nm=(L.map (·.nm)).length:=Py fun j a ha=>HLE.out j a (by have:=(List.getElem?_eq_some_iff.1 ha).1;rw[List.length_map,←HM.out] at this;exact this) ha;unfold zx;rw[e,if_neg (Nat.lt_irrefl _)])
   clear hlt;go_wp2;go_ret;exact⟨rfl,rR.out⟩
def zPs:Nat->Value:=fun i=>if i=0 then .string .empty else .slice none 0 0
def mG (L:List mD) (nm:ByteArray):mD × Bool:=match L[Bq (L.map (·.nm)) nm]? with
 | some a=>(a,true)
 | none=>(⟨.empty, [], []⟩,false)
theorem Qw (F:Nat->Prop) (w:World):Ec F w zPs ⟨.empty, [], []⟩:=⟨rfl,eG.nil _ _,eG.nil _ _⟩
theorem aeU:gV 3 zPs=#[.string ⟨#[]⟩,.slice none 0 0,.slice none 0 0] :=rfl
theorem iM.at {b n:Nat} {e:TypeId} (h:iM w b n e z):w.heap[b]? =some (.cells (gV n z) e (0,0)):=by
 obtain⟨⟨cur,hc,hs⟩,h2⟩:=h;have:cur=gV n z:=Array.ext_getElem? fun i=>by
  by_cases hi:i<n
  ·rw[<-cell_of_row w b i cur e (0,0) hc,h2 i hi,xC hi]
  ·rw[Array.getElem?_eq_none aH,Array.getElem?_eq_none (by rw[kU];omega)]
 rw[hc,this]
theorem vI {P:Program} {fn:Func} {p q:Tmp} {T:TypeId} (h:fn.results=#[.cell p T,.tmp q]) (tmps:Array Value) (w:World) (b n:Nat) (z:Nat->Value) (e:TypeId) {d:TypeDesc}
  (hp:tmps.getD p undef=.pointer (some ⟨b,0,none⟩)) (ha:iM w b n e z) (hu:P.underlying T=some d) (hd:EL d=true) (hi:(P.info? T).map (·.size)=some n):
  (results fn tmps).run P w=.ok (.tuple #[.agg (gV n z),tmps.getD q undef]) w:=by
 have ht:=iM.at ha;have hp':tmps[p]?.getD undef=.pointer (some ⟨b,0,none⟩):=by simpa using hp
 simp[results,h,hp',asAddr,run_loadVar_row w b e T (gV n z) (0,0) _ ht hu (by cases d<;> first | rfl | cases hd) (by rw[hi,kU])]
theorem rP {nm:ByteArray} {L:List mD} (hR:uX (Ec F) 78 3 w v L q):Calls Tryz.prog 108 #[v,.string nm] w fun e w'=> ∃z,e=.returned (.tuple #[.agg (gV 3 z),.bool (mG L nm).2])/\Ec F w' z (mG L nm).1/\Below w.heap.size w w':=by
 have HB:=ay hR.bs;have HOS:=ay hR.os.m;obtain⟨m,hm⟩:∃m,m=L.length:=⟨_,rfl⟩
 have HM:=ay hm;rw[<-hm] at HOS;obtain⟨a,cap,rfl,hcap,hcap2⟩:=HOS.out.slice;have HIX:=ay (fun(w1:World) (b1:Below w.heap.size w w1) (c:Nat) (hc:w1.cell? ⟨c,0,none⟩=some (.string nm)) (hl:c<w1.heap.size)=>Zl (nm:=nm) (⟨hR.os.below b1,fun j a ha=>(HB.out j a ha).below b1⟩:uX (Ec F) 78 3 w1 _ L q) hc hl);obtain⟨PA,Pm⟩:∃x,x=mG L nm:=⟨_,rfl⟩
 have Nh:=ay Pm;rw[<-Pm];obtain⟨RI,Pk⟩:∃r,r=zx (L.map (·.nm)) nm:=⟨_,rfl⟩
 have HRI:=ay Pk;rw[<-Pk] at HIX;clear hR hm Pm Pk
 go_enter Tryz.func108,Tryz.ntmps108
 go_upto_region 1 with(fail);rw[<-aeU];refine aJ (fun w1=>w1.cell? ⟨w.heap.size,0,none⟩=some (.string nm)/\iM w1 (w.heap.size+1) 3 78 zPs/\w.heap.size<w1.heap.size/\Below w.heap.size w w1) ⟨?_,?_,?_,((bT _ _).alloc (bH _) _).alloc aR _⟩ ?_
 ·exact(((bT (w.heap.size+1) (w.alloc (.cells #[.string nm] 9))).alloc aR _).cell (p:=⟨w.heap.size,0,none⟩) aR).trans (cell_of_row _ _ 0 _ _ (0,0) (heap_alloc_new w _))
 ·have:=iM.new (w:=w.alloc (.cells #[.string nm] 9)) (n:=3) (z:=zPs) (t:=78);rw[World.size_alloc] at this;exact this
 ·rw[World.size_alloc,World.size_alloc];omega
 rintro w1 ⟨k0,r1,s1,b1⟩;have K0:=ay k0;have R1:=ay r1;have S1:=ay s1;have B1:=ay b1;obtain⟨x4,hx4⟩:∃x,x=w.heap.size+1:=⟨_,rfl⟩
 have RY:Hid (w.heap.size<=x4):=ay aH;rw[<-hx4] at R1 ⊢;obtain⟨x3,hx3⟩:∃x,x=w.heap.size:=⟨_,rfl⟩
 have Qr:=ay hx3;rw[<-hx3] at K0 S1 ⊢;clear k0 r1 s1 b1 hx3 hx4;go_wp2_with fail;refine(HIX.out w1 (Qr.out▸B1.out) x3 K0.out S1.out).mono ?_;rintro e w2 ⟨rfl,b2⟩;have R2:=ay (R1.out.below b2);have B2:=ay (B1.out.trans (b2.mono B1.out.size));clear b2 R1 K0;by_cases hf:Bq (L.map (·.nm)) nm<L.length
 ·obtain⟨k,hk⟩:∃k,k=Bq (L.map (·.nm)) nm:=⟨_,rfl⟩
  obtain rfl:RI=(k:Int):=HRI.out.trans (by unfold zx;rw[List.length_map,if_pos hf,hk]);obtain⟨d,hd⟩:∃d,L[k]? =some d:=⟨_,kP (by rw[hk];exact hf)⟩
  obtain rfl:PA=(d,true):=Nh.out.trans (by unfold mG;rw[<-hk,hd]);have hlt:k<m:=by rw[HM.out,hk];exact hf
  obtain⟨g,cap',e,hrow,_,_,hcell⟩:=HOS.out.form aH;cases e
  have hgl:g<w.heap.size:=hrow.lt;have uY:Hid (∀i,i<3->w2.cell? ⟨g,k * 3+i,none⟩=some (q k i)):=fun i hi=>(B2.out.cell (p:=⟨g,k * 3+i,none⟩) (Qr.out▸hgl)).trans (hcell k hlt i hi);have HOC:=ay (HB.out k d hd).one;have HDK:=ay hd;have q1:decide ((k:Int)<0)=false:=decide_eq_false aH;clear hf hk hd hrow hcell hgl
  go_wp2_with (first
   | (refine jl rfl rfl rfl Tryz.underlying78 rfl Tryz.sizePsC uY.out ?_)
   | (refine gU rfl 78 _ _ rfl x4 3 (q k) _ 78 (iM.at R2.out) (kU _ _) Tryz.sizePsC rfl rfl HOC.out ?_))
  exact bodyPost_ret (vI rfl _ _ x4 3 _ 78 rfl (iM.setRow (iM.at R2.out)) Tryz.underlying78 rfl Tryz.sizePsC) rfl ⟨_,rfl,(HB.out k d HDK.out).below (aB (Qr.out▸B2.out) RY.out _),aB (Qr.out▸B2.out) RY.out _⟩
 ·obtain rfl:RI= -1:=HRI.out.trans (by unfold zx;rw[List.length_map,if_neg hf]);obtain rfl:PA=(⟨.empty, [], []⟩,false):=Nh.out.trans (by unfold mG;rw[List.getElem?_eq_none aH]);clear hf;go_wp2_with (refine gU rfl 78 _ _ rfl x4 3 zPs _ 78 (iM.at R2.out) (kU _ _) Tryz.sizePsC rfl rfl (Qw F w).one ?_);exact bodyPost_ret (vI rfl _ _ x4 3 _ 78 rfl (iM.setRow (iM.at R2.out)) Tryz.underlying78 rfl Tryz.sizePsC) rfl ⟨_,rfl,Qw F _,aB (Qr.out▸B2.out) RY.out _⟩
theorem Ut {nm:ByteArray} {L:List EW} (hR:uX (Vm F) 71 2 w v L q):Calls Tryz.prog 109 #[v,.string nm] w fun e w'=>e=.returned (.bool (decide (Bq (L.map (·.nm)) nm<L.length)))/\Below w.heap.size w w':=by
 have HB:=ay hR.bs;have HIX:=ay (fun(w1:World) (b1:Below w.heap.size w w1) (c:Nat) (hc:w1.cell? ⟨c,0,none⟩=some (.string nm)) (hl:c<w1.heap.size)=>Zo (nm:=nm) (⟨hR.os.below b1,fun j a ha=>(HB.out j a ha).below b1⟩:uX (Vm F) 71 2 w1 _ L q) hc hl);obtain⟨RI,Pk⟩:∃r,r=zx (L.map (·.nm)) nm:=⟨_,rfl⟩
 obtain⟨RB,hRB⟩:∃r,r=decide (Bq (L.map (·.nm)) nm<L.length):=⟨_,rfl⟩
 have HRB:Hid (RB=decide (0<=RI)):=ay (by
  rw[hRB,Pk];unfold zx;rw[List.length_map];by_cases h:Bq (L.map (·.nm)) nm<L.length
  ·rw[if_pos h,decide_eq_true h,decide_eq_true aH]
  ·rw[if_neg h,decide_eq_false h];rfl)
 rw[<-Pk] at HIX;rw[<-hRB];obtain⟨m,hm⟩:∃m,m=L.length:=⟨_,rfl⟩
 obtain⟨a,cap,rfl,hcap,hcap2⟩:=hR.os.m.slice;rw[<-hm] at HIX ⊢;clear hR HB hm Pk hRB;have HIC:Hid (∀(w1:World),Below w.heap.size w w1->∀(c:Nat),w1.cell? ⟨c,0,none⟩=some (.string nm)->c<w1.heap.size->Calls Tryz.prog 164 #[.slice a m cap,.func (.func 165) #[] #[.pointer (some ⟨c,0,none⟩)]] w1 fun e w'=>e=.returned (.bool (decide (0<=RI)))/\Below w1.heap.size w1 w'):=ay fun w1 b1 c hc hl=>by
  have HC:=ay (HIX.out w1 b1 c hc hl);clear HIX HRB hc hl b1
  go_enter Tryz.func164,Tryz.ntmps164
  go_wp2_with fail;refine HC.out.mono ?_;rintro e w2 ⟨rfl,b2⟩;have B2:=ay b2;clear b2;go_wp2;go_ret;exact⟨rfl,B2.out⟩
 clear HIX
 go_enter Tryz.func109,Tryz.ntmps109
 go_upto_region 1 with(fail);refine aJ (fun w1=>w1.cell? ⟨w.heap.size,0,none⟩=some (.string nm)/\w.heap.size<w1.heap.size/\Below w.heap.size w w1) ⟨cell_of_row _ _ 0 _ _ (0,0) (heap_alloc_new w _),by simp,(bT _ _).alloc (bH _) _⟩ ?_;rintro w1 ⟨k0,s1,b1⟩;have K0:=ay k0;have S1:=ay s1;have B1:=ay b1;clear k0 s1 b1;go_wp2_with fail;refine(HIC.out w1 B1.out _ K0.out S1.out).mono ?_;rintro e w2 ⟨rfl,b2⟩;have B2:=ay (B1.out.trans (b2.mono B1.out.size));have HE:=ay HRB.out.symm;clear b2;go_wp2;go_ret;exact⟨by rw[HRB.out];rfl,B2.out⟩
end
structure EU (T:Type) where
 X:T
 out:List EW
 bad:Bool
section
variable {B : Nat} {w w' w0 w1 w2 w3 : World} {p : Nat} {F F' F0 : Nat -> Prop} {v u vo VG : Value} {x : List Int} {z : Nat -> Value} {q qo : Nat -> Nat -> Value}
def Eng.one (E:Eng B) (ro:List mD) (h:EW) (s:EU E.σ) (d:qG):EU E.σ:=
 if d.ta=h.nm then
  if (mG ro d.fr).2=false\/(E.take s.X (mG ro d.fr).1 h.sc d.b).2.1≠0 then ⟨(E.take s.X (mG ro d.fr).1 h.sc d.b).2.2,s.out,true⟩
  else if LX s.out d.fr=true then ⟨(E.take s.X (mG ro d.fr).1 h.sc d.b).2.2,s.out,s.bad⟩
  else ⟨(E.take s.X (mG ro d.fr).1 h.sc d.b).2.2,s.out++ [⟨d.fr,(E.take s.X (mG ro d.fr).1 h.sc d.b).1⟩],s.bad⟩
 else s
def Eng.inn (E:Eng B) (ro:List mD) (D:List qG) (h:EW) (s:EU E.σ):Nat->EU E.σ
 | 0=>s
 | k+1=>match D[k]? with
  | some d=>E.one ro h (E.inn ro D h s k) d
  | none=>E.inn ro D h s k
def Eng.all (E:Eng B) (ro:List mD) (D:List qG) (s:EU E.σ):Nat->EU E.σ
 | 0=>s
 | i+1=>match (E.all ro D s i).out[i]? with
  | some h=>E.inn ro D h (E.all ro D s i) D.length
  | none=>E.all ro D s i
variable {E : Eng B} {X : E.σ} {ro : List mD} {D : List qG} {s : EU E.σ} {h : EW} {d : qG}
theorem Eng.acd (E:Eng B) (ro:List mD) (h:EW) (s:EU E.σ) (d:qG):s.out <+:(E.one ro h s d).out:=by
 unfold Eng.one
 split
 ·split
  ·exact List.prefix_refl _
  ·split
   ·exact List.prefix_refl _
   ·exact List.prefix_append _ _
 ·exact List.prefix_refl _
theorem Eng.Io (E:Eng B) (ro:List mD) (D:List qG) (h:EW) (s:EU E.σ):∀k,s.out <+:(E.inn ro D h s k).out
 | 0=>List.prefix_refl _
 | k+1=>by
  show s.out <+:(match D[k]? with | some d=>E.one ro h (E.inn ro D h s k) d | none=>E.inn ro D h s k).out
  split
  ·exact(Eng.Io E ro D h s k).trans (E.acd _ _ _ _)
  ·exact Eng.Io E ro D h s k
theorem tq {A:Type} {l l':List A} (h:l <+:l') {j:Nat} {a:A} (ha:l[j]? =some a):l'[j]? =some a:=by
 obtain⟨t,rfl⟩:=h;rw[Jh (List.getElem?_eq_some_iff.1 ha).1];exact ha
def yu (D:List qG) (o:List EW):Nat:=D.countP fun d=>LX o d.fr
theorem Eng.ace (hd:d ∈ D) (hs:s.out.length<=1+yu D s.out):(E.one ro h s d).out.length<=1+yu D (E.one ro h s d).out:=by
 unfold Eng.one
 split
 ·split
  ·exact hs
  ·split
   ·exact hs
   ·rename_i hn
    have:yu D s.out+1<=yu D (s.out++ [⟨d.fr,(E.take s.X (mG ro d.fr).1 h.sc d.b).1⟩]):=Ag (fun x hx=>by
     rw[xY] at hx ⊢;rw[List.map_append,List.mem_append];exact .inl hx) hd (by rw[xY];simp) (by simpa using hn)
    show (s.out++ [_]).length<=1+yu D (s.out++ [_]);rw[List.length_append,List.length_singleton];omega
 ·exact hs
theorem Eng.Ip (hs:s.out.length<=1+yu D s.out):∀k,(E.inn ro D h s k).out.length<=1+yu D (E.inn ro D h s k).out
 | 0=>hs
 | k+1=>by
  have:=Eng.Ip hs k;show (match D[k]? with | some d=>E.one ro h (E.inn ro D h s k) d | none=>E.inn ro D h s k).out.length<=1+yu D (match D[k]? with | some d=>E.one ro h (E.inn ro D h s k) d | none=>E.inn ro D h s k).out
  split
  ·rename_i d hd
   exact Eng.ace (List.mem_of_getElem? hd) this
  ·exact this
theorem Eng.RQ (hs:s.out.length<=1+yu D s.out):∀i,(E.all ro D s i).out.length<=1+yu D (E.all ro D s i).out
 | 0=>hs
 | i+1=>by
  have:=Eng.RQ hs i;show (match (E.all ro D s i).out[i]? with | some h=>E.inn ro D h (E.all ro D s i) D.length | none=>E.all ro D s i).out.length<=1+yu D (match (E.all ro D s i).out[i]? with | some h=>E.inn ro D h (E.all ro D s i) D.length | none=>E.all ro D s i).out
  split
  ·exact Eng.Ip this _
  ·exact this
theorem RL (D:List qG) (o:List EW):yu D o<=D.length:=by unfold yu;exact List.countP_le_length
theorem Eng.szT (E:Eng B) (X:E.σ) (P:mD) (s b:List Int):E.sz (E.take X P s b).2.2<=E.sz X+2:=by
 have h1:=E.szP X (E.DZ X s b).1;have h2:=E.szV (E.pub X (E.DZ X s b).1).2.2 (E.DZ X s b).1;unfold Eng.take
 split
 ·split
  ·show E.sz (E.ver (E.pub X (E.DZ X s b).1).2.2 (E.DZ X s b).1).2.2<=_;omega
  ·show E.sz (E.ver (E.pub X (E.DZ X s b).1).2.2 (E.DZ X s b).1).2.2<=_;omega
 ·show E.sz X<=_;omega
theorem Eng.afQ:E.sz (E.one ro h s d).X<=E.sz s.X+2:=by
 have:=E.szT s.X (mG ro d.fr).1 h.sc d.b;unfold Eng.one
 split
 ·split
  ·exact this
  ·split<;> exact this
 ·omega
theorem Eng.OU:∀k,E.sz (E.inn ro D h s k).X<=E.sz s.X+2 * k
 | 0=>bH _
 | k+1=>by
  have:=Eng.OU k;show E.sz (match D[k]? with | some d=>E.one ro h (E.inn ro D h s k) d | none=>E.inn ro D h s k).X<=_
  split
  ·rename_i d hd
   have:=Eng.afQ (E:=E) (ro:=ro) (h:=h) (s:=E.inn ro D h s k) (d:=d);omega
  ·omega
theorem Eng.aar:∀i,E.sz (E.all ro D s i).X<=E.sz s.X+2 * (i * D.length)
 | 0=>by simp[Eng.all]
 | i+1=>by
  have:=Eng.aar i;have e:(i+1) * D.length=i * D.length+D.length:=Nat.succ_mul i D.length;show E.sz (match (E.all ro D s i).out[i]? with | some h=>E.inn ro D h (E.all ro D s i) D.length | none=>E.all ro D s i).X<=_
  split
  ·rename_i h hh
   have:=Eng.OU (E:=E) (ro:=ro) (D:=D) (h:=h) (s:=E.all ro D s i) D.length;omega
  ·omega
structure Bz (E:Eng B) (w0:World) (p:Nat) (F0:Nat->Prop) (w:World) (vo:Value) (s:EU E.σ) (F:Nat->Prop) (qo:Nat->Nat->Value):Prop where
 m:E.M w p F s.X
 ou:uX (Vm F) 71 2 w vo s.out qo
 oo:∀b,vo.ownBlock=some b->¬ (b=p\/F b)/\w0.heap.size<=b
 ch:lg p F0 w0 w
 fo:∀b,F b->F0 b\/w0.heap.size<=b
theorem Bz.below (g:Bz E w0 p F0 w vo s F qo) (hb:Below w.heap.size w w'):Bz E w0 p F0 w' vo s F qo:=
 ⟨E.below g.m hb,⟨g.ou.os.below hb,fun j a ha=>(g.ou.bs j a ha).below hb⟩,g.oo,g.ch.trans (lg.of_below hb F) g.fo,g.fo⟩
theorem Bz.res {r:List Int × Int × E.σ} (g:Bz E w0 p F0 w vo s F qo) (hr:E.Res w p F u r w'):∃F',Bz E w0 p F0 w' vo ⟨r.2.2,s.out,s.bad⟩ F' qo/\eG F' w' u r.1:=by
 obtain⟨F',h1,h2,h3,h4⟩:=hr;have hs:=g.ch.gL.size;refine⟨F',⟨h1,⟨g.ou.os.gL h3.gL fun b hb=>(g.oo b hb).1,fun j a ha=>(g.ou.bs j a ha).Ah h3 h4⟩,fun b hb=>⟨fun hf=>hf.elim (fun e=>(g.oo b hb).1 (.inl e)) fun hf=>(h4 b hf).elim (fun e=>(g.oo b hb).1 (.inr e)) fun h'=>by have:=g.ou.os.m.lt b hb;omega,(g.oo b hb).2⟩,g.ch.trans h3 g.fo,fun b hb=>(h4 b hb).elim (g.fo b) fun h=>.inr (iw hs h)⟩,h2⟩
theorem Bz.bad (g:Bz E w0 p F0 w vo s F qo) (b:Bool):Bz E w0 p F0 w vo ⟨s.X,s.out,b⟩ F qo:=⟨g.m,g.ou,g.oo,g.ch,g.fo⟩
theorem Bz.app {nm:ByteArray} (g:Bz E w0 p F0 w vo s F qo) (hu:eG F w u x) (ho:yI 71 2 w' VG (s.out.length+1) (nY s.out.length qo (fun _ i=>if i=0 then .string nm else u)))
  (hc:fV (fun b=>vo.ownBlock=some b) w w') (hp:∀b,VG.ownBlock=some b->vo.ownBlock=some b\/w.heap.size<=b):Bz E w0 p F0 w' VG ⟨s.X,s.out++ [⟨nm,x⟩],s.bad⟩ F (fun j=>if j=s.out.length then (fun i=>if i=0 then .string nm else u) else qo j):=by
 have hk:∀{v:Value} {l:List Int},eG F w v l->eG F w' v l:=fun g'=>⟨g'.ok,g'.rd.alI hc fun hn b hb hg=>(g.ou.os.z b hg).ne g'.rd hn b hb rfl,g'.off⟩
 have hs:=g.ch.gL.size;refine⟨E.keep g.m hc (fun e=>(g.oo p e).1 (.inl rfl)) fun b hb e=>(g.oo b e).1 (.inr hb),⟨?_,fun j a ha=>?_⟩,fun b hb=>?_,⟨g.ch.gL.trans hc fun b hb he=>by have:=(g.oo b he).2;omega,fun b hb hn i x hx=>(hc.cell (p:=⟨b,i,none⟩) (qZ hb hs) (fun he=>by have:=(g.oo b he).2;omega)).trans (g.ch.u8 b hb hn i x hx)⟩,g.fo⟩
 ·show yI _ _ _ _ (s.out++ [(⟨nm,x⟩:EW)]).length _;rw[List.length_append,List.length_singleton];refine ho.congr fun j hj i hi=>?_;by_cases hjl:j<s.out.length
  ·rw[uU hjl,if_neg aH]
  ·obtain rfl:j=s.out.length:=by omega
   rw[yw,if_pos rfl]
 ·have ha:(s.out++ [⟨nm,x⟩])[j]? =some a:=ha;by_cases hj:j<s.out.length
  ·rw[Jh hj] at ha;rw[if_neg aH];have:=g.ou.bs j a ha;exact⟨this.z0,hk this.z1⟩
  ·have:=(List.getElem?_eq_some_iff.1 ha).1;rw[List.length_append,List.length_singleton] at this;obtain rfl:j=s.out.length:=by omega
   rw[Ji (bH _),Nat.sub_self] at ha;rw[if_pos rfl,←gJ ha];exact⟨rfl,hk hu⟩
 ·rcases hp b hb with h' | h'
  ·exact g.oo b h'
  ·exact⟨fun hf=>by have:=E.lt g.m hf;omega,iw hs h'⟩
end
theorem Tryz.infoHeld:(Tryz.prog.info? 71).map (fun i=>(i.zero,i.size,i.bytes))=some (some (.agg #[.string ⟨#[]⟩,.slice none 0 0]),2,40):=by kernel_rfl
theorem Tryz.sizeDp:(Tryz.prog.info? 66).map (·.size)=some 3:=by kernel_rfl
section
variable {B : Nat} {w w' w0 w1 w2 w3 : World} {p : Nat} {F F' F0 : Nat -> Prop} {v u vo VG vr vl vs : Value} {x sec : List Int} {z zd : Nat -> Value} {q qo qr qd : Nat -> Nat -> Value} {E : Eng B} {X : E.σ} {ro : List mD} {D : List qG} {s : EU E.σ} {R : List Int × Int × E.σ} {yK : Nat}
def EO (E:Eng B) (w0:World) (p:Nat) (F0:Nat->Prop) (vo:Value) (s:EU E.σ) (qo:Nat->Nat->Value) (R:List Int × Int × E.σ) (yK:Nat) (zd:Nat->Value) (w:World) (v:Value):Prop:=iM w yK 3 66 zd/\∃F' u,v=.tuple #[u,.int .i64 R.2.1] /\Bz E w0 p F0 w vo ⟨R.2.2,s.out,s.bad⟩ F' qo/\eG F' w u R.1
theorem EO.below (h:EO E w0 p F0 vo s qo R yK zd w v) (hb:Below w.heap.size w w'):EO E w0 p F0 vo s qo R yK zd w' v:=by
 obtain⟨h0,F',u,e,h1,h2⟩:=h;exact⟨h0.below hb,F',u,e,h1.below hb,h2.below hb⟩
def Jk (E:Eng B) (w0:World) (p:Nat) (F0:Nat->Prop) (vo:Value) (s:EU E.σ) (qo:Nat->Nat->Value) (R:List Int × Int × E.σ) (yK:Nat) (zd:Nat->Value) (w:World) (v:Value):Prop:=iM w yK 3 66 zd/\∃F',Bz E w0 p F0 w vo ⟨R.2.2,s.out,s.bad⟩ F' qo/\eG F' w v R.1
theorem Jk.below (h:Jk E w0 p F0 vo s qo R yK zd w v) (hb:Below w.heap.size w w'):Jk E w0 p F0 vo s qo R yK zd w' v:=by
 obtain⟨h0,F',h1,h2⟩:=h;exact⟨h0.below hb,F',h1.below hb,h2.below hb⟩
theorem Bz.kept {A:Type} {Rw:(Nat->Prop)->World->(Nat->Value)->A->Prop} {e:TypeId} {c:Nat} {L:List A} (g:Bz E w0 p F0 w vo s F qo) (hc:∀{p F F' w w' z a},Rw F w z a->lg p F w w'->(∀b,F' b->F b\/w.heap.size<=b)->Rw F' w' z a) (h:uX (Rw F0) e c w0 v L q) (hn:∀b,v.ownBlock=some b->¬ (b=p\/F0 b)):uX (Rw F) e c w v L q:=
 ⟨h.os.gL g.ch.gL hn,fun j a ha=>hc (h.bs j a ha) g.ch g.fo⟩
theorem zy {me:ByteArray} (h:E.M w p F X) (hR:uX (Ec F) 78 3 w vr ro qr) (hRn:∀b,vr.ownBlock=some b->¬ (b=p\/F b)) (hD:uX (Jz F) 66 3 w vl D qd) (hDn:∀b,vl.ownBlock=some b->¬ (b=p\/F b)) (hs:eG F w vs sec) (hm:D.length<=10) (hb:∀(j:Nat) d,D[j]? =some d->d.b.length<=400) (hsl:sec.length<=1000) (hz:E.sz X<=600):
  Calls Tryz.prog 48 #[.pointer (some ⟨p,0,none⟩),vr,vl,.string me,vs] w fun e w'=> ∃i vo,e=.returned (.tuple #[vo,.bool (E.all ro D ⟨X, [⟨me,sec⟩],false⟩ i).bad])/\(E.all ro D ⟨X, [⟨me,sec⟩],false⟩ i).out.length=i/\∃F' qo,Bz E w p F w' vo (E.all ro D ⟨X, [⟨me,sec⟩],false⟩ i) F' qo:=by
 obtain⟨ST,hST⟩:∃f,f=E.all ro D ⟨X, [⟨me,sec⟩],false⟩:=⟨_,rfl⟩
 have HS0:Hid (ST 0=⟨X, [⟨me,sec⟩],false⟩):=ay (by rw[hST];rfl);have HSS:Hid (∀i g,(ST i).out[i]? =some g->ST (i+1)=E.inn ro D g (ST i) D.length):=ay fun i g hg=>by
  rw[hST] at hg ⊢;show (match (E.all ro D ⟨X, [⟨me,sec⟩],false⟩ i).out[i]? with | some h=>E.inn ro D h (E.all ro D ⟨X, [⟨me,sec⟩],false⟩ i) D.length | none=>E.all ro D ⟨X, [⟨me,sec⟩],false⟩ i)= _;rw[hg]
 have HSN:Hid (∀i,(ST i).out.length<=1+yu D (ST i).out):=ay fun i=>by rw[hST];exact Eng.RQ aR i
 have zI:Hid (∀i,E.sz (ST i).X<=600+20 * i):=ay fun i=>by
  rw[hST];have:=Eng.aar (E:=E) (ro:=ro) (D:=D) (s:=⟨X, [⟨me,sec⟩],false⟩) i;have h2:i * D.length<=i * 10:=Nat.mul_le_mul_left _ hm;have h3:E.sz (EU.mk X [⟨me,sec⟩] false).X<=600:=hz;omega
 rw[<-hST];have H:=ay h;have HR:=ay hR;have HD:=ay hD;have HRN:=ay hRn;have HDN:=ay hDn;have HS:=ay hs;have HB:=ay hb;have AX:=ay hm;obtain⟨m,hm'⟩:∃m,m=D.length:=⟨_,rfl⟩
 have HM:=ay hm';have HSL:=ay hsl;obtain⟨ar,cr,evr,_,_⟩:=hR.os.m.slice;obtain⟨al,cl,evl,_,_⟩:=hD.os.m.slice;obtain⟨as_,cs,evs⟩:=hs.slice;rw[<-hm'] at evl;subst evr;subst evl;subst evs;clear h hR hD hRn hDn hs hb hm hm' hz hST hsl
 go_enter Tryz.func48,Tryz.ntmps48
 go_wp2_with fail;refine(FZ _ _ _ w HS.out.rd (by have:=HSL.out;omega)).mono ?_;rintro e w1 ⟨vc,rfl,cK,b1⟩;have YC:Hid (eG F w1 vc sec):=ay (by have:=eG.own (F:=F) cK (fun i hi=>HS.out.ok.at i hi) (fun b hb=>E.lt H.out (.inr hb));rwa [Yl] at this);have B1:=ay b1;obtain⟨avc,cvc,evc⟩:=YC.out.slice;subst evc;clear cK b1;go_upto_region 3 with(fail);have HNB:Hid (¬ (w1.heap.size=p\/F w1.heap.size)):=ay fun hh=>by have:=E.lt H.out hh;have:=B1.out.size;omega
 refine aJ (fun w2=>Bz E w p F w2 (.slice (some ⟨w1.heap.size,0,none⟩) 1 1) (ST 0) F (fun _ i=>if i=0 then .string me else .slice avc sec.length cvc)) ?_ ?_
 ·have ba:=(bT w1.heap.size w1).alloc (bH _) (.cells #[.string me,.slice avc sec.length cvc] 71);have bt:=B1.out.trans (ba.mono B1.out.size);rw[HS0.out];refine⟨E.below H.out bt,⟨⟨iA.new w1 _ 2 (by unfold maxLen;decide) rfl fun j hj i hi=>?_,fun b hb=>?_⟩,fun j a ha=>?_⟩,fun b hb=>?_,lg.of_below bt F,fun b hb=>.inl hb⟩
  ·have hj:j<1:=hj;obtain rfl:j=0:=by omega
   rcases(by omega:i=0\/i=1) with rfl | rfl<;> rfl
  ·obtain rfl:w1.heap.size=b:=by simpa [Value.ownBlock] using hb
   refine EP.row (heap_alloc_new w1 _) fun u hu=>?_;have hu:u=.string me\/u=.slice avc sec.length cvc:=by simpa using hu
   rcases hu with rfl | rfl<;> exact fun x e=>by cases e
  ·have ha: [(⟨me,sec⟩:EW)][j]? =some a:=ha
   cases j with
   | zero=>obtain rfl:=gJ ha;exact⟨rfl,YC.out.below ba⟩
   | succ j=>simp at ha
  ·obtain rfl:w1.heap.size=b:=by simpa [Value.ownBlock] using hb
   exact⟨HNB.out,B1.out.size⟩
 rintro w2 ha2;have HA2:=ay ha2;clear ha2;go_wp2
 go_loopw [12,13,14] (fun vo bd i wr=> ∃k:Nat,i=.int .i64 (k:Int)/\bd=.bool (ST k).bad/\k<=(ST k).out.length/\∃F' qo,Bz E w p F wr vo (ST k) F' qo) (fun _ _ i _=>20 - (intOf i).toNat)
 case atStart=>exact⟨0,rfl,by rw[HS0.out],jm _,F,_,HA2.out⟩
 case round=>
  rename World=>wo
  obtain⟨k,rfl,rfl,hk,Fo,qo,hA⟩:=hrel;have HA:=ay hA;have HLN:Hid ((ST k).out.length<=11):=ay (by have:=HSN.out k;have:=RL D (ST k).out;have:=AX.out;omega);obtain⟨av,cv,evo,_,_⟩:=hA.ou.os.m.slice;subst evo;clear hA;by_cases hlt:k<(ST k).out.length
  ·obtain⟨hh,hhd⟩:∃d,(ST k).out[k]? =some d:=⟨_,kP hlt⟩
   obtain⟨IN,Ry⟩:∃f,f=E.inn ro D hh (ST k):=⟨_,rfl⟩
   have HI0:Hid (IN 0=ST k):=ay (by rw[Ry];rfl);have HIM:Hid (ST (k+1)=IN m):=ay (by rw[HSS.out k hh hhd,Ry,HM.out]);have HIS:Hid (∀j d,D[j]? =some d->IN (j+1)=E.one ro hh (IN j) d):=ay fun j d hd=>by
    rw[Ry];show (match D[j]? with | some d=>E.one ro hh (E.inn ro D hh (ST k) j) d | none=>E.inn ro D hh (ST k) j)= _;rw[hd]
   have HIL:Hid (∀j,(IN j).out.length<=11):=ay fun j=>by
    have h1:=Eng.Ip (E:=E) (ro:=ro) (h:=hh) (HSN.out k) j;rw[<-Ry] at h1;have:=RL D (IN j).out;have:=AX.out;omega
   have HIZ:Hid (∀j,j<=m->E.sz (IN j).X<=880):=ay fun j hj=>by
    have h1:=Eng.OU (E:=E) (ro:=ro) (D:=D) (h:=hh) (s:=ST k) j;rw[<-Ry] at h1;have:=zI.out k;have:=AX.out;have:=HM.out;have:=HLN.out;omega
   have HIO:Hid (∀j,(IN j).out[k]? =some hh):=ay fun j=>by
    have:=tq (E.Io ro D hh (ST k) j) hhd
    rwa [<-Ry] at this
   have wN:=ay hlt;have q0:(k:Int)<((ST k).out.length:Int):=by omega
   clear hhd Ry hlt hk;go_wp2
   go_loopw [12,13,34] (fun vo bd i wr=> ∃j:Nat,j<=m/\i=.int .i64 (j:Int)/\bd=.bool (IN j).bad/\∃F' qo,Bz E w p F wr vo (IN j) F' qo) (fun _ _ i _=>m - (intOf i).toNat)
   case atStart=>exact⟨0,jm _,rfl,by rw[HI0.out],Fo,_,by rw[HI0.out];exact HA.out⟩
   case round=>
    obtain⟨j,hj,rfl,rfl,Fi,qi,hAi⟩:=hrel;have HAI:=ay hAi;have HKO:Hid (k<(IN j).out.length):=ay (List.getElem?_eq_some_iff.1 (HIO.out j)).1;obtain⟨g,cap,evi,hrow,hle,hcap,hcell⟩:=hAi.ou.os.m.form (Nat.lt_of_le_of_lt (jm _) HKO.out);subst evi;have HGL:Hid (g<wr.heap.size):=ay hrow.lt;have HQ:=ay (hAi.ou.bs k hh (HIO.out j));have HO0:Hid (wr.cell? ⟨g,k * 2,none⟩=some (.string hh.nm)):=ay ((hcell k HKO.out 0 aM).trans (by rw[HQ.out.z0]));obtain⟨as2,cs2,es2⟩:=HQ.out.z1.slice;have Jy:Hid (wr.cell? ⟨g,k * 2+1,none⟩=some (.slice as2 hh.sc.length cs2)):=ay ((hcell k HKO.out 1 aM).trans (by rw[es2]));have DW:Hid (eG Fi wr (.slice as2 hh.sc.length cs2) hh.sc):=ay (by rw[<-es2];exact HQ.out.z1);obtain⟨no,hno⟩:∃n,n=(IN j).out.length:=⟨_,rfl⟩
    have Jp:=ay hno;have HKN:Hid (k<no):=ay (hno▸HKO.out);rw[<-hno] at HAI ⊢;clear hAi hrow hle hcap hcell es2 HQ hno;by_cases hlt:j<m
    ·obtain⟨gl,awU,e,aeh,_,_,YL⟩:=HD.out.os.m.form (by rw[<-HM.out];omega);rw[<-HM.out] at e;cases e
     have hgl:gl<w.heap.size:=aeh.lt;have hn:=HDN.out gl rfl;have uY:Hid (∀i,i<3->wr.cell? ⟨gl,j * 3+i,none⟩=some (qd j i)):=ay fun i hi=>(HAI.out.ch.gL.cell (p:=⟨gl,j * 3+i,none⟩) hgl hn).trans (YL j (by rw[<-HM.out];exact hlt) i hi);obtain⟨d,hd⟩:∃d,D[j]? =some d:=⟨_,kP (by rw[<-HM.out];exact hlt)⟩
     have HDL:=ay (HB.out j d hd);have HDR:Hid (Jz Fi wr (qd j) d):=ay ((HD.out.bs j d hd).Ah HAI.out.ch HAI.out.fo);have HDO:=ay HDR.out.one;have HJS:Hid (IN (j+1)=E.one ro hh (IN j) d):=ay (HIS.out j d hd);have DY:=ay hlt;clear hd aeh YL hgl hn;go_upto_region 9 with(first | (refine jl rfl rfl rfl Tryz.underlying66 rfl Tryz.sizeDp uY.out ?_) | (refine gU rfl 66 _ _ rfl wr.heap.size 3 (qd j) _ 66 (heap_alloc_new _ _) rfl Tryz.sizeDp rfl rfl HDO.out ?_));refine aJ (fun w4=>iM w4 wr.heap.size 3 66 (qd j)/\Below wr.heap.size wr w4) ⟨iM.setRow (heap_alloc_new _ _),aB ((bT _ _).alloc (bH _) _) (bH _) _⟩ ?_;rintro w4 ⟨hr4,jF⟩;have R4:=ay hr4;have A4:=ay (HAI.out.below jF);have HG4:Hid (g<w4.heap.size):=ay (qZ HGL.out jF.size);have O0:Hid (w4.cell? ⟨g,k * 2,none⟩=some (.string hh.nm)):=ay ((jF.cell (p:=⟨g,k * 2,none⟩) HGL.out).trans HO0.out);have O1:Hid (w4.cell? ⟨g,k * 2+1,none⟩=some (.slice as2 hh.sc.length cs2)):=ay ((jF.cell (p:=⟨g,k * 2+1,none⟩) HGL.out).trans Jy.out);have SB4:=ay (DW.out.below jF);have DR4:=ay (HDR.out.below jF);have Vr:Hid (¬ (wr.heap.size=p\/Fi wr.heap.size)):=ay fun hf=>Nat.lt_irrefl _ (E.lt HAI.out.m hf);have adG:Hid (wr.heap.size<w4.heap.size):=ay hr4.1.lt;obtain⟨yK,hx16⟩:∃x,x=wr.heap.size:=⟨_,rfl⟩
     rw[<-hx16] at R4 Vr adG ⊢;have D1:Hid (w4.cell? ⟨yK,1,none⟩=some (.string d.ta)):=ay ((R4.out.2 1 aM).trans (by rw[DR4.out.z1]));obtain⟨bq,hbq⟩:∃b,b= !decide (d.ta=hh.nm):=⟨_,rfl⟩
     have HBQ:=ay hbq;clear hr4 jF hx16 hbq uY HDR HDO
     refine bC (n:=89) aQ aQ aQ rfl
      (fun ii vv _=>(match ii with | 0=>vv=.pointer (some ⟨yK,1,none⟩) | 1=>vv=.string d.ta | 2=>vv=.slice (some ⟨g,0,none⟩) no cap | 3=>vv=.int .i64 ((k:Int)) | 4=>vv=.pointer (some ⟨g,k * 2,none⟩) | 5=>vv=.pointer (some ⟨g,k * 2+0,none⟩) | 6=>vv=.string hh.nm | 7=>vv=.bool bq | _=>True))
      (fun w w'=>Below w.heap.size w w') (fun _ _ h=>h) (fun _ _ _ _ h _=>h) ?_ ?_
     ·refine dG ?_;refine⟨?_,?_,?_,?_,?_,?_,?_,?_,trivial⟩
      ·intro a w2 hB hF hd;refine aN <| aW (bB (m:=0) (k:=1) rfl (hF.same 16 rfl) aQ) ?_;exact rfl
      ·intro a w2 hB hF hd;exact aN <| aW (eT rfl (hd 0 _ rfl (aj rfl)) yG ((hB.cell (p:=⟨yK,1,none⟩) adG.out).trans D1.out)) rfl
      ·intro a w2 hB hF hd;exact aN <| aG _ (.inl rfl) aR (hF.same 12 rfl)
      ·intro a w2 hB hF hd;exact aN <| aG _ (.inl rfl) aR (hF.same 14 rfl)
      ·intro a w2 hB hF hd;exact aN <| aW (cO (i:=k) (sz:=2) rfl (hd 2 _ rfl (aj rfl)) (hd 3 _ rfl (aj rfl)) Tryz.underlying67 Tryz.sizeHdC HKN.out) rfl
      ·intro a w2 hB hF hd;exact aN <| aW (bB (m:=0) (k:=0) rfl (hd 4 _ rfl (aj rfl)) aQ) rfl
      ·intro a w2 hB hF hd;exact aN <| aW (eT rfl (hd 5 _ rfl (aj rfl)) yG ((hB.cell (p:=⟨g,k * 2,none⟩) HG4.out).trans O0.out)) rfl
      ·intro a w2 hB hF hd;exact aN <| aW (sP rfl (hd 1 _ rfl (aj rfl)) (hd 6 _ rfl (aj rfl)) yG) (congrArg Value.bool HBQ.out.symm)
     ·intro a w5 hB hF hS;have ha:=aO rfl rfl hF [_,_,_,_,_,_,_,_] rfl ⟨hS 0 _ rfl,hS 1 _ rfl,hS 2 _ rfl,hS 3 _ rfl,hS 4 _ rfl,hS 5 _ rfl,hS 6 _ rfl,hS 7 _ rfl,trivial⟩;simp only[puts,Act.put,fB,fD,fF] at ha;subst ha;clear hS hF;have A5:=ay (A4.out.below hB);have R5:=ay (R4.out.below hB);have HX5:Hid (yK<w5.heap.size):=ay (qZ adG.out hB.size);have O5:Hid (w5.cell? ⟨g,k * 2+1,none⟩=some (.slice as2 hh.sc.length cs2)):=ay ((hB.cell (p:=⟨g,k * 2+1,none⟩) HG4.out).trans O1.out);have HG5:Hid (g<w5.heap.size):=ay (qZ HG4.out hB.size);have SB5:=ay (SB4.out.below hB);have DR5:=ay (DR4.out.below hB);clear hB A4 R4 O0 O1 HG4 adG D1 SB4 DR4;have q9:(j:Int)<1000000:=by have:=DY.out;have:=AX.out;have:=HM.out;omega
      cases bq with
      | true=>
       have HE:Hid (IN (j+1)=IN j):=ay (HJS.out.trans (if_neg (by simpa using HBQ.out)));go_wp2;go_roundw
       case rel=>exact⟨j+1,DY.out,by go_num,by rw[HE.out],Fi,qi,by rw[HE.out];exact A5.out⟩
       case measure=>have:=DY.out;simp[intOf] <;> omega
      | false=>
       have HT:Hid (d.ta=hh.nm):=ay (by simpa using HBQ.out);have c0:w5.cell? ⟨yK,0,none⟩=some (.string d.fr):=(R5.out.2 0 aM).trans (by rw[DR5.out.z0]);obtain⟨⟨P1,P2⟩,Pm⟩:∃x,x=mG ro d.fr:=⟨_,rfl⟩
       have HPC:=ay (rP (nm:=d.fr) (A5.out.kept (fun h=>h.Ah) HR.out HRN.out));rw[<-Pm] at HPC;have Nh:=ay Pm
       dsimp only at HPC
       clear Pm;go_wp2_with fail;refine HPC.out.mono ?_;rintro e w6 ⟨zp,rfl,hzp,b6⟩;go_upto_region 11 with(refine gU rfl 78 _ _ rfl w6.heap.size 3 zp _ 78 (heap_alloc_new _ _) rfl Tryz.sizePs rfl rfl hzp.one ?_);refine aJ (fun w7=>iM w7 w6.heap.size 3 78 zp/\Below w6.heap.size w6 w7) ⟨iM.setRow (heap_alloc_new _ _),aB ((bT _ _).alloc (bH _) _) (bH _) _⟩ ?_;rintro w7 ⟨hr7,YN⟩;have B57:=b6.trans (YN.mono b6.size);have A7:=ay (A5.out.below B57);have R16:=ay (R5.out.below B57);have HX7:Hid (yK<w7.heap.size):=ay (qZ HX5.out B57.size);have O7:Hid (w7.cell? ⟨g,k * 2+1,none⟩=some (.slice as2 hh.sc.length cs2)):=ay ((B57.cell (p:=⟨g,k * 2+1,none⟩) HG5.out).trans O5.out);have HG7:Hid (g<w7.heap.size):=ay (qZ HG5.out B57.size);have SB7:=ay (SB5.out.below B57);have DR7:=ay (DR5.out.below B57);have ZP7:=ay (hzp.below YN);have alT:Hid (w6.heap.size<w7.heap.size):=ay hr7.1.lt;have R17:Hid (∀i,i<3->w7.cell? ⟨w6.heap.size,0+i,none⟩=some (zp i)):=ay fun i hi=>by rw[qY];exact hr7.2 i hi
       obtain⟨x17,akj⟩:∃x,x=w6.heap.size:=⟨_,rfl⟩
       rw[<-akj] at alT R17 ⊢;obtain⟨ad,cd,ed⟩:=DR7.out.z2.slice;have D2:Hid (w7.cell? ⟨yK,2,none⟩=some (.slice ad d.b.length cd)):=ay ((R16.out.2 2 aM).trans (by rw[ed]));have YB7:Hid (eG Fi w7 (.slice ad d.b.length cd) d.b):=ay (by rw[<-ed];exact DR7.out.z2);obtain⟨⟨R1,R2,R3⟩,hRT⟩:∃r,r=E.take (IN j).X P1 hh.sc d.b:=⟨_,rfl⟩
       have HRT:=ay hRT;have HTK:Hid (∀w',Below w7.heap.size w7 w'->Calls Tryz.prog 51 #[.pointer (some ⟨p,0,none⟩),.agg (gV 3 zp),.slice as2 hh.sc.length cs2,.slice ad d.b.length cd] w' fun e wz=> ∃x,e=.returned x/\EO E w p F (.slice (some ⟨g,0,none⟩) no cap) (IN j) qi (R1,R2,R3) yK (qd j) wz x):=ay fun w' hb'=>by
        have hA':=A7.out.below hb';refine(PG hA'.m (ZP7.out.below hb') (SB7.out.below hb') (YB7.out.below hb') HDL.out (iw (HIZ.out j (Nat.le_of_lt DY.out)) aM)).mono ?_;rw[<-hRT];rintro e wz ⟨u,rfl,hres⟩;obtain⟨F',h1,h2⟩:=hA'.res hres;obtain⟨_,_,_,hch,_⟩:=hres;exact⟨_,rfl,(R16.out.below hb').keep hch.gL Vr.out,F',u,rfl,h1,h2⟩
       clear hr7 YN b6 B57 hzp akj ed c0 hRT A5 R5 O5 HG5 HX5 SB5 DR5
       refine rG (n:=89) 9 aQ aQ aQ aQ aQ rfl
        (fun ii vv=>(match ii with | 0=>vv=.pointer (some ⟨p,0,none⟩) | 1=>vv=.agg (gV 3 zp) | 2=>vv=.slice (some ⟨g,0,none⟩) no cap | 3=>vv=.int .i64 ((k:Int)) | 4=>vv=.pointer (some ⟨g,k * 2,none⟩) | 5=>vv=.pointer (some ⟨g,k * 2+1,none⟩) | 6=>vv=.slice as2 hh.sc.length cs2 | 7=>vv=.pointer (some ⟨yK,2,none⟩) | 8=>vv=.slice ad d.b.length cd | 12 | 14=>vv=.int .i64 (R2) | _=>True)) (fun ii vv ww=>(ii=9->EO E w p F (.slice (some ⟨g,0,none⟩) no cap) (IN j) qi (R1,R2,R3) yK (qd j) ww vv)/\(ii=10->EO E w p F (.slice (some ⟨g,0,none⟩) no cap) (IN j) qi (R1,R2,R3) yK (qd j) ww vv)/\(ii=11->Jk E w p F (.slice (some ⟨g,0,none⟩) no cap) (IN j) qi (R1,R2,R3) yK (qd j) ww vv)/\(ii=13->Jk E w p F (.slice (some ⟨g,0,none⟩) no cap) (IN j) qi (R1,R2,R3) yK (qd j) ww vv))
        (fun i v w w' h hE=>⟨fun e=>EO.below (h.1 e) hE,fun e=>EO.below (h.2.1 e) hE,fun e=>Jk.below (h.2.2.1 e) hE,fun e=>Jk.below (h.2.2.2 e) hE⟩)
        (fun ww=>True) (fun _ _ _ _=>trivial) ?_ ?_ ?_
       ·refine dG ?_;refine⟨?_,?_,?_,?_,?_,?_,?_,?_,?_,(fun h=>absurd rfl h),?_,?_,?_,?_,?_,trivial⟩
        ·intro _ a w2 hB' hP hF hd;have hB:=hB' aQ;exact aN <| aG _ (.inl rfl) aR ⟨(hF.same 0 rfl),aP,aP,aP,aP⟩
        ·intro _ a w2 hB' hP hF hd;have hB:=hB' aQ;exact aN <| aW (lG rfl (hF.same 17 rfl) Tryz.underlying78 rfl Tryz.sizePs (fun i hi=>(hB.cell (p:=⟨x17,0+i,none⟩) alT.out).trans (R17.out i hi))) ⟨rfl,aP,aP,aP,aP⟩
        ·intro _ a w2 hB' hP hF hd;have hB:=hB' aQ;exact aN <| aG _ (.inl rfl) aR ⟨(hF.same 12 rfl),aP,aP,aP,aP⟩
        ·intro _ a w2 hB' hP hF hd;have hB:=hB' aQ;exact aN <| aG _ (.inl rfl) aR ⟨(hF.same 14 rfl),aP,aP,aP,aP⟩
        ·intro _ a w2 hB' hP hF hd;have hB:=hB' aQ;exact aN <| aW (cO (i:=k) (sz:=2) rfl ((hd 2 _ rfl rfl).1) ((hd 3 _ rfl rfl).1) Tryz.underlying67 Tryz.sizeHdC HKN.out) ⟨rfl,aP,aP,aP,aP⟩
        ·intro _ a w2 hB' hP hF hd;have hB:=hB' aQ;exact aN <| aW (bB (m:=0) (k:=1) rfl ((hd 4 _ rfl rfl).1) aQ) ⟨rfl,aP,aP,aP,aP⟩
        ·intro _ a w2 hB' hP hF hd;have hB:=hB' aQ;exact aN <| aW (eB rfl ((hd 5 _ rfl rfl).1) mo ((hB.cell (p:=⟨g,k * 2+1,none⟩) HG7.out).trans O7.out)) ⟨rfl,aP,aP,aP,aP⟩
        ·intro _ a w2 hB' hP hF hd;have hB:=hB' aQ;refine aN <| aW (bB (m:=0) (k:=2) rfl (hF.same 16 rfl) aQ) ?_;exact⟨rfl,aP,aP,aP,aP⟩
        ·intro _ a w2 hB' hP hF hd;have hB:=hB' aQ;exact aN <| aW (eB rfl ((hd 7 _ rfl rfl).1) mo ((hB.cell (p:=⟨yK,2,none⟩) HX7.out).trans D2.out)) ⟨rfl,aP,aP,aP,aP⟩
        ·intro _ a w2 hB' hP hF hd;exact aN <| aG _ (.inl rfl) aR ⟨trivial,aP,fun _=>((((hd 9 _ rfl rfl).2 aQ).1 rfl)),aP,aP⟩
        ·intro _ a w2 hB' hP hF hd;rw[if_pos (dA rfl)];obtain⟨r_,F_,u_,II,Rq,hv_⟩:=(((hd 10 _ rfl rfl).2 aQ).2.1 rfl)
         exact aW (bU rfl II rfl) ⟨trivial,aP,aP,fun _=>(⟨r_,F_,Rq,hv_⟩),aP⟩
        ·intro _ a w2 hB' hP hF hd;rw[if_pos (dA rfl)];obtain⟨r_,F_,u_,II,Rq,hv_⟩:=(((hd 10 _ rfl rfl).2 aQ).2.1 rfl)
         exact aW (bU rfl II rfl) ⟨rfl,aP,aP,aP,aP⟩
        ·intro _ a w2 hB' hP hF hd;exact aN <| aG _ (.inr rfl) aR ⟨trivial,aP,aP,aP,fun _=>(((hd 11 _ rfl rfl).2 aQ).2.2.1 rfl)⟩
        ·intro _ a w2 hB' hP hF hd;exact aN <| aG _ (.inr rfl) aR ⟨((hd 12 _ rfl rfl).1),aP,aP,aP,aP⟩
       ·intro o ho a w2 hB hF hd;obtain rfl:=gJ ho;refine⟨by rw[dA rfl],?_⟩;refine wP 51 #[.tmp 54,.tmp 55,.tmp 60,.tmp 62] _ rfl Tryz.call51 _ (yD ((hd 0 _ rfl rfl).1) ((hd 1 _ rfl rfl).1) ((hd 6 _ rfl rfl).1) ((hd 8 _ rfl rfl).1)) aR ((HTK.out w2 hB).mono ?_);rintro e w3 ⟨x,rfl,hr⟩;exact⟨x,rfl,⟨trivial,fun _=>(hr),aP,aP,aP⟩,trivial⟩
       ·intro a w8 hP hF hS;obtain⟨x63,agp⟩:∃x,x=a.tmps.getD 63 undef:=⟨_,rfl⟩
        have P63:EO E w p F (.slice (some ⟨g,0,none⟩) no cap) (IN j) qi (R1,R2,R3) yK (qd j) w8 x63:=by rw[agp];exact((hS 9 _ rfl).2 aQ).1 rfl
        obtain⟨x53,agr⟩:∃x,x=a.tmps.getD 53 undef:=⟨_,rfl⟩
        have P53:EO E w p F (.slice (some ⟨g,0,none⟩) no cap) (IN j) qi (R1,R2,R3) yK (qd j) w8 x53:=by rw[agr];exact((hS 10 _ rfl).2 aQ).2.1 rfl
        obtain⟨x64,agn⟩:∃x,x=a.tmps.getD 64 undef:=⟨_,rfl⟩
        have Qo:Jk E w p F (.slice (some ⟨g,0,none⟩) no cap) (IN j) qi (R1,R2,R3) yK (qd j) w8 x64:=by rw[agn];exact((hS 11 _ rfl).2 aQ).2.2.1 rfl
        obtain⟨Si,Av⟩:∃x,x=a.tmps.getD 19 undef:=⟨_,rfl⟩
        have P19:Jk E w p F (.slice (some ⟨g,0,none⟩) no cap) (IN j) qi (R1,R2,R3) yK (qd j) w8 Si:=by rw[Av];exact((hS 13 _ rfl).2 aQ).2.2.2 rfl
        have ha:=aO rfl rfl hF [_,_,_,_,_,_,_,_,_,x63,x53,x64,_,Si,_] rfl ⟨(hS 0 _ rfl).1,(hS 1 _ rfl).1,(hS 2 _ rfl).1,(hS 3 _ rfl).1,(hS 4 _ rfl).1,(hS 5 _ rfl).1,(hS 6 _ rfl).1,(hS 7 _ rfl).1,(hS 8 _ rfl).1,agp.symm,agr.symm,agn.symm,(hS 12 _ rfl).1,Av.symm,(hS 14 _ rfl).1,trivial⟩;simp only[puts,Act.put,fB,fD,fF] at ha;subst ha;clear agp agr agn Av;clear hS hF;have HP:=ay P19;clear P19 P63 P53 Qo;obtain⟨hr8,F8,ha8,hy8⟩:=HP.out;have R8:=ay hr8;have A8:=ay ha8;have Y8:=ay hy8;obtain⟨a9,c9,e9⟩:=hy8.slice;subst e9;have Vp:Hid (IN (j+1)=if P2=false\/R2≠0 then ⟨R3,(IN j).out,true⟩ else if LX (IN j).out d.fr=true then ⟨R3,(IN j).out,(IN j).bad⟩ else ⟨R3,(IN j).out++ [⟨d.fr,R1⟩],(IN j).bad⟩):=ay (by
         rw[HJS.out];unfold Eng.one;rw[if_pos HT.out,←Nh.out]
         dsimp only
         rw[<-HRT.out])
        have c0:w8.cell? ⟨yK,0,none⟩=some (.string d.fr):=(hr8.2 0 aM).trans (by rw[DR7.out.z0]);clear hr8 ha8 hy8 HP hP
        cases P2 with
        | false=>
         have HE:Hid (IN (j+1)=⟨R3,(IN j).out,true⟩):=ay (Vp.out.trans (if_pos (.inl rfl)));clear c0;go_wp2;go_roundw
         case rel=>exact⟨j+1,DY.out,by go_num,by rw[HE.out],F8,qi,by rw[HE.out];exact A8.out.bad true⟩
         case measure=>have:=DY.out;simp[intOf] <;> omega
        | true=>
         by_cases hr2:R2=0
         ·have q1:(R2 !=0)=false:=by simpa using hr2
          have HE1:Hid (IN (j+1)=if LX (IN j).out d.fr=true then ⟨R3,(IN j).out,(IN j).bad⟩ else ⟨R3,(IN j).out++ [⟨d.fr,R1⟩],(IN j).bad⟩):=ay (Vp.out.trans (if_neg (fun h=>h.elim (fun e=>by cases e) fun h=>h hr2)));have amw:=ay (Ut (nm:=d.fr) A8.out.ou);obtain⟨hq,hhq⟩:∃b,b=LX (IN j).out d.fr:=⟨_,rfl⟩
          rw[show decide (Bq (List.map (·.nm) (EU.mk R3 (IN j).out (IN j).bad).out) d.fr<(EU.mk R3 (IN j).out (IN j).bad).out.length)=hq from hhq.symm] at amw;rw[<-hhq] at HE1;clear hr2 hhq;go_wp2_with fail;refine amw.out.mono ?_;rintro e w9 ⟨rfl,b9⟩;have A9:=ay (A8.out.below b9);have c0:=((R8.out.below b9).2 0 aM).trans (show some (qd j 0)=some (.string d.fr) by rw[DR7.out.z0]);have Y9:=ay (Y8.out.below b9);clear b9
          cases hq with
          | true=>
           have HE:Hid (IN (j+1)=⟨R3,(IN j).out,(IN j).bad⟩):=ay (HE1.out.trans (if_pos rfl));clear c0;go_wp2;go_roundw
           case rel=>exact⟨j+1,DY.out,by go_num,by rw[HE.out],F8,qi,by rw[HE.out];exact A9.out⟩
           case measure=>have:=DY.out;simp[intOf] <;> omega
          | false=>
           have HE:Hid (IN (j+1)=⟨R3,(IN j).out++ [⟨d.fr,R1⟩],(IN j).bad⟩):=ay (HE1.out.trans (if_neg aM));go_wp2_with (at_builtin;refine nG (y:=fun i=>if i=0 then .string d.fr else .slice a9 R1.length c9) rfl _ _ rfl rfl (by rfl) A9.out.ou.os aM Tryz.underlying67 Tryz.infoHeld rfl rfl (fun i hi=>by rcases(by omega:i=0\/i=1) with rfl | rfl;(· exact⟨rfl,fun x e=>by cases e⟩);exact⟨rfl,fun x e=>by cases e⟩) (fun z hz=>by simp[Value.cells] at hz;rcases hz with rfl | rfl<;> exact fun x e=>by cases e) (by have:=HIL.out j;unfold maxLen;show (IN j).out.length+1<=_;omega) (by have:=HIL.out j;show ((IN j).out.length+1) * _<=_;omega) ?_;intro v6 w6 ho6 hc6 hp6;have HAP:=ay (A9.out.app (nm:=d.fr) Y9.out ho6 hc6 hp6);clear ho6 hc6 hp6);go_roundw
           case rel=>exact⟨j+1,DY.out,by go_num,by rw[HE.out],F8,_,by rw[HE.out];exact HAP.out⟩
           case measure=>have:=DY.out;simp[intOf] <;> omega
         ·have q1:(R2 !=0)=true:=by simpa using hr2
          have HE:Hid (IN (j+1)=⟨R3,(IN j).out,true⟩):=ay (Vp.out.trans (if_pos (.inr hr2)));clear hr2 c0;go_wp2;go_roundw
          case rel=>exact⟨j+1,DY.out,by go_num,by rw[HE.out],F8,qi,by rw[HE.out];exact A8.out.bad true⟩
          case measure=>have:=DY.out;simp[intOf] <;> omega
    ·have e:j=m:=by omega
     subst e;clear hlt;have q9:(k:Int)<1000000:=by have:=HLN.out;have:=wN.out;omega
     have HK1:Hid (k+1<=(ST (k+1)).out.length):=ay (by rw[HIM.out];exact HKO.out);go_wp2;go_roundw
     case rel=>exact⟨k+1,by go_num,by rw[HIM.out],HK1.out,Fi,qi,by rw[HIM.out];exact HAI.out⟩
     case measure=>have:=HLN.out;have:=wN.out;simp[intOf] <;> omega
  ·have HKE:Hid ((ST k).out.length=k):=ay aH;have q0:¬ (k:Int)<((ST k).out.length:Int):=by omega
   clear hlt hk;go_wp2;go_ret2;exact⟨k,_,rfl,HKE.out,Fo,qo,HA.out⟩
end
structure kS (B:Nat) extends Eng B where
 mg:σ->Int->List Int × Int × σ
 rT:σ->List Int->List Int->List Int × Int × σ
 szD:∀X s,sz (mg X s).2.2<=sz X+1
 szW:∀X a b,sz (rT X a b).2.2<=sz X+1
 ahM:∀{w p F X} (s:Int),M w p F X->sz X<=900->Calls Tryz.prog 26 #[.pointer (some ⟨p,0,none⟩),.int .i64 s] w fun e w'=> ∃u,e=.returned (.tuple #[u,.int .i64 (mg X s).2.1])/\∃F',M w' p F' (mg X s).2.2/\eG F' w' u (mg X s).1/\lg p F w w'/\∀b,F' b->F b\/w.heap.size<=b
 ahK:∀{w p F X v l v' l'},M w p F X->eG F w v l->eG F w v' l'->l'.length<=300->sz X<=900->Calls Tryz.prog 13 #[.pointer (some ⟨p,0,none⟩),v,v'] w fun e w'=> ∃u,e=.returned (.tuple #[u,.int .i64 (rT X l l').2.1])/\∃F',M w' p F' (rT X l l').2.2/\eG F' w' u (rT X l l').1/\lg p F w w'/\∀b,F' b->F b\/w.heap.size<=b
theorem Tryz.infoPs:(Tryz.prog.info? 78).map (fun i=>(i.zero,i.size,i.bytes))=some (some (.agg #[.string ⟨#[]⟩,.slice none 0 0,.slice none 0 0]),3,64):=by kernel_rfl
def dW (n:Nat):ByteArray:=⟨#[UInt8.ofNat (97+n)]⟩
section
variable {B : Nat} {w w' w0 w1 w2 w3 : World} {p : Nat} {F F' F0 : Nat -> Prop} {v u vr vr' vs vs' : Value} {x l : List Int} {z : Nat -> Value} {qr qs : Nat -> Nat -> Value} {E : kS B} {X : E.σ} {ro : List mD} {ss : List (List Int)} {r : List Int × Int × E.σ} {a : mD}
def kS.usr (E:kS B) (X:E.σ):Nat->E.σ × List mD × List (List Int)
 | 0=>(X, [], [])
 | n+1=>
  ((E.ver (E.pub (E.mg (E.usr X n).1 1).2.2 (E.mg (E.usr X n).1 1).1).2.2 (E.mg (E.usr X n).1 1).1).2.2,
   (E.usr X n).2.1++ [⟨dW n,(E.pub (E.mg (E.usr X n).1 1).2.2 (E.mg (E.usr X n).1 1).1).1,(E.ver (E.pub (E.mg (E.usr X n).1 1).2.2 (E.mg (E.usr X n).1 1).1).2.2 (E.mg (E.usr X n).1 1).1).1⟩],
   (E.usr X n).2.2++ [(E.mg (E.usr X n).1 1).1])
def kS.JH (E:kS B) (X:E.σ):Prop:=∀n,n<5->(E.mg (E.usr X n).1 1).2.1=0/\(E.pub (E.mg (E.usr X n).1 1).2.2 (E.mg (E.usr X n).1 1).1).2.1=0/\(E.ver (E.pub (E.mg (E.usr X n).1 1).2.2 (E.mg (E.usr X n).1 1).1).2.2 (E.mg (E.usr X n).1 1).1).2.1=0
theorem kS.Ww (E:kS B) (X:E.σ):∀n,E.sz (E.usr X n).1<=E.sz X+3 * n
 | 0=>bH _
 | n+1=>by
  have h0:=E.Ww X n;have h1:=E.szD (E.usr X n).1 1;have h2:=E.szP (E.mg (E.usr X n).1 1).2.2 (E.mg (E.usr X n).1 1).1;have h3:=E.szV (E.pub (E.mg (E.usr X n).1 1).2.2 (E.mg (E.usr X n).1 1).1).2.2 (E.mg (E.usr X n).1 1).1;show E.sz (E.ver (E.pub (E.mg (E.usr X n).1 1).2.2 (E.mg (E.usr X n).1 1).1).2.2 (E.mg (E.usr X n).1 1).1).2.2<=_;omega
theorem kS.QB (E:kS B) (X:E.σ):∀n,(E.usr X n).2.1.length=n/\(E.usr X n).2.2.length=n
 | 0=>⟨rfl,rfl⟩
 | n+1=>by
  have h:=E.QB X n;exact⟨by show (_++ [_]).length= _;rw[List.length_append,h.1];rfl,by show (_++ [_]).length= _;rw[List.length_append,h.2];rfl⟩
structure uo (E:kS B) (w0:World) (p:Nat) (F0:Nat->Prop) (w:World) (X:E.σ) (F:Nat->Prop) (vr vs:Value) (ro:List mD) (ss:List (List Int)) (qr qs:Nat->Nat->Value):Prop where
 m:E.M w p F X
 ro:uX (Ec F) 78 3 w vr ro qr
 ss:uX (BsR F) 23 1 w vs ss qs
 rn:∀b,vr.ownBlock=some b->¬ (b=p\/F b)/\w0.heap.size<=b
 sn:∀b,vs.ownBlock=some b->¬ (b=p\/F b)/\w0.heap.size<=b
 ds:∀b,vr.ownBlock=some b->vs.ownBlock≠some b
 ch:lg p F0 w0 w
 fo:∀b,F b->F0 b\/w0.heap.size<=b
theorem uo.below (g:uo E w0 p F0 w X F vr vs ro ss qr qs) (hb:Below w.heap.size w w'):uo E w0 p F0 w' X F vr vs ro ss qr qs:=
 ⟨E.below g.m hb,g.ro.below psU hb,g.ss.below bsU hb,g.rn,g.sn,g.ds,g.ch.trans (lg.of_below hb F) g.fo,g.fo⟩
theorem xJ {vo:Value} {N:Nat} (hn:∀b,vo.ownBlock=some b->¬ (b=p\/F b)/\N<=b) (hl:∀b,vo.ownBlock=some b->b<w.heap.size) (h4:∀b,F' b->F b\/w.heap.size<=b):∀b,vo.ownBlock=some b->¬ (b=p\/F' b)/\N<=b:=
 fun b hb=>⟨fun hf=>hf.elim (fun e=>(hn b hb).1 (.inl e)) fun hf=>(h4 b hf).elim (fun e=>(hn b hb).1 (.inr e)) fun h'=>by have:=hl b hb;omega,(hn b hb).2⟩
theorem uo.step {X':E.σ} (g:uo E w0 p F0 w X F vr vs ro ss qr qs) (h1:E.M w' p F' X') (h3:lg p F w w') (h4:∀b,F' b->F b\/w.heap.size<=b):uo E w0 p F0 w' X' F' vr vs ro ss qr qs:=
 ⟨h1,g.ro.WS psS h3 h4 fun b hb=>(g.rn b hb).1,g.ss.WS bsS h3 h4 fun b hb=>(g.sn b hb).1,xJ g.rn g.ro.os.m.lt h4,xJ g.sn g.ss.os.m.lt h4,g.ds,g.ch.trans h3 g.fo,fun b hb=>(h4 b hb).elim (g.fo b) fun h=>.inr (iw g.ch.gL.size h)⟩
theorem uo.aeC {vo:Value} (hch:lg p F0 w0 w) (hn:∀b,vo.ownBlock=some b->w0.heap.size<=b) (hc:fV (fun b=>vo.ownBlock=some b) w w'):lg p F0 w0 w':=
 ⟨hch.gL.trans hc fun b hb he=>by have:=hn b he;omega,fun b hb hF i x hx=>(hc.cell (p:=⟨b,i,none⟩) (qZ hb hch.gL.size) (fun he=>by have:=hn b he;omega)).trans (hch.u8 b hb hF i x hx)⟩
theorem uo.aqn {y:Nat->Value} (g:uo E w0 p F0 w X F vr vs ro ss qr qs) (ho:yI 78 3 w' vr' (ro.length+1) (nY ro.length qr (fun _=>y))) (hc:fV (fun b=>vr.ownBlock=some b) w w') (hp:∀b,vr'.ownBlock=some b->vr.ownBlock=some b\/w.heap.size<=b) (ha:Ec F w y a):uo E w0 p F0 w' X F vr' vs (ro++ [a]) ss (fun j=>if j=ro.length then y else qr j) qs:=
 have hs:=g.ch.gL.size
 ⟨E.keep g.m hc (fun e=>(g.rn p e).1 (.inl rfl)) fun b hb e=>(g.rn b e).1 (.inr hb),g.ro.app psU ho hc ha,g.ss.Kh bsU hc g.ro.os.z fun b hb e=>g.ds b e hb,fun b hb=>(hp b hb).elim (g.rn b) fun h=>⟨fun hf=>by have:=E.lt g.m hf;omega,iw hs h⟩,g.sn,fun b hb=>(hp b hb).elim (g.ds b) fun h e=>by have:=g.ss.os.m.lt b e;omega,uo.aeC g.ch (fun b hb=>(g.rn b hb).2) hc,g.fo⟩
theorem uo.aqm {y:Nat->Value} (g:uo E w0 p F0 w X F vr vs ro ss qr qs) (ho:yI 23 1 w' vs' (ss.length+1) (nY ss.length qs (fun _=>y))) (hc:fV (fun b=>vs.ownBlock=some b) w w') (hp:∀b,vs'.ownBlock=some b->vs.ownBlock=some b\/w.heap.size<=b) (ha:eG F w (y 0) x):uo E w0 p F0 w' X F vr vs' ro (ss++ [x]) qr (fun j=>if j=ss.length then y else qs j):=
 have hs:=g.ch.gL.size
 ⟨E.keep g.m hc (fun e=>(g.sn p e).1 (.inl rfl)) fun b hb e=>(g.sn b e).1 (.inr hb),g.ro.Kh psU hc g.ss.os.z fun b hb e=>g.ds b hb e,g.ss.app bsU ho hc ha,g.rn,fun b hb=>(hp b hb).elim (g.sn b) fun h=>⟨fun hf=>by have:=E.lt g.m hf;omega,iw hs h⟩,fun b hb e=>(hp b e).elim (g.ds b hb) fun h=>by have:=g.ro.os.m.lt b hb;omega,uo.aeC g.ch (fun b hb=>(g.sn b hb).2) hc,g.fo⟩
theorem uo.base (g:uo E w1 p F0 w X F vr vs ro ss qr qs) (hb:Below w0.heap.size w0 w1):uo E w0 p F0 w X F vr vs ro ss qr qs:=
 ⟨g.m,g.ro,g.ss,fun b hb'=>⟨(g.rn b hb').1,iw hb.size (g.rn b hb').2⟩,fun b hb'=>⟨(g.sn b hb').1,iw hb.size (g.sn b hb').2⟩,g.ds,(lg.of_below hb F0).trans g.ch fun b h=>.inl h,fun b h=>(g.fo b h).imp id fun h=>iw hb.size h⟩
end
section
variable {B : Nat} {w w' w0 w1 w2 w3 : World} {p : Nat} {F F' F0 : Nat -> Prop} {E : kS B} {X : E.σ}
theorem EY (h:E.M w p F X) (hz:E.sz X<=800) (hok:E.JH X):Calls Tryz.prog 45 #[.pointer (some ⟨p,0,none⟩)] w fun e w'=> ∃vr vs,e=.returned (.tuple #[vr,vs,.bool true])/\∃F' qr qs,uo E w p F w' (E.usr X 5).1 F' vr vs (E.usr X 5).2.1 (E.usr X 5).2.2 qr qs:=by
 obtain⟨US,hUS⟩:∃f,f=E.usr X:=⟨_,rfl⟩
 have HU0:Hid (US 0=(X, [], [])):=ay (by rw[hUS];rfl);have HLN:Hid (∀k,(US k).2.1.length=k/\(US k).2.2.length=k):=ay fun k=>by rw[hUS];exact E.QB X k
 have zI:Hid (∀k,k<=5->E.sz (US k).1<=815):=ay fun k hk=>by rw[hUS];have:=E.Ww X k;omega
 have DX:Hid (∀k,k<5->∃d1 d3 p1 p3 v1 v3,E.mg (US k).1 1=(d1,0,d3)/\E.pub d3 d1=(p1,0,p3)/\E.ver p3 d1=(v1,0,v3)/\US (k+1)=(v3,(US k).2.1++ [⟨dW k,p1,v1⟩],(US k).2.2++ [d1])):=ay fun k hk=>by
  obtain⟨e1,e2,e3⟩:=hok k hk;rw[hUS];have e4:E.usr X (k+1)=((E.ver (E.pub (E.mg (E.usr X k).1 1).2.2 (E.mg (E.usr X k).1 1).1).2.2 (E.mg (E.usr X k).1 1).1).2.2,(E.usr X k).2.1++ [⟨dW k,(E.pub (E.mg (E.usr X k).1 1).2.2 (E.mg (E.usr X k).1 1).1).1,(E.ver (E.pub (E.mg (E.usr X k).1 1).2.2 (E.mg (E.usr X k).1 1).1).2.2 (E.mg (E.usr X k).1 1).1).1⟩],(E.usr X k).2.2++ [(E.mg (E.usr X k).1 1).1]):=rfl;obtain⟨⟨d1,d2,d3⟩,hD⟩:∃D,D=E.mg (E.usr X k).1 1:=⟨_,rfl⟩
  rw[<-hD] at e1 e2 e3 e4
  dsimp only at e1 e2 e3 e4
  obtain⟨⟨p1,p2,p3⟩,hP⟩:∃D,D=E.pub d3 d1:=⟨_,rfl⟩
  rw[<-hP] at e2 e3 e4
  dsimp only at e2 e3 e4
  obtain⟨⟨v1,v2,v3⟩,hV⟩:∃D,D=E.ver p3 d1:=⟨_,rfl⟩
  rw[<-hV] at e3 e4
  dsimp only at e3 e4
  subst e1 e2 e3;exact⟨d1,d3,p1,p3,v1,v3,hD.symm,hP.symm,hV.symm,e4⟩
 rw[<-hUS];have H:=ay h;clear h hok hz hUS
 go_enter Tryz.func45,Tryz.ntmps45
 go_upto_region 4 with(fail);refine aJ (fun w1=>(∀i,i<5->w1.cell? ⟨w.heap.size,i,none⟩=some (.string (dW i)))/\w.heap.size<w1.heap.size/\Below w.heap.size w w1) ⟨fun i hi=>(cell_of_row _ _ i _ _ (0,0) (heap_alloc_new w _)).trans ?_,by simp,(bT _ _).alloc (bH _) _⟩ ?_
 ·rcases(by omega:i=0\/i=1\/i=2\/i=3\/i=4) with rfl | rfl | rfl | rfl | rfl<;> rfl
 rintro w1 ⟨k1,s1,b1⟩;have K1:=ay k1;have S1:=ay s1;have B1:=ay b1;have HN:Hid (¬ (w.heap.size=p\/F w.heap.size)):=ay fun hh=>Nat.lt_irrefl _ (E.lt H.out hh);obtain⟨x15,hx⟩:∃x,x=w.heap.size:=⟨_,rfl⟩
 have HX:=ay hx;rw[<-hx] at K1 S1 HN ⊢;clear k1 s1 b1 hx
 go_loopw [5,6,17] (fun vr vs i wr=> ∃k:Nat,k<=5/\i=.int .i64 (k:Int)/\∃Fk qr qs,uo E w1 p F wr (US k).1 Fk vr vs (US k).2.1 (US k).2.2 qr qs) (fun _ _ i _=>5 - (intOf i).toNat)
 case atStart=>exact⟨0,jm _,rfl,F,fun _ _=>undef,fun _ _=>undef,by rw[HU0.out];exact⟨E.below H.out (HX.out▸B1.out),.nil,.nil,fun b hb=>(by cases hb),fun b hb=>(by cases hb),fun b hb=>(by cases hb),lg.refl _ _ _,fun b hb=>.inl hb⟩⟩
 case round=>
  obtain⟨k,hk,rfl,Fk,qr,qs,hI⟩:=hrel;have I:=ay hI;obtain⟨ar,cr,er,_,_⟩:=hI.ro.os.m.slice;subst er;obtain⟨as_,cs,es,_,_⟩:=hI.ss.os.m.slice;subst es;clear hI;by_cases hlt:k<5
  ·obtain⟨d1,d3,p1,p3,v1,v3,hD,hP,hV,hN⟩:=DX.out k hlt;have HNE:=ay hN;have HCD:=ay (E.ahM 1 I.out.m (iw (zI.out k hk) aM));rw[hD] at HCD;have HZ1:Hid (E.sz d3<=820/\E.sz p3<=821):=ay (by
    have h0:=zI.out k hk;have h1:=E.szD (US k).1 1;have h2:=E.szP d3 d1;rw[hD] at h1;rw[hP] at h2
    dsimp only at h1 h2
    omega)
   have HCP:=ay (fun(w1:World) (F1:Nat->Prop) (v1:Value) (m1:E.M w1 p F1 d3) (b1:eG F1 w1 v1 d1)=>E.ado m1 b1 (iw HZ1.out.1 aM));rw[hP] at HCP;have HCV:=ay (fun(w1:World) (F1:Nat->Prop) (v1:Value) (m1:E.M w1 p F1 p3) (b1:eG F1 w1 v1 d1)=>E.adn m1 b1 (iw HZ1.out.2 aM));rw[hV] at HCV;have c5:wr.cell? ⟨x15,k,none⟩=some (.string (dW k)):=(I.out.ch.gL.cell (p:=⟨x15,k,none⟩) S1.out HN.out).trans (K1.out k hlt);have HK:=ay hlt;clear hD hP hV hN hk;go_wp2_with fail;refine HCD.out.mono ?_;rintro e w2 ⟨u2,rfl,F2,m2,y2,ch2,f2⟩;have I2:=ay (I.out.step m2 ch2 f2);have Y2:=ay y2;obtain⟨a2,c2,e2⟩:=y2.slice;subst e2;clear m2 y2 ch2 f2 c5;go_wp2_with fail;refine(HCP.out _ _ _ I2.out.m Y2.out).mono ?_;rintro e w3 ⟨u3,rfl,F3,m3,y3,Nr,f3⟩;have I3:=ay (I2.out.step m3 Nr f3);have Y23:=ay (Y2.out.Ah Nr f3);have Y3:=ay y3;obtain⟨a3,c3,e3⟩:=y3.slice;subst e3;clear m3 y3 Nr f3;go_wp2_with fail;refine(HCV.out _ _ _ I3.out.m Y23.out).mono ?_;rintro e w4 ⟨u4,rfl,F4,m4,y4,ch4,f4⟩;have I4:=ay (I3.out.step m4 ch4 f4);have Y24:=ay (Y23.out.Ah ch4 f4);have Y34:=ay (Y3.out.Ah ch4 f4);have Y4:=ay y4;obtain⟨a4,c4,e4⟩:=y4.slice;subst e4;have Vt:Hid ((US k).2.1.length<=5):=ay (by rw[(HLN.out k).1];omega);have HL2:Hid ((US k).2.2.length<=5):=ay (by rw[(HLN.out k).2];omega);clear m4 y4 ch4 f4
   go_wp2_with (first
    | (at_builtin;refine nG (y:=fun i=>if i=0 then .string (dW k) else if i=1 then .slice a3 p1.length c3 else .slice a4 v1.length c4) rfl _ _ rfl rfl (by rfl) I4.out.ro.os aM Tryz.underlying57 Tryz.infoPs rfl rfl (fun i hi=>by rcases(by omega:i=0\/i=1\/i=2) with rfl | rfl | rfl;(· exact⟨rfl,fun x e=>by cases e⟩);(· exact⟨rfl,fun x e=>by cases e⟩);exact⟨rfl,fun x e=>by cases e⟩) (fun z hz=>by simp[Value.cells] at hz;rcases hz with rfl | rfl<;> exact fun x e=>by cases e) (by have:=Vt.out;unfold maxLen;omega) (by have:=Vt.out;omega) ?_;intro v6 w6 ho6 hc6 hp6;have I6:=ay (I4.out.aqn (a:=⟨dW k,p1,v1⟩) ho6 hc6 hp6 ⟨rfl,Y34.out,Y4.out⟩);have Y26:=ay (Y24.out.LG hc6 I4.out.ro.os.z);clear ho6 hc6 hp6)
    | (at_builtin;refine nG (y:=fun _=>.slice a2 d1.length c2) rfl _ _ rfl rfl (by rfl) I6.out.ss.os aM Tryz.underlying55 Tryz.infoBs rfl rfl (fun i hi=>⟨rfl,fun x e=>by cases e⟩) (fun z hz=>by simp[Value.cells] at hz;subst hz;exact fun x e=>by cases e) (by have:=HL2.out;unfold maxLen;omega) (by have:=HL2.out;omega) ?_;intro v8 w8 Ui hc8 hp8;have I8:=ay (I6.out.aqm (x:=d1) Ui hc8 hp8 Y26.out);clear Ui hc8 hp8))
   go_roundw
   case rel=>exact⟨k+1,HK.out,by go_num,F4,_,_,by rw[HNE.out];exact I8.out⟩
   case measure=>have:=HK.out;simp[intOf] <;> omega
  ·obtain rfl:k=5:=by omega
   clear hlt hk;go_wp2
   go_ret3
   exact⟨_,_,rfl,Fk,qr,qs,I.out.base (HX.out▸B1.out)⟩
end
section
variable {B : Nat} {w w' w0 w1 w2 w3 : World} {p : Nat} {F F' F0 : Nat -> Prop} {E : kS B} {X : E.σ} {z : Nat -> Value} {P : mD} {v : Value} {s : List Int}
theorem XW (N r c:Int) (w:World) (hr:N.tmod 5=r) (hc:IntKind.u8.wrap (97+r)=c) (hb:0<=c/\c<256):Calls Tryz.prog 47 #[.int .u8 N] w fun e w'=>e=.returned (.string (strOf 1 (fun _=>c)))/\Below w.heap.size w w':=by
 have hrd:Rd .u8 (w.alloc (.cells #[.int .u8 c] 5)) (.slice (some ⟨w.heap.size,0,none⟩) 1 1) 1 (fun _=>c):=by
  refine⟨_,_,rfl,bH _,by decide,(fun h=>by cases h),fun _=>⟨w.heap.size,0,rfl,by simp,fun i hi=>?_⟩⟩;refine(cell_of_row _ _ (0+i) _ _ (0,0) (heap_alloc_new w _)).trans ?_;obtain rfl:i=0:=by omega
  rfl
 have HK:=ay hrd;have HCB:=ay hb;have HB:Hid (Below w.heap.size w (w.alloc (.cells #[.int .u8 c] 5))):=ay ((bT _ _).alloc (bH _) _);clear hrd hb
 go_enter Tryz.func47,Tryz.ntmps47
 go_wp2_with (refine fC rfl (sU (e:=5) (v:=.slice (some ⟨w.heap.size,0,none⟩) 1 1) rfl rfl HK.out mo Tryz.underlying5 yG (fun i hi=>HCB.out)) ?_);go_ret;exact⟨rfl,HB.out⟩
theorem xQ (n:Nat) (w:World):Calls Tryz.prog 47 #[.int .u8 (n:Int)] w fun e w'=>e=.returned (.string (dW (n % 5)))/\Below w.heap.size w w':=by
 have hr:(n:Int).tmod 5=((n % 5:Nat):Int):=by rw[Int.tmod_eq_emod_of_nonneg aH];omega
 have h5:n % 5<5:=Nat.mod_lt _ aM;obtain⟨r,hr'⟩:∃r,r=n % 5:=⟨_,rfl⟩
 rw[<-hr'] at hr h5 ⊢;have:=XW (n:Int) r (97+r) w hr (by rcases(by omega:r=0\/r=1\/r=2\/r=3\/r=4) with rfl | rfl | rfl | rfl | rfl<;> rfl) aH;rw[show strOf 1 (fun _=>97+(r:Int))=dW r by rcases(by omega:r=0\/r=1\/r=2\/r=3\/r=4) with rfl | rfl | rfl | rfl | rfl<;> rfl] at this;exact this
theorem Dh (h:E.M w p F X) (hP:Ec F w z P) (hs:eG F w v s) (hl:s.length<=300) (hz:E.sz X<=890):Calls Tryz.prog 50 #[.pointer (some ⟨p,0,none⟩),.agg (gV 3 z),v] w fun e w'=> ∃u,e=.returned (.tuple #[u,.int .i64 (E.rT X P.pb s).2.1])/\E.Res w p F u (E.rT X P.pb s) w':=by
 have HC:=ay (fun(w1:World) (b1:Below w.heap.size w w1)=>E.ahK (E.below h b1) (hP.z1.below b1) (hs.below b1) hl (by omega:E.sz X<=900));obtain⟨R,hR⟩:∃R,R=E.rT X P.pb s:=⟨_,rfl⟩
 rw[<-hR] at HC ⊢;obtain⟨ap,cp,e1⟩:=hP.z1.slice;rw[e1] at HC;have HE1:=ay e1;obtain⟨av,cv,rfl⟩:=hs.slice;obtain⟨R1,R2,R3⟩:=R
 dsimp only at HC ⊢
 obtain⟨n,hn⟩:∃n,n=P.pb.length:=⟨_,rfl⟩
 rw[<-hn] at HC HE1;clear h hP hs hl hz hR e1 hn
 go_enter Tryz.func50,Tryz.ntmps50
 go_upto_region 1 with(fail);refine aJ (fun w1=>w1.cell? ⟨w.heap.size,1,none⟩=some (.slice ap n cp)/\Below w.heap.size w w1) ⟨((iM.new (n:=3) (z:=z)).2 1 aM).trans (by rw[HE1.out]),(bT _ _).alloc (bH _) _⟩ ?_;rintro w1 ⟨k1,b1⟩;have B1:=ay b1;clear b1;go_wp2_with fail;refine(HC.out w1 B1.out).mono ?_;rintro e w2 ⟨u,rfl,F',m,y,ch,fo⟩;have HR:Hid (E.Res w p F u (R1,R2,R3) w2):=ay ⟨F',m,y,(lg.of_below B1.out F).trans ch fun b h=>.inl h,fun b h=>(fo b h).imp id fun h=>iw B1.out.size h⟩;obtain⟨au,cu,rfl⟩:=y.slice;clear m y ch fo k1;go_wp2;go_ret2;exact⟨_,rfl,HR.out⟩
end
theorem Tryz.infoDp:(Tryz.prog.info? 66).map (fun i=>(i.zero,i.size,i.bytes))=some (some (.agg #[.string ⟨#[]⟩,.string ⟨#[]⟩,.slice none 0 0]),3,56):=by kernel_rfl
theorem Tryz.sizeU2:(Tryz.prog.info? 64).map (·.size)=some 2:=by kernel_rfl
theorem Tryz.sizeBs:(Tryz.prog.info? 23).map (·.size)=some 1:=by kernel_rfl
section
variable {B : Nat} {w w' w0 w1 w2 w3 : World} {p m : Nat} {F F' F0 : Nat -> Prop} {v u vr vs vd vd' vl : Value} {x l : List Int} {z : Nat -> Value} {qr qs qd : Nat -> Nat -> Value} {E : kS B} {X : E.σ} {ro : List mD} {ss : List (List Int)} {D : List qG} {d : qG} {f g : Nat -> Nat} {rp sp : Nat -> List Int}
def kS.dep (E:kS B) (X:E.σ) (rp sp:Nat->List Int) (f g:Nat->Nat):Nat->E.σ × List qG
 | 0=>(X, [])
 | k+1=>((E.rT (E.dep X rp sp f g k).1 (rp (g k % 5)) (sp (f k % 5))).2.2,(E.dep X rp sp f g k).2++ [⟨dW (f k % 5),dW (g k % 5),(E.rT (E.dep X rp sp f g k).1 (rp (g k % 5)) (sp (f k % 5))).1⟩])
theorem kS.Zw (E:kS B) (X:E.σ):∀k,E.sz (E.dep X rp sp f g k).1<=E.sz X+k
 | 0=>bH _
 | k+1=>by
  have h0:=E.Zw X k;have h1:=E.szW (E.dep X rp sp f g k).1 (rp (g k % 5)) (sp (f k % 5));show E.sz (E.rT (E.dep X rp sp f g k).1 (rp (g k % 5)) (sp (f k % 5))).2.2<=_;omega
theorem kS.IV (E:kS B) (X:E.σ):∀k,(E.dep X rp sp f g k).2.length=k
 | 0=>rfl
 | k+1=>by
  have h0:=E.IV X k;show (_++ [_]).length= _;rw[List.length_append,h0]
  rfl
structure Sg (E:kS B) (w0:World) (p:Nat) (F0:Nat->Prop) (w:World) (X:E.σ) (F:Nat->Prop) (vr vs:Value) (ro:List mD) (ss:List (List Int)) (qr qs:Nat->Nat->Value) (vd:Value) (D:List qG) (qd:Nat->Nat->Value):Prop where
 u:uo E w0 p F0 w X F vr vs ro ss qr qs
 dl:uX (Jz F) 66 3 w vd D qd
 dn:∀b,vd.ownBlock=some b->¬ (b=p\/F b)/\w0.heap.size<=b
 dr:∀b,vd.ownBlock=some b->vr.ownBlock≠some b
 ds:∀b,vd.ownBlock=some b->vs.ownBlock≠some b
theorem Sg.below (h:Sg E w0 p F0 w X F vr vs ro ss qr qs vd D qd) (hb:Below w.heap.size w w'):Sg E w0 p F0 w' X F vr vs ro ss qr qs vd D qd:=⟨h.u.below hb,h.dl.below dpU hb,h.dn,h.dr,h.ds⟩
theorem Sg.step {X':E.σ} (h:Sg E w0 p F0 w X F vr vs ro ss qr qs vd D qd) (h1:E.M w' p F' X') (h3:lg p F w w') (h4:∀b,F' b->F b\/w.heap.size<=b):Sg E w0 p F0 w' X' F' vr vs ro ss qr qs vd D qd:=
 ⟨h.u.step h1 h3 h4,h.dl.WS dpS h3 h4 fun b hb=>(h.dn b hb).1,xJ h.dn h.dl.os.m.lt h4,h.dr,h.ds⟩
theorem uo.gL {G:Nat->Prop} (g:uo E w0 p F0 w X F vr vs ro ss qr qs) (hc:fV G w w') (hG:∀b,G b->EP w b/\¬ (b=p\/F b)/\w0.heap.size<=b/\vr.ownBlock≠some b/\vs.ownBlock≠some b):uo E w0 p F0 w' X F vr vs ro ss qr qs:=
 ⟨E.keep g.m hc (fun e=>(hG p e).2.1 (.inl rfl)) fun b hb e=>(hG b e).2.1 (.inr hb),g.ro.Kh psU hc (fun b e=>(hG b e).1) fun b hb e=>(hG b e).2.2.2.1 hb,g.ss.Kh bsU hc (fun b e=>(hG b e).1) fun b hb e=>(hG b e).2.2.2.2 hb,g.rn,g.sn,g.ds,
  ⟨g.ch.gL.trans hc fun b hb he=>by have:=(hG b he).2.2.1;omega,fun b hb hF i x hx=>(hc.cell (p:=⟨b,i,none⟩) (qZ hb g.ch.gL.size) (fun he=>by have:=(hG b he).2.2.1;omega)).trans (g.ch.u8 b hb hF i x hx)⟩,g.fo⟩
theorem Sg.app {y:Nat->Value} (h:Sg E w0 p F0 w X F vr vs ro ss qr qs vd D qd) (ho:yI 66 3 w' vd' (D.length+1) (nY D.length qd (fun _=>y))) (hc:fV (fun b=>vd.ownBlock=some b) w w') (hp:∀b,vd'.ownBlock=some b->vd.ownBlock=some b\/w.heap.size<=b) (ha:Jz F w y d):Sg E w0 p F0 w' X F vr vs ro ss qr qs vd' (D++ [d]) (fun j=>if j=D.length then y else qd j):=
 have hs:=h.u.ch.gL.size
 ⟨h.u.gL hc fun b hb=>⟨h.dl.os.z b hb,(h.dn b hb).1,(h.dn b hb).2,h.dr b hb,h.ds b hb⟩,h.dl.app dpU ho hc ha,fun b hb=>(hp b hb).elim (h.dn b) fun h'=>⟨fun hf=>by have:=E.lt h.u.m hf;omega,iw hs h'⟩,fun b hb=>(hp b hb).elim (h.dr b) fun h' e=>by have:=h.u.ro.os.m.lt b e;omega,fun b hb=>(hp b hb).elim (h.ds b) fun h' e=>by have:=h.u.ss.os.m.lt b e;omega⟩
def ES (E:kS B) (w0:World) (p:Nat) (F0:Nat->Prop) (vr vs:Value) (ro:List mD) (ss:List (List Int)) (qr qs:Nat->Nat->Value) (vd:Value) (D:List qG) (qd:Nat->Nat->Value) (R:List Int × Int × E.σ) (vV:Nat) (zd:Nat->Value) (w:World) (v:Value):Prop:=iM w vV 2 64 zd/\∃F' u,v=.tuple #[u,.int .i64 R.2.1] /\Sg E w0 p F0 w R.2.2 F' vr vs ro ss qr qs vd D qd/\eG F' w u R.1
def Jr (E:kS B) (w0:World) (p:Nat) (F0:Nat->Prop) (vr vs:Value) (ro:List mD) (ss:List (List Int)) (qr qs:Nat->Nat->Value) (vd:Value) (D:List qG) (qd:Nat->Nat->Value) (R:List Int × Int × E.σ) (vV:Nat) (zd:Nat->Value) (w:World) (v:Value):Prop:=iM w vV 2 64 zd/\∃F',Sg E w0 p F0 w R.2.2 F' vr vs ro ss qr qs vd D qd/\eG F' w v R.1
variable {R : List Int × Int × E.σ} {vV : Nat} {zd : Nat -> Value}
theorem ES.below (h:ES E w0 p F0 vr vs ro ss qr qs vd D qd R vV zd w v) (hb:Below w.heap.size w w'):ES E w0 p F0 vr vs ro ss qr qs vd D qd R vV zd w' v:=by
 obtain⟨h0,F',u,e,h1,h2⟩:=h;exact⟨h0.below hb,F',u,e,h1.below hb,h2.below hb⟩
theorem Jr.below (h:Jr E w0 p F0 vr vs ro ss qr qs vd D qd R vV zd w v) (hb:Below w.heap.size w w'):Jr E w0 p F0 vr vs ro ss qr qs vd D qd R vV zd w' v:=by
 obtain⟨h0,F',h1,h2⟩:=h;exact⟨h0.below hb,F',h1.below hb,h2.below hb⟩
theorem IU (U:uo E w0 p F0 w X F vr vs ro ss qr qs) (hP:Pr2 w0 vl m f g) (hPn:0<m->∀b,vl.ownBlock=some b->¬ (b=p\/F0 b)) (hm:m<=10) (hz:E.sz X<=860)
  (hrl:ro.length=5) (hsl:ss.length=5) (hr:∀i,i<5->∃a,ro[i]? =some a/\a.pb=rp i) (hs:∀i,i<5->ss[i]? =some (sp i)/\(sp i).length<=300) (hok:∀k,k<m->(E.rT (E.dep X rp sp f g k).1 (rp (g k % 5)) (sp (f k % 5))).2.1=0):
  Calls Tryz.prog 46 #[.pointer (some ⟨p,0,none⟩),vr,vs,vl] w fun e w'=> ∃vd,e=.returned (.tuple #[vd,.bool true])/\∃F' qd,Sg E w0 p F0 w' (E.dep X rp sp f g m).1 F' vr vs ro ss qr qs vd (E.dep X rp sp f g m).2 qd:=by
 obtain⟨DS,hDS⟩:∃f',f'=E.dep X rp sp f g:=⟨_,rfl⟩
 have HD0:Hid (DS 0=(X, [])):=ay (by rw[hDS];rfl);have HDL:Hid (∀k,(DS k).2.length=k):=ay fun k=>by rw[hDS];exact E.IV X k
 have zI:Hid (∀k,k<=10->E.sz (DS k).1<=870):=ay fun k hk=>by rw[hDS];have:=E.Zw (rp:=rp) (sp:=sp) (f:=f) (g:=g) X k;omega
 have DX:Hid (∀k,k<m->∃b X',E.rT (DS k).1 (rp (g k % 5)) (sp (f k % 5))=(b,0,X')/\DS (k+1)=(X',(DS k).2++ [⟨dW (f k % 5),dW (g k % 5),b⟩])):=ay fun k hk=>by
  have e1:=hok k hk;rw[hDS];have e4:E.dep X rp sp f g (k+1)=((E.rT (E.dep X rp sp f g k).1 (rp (g k % 5)) (sp (f k % 5))).2.2,(E.dep X rp sp f g k).2++ [⟨dW (f k % 5),dW (g k % 5),(E.rT (E.dep X rp sp f g k).1 (rp (g k % 5)) (sp (f k % 5))).1⟩]):=rfl;obtain⟨⟨b,e,X'⟩,hW⟩:∃D,D=E.rT (E.dep X rp sp f g k).1 (rp (g k % 5)) (sp (f k % 5)):=⟨_,rfl⟩
  rw[<-hW] at e1 e4
  dsimp only at e1 e4
  subst e1;exact⟨b,X',hW.symm,e4⟩
 rw[<-hDS];have HU:=ay U;have HR:=ay hr;have HS:=ay hs;have HPN:=ay hPn;obtain⟨q,⟨al,cap,rfl,hcap,hcap2,hcell⟩,hq⟩:=hP;have HC:=ay hcell;have HQ:=ay hq;have HM:=ay hm;obtain⟨gr,kr,er,hr1,_,_,hrc⟩:=U.ro.os.m.form aH;obtain⟨gs,ks,es,hs1,_,_,hsc⟩:=U.ss.os.m.form aH;rw[hrl] at er hrc;rw[hsl] at es hsc;subst er;subst es;have HRL:=ay hrl;have HSL:=ay hsl;clear U hr hs hPn hcell hq hm hr1 hs1 hrc hsc hok hDS hcap hz
 go_enter Tryz.func46,Tryz.ntmps46
 go_wp2
 go_loopw [10,17] (fun vd i wr=> ∃k:Nat,k<=m/\i=.int .i64 (k:Int)/\∃Fk qd,Sg E w0 p F0 wr (DS k).1 Fk (.slice (some ⟨gr,0,none⟩) 5 kr) (.slice (some ⟨gs,0,none⟩) 5 ks) ro ss qr qs vd (DS k).2 qd) (fun _ i _=>m - (intOf i).toNat)
 case atStart=>exact⟨0,jm _,rfl,F,fun _ _=>undef,by rw[HD0.out];exact⟨HU.out,.nil,fun b hb=>(by cases hb),fun b hb=>(by cases hb),fun b hb=>(by cases hb)⟩⟩
 case round=>
  obtain⟨k,hk,rfl,Fk,qd,hI⟩:=hrel;have I:=ay hI;obtain⟨ad,cd,ed,_,_⟩:=hI.dl.os.m.slice;subst ed;clear hI;by_cases hlt:k<m
  ·obtain⟨bb,o,rfl,hbl,hcc⟩:=HC.out aH;have hnb:=HPN.out aH bb rfl;have uY:Hid (∀i,i<2->wr.cell? ⟨bb,o+k * 2+i,none⟩=some (q k i)):=fun i hi=>(I.out.u.ch.gL.cell (p:=⟨bb,o+k * 2+i,none⟩) hbl hnb).trans (hcc k hlt i hi);obtain⟨q0,q1⟩:=HQ.out k hlt;have HOC:Hid (∀i,i<2->(q k i).oneCell'=true):=fun i hi=>by
    rcases(by omega:i=0\/i=1) with rfl | rfl
    ·rw[q0];rfl
    ·rw[q1];rfl
   have HQ0:=ay q0;have HQ1:=ay q1;have wN:=ay hlt;clear hcc q0 q1 hnb;go_upto_region 5 with(first | (refine jl rfl rfl rfl Tryz.underlying64 rfl Tryz.sizeU2 uY.out ?_) | (refine gU rfl 64 _ _ rfl wr.heap.size 2 (q k) _ 64 (heap_alloc_new _ _) rfl Tryz.sizeU2 rfl rfl HOC.out ?_));refine aJ (fun w4=>iM w4 wr.heap.size 2 64 (q k)/\Below wr.heap.size wr w4) ⟨iM.setRow (heap_alloc_new _ _),aB ((bT _ _).alloc (bH _) _) (bH _) _⟩ ?_;rintro w4 ⟨hr4,jF⟩;have R4:=ay hr4;have I4:=ay (I.out.below jF);have amn:Hid (¬ (wr.heap.size=p\/Fk wr.heap.size)):=ay fun hf=>Nat.lt_irrefl _ (E.lt I.out.u.m hf);have ahV:Hid (wr.heap.size<w4.heap.size):=ay hr4.1.lt;obtain⟨vV,akl⟩:∃x,x=wr.heap.size:=⟨_,rfl⟩
   rw[<-akl] at R4 amn ahV ⊢;have F4:Hid (w4.cell? ⟨vV,0,none⟩=some (.int .u8 (f k:Int))):=ay ((R4.out.2 0 aM).trans (by rw[HQ0.out]));have G4:Hid (w4.cell? ⟨vV,1,none⟩=some (.int .u8 (g k:Int))):=ay ((R4.out.2 1 aM).trans (by rw[HQ1.out]));obtain⟨r0,hr0⟩:∃r,r=f k % 5:=⟨_,rfl⟩
   obtain⟨r1,hr1⟩:∃r,r=g k % 5:=⟨_,rfl⟩
   have RZ:Hid ((f k:Int).tmod 5=(r0:Int)):=ay (by rw[Int.tmod_eq_emod_of_nonneg aH];omega);have HR1:Hid ((g k:Int).tmod 5=(r1:Int)):=ay (by rw[Int.tmod_eq_emod_of_nonneg aH];omega);have HL0:Hid (r0<5):=ay aH;have Vt:Hid (r1<5):=ay aH;obtain⟨b,X',hW,hN⟩:=DX.out k hlt;rw[<-hr0,←hr1] at hW hN;have HNE:=ay hN;obtain⟨pa,hpa,hpb⟩:=HR.out r1 Vt.out;have Nh:=ay (I4.out.u.ro.bs r1 pa hpa);obtain⟨hsa,hsl2⟩:=HS.out r0 HL0.out;have Nf:=ay (I4.out.u.ss.bs r0 _ hsa);obtain⟨a0,c0,e0⟩:=eG.slice Nf.out;obtain⟨n0,hn0⟩:∃n,n=(sp r0).length:=⟨_,rfl⟩
   rw[<-hn0] at e0;have HRC:Hid (∀i,i<3->w4.cell? ⟨gr,r1 * 3+i,none⟩=some (qr r1 i)):=ay (by
    obtain⟨g',c',e,_,_,_,hc⟩:=I4.out.u.ro.os.m.form (by rw[HRL.out];decide);rw[HRL.out] at e hc;cases e
    exact fun i hi=>hc r1 Vt.out i hi)
   have HSC:Hid (w4.cell? ⟨gs,r0 * 1,none⟩=some (.slice a0 n0 c0)):=ay (by
    obtain⟨g',c',e,_,_,_,hc⟩:=I4.out.u.ss.os.m.form (by rw[HSL.out];decide);rw[HSL.out] at e hc;cases e
    exact(hc r0 HL0.out 0 aM).trans (by rw[e0]))
   have HGR:Hid (gr<w4.heap.size):=ay (I4.out.u.ro.os.m.lt gr rfl);have HGS:Hid (gs<w4.heap.size):=ay (I4.out.u.ss.os.m.lt gs rfl);have HGV:Hid (∀w',Below w4.heap.size w4 w'->Calls Tryz.prog 50 #[.pointer (some ⟨p,0,none⟩),.agg (gV 3 (qr r1)),.slice a0 n0 c0] w' fun e wz=> ∃x,e=.returned x/\ES E w0 p F0 (.slice (some ⟨gr,0,none⟩) 5 kr) (.slice (some ⟨gs,0,none⟩) 5 ks) ro ss qr qs (.slice ad (DS k).2.length cd) (DS k).2 qd (b,0,X') vV (q k) wz x):=ay fun w' hb'=>by
    have hI':=I4.out.below hb';have hg:=Dh hI'.u.m (Nh.out.below hb') (eG.below (show eG Fk w4 (.slice a0 n0 c0) (sp r0) from e0▸Nf.out) hb') hsl2 (iw (zI.out k (by have:=HM.out;omega)) aM);rw[hpb,hW] at hg;refine hg.mono ?_;rintro e wz ⟨u,rfl,F',m',y',ch',fo'⟩;exact⟨_,rfl,(R4.out.below hb').keep ch'.gL amn.out,F',u,rfl,hI'.step m' ch' fo',y'⟩
   have HFK:Hid (f k % 5=r0):=ay hr0.symm;have HGK:Hid (g k % 5=r1):=ay hr1.symm;clear hr4 jF akl hr0 hr1 hW hN hpa hpb hsa hsl2 e0 hn0 uY HOC
   refine rG (n:=53) 13 aQ aQ aQ aQ aQ rfl
    (fun ii vv=>(match ii with | 0=>vv=.pointer (some ⟨p,0,none⟩) | 1=>vv=.slice (some ⟨gr,0,none⟩) 5 kr | 2=>vv=.pointer (some ⟨vV,1,none⟩) | 3=>vv=.int .u8 ((g k:Int)) | 4=>vv=.int .u8 ((r1:Int)) | 5=>vv=.pointer (some ⟨gr,r1 * 3,none⟩) | 6=>vv=.agg (gV 3 (qr r1)) | 7=>vv=.slice (some ⟨gs,0,none⟩) 5 ks | 8=>vv=.pointer (some ⟨vV,0,none⟩) | 9=>vv=.int .u8 ((f k:Int)) | 10=>vv=.int .u8 ((r0:Int)) | 11=>vv=.pointer (some ⟨gs,r0 * 1,none⟩) | 12=>vv=.slice a0 n0 c0 | 16 | 18=>vv=.int .i64 (0) | _=>True)) (fun ii vv ww=>(ii=13->ES E w0 p F0 (.slice (some ⟨gr,0,none⟩) 5 kr) (.slice (some ⟨gs,0,none⟩) 5 ks) ro ss qr qs (.slice ad (DS k).2.length cd) (DS k).2 qd (b,0,X') vV (q k) ww vv)/\(ii=14->ES E w0 p F0 (.slice (some ⟨gr,0,none⟩) 5 kr) (.slice (some ⟨gs,0,none⟩) 5 ks) ro ss qr qs (.slice ad (DS k).2.length cd) (DS k).2 qd (b,0,X') vV (q k) ww vv)/\(ii=15->Jr E w0 p F0 (.slice (some ⟨gr,0,none⟩) 5 kr) (.slice (some ⟨gs,0,none⟩) 5 ks) ro ss qr qs (.slice ad (DS k).2.length cd) (DS k).2 qd (b,0,X') vV (q k) ww vv)/\(ii=17->Jr E w0 p F0 (.slice (some ⟨gr,0,none⟩) 5 kr) (.slice (some ⟨gs,0,none⟩) 5 ks) ro ss qr qs (.slice ad (DS k).2.length cd) (DS k).2 qd (b,0,X') vV (q k) ww vv))
    (fun i v w w' h hE=>⟨fun e=>ES.below (h.1 e) hE,fun e=>ES.below (h.2.1 e) hE,fun e=>Jr.below (h.2.2.1 e) hE,fun e=>Jr.below (h.2.2.2 e) hE⟩)
    (fun ww=>True) (fun _ _ _ _=>trivial) ?_ ?_ ?_
   ·refine dG ?_;refine⟨?_,?_,?_,?_,?_,?_,?_,?_,?_,?_,?_,?_,?_,(fun h=>absurd rfl h),?_,?_,?_,?_,?_,trivial⟩
    ·intro _ a w2 hB' hP hF hd;have hB:=hB' aQ;exact aN <| aG _ (.inl rfl) aR ⟨(hF.same 0 rfl),aP,aP,aP,aP⟩
    ·intro _ a w2 hB' hP hF hd;have hB:=hB' aQ;exact aN <| aG _ (.inl rfl) aR ⟨(hF.same 1 rfl),aP,aP,aP,aP⟩
    ·intro _ a w2 hB' hP hF hd;have hB:=hB' aQ;exact aN <| aW (aU rfl (hF.same 12 rfl) rfl Tryz.underlying64 aQ aM aM) ⟨rfl,aP,aP,aP,aP⟩
    ·intro _ a w2 hB' hP hF hd;have hB:=hB' aQ;exact aN <| aW (bg rfl ((hd 2 _ rfl rfl).1) Tryz.underlying5 ((hB.cell (p:=⟨vV,1,none⟩) ahV.out).trans G4.out)) ⟨rfl,aP,aP,aP,aP⟩
    ·intro _ a w2 hB' hP hF hd;have hB:=hB' aQ;exact aN <| aW (Go.bI.xA rfl ((hd 3 _ rfl rfl).1) rfl aM) ⟨(congrArg (Value.int .u8) (HR1.out)),aP,aP,aP,aP⟩
    ·intro _ a w2 hB' hP hF hd;have hB:=hB' aQ;exact aN <| aW (cO (i:=r1) (sz:=3) rfl ((hd 1 _ rfl rfl).1) ((hd 4 _ rfl rfl).1) Tryz.underlying57 Tryz.sizePs Vt.out) ⟨rfl,aP,aP,aP,aP⟩
    ·intro _ a w2 hB' hP hF hd;have hB:=hB' aQ;exact aN <| aW (lG rfl ((hd 5 _ rfl rfl).1) Tryz.underlying78 rfl Tryz.sizePs (fun i hi=>(hB.cell (p:=⟨gr,r1 * 3+i,none⟩) HGR.out).trans (HRC.out i hi))) ⟨rfl,aP,aP,aP,aP⟩
    ·intro _ a w2 hB' hP hF hd;have hB:=hB' aQ;exact aN <| aG _ (.inl rfl) aR ⟨(hF.same 2 rfl),aP,aP,aP,aP⟩
    ·intro _ a w2 hB' hP hF hd;have hB:=hB' aQ;exact aN <| aW (aU rfl (hF.same 12 rfl) rfl Tryz.underlying64 aQ aM aM) ⟨rfl,aP,aP,aP,aP⟩
    ·intro _ a w2 hB' hP hF hd;have hB:=hB' aQ;exact aN <| aW (bg rfl ((hd 8 _ rfl rfl).1) Tryz.underlying5 ((hB.cell (p:=⟨vV,0,none⟩) ahV.out).trans F4.out)) ⟨rfl,aP,aP,aP,aP⟩
    ·intro _ a w2 hB' hP hF hd;have hB:=hB' aQ;exact aN <| aW (Go.bI.xA rfl ((hd 9 _ rfl rfl).1) rfl aM) ⟨(congrArg (Value.int .u8) (RZ.out)),aP,aP,aP,aP⟩
    ·intro _ a w2 hB' hP hF hd;have hB:=hB' aQ;exact aN <| aW (cO (i:=r0) (sz:=1) rfl ((hd 7 _ rfl rfl).1) ((hd 10 _ rfl rfl).1) Tryz.underlying55 Tryz.sizeBs HL0.out) ⟨rfl,aP,aP,aP,aP⟩
    ·intro _ a w2 hB' hP hF hd;have hB:=hB' aQ;exact aN <| aW (eB rfl ((hd 11 _ rfl rfl).1) mo ((hB.cell (p:=⟨gs,r0 * 1,none⟩) HGS.out).trans HSC.out)) ⟨rfl,aP,aP,aP,aP⟩
    ·intro _ a w2 hB' hP hF hd;exact aN <| aG _ (.inl rfl) aR ⟨trivial,aP,fun _=>((((hd 13 _ rfl rfl).2 aQ).1 rfl)),aP,aP⟩
    ·intro _ a w2 hB' hP hF hd;rw[if_pos (dA rfl)];obtain⟨r_,F_,u_,II,Rq,hv_⟩:=(((hd 14 _ rfl rfl).2 aQ).2.1 rfl)
     exact aW (bU rfl II rfl) ⟨trivial,aP,aP,fun _=>(⟨r_,F_,Rq,hv_⟩),aP⟩
    ·intro _ a w2 hB' hP hF hd;rw[if_pos (dA rfl)];obtain⟨r_,F_,u_,II,Rq,hv_⟩:=(((hd 14 _ rfl rfl).2 aQ).2.1 rfl)
     exact aW (bU rfl II rfl) ⟨rfl,aP,aP,aP,aP⟩
    ·intro _ a w2 hB' hP hF hd;exact aN <| aG _ (.inr rfl) aR ⟨trivial,aP,aP,aP,fun _=>(((hd 15 _ rfl rfl).2 aQ).2.2.1 rfl)⟩
    ·intro _ a w2 hB' hP hF hd;exact aN <| aG _ (.inr rfl) aR ⟨((hd 16 _ rfl rfl).1),aP,aP,aP,aP⟩
   ·intro o ho a w2 hB hF hd;obtain rfl:=gJ ho;refine⟨by rw[dA rfl],?_⟩;refine wP 50 #[.tmp 22,.tmp 28,.tmp 34] _ rfl Tryz.call50 _ (vR ((hd 0 _ rfl rfl).1) ((hd 6 _ rfl rfl).1) ((hd 12 _ rfl rfl).1)) aR ((HGV.out w2 hB).mono ?_);rintro e w3 ⟨x,rfl,hr⟩;exact⟨x,rfl,⟨trivial,fun _=>(hr),aP,aP,aP⟩,trivial⟩
   ·intro a w5 hP hF hS;obtain⟨x35,Ub⟩:∃x,x=a.tmps.getD 35 undef:=⟨_,rfl⟩
    have P35:ES E w0 p F0 (.slice (some ⟨gr,0,none⟩) 5 kr) (.slice (some ⟨gs,0,none⟩) 5 ks) ro ss qr qs (.slice ad (DS k).2.length cd) (DS k).2 qd (b,0,X') vV (q k) w5 x35:=by rw[Ub];exact((hS 13 _ rfl).2 aQ).1 rfl
    obtain⟨x21,OZ⟩:∃x,x=a.tmps.getD 21 undef:=⟨_,rfl⟩
    have P21:ES E w0 p F0 (.slice (some ⟨gr,0,none⟩) 5 kr) (.slice (some ⟨gs,0,none⟩) 5 ks) ro ss qr qs (.slice ad (DS k).2.length cd) (DS k).2 qd (b,0,X') vV (q k) w5 x21:=by rw[OZ];exact((hS 14 _ rfl).2 aQ).2.1 rfl
    obtain⟨x36,OX⟩:∃x,x=a.tmps.getD 36 undef:=⟨_,rfl⟩
    have P36:Jr E w0 p F0 (.slice (some ⟨gr,0,none⟩) 5 kr) (.slice (some ⟨gs,0,none⟩) 5 ks) ro ss qr qs (.slice ad (DS k).2.length cd) (DS k).2 qd (b,0,X') vV (q k) w5 x36:=by rw[OX];exact((hS 15 _ rfl).2 aQ).2.2.1 rfl
    obtain⟨x13,Uc⟩:∃x,x=a.tmps.getD 13 undef:=⟨_,rfl⟩
    have P13:Jr E w0 p F0 (.slice (some ⟨gr,0,none⟩) 5 kr) (.slice (some ⟨gs,0,none⟩) 5 ks) ro ss qr qs (.slice ad (DS k).2.length cd) (DS k).2 qd (b,0,X') vV (q k) w5 x13:=by rw[Uc];exact((hS 17 _ rfl).2 aQ).2.2.2 rfl
    have ha:=aO rfl rfl hF [_,_,_,_,_,_,_,_,_,_,_,_,_,x35,x21,x36,_,x13,_] rfl ⟨(hS 0 _ rfl).1,(hS 1 _ rfl).1,(hS 2 _ rfl).1,(hS 3 _ rfl).1,(hS 4 _ rfl).1,(hS 5 _ rfl).1,(hS 6 _ rfl).1,(hS 7 _ rfl).1,(hS 8 _ rfl).1,(hS 9 _ rfl).1,(hS 10 _ rfl).1,(hS 11 _ rfl).1,(hS 12 _ rfl).1,Ub.symm,OZ.symm,OX.symm,(hS 16 _ rfl).1,Uc.symm,(hS 18 _ rfl).1,trivial⟩;simp only[puts,Act.put,fB,fD,fF] at ha;subst ha;clear Ub OZ OX Uc;clear hS hF;have HP:=ay P13;clear P13 P35 P21 P36;obtain⟨hr5,F5,hi5,hy5⟩:=HP.out;have I5:=ay hi5;have Y5:=ay hy5;have F5c:Hid (w5.cell? ⟨vV,0,none⟩=some (.int .u8 (f k:Int))):=ay ((hr5.2 0 aM).trans (by rw[HQ0.out]));have G5c:Hid (w5.cell? ⟨vV,1,none⟩=some (.int .u8 (g k:Int))):=ay ((hr5.2 1 aM).trans (by rw[HQ1.out]));have HX5:Hid (vV<w5.heap.size):=ay hr5.1.lt;obtain⟨a9,c9,e9⟩:=hy5.slice;subst e9;obtain⟨n9,hn9⟩:∃n,n=b.length:=⟨_,rfl⟩
    rw[<-hn9] at Y5 ⊢;obtain⟨nd,hnd⟩:∃n,n=(DS k).2.length:=⟨_,rfl⟩
    have HND:=ay hnd;rw[<-hnd] at I5 ⊢;clear hr5 hi5 hy5 HP hP hn9 hnd I4 R4 HGV HRC HSC Nh Nf F4 G4;go_upto_region 8 with(fail)
    refine pK (n:=53) 10 aM aQ aQ aQ aQ rfl
     (fun ii vv ww=>(match ii with | 0=>vv=.slice ad nd cd | 1=>vv=.pointer (some ⟨vV,0,none⟩) | 2=>vv=.int .u8 ((f k:Int)) | 3=>vv=.string (dW (f k % 5)) | 4=>vv=.pointer (some ⟨vV,1,none⟩) | 5=>vv=.int .u8 ((g k:Int)) | 6=>vv=.string (dW (g k % 5)) | 7=>vv=.slice a9 n9 c9 | 8=>vv=.agg #[.string (dW (f k % 5)),.string (dW (g k % 5)),.slice a9 n9 c9] | _=>True)/\(ii=9->LtB ww vv 66 #[.string (dW (f k % 5)),.string (dW (g k % 5)),.slice a9 n9 c9]))
     (fun i v w w' h hE=>⟨h.1,fun e=>LtB.below (h.2 e) hE⟩) ?_ ?_
    ·refine dG ?_;refine⟨?_,?_,?_,?_,?_,?_,?_,?_,?_,?_,(aP),(aP),trivial⟩
     ·intro _ a w2 hB hF hd;exact aN <| aG _ (.inl rfl) aR ⟨(hF.same 10 rfl),aP⟩
     ·intro _ a w2 hB hF hd;exact aN <| aW (aU rfl (hF.same 12 rfl) rfl Tryz.underlying64 aQ aM aM) ⟨rfl,aP⟩
     ·intro _ a w2 hB hF hd;exact aN <| aW (bg rfl ((hd 1 _ rfl (aj rfl)).1) Tryz.underlying5 ((hB.cell (p:=⟨vV,0,none⟩) HX5.out).trans F5c.out)) ⟨rfl,aP⟩
     ·intro _ a w2 hB hF hd;refine aN <| aI _ _ _ rfl Tryz.call47 _ (args1 ((hd 2 _ rfl (aj rfl)).1)) aR ((xQ (f k) w2).mono ?_);rintro e w3 ⟨rfl,hb⟩;exact⟨_,rfl,⟨rfl,aP⟩,hb⟩
     ·intro _ a w2 hB hF hd;exact aN <| aW (aU rfl (hF.same 12 rfl) rfl Tryz.underlying64 aQ aM aM) ⟨rfl,aP⟩
     ·intro _ a w2 hB hF hd;exact aN <| aW (bg rfl ((hd 4 _ rfl (aj rfl)).1) Tryz.underlying5 ((hB.cell (p:=⟨vV,1,none⟩) HX5.out).trans G5c.out)) ⟨rfl,aP⟩
     ·intro _ a w2 hB hF hd;refine aN <| aI _ _ _ rfl Tryz.call47 _ (args1 ((hd 5 _ rfl (aj rfl)).1)) aR ((xQ (g k) w2).mono ?_);rintro e w3 ⟨rfl,hb⟩;exact⟨_,rfl,⟨rfl,aP⟩,hb⟩
     ·intro _ a w2 hB hF hd;exact aN <| aG _ (.inl rfl) aR ⟨(hF.same 13 rfl),aP⟩
     ·intro _ a w2 hB hF hd;exact aN <| aW (Ob rfl ((hd 3 _ rfl (aj rfl)).1) ((hd 6 _ rfl (aj rfl)).1) ((hd 7 _ rfl (aj rfl)).1) aQ) ⟨rfl,aP⟩
     ·intro _ a w2 hB hF hd;exact aN <| yc rfl Tryz.underlying60 ((hd 8 _ rfl (aj rfl)).1) aQ aR ⟨trivial,fun _=>(⟨_,rfl,heap_alloc_new _ _⟩)⟩
    ·intro a w6 hB hF hS;obtain⟨x49,ags⟩:∃x,x=a.tmps.getD 49 undef:=⟨_,rfl⟩
     have P49:LtB w6 x49 66 #[.string (dW (f k % 5)),.string (dW (g k % 5)),.slice a9 n9 c9] :=by rw[ags];exact(hS 9 _ rfl aM).2 rfl
     have ha:=aO rfl rfl hF [_,_,_,_,_,_,_,_,_,x49] rfl ⟨(hS 0 _ rfl aM).1,(hS 1 _ rfl aM).1,(hS 2 _ rfl aM).1,(hS 3 _ rfl aM).1,(hS 4 _ rfl aM).1,(hS 5 _ rfl aM).1,(hS 6 _ rfl aM).1,(hS 7 _ rfl aM).1,(hS 8 _ rfl aM).1,ags.symm,trivial⟩;simp only[puts,List.take_succ_cons,List.take_zero,Act.put,fB,fD,fF] at ha;subst ha;change tl _ _ _ (_::_:: []) _ _;clear ags;clear hS hF;have I6:=ay (I5.out.below hB);have Y6:=ay (Y5.out.below hB);have aml:Hid ((DS k).2.length<=10):=ay (by rw[HDL.out k];have:=HM.out;omega);obtain⟨b9,e9,hl9⟩:=P49;subst e9;have HC9:Hid (∀i,i<3->w6.cell? ⟨b9,i,none⟩=some ((fun i:Nat=>if i=0 then Value.string (dW (f k % 5)) else if i=1 then .string (dW (g k % 5)) else .slice a9 n9 c9) i)):=ay fun i hi=>by
      rw[cell_of_row _ _ i _ _ (0,0) hl9];rcases(by omega:i=0\/i=1\/i=2) with rfl | rfl | rfl<;> rfl
     clear hB hl9;refine rz rfl (Gs _ _ rfl rfl I6.out.dl.os aM Tryz.underlying60 Tryz.infoDp rfl rfl HC9.out (fun i hi=>by rcases(by omega:i=0\/i=1\/i=2) with rfl | rfl | rfl;(· exact⟨rfl,fun x e=>by cases e⟩);(· exact⟨rfl,fun x e=>by cases e⟩);exact⟨rfl,fun x e=>by cases e⟩) (fun z hz=>by simp[Value.cells] at hz;rcases hz with rfl | rfl<;> exact fun x e=>by cases e) (by have:=aml.out;unfold maxLen;omega) (by have:=aml.out;omega) ?_);intro v8 w8 Ui hc8 hp8;have I8:=ay (I6.out.app (d:=⟨dW (f k % 5),dW (g k % 5),b⟩) Ui hc8 hp8 ⟨rfl,rfl,Y6.out⟩);clear Ui hc8 hp8;refine AZ rfl _ (.inr rfl) (BP ?_);have q9:(k:Int)<1000000:=by have:=wN.out;have:=HM.out;omega
     simp only[Act.put,Act.eval,fB,fD,fF];go_wp2;go_roundw
     case rel=>exact⟨k+1,wN.out,by go_num,F5,_,by rw[HNE.out,←HFK.out,←HGK.out];exact I8.out⟩
     case measure=>have:=wN.out;simp[intOf] <;> omega
  ·obtain rfl:k=m:=by omega
   clear hlt hk;go_wp2;go_ret2;exact⟨_,rfl,Fk,qd,I.out⟩
end
end Go.Proofs.YtpcjekgfnfjbpaaGreat
