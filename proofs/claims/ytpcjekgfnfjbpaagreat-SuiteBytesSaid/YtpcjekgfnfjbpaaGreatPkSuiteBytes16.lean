/- Part 16 of SuiteBytes; conditions: in each theorem. -/
import Derived.Test.YtpcjekgfnfjbpaaGreatPkSuiteBytes7
import Derived.Test.YtpcjekgfnfjbpaaGreatPkSuiteBytes14
import Derived.Test.YtpcjekgfnfjbpaaGreatPkSuiteBytes15
import Derived.Deep.Cut
import Derived.DeepKeys4
import Derived.Great.Walk
import Derived.MapViews
set_option linter.unusedVariables false
set_option linter.unusedSimpArgs false
set_option maxRecDepth 100000
set_option maxHeartbeats 1600000
namespace Go.bC
open Go.RowKit
open Go.Maps (Keyed)
def tf (t:Tm) (i:Nat):Int:=if i=0 then t.1 else if i=1 then t.2.1 else t.2.2
def ZX (l:List Tm):Nat->Nat->Value:=fun j i=>match l[j]? with | some t=>.int .i64 (tf t i) | none=>undef
theorem FU {l:List Tm} {j i:Nat} {t:Tm} (h:l[j]? =some t):ZX l j i=.int .i64 (tf t i):=by unfold ZX;rw[h]
abbrev LC (t:Tm):Value:=.agg #[.int .i64 t.1,.int .i64 t.2.1,.int .i64 t.2.2]
theorem XO {t u:Tm} (h:LC t=LC u):t=u:=by
 obtain⟨a,b,c⟩:=t;obtain⟨d,e,f⟩:=u;simp only[LC,Value.agg.injEq,Array.mk.injEq,List.cons.injEq,Value.int.injEq,true_and,and_true] at h;obtain⟨rfl,rfl,rfl⟩:=h
 rfl
theorem IZ {e:TypeId} {l:List Tm} {t:Tm} {w:World} {v:Value} {y:Nat->Nat->Value} (h:kZ e 3 w v (l.length+1) (zL l.length (ZX l) y)) (hy:∀i,y 0 i=.int .i64 (tf t i)):kZ e 3 w v (l++ [t]).length (ZX (l++ [t])):=by
 rw[List.length_append,List.length_singleton];refine h.congr fun j hj i hi=>?_;by_cases hl:j<l.length
 ·rw[Ij hl];unfold ZX;rw[NM hl]
 ·obtain rfl:j=l.length:=by omega
  rw[Pb,hy,FU (t:=t) (by rw[IQ (bB _),Nat.sub_self];rfl)]
def bf (b:List Int) (i:Nat):Int:=b.getD i 0
def okB (b:List Int):Prop:=∀x,x ∈ b->0<=x/\x<256
theorem okB.at {b:List Int} (h:okB b) (i:Nat) (hi:i<b.length):0<=bf b i/\bf b i<256:=by
 unfold bf;rw[IK,tO hi];exact h _ (List.getElem_mem hi)
def txV (b:List Int):Value:=.string (strOf b.length (bf b))
theorem XK {b c:List Int} (hb:okB b) (hc:okB c) (h:txV b=txV c):b=c:=by
 have h1:strOf b.length (bf b)=strOf c.length (bf c):=by injection h
 have hl:b.length=c.length:=by have:=congrArg ByteArray.size h1;simpa using this
 apply List.ext_getElem? 
 intro i;by_cases hi:i<b.length
 ·have e1:=Ob (n:=b.length) (f:=bf b) hi (hb.at i hi);have e2:=Ob (n:=c.length) (f:=bf c) (i:=i) aH (hc.at i aH);rw[h1,e2] at e1;unfold bf at e1;rw[IK,IK,tO hi,tO aH] at e1;rw[tO hi,tO aH];exact congrArg some e1.symm
 ·rw[List.getElem?_eq_none aH,List.getElem?_eq_none aH]
structure KY (P:Program) (kT mT iT:TypeId) {K:Type} (kv:K->Value) (ok:K->Prop):Prop where
 keyed:Keyed P kT
 under:P.underlying mT=some (.map kT iT)
 int:P.underlying iT=some (.int .i64)
 zero:∀w,(zeroValue iT).run P w=.ok (.int .i64 0) w
 key:∀x,ok x->∃kl,keyOf P kT (kv x)=some kl
 inj:∀x y,ok x->ok y->kv x=kv y->x=y
section
variable {K : Type} {P : Program} {kT mT iT : TypeId} {kv : K -> Value} {ok : K -> Prop} {w w' : World} {mb : Nat} {nd : List K} {val : K -> Nat}
abbrev Cw (P:Program) (kT iT:TypeId) (kv:K->Value) (val:K->Nat) (w:World) (mb:Nat) (nd:List K):Prop:=xU P kT iT w mb nd.length (fun i=>lv kv nd i 0) (fun i=>match nd[i]? with | some x=>wU (val x) | none=>undef)
theorem KY.OE [DecidableEq K] (k:KY P kT mT iT kv ok) (h:Cw P kT iT kv val w mb nd) {x:K} (hx:x ∈ nd):(Instr.lookup mT (.map (some mb)) (kv x) true).run P w=.ok (.tuple #[wU (val x),.bool true]) w:=by
 have:=(h.Ut k.keyed k.under (k.zero w) (plainElem_int k.int aN) (DC nd x) (uY hx)).1;rw[show lv kv nd (DC nd x) 0=kv x from OC (wN hx)] at this;simp only[wN hx] at this;exact this
theorem KY.Uu (k:KY P kT mT iT kv ok) (h:Cw P kT iT kv val w mb nd) {x:K} (hnd:∀y,y ∈ nd->ok y) (hok:ok x) (hx:x ∉ nd):(Instr.lookup mT (.map (some mb)) (kv x) true).run P w=.ok (.tuple #[.int .i64 0,.bool false]) w:=by
 obtain⟨kl,hk⟩:=k.key x hok;refine(h.YK k.keyed k.under (k.zero w) (plainElem_int k.int aN) hk fun i hi e=>hx ?_).1;rw[OC (tO hi)] at e;have:=k.inj _ _ (hnd _ (List.getElem_mem hi)) hok e;rw[<-this];exact List.getElem_mem hi
theorem KY.put (k:KY P kT mT iT kv ok) (h:Cw P kT iT kv val w mb nd) {x:K} {n:Nat} {val':K->Nat} (hnd:∀y,y ∈ nd->ok y) (hok:ok x) (hx:x ∉ nd) (hn:nd.length<=1000000) (hv:val' x=n) (hn2:n<=1000000) (hold:∀y,y ∈ nd->val' y=val y):
  ∃w',(Instr.mapUpdate mT (.map (some mb)) (kv x) (wU n)).run P w=.ok () w'/\Cw P kT iT kv val' w' mb (nd++ [x])/\w.grownBy w' (some mb):=by
 obtain⟨kl,hk⟩:=k.key x hok;have hput:=h.put (key':=fun i=>lv kv (nd++ [x]) i 0) (val':=fun i=>match (nd++ [x])[i]? with | some x=>wU (val' x) | none=>undef) k.keyed k.under (by unfold maxLen;omega) hk (plainElem_int k.int (Yy aH):plainElem (H:=Unit) P iT (wU n)= _) (fun i hi e=>hx (by
  rw[OC (tO hi)] at e;have:=k.inj _ _ (hnd _ (List.getElem_mem hi)) hok e;rw[<-this];exact List.getElem_mem hi)) (fun i hi=>⟨by
   show lv kv (nd++ [x]) i 0=lv kv nd i 0;unfold lv;rw[NM hi],by
   rw[NM hi,tO hi];simp only[hold _ (List.getElem_mem hi)]⟩) ⟨by
   show lv kv (nd++ [x]) nd.length 0=kv x;exact OC aR,by simp[hv]⟩
 obtain⟨w',h1,h2,h3⟩:=hput;refine⟨w',h1,?_,h3⟩;show xU P kT iT w' mb (nd++ [x]).length _ _;rw[List.length_append,List.length_singleton];exact h2
theorem Cw.congr {val':K->Nat} (h:Cw P kT iT kv val w mb nd) (hv:∀y,y ∈ nd->val' y=val y):Cw P kT iT kv val' w mb nd:=
 xU.congr h fun i hi=>⟨rfl,by rw[tO hi];simp only[hv _ (List.getElem_mem hi)]⟩
end
end Go.bC
namespace Go.bC
open Go.RowKit
theorem Own.zH {k:IntKind} {e:TypeId} {base:Nat} {w:World} {v:Value} {n:Nat} {f:Nat->Int} (h:Own k e base w v n f):kZ e 1 w v n (fun j _=>.int k (f j)):=by
 refine .Oy (xs:=vals k n f) ?_ fun j hj i hi=>?_
 ·obtain⟨h1,h2⟩:=h;refine⟨h1,h2.imp id ?_⟩;rintro⟨g,cap,cur,r1,_,r⟩;exact⟨g,cap,cur,r1,gX _,r⟩
 ·obtain rfl:i=0:=by omega
  rw[show j * 1+0=j by omega];exact dS hj
theorem Own.Ih {k:IntKind} {e:TypeId} {base:Nat} {w w':World} {v:Value} {n:Nat} {f:Nat->Int} {G:Nat->Prop} (h:Own k e base w v n f) (hc:iW G w w') (hn:∀b,v.ownBlock=some b->¬ G b):Own k e base w' v n f:=by
 obtain⟨h1,h2⟩:=h;refine⟨h1,h2.imp id ?_⟩;rintro⟨g,cap,cur,r1,r2,r3,r⟩;exact⟨g,cap,cur,r1,r2,(hc.block g (Array.getElem?_eq_some_iff.1 r3).1 (hn g (by rw[r1];rfl))).trans r3,r⟩
end Go.bC
namespace Go.bC
theorem Uo (S:TS) (a b:Int):nY S (1,a,b)=((decide (1<=a) && decide (a<=4)) && decide (0<=b)):=rfl
theorem Un (S:TS) (a b:Int):nY S (2,a,b)=(ig S.l a 0 && decide (b=0)):=rfl
theorem Um (S:TS) (a b:Int):nY S (3,a,b)=(ig S.l a 0 && decide (b=0)):=rfl
theorem Ul (S:TS) (a b:Int):nY S (6,a,b)=(ig S.l a 0 && decide (b=0)):=rfl
theorem Uk (S:TS) (a b:Int):nY S (7,a,b)=(ig S.l a 0 && decide (b=0)):=rfl
theorem abV (S:TS) (a b:Int):nY S (4,a,b)=(ig S.l a 2 && ig S.l b 0):=rfl
theorem abU (S:TS) (a b:Int):nY S (5,a,b)=(ig S.l a 0 && ig S.l b 0):=rfl
theorem Uj (S:TS) (a b:Int):nY S (8,a,b)=(ig S.l a 0 && ig S.l b 9):=rfl
theorem abT (S:TS) (a b:Int):nY S (9,a,b)=((decide (0<=a) && decide (a<S.tx.length)) && decide (b=0)):=rfl
theorem YF (S:TS) (a b:Int):nY S (10,a,b)=(ig S.l a 9 && decide (b=0)):=rfl
theorem YD (S:TS) (k a b:Int) (h:k≠1/\k≠2/\k≠3/\k≠4/\k≠5/\k≠6/\k≠7/\k≠8/\k≠9/\k≠10):nY S (k,a,b)=false:=by
 obtain⟨h1,h2,h3,h4,h5,h6,h7,h8,h9,h10⟩:=h;simp[nY,h1,h2,h3,h4,h5,h6,h7,h8,h9,h10]
end Go.bC
namespace Go.Proofs.YtpcjekgfnfjbpaaGreat
open Go.RowKit Go.bC Go.ChangeShapes Go.Maps
theorem Tryz.infoTm:(Tryz.prog.info? 96).map (fun i=>(i.zero,i.size,i.bytes))=some (some (.agg #[.int .i64 0,.int .i64 0,.int .i64 0]),3,24):=by kernel_rfl
theorem Tryz.sizeTm:(Tryz.prog.info? 96).map (·.size)=some 3:=by kernel_rfl
theorem Tryz.infoBs:(Tryz.prog.info? 23).map (fun i=>(i.zero,i.size,i.bytes))=some (some (.slice none 0 0),1,24):=by kernel_rfl
theorem Tryz.rowTm:(96:TypeId)<Tryz.prog.types.size:=of_decide_eq_true aS
theorem Tryz.wideTm:(match Tryz.prog.underlying 96 with | some (.array _ _) | some (.struct _)=>true | _=>false)=true:=by rw[Tryz.underlying96]
theorem Tryz.deepTm:Tryz.prog.keyTypeAt (Tryz.prog.types.size+1) 96=true:=by kernel_rfl
theorem Tryz.laidTm:laidOutB Tryz.prog=true:=by kernel_rfl
theorem Tryz.lawTm:WideMaps.KeyLaw Tryz.prog 96:=deep_law_laid Tryz.laidTm (m:=2) aH Tryz.rowTm aS Tryz.wideTm
theorem Tryz.cellsTm:Tryz.prog.cellsOf 96=3:=by kernel_rfl
theorem Tryz.cellsI:Tryz.prog.cellsOf 3=1:=by kernel_rfl
theorem wfI {x:Int} (h:Ox x):(Lit.int .i64 x).wf=true:=by
 have h1:=h.1;have h2:=h.2;simp[Lit.wf,IntKind.min,IntKind.max,IntKind.signed,IntKind.bits];omega
theorem ace (t:Tm) (h:Bj t):∃kl,keyOf Tryz.prog 96 (LC t)=some kl:=by
 have ht:DataW.Trod (H:=Unit) (fun _=>()) Tryz.prog (default:World) 0 (fun _=>true) true 96 (LC t) _ _:=⟨_,Go.Deep.trod_struct3_mk (enc:=fun _=>()) (w:=(default:World)) (base:=0) (spare:=fun _=>true) (held:=true) (n:=1) (cs:= [.int .i64 t.1,.int .i64 t.2.1,.int .i64 t.2.2]) Tryz.underlying96 (by rw[Tryz.cellsTm];rfl)
  (by rw[Tryz.cellsI];exact trod_int_mk 0 Tryz.underlying3 (wfI h.1)) (by rw[Tryz.cellsI];exact trod_int_mk 0 Tryz.underlying3 (wfI h.2.1)) (by rw[Tryz.cellsI];exact trod_int_mk 0 Tryz.underlying3 (wfI h.2.2))⟩
 exact⟨_,(keyOf_asKey Tryz.deepTm Tryz.wideTm (by simp[Value.formed,Tryz.underlying96,Tryz.cellsTm]) ht).1⟩
end Go.Proofs.YtpcjekgfnfjbpaaGreat
namespace Go.Proofs.YtpcjekgfnfjbpaaGreat
open Go.RowKit Go.bC Go.ChangeShapes Go.Maps
attribute [local go_sem ↓] Go.wp_at_zero Go.wp_at_succ
theorem Sm (w:World):(zeroValue 3).run Tryz.prog w=.ok (.int .i64 0) w:=by
 obtain⟨x,h1,h2⟩:=Option.map_eq_some_iff.1 xJ;simp only[Prod.mk.injEq] at h2;simp[zeroValue,typeInfo,h1,h2.1]
theorem UE:KY Tryz.prog 96 160 3 LC Bj:=
 ⟨Keyed.of_law Tryz.lawTm,Tryz.underlying160,Tryz.underlying3,Sm,ace,fun x y _ _ h=>XO h⟩
def okX (b:List Int):Prop:=okB b/\b.length<=1048576
theorem UD:KY Tryz.prog 9 161 3 txV okX:=
 ⟨Go.Maps.string_keyed Tryz.underlying9,Tryz.underlying161,Tryz.underlying3,Sm,fun x hx=>⟨_,WideMaps.keyOf_string_mk Tryz.underlying9 (by rw[LU];have:=hx.2;unfold maxLen;omega)⟩,fun x y hx hy h=>XK hx.1 hy.1 h⟩
def IY (S:TS) (b:List Int):Nat:=DC S.l (9,(DC S.tx b:Int),0)
structure Tsp (B:Nat) (w:World) (p mb mt:Nat) (vl vb:Value) (tv:Nat->Value) (l la:List Tm) (tx lx:List (List Int)) (xv:List Int->Nat) (nf:Nat->Int):Prop where
 row:nI w p 164 9
 c0:w.cell? ⟨p,0,none⟩=some vl
 c1:w.cell? ⟨p,1,none⟩=some (.map (some mb))
 c2:w.cell? ⟨p,2,none⟩=some (.map (some mt))
 c3:w.cell? ⟨p,3,none⟩=some vb
 nx:∀k:Nat,k<5->w.cell? ⟨p,4+k,none⟩=some (.int .i64 (nf k))
 ls:kZ 96 3 w vl l.length (ZX l)
 am:Cw Tryz.prog 96 3 LC (DC la) w mb la
 xm:Cw Tryz.prog 9 3 txV xv w mt lx
 bs:kZ 23 1 w vb tx.length (fun j _=>tv j)
 bt:∀j b,tx[j]? =some b->Own .u8 5 B w (tv j) b.length (bf b)
 ne:mb≠mt
 hp:B<=p
 hb:B<=mb
 hm:B<=mt
 hl:∀b,vl.ownBlock=some b->B<=b
 hv:∀b,vb.ownBlock=some b->B<=b
structure CU (B:Nat) (w:World) (p mb mt:Nat) (vl vb:Value) (tv:Nat->Value) (S:TS):Prop extends Tsp B w p mb mt vl vb tv S.l S.l S.tx S.tx (IY S) (fun k=>xR S.l k) where
 nd:S.l.Nodup
 txn:S.tx.Nodup
 all:∀j,j<S.tx.length->((9,(j:Int),0):Tm) ∈ S.l
 okt:∀t,t ∈ S.l->Bj t
 okx:∀b,b ∈ S.tx->okX b
def TF (p mb mt:Nat) (vl vb:Value) (n:Nat) (tv:Nat->Value) (b:Nat):Prop:=b=p\/b=mb\/b=mt\/vl.ownBlock=some b\/vb.ownBlock=some b\/∃j,j<n/\(tv j).ownBlock=some b
section
variable {B : Nat} {w w' : World} {p mb mt : Nat} {vl vb : Value} {tv : Nat -> Value} {l la : List Tm} {tx lx : List (List Int)} {xv : List Int -> Nat} {nf : Nat -> Int}
theorem Tsp.keep {G:Nat->Prop} (h:Tsp B w p mb mt vl vb tv l la tx lx xv nf) (hc:iW G w w') (hF:∀b,TF p mb mt vl vb tx.length tv b->¬ G b):Tsp B w' p mb mt vl vb tv l la tx lx xv nf:=by
 have hp:=hF p (.inl rfl);have hl:=h.row.lt
 refine⟨h.row.heap (hc.block p hl hp),(hc.cell (p:=⟨p,0,none⟩) hl hp).trans h.c0,(hc.cell (p:=⟨p,1,none⟩) hl hp).trans h.c1,(hc.cell (p:=⟨p,2,none⟩) hl hp).trans h.c2,(hc.cell (p:=⟨p,3,none⟩) hl hp).trans h.c3,
  fun k hk=>(hc.cell (p:=⟨p,4+k,none⟩) hl hp).trans (h.nx k hk),h.ls.yJ hc fun b hb=>hF b (.inr (.inr (.inr (.inl hb)))),h.am.heap (hc.block mb h.am.lt (hF mb (.inr (.inl rfl)))),h.xm.heap (hc.block mt h.xm.lt (hF mt (.inr (.inr (.inl rfl))))),
  h.bs.yJ hc fun b hb=>hF b (.inr (.inr (.inr (.inr (.inl hb))))),fun j b hb=>(h.bt j b hb).Ih hc fun c hcc=>hF c (.inr (.inr (.inr (.inr (.inr ⟨j,(List.getElem?_eq_some_iff.1 hb).1,hcc⟩))))),h.ne,h.hp,h.hb,h.hm,h.hl,h.hv⟩
theorem Tsp.below (h:Tsp B w p mb mt vl vb tv l la tx lx xv nf) (hb:Below w.heap.size w w'):Tsp B w' p mb mt vl vb tv l la tx lx xv nf:=h.keep (.of_below hb fun _=>False) fun _ _=>id
theorem Tsp.lt (h:Tsp B w p mb mt vl vb tv l la tx lx xv nf) {b:Nat} (hb:TF p mb mt vl vb tx.length tv b):b<w.heap.size:=by
 rcases hb with rfl | rfl | rfl | hb | hb | ⟨j,hj,hb⟩
 ·exact h.row.lt
 ·exact h.am.lt
 ·exact h.xm.lt
 ·exact h.ls.lt b hb
 ·exact h.bs.lt b hb
 ·exact(h.bt j _ (tO hj)).zH.lt b hb
theorem Tsp.hi (h:Tsp B w p mb mt vl vb tv l la tx lx xv nf) {b:Nat} (hb:TF p mb mt vl vb tx.length tv b):B<=b:=by
 rcases hb with rfl | rfl | rfl | hb | hb | ⟨j,hj,hb⟩
 ·exact h.hp
 ·exact h.hb
 ·exact h.hm
 ·exact h.hl b hb
 ·exact h.hv b hb
 ·exact(h.bt j _ (tO hj)).block b hb
theorem Tsp.cellP (h:Tsp B w p mb mt vl vb tv l la tx lx xv nf) (o:Nat) (v:Value):(∀i,i≠o->(w.setCell ⟨p,o,none⟩ v).cell? ⟨p,i,none⟩=w.cell? ⟨p,i,none⟩)/\(o<9->(w.setCell ⟨p,o,none⟩ v).cell? ⟨p,o,none⟩=some v)/\nI (w.setCell ⟨p,o,none⟩ v) p 164 9/\
  kZ 96 3 (w.setCell ⟨p,o,none⟩ v) vl l.length (ZX l)/\Cw Tryz.prog 96 3 LC (DC la) (w.setCell ⟨p,o,none⟩ v) mb la/\Cw Tryz.prog 9 3 txV xv (w.setCell ⟨p,o,none⟩ v) mt lx/\
  kZ 23 1 (w.setCell ⟨p,o,none⟩ v) vb tx.length (fun j _=>tv j)/\∀j b,tx[j]? =some b->Own .u8 5 B (w.setCell ⟨p,o,none⟩ v) (tv j) b.length (bf b):=by
 have hc:iW (fun b=>b=p) w (w.setCell ⟨p,o,none⟩ v):=.set _ _ ⟨p,o,none⟩ _ rfl
 refine⟨fun i hi=>World.cell?_setCell_other _ _ _ _ (fun e=>hi (by cases e;rfl)),fun ho=>?_,h.row.setCell _ rfl _,h.ls.yJ hc fun b hb e=>h.ls.kW h.row aN (e▸hb),h.am.heap (hc.block mb h.am.lt fun e=>h.am.wS (e▸h.row)),h.xm.heap (hc.block mt h.xm.lt fun e=>h.xm.wS (e▸h.row)),
  h.bs.yJ hc fun b hb e=>h.bs.kW h.row aN (e▸hb),fun j b hb=>(h.bt j b hb).Ih hc fun c hcc e=>(h.bt j b hb).zH.kW h.row aN (e▸hcc)⟩
 obtain⟨x,hx⟩:=Option.isSome_iff_exists.1 (h.row.Rj o ho);exact World.cell?_setCell_same _ _ _ hx
end
section
variable {B : Nat} {w w' : World} {p mb mt : Nat} {vl vb : Value} {tv : Nat -> Value} {S : TS}
theorem CU.below (h:CU B w p mb mt vl vb tv S) (hb:Below w.heap.size w w'):CU B w' p mb mt vl vb tv S:=⟨h.toTsp.below hb,h.nd,h.txn,h.all,h.okt,h.okx⟩
theorem CU.lt (h:CU B w p mb mt vl vb tv S) {b:Nat} (hb:TF p mb mt vl vb S.tx.length tv b):b<w.heap.size:=h.toTsp.lt hb
theorem CU.hi (h:CU B w p mb mt vl vb tv S) {b:Nat} (hb:TF p mb mt vl vb S.tx.length tv b):B<=b:=h.toTsp.hi hb
theorem qE (h:CU B w p mb mt vl vb tv S):Calls Tryz.prog 116 #[.pointer (some ⟨p,0,none⟩)] w fun e w'=>e=.returned (.bool true)/\w'=w:=by
 have c1:=h.c1;have hq:=fun w=>run_neq_map_nil (P:=Tryz.prog) w 160 96 3 (some mb) Tryz.underlying160;clear h
 go_enter Tryz.func116,Tryz.ntmps116
 go_wp2;go_ret;exact⟨rfl,rfl⟩
theorem SV (h:CU B w p mb mt vl vb tv S):Calls Tryz.prog 115 #[.pointer (some ⟨p,0,none⟩)] w fun e w'=>e=.returned (wU S.l.length)/\w'=w:=by
 have HI:=ak (qE h);have c0:=h.c0;obtain⟨al,cl,rfl,_⟩:=h.ls.slice;clear h
 go_enter Tryz.func115,Tryz.ntmps115
 go_wp2_with fail;refine HI.out.mono ?_;rintro e w' ⟨rfl,rfl⟩;go_wp2;go_ret;exact⟨rfl,rfl⟩
theorem Ei (n:Int) (w:World):Calls Tryz.prog 137 #[.int .i64 n] w fun e w'=>e=.returned (.bool (isSort n))/\w'=w:=by
 obtain⟨R,hR⟩:∃R,R=isSort n:=⟨_,rfl⟩
 have HR:=ak hR;rw[<-hR];clear hR;by_cases h1:1<=n
 ·by_cases h2:n<=4
  ·go_enter Tryz.func137,Tryz.ntmps137
   go_wp2;go_ret;exact⟨by rw[HR.out];simp[isSort,h1,h2],rfl⟩
  ·go_enter Tryz.func137,Tryz.ntmps137
   go_wp2;go_ret;exact⟨by rw[HR.out];simp[isSort,h1,h2],rfl⟩
 ·go_enter Tryz.func137,Tryz.ntmps137
  go_wp2;go_ret;exact⟨by rw[HR.out];unfold isSort;rw[decide_eq_false aH];rfl,rfl⟩
theorem iC (h:CU B w p mb mt vl vb tv S) (n k:Int):Calls Tryz.prog 117 #[.pointer (some ⟨p,0,none⟩),.int .i64 n,.int .i64 k] w fun e w'=>e=.returned (.bool (ig S.l n k))/\w'=w:=by
 obtain⟨R,hR⟩:∃R,R=ig S.l n k:=⟨_,rfl⟩
 have HR:=ak hR;rw[<-hR];have c0:=h.c0;obtain⟨al,cl,el,_⟩:=h.ls.slice;by_cases h1:0<=n
 ·obtain⟨a,rfl⟩:=IL h1;by_cases h2:a<S.l.length
  ·obtain⟨g,cap,ev,_,_,_,hc⟩:=h.ls.form aH;obtain⟨t,ht⟩:∃t,S.l[a]? =some t:=⟨_,tO h2⟩
   have z0:=hc a h2 0 aN;rw[FU ht,Nat.add_zero,show tf t 0=t.1 from rfl] at z0;rw[ev] at c0;have h9:(a:Int)<(S.l.length:Int):=by omega
   have HK:Hid (GQ S.l a k=decide (t.1=k)):=ak (by unfold GQ;rw[Ct,ht]);have HRR:Hid (R=(decide (k=0) || decide (t.1=k))):=ak (by rw[hR];unfold ig;rw[HK.out,decide_eq_true h1,decide_eq_true h9];rfl);by_cases hk:k=0
   ·have hkb:(k==0)=true:=by simpa using hk
    have HF:Hid (R=true):=ak (by rw[HRR.out,decide_eq_true hk];rfl);clear h hR hc ht el ev hk h1 h2
    go_enter Tryz.func117,Tryz.ntmps117
    go_wp2;go_ret;rw[HF.out];exact⟨rfl,rfl⟩
   ·have hkb:(k==0)=false:=by simpa using hk
    have HF:Hid (R=(t.1==k)):=ak (by rw[HRR.out,decide_eq_false hk,Bool.false_or];rfl);clear h hR hc ht el ev hk h1 h2
    go_enter Tryz.func117,Tryz.ntmps117
    go_wp2;go_ret;rw[HF.out];exact⟨rfl,rfl⟩
  ·have h9:¬ (a:Int)<(S.l.length:Int):=by omega
   have HF:Hid (R=false):=ak (by rw[hR];unfold ig;rw[decide_eq_false h9,Bool.and_false,Bool.false_and]);rw[el] at c0;clear h hR el h2
   go_enter Tryz.func117,Tryz.ntmps117
   go_wp2;go_ret;rw[HF.out];exact⟨rfl,rfl⟩
 ·have HF:Hid (R=false):=ak (by rw[hR];unfold ig;rw[decide_eq_false h1,Bool.false_and,Bool.false_and]);clear h hR el
  go_enter Tryz.func117,Tryz.ntmps117
  go_wp2;go_ret;rw[HF.out];exact⟨rfl,rfl⟩
end
section
variable {B : Nat} {w w' : World} {p mb mt : Nat} {vl vb : Value} {tv : Nat -> Value} {S : TS}
theorem SS (h:CU B w p mb mt vl vb tv S) (t:Tm):Calls Tryz.prog 140 #[.pointer (some ⟨p,0,none⟩),LC t] w fun e w'=>e=.returned (.bool (nY S t))/\Below w.heap.size w w':=by
 obtain⟨R,hR⟩:∃R,R=nY S t:=⟨_,rfl⟩
 obtain⟨k,a,b⟩:=t;have HR:=ak hR;rw[<-hR];have H:=ak h;clear h hR
 go_enter Tryz.func140,Tryz.ntmps140
 go_upto_region 1 with(fail);refine aJ (fun w1=>(w1.cell? ⟨w.heap.size,0,none⟩=some (.int .i64 k)/\w1.cell? ⟨w.heap.size,1,none⟩=some (.int .i64 a)/\w1.cell? ⟨w.heap.size,2,none⟩=some (.int .i64 b))/\Below w.heap.size w w1) ⟨⟨cell_of_row _ _ 0 _ _ (0,0) (heap_alloc_new w _),cell_of_row _ _ 1 _ _ (0,0) (heap_alloc_new w _),cell_of_row _ _ 2 _ _ (0,0) (heap_alloc_new w _)⟩,(bT _ _).alloc (bB _) _⟩ ?_;rintro w1 ⟨⟨e0,e1,e2⟩,bb1⟩;have B1:=ak bb1;have H1:=ak (H.out.below bb1);clear bb1;by_cases k1:k=1
 ·subst k1;rw[Uo] at HR;go_wp2_with fail;refine(Ei a _).mono ?_;rintro e w' ⟨rfl,rfl⟩;unfold isSort
  cases hs:decide (1<=a) && decide (a<=4) with
  | false=>
   have HF:Hid (R=false):=ak (by rw[HR.out,hs];rfl);clear hs;go_wp2;go_ret;rw[HF.out];exact⟨rfl,B1.out⟩
  | true=>
   have HF:Hid (R=decide (0<=b)):=ak (by rw[HR.out,hs];rfl);clear hs;go_wp2;go_ret;rw[HF.out];exact⟨rfl,B1.out⟩
 by_cases k9:k=9
 ·subst k9;rw[abT] at HR;have c3:=H1.out.c3;obtain⟨ab,cb,rfl,_⟩:=H1.out.bs.slice;by_cases h1:0<=a
  ·by_cases h2:a<(S.tx.length:Int)
   ·have HF:Hid (R=(b==0)):=ak (by rw[HR.out,decide_eq_true h1,decide_eq_true h2];rfl);go_wp2
    go_quiet (fail)
    go_wp2;go_ret;rw[HF.out];exact⟨rfl,Go.bC.below_drewN B1.out _⟩
   ·have HF:Hid (R=false):=ak (by rw[HR.out,decide_eq_false h2,Bool.and_false,Bool.false_and]);have hd1:decide (0<=a)=true:=decide_eq_true h1;have hd2:decide (a<(S.tx.length:Int))=false:=decide_eq_false h2;clear h1 h2;go_wp2
    go_quiet (fail)
    go_wp2;go_ret;rw[HF.out];exact⟨rfl,Go.bC.below_drewN B1.out _⟩
  ·have HF:Hid (R=false):=ak (by rw[HR.out,decide_eq_false h1,Bool.false_and,Bool.false_and]);have hd1:decide (0<=a)=false:=decide_eq_false h1;clear h1;go_wp2
   go_quiet (fail)
   go_wp2;go_ret;rw[HF.out];exact⟨rfl,Go.bC.below_drewN B1.out _⟩
 by_cases k2:k=2
 ·subst k2;rw[Un] at HR;go_wp2_with fail;refine(iC H1.out a 0).mono ?_;rintro e w' ⟨rfl,rfl⟩
  cases hs:ig S.l a 0 with
  | false=>
   have HF:Hid (R=false):=ak (by rw[HR.out,hs];rfl);clear hs;go_wp2;go_ret;rw[HF.out];exact⟨rfl,B1.out⟩
  | true=>
   have HF:Hid (R=(b==0)):=ak (by rw[HR.out,hs];rfl);clear hs;go_wp2;go_ret;rw[HF.out];exact⟨rfl,B1.out⟩
 by_cases k3:k=3
 ·subst k3;rw[Um] at HR;go_wp2_with fail;refine(iC H1.out a 0).mono ?_;rintro e w' ⟨rfl,rfl⟩
  cases hs:ig S.l a 0 with
  | false=>
   have HF:Hid (R=false):=ak (by rw[HR.out,hs];rfl);clear hs;go_wp2;go_ret;rw[HF.out];exact⟨rfl,B1.out⟩
  | true=>
   have HF:Hid (R=(b==0)):=ak (by rw[HR.out,hs];rfl);clear hs;go_wp2;go_ret;rw[HF.out];exact⟨rfl,B1.out⟩
 by_cases k6:k=6
 ·subst k6;rw[Ul] at HR;go_wp2_with fail;refine(iC H1.out a 0).mono ?_;rintro e w' ⟨rfl,rfl⟩
  cases hs:ig S.l a 0 with
  | false=>
   have HF:Hid (R=false):=ak (by rw[HR.out,hs];rfl);clear hs;go_wp2;go_ret;rw[HF.out];exact⟨rfl,B1.out⟩
  | true=>
   have HF:Hid (R=(b==0)):=ak (by rw[HR.out,hs];rfl);clear hs;go_wp2;go_ret;rw[HF.out];exact⟨rfl,B1.out⟩
 by_cases k7:k=7
 ·subst k7;rw[Uk] at HR;go_wp2_with fail;refine(iC H1.out a 0).mono ?_;rintro e w' ⟨rfl,rfl⟩
  cases hs:ig S.l a 0 with
  | false=>
   have HF:Hid (R=false):=ak (by rw[HR.out,hs];rfl);clear hs;go_wp2;go_ret;rw[HF.out];exact⟨rfl,B1.out⟩
  | true=>
   have HF:Hid (R=(b==0)):=ak (by rw[HR.out,hs];rfl);clear hs;go_wp2;go_ret;rw[HF.out];exact⟨rfl,B1.out⟩
 by_cases k4:k=4
 ·subst k4;rw[abV] at HR;go_wp2_with fail;refine(iC H1.out a 2).mono ?_;rintro e w' ⟨rfl,rfl⟩
  cases hs:ig S.l a 2 with
  | false=>
   have HF:Hid (R=false):=ak (by rw[HR.out,hs];rfl);clear hs;go_wp2;go_ret;rw[HF.out];exact⟨rfl,B1.out⟩
  | true=>
   have HF:Hid (R=ig S.l b 0):=ak (by rw[HR.out,hs];rfl);clear hs;go_wp2_with fail;refine(iC H1.out b 0).mono ?_;rintro e w' ⟨rfl,rfl⟩;go_wp2;go_ret;rw[HF.out];exact⟨rfl,B1.out⟩
 by_cases k5:k=5
 ·subst k5;rw[abU] at HR;go_wp2_with fail;refine(iC H1.out a 0).mono ?_;rintro e w' ⟨rfl,rfl⟩
  cases hs:ig S.l a 0 with
  | false=>
   have HF:Hid (R=false):=ak (by rw[HR.out,hs];rfl);clear hs;go_wp2;go_ret;rw[HF.out];exact⟨rfl,B1.out⟩
  | true=>
   have HF:Hid (R=ig S.l b 0):=ak (by rw[HR.out,hs];rfl);clear hs;go_wp2_with fail;refine(iC H1.out b 0).mono ?_;rintro e w' ⟨rfl,rfl⟩;go_wp2;go_ret;rw[HF.out];exact⟨rfl,B1.out⟩
 by_cases k8:k=8
 ·subst k8;rw[Uj] at HR;go_wp2_with fail;refine(iC H1.out a 0).mono ?_;rintro e w' ⟨rfl,rfl⟩
  cases hs:ig S.l a 0 with
  | false=>
   have HF:Hid (R=false):=ak (by rw[HR.out,hs];rfl);clear hs;go_wp2;go_ret;rw[HF.out];exact⟨rfl,B1.out⟩
  | true=>
   have HF:Hid (R=ig S.l b 9):=ak (by rw[HR.out,hs];rfl);clear hs;go_wp2_with fail;refine(iC H1.out b 9).mono ?_;rintro e w' ⟨rfl,rfl⟩;go_wp2;go_ret;rw[HF.out];exact⟨rfl,B1.out⟩
 by_cases k10:k=10
 ·subst k10;rw[YF] at HR;go_wp2_with fail;refine(iC H1.out a 9).mono ?_;rintro e w' ⟨rfl,rfl⟩
  cases hs:ig S.l a 9 with
  | false=>
   have HF:Hid (R=false):=ak (by rw[HR.out,hs];rfl);clear hs;go_wp2;go_ret;rw[HF.out];exact⟨rfl,B1.out⟩
  | true=>
   have HF:Hid (R=(b==0)):=ak (by rw[HR.out,hs];rfl);clear hs;go_wp2;go_ret;rw[HF.out];exact⟨rfl,B1.out⟩
 have HF:Hid (R=false):=ak (HR.out.trans (YD S k a b ⟨k1,k2,k3,k4,k5,k6,k7,k8,k9,k10⟩));have b1:(k==1)=false:=by simpa using k1
 have b2:(k==2)=false:=by simpa using k2
 have b3:(k==3)=false:=by simpa using k3
 have b4:(k==4)=false:=by simpa using k4
 have b5:(k==5)=false:=by simpa using k5
 have b6:(k==6)=false:=by simpa using k6
 have b7:(k==7)=false:=by simpa using k7
 have b8:(k==8)=false:=by simpa using k8
 have b9:(k==9)=false:=by simpa using k9
 have b10:(k==10)=false:=by simpa using k10
 clear k1 k2 k3 k4 k5 k6 k7 k8 k9 k10;go_wp2;go_ret;rw[HF.out];exact⟨rfl,B1.out⟩
end
end Go.Proofs.YtpcjekgfnfjbpaaGreat
namespace Go.Proofs.YtpcjekgfnfjbpaaGreat
open Go.RowKit Go.bC Go.ChangeShapes Go.Maps
section
variable {B : Nat} {w w1 w' : World} {p mb mt : Nat} {vl vb : Value} {tv : Nat -> Value} {l la : List Tm} {tx lx : List (List Int)} {xv : List Int -> Nat} {nf : Nat -> Int}
theorem Tsp.afa {o:Obj} {v':Value} {y:Nat->Nat->Value} {t:Tm} (h:Tsp B w p mb mt vl vb tv l la tx lx xv nf) (hB:B<=w.heap.size) (ho:kZ 96 3 w1 v' (l.length+1) (zL l.length (ZX l) y)) (hy:∀i,y 0 i=.int .i64 (tf t i)) (hg:(w.alloc o).grownBy w1 vl.ownBlock) (hp:Placed w vl v'):
  (w1.cell? ⟨p,0,none⟩=some vl/\w1.frozen? ⟨p,0,none⟩=false)/\Tsp B (w1.setCell ⟨p,0,none⟩ v') p mb mt v' vb tv (l++ [t]) la tx lx xv nf/\iW (fun b=>b=p\/vl.ownBlock=some b) w (w1.setCell ⟨p,0,none⟩ v')/\∀b,v'.ownBlock=some b->vl.ownBlock=some b\/w.heap.size<=b:=by
 have C1:iW (fun b=>vl.ownBlock=some b) w w1:=iW.Ub hg;have hpl:vl.ownBlock≠some p:=fun e=>h.ls.kW h.row aN e;have uU:=h.row.heap (C1.block p h.row.lt hpl);have DK:∀b,v'.ownBlock=some b->vl.ownBlock=some b\/w.heap.size<=b:=fun b hb=>by
  rcases hp with hp | hp
  ·exact .inl (hp▸hb)
  ·exact .inr (hp b hb)
 have T1:Tsp B w1 p mb mt v' vb tv (l++ [t]) la tx lx xv nf\/True:=.inr trivial;have c:=fun(i:Nat)=>C1.cell (p:=⟨p,i,none⟩) h.row.lt hpl;have am1:=h.am.heap (C1.block mb h.am.lt fun e=>h.ls.uL h.am e);have xm1:=h.xm.heap (C1.block mt h.xm.lt fun e=>h.ls.uL h.xm e);have bs1:=h.bs.yJ C1 fun b hb e=>h.bs.Cq h.ls aN hb e;have bt1:∀j b,tx[j]? =some b->Own .u8 5 B w1 (tv j) b.length (bf b):=fun j b hb=>(h.bt j b hb).Ih C1 fun c hcc e=>(h.bt j b hb).zH.Cq h.ls aN hcc e;have C2:iW (fun b=>b=p) w1 (w1.setCell ⟨p,0,none⟩ v'):=.set _ _ ⟨p,0,none⟩ _ rfl;have s1:=C1.size;have cc:=fun(i:Nat) (hi:i≠0)=>(World.cell?_setCell_other w1 _ _ v' (fun e:(⟨p,0,none⟩:Addr)=⟨p,i,none⟩=>hi (by cases e;rfl))).trans (c i);have e0:(w1.setCell ⟨p,0,none⟩ v').cell? ⟨p,0,none⟩=some v':=World.cell?_setCell_same _ _ _ ((c 0).trans h.c0)
 refine⟨⟨(c 0).trans h.c0,uU.free 0⟩,⟨uU.setCell _ rfl _,e0,(cc 1 aN).trans h.c1,(cc 2 aN).trans h.c2,(cc 3 aN).trans h.c3,fun k hk=>(cc (4+k) aH).trans (h.nx k hk),
  (IZ ho hy).yJ C2 fun b hb e=>(IZ ho hy).kW uU aN (e▸hb),am1.heap (C2.block mb am1.lt fun e=>am1.wS (e▸uU)),xm1.heap (C2.block mt xm1.lt fun e=>xm1.wS (e▸uU)),
  bs1.yJ C2 fun b hb e=>bs1.kW uU aN (e▸hb),fun j b hb=>(bt1 j b hb).Ih C2 fun c hcc e=>(bt1 j b hb).zH.kW uU aN (e▸hcc),h.ne,h.hp,h.hb,h.hm,fun b hb=>(DK b hb).elim (h.hl b) (fun h'=>jS hB h'),h.hv⟩,
  (C1.mono fun _ _ h=>.inr h).trans (C2.mono fun _ _ h=>.inl h) fun _ _ h=>h,DK⟩
theorem Tsp.rQ {t:Tm} (h:Tsp B w p mb mt vl vb tv l la tx lx xv nf) (hla:∀t,t ∈ la->Bj t) (hok:Bj t) (hn:t ∉ la) (hnd:la.Nodup) (hl:la.length<=1000000):
  ∃w',(Instr.mapUpdate 160 (.map (some mb)) (LC t) (wU la.length)).run Tryz.prog w=.ok () w'/\Tsp B w' p mb mt vl vb tv l (la++ [t]) tx lx xv nf/\iW (fun b=>b=mb) w w':=by
 obtain⟨w',h1,h2,h3⟩:=UE.put (val':=DC (la++ [t])) h.am hla hok hn hl (Gz (j:=la.length) (gH hnd hn) (by rw[IQ (bB _),Nat.sub_self];rfl)) aH fun y hy=>by
  exact uX (gH hnd hn) (List.prefix_append _ _) hy
 have C:iW (fun b=>b=mb) w w':=iW.Bn h3 fun b hb=>by cases hb;rfl
 have hpm:p≠mb:=fun e=>h.am.wS (e▸h.row);have c:=fun(i:Nat)=>C.cell (p:=⟨p,i,none⟩) h.row.lt hpm
 exact⟨w',h1,⟨h.row.heap (C.block p h.row.lt hpm),(c 0).trans h.c0,(c 1).trans h.c1,(c 2).trans h.c2,(c 3).trans h.c3,fun k hk=>(c (4+k)).trans (h.nx k hk),h.ls.yJ C fun b hb e=>h.ls.uL h.am (e▸hb),h2,h.xm.heap (C.block mt h.xm.lt fun e=>h.ne e.symm),
  h.bs.yJ C fun b hb e=>h.bs.uL h.am (e▸hb),fun j b hb=>(h.bt j b hb).Ih C fun c hcc e=>(h.bt j b hb).zH.uL h.am (e▸hcc),h.ne,h.hp,h.hb,h.hm,h.hl,h.hv⟩,C⟩
theorem Tsp.ajj (h:Tsp B w p mb mt vl vb tv l la tx lx xv nf) (k:Nat) (hk:k<5) (x:Int) {nf':Nat->Int} (hf:∀j,j<5->nf' j=if j=k then x else nf j):
  Tsp B (w.setCell ⟨p,4+k,none⟩ (.int .i64 x)) p mb mt vl vb tv l la tx lx xv nf'/\iW (fun b=>b=p) w (w.setCell ⟨p,4+k,none⟩ (.int .i64 x)):=by
 obtain⟨h1,h2,h3,h4,h5,h6,h7,h8⟩:=h.cellP (4+k) (.int .i64 x);refine⟨⟨h3,(h1 0 aH).trans h.c0,(h1 1 aH).trans h.c1,(h1 2 aH).trans h.c2,(h1 3 aH).trans h.c3,fun j hj=>?_,h4,h5,h6,h7,h8,h.ne,h.hp,h.hb,h.hm,h.hl,h.hv⟩,.set _ _ ⟨p,4+k,none⟩ _ rfl⟩;rw[hf j hj];by_cases e:j=k
 ·subst e;rw[if_pos rfl];exact h2 aH
 ·rw[if_neg e];exact(h1 (4+j) aH).trans (h.nx j hj)
theorem Tsp.aeZ {o:Obj} {v' u:Value} {y:Nat->Nat->Value} {b0:List Int} (h:Tsp B w p mb mt vl vb tv l la tx lx xv nf) (hB:B<=w.heap.size) (ho:kZ 23 1 w1 v' (tx.length+1) (zL tx.length (fun j _=>tv j) y)) (hy:y 0 0=u) (hu:Own .u8 5 B w u b0.length (bf b0)) (hg:(w.alloc o).grownBy w1 vb.ownBlock) (hp:Placed w vb v'):
  (w1.cell? ⟨p,3,none⟩=some vb/\w1.frozen? ⟨p,3,none⟩=false)/\Tsp B (w1.setCell ⟨p,3,none⟩ v') p mb mt vl v' (fun j=>if j=tx.length then u else tv j) l la (tx++ [b0]) lx xv nf/\iW (fun b=>b=p\/vb.ownBlock=some b) w (w1.setCell ⟨p,3,none⟩ v')/\∀b,v'.ownBlock=some b->vb.ownBlock=some b\/w.heap.size<=b:=by
 have C1:iW (fun b=>vb.ownBlock=some b) w w1:=iW.Ub hg;have hpl:vb.ownBlock≠some p:=fun e=>h.bs.kW h.row aN e;have uU:=h.row.heap (C1.block p h.row.lt hpl);have DK:∀b,v'.ownBlock=some b->vb.ownBlock=some b\/w.heap.size<=b:=fun b hb=>by
  rcases hp with hp | hp
  ·exact .inl (hp▸hb)
  ·exact .inr (hp b hb)
 have c:=fun(i:Nat)=>C1.cell (p:=⟨p,i,none⟩) h.row.lt hpl;have am1:=h.am.heap (C1.block mb h.am.lt fun e=>h.bs.uL h.am e);have xm1:=h.xm.heap (C1.block mt h.xm.lt fun e=>h.bs.uL h.xm e);have ls1:=h.ls.yJ C1 fun b hb e=>h.ls.Cq h.bs aN hb e;have bt1:∀j b,tx[j]? =some b->Own .u8 5 B w1 (tv j) b.length (bf b):=fun j b hb=>(h.bt j b hb).Ih C1 fun c hcc e=>(h.bt j b hb).zH.Cq h.bs aN hcc e;have u1:Own .u8 5 B w1 u b0.length (bf b0):=hu.Ih C1 fun c hcc e=>hu.zH.Cq h.bs aN hcc e;have C2:iW (fun b=>b=p) w1 (w1.setCell ⟨p,3,none⟩ v'):=.set _ _ ⟨p,3,none⟩ _ rfl;have s1:=C1.size;have cc:=fun(i:Nat) (hi:i≠3)=>(World.cell?_setCell_other w1 _ _ v' (fun e:(⟨p,3,none⟩:Addr)=⟨p,i,none⟩=>hi (by cases e;rfl))).trans (c i);have e0:(w1.setCell ⟨p,3,none⟩ v').cell? ⟨p,3,none⟩=some v':=World.cell?_setCell_same _ _ _ ((c 3).trans h.c3);have bs1:kZ 23 1 w1 v' (tx++ [b0]).length (fun j _=>if j=tx.length then u else tv j):=by
  rw[List.length_append,List.length_singleton];refine ho.congr fun j hj i hi=>?_;obtain rfl:i=0:=by omega
  by_cases e:j=tx.length
  ·subst e;rw[Pb,hy,if_pos rfl]
  ·rw[Ij aH,if_neg e]
 have btn:∀j b,(tx++ [b0])[j]? =some b->Own .u8 5 B w1 (if j=tx.length then u else tv j) b.length (bf b):=fun j b hb=>by
  by_cases e:j=tx.length
  ·subst e;rw[IQ (bB _),Nat.sub_self] at hb;cases hb
   rw[if_pos rfl];exact u1
  ·have hlt:=(List.getElem?_eq_some_iff.1 hb).1;rw[List.length_append,List.length_singleton] at hlt;rw[NM aH] at hb;rw[if_neg e];exact bt1 j b hb
 refine⟨⟨(c 3).trans h.c3,uU.free 3⟩,⟨uU.setCell _ rfl _,(cc 0 aN).trans h.c0,(cc 1 aN).trans h.c1,(cc 2 aN).trans h.c2,e0,fun k hk=>(cc (4+k) aH).trans (h.nx k hk),
  ls1.yJ C2 fun b hb e=>ls1.kW uU aN (e▸hb),am1.heap (C2.block mb am1.lt fun e=>am1.wS (e▸uU)),xm1.heap (C2.block mt xm1.lt fun e=>xm1.wS (e▸uU)),
  bs1.yJ C2 fun b hb e=>bs1.kW uU aN (e▸hb),fun j b hb=>(btn j b hb).Ih C2 fun c hcc e=>(btn j b hb).zH.kW uU aN (e▸hcc),h.ne,h.hp,h.hb,h.hm,h.hl,fun b hb=>(DK b hb).elim (h.hv b) (fun h'=>jS hB h')⟩,
  (C1.mono fun _ _ h=>.inr h).trans (C2.mono fun _ _ h=>.inl h) fun _ _ h=>h,DK⟩
theorem Tsp.ajq {b0:List Int} {n:Nat} {xv':List Int->Nat} (h:Tsp B w p mb mt vl vb tv l la tx lx xv nf) (hlx:∀b,b ∈ lx->okX b) (hok:okX b0) (hn:b0 ∉ lx) (hl:lx.length<=1000000) (hv:xv' b0=n) (hn2:n<=1000000) (hold:∀y,y ∈ lx->xv' y=xv y):
  ∃w',(Instr.mapUpdate 161 (.map (some mt)) (txV b0) (wU n)).run Tryz.prog w=.ok () w'/\Tsp B w' p mb mt vl vb tv l la tx (lx++ [b0]) xv' nf/\iW (fun b=>b=mt) w w':=by
 obtain⟨w',h1,h2,h3⟩:=UD.put (val':=xv') h.xm hlx hok hn hl hv hn2 hold;have C:iW (fun b=>b=mt) w w':=iW.Bn h3 fun b hb=>by cases hb;rfl
 have hpm:p≠mt:=fun e=>h.xm.wS (e▸h.row);have c:=fun(i:Nat)=>C.cell (p:=⟨p,i,none⟩) h.row.lt hpm
 exact⟨w',h1,⟨h.row.heap (C.block p h.row.lt hpm),(c 0).trans h.c0,(c 1).trans h.c1,(c 2).trans h.c2,(c 3).trans h.c3,fun k hk=>(c (4+k)).trans (h.nx k hk),h.ls.yJ C fun b hb e=>h.ls.uL h.xm (e▸hb),h.am.heap (C.block mb h.am.lt fun e=>h.ne e),h2,
  h.bs.yJ C fun b hb e=>h.bs.uL h.xm (e▸hb),fun j b hb=>(h.bt j b hb).Ih C fun c hcc e=>(h.bt j b hb).zH.uL h.xm (e▸hcc),h.ne,h.hp,h.hb,h.hm,h.hl,h.hv⟩,C⟩
end
end Go.Proofs.YtpcjekgfnfjbpaaGreat
namespace Go.Proofs.YtpcjekgfnfjbpaaGreat
open Go.RowKit Go.bC Go.ChangeShapes Go.Maps
attribute [local go_sem ↓] Go.wp_at_zero Go.wp_at_succ
section
variable {B : Nat} {w w' : World} {p mb mt : Nat} {vl vb : Value} {tv : Nat -> Value} {S : TS}
theorem CU.aam {t:Tm} {CG:Value} (h:CU B w p mb mt vl vb tv S) (hot:Bj t) (hn:t ∉ S.l) {nf:Nat->Int} (hp:Tsp B w' p mb mt CG vb tv (S.l++ [t]) (S.l++ [t]) S.tx S.tx (IY S) nf) (hf:∀k:Nat,k<5->nf k=xR (S.l++ [t]) k):CU B w' p mb mt CG vb tv (S.add t):=by
 have hx:∀b,b ∈ S.tx->IY (S.add t) b=IY S b:=fun b hb=>uX (gH h.nd hn) (List.prefix_append _ _) (h.all _ (uY hb))
 exact⟨⟨hp.row,hp.c0,hp.c1,hp.c2,hp.c3,fun k hk=>(hp.nx k hk).trans (by rw[hf k hk];rfl),hp.ls,hp.am,hp.xm.congr hx,hp.bs,hp.bt,hp.ne,hp.hp,hp.hb,hp.hm,hp.hl,hp.hv⟩,gH h.nd hn,h.txn,fun j hj=>List.mem_append.2 (.inl (h.all j hj)),
  fun u hu=>(List.mem_append.1 hu).elim (h.okt u) fun e=>by rw[List.mem_singleton.1 e];exact hot,h.okx⟩
theorem Am (h:CU B w p mb mt vl vb tv S) (hB:B<=w.heap.size) (t:Tm) (hot:Bj t) (hn:t ∉ S.l) (hk:t.1=1->1<=t.2.1/\t.2.1<=4) (hl:S.l.length<=1000):
  Calls Tryz.prog 138 #[.pointer (some ⟨p,0,none⟩),LC t] w fun e w'=>e=.returned (.tuple #[wU S.l.length,.int .i64 0])/\∃CG,CU B w' p mb mt CG vb tv (S.add t)/\iW (fun b=>b=p\/b=mb\/vl.ownBlock=some b) w w'/\∀b,CG.ownBlock=some b->vl.ownBlock=some b\/w.heap.size<=b:=by
 have H:=ak h;have zT:=ak hB;have Xi:=ak hot;have HN:=ak hn;have HK:=ak hk;have HL:=ak hl;clear h hB hot hn hk hl
 go_enter Tryz.func138,Tryz.ntmps138
 go_upto_region 1 with(fail);refine aJ (fun w1=>(∀i,i<3->w1.cell? ⟨w.heap.size,i,none⟩=some (.int .i64 (tf t i)))/\w.heap.size<w1.heap.size/\Below w.heap.size w w1) ⟨fun i hi=>by rcases(by omega:i=0\/i=1\/i=2) with rfl | rfl | rfl<;> exact cell_of_row _ _ _ _ _ (0,0) (heap_alloc_new w _),by rw[World.size_alloc];omega,(bT _ _).alloc (bB _) _⟩ ?_;rintro w1 ⟨hc1,hlt1,bb1⟩;have CB:=ak hc1;have RO:=ak hlt1;have B1:=ak bb1;have H1:=ak (H.out.below bb1);have c0:=H1.out.c0;obtain⟨al,cl,el,_⟩:=H1.out.ls.slice;have HEL:=ak el;rw[el] at c0;have h9:¬ (65536:Int)<=(S.l.length:Int):=by have:=HL.out;omega
 clear hc1 hlt1 bb1 el;go_upto_region 4 with(fail);clear c0
 apply ji (n:=56) [.f,.e,.e,.e,.e,.e,.c,.c,.f,.f,.c] 1 aS aS aS rfl
 ·intro w5 QU;have c0:=(H1.out.below QU).c0;rw[HEL.out] at c0;have HC5:Hid (∀i,i<3->w5.cell? ⟨w.heap.size,0+i,none⟩=some (.int .i64 (tf t i))):=fun i hi=>by rw[oD];exact(QU.cell (p:=⟨w.heap.size,i,none⟩) RO.out).trans (CB.out i hi)
  simp only[fK,Cl.II,cond_true,cond_false]
  repeat (first | (refine Es (y:=fun i=>.int .i64 (tf t i)) rfl rfl rfl Tryz.underlying96 rfl Tryz.sizeTm HC5.out ?_) | still_step)
  exact wpStill_nil rfl
 ·intro w5;simp only[fK,Cl.Xu,cond_true,cond_false]
  repeat still_step
  exact wpStill_nil rfl
 ·simp only[fK,Cl.qg,cond_true,cond_false];refine qw ((bT _ _).drew) (fun K hK=>?_);refine aO <| Eb 159 96 1 _ rfl Tryz.underlying159 (oC 3 (fun i=>.int .i64 (tf t i))) aS (hK _ _ (((bT _ _).drew).alloc (bB _) _) (qp ?_));clear hK K;have H2:=ak (H1.out.below ((bT w1.heap.size w1).drew));refine vK (w0:=w1.drew) rfl _ _ rfl rfl rfl (HEL.out▸H2.out.ls) aN Tryz.underlying159 Tryz.infoTm rfl rfl (fun i _=>rfl) (by have:=HL.out;unfold maxLen;omega) (by have:=HL.out;omega) ?_;intro v4 w4 Sc hg4 hp4;obtain⟨⟨e0,f0⟩,hT5,hC5,hF5⟩:=H2.out.toTsp.afa (t:=t) (jS zT.out B1.out.size) Sc (fun _=>rfl) (HEL.out▸hg4) (HEL.out▸hp4);rw[HEL.out] at e0;have T5:=ak hT5;have C5:Hid (iW (fun b=>b=p\/vl.ownBlock=some b) w1 _):=ak ((iW.of_below ((bT w1.heap.size w1).drew) _).trans hC5 fun _ _ h=>h);have F5:=ak hF5;obtain⟨a4,q4,rfl,_⟩:=Sc.slice;clear Sc hg4 hp4 hT5 hC5 hF5;go_wp2;refine EF ?_;go_upto_region 5 with(fail);refine aJ (fun w5=>Tsp B w5 p mb mt (.slice a4 (S.l.length+1) q4) vb tv (S.l++ [t]) S.l S.tx S.tx (IY S) (fun k=>xR S.l k)/\iW (fun b=>b=p\/vl.ownBlock=some b) w1 w5) ⟨T5.out,C5.out⟩ ?_;rintro w5 ⟨hT5,hC5⟩;have T5:=ak hT5;have HC5:Hid (∀i,i<3->w5.cell? ⟨w.heap.size,i,none⟩=some (.int .i64 (tf t i))):=fun i hi=>(hC5.cell (p:=⟨w.heap.size,i,none⟩) RO.out (fun hF=>hF.elim (fun h=>Nat.ne_of_gt H.out.row.lt h) (fun h=>Nat.lt_irrefl _ (H.out.ls.lt _ h)))).trans (CB.out i hi);have adT:Hid (w.heap.size<w5.heap.size):=ak (zO RO.out hC5.size);have C5:=ak hC5;clear hT5 hC5 e0 f0;obtain⟨w6,hrun,hT6,hC6⟩:=(T5.out.below ((bT w5.heap.size w5).drew)).rQ H.out.okt Xi.out HN.out H.out.nd (by have:=HL.out;omega);have NV:Hid ((Instr.mapUpdate 160 (.map (some mb)) (.agg (oC 3 fun i=>.int .i64 (tf t i))) (.int .i64 (S.l.length:Int))).run Tryz.prog w5.drew=.ok () w6):=ak hrun;have T6:=ak hT6;have C6:Hid (iW (fun b=>b=mb) w5 w6):=ak ((iW.of_below ((bT w5.heap.size w5).drew) _).trans hC6 fun _ _ h=>h);clear hrun hT6 hC6
  apply ji (n:=56) [.e,.e,.e,.e,.e,.e,.c] 0 aS aS aS rfl
  ·intro w7 Xx;have c1:=(T5.out.below Xx).c1;have HC7:Hid (∀i,i<3->w7.cell? ⟨w.heap.size,0+i,none⟩=some (.int .i64 (tf t i))):=fun i hi=>by rw[oD];exact(Xx.cell (p:=⟨w.heap.size,i,none⟩) adT.out).trans (HC5.out i hi)
   simp only[fK,Cl.II,cond_true,cond_false]
   repeat (first | (refine Es (y:=fun i=>.int .i64 (tf t i)) rfl rfl rfl Tryz.underlying96 rfl Tryz.sizeTm HC7.out ?_) | still_step)
   exact wpStill_nil rfl
  ·intro w7;simp only[fK,Cl.Xu,cond_true,cond_false]
   repeat still_step
   exact wpStill_nil rfl
  ·simp only[fK,Cl.qg,cond_true,cond_false];refine qp ?_;have hrun:=NV.out;go_wp2;refine EF ?_;clear hrun;go_upto_region 6 with(fail);have HC6:Hid (∀i,i<3->w6.cell? ⟨w.heap.size,i,none⟩=some (.int .i64 (tf t i))):=fun i hi=>(C6.out.cell (p:=⟨w.heap.size,i,none⟩) adT.out (fun h=>Nat.ne_of_gt H.out.am.lt h)).trans (HC5.out i hi);have ahj:Hid (w.heap.size<w6.heap.size):=ak (zO adT.out C6.out.size);have CH6:Hid (iW (fun b=>b=p\/b=mb\/vl.ownBlock=some b) w w6):=ak ((((iW.of_below B1.out _).trans (C5.out.mono fun b _ h=>h.elim .inl fun h=>.inr (.inr h)) fun _ _ h=>h).trans (C6.out.mono fun b _ h=>.inr (.inl h)) fun _ _ h=>h));have FT6:Hid (∀b,(Value.slice a4 (S.l.length+1) q4).ownBlock=some b->vl.ownBlock=some b\/w.heap.size<=b):=ak fun b hb=>(F5.out b hb).imp id fun h=>jS B1.out.size h;have e0:=HC6.out 0 aN;rw[show tf t 0=t.1 from rfl] at e0;by_cases hk:t.1=1
   ·have hkb:(t.1==1)=true:=by simpa using hk
    obtain⟨mU,iK⟩:=HK.out hk;obtain⟨k,hkk⟩:=IL (show 0<=t.2.1 by omega);have hk5:k<5:=by omega
    go_upto_region 7 with(fail);have hk9:(k:Int)<5:=by omega
    have hok:=Xi.out.2.2;have hmin: -9223372036854775808<=min t.2.2 4611686018427387904/\min t.2.2 4611686018427387904<=4611686018427387904:=by have:=hok.1;omega
    have hwr:IntKind.i64.wrap (min t.2.2 4611686018427387904+1)=min t.2.2 4611686018427387904+1:=bI aH aH
    apply ji (n:=56) [.e,.e,.e,.e,.e,.e,.e,.e,.e,.e,.e,.e,.e,.e,.e,.e,.e,.e,.c] 0 aS aS aS rfl
    ·intro w7 Xx;have z0:=((T6.out.below Xx).nx k hk5)
     have e1:=(Xx.cell (p:=⟨w.heap.size,1,none⟩) ahj.out).trans (HC6.out 1 aN);have e2:=(Xx.cell (p:=⟨w.heap.size,2,none⟩) ahj.out).trans (HC6.out 2 aN);rw[show tf t 1=t.2.1 from rfl,hkk] at e1;rw[show tf t 2=t.2.2 from rfl] at e2;simp only[fK,Cl.II,cond_true,cond_false]
     repeat still_step
     exact wpStill_nil rfl
    ·intro w7;simp only[fK,Cl.Xu,cond_true,cond_false]
     repeat still_step
     exact wpStill_nil rfl
    ·simp only[fK,Cl.qg,cond_true,cond_false];refine qp ?_;have T7:=ak (T6.out.below ((bT w6.heap.size w6).drew));have z0:=T7.out.nx k hk5;have f0:=T7.out.row.free (4+k);obtain⟨hT8,hC8⟩:=T7.out.ajj k hk5 (max (xR S.l k) (min t.2.2 4611686018427387904+1)) (nf':=fun j=>xR (S.l++ [t]) j) fun j hj=>by
      rw[sQ];by_cases e:j=k
      ·subst e;rw[if_pos ⟨hk,hkk⟩,if_pos rfl]
       rfl
      ·rw[if_neg (fun h=>e (by have:=h.2;omega)),if_neg e]
     have FIN:=ak (H.out.aam Xi.out HN.out hT8 fun k _=>rfl);have CH8:Hid (iW (fun b=>b=p\/b=mb\/vl.ownBlock=some b) w _):=ak ((CH6.out.trans (iW.of_below ((bT w6.heap.size w6).drew) (fun _=>False)) fun _ _ h=>h.elim).trans (hC8.mono fun b _ h=>.inl h) fun _ _ h=>h);clear hk hkk hT8 hC8 hmin hok mU iK hk9;go_wp2;refine EF ?_;clear z0 f0 hwr;go_wp2;go_ret2;exact⟨rfl,_,FIN.out,CH8.out,FT6.out⟩
   ·have hkb:(t.1==1)=false:=by simpa using hk
    have FIN:=ak (H.out.aam Xi.out HN.out T6.out fun k _=>by rw[sQ,if_neg fun h=>hk h.1]);clear hk;go_wp2;go_ret2;exact⟨rfl,_,FIN.out,CH6.out,FT6.out⟩
end
def zR (B:Nat) (w:World) (p:Nat) (F:Nat->Prop) (S:TS):Prop:=
 ∃mb mt vl vb tv,CU B w p mb mt vl vb tv S/\S.Ok/\∀b,F b ↔ TF p mb mt vl vb S.tx.length tv b
section
variable {B : Nat} {w w' : World} {p : Nat} {F : Nat -> Prop} {S : TS}
theorem zR.below (h:zR B w p F S) (hb:Below w.heap.size w w'):zR B w' p F S:=by
 obtain⟨mb,mt,vl,vb,tv,h1,h2,h3⟩:=h;exact⟨mb,mt,vl,vb,tv,h1.below hb,h2,h3⟩
theorem zR.hi (h:zR B w p F S) {b:Nat} (hb:F b):B<=b:=by
 obtain⟨mb,mt,vl,vb,tv,h1,h2,h3⟩:=h;exact h1.hi ((h3 b).1 hb)
theorem zR.lt (h:zR B w p F S) {b:Nat} (hb:F b):b<w.heap.size:=by
 obtain⟨mb,mt,vl,vb,tv,h1,h2,h3⟩:=h;exact h1.lt ((h3 b).1 hb)
theorem zR.ok (h:zR B w p F S):S.Ok:=by
 obtain⟨mb,mt,vl,vb,tv,h1,h2,h3⟩:=h;exact h2
end
section
variable {B : Nat} {w w' : World} {p mb mt : Nat} {vl vb : Value} {tv : Nat -> Value} {S : TS}
theorem TF.add {CG:Value} {n:Nat} {N:Nat} (hf:∀b,CG.ownBlock=some b->vl.ownBlock=some b\/N<=b):∀b,TF p mb mt CG vb n tv b->TF p mb mt vl vb n tv b\/N<=b:=by
 intro b hb;rcases hb with h | h | h | h | h
 ·exact .inl (.inl h)
 ·exact .inl (.inr (.inl h))
 ·exact .inl (.inr (.inr (.inl h)))
 ·exact(hf b h).imp (fun h=>.inr (.inr (.inr (.inl h)))) id
 ·exact .inl (.inr (.inr (.inr (.inr h))))
theorem Jc {F:Nat->Prop} (h:zR B w p F S) (hB:B<=w.heap.size) (t:Tm) (hot:Bj t) (hl:S.l.length<=1000):
  Calls Tryz.prog 82 #[.pointer (some ⟨p,0,none⟩),LC t] w fun e w'=>e=.returned (.tuple #[.int .i64 (rQ S t).1,.int .i64 (rQ S t).2])/\∃F',zR B w' p F' (S.put t)/\iW F w w'/\∀b,F' b->F b\/w.heap.size<=b:=by
 obtain⟨mb,mt,vl,vb,tv,h1,h2,h3⟩:=h;have H:=ak h1;have Cy:=ak h2;have FK:=ak h3;have zT:=ak hB;have Xi:=ak hot;have HL:=ak hl;obtain⟨PA,Vs⟩:∃x,x=rQ S t:=⟨_,rfl⟩
 obtain⟨SP,hSP⟩:∃x,x=S.put t:=⟨_,rfl⟩
 rw[<-Vs,←hSP];have Sk:=ak Vs;have Si:=ak hSP;clear h1 h2 h3 hB hot hl Vs hSP
 go_enter Tryz.func82,Tryz.ntmps82
 go_upto_region 1 with(fail);refine aJ (fun w1=>(∀i,i<3->w1.cell? ⟨w.heap.size,i,none⟩=some (.int .i64 (tf t i)))/\w.heap.size<w1.heap.size/\Below w.heap.size w w1) ⟨fun i hi=>by rcases(by omega:i=0\/i=1\/i=2) with rfl | rfl | rfl<;> exact cell_of_row _ _ _ _ _ (0,0) (heap_alloc_new w _),by rw[World.size_alloc];omega,(bT _ _).alloc (bB _) _⟩ ?_;rintro w1 ⟨hc1,hlt1,bb1⟩;have CB:Hid (∀i,i<3->w1.cell? ⟨w.heap.size,0+i,none⟩=some (.int .i64 (tf t i))):=ak fun i hi=>by rw[oD];exact hc1 i hi
 have RO:=ak hlt1;have B1:=ak bb1;have H1:=ak (H.out.below bb1);clear hc1 hlt1 bb1;go_wp2_with fail;refine(qE H1.out).mono ?_;rintro e w1' ⟨rfl,rfl⟩;go_wp2_with (refine Bz (y:=fun i=>.int .i64 (tf t i)) rfl rfl rfl Tryz.underlying96 rfl Tryz.sizeTm CB.out ?_);refine(SS H1.out t).mono ?_;rintro e w2 ⟨rfl,b2⟩;have H2:=ak (H1.out.below b2);have B2:=ak (B1.out.trans (b2.mono B1.out.size));have Pn:Hid (∀i,i<3->w2.cell? ⟨w.heap.size,0+i,none⟩=some (.int .i64 (tf t i))):=ak fun i hi=>(b2.cell (p:=⟨w.heap.size,0+i,none⟩) RO.out).trans (CB.out i hi);have adU:Hid (w.heap.size<w2.heap.size):=ak (zO RO.out b2.size);clear b2
 cases hm:nY S t with
 | false=>
  have E1:Hid (PA=(0,2)):=ak (by rw[Sk.out];unfold rQ;rw[if_neg (by rw[hm];decide)]);have E2:Hid (SP=S):=ak (by rw[Si.out];unfold TS.put;rw[if_neg (fun h=>by rw[hm] at h;cases h.1)]);clear hm;go_wp2;go_ret2;rw[E1.out,E2.out];exact⟨rfl,F,⟨mb,mt,vl,vb,tv,H2.out,Cy.out,FK.out⟩,.of_below B2.out _,fun b hb=>.inl hb⟩
 | true=>
  have c1:=H2.out.c1;by_cases hin:t ∈ S.l
  ·have E1:Hid (PA=((DC S.l t:Int),0)):=ak (by rw[Sk.out];unfold rQ;rw[if_pos hm,if_pos hin]);have E2:Hid (SP=S):=ak (by rw[Si.out];unfold TS.put;rw[if_neg (fun h=>h.2 hin)]);have l1:∀n,(Instr.lookup 160 (.map (some mb)) (.agg (arr .i64 3 (tf t))) true).run Tryz.prog (w2.drewN n)=.ok (.tuple #[wU (DC S.l t),.bool true]) (w2.drewN n):=fun n=>UE.OE (H2.out.below (Go.bC.below_drewN (bT _ _) n)).am hin;obtain⟨X,hX⟩:∃X,X=DC S.l t:=⟨_,rfl⟩
   rw[<-hX] at l1 E1;clear hm hin hX;go_upto_region 5 with(fail);refine wp_region_quiet_lit aS aS ?_
   repeat (first | (refine Bc rfl rfl rfl Tryz.underlying96 rfl Tryz.sizeTm Pn.out adU.out ?_) | quiet_step (fail))
   refine wpQuiet_nil ?_;rintro _ ⟨nq,rfl⟩;go_wp2;go_ret2;rw[E1.out,E2.out];exact⟨rfl,F,⟨mb,mt,vl,vb,tv,H2.out.below (Go.bC.below_drewN (bT _ _) nq),Cy.out,FK.out⟩,.of_below (Go.bC.below_drewN B2.out nq) _,fun b hb=>.inl hb⟩
  ·have E1:Hid (PA=((S.l.length:Int),0)):=ak (by rw[Sk.out];unfold rQ;rw[if_pos hm,if_neg hin]);have E2:Hid (SP=S.add t):=ak (by rw[Si.out];unfold TS.put;rw[if_pos ⟨hm,hin⟩]);have OK2:=ak (Cy.out.add hin (YC hm));have HIN:=ak hin;have KT:Hid (t.1=1->1<=t.2.1/\t.2.1<=4):=ak fun hk=>by
    obtain⟨k,a,b⟩:=t;simp only at hk;subst hk;rw[Uo] at hm;simp only[NK,decide_eq_true_eq] at hm;exact hm.1
   have l1:∀n,(Instr.lookup 160 (.map (some mb)) (.agg (arr .i64 3 (tf t))) true).run Tryz.prog (w2.drewN n)=.ok (.tuple #[.int .i64 0,.bool false]) (w2.drewN n):=fun n=>UE.Uu (H2.out.below (Go.bC.below_drewN (bT _ _) n)).am H.out.okt Xi.out hin;clear hm hin;go_upto_region 5 with(fail);refine wp_region_quiet_lit aS aS ?_
   repeat (first | (refine Bc rfl rfl rfl Tryz.underlying96 rfl Tryz.sizeTm Pn.out adU.out ?_) | quiet_step (fail))
   refine wpQuiet_nil ?_;rintro _ ⟨nq,rfl⟩;clear l1 c1;have B3:=ak (Go.bC.below_drewN B2.out nq);have XD:Hid (∀i,i<3->(w2.drewN nq).cell? ⟨w.heap.size,0+i,none⟩=some (.int .i64 (tf t i))):=ak fun i hi=>((Go.bC.below_drewN (bT w2.heap.size w2) nq).cell (p:=⟨w.heap.size,0+i,none⟩) adU.out).trans (Pn.out i hi);have H3:=ak (H2.out.below (Go.bC.below_drewN (bT _ _) nq));go_wp2_with (refine Bz (y:=fun i=>.int .i64 (tf t i)) rfl rfl rfl Tryz.underlying96 rfl Tryz.sizeTm XD.out ?_);refine(Am H3.out (jS zT.out B3.out.size) t Xi.out HIN.out KT.out HL.out).mono ?_;rintro e w4 ⟨rfl,CG,h4,hc4,hf4⟩;have S4:Hid (zR B w4 p (TF p mb mt CG vb S.tx.length tv) (S.add t)):=ak ⟨mb,mt,CG,vb,tv,h4,OK2.out,fun b=>Iff.rfl⟩;have C4:Hid (iW F w w4):=ak ((iW.of_below B3.out F).trans (hc4.mono (G:=F) fun b _ hb=>(FK.out b).2 (by
    rcases hb with h | h | h
    ·exact .inl h
    ·exact .inr (.inl h)
    ·exact .inr (.inr (.inr (.inl h))))) fun _ _ h=>h)
   have F4:Hid (∀b,TF p mb mt CG vb S.tx.length tv b->F b\/w.heap.size<=b):=ak fun b hb=>(TF.add (N:=w.heap.size) (fun b hb=>(hf4 b hb).imp id fun h=>jS B3.out.size h) b hb).imp (FK.out b).2 id;clear h4 hc4 hf4;go_wp2;go_ret2;rw[E1.out,E2.out];exact⟨rfl,_,S4.out,C4.out,F4.out⟩
end
end Go.Proofs.YtpcjekgfnfjbpaaGreat
