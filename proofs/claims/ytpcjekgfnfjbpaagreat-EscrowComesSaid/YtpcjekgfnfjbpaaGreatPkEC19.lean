/- Part 19 of EscrowComes; conditions: in each theorem. -/
import Derived.Test.YtpcjekgfnfjbpaaGreatPkEC11
import Derived.Test.YtpcjekgfnfjbpaaGreatPkEC17
import Derived.Test.YtpcjekgfnfjbpaaGreatPkEC18
import Derived.Deep.Cut
import Derived.DeepKeys4
import Derived.Great.Walk
import Derived.MapViews
set_option linter.unusedVariables false
set_option linter.unusedSimpArgs false
set_option maxRecDepth 100000
set_option maxHeartbeats 1600000
namespace Go.bI
open Go.RowKit
open Go.Maps (Keyed)
def tf (t:Tm) (i:Nat):Int:=if i=0 then t.1 else if i=1 then t.2.1 else t.2.2
def tmv (l:List Tm):Nat->Nat->Value:=fun j i=>match l[j]? with | some t=>.int .i64 (tf t i) | none=>undef
theorem NI {l:List Tm} {j i:Nat} {t:Tm} (h:l[j]? =some t):tmv l j i=.int .i64 (tf t i):=by unfold tmv;rw[h]
abbrev NJ (t:Tm):Value:=.agg #[.int .i64 t.1,.int .i64 t.2.1,.int .i64 t.2.2]
theorem abp {t u:Tm} (h:NJ t=NJ u):t=u:=by
 obtain⟨a,b,c⟩:=t;obtain⟨d,e,f⟩:=u;simp only[NJ,Value.agg.injEq,Array.mk.injEq,List.cons.injEq,Value.int.injEq,true_and,and_true] at h;obtain⟨rfl,rfl,rfl⟩:=h
 rfl
theorem JK {e:TypeId} {l:List Tm} {t:Tm} {w:World} {v:Value} {y:Nat->Nat->Value} (h:iA e 3 w v (l.length+1) (nY l.length (tmv l) y)) (hy:∀i,y 0 i=.int .i64 (tf t i)):iA e 3 w v (l++ [t]).length (tmv (l++ [t])):=by
 rw[List.length_append,List.length_singleton];refine h.congr fun j hj i hi=>?_;by_cases hl:j<l.length
 ·rw[uU hl];unfold tmv;rw[Jh hl]
 ·obtain rfl:j=l.length:=by omega
  rw[yw,hy,NI (t:=t) (by rw[Ji (bH _),Nat.sub_self];rfl)]
def bf (b:List Int) (i:Nat):Int:=b.getD i 0
def okB (b:List Int):Prop:=∀x,x ∈ b->0<=x/\x<256
theorem okB.at {b:List Int} (h:okB b) (i:Nat) (hi:i<b.length):0<=bf b i/\bf b i<256:=by
 unfold bf;rw[Na,kP hi];exact h _ (List.getElem_mem hi)
def txV (b:List Int):Value:=.string (strOf b.length (bf b))
theorem abm {b c:List Int} (hb:okB b) (hc:okB c) (h:txV b=txV c):b=c:=by
 have h1:strOf b.length (bf b)=strOf c.length (bf c):=by injection h
 have hl:b.length=c.length:=by have:=congrArg ByteArray.size h1;simpa using this
 apply List.ext_getElem? 
 intro i;by_cases hi:i<b.length
 ·have e1:=QG (n:=b.length) (f:=bf b) hi (hb.at i hi);have e2:=QG (n:=c.length) (f:=bf c) (i:=i) aH (hc.at i aH);rw[h1,e2] at e1;unfold bf at e1;rw[Na,Na,kP hi,kP aH] at e1;rw[kP hi,kP aH];exact congrArg some e1.symm
 ·rw[List.getElem?_eq_none aH,List.getElem?_eq_none aH]
structure Qq (P:Program) (kT mT iT:TypeId) {K:Type} (kv:K->Value) (ok:K->Prop):Prop where
 keyed:Keyed P kT
 under:P.underlying mT=some (.map kT iT)
 int:P.underlying iT=some (.int .i64)
 zero:∀w,(zeroValue iT).run P w=.ok (.int .i64 0) w
 key:∀x,ok x->∃kl,keyOf P kT (kv x)=some kl
 inj:∀x y,ok x->ok y->kv x=kv y->x=y
section
variable {K : Type} {P : Program} {kT mT iT : TypeId} {kv : K -> Value} {ok : K -> Prop} {w w' : World} {mb : Nat} {nd : List K} {val : K -> Nat}
abbrev DV (P:Program) (kT iT:TypeId) (kv:K->Value) (val:K->Nat) (w:World) (mb:Nat) (nd:List K):Prop:=uw P kT iT w mb nd.length (fun i=>lv kv nd i 0) (fun i=>match nd[i]? with | some x=>kF (val x) | none=>undef)
theorem Qq.kN [DecidableEq K] (k:Qq P kT mT iT kv ok) (h:DV P kT iT kv val w mb nd) {x:K} (hx:x ∈ nd):(Instr.lookup mT (.map (some mb)) (kv x) true).run P w=.ok (.tuple #[kF (val x),.bool true]) w:=by
 have:=(h.Lu k.keyed k.under (k.zero w) (plainElem_int k.int aM) (kQ nd x) (qh hx)).1;rw[show lv kv nd (kQ nd x) 0=kv x from lY (jH hx)] at this;simp only[jH hx] at this;exact this
theorem Qq.nJ (k:Qq P kT mT iT kv ok) (h:DV P kT iT kv val w mb nd) {x:K} (hnd:∀y,y ∈ nd->ok y) (hok:ok x) (hx:x ∉ nd):(Instr.lookup mT (.map (some mb)) (kv x) true).run P w=.ok (.tuple #[.int .i64 0,.bool false]) w:=by
 obtain⟨kl,hk⟩:=k.key x hok;refine(h.Rj k.keyed k.under (k.zero w) (plainElem_int k.int aM) hk fun i hi e=>hx ?_).1;rw[lY (kP hi)] at e;have:=k.inj _ _ (hnd _ (List.getElem_mem hi)) hok e;rw[<-this];exact List.getElem_mem hi
theorem Qq.put (k:Qq P kT mT iT kv ok) (h:DV P kT iT kv val w mb nd) {x:K} {n:Nat} {val':K->Nat} (hnd:∀y,y ∈ nd->ok y) (hok:ok x) (hx:x ∉ nd) (hn:nd.length<=1000000) (hv:val' x=n) (hn2:n<=1000000) (hold:∀y,y ∈ nd->val' y=val y):
  ∃w',(Instr.mapUpdate mT (.map (some mb)) (kv x) (kF n)).run P w=.ok () w'/\DV P kT iT kv val' w' mb (nd++ [x])/\w.grownBy w' (some mb):=by
 obtain⟨kl,hk⟩:=k.key x hok;have hput:=h.put (key':=fun i=>lv kv (nd++ [x]) i 0) (val':=fun i=>match (nd++ [x])[i]? with | some x=>kF (val' x) | none=>undef) k.keyed k.under (by unfold maxLen;omega) hk (plainElem_int k.int (Rh aH):plainElem (H:=Unit) P iT (kF n)= _) (fun i hi e=>hx (by
  rw[lY (kP hi)] at e;have:=k.inj _ _ (hnd _ (List.getElem_mem hi)) hok e;rw[<-this];exact List.getElem_mem hi)) (fun i hi=>⟨by
   show lv kv (nd++ [x]) i 0=lv kv nd i 0;unfold lv;rw[Jh hi],by
   rw[Jh hi,kP hi];simp only[hold _ (List.getElem_mem hi)]⟩) ⟨by
   show lv kv (nd++ [x]) nd.length 0=kv x;exact lY aR,by simp[hv]⟩
 obtain⟨w',h1,h2,h3⟩:=hput;refine⟨w',h1,?_,h3⟩;show uw P kT iT w' mb (nd++ [x]).length _ _;rw[List.length_append,List.length_singleton];exact h2
theorem DV.congr {val':K->Nat} (h:DV P kT iT kv val w mb nd) (hv:∀y,y ∈ nd->val' y=val y):DV P kT iT kv val' w mb nd:=
 uw.congr h fun i hi=>⟨rfl,by rw[kP hi];simp only[hv _ (List.getElem_mem hi)]⟩
end
end Go.bI
namespace Go.bI
open Go.RowKit
theorem Own.XG {k:IntKind} {e:TypeId} {base:Nat} {w:World} {v:Value} {n:Nat} {f:Nat->Int} (h:Own k e base w v n f):iA e 1 w v n (fun j _=>.int k (f j)):=by
 refine .Rc (xs:=vals k n f) ?_ fun j hj i hi=>?_
 ·obtain⟨h1,h2⟩:=h;refine⟨h1,h2.imp id ?_⟩;rintro⟨g,cap,cur,r1,_,r⟩;exact⟨g,cap,cur,r1,jm _,r⟩
 ·obtain rfl:i=0:=by omega
  rw[show j * 1+0=j by omega];exact dF hj
theorem Own.ZR {k:IntKind} {e:TypeId} {base:Nat} {w w':World} {v:Value} {n:Nat} {f:Nat->Int} {G:Nat->Prop} (h:Own k e base w v n f) (hc:fV G w w') (hn:∀b,v.ownBlock=some b->¬ G b):Own k e base w' v n f:=by
 obtain⟨h1,h2⟩:=h;refine⟨h1,h2.imp id ?_⟩;rintro⟨g,cap,cur,r1,r2,r3,r⟩;exact⟨g,cap,cur,r1,r2,(hc.block g (Array.getElem?_eq_some_iff.1 r3).1 (hn g (by rw[r1];rfl))).trans r3,r⟩
end Go.bI
namespace Go.bI
theorem Yh (S:TS) (a b:Int):nV S (1,a,b)=((decide (1<=a) && decide (a<=4)) && decide (0<=b)):=rfl
theorem Yg (S:TS) (a b:Int):nV S (2,a,b)=(jg S.l a 0 && decide (b=0)):=rfl
theorem Yf (S:TS) (a b:Int):nV S (3,a,b)=(jg S.l a 0 && decide (b=0)):=rfl
theorem Yc (S:TS) (a b:Int):nV S (6,a,b)=(jg S.l a 0 && decide (b=0)):=rfl
theorem Yb (S:TS) (a b:Int):nV S (7,a,b)=(jg S.l a 0 && decide (b=0)):=rfl
theorem Ye (S:TS) (a b:Int):nV S (4,a,b)=(jg S.l a 2 && jg S.l b 0):=rfl
theorem Yd (S:TS) (a b:Int):nV S (5,a,b)=(jg S.l a 0 && jg S.l b 0):=rfl
theorem agb (S:TS) (a b:Int):nV S (8,a,b)=(jg S.l a 0 && jg S.l b 9):=rfl
theorem aga (S:TS) (a b:Int):nV S (9,a,b)=((decide (0<=a) && decide (a<S.tx.length)) && decide (b=0)):=rfl
theorem acD (S:TS) (a b:Int):nV S (10,a,b)=(jg S.l a 9 && decide (b=0)):=rfl
theorem acC (S:TS) (k a b:Int) (h:k≠1/\k≠2/\k≠3/\k≠4/\k≠5/\k≠6/\k≠7/\k≠8/\k≠9/\k≠10):nV S (k,a,b)=false:=by
 obtain⟨h1,h2,h3,h4,h5,h6,h7,h8,h9,h10⟩:=h;simp[nV,h1,h2,h3,h4,h5,h6,h7,h8,h9,h10]
end Go.bI
namespace Go.Proofs.YtpcjekgfnfjbpaaGreat
open Go.RowKit Go.bI Go.ChangeShapes Go.Maps
theorem Tryz.infoTm:(Tryz.prog.info? 96).map (fun i=>(i.zero,i.size,i.bytes))=some (some (.agg #[.int .i64 0,.int .i64 0,.int .i64 0]),3,24):=by kernel_rfl
theorem Tryz.sizeTm:(Tryz.prog.info? 96).map (·.size)=some 3:=by kernel_rfl
theorem Tryz.infoBs:(Tryz.prog.info? 23).map (fun i=>(i.zero,i.size,i.bytes))=some (some (.slice none 0 0),1,24):=by kernel_rfl
theorem Tryz.rowTm:(96:TypeId)<Tryz.prog.types.size:=of_decide_eq_true aQ
theorem Tryz.wideTm:(match Tryz.prog.underlying 96 with | some (.array _ _) | some (.struct _)=>true | _=>false)=true:=by rw[Tryz.underlying96]
theorem Tryz.deepTm:Tryz.prog.keyTypeAt (Tryz.prog.types.size+1) 96=true:=by kernel_rfl
theorem Tryz.laidTm:laidOutB Tryz.prog=true:=by kernel_rfl
theorem Tryz.lawTm:WideMaps.KeyLaw Tryz.prog 96:=deep_law_laid Tryz.laidTm (m:=2) aH Tryz.rowTm aQ Tryz.wideTm
theorem Tryz.cellsTm:Tryz.prog.cellsOf 96=3:=by kernel_rfl
theorem Tryz.cellsI:Tryz.prog.cellsOf 3=1:=by kernel_rfl
theorem wfI {x:Int} (h:Rb x):(Lit.int .i64 x).wf=true:=by
 have h1:=h.1;have h2:=h.2;simp[Lit.wf,IntKind.min,IntKind.max,IntKind.signed,IntKind.bits];omega
theorem agj (t:Tm) (h:Cy t):∃kl,keyOf Tryz.prog 96 (NJ t)=some kl:=by
 have ht:DataW.Trod (H:=Unit) (fun _=>()) Tryz.prog (default:World) 0 (fun _=>true) true 96 (NJ t) _ _:=⟨_,Go.Deep.trod_struct3_mk (enc:=fun _=>()) (w:=(default:World)) (base:=0) (spare:=fun _=>true) (held:=true) (n:=1) (cs:= [.int .i64 t.1,.int .i64 t.2.1,.int .i64 t.2.2]) Tryz.underlying96 (by rw[Tryz.cellsTm];rfl)
  (by rw[Tryz.cellsI];exact trod_int_mk 0 Tryz.underlying3 (wfI h.1)) (by rw[Tryz.cellsI];exact trod_int_mk 0 Tryz.underlying3 (wfI h.2.1)) (by rw[Tryz.cellsI];exact trod_int_mk 0 Tryz.underlying3 (wfI h.2.2))⟩
 exact⟨_,(keyOf_asKey Tryz.deepTm Tryz.wideTm (by simp[Value.formed,Tryz.underlying96,Tryz.cellsTm]) ht).1⟩
end Go.Proofs.YtpcjekgfnfjbpaaGreat
namespace Go.Proofs.YtpcjekgfnfjbpaaGreat
open Go.RowKit Go.bI Go.ChangeShapes Go.Maps
attribute [local go_sem ↓] Go.wp_at_zero Go.wp_at_succ
theorem aeT (w:World):(zeroValue 3).run Tryz.prog w=.ok (.int .i64 0) w:=by
 obtain⟨x,h1,h2⟩:=Option.map_eq_some_iff.1 Tryz.info3;simp only[Prod.mk.injEq] at h2;simp[zeroValue,typeInfo,h1,h2.1]
theorem Yq:Qq Tryz.prog 96 160 3 NJ Cy:=
 ⟨Keyed.of_law Tryz.lawTm,Tryz.underlying160,Tryz.underlying3,aeT,agj,fun x y _ _ h=>abp h⟩
def okX (b:List Int):Prop:=okB b/\b.length<=1048576
def txN (S:TS) (b:List Int):Nat:=kQ S.l (9,(kQ S.tx b:Int),0)
structure Tsp (B:Nat) (w:World) (p mb mt:Nat) (vl vb:Value) (tv:Nat->Value) (l la:List Tm) (tx lx:List (List Int)) (xv:List Int->Nat) (nf:Nat->Int):Prop where
 row:lX w p 164 9
 c0:w.cell? ⟨p,0,none⟩=some vl
 c1:w.cell? ⟨p,1,none⟩=some (.map (some mb))
 c2:w.cell? ⟨p,2,none⟩=some (.map (some mt))
 c3:w.cell? ⟨p,3,none⟩=some vb
 nx:∀k:Nat,k<5->w.cell? ⟨p,4+k,none⟩=some (.int .i64 (nf k))
 ls:iA 96 3 w vl l.length (tmv l)
 am:DV Tryz.prog 96 3 NJ (kQ la) w mb la
 xm:DV Tryz.prog 9 3 txV xv w mt lx
 bs:iA 23 1 w vb tx.length (fun j _=>tv j)
 bt:∀j b,tx[j]? =some b->Own .u8 5 B w (tv j) b.length (bf b)
 ne:mb≠mt
 hp:B<=p
 hb:B<=mb
 hm:B<=mt
 hl:∀b,vl.ownBlock=some b->B<=b
 hv:∀b,vb.ownBlock=some b->B<=b
structure Gm (B:Nat) (w:World) (p mb mt:Nat) (vl vb:Value) (tv:Nat->Value) (S:TS):Prop extends Tsp B w p mb mt vl vb tv S.l S.l S.tx S.tx (txN S) (fun k=>zY S.l k) where
 nd:S.l.Nodup
 txn:S.tx.Nodup
 all:∀j,j<S.tx.length->((9,(j:Int),0):Tm) ∈ S.l
 okt:∀t,t ∈ S.l->Cy t
 okx:∀b,b ∈ S.tx->okX b
def TF (p mb mt:Nat) (vl vb:Value) (n:Nat) (tv:Nat->Value) (b:Nat):Prop:=b=p\/b=mb\/b=mt\/vl.ownBlock=some b\/vb.ownBlock=some b\/∃j,j<n/\(tv j).ownBlock=some b
section
variable {B : Nat} {w w' : World} {p mb mt : Nat} {vl vb : Value} {tv : Nat -> Value} {l la : List Tm} {tx lx : List (List Int)} {xv : List Int -> Nat} {nf : Nat -> Int}
theorem Tsp.keep {G:Nat->Prop} (h:Tsp B w p mb mt vl vb tv l la tx lx xv nf) (hc:fV G w w') (hF:∀b,TF p mb mt vl vb tx.length tv b->¬ G b):Tsp B w' p mb mt vl vb tv l la tx lx xv nf:=by
 have hp:=hF p (.inl rfl);have hl:=h.row.lt
 refine⟨h.row.heap (hc.block p hl hp),(hc.cell (p:=⟨p,0,none⟩) hl hp).trans h.c0,(hc.cell (p:=⟨p,1,none⟩) hl hp).trans h.c1,(hc.cell (p:=⟨p,2,none⟩) hl hp).trans h.c2,(hc.cell (p:=⟨p,3,none⟩) hl hp).trans h.c3,
  fun k hk=>(hc.cell (p:=⟨p,4+k,none⟩) hl hp).trans (h.nx k hk),h.ls.gL hc fun b hb=>hF b (.inr (.inr (.inr (.inl hb)))),h.am.heap (hc.block mb h.am.lt (hF mb (.inr (.inl rfl)))),h.xm.heap (hc.block mt h.xm.lt (hF mt (.inr (.inr (.inl rfl))))),
  h.bs.gL hc fun b hb=>hF b (.inr (.inr (.inr (.inr (.inl hb))))),fun j b hb=>(h.bt j b hb).ZR hc fun c hcc=>hF c (.inr (.inr (.inr (.inr (.inr ⟨j,(List.getElem?_eq_some_iff.1 hb).1,hcc⟩))))),h.ne,h.hp,h.hb,h.hm,h.hl,h.hv⟩
theorem Tsp.below (h:Tsp B w p mb mt vl vb tv l la tx lx xv nf) (hb:Below w.heap.size w w'):Tsp B w' p mb mt vl vb tv l la tx lx xv nf:=h.keep (.of_below hb fun _=>False) fun _ _=>id
theorem Tsp.lt (h:Tsp B w p mb mt vl vb tv l la tx lx xv nf) {b:Nat} (hb:TF p mb mt vl vb tx.length tv b):b<w.heap.size:=by
 rcases hb with rfl | rfl | rfl | hb | hb | ⟨j,hj,hb⟩
 ·exact h.row.lt
 ·exact h.am.lt
 ·exact h.xm.lt
 ·exact h.ls.lt b hb
 ·exact h.bs.lt b hb
 ·exact(h.bt j _ (kP hj)).XG.lt b hb
theorem Tsp.hi (h:Tsp B w p mb mt vl vb tv l la tx lx xv nf) {b:Nat} (hb:TF p mb mt vl vb tx.length tv b):B<=b:=by
 rcases hb with rfl | rfl | rfl | hb | hb | ⟨j,hj,hb⟩
 ·exact h.hp
 ·exact h.hb
 ·exact h.hm
 ·exact h.hl b hb
 ·exact h.hv b hb
 ·exact(h.bt j _ (kP hj)).block b hb
theorem Tsp.cellP (h:Tsp B w p mb mt vl vb tv l la tx lx xv nf) (o:Nat) (v:Value):(∀i,i≠o->(w.setCell ⟨p,o,none⟩ v).cell? ⟨p,i,none⟩=w.cell? ⟨p,i,none⟩)/\(o<9->(w.setCell ⟨p,o,none⟩ v).cell? ⟨p,o,none⟩=some v)/\lX (w.setCell ⟨p,o,none⟩ v) p 164 9/\
  iA 96 3 (w.setCell ⟨p,o,none⟩ v) vl l.length (tmv l)/\DV Tryz.prog 96 3 NJ (kQ la) (w.setCell ⟨p,o,none⟩ v) mb la/\DV Tryz.prog 9 3 txV xv (w.setCell ⟨p,o,none⟩ v) mt lx/\
  iA 23 1 (w.setCell ⟨p,o,none⟩ v) vb tx.length (fun j _=>tv j)/\∀j b,tx[j]? =some b->Own .u8 5 B (w.setCell ⟨p,o,none⟩ v) (tv j) b.length (bf b):=by
 have hc:fV (fun b=>b=p) w (w.setCell ⟨p,o,none⟩ v):=.set _ _ ⟨p,o,none⟩ _ rfl
 refine⟨fun i hi=>World.cell?_setCell_other _ _ _ _ (fun e=>hi (by cases e;rfl)),fun ho=>?_,h.row.setCell _ rfl _,h.ls.gL hc fun b hb e=>h.ls.ig h.row aM (e▸hb),h.am.heap (hc.block mb h.am.lt fun e=>h.am.vM (e▸h.row)),h.xm.heap (hc.block mt h.xm.lt fun e=>h.xm.vM (e▸h.row)),
  h.bs.gL hc fun b hb e=>h.bs.ig h.row aM (e▸hb),fun j b hb=>(h.bt j b hb).ZR hc fun c hcc e=>(h.bt j b hb).XG.ig h.row aM (e▸hcc)⟩
 obtain⟨x,hx⟩:=Option.isSome_iff_exists.1 (h.row.UF o ho);exact World.cell?_setCell_same _ _ _ hx
end
section
variable {B : Nat} {w w' : World} {p mb mt : Nat} {vl vb : Value} {tv : Nat -> Value} {S : TS}
theorem Gm.keep {G:Nat->Prop} (h:Gm B w p mb mt vl vb tv S) (hc:fV G w w') (hF:∀b,TF p mb mt vl vb S.tx.length tv b->¬ G b):Gm B w' p mb mt vl vb tv S:=⟨h.toTsp.keep hc hF,h.nd,h.txn,h.all,h.okt,h.okx⟩
theorem Gm.below (h:Gm B w p mb mt vl vb tv S) (hb:Below w.heap.size w w'):Gm B w' p mb mt vl vb tv S:=⟨h.toTsp.below hb,h.nd,h.txn,h.all,h.okt,h.okx⟩
theorem Gm.lt (h:Gm B w p mb mt vl vb tv S) {b:Nat} (hb:TF p mb mt vl vb S.tx.length tv b):b<w.heap.size:=h.toTsp.lt hb
theorem Gm.hi (h:Gm B w p mb mt vl vb tv S) {b:Nat} (hb:TF p mb mt vl vb S.tx.length tv b):B<=b:=h.toTsp.hi hb
theorem Ba (h:Gm B w p mb mt vl vb tv S):Calls Tryz.prog 116 #[.pointer (some ⟨p,0,none⟩)] w fun e w'=>e=.returned (.bool true)/\w'=w:=by
 have c1:=h.c1;have hq:=fun w=>run_neq_map_nil (P:=Tryz.prog) w 160 96 3 (some mb) Tryz.underlying160;clear h
 go_enter Tryz.func116,Tryz.ntmps116
 go_wp2;go_ret;exact⟨rfl,rfl⟩
theorem WO (h:Gm B w p mb mt vl vb tv S):Calls Tryz.prog 115 #[.pointer (some ⟨p,0,none⟩)] w fun e w'=>e=.returned (kF S.l.length)/\w'=w:=by
 have HI:=ay (Ba h);have c0:=h.c0;obtain⟨al,cl,rfl,_⟩:=h.ls.slice;clear h
 go_enter Tryz.func115,Tryz.ntmps115
 go_wp2_with fail;refine HI.out.mono ?_;rintro e w' ⟨rfl,rfl⟩;go_wp2;go_ret;exact⟨rfl,rfl⟩
theorem Fj (n:Int) (w:World):Calls Tryz.prog 137 #[.int .i64 n] w fun e w'=>e=.returned (.bool (isSort n))/\w'=w:=by
 obtain⟨R,hR⟩:∃R,R=isSort n:=⟨_,rfl⟩
 have HR:=ay hR;rw[<-hR];clear hR;by_cases h1:1<=n
 ·by_cases h2:n<=4
  ·go_enter Tryz.func137,Tryz.ntmps137
   go_wp2;go_ret;exact⟨by rw[HR.out];simp[isSort,h1,h2],rfl⟩
  ·go_enter Tryz.func137,Tryz.ntmps137
   go_wp2;go_ret;exact⟨by rw[HR.out];simp[isSort,h1,h2],rfl⟩
 ·go_enter Tryz.func137,Tryz.ntmps137
  go_wp2;go_ret;exact⟨by rw[HR.out];unfold isSort;rw[decide_eq_false aH];rfl,rfl⟩
theorem jy (h:Gm B w p mb mt vl vb tv S) (n k:Int):Calls Tryz.prog 117 #[.pointer (some ⟨p,0,none⟩),.int .i64 n,.int .i64 k] w fun e w'=>e=.returned (.bool (jg S.l n k))/\w'=w:=by
 obtain⟨R,hR⟩:∃R,R=jg S.l n k:=⟨_,rfl⟩
 have HR:=ay hR;rw[<-hR];have c0:=h.c0;obtain⟨al,cl,el,_⟩:=h.ls.slice;by_cases h1:0<=n
 ·obtain⟨a,rfl⟩:=Gl h1;by_cases h2:a<S.l.length
  ·obtain⟨g,cap,ev,_,_,_,hc⟩:=h.ls.form aH;obtain⟨t,ht⟩:∃t,S.l[a]? =some t:=⟨_,kP h2⟩
   have z0:=hc a h2 0 aM;rw[NI ht,Nat.add_zero,show tf t 0=t.1 from rfl] at z0;rw[ev] at c0;have h9:(a:Int)<(S.l.length:Int):=by omega
   have HK:Hid (Im S.l a k=decide (t.1=k)):=ay (by unfold Im;rw[MZ,ht]);have HRR:Hid (R=(decide (k=0) || decide (t.1=k))):=ay (by rw[hR];unfold jg;rw[HK.out,decide_eq_true h1,decide_eq_true h9];rfl);by_cases hk:k=0
   ·have hkb:(k==0)=true:=by simpa using hk
    have HF:Hid (R=true):=ay (by rw[HRR.out,decide_eq_true hk];rfl);clear h hR hc ht el ev hk h1 h2
    go_enter Tryz.func117,Tryz.ntmps117
    go_wp2;go_ret;rw[HF.out];exact⟨rfl,rfl⟩
   ·have hkb:(k==0)=false:=by simpa using hk
    have HF:Hid (R=(t.1==k)):=ay (by rw[HRR.out,decide_eq_false hk,Bool.false_or];rfl);clear h hR hc ht el ev hk h1 h2
    go_enter Tryz.func117,Tryz.ntmps117
    go_wp2;go_ret;rw[HF.out];exact⟨rfl,rfl⟩
  ·have h9:¬ (a:Int)<(S.l.length:Int):=by omega
   have HF:Hid (R=false):=ay (by rw[hR];unfold jg;rw[decide_eq_false h9,Bool.and_false,Bool.false_and]);rw[el] at c0;clear h hR el h2
   go_enter Tryz.func117,Tryz.ntmps117
   go_wp2;go_ret;rw[HF.out];exact⟨rfl,rfl⟩
 ·have HF:Hid (R=false):=ay (by rw[hR];unfold jg;rw[decide_eq_false h1,Bool.false_and,Bool.false_and]);clear h hR el
  go_enter Tryz.func117,Tryz.ntmps117
  go_wp2;go_ret;rw[HF.out];exact⟨rfl,rfl⟩
end
section
variable {B : Nat} {w w' : World} {p mb mt : Nat} {vl vb : Value} {tv : Nat -> Value} {S : TS}
theorem WM (h:Gm B w p mb mt vl vb tv S) (t:Tm):Calls Tryz.prog 140 #[.pointer (some ⟨p,0,none⟩),NJ t] w fun e w'=>e=.returned (.bool (nV S t))/\Below w.heap.size w w':=by
 obtain⟨R,hR⟩:∃R,R=nV S t:=⟨_,rfl⟩
 obtain⟨k,a,b⟩:=t;have HR:=ay hR;rw[<-hR];have H:=ay h;clear h hR
 go_enter Tryz.func140,Tryz.ntmps140
 go_upto_region 1 with(fail);refine aJ (fun w1=>(w1.cell? ⟨w.heap.size,0,none⟩=some (.int .i64 k)/\w1.cell? ⟨w.heap.size,1,none⟩=some (.int .i64 a)/\w1.cell? ⟨w.heap.size,2,none⟩=some (.int .i64 b))/\Below w.heap.size w w1) ⟨⟨cell_of_row _ _ 0 _ _ (0,0) (heap_alloc_new w _),cell_of_row _ _ 1 _ _ (0,0) (heap_alloc_new w _),cell_of_row _ _ 2 _ _ (0,0) (heap_alloc_new w _)⟩,(bT _ _).alloc (bH _) _⟩ ?_;rintro w1 ⟨⟨e0,e1,e2⟩,bb1⟩;have B1:=ay bb1;have H1:=ay (H.out.below bb1);clear bb1;by_cases k1:k=1
 ·subst k1;rw[Yh] at HR;go_wp2_with fail;refine(Fj a _).mono ?_;rintro e w' ⟨rfl,rfl⟩;unfold isSort
  cases hs:decide (1<=a) && decide (a<=4) with
  | false=>
   have HF:Hid (R=false):=ay (by rw[HR.out,hs];rfl);clear hs;go_wp2;go_ret;rw[HF.out];exact⟨rfl,B1.out⟩
  | true=>
   have HF:Hid (R=decide (0<=b)):=ay (by rw[HR.out,hs];rfl);clear hs;go_wp2;go_ret;rw[HF.out];exact⟨rfl,B1.out⟩
 by_cases k9:k=9
 ·subst k9;rw[aga] at HR;have c3:=H1.out.c3;obtain⟨ab,cb,rfl,_⟩:=H1.out.bs.slice;by_cases h1:0<=a
  ·by_cases h2:a<(S.tx.length:Int)
   ·have HF:Hid (R=(b==0)):=ay (by rw[HR.out,decide_eq_true h1,decide_eq_true h2];rfl);go_wp2
    go_quiet (fail)
    go_wp2;go_ret;rw[HF.out];exact⟨rfl,Go.bI.below_drewN B1.out _⟩
   ·have HF:Hid (R=false):=ay (by rw[HR.out,decide_eq_false h2,Bool.and_false,Bool.false_and]);have hd1:decide (0<=a)=true:=decide_eq_true h1;have hd2:decide (a<(S.tx.length:Int))=false:=decide_eq_false h2;clear h1 h2;go_wp2
    go_quiet (fail)
    go_wp2;go_ret;rw[HF.out];exact⟨rfl,Go.bI.below_drewN B1.out _⟩
  ·have HF:Hid (R=false):=ay (by rw[HR.out,decide_eq_false h1,Bool.false_and,Bool.false_and]);have hd1:decide (0<=a)=false:=decide_eq_false h1;clear h1;go_wp2
   go_quiet (fail)
   go_wp2;go_ret;rw[HF.out];exact⟨rfl,Go.bI.below_drewN B1.out _⟩
 by_cases k2:k=2
 ·subst k2;rw[Yg] at HR;go_wp2_with fail;refine(jy H1.out a 0).mono ?_;rintro e w' ⟨rfl,rfl⟩
  cases hs:jg S.l a 0 with
  | false=>
   have HF:Hid (R=false):=ay (by rw[HR.out,hs];rfl);clear hs;go_wp2;go_ret;rw[HF.out];exact⟨rfl,B1.out⟩
  | true=>
   have HF:Hid (R=(b==0)):=ay (by rw[HR.out,hs];rfl);clear hs;go_wp2;go_ret;rw[HF.out];exact⟨rfl,B1.out⟩
 by_cases k3:k=3
 ·subst k3;rw[Yf] at HR;go_wp2_with fail;refine(jy H1.out a 0).mono ?_;rintro e w' ⟨rfl,rfl⟩
  cases hs:jg S.l a 0 with
  | false=>
   have HF:Hid (R=false):=ay (by rw[HR.out,hs];rfl);clear hs;go_wp2;go_ret;rw[HF.out];exact⟨rfl,B1.out⟩
  | true=>
   have HF:Hid (R=(b==0)):=ay (by rw[HR.out,hs];rfl);clear hs;go_wp2;go_ret;rw[HF.out];exact⟨rfl,B1.out⟩
 by_cases k6:k=6
 ·subst k6;rw[Yc] at HR;go_wp2_with fail;refine(jy H1.out a 0).mono ?_;rintro e w' ⟨rfl,rfl⟩
  cases hs:jg S.l a 0 with
  | false=>
   have HF:Hid (R=false):=ay (by rw[HR.out,hs];rfl);clear hs;go_wp2;go_ret;rw[HF.out];exact⟨rfl,B1.out⟩
  | true=>
   have HF:Hid (R=(b==0)):=ay (by rw[HR.out,hs];rfl);clear hs;go_wp2;go_ret;rw[HF.out];exact⟨rfl,B1.out⟩
 by_cases k7:k=7
 ·subst k7;rw[Yb] at HR;go_wp2_with fail;refine(jy H1.out a 0).mono ?_;rintro e w' ⟨rfl,rfl⟩
  cases hs:jg S.l a 0 with
  | false=>
   have HF:Hid (R=false):=ay (by rw[HR.out,hs];rfl);clear hs;go_wp2;go_ret;rw[HF.out];exact⟨rfl,B1.out⟩
  | true=>
   have HF:Hid (R=(b==0)):=ay (by rw[HR.out,hs];rfl);clear hs;go_wp2;go_ret;rw[HF.out];exact⟨rfl,B1.out⟩
 by_cases k4:k=4
 ·subst k4;rw[Ye] at HR;go_wp2_with fail;refine(jy H1.out a 2).mono ?_;rintro e w' ⟨rfl,rfl⟩
  cases hs:jg S.l a 2 with
  | false=>
   have HF:Hid (R=false):=ay (by rw[HR.out,hs];rfl);clear hs;go_wp2;go_ret;rw[HF.out];exact⟨rfl,B1.out⟩
  | true=>
   have HF:Hid (R=jg S.l b 0):=ay (by rw[HR.out,hs];rfl);clear hs;go_wp2_with fail;refine(jy H1.out b 0).mono ?_;rintro e w' ⟨rfl,rfl⟩;go_wp2;go_ret;rw[HF.out];exact⟨rfl,B1.out⟩
 by_cases k5:k=5
 ·subst k5;rw[Yd] at HR;go_wp2_with fail;refine(jy H1.out a 0).mono ?_;rintro e w' ⟨rfl,rfl⟩
  cases hs:jg S.l a 0 with
  | false=>
   have HF:Hid (R=false):=ay (by rw[HR.out,hs];rfl);clear hs;go_wp2;go_ret;rw[HF.out];exact⟨rfl,B1.out⟩
  | true=>
   have HF:Hid (R=jg S.l b 0):=ay (by rw[HR.out,hs];rfl);clear hs;go_wp2_with fail;refine(jy H1.out b 0).mono ?_;rintro e w' ⟨rfl,rfl⟩;go_wp2;go_ret;rw[HF.out];exact⟨rfl,B1.out⟩
 by_cases k8:k=8
 ·subst k8;rw[agb] at HR;go_wp2_with fail;refine(jy H1.out a 0).mono ?_;rintro e w' ⟨rfl,rfl⟩
  cases hs:jg S.l a 0 with
  | false=>
   have HF:Hid (R=false):=ay (by rw[HR.out,hs];rfl);clear hs;go_wp2;go_ret;rw[HF.out];exact⟨rfl,B1.out⟩
  | true=>
   have HF:Hid (R=jg S.l b 9):=ay (by rw[HR.out,hs];rfl);clear hs;go_wp2_with fail;refine(jy H1.out b 9).mono ?_;rintro e w' ⟨rfl,rfl⟩;go_wp2;go_ret;rw[HF.out];exact⟨rfl,B1.out⟩
 by_cases k10:k=10
 ·subst k10;rw[acD] at HR;go_wp2_with fail;refine(jy H1.out a 9).mono ?_;rintro e w' ⟨rfl,rfl⟩
  cases hs:jg S.l a 9 with
  | false=>
   have HF:Hid (R=false):=ay (by rw[HR.out,hs];rfl);clear hs;go_wp2;go_ret;rw[HF.out];exact⟨rfl,B1.out⟩
  | true=>
   have HF:Hid (R=(b==0)):=ay (by rw[HR.out,hs];rfl);clear hs;go_wp2;go_ret;rw[HF.out];exact⟨rfl,B1.out⟩
 have HF:Hid (R=false):=ay (HR.out.trans (acC S k a b ⟨k1,k2,k3,k4,k5,k6,k7,k8,k9,k10⟩));have b1:(k==1)=false:=by simpa using k1
 have b2:(k==2)=false:=by simpa using k2
 have b3:(k==3)=false:=by simpa using k3
 have b4:(k==4)=false:=by simpa using k4
 have b5:(k==5)=false:=by simpa using k5
 have b6:(k==6)=false:=by simpa using k6
 have b7:(k==7)=false:=by simpa using k7
 have b8:(k==8)=false:=by simpa using k8
 have b9:(k==9)=false:=by simpa using k9
 have b10:(k==10)=false:=by simpa using k10
 clear k1 k2 k3 k4 k5 k6 k7 k8 k9 k10;go_wp2;go_ret;rw[HF.out];exact⟨rfl,B1.out⟩
end
end Go.Proofs.YtpcjekgfnfjbpaaGreat
namespace Go.Proofs.YtpcjekgfnfjbpaaGreat
open Go.RowKit Go.bI Go.ChangeShapes Go.Maps
section
variable {B : Nat} {w w1 w' : World} {p mb mt : Nat} {vl vb : Value} {tv : Nat -> Value} {l la : List Tm} {tx lx : List (List Int)} {xv : List Int -> Nat} {nf : Nat -> Int}
theorem Tsp.ajM {o:Obj} {v':Value} {y:Nat->Nat->Value} {t:Tm} (h:Tsp B w p mb mt vl vb tv l la tx lx xv nf) (hB:B<=w.heap.size) (ho:iA 96 3 w1 v' (l.length+1) (nY l.length (tmv l) y)) (hy:∀i,y 0 i=.int .i64 (tf t i)) (hg:(w.alloc o).grownBy w1 vl.ownBlock) (hp:Placed w vl v'):
  (w1.cell? ⟨p,0,none⟩=some vl/\w1.frozen? ⟨p,0,none⟩=false)/\Tsp B (w1.setCell ⟨p,0,none⟩ v') p mb mt v' vb tv (l++ [t]) la tx lx xv nf/\fV (fun b=>b=p\/vl.ownBlock=some b) w (w1.setCell ⟨p,0,none⟩ v')/\∀b,v'.ownBlock=some b->vl.ownBlock=some b\/w.heap.size<=b:=by
 have C1:fV (fun b=>vl.ownBlock=some b) w w1:=fV.tH hg;have hpl:vl.ownBlock≠some p:=fun e=>h.ls.ig h.row aM e;have Oc:=h.row.heap (C1.block p h.row.lt hpl);have Pd:∀b,v'.ownBlock=some b->vl.ownBlock=some b\/w.heap.size<=b:=fun b hb=>by
  rcases hp with hp | hp
  ·exact .inl (hp▸hb)
  ·exact .inr (hp b hb)
 have T1:Tsp B w1 p mb mt v' vb tv (l++ [t]) la tx lx xv nf\/True:=.inr trivial;have c:=fun(i:Nat)=>C1.cell (p:=⟨p,i,none⟩) h.row.lt hpl;have am1:=h.am.heap (C1.block mb h.am.lt fun e=>h.ls.kW h.am e);have xm1:=h.xm.heap (C1.block mt h.xm.lt fun e=>h.ls.kW h.xm e);have bs1:=h.bs.gL C1 fun b hb e=>h.bs.uj h.ls aM hb e;have bt1:∀j b,tx[j]? =some b->Own .u8 5 B w1 (tv j) b.length (bf b):=fun j b hb=>(h.bt j b hb).ZR C1 fun c hcc e=>(h.bt j b hb).XG.uj h.ls aM hcc e;have C2:fV (fun b=>b=p) w1 (w1.setCell ⟨p,0,none⟩ v'):=.set _ _ ⟨p,0,none⟩ _ rfl;have s1:=C1.size;have cc:=fun(i:Nat) (hi:i≠0)=>(World.cell?_setCell_other w1 _ _ v' (fun e:(⟨p,0,none⟩:Addr)=⟨p,i,none⟩=>hi (by cases e;rfl))).trans (c i);have e0:(w1.setCell ⟨p,0,none⟩ v').cell? ⟨p,0,none⟩=some v':=World.cell?_setCell_same _ _ _ ((c 0).trans h.c0)
 refine⟨⟨(c 0).trans h.c0,Oc.free 0⟩,⟨Oc.setCell _ rfl _,e0,(cc 1 aM).trans h.c1,(cc 2 aM).trans h.c2,(cc 3 aM).trans h.c3,fun k hk=>(cc (4+k) aH).trans (h.nx k hk),
  (JK ho hy).gL C2 fun b hb e=>(JK ho hy).ig Oc aM (e▸hb),am1.heap (C2.block mb am1.lt fun e=>am1.vM (e▸Oc)),xm1.heap (C2.block mt xm1.lt fun e=>xm1.vM (e▸Oc)),
  bs1.gL C2 fun b hb e=>bs1.ig Oc aM (e▸hb),fun j b hb=>(bt1 j b hb).ZR C2 fun c hcc e=>(bt1 j b hb).XG.ig Oc aM (e▸hcc),h.ne,h.hp,h.hb,h.hm,fun b hb=>(Pd b hb).elim (h.hl b) (fun h'=>iw hB h'),h.hv⟩,
  (C1.mono fun _ _ h=>.inr h).trans (C2.mono fun _ _ h=>.inl h) fun _ _ h=>h,Pd⟩
theorem Tsp.nU {t:Tm} (h:Tsp B w p mb mt vl vb tv l la tx lx xv nf) (hla:∀t,t ∈ la->Cy t) (hok:Cy t) (hn:t ∉ la) (hnd:la.Nodup) (hl:la.length<=1000000):
  ∃w',(Instr.mapUpdate 160 (.map (some mb)) (NJ t) (kF la.length)).run Tryz.prog w=.ok () w'/\Tsp B w' p mb mt vl vb tv l (la++ [t]) tx lx xv nf/\fV (fun b=>b=mb) w w':=by
 obtain⟨w',h1,h2,h3⟩:=Yq.put (val':=kQ (la++ [t])) h.am hla hok hn hl (za (j:=la.length) (oK hnd hn) (by rw[Ji (bH _),Nat.sub_self];rfl)) aH fun y hy=>by
  exact rH (oK hnd hn) (List.prefix_append _ _) hy
 have C:fV (fun b=>b=mb) w w':=fV.jP h3 fun b hb=>by cases hb;rfl
 have hpm:p≠mb:=fun e=>h.am.vM (e▸h.row);have c:=fun(i:Nat)=>C.cell (p:=⟨p,i,none⟩) h.row.lt hpm
 exact⟨w',h1,⟨h.row.heap (C.block p h.row.lt hpm),(c 0).trans h.c0,(c 1).trans h.c1,(c 2).trans h.c2,(c 3).trans h.c3,fun k hk=>(c (4+k)).trans (h.nx k hk),h.ls.gL C fun b hb e=>h.ls.kW h.am (e▸hb),h2,h.xm.heap (C.block mt h.xm.lt fun e=>h.ne e.symm),
  h.bs.gL C fun b hb e=>h.bs.kW h.am (e▸hb),fun j b hb=>(h.bt j b hb).ZR C fun c hcc e=>(h.bt j b hb).XG.kW h.am (e▸hcc),h.ne,h.hp,h.hb,h.hm,h.hl,h.hv⟩,C⟩
theorem Tsp.aoJ (h:Tsp B w p mb mt vl vb tv l la tx lx xv nf) (k:Nat) (hk:k<5) (x:Int) {nf':Nat->Int} (hf:∀j,j<5->nf' j=if j=k then x else nf j):
  Tsp B (w.setCell ⟨p,4+k,none⟩ (.int .i64 x)) p mb mt vl vb tv l la tx lx xv nf'/\fV (fun b=>b=p) w (w.setCell ⟨p,4+k,none⟩ (.int .i64 x)):=by
 obtain⟨h1,h2,h3,h4,h5,h6,h7,h8⟩:=h.cellP (4+k) (.int .i64 x);refine⟨⟨h3,(h1 0 aH).trans h.c0,(h1 1 aH).trans h.c1,(h1 2 aH).trans h.c2,(h1 3 aH).trans h.c3,fun j hj=>?_,h4,h5,h6,h7,h8,h.ne,h.hp,h.hb,h.hm,h.hl,h.hv⟩,.set _ _ ⟨p,4+k,none⟩ _ rfl⟩;rw[hf j hj];by_cases e:j=k
 ·subst e;rw[if_pos rfl];exact h2 aH
 ·rw[if_neg e];exact(h1 (4+j) aH).trans (h.nx j hj)
end
end Go.Proofs.YtpcjekgfnfjbpaaGreat
namespace Go.Proofs.YtpcjekgfnfjbpaaGreat
open Go.RowKit Go.bI Go.ChangeShapes Go.Maps
attribute [local go_sem ↓] Go.wp_at_zero Go.wp_at_succ
section
variable {B : Nat} {w w' : World} {p mb mt : Nat} {vl vb : Value} {tv : Nat -> Value} {S : TS}
theorem Gm.aeb {t:Tm} {Nj:Value} (h:Gm B w p mb mt vl vb tv S) (hot:Cy t) (hn:t ∉ S.l) {nf:Nat->Int} (hp:Tsp B w' p mb mt Nj vb tv (S.l++ [t]) (S.l++ [t]) S.tx S.tx (txN S) nf) (hf:∀k:Nat,k<5->nf k=zY (S.l++ [t]) k):Gm B w' p mb mt Nj vb tv (S.add t):=by
 have hx:∀b,b ∈ S.tx->txN (S.add t) b=txN S b:=fun b hb=>rH (oK h.nd hn) (List.prefix_append _ _) (h.all _ (qh hb))
 exact⟨⟨hp.row,hp.c0,hp.c1,hp.c2,hp.c3,fun k hk=>(hp.nx k hk).trans (by rw[hf k hk];rfl),hp.ls,hp.am,hp.xm.congr hx,hp.bs,hp.bt,hp.ne,hp.hp,hp.hb,hp.hm,hp.hl,hp.hv⟩,oK h.nd hn,h.txn,fun j hj=>List.mem_append.2 (.inl (h.all j hj)),
  fun u hu=>(List.mem_append.1 hu).elim (h.okt u) fun e=>by rw[List.mem_singleton.1 e];exact hot,h.okx⟩
theorem JW (h:Gm B w p mb mt vl vb tv S) (hB:B<=w.heap.size) (t:Tm) (hot:Cy t) (hn:t ∉ S.l) (hk:t.1=1->1<=t.2.1/\t.2.1<=4) (hl:S.l.length<=1000):
  Calls Tryz.prog 138 #[.pointer (some ⟨p,0,none⟩),NJ t] w fun e w'=>e=.returned (.tuple #[kF S.l.length,.int .i64 0])/\∃Nj,Gm B w' p mb mt Nj vb tv (S.add t)/\fV (fun b=>b=p\/b=mb\/vl.ownBlock=some b) w w'/\∀b,Nj.ownBlock=some b->vl.ownBlock=some b\/w.heap.size<=b:=by
 have H:=ay h;have yJ:=ay hB;have Vo:=ay hot;have HN:=ay hn;have HK:=ay hk;have HL:=ay hl;clear h hB hot hn hk hl
 go_enter Tryz.func138,Tryz.ntmps138
 go_upto_region 1 with(fail);refine aJ (fun w1=>(∀i,i<3->w1.cell? ⟨w.heap.size,i,none⟩=some (.int .i64 (tf t i)))/\w.heap.size<w1.heap.size/\Below w.heap.size w w1) ⟨fun i hi=>by rcases(by omega:i=0\/i=1\/i=2) with rfl | rfl | rfl<;> exact cell_of_row _ _ _ _ _ (0,0) (heap_alloc_new w _),by rw[World.size_alloc];omega,(bT _ _).alloc (bH _) _⟩ ?_;rintro w1 ⟨hc1,hlt1,bb1⟩;have Bw:=ay hc1;have Vs:=ay hlt1;have B1:=ay bb1;have H1:=ay (H.out.below bb1);have c0:=H1.out.c0;obtain⟨al,cl,el,_⟩:=H1.out.ls.slice;have Vw:=ay el;rw[el] at c0;have h9:¬ (65536:Int)<=(S.l.length:Int):=by have:=HL.out;omega
 clear hc1 hlt1 bb1 el;go_upto_region 4 with(fail);clear c0
 apply qg (n:=56) [.f,.e,.e,.e,.e,.e,.c,.c,.f,.f,.c] 1 aQ aQ aQ rfl
 ·intro w5 hB5;have c0:=(H1.out.below hB5).c0;rw[Vw.out] at c0;have HC5:Hid (∀i,i<3->w5.cell? ⟨w.heap.size,0+i,none⟩=some (.int .i64 (tf t i))):=fun i hi=>by rw[qY];exact(hB5.cell (p:=⟨w.heap.size,i,none⟩) Vs.out).trans (Bw.out i hi)
  simp only[fP,Cl.Jv,cond_true,cond_false]
  repeat (first | (refine Fx (y:=fun i=>.int .i64 (tf t i)) rfl rfl rfl Tryz.underlying96 rfl Tryz.sizeTm HC5.out ?_) | still_step)
  exact wpStill_nil rfl
 ·intro w5;simp only[fP,Cl.isF,cond_true,cond_false]
  repeat still_step
  exact wpStill_nil rfl
 ·simp only[fP,Cl.qR,cond_true,cond_false];refine ZT ((bT _ _).drew) (fun K hK=>?_);refine aN <| yN 159 96 1 _ rfl Tryz.underlying159 (gV 3 (fun i=>.int .i64 (tf t i))) aQ (hK _ _ (((bT _ _).drew).alloc (bH _) _) (Dm ?_));clear hK K;have H2:=ay (H1.out.below ((bT w1.heap.size w1).drew));refine wR (w0:=w1.drew) rfl _ _ rfl rfl rfl (Vw.out▸H2.out.ls) aM Tryz.underlying159 Tryz.infoTm rfl rfl (fun i _=>rfl) (by have:=HL.out;unfold maxLen;omega) (by have:=HL.out;omega) ?_;intro v4 w4 ho4 hg4 hp4;obtain⟨⟨e0,f0⟩,hT5,hC5,hF5⟩:=H2.out.toTsp.ajM (t:=t) (iw yJ.out B1.out.size) ho4 (fun _=>rfl) (Vw.out▸hg4) (Vw.out▸hp4);rw[Vw.out] at e0;have T5:=ay hT5;have C5:Hid (fV (fun b=>b=p\/vl.ownBlock=some b) w1 _):=ay ((fV.of_below ((bT w1.heap.size w1).drew) _).trans hC5 fun _ _ h=>h);have F5:=ay hF5;obtain⟨a4,q4,rfl,_⟩:=ho4.slice;clear ho4 hg4 hp4 hT5 hC5 hF5;go_wp2;refine KZ ?_;go_upto_region 5 with(fail);refine aJ (fun w5=>Tsp B w5 p mb mt (.slice a4 (S.l.length+1) q4) vb tv (S.l++ [t]) S.l S.tx S.tx (txN S) (fun k=>zY S.l k)/\fV (fun b=>b=p\/vl.ownBlock=some b) w1 w5) ⟨T5.out,C5.out⟩ ?_;rintro w5 ⟨hT5,hC5⟩;have T5:=ay hT5;have HC5:Hid (∀i,i<3->w5.cell? ⟨w.heap.size,i,none⟩=some (.int .i64 (tf t i))):=fun i hi=>(hC5.cell (p:=⟨w.heap.size,i,none⟩) Vs.out (fun hF=>hF.elim (fun h=>Nat.ne_of_gt H.out.row.lt h) (fun h=>Nat.lt_irrefl _ (H.out.ls.lt _ h)))).trans (Bw.out i hi);have ait:Hid (w.heap.size<w5.heap.size):=ay (qZ Vs.out hC5.size);have C5:=ay hC5;clear hT5 hC5 e0 f0;obtain⟨w6,hrun,hT6,hC6⟩:=(T5.out.below ((bT w5.heap.size w5).drew)).nU H.out.okt Vo.out HN.out H.out.nd (by have:=HL.out;omega);have aaz:Hid ((Instr.mapUpdate 160 (.map (some mb)) (.agg (gV 3 fun i=>.int .i64 (tf t i))) (.int .i64 (S.l.length:Int))).run Tryz.prog w5.drew=.ok () w6):=ay hrun;have T6:=ay hT6;have C6:Hid (fV (fun b=>b=mb) w5 w6):=ay ((fV.of_below ((bT w5.heap.size w5).drew) _).trans hC6 fun _ _ h=>h);clear hrun hT6 hC6
  apply qg (n:=56) [.e,.e,.e,.e,.e,.e,.c] 0 aQ aQ aQ rfl
  ·intro w7 hB7;have c1:=(T5.out.below hB7).c1;have HC7:Hid (∀i,i<3->w7.cell? ⟨w.heap.size,0+i,none⟩=some (.int .i64 (tf t i))):=fun i hi=>by rw[qY];exact(hB7.cell (p:=⟨w.heap.size,i,none⟩) ait.out).trans (HC5.out i hi)
   simp only[fP,Cl.Jv,cond_true,cond_false]
   repeat (first | (refine Fx (y:=fun i=>.int .i64 (tf t i)) rfl rfl rfl Tryz.underlying96 rfl Tryz.sizeTm HC7.out ?_) | still_step)
   exact wpStill_nil rfl
  ·intro w7;simp only[fP,Cl.isF,cond_true,cond_false]
   repeat still_step
   exact wpStill_nil rfl
  ·simp only[fP,Cl.qR,cond_true,cond_false];refine Dm ?_;have hrun:=aaz.out;go_wp2;refine KZ ?_;clear hrun;go_upto_region 6 with(fail);have HC6:Hid (∀i,i<3->w6.cell? ⟨w.heap.size,i,none⟩=some (.int .i64 (tf t i))):=fun i hi=>(C6.out.cell (p:=⟨w.heap.size,i,none⟩) ait.out (fun h=>Nat.ne_of_gt H.out.am.lt h)).trans (HC5.out i hi);have amq:Hid (w.heap.size<w6.heap.size):=ay (qZ ait.out C6.out.size);have CH6:Hid (fV (fun b=>b=p\/b=mb\/vl.ownBlock=some b) w w6):=ay ((((fV.of_below B1.out _).trans (C5.out.mono fun b _ h=>h.elim .inl fun h=>.inr (.inr h)) fun _ _ h=>h).trans (C6.out.mono fun b _ h=>.inr (.inl h)) fun _ _ h=>h));have FT6:Hid (∀b,(Value.slice a4 (S.l.length+1) q4).ownBlock=some b->vl.ownBlock=some b\/w.heap.size<=b):=ay fun b hb=>(F5.out b hb).imp id fun h=>iw B1.out.size h;have e0:=HC6.out 0 aM;rw[show tf t 0=t.1 from rfl] at e0;by_cases hk:t.1=1
   ·have hkb:(t.1==1)=true:=by simpa using hk
    obtain⟨vO,jv⟩:=HK.out hk;obtain⟨k,hkk⟩:=Gl (show 0<=t.2.1 by omega);have hk5:k<5:=by omega
    go_upto_region 7 with(fail);have hk9:(k:Int)<5:=by omega
    have hok:=Vo.out.2.2;have hmin: -9223372036854775808<=min t.2.2 4611686018427387904/\min t.2.2 4611686018427387904<=4611686018427387904:=by have:=hok.1;omega
    have hwr:IntKind.i64.wrap (min t.2.2 4611686018427387904+1)=min t.2.2 4611686018427387904+1:=jq aH aH
    apply qg (n:=56) [.e,.e,.e,.e,.e,.e,.e,.e,.e,.e,.e,.e,.e,.e,.e,.e,.e,.e,.c] 0 aQ aQ aQ rfl
    ·intro w7 hB7;have z0:=((T6.out.below hB7).nx k hk5)
     have e1:=(hB7.cell (p:=⟨w.heap.size,1,none⟩) amq.out).trans (HC6.out 1 aM);have e2:=(hB7.cell (p:=⟨w.heap.size,2,none⟩) amq.out).trans (HC6.out 2 aM);rw[show tf t 1=t.2.1 from rfl,hkk] at e1;rw[show tf t 2=t.2.2 from rfl] at e2;simp only[fP,Cl.Jv,cond_true,cond_false]
     repeat still_step
     exact wpStill_nil rfl
    ·intro w7;simp only[fP,Cl.isF,cond_true,cond_false]
     repeat still_step
     exact wpStill_nil rfl
    ·simp only[fP,Cl.qR,cond_true,cond_false];refine Dm ?_;have T7:=ay (T6.out.below ((bT w6.heap.size w6).drew));have z0:=T7.out.nx k hk5;have f0:=T7.out.row.free (4+k);obtain⟨hT8,hC8⟩:=T7.out.aoJ k hk5 (max (zY S.l k) (min t.2.2 4611686018427387904+1)) (nf':=fun j=>zY (S.l++ [t]) j) fun j hj=>by
      rw[Cz];by_cases e:j=k
      ·subst e;rw[if_pos ⟨hk,hkk⟩,if_pos rfl]
       rfl
      ·rw[if_neg (fun h=>e (by have:=h.2;omega)),if_neg e]
     have FIN:=ay (H.out.aeb Vo.out HN.out hT8 fun k _=>rfl);have CH8:Hid (fV (fun b=>b=p\/b=mb\/vl.ownBlock=some b) w _):=ay ((CH6.out.trans (fV.of_below ((bT w6.heap.size w6).drew) (fun _=>False)) fun _ _ h=>h.elim).trans (hC8.mono fun b _ h=>.inl h) fun _ _ h=>h);clear hk hkk hT8 hC8 hmin hok vO jv hk9;go_wp2;refine KZ ?_;clear z0 f0 hwr;go_wp2;go_ret2;exact⟨rfl,_,FIN.out,CH8.out,FT6.out⟩
   ·have hkb:(t.1==1)=false:=by simpa using hk
    have FIN:=ay (H.out.aeb Vo.out HN.out T6.out fun k _=>by rw[Cz,if_neg fun h=>hk h.1]);clear hk;go_wp2;go_ret2;exact⟨rfl,_,FIN.out,CH6.out,FT6.out⟩
end
def zH (B:Nat) (w:World) (p:Nat) (F:Nat->Prop) (S:TS):Prop:=
 ∃mb mt vl vb tv,Gm B w p mb mt vl vb tv S/\S.Ok/\∀b,F b ↔ TF p mb mt vl vb S.tx.length tv b
section
variable {B : Nat} {w w' : World} {p : Nat} {F : Nat -> Prop} {S : TS}
theorem zH.below (h:zH B w p F S) (hb:Below w.heap.size w w'):zH B w' p F S:=by
 obtain⟨mb,mt,vl,vb,tv,h1,h2,h3⟩:=h;exact⟨mb,mt,vl,vb,tv,h1.below hb,h2,h3⟩
theorem zH.keep {G:Nat->Prop} (h:zH B w p F S) (hc:fV G w w') (hF:∀b,F b->¬ G b):zH B w' p F S:=by
 obtain⟨mb,mt,vl,vb,tv,h1,h2,h3⟩:=h;exact⟨mb,mt,vl,vb,tv,h1.keep hc fun b hb=>hF b ((h3 b).2 hb),h2,h3⟩
theorem zH.hi (h:zH B w p F S) {b:Nat} (hb:F b):B<=b:=by
 obtain⟨mb,mt,vl,vb,tv,h1,h2,h3⟩:=h;exact h1.hi ((h3 b).1 hb)
theorem zH.lt (h:zH B w p F S) {b:Nat} (hb:F b):b<w.heap.size:=by
 obtain⟨mb,mt,vl,vb,tv,h1,h2,h3⟩:=h;exact h1.lt ((h3 b).1 hb)
theorem zH.ok (h:zH B w p F S):S.Ok:=by
 obtain⟨mb,mt,vl,vb,tv,h1,h2,h3⟩:=h;exact h2
end
section
variable {B : Nat} {w w' : World} {p mb mt : Nat} {vl vb : Value} {tv : Nat -> Value} {S : TS}
theorem TF.add {Nj:Value} {n:Nat} {N:Nat} (hf:∀b,Nj.ownBlock=some b->vl.ownBlock=some b\/N<=b):∀b,TF p mb mt Nj vb n tv b->TF p mb mt vl vb n tv b\/N<=b:=by
 intro b hb;rcases hb with h | h | h | h | h
 ·exact .inl (.inl h)
 ·exact .inl (.inr (.inl h))
 ·exact .inl (.inr (.inr (.inl h)))
 ·exact(hf b h).imp (fun h=>.inr (.inr (.inr (.inl h)))) id
 ·exact .inl (.inr (.inr (.inr (.inr h))))
theorem JU {F:Nat->Prop} (h:zH B w p F S) (hB:B<=w.heap.size) (t:Tm) (hot:Cy t) (hl:S.l.length<=1000):
  Calls Tryz.prog 82 #[.pointer (some ⟨p,0,none⟩),NJ t] w fun e w'=>e=.returned (.tuple #[.int .i64 (nU S t).1,.int .i64 (nU S t).2])/\∃F',zH B w' p F' (S.put t)/\fV F w w'/\∀b,F' b->F b\/w.heap.size<=b:=by
 obtain⟨mb,mt,vl,vb,tv,h1,h2,h3⟩:=h;have H:=ay h1;have yM:=ay h2;have Qt:=ay h3;have yJ:=ay hB;have Vo:=ay hot;have HL:=ay hl;obtain⟨PA,Pm⟩:∃x,x=nU S t:=⟨_,rfl⟩
 obtain⟨SP,hSP⟩:∃x,x=S.put t:=⟨_,rfl⟩
 rw[<-Pm,←hSP];have Nh:=ay Pm;have HSP:=ay hSP;clear h1 h2 h3 hB hot hl Pm hSP
 go_enter Tryz.func82,Tryz.ntmps82
 go_upto_region 1 with(fail);refine aJ (fun w1=>(∀i,i<3->w1.cell? ⟨w.heap.size,i,none⟩=some (.int .i64 (tf t i)))/\w.heap.size<w1.heap.size/\Below w.heap.size w w1) ⟨fun i hi=>by rcases(by omega:i=0\/i=1\/i=2) with rfl | rfl | rfl<;> exact cell_of_row _ _ _ _ _ (0,0) (heap_alloc_new w _),by rw[World.size_alloc];omega,(bT _ _).alloc (bH _) _⟩ ?_;rintro w1 ⟨hc1,hlt1,bb1⟩;have Bw:Hid (∀i,i<3->w1.cell? ⟨w.heap.size,0+i,none⟩=some (.int .i64 (tf t i))):=ay fun i hi=>by rw[qY];exact hc1 i hi
 have Vs:=ay hlt1;have B1:=ay bb1;have H1:=ay (H.out.below bb1);clear hc1 hlt1 bb1;go_wp2_with fail;refine(Ba H1.out).mono ?_;rintro e w1' ⟨rfl,rfl⟩;go_wp2_with (refine jl (y:=fun i=>.int .i64 (tf t i)) rfl rfl rfl Tryz.underlying96 rfl Tryz.sizeTm Bw.out ?_);refine(WM H1.out t).mono ?_;rintro e w2 ⟨rfl,b2⟩;have H2:=ay (H1.out.below b2);have B2:=ay (B1.out.trans (b2.mono B1.out.size));have Jq:Hid (∀i,i<3->w2.cell? ⟨w.heap.size,0+i,none⟩=some (.int .i64 (tf t i))):=ay fun i hi=>(b2.cell (p:=⟨w.heap.size,0+i,none⟩) Vs.out).trans (Bw.out i hi);have aiu:Hid (w.heap.size<w2.heap.size):=ay (qZ Vs.out b2.size);clear b2
 cases hm:nV S t with
 | false=>
  have E1:Hid (PA=(0,2)):=ay (by rw[Nh.out];unfold nU;rw[if_neg (by rw[hm];decide)]);have E2:Hid (SP=S):=ay (by rw[HSP.out];unfold TS.put;rw[if_neg (fun h=>by rw[hm] at h;cases h.1)]);clear hm;go_wp2;go_ret2;rw[E1.out,E2.out];exact⟨rfl,F,⟨mb,mt,vl,vb,tv,H2.out,yM.out,Qt.out⟩,.of_below B2.out _,fun b hb=>.inl hb⟩
 | true=>
  have c1:=H2.out.c1;by_cases hin:t ∈ S.l
  ·have E1:Hid (PA=((kQ S.l t:Int),0)):=ay (by rw[Nh.out];unfold nU;rw[if_pos hm,if_pos hin]);have E2:Hid (SP=S):=ay (by rw[HSP.out];unfold TS.put;rw[if_neg (fun h=>h.2 hin)]);have l1:∀n,(Instr.lookup 160 (.map (some mb)) (.agg (arr .i64 3 (tf t))) true).run Tryz.prog (w2.drewN n)=.ok (.tuple #[kF (kQ S.l t),.bool true]) (w2.drewN n):=fun n=>Yq.kN (H2.out.below (Go.bI.below_drewN (bT _ _) n)).am hin;obtain⟨X,hX⟩:∃X,X=kQ S.l t:=⟨_,rfl⟩
   rw[<-hX] at l1 E1;clear hm hin hX;go_upto_region 5 with(fail);refine wp_region_quiet_lit aQ aQ ?_
   repeat (first | (refine Ct rfl rfl rfl Tryz.underlying96 rfl Tryz.sizeTm Jq.out aiu.out ?_) | quiet_step (fail))
   refine wpQuiet_nil ?_;rintro _ ⟨nq,rfl⟩;go_wp2;go_ret2;rw[E1.out,E2.out];exact⟨rfl,F,⟨mb,mt,vl,vb,tv,H2.out.below (Go.bI.below_drewN (bT _ _) nq),yM.out,Qt.out⟩,.of_below (Go.bI.below_drewN B2.out nq) _,fun b hb=>.inl hb⟩
  ·have E1:Hid (PA=((S.l.length:Int),0)):=ay (by rw[Nh.out];unfold nU;rw[if_pos hm,if_neg hin]);have E2:Hid (SP=S.add t):=ay (by rw[HSP.out];unfold TS.put;rw[if_pos ⟨hm,hin⟩]);have OK2:=ay (yM.out.add hin (Ri hm));have HIN:=ay hin;have KT:Hid (t.1=1->1<=t.2.1/\t.2.1<=4):=ay fun hk=>by
    obtain⟨k,a,b⟩:=t;simp only at hk;subst hk;rw[Yh] at hm;simp only[Jg,decide_eq_true_eq] at hm;exact hm.1
   have l1:∀n,(Instr.lookup 160 (.map (some mb)) (.agg (arr .i64 3 (tf t))) true).run Tryz.prog (w2.drewN n)=.ok (.tuple #[.int .i64 0,.bool false]) (w2.drewN n):=fun n=>Yq.nJ (H2.out.below (Go.bI.below_drewN (bT _ _) n)).am H.out.okt Vo.out hin;clear hm hin;go_upto_region 5 with(fail);refine wp_region_quiet_lit aQ aQ ?_
   repeat (first | (refine Ct rfl rfl rfl Tryz.underlying96 rfl Tryz.sizeTm Jq.out aiu.out ?_) | quiet_step (fail))
   refine wpQuiet_nil ?_;rintro _ ⟨nq,rfl⟩;clear l1 c1;have B3:=ay (Go.bI.below_drewN B2.out nq);have HC3:Hid (∀i,i<3->(w2.drewN nq).cell? ⟨w.heap.size,0+i,none⟩=some (.int .i64 (tf t i))):=ay fun i hi=>((Go.bI.below_drewN (bT w2.heap.size w2) nq).cell (p:=⟨w.heap.size,0+i,none⟩) aiu.out).trans (Jq.out i hi);have H3:=ay (H2.out.below (Go.bI.below_drewN (bT _ _) nq));go_wp2_with (refine jl (y:=fun i=>.int .i64 (tf t i)) rfl rfl rfl Tryz.underlying96 rfl Tryz.sizeTm HC3.out ?_);refine(JW H3.out (iw yJ.out B3.out.size) t Vo.out HIN.out KT.out HL.out).mono ?_;rintro e w4 ⟨rfl,Nj,h4,hc4,hf4⟩;have S4:Hid (zH B w4 p (TF p mb mt Nj vb S.tx.length tv) (S.add t)):=ay ⟨mb,mt,Nj,vb,tv,h4,OK2.out,fun b=>Iff.rfl⟩;have C4:Hid (fV F w w4):=ay ((fV.of_below B3.out F).trans (hc4.mono (G:=F) fun b _ hb=>(Qt.out b).2 (by
    rcases hb with h | h | h
    ·exact .inl h
    ·exact .inr (.inl h)
    ·exact .inr (.inr (.inr (.inl h))))) fun _ _ h=>h)
   have F4:Hid (∀b,TF p mb mt Nj vb S.tx.length tv b->F b\/w.heap.size<=b):=ay fun b hb=>(TF.add (N:=w.heap.size) (fun b hb=>(hf4 b hb).imp id fun h=>iw B3.out.size h) b hb).imp (Qt.out b).2 id;clear h4 hc4 hf4;go_wp2;go_ret2;rw[E1.out,E2.out];exact⟨rfl,_,S4.out,C4.out,F4.out⟩
end
end Go.Proofs.YtpcjekgfnfjbpaaGreat
