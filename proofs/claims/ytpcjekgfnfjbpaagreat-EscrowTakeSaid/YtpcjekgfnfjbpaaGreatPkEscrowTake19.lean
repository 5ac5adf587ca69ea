/-
  Part 19 of EscrowTake. Conditions: named in each theorem.
-/
import Derived.Test.YtpcjekgfnfjbpaaGreatPkEscrowTake12
import Derived.Test.YtpcjekgfnfjbpaaGreatPkEscrowTake17
import Derived.Test.YtpcjekgfnfjbpaaGreatPkEscrowTake18
import Derived.Deep.Cut
import Derived.DeepKeys4
import Derived.Great.Walk
import Derived.MapViews
set_option linter.unusedVariables false
set_option linter.unusedSimpArgs false
set_option maxRecDepth 100000
set_option maxHeartbeats 1600000
namespace Go.aZ
open Go.RowKit
open Go.Maps (Keyed)
def tf (t:Tm) (i:Nat):Int:=if i=0 then t.1 else if i=1 then t.2.1 else t.2.2
def Zd (l:List Tm):Nat->Nat->Value:=fun j i=> match l[j]? with | some t=> .int .i64 (tf t i) | none=> undef
theorem JV {l:List Tm} {j i:Nat} {t:Tm} (h:l[j]? =some t):Zd l j i=.int .i64 (tf t i):=by unfold Zd;rw [h]
abbrev JW (t:Tm):Value:=.agg #[.int .i64 t.1,.int .i64 t.2.1,.int .i64 t.2.2]
theorem WO {t u:Tm} (h:JW t=JW u):t=u:=by
 obtain ⟨a,b,c⟩:=t;obtain ⟨d,e,f⟩:=u;simp only [JW,Value.agg.injEq,Array.mk.injEq,List.cons.injEq,Value.int.injEq,true_and,and_true] at h;obtain ⟨rfl,rfl,rfl⟩:=h
 rfl
theorem FL {e:TypeId} {l:List Tm} {t:Tm} {w:World} {v:Value} {y:Nat->Nat->Value} (h:jH e 3 w v (l.length+1) (rO l.length (Zd l) y)) (hy:∀i,y 0 i=.int .i64 (tf t i)):jH e 3 w v (l++ [t]).length (Zd (l++ [t])):=by
 rw [List.length_append,List.length_singleton];refine h.congr fun j hj i hi=> ?_;by_cases hl:j<l.length
 ·rw [yE hl];unfold Zd;rw [JI hl]
 ·obtain rfl:j=l.length:=by omega
  rw [EO,hy,JV (t:=t) (by rw [Fx (bA _),Nat.sub_self];rfl)]
def bf (b:List Int) (i:Nat):Int:=b.getD i 0
def okB (b:List Int):Prop:=∀x,x ∈ b->0<=x/\x<256
theorem okB.at {b:List Int} (h:okB b) (i:Nat) (hi:i<b.length):0<=bf b i/\bf b i<256:=by
 unfold bf;rw [NI,oG hi];exact h _ (List.getElem_mem hi)
def txV (b:List Int):Value:=.string (strOf b.length (bf b))
theorem WK {b c:List Int} (hb:okB b) (hc:okB c) (h:txV b=txV c):b=c:=by
 have h1:strOf b.length (bf b)=strOf c.length (bf c):=by injection h
 have hl:b.length=c.length:=by have:=congrArg ByteArray.size h1;simpa using this
 apply List.ext_getElem? 
 intro i;by_cases hi:i<b.length
 ·have e1:=Mx (n:=b.length) (f:=bf b) hi (hb.at i hi);have e2:=Mx (n:=c.length) (f:=bf c) (i:=i) (by omega) (hc.at i (by omega));rw [h1,e2] at e1;unfold bf at e1;rw [NI,NI,oG hi,oG (by omega)] at e1;rw [oG hi,oG (by omega)];exact congrArg some e1.symm
 ·rw [List.getElem?_eq_none (by omega),List.getElem?_eq_none (by omega)]
structure Mg (P:Program) (kT mT iT:TypeId) {K:Type} (kv:K->Value) (ok:K->Prop):Prop where
 keyed:Keyed P kT
 under:P.underlying mT=some (.map kT iT)
 int:P.underlying iT=some (.int .i64)
 zero:∀w,(zeroValue iT).run P w=.ok (.int .i64 0) w
 key:∀x,ok x->∃kl,keyOf P kT (kv x)=some kl
 inj:∀x y,ok x->ok y->kv x=kv y->x=y
section
variable {K : Type} {P : Program} {kT mT iT : TypeId} {kv : K -> Value} {ok : K -> Prop} {w w' : World} {mb : Nat} {nd : List K} {val : K -> Nat}
abbrev Az (P:Program) (kT iT:TypeId) (kv:K->Value) (val:K->Nat) (w:World) (mb:Nat) (nd:List K):Prop:=vD P kT iT w mb nd.length (fun i=> lv kv nd i 0) (fun i=> match nd[i]? with | some x=> xU (val x) | none=> undef)
theorem Mg.XT [DecidableEq K] (k:Mg P kT mT iT kv ok) (h:Az P kT iT kv val w mb nd) {x:K} (hx:x ∈ nd):(Instr.lookup mT (.map (some mb)) (kv x) true).run P w=.ok (.tuple #[xU (val x),.bool true]) w:=by
 have:=(h.Tj k.keyed k.under (k.zero w) (plainElem_int k.int (by decide)) (Ee nd x) (zy hx)).1;rw [show lv kv nd (Ee nd x) 0=kv x from Na (uD hx)] at this;simp only [uD hx] at this;exact this
theorem Mg.abl (k:Mg P kT mT iT kv ok) (h:Az P kT iT kv val w mb nd) {x:K} (hnd:∀y,y ∈ nd->ok y) (hok:ok x) (hx:x ∉ nd):(Instr.lookup mT (.map (some mb)) (kv x) true).run P w=.ok (.tuple #[.int .i64 0,.bool false]) w:=by
 obtain ⟨kl,hk⟩:=k.key x hok;refine (h.XR k.keyed k.under (k.zero w) (plainElem_int k.int (by decide)) hk fun i hi e=> hx ?_).1;rw [Na (oG hi)] at e;have:=k.inj _ _ (hnd _ (List.getElem_mem hi)) hok e;rw [<-this];exact List.getElem_mem hi
theorem Mg.put (k:Mg P kT mT iT kv ok) (h:Az P kT iT kv val w mb nd) {x:K} {n:Nat} {val':K->Nat} (hnd:∀y,y ∈ nd->ok y) (hok:ok x) (hx:x ∉ nd) (hn:nd.length<=1000000) (hv:val' x=n) (hn2:n<=1000000) (hold:∀y,y ∈ nd->val' y=val y):
  ∃w',(Instr.mapUpdate mT (.map (some mb)) (kv x) (xU n)).run P w=.ok () w'/\Az P kT iT kv val' w' mb (nd++ [x])/\w.grownBy w' (some mb):=by
 obtain ⟨kl,hk⟩:=k.key x hok;have hput:=h.put (key':=fun i=> lv kv (nd++ [x]) i 0) (val':=fun i=> match (nd++ [x])[i]? with | some x=> xU (val' x) | none=> undef) k.keyed k.under (by unfold maxLen;omega) hk (plainElem_int k.int (XH (by omega)):plainElem (H:=Unit) P iT (xU n)= _) (fun i hi e=> hx (by
  rw [Na (oG hi)] at e;have:=k.inj _ _ (hnd _ (List.getElem_mem hi)) hok e;rw [<-this];exact List.getElem_mem hi)) (fun i hi=> ⟨by
   show lv kv (nd++ [x]) i 0=lv kv nd i 0;unfold lv;rw [JI hi],by
   rw [JI hi,oG hi];simp only [hold _ (List.getElem_mem hi)]⟩) ⟨by
   show lv kv (nd++ [x]) nd.length 0=kv x;exact Na (by simp),by simp [hv]⟩
 obtain ⟨w',h1,h2,h3⟩:=hput;refine ⟨w',h1,?_,h3⟩;show vD P kT iT w' mb (nd++ [x]).length _ _;rw [List.length_append,List.length_singleton];exact h2
theorem Az.congr {val':K->Nat} (h:Az P kT iT kv val w mb nd) (hv:∀y,y ∈ nd->val' y=val y):Az P kT iT kv val' w mb nd:=
 vD.congr h fun i hi=> ⟨rfl,by rw [oG hi];simp only [hv _ (List.getElem_mem hi)]⟩
end
end Go.aZ
namespace Go.aZ
open Go.RowKit
theorem Own.Sy {k:IntKind} {e:TypeId} {base:Nat} {w:World} {v:Value} {n:Nat} {f:Nat->Int} (h:Own k e base w v n f):jH e 1 w v n (fun j _=> .int k (f j)):=by
 refine .MW (xs:=vals k n f) ?_ fun j hj i hi=> ?_
 ·obtain ⟨h1,h2⟩:=h;refine ⟨h1,h2.imp id ?_⟩;rintro ⟨g,cap,cur,r1,_,r⟩;exact ⟨g,cap,cur,r1,iY _,r⟩
 ·obtain rfl:i=0:=by omega
  rw [show j * 1+0=j by omega];exact cK hj
theorem Own.Vn {k:IntKind} {e:TypeId} {base:Nat} {w w':World} {v:Value} {n:Nat} {f:Nat->Int} {G:Nat->Prop} (h:Own k e base w v n f) (hc:gY G w w') (hn:∀b,v.ownBlock=some b->¬ G b):Own k e base w' v n f:=by
 obtain ⟨h1,h2⟩:=h;refine ⟨h1,h2.imp id ?_⟩;rintro ⟨g,cap,cur,r1,r2,r3,r⟩;exact ⟨g,cap,cur,r1,r2,(hc.block g (Array.getElem?_eq_some_iff.1 r3).1 (hn g (by rw [r1];rfl))).trans r3,r⟩
end Go.aZ
namespace Go.aZ
theorem Tf (S:TS) (a b:Int):lM S (1,a,b)=((decide (1<=a) && decide (a<=4)) && decide (0<=b)):=rfl
theorem Te (S:TS) (a b:Int):lM S (2,a,b)=(gU S.l a 0 && decide (b=0)):=rfl
theorem Td (S:TS) (a b:Int):lM S (3,a,b)=(gU S.l a 0 && decide (b=0)):=rfl
theorem SY (S:TS) (a b:Int):lM S (6,a,b)=(gU S.l a 0 && decide (b=0)):=rfl
theorem SX (S:TS) (a b:Int):lM S (7,a,b)=(gU S.l a 0 && decide (b=0)):=rfl
theorem Tc (S:TS) (a b:Int):lM S (4,a,b)=(gU S.l a 2 && gU S.l b 0):=rfl
theorem Ta (S:TS) (a b:Int):lM S (5,a,b)=(gU S.l a 0 && gU S.l b 0):=rfl
theorem abk (S:TS) (a b:Int):lM S (8,a,b)=(gU S.l a 0 && gU S.l b 9):=rfl
theorem abj (S:TS) (a b:Int):lM S (9,a,b)=((decide (0<=a) && decide (a<S.tx.length)) && decide (b=0)):=rfl
theorem XO (S:TS) (a b:Int):lM S (10,a,b)=(gU S.l a 9 && decide (b=0)):=rfl
theorem XM (S:TS) (k a b:Int) (h:k≠1/\k≠2/\k≠3/\k≠4/\k≠5/\k≠6/\k≠7/\k≠8/\k≠9/\k≠10):lM S (k,a,b)=false:=by
 obtain ⟨h1,h2,h3,h4,h5,h6,h7,h8,h9,h10⟩:=h;simp [lM,h1,h2,h3,h4,h5,h6,h7,h8,h9,h10]
end Go.aZ
namespace Go.Proofs.YtpcjekgfnfjbpaaGreat
open Go.RowKit Go.aZ Go.ChangeShapes Go.Maps
theorem Tryz.infoTm:(Tryz.prog.info? 96).map (fun i=> (i.zero,i.size,i.bytes))=some (some (.agg #[.int .i64 0,.int .i64 0,.int .i64 0]),3,24):=by kernel_rfl
theorem Tryz.sizeTm:(Tryz.prog.info? 96).map (·.size)=some 3:=by kernel_rfl
theorem Tryz.infoBs:(Tryz.prog.info? 23).map (fun i=> (i.zero,i.size,i.bytes))=some (some (.slice none 0 0),1,24):=by kernel_rfl
theorem Tryz.rowTm:(96:TypeId)<Tryz.prog.types.size:=of_decide_eq_true (by kernel_rfl)
theorem Tryz.wideTm:(match Tryz.prog.underlying 96 with | some (.array _ _) | some (.struct _)=> true | _=> false)=true:=by rw [Tryz.underlying96]
theorem Tryz.deepTm:Tryz.prog.keyTypeAt (Tryz.prog.types.size+1) 96=true:=by kernel_rfl
theorem Tryz.laidTm:laidOutB Tryz.prog=true:=by kernel_rfl
theorem Tryz.lawTm:WideMaps.KeyLaw Tryz.prog 96:=deep_law_laid Tryz.laidTm (m:=2) (by omega) Tryz.rowTm (by kernel_rfl) Tryz.wideTm
theorem Tryz.cellsTm:Tryz.prog.cellsOf 96=3:=by kernel_rfl
theorem Tryz.cellsI:Tryz.prog.cellsOf 3=1:=by kernel_rfl
theorem wfI {x:Int} (h:MV x):(Lit.int .i64 x).wf=true:=by
 have h1:=h.1;have h2:=h.2;simp [Lit.wf,IntKind.min,IntKind.max,IntKind.signed,IntKind.bits];omega
theorem abp (t:Tm) (h:zB t):∃kl,keyOf Tryz.prog 96 (JW t)=some kl:=by
 have ht:DataW.Trod (H:=Unit) (fun _=> ()) Tryz.prog (default:World) 0 (fun _=> true) true 96 (JW t) _ _:=⟨_,Go.Deep.trod_struct3_mk (enc:=fun _=> ()) (w:=(default:World)) (base:=0) (spare:=fun _=> true) (held:=true) (n:=1) (cs:= [.int .i64 t.1,.int .i64 t.2.1,.int .i64 t.2.2]) Tryz.underlying96 (by rw [Tryz.cellsTm];rfl)
  (by rw [Tryz.cellsI];exact trod_int_mk 0 Tryz.underlying3 (wfI h.1)) (by rw [Tryz.cellsI];exact trod_int_mk 0 Tryz.underlying3 (wfI h.2.1)) (by rw [Tryz.cellsI];exact trod_int_mk 0 Tryz.underlying3 (wfI h.2.2))⟩
 exact ⟨_,(keyOf_asKey Tryz.deepTm Tryz.wideTm (by simp [Value.formed,Tryz.underlying96,Tryz.cellsTm]) ht).1⟩
end Go.Proofs.YtpcjekgfnfjbpaaGreat
namespace Go.Proofs.YtpcjekgfnfjbpaaGreat
open Go.RowKit Go.aZ Go.ChangeShapes Go.Maps
attribute [local go_sem ↓] Go.wp_at_zero Go.wp_at_succ
theorem aag (w:World):(zeroValue 3).run Tryz.prog w=.ok (.int .i64 0) w:=by
 obtain ⟨x,h1,h2⟩:=Option.map_eq_some_iff.1 Tryz.info3;simp only [Prod.mk.injEq] at h2;simp [zeroValue,typeInfo,h1,h2.1]
theorem Tv:Mg Tryz.prog 96 160 3 JW zB:=
 ⟨Keyed.of_law Tryz.lawTm,Tryz.underlying160,Tryz.underlying3,aag,abp,fun x y _ _ h=> WO h⟩
def okX (b:List Int):Prop:=okB b/\b.length<=1048576
def txN (S:TS) (b:List Int):Nat:=Ee S.l (9,(Ee S.tx b:Int),0)
structure Tsp (B:Nat) (w:World) (p mb mt:Nat) (vl vb:Value) (tv:Nat->Value) (l la:List Tm) (tx lx:List (List Int)) (xv:List Int->Nat) (nf:Nat->Int):Prop where
 row:kL w p 164 9
 c0:w.cell? ⟨p,0,none⟩=some vl
 c1:w.cell? ⟨p,1,none⟩=some (.map (some mb))
 c2:w.cell? ⟨p,2,none⟩=some (.map (some mt))
 c3:w.cell? ⟨p,3,none⟩=some vb
 nx:∀k:Nat,k<5->w.cell? ⟨p,4+k,none⟩=some (.int .i64 (nf k))
 ls:jH 96 3 w vl l.length (Zd l)
 am:Az Tryz.prog 96 3 JW (Ee la) w mb la
 xm:Az Tryz.prog 9 3 txV xv w mt lx
 bs:jH 23 1 w vb tx.length (fun j _=> tv j)
 bt:∀j b,tx[j]? =some b->Own .u8 5 B w (tv j) b.length (bf b)
 ne:mb≠mt
 hp:B<=p
 hb:B<=mb
 hm:B<=mt
 hl:∀b,vl.ownBlock=some b->B<=b
 hv:∀b,vb.ownBlock=some b->B<=b
structure Dc (B:Nat) (w:World) (p mb mt:Nat) (vl vb:Value) (tv:Nat->Value) (S:TS):Prop extends Tsp B w p mb mt vl vb tv S.l S.l S.tx S.tx (txN S) (fun k=> wY S.l k) where
 nd:S.l.Nodup
 txn:S.tx.Nodup
 all:∀j,j<S.tx.length->((9,(j:Int),0):Tm) ∈ S.l
 okt:∀t,t ∈ S.l->zB t
 okx:∀b,b ∈ S.tx->okX b
def TF (p mb mt:Nat) (vl vb:Value) (n:Nat) (tv:Nat->Value) (b:Nat):Prop:=b=p\/b=mb\/b=mt\/vl.ownBlock=some b\/vb.ownBlock=some b\/∃j,j<n/\(tv j).ownBlock=some b
section
variable {B : Nat} {w w' : World} {p mb mt : Nat} {vl vb : Value} {tv : Nat -> Value} {l la : List Tm} {tx lx : List (List Int)} {xv : List Int -> Nat} {nf : Nat -> Int}
theorem Tsp.keep {G:Nat->Prop} (h:Tsp B w p mb mt vl vb tv l la tx lx xv nf) (hc:gY G w w') (hF:∀b,TF p mb mt vl vb tx.length tv b->¬ G b):Tsp B w' p mb mt vl vb tv l la tx lx xv nf:=by
 have hp:=hF p (.inl rfl);have hl:=h.row.lt
 refine ⟨h.row.heap (hc.block p hl hp),(hc.cell (p:=⟨p,0,none⟩) hl hp).trans h.c0,(hc.cell (p:=⟨p,1,none⟩) hl hp).trans h.c1,(hc.cell (p:=⟨p,2,none⟩) hl hp).trans h.c2,(hc.cell (p:=⟨p,3,none⟩) hl hp).trans h.c3,
  fun k hk=> (hc.cell (p:=⟨p,4+k,none⟩) hl hp).trans (h.nx k hk),h.ls.kV hc fun b hb=> hF b (.inr (.inr (.inr (.inl hb)))),h.am.heap (hc.block mb h.am.lt (hF mb (.inr (.inl rfl)))),h.xm.heap (hc.block mt h.xm.lt (hF mt (.inr (.inr (.inl rfl))))),
  h.bs.kV hc fun b hb=> hF b (.inr (.inr (.inr (.inr (.inl hb))))),fun j b hb=> (h.bt j b hb).Vn hc fun c hcc=> hF c (.inr (.inr (.inr (.inr (.inr ⟨j,(List.getElem?_eq_some_iff.1 hb).1,hcc⟩))))),h.ne,h.hp,h.hb,h.hm,h.hl,h.hv⟩
theorem Tsp.below (h:Tsp B w p mb mt vl vb tv l la tx lx xv nf) (hb:Below w.heap.size w w'):Tsp B w' p mb mt vl vb tv l la tx lx xv nf:=h.keep (.of_below hb fun _=> False) fun _ _=> id
theorem Tsp.lt (h:Tsp B w p mb mt vl vb tv l la tx lx xv nf) {b:Nat} (hb:TF p mb mt vl vb tx.length tv b):b<w.heap.size:=by
 rcases hb with rfl | rfl | rfl | hb | hb | ⟨j,hj,hb⟩
 ·exact h.row.lt
 ·exact h.am.lt
 ·exact h.xm.lt
 ·exact h.ls.lt b hb
 ·exact h.bs.lt b hb
 ·exact (h.bt j _ (oG hj)).Sy.lt b hb
theorem Tsp.hi (h:Tsp B w p mb mt vl vb tv l la tx lx xv nf) {b:Nat} (hb:TF p mb mt vl vb tx.length tv b):B<=b:=by
 rcases hb with rfl | rfl | rfl | hb | hb | ⟨j,hj,hb⟩
 ·exact h.hp
 ·exact h.hb
 ·exact h.hm
 ·exact h.hl b hb
 ·exact h.hv b hb
 ·exact (h.bt j _ (oG hj)).block b hb
theorem Tsp.cellP (h:Tsp B w p mb mt vl vb tv l la tx lx xv nf) (o:Nat) (v:Value):(∀i,i≠o->(w.setCell ⟨p,o,none⟩ v).cell? ⟨p,i,none⟩=w.cell? ⟨p,i,none⟩)/\(o<9->(w.setCell ⟨p,o,none⟩ v).cell? ⟨p,o,none⟩=some v)/\kL (w.setCell ⟨p,o,none⟩ v) p 164 9/\
  jH 96 3 (w.setCell ⟨p,o,none⟩ v) vl l.length (Zd l)/\Az Tryz.prog 96 3 JW (Ee la) (w.setCell ⟨p,o,none⟩ v) mb la/\Az Tryz.prog 9 3 txV xv (w.setCell ⟨p,o,none⟩ v) mt lx/\
  jH 23 1 (w.setCell ⟨p,o,none⟩ v) vb tx.length (fun j _=> tv j)/\∀j b,tx[j]? =some b->Own .u8 5 B (w.setCell ⟨p,o,none⟩ v) (tv j) b.length (bf b):=by
 have hc:gY (fun b=> b=p) w (w.setCell ⟨p,o,none⟩ v):=.set _ _ ⟨p,o,none⟩ _ rfl
 refine ⟨fun i hi=> World.cell?_setCell_other _ _ _ _ (fun e=> hi (by cases e;rfl)),fun ho=> ?_,h.row.setCell _ rfl _,h.ls.kV hc fun b hb e=> h.ls.oV h.row (by decide) (e▸hb),h.am.heap (hc.block mb h.am.lt fun e=> h.am.Cq (e▸h.row)),h.xm.heap (hc.block mt h.xm.lt fun e=> h.xm.Cq (e▸h.row)),
  h.bs.kV hc fun b hb e=> h.bs.oV h.row (by decide) (e▸hb),fun j b hb=> (h.bt j b hb).Vn hc fun c hcc e=> (h.bt j b hb).Sy.oV h.row (by decide) (e▸hcc)⟩
 obtain ⟨x,hx⟩:=Option.isSome_iff_exists.1 (h.row.PV o ho);exact World.cell?_setCell_same _ _ _ hx
end
section
variable {B : Nat} {w w' : World} {p mb mt : Nat} {vl vb : Value} {tv : Nat -> Value} {S : TS}
theorem Dc.keep {G:Nat->Prop} (h:Dc B w p mb mt vl vb tv S) (hc:gY G w w') (hF:∀b,TF p mb mt vl vb S.tx.length tv b->¬ G b):Dc B w' p mb mt vl vb tv S:=⟨h.toTsp.keep hc hF,h.nd,h.txn,h.all,h.okt,h.okx⟩
theorem Dc.below (h:Dc B w p mb mt vl vb tv S) (hb:Below w.heap.size w w'):Dc B w' p mb mt vl vb tv S:=⟨h.toTsp.below hb,h.nd,h.txn,h.all,h.okt,h.okx⟩
theorem Dc.lt (h:Dc B w p mb mt vl vb tv S) {b:Nat} (hb:TF p mb mt vl vb S.tx.length tv b):b<w.heap.size:=h.toTsp.lt hb
theorem Dc.hi (h:Dc B w p mb mt vl vb tv S) {b:Nat} (hb:TF p mb mt vl vb S.tx.length tv b):B<=b:=h.toTsp.hi hb
theorem yj (h:Dc B w p mb mt vl vb tv S):Calls Tryz.prog 116 #[.pointer (some ⟨p,0,none⟩)] w fun e w'=> e=.returned (.bool true)/\w'=w:=by
 have c1:=h.c1;have hq:=fun w=> run_neq_map_nil (P:=Tryz.prog) w 160 96 3 (some mb) Tryz.underlying160;clear h
 go_enter Tryz.func116,Tryz.ntmps116
 go_wp2;go_ret;exact ⟨rfl,rfl⟩
theorem Rp (h:Dc B w p mb mt vl vb tv S):Calls Tryz.prog 115 #[.pointer (some ⟨p,0,none⟩)] w fun e w'=> e=.returned (xU S.l.length)/\w'=w:=by
 have HI:=ak (yj h);have c0:=h.c0;obtain ⟨al,cl,rfl,_⟩:=h.ls.slice;clear h
 go_enter Tryz.func115,Tryz.ntmps115
 go_wp2_with fail;refine HI.out.mono ?_;rintro e w' ⟨rfl,rfl⟩;go_wp2;go_ret;exact ⟨rfl,rfl⟩
theorem BU (n:Int) (w:World):Calls Tryz.prog 137 #[.int .i64 n] w fun e w'=> e=.returned (.bool (isSort n))/\w'=w:=by
 obtain ⟨R,hR⟩:∃R,R=isSort n:=⟨_,rfl⟩
 have HR:=ak hR;rw [<-hR];clear hR;by_cases h1:1<=n
 ·by_cases h2:n<=4
  ·go_enter Tryz.func137,Tryz.ntmps137
   go_wp2;go_ret;exact ⟨by rw [HR.out];simp [isSort,h1,h2],rfl⟩
  ·go_enter Tryz.func137,Tryz.ntmps137
   go_wp2;go_ret;exact ⟨by rw [HR.out];simp [isSort,h1,h2],rfl⟩
 ·go_enter Tryz.func137,Tryz.ntmps137
  go_wp2;go_ret;exact ⟨by rw [HR.out];unfold isSort;rw [decide_eq_false (by omega)];rfl,rfl⟩
theorem iy (h:Dc B w p mb mt vl vb tv S) (n k:Int):Calls Tryz.prog 117 #[.pointer (some ⟨p,0,none⟩),.int .i64 n,.int .i64 k] w fun e w'=> e=.returned (.bool (gU S.l n k))/\w'=w:=by
 obtain ⟨R,hR⟩:∃R,R=gU S.l n k:=⟨_,rfl⟩
 have HR:=ak hR;rw [<-hR];have c0:=h.c0;obtain ⟨al,cl,el,_⟩:=h.ls.slice;by_cases h1:0<=n
 ·obtain ⟨a,rfl⟩:=Db h1;by_cases h2:a<S.l.length
  ·obtain ⟨g,cap,ev,_,_,_,hc⟩:=h.ls.form (by omega);obtain ⟨t,ht⟩:∃t,S.l[a]? =some t:=⟨_,oG h2⟩
   have z0:=hc a h2 0 (by decide);rw [JV ht,Nat.add_zero,show tf t 0=t.1 from rfl] at z0;rw [ev] at c0;have h9:(a:Int)<(S.l.length:Int):=by omega
   have HK:Hid (Es S.l a k=decide (t.1=k)):=ak (by unfold Es;rw [Jt,ht]);have HRR:Hid (R=(decide (k=0) || decide (t.1=k))):=ak (by rw [hR];unfold gU;rw [HK.out,decide_eq_true h1,decide_eq_true h9];rfl);by_cases hk:k=0
   ·have hkb:(k==0)=true:=by simpa using hk
    have HF:Hid (R=true):=ak (by rw [HRR.out,decide_eq_true hk];rfl);clear h hR hc ht el ev hk h1 h2
    go_enter Tryz.func117,Tryz.ntmps117
    go_wp2;go_ret;rw [HF.out];exact ⟨rfl,rfl⟩
   ·have hkb:(k==0)=false:=by simpa using hk
    have HF:Hid (R=(t.1==k)):=ak (by rw [HRR.out,decide_eq_false hk,Bool.false_or];rfl);clear h hR hc ht el ev hk h1 h2
    go_enter Tryz.func117,Tryz.ntmps117
    go_wp2;go_ret;rw [HF.out];exact ⟨rfl,rfl⟩
  ·have h9:¬ (a:Int)<(S.l.length:Int):=by omega
   have HF:Hid (R=false):=ak (by rw [hR];unfold gU;rw [decide_eq_false h9,Bool.and_false,Bool.false_and]);rw [el] at c0;clear h hR el h2
   go_enter Tryz.func117,Tryz.ntmps117
   go_wp2;go_ret;rw [HF.out];exact ⟨rfl,rfl⟩
 ·have HF:Hid (R=false):=ak (by rw [hR];unfold gU;rw [decide_eq_false h1,Bool.false_and,Bool.false_and]);clear h hR el
  go_enter Tryz.func117,Tryz.ntmps117
  go_wp2;go_ret;rw [HF.out];exact ⟨rfl,rfl⟩
end
section
variable {B : Nat} {w w' : World} {p mb mt : Nat} {vl vb : Value} {tv : Nat -> Value} {S : TS}
theorem Ro (h:Dc B w p mb mt vl vb tv S) (t:Tm):Calls Tryz.prog 140 #[.pointer (some ⟨p,0,none⟩),JW t] w fun e w'=> e=.returned (.bool (lM S t))/\Below w.heap.size w w':=by
 obtain ⟨R,hR⟩:∃R,R=lM S t:=⟨_,rfl⟩
 obtain ⟨k,a,b⟩:=t;have HR:=ak hR;rw [<-hR];have H:=ak h;clear h hR
 go_enter Tryz.func140,Tryz.ntmps140
 go_upto_region 1 with (fail);refine aD (fun w1=> (w1.cell? ⟨w.heap.size,0,none⟩=some (.int .i64 k)/\w1.cell? ⟨w.heap.size,1,none⟩=some (.int .i64 a)/\w1.cell? ⟨w.heap.size,2,none⟩=some (.int .i64 b))/\Below w.heap.size w w1) ⟨⟨cell_of_row _ _ 0 _ _ (0,0) (heap_alloc_new w _),cell_of_row _ _ 1 _ _ (0,0) (heap_alloc_new w _),cell_of_row _ _ 2 _ _ (0,0) (heap_alloc_new w _)⟩,(bN _ _).alloc (bA _) _⟩ ?_;rintro w1 ⟨⟨e0,e1,e2⟩,bb1⟩;have B1:=ak bb1;have H1:=ak (H.out.below bb1);clear bb1;by_cases k1:k=1
 ·subst k1;rw [Tf] at HR;go_wp2_with fail;refine (BU a _).mono ?_;rintro e w' ⟨rfl,rfl⟩;unfold isSort
  cases hs:decide (1<=a) && decide (a<=4) with
  | false=>
   have HF:Hid (R=false):=ak (by rw [HR.out,hs];rfl);clear hs;go_wp2;go_ret;rw [HF.out];exact ⟨rfl,B1.out⟩
  | true=>
   have HF:Hid (R=decide (0<=b)):=ak (by rw [HR.out,hs];rfl);clear hs;go_wp2;go_ret;rw [HF.out];exact ⟨rfl,B1.out⟩
 by_cases k9:k=9
 ·subst k9;rw [abj] at HR;have c3:=H1.out.c3;obtain ⟨ab,cb,rfl,_⟩:=H1.out.bs.slice;by_cases h1:0<=a
  ·by_cases h2:a<(S.tx.length:Int)
   ·have HF:Hid (R=(b==0)):=ak (by rw [HR.out,decide_eq_true h1,decide_eq_true h2];rfl);go_wp2
    go_quiet (fail)
    go_wp2;go_ret;rw [HF.out];exact ⟨rfl,Go.aZ.below_drewN B1.out _⟩
   ·have HF:Hid (R=false):=ak (by rw [HR.out,decide_eq_false h2,Bool.and_false,Bool.false_and]);have hd1:decide (0<=a)=true:=decide_eq_true h1;have hd2:decide (a<(S.tx.length:Int))=false:=decide_eq_false h2;clear h1 h2;go_wp2
    go_quiet (fail)
    go_wp2;go_ret;rw [HF.out];exact ⟨rfl,Go.aZ.below_drewN B1.out _⟩
  ·have HF:Hid (R=false):=ak (by rw [HR.out,decide_eq_false h1,Bool.false_and,Bool.false_and]);have hd1:decide (0<=a)=false:=decide_eq_false h1;clear h1;go_wp2
   go_quiet (fail)
   go_wp2;go_ret;rw [HF.out];exact ⟨rfl,Go.aZ.below_drewN B1.out _⟩
 by_cases k2:k=2
 ·subst k2;rw [Te] at HR;go_wp2_with fail;refine (iy H1.out a 0).mono ?_;rintro e w' ⟨rfl,rfl⟩
  cases hs:gU S.l a 0 with
  | false=>
   have HF:Hid (R=false):=ak (by rw [HR.out,hs];rfl);clear hs;go_wp2;go_ret;rw [HF.out];exact ⟨rfl,B1.out⟩
  | true=>
   have HF:Hid (R=(b==0)):=ak (by rw [HR.out,hs];rfl);clear hs;go_wp2;go_ret;rw [HF.out];exact ⟨rfl,B1.out⟩
 by_cases k3:k=3
 ·subst k3;rw [Td] at HR;go_wp2_with fail;refine (iy H1.out a 0).mono ?_;rintro e w' ⟨rfl,rfl⟩
  cases hs:gU S.l a 0 with
  | false=>
   have HF:Hid (R=false):=ak (by rw [HR.out,hs];rfl);clear hs;go_wp2;go_ret;rw [HF.out];exact ⟨rfl,B1.out⟩
  | true=>
   have HF:Hid (R=(b==0)):=ak (by rw [HR.out,hs];rfl);clear hs;go_wp2;go_ret;rw [HF.out];exact ⟨rfl,B1.out⟩
 by_cases k6:k=6
 ·subst k6;rw [SY] at HR;go_wp2_with fail;refine (iy H1.out a 0).mono ?_;rintro e w' ⟨rfl,rfl⟩
  cases hs:gU S.l a 0 with
  | false=>
   have HF:Hid (R=false):=ak (by rw [HR.out,hs];rfl);clear hs;go_wp2;go_ret;rw [HF.out];exact ⟨rfl,B1.out⟩
  | true=>
   have HF:Hid (R=(b==0)):=ak (by rw [HR.out,hs];rfl);clear hs;go_wp2;go_ret;rw [HF.out];exact ⟨rfl,B1.out⟩
 by_cases k7:k=7
 ·subst k7;rw [SX] at HR;go_wp2_with fail;refine (iy H1.out a 0).mono ?_;rintro e w' ⟨rfl,rfl⟩
  cases hs:gU S.l a 0 with
  | false=>
   have HF:Hid (R=false):=ak (by rw [HR.out,hs];rfl);clear hs;go_wp2;go_ret;rw [HF.out];exact ⟨rfl,B1.out⟩
  | true=>
   have HF:Hid (R=(b==0)):=ak (by rw [HR.out,hs];rfl);clear hs;go_wp2;go_ret;rw [HF.out];exact ⟨rfl,B1.out⟩
 by_cases k4:k=4
 ·subst k4;rw [Tc] at HR;go_wp2_with fail;refine (iy H1.out a 2).mono ?_;rintro e w' ⟨rfl,rfl⟩
  cases hs:gU S.l a 2 with
  | false=>
   have HF:Hid (R=false):=ak (by rw [HR.out,hs];rfl);clear hs;go_wp2;go_ret;rw [HF.out];exact ⟨rfl,B1.out⟩
  | true=>
   have HF:Hid (R=gU S.l b 0):=ak (by rw [HR.out,hs];rfl);clear hs;go_wp2_with fail;refine (iy H1.out b 0).mono ?_;rintro e w' ⟨rfl,rfl⟩;go_wp2;go_ret;rw [HF.out];exact ⟨rfl,B1.out⟩
 by_cases k5:k=5
 ·subst k5;rw [Ta] at HR;go_wp2_with fail;refine (iy H1.out a 0).mono ?_;rintro e w' ⟨rfl,rfl⟩
  cases hs:gU S.l a 0 with
  | false=>
   have HF:Hid (R=false):=ak (by rw [HR.out,hs];rfl);clear hs;go_wp2;go_ret;rw [HF.out];exact ⟨rfl,B1.out⟩
  | true=>
   have HF:Hid (R=gU S.l b 0):=ak (by rw [HR.out,hs];rfl);clear hs;go_wp2_with fail;refine (iy H1.out b 0).mono ?_;rintro e w' ⟨rfl,rfl⟩;go_wp2;go_ret;rw [HF.out];exact ⟨rfl,B1.out⟩
 by_cases k8:k=8
 ·subst k8;rw [abk] at HR;go_wp2_with fail;refine (iy H1.out a 0).mono ?_;rintro e w' ⟨rfl,rfl⟩
  cases hs:gU S.l a 0 with
  | false=>
   have HF:Hid (R=false):=ak (by rw [HR.out,hs];rfl);clear hs;go_wp2;go_ret;rw [HF.out];exact ⟨rfl,B1.out⟩
  | true=>
   have HF:Hid (R=gU S.l b 9):=ak (by rw [HR.out,hs];rfl);clear hs;go_wp2_with fail;refine (iy H1.out b 9).mono ?_;rintro e w' ⟨rfl,rfl⟩;go_wp2;go_ret;rw [HF.out];exact ⟨rfl,B1.out⟩
 by_cases k10:k=10
 ·subst k10;rw [XO] at HR;go_wp2_with fail;refine (iy H1.out a 9).mono ?_;rintro e w' ⟨rfl,rfl⟩
  cases hs:gU S.l a 9 with
  | false=>
   have HF:Hid (R=false):=ak (by rw [HR.out,hs];rfl);clear hs;go_wp2;go_ret;rw [HF.out];exact ⟨rfl,B1.out⟩
  | true=>
   have HF:Hid (R=(b==0)):=ak (by rw [HR.out,hs];rfl);clear hs;go_wp2;go_ret;rw [HF.out];exact ⟨rfl,B1.out⟩
 have HF:Hid (R=false):=ak (HR.out.trans (XM S k a b ⟨k1,k2,k3,k4,k5,k6,k7,k8,k9,k10⟩));have b1:(k==1)=false:=by simpa using k1
 have b2:(k==2)=false:=by simpa using k2
 have b3:(k==3)=false:=by simpa using k3
 have b4:(k==4)=false:=by simpa using k4
 have b5:(k==5)=false:=by simpa using k5
 have b6:(k==6)=false:=by simpa using k6
 have b7:(k==7)=false:=by simpa using k7
 have b8:(k==8)=false:=by simpa using k8
 have b9:(k==9)=false:=by simpa using k9
 have b10:(k==10)=false:=by simpa using k10
 clear k1 k2 k3 k4 k5 k6 k7 k8 k9 k10;go_wp2;go_ret;rw [HF.out];exact ⟨rfl,B1.out⟩
end
end Go.Proofs.YtpcjekgfnfjbpaaGreat
namespace Go.Proofs.YtpcjekgfnfjbpaaGreat
open Go.RowKit Go.aZ Go.ChangeShapes Go.Maps
section
variable {B : Nat} {w w1 w' : World} {p mb mt : Nat} {vl vb : Value} {tv : Nat -> Value} {l la : List Tm} {tx lx : List (List Int)} {xv : List Int -> Nat} {nf : Nat -> Int}
theorem Tsp.aeL {o:Obj} {v':Value} {y:Nat->Nat->Value} {t:Tm} (h:Tsp B w p mb mt vl vb tv l la tx lx xv nf) (hB:B<=w.heap.size) (ho:jH 96 3 w1 v' (l.length+1) (rO l.length (Zd l) y)) (hy:∀i,y 0 i=.int .i64 (tf t i)) (hg:(w.alloc o).grownBy w1 vl.ownBlock) (hp:Placed w vl v'):
  (w1.cell? ⟨p,0,none⟩=some vl/\w1.frozen? ⟨p,0,none⟩=false)/\Tsp B (w1.setCell ⟨p,0,none⟩ v') p mb mt v' vb tv (l++ [t]) la tx lx xv nf/\gY (fun b=> b=p\/vl.ownBlock=some b) w (w1.setCell ⟨p,0,none⟩ v')/\∀b,v'.ownBlock=some b->vl.ownBlock=some b\/w.heap.size<=b:=by
 have C1:gY (fun b=> vl.ownBlock=some b) w w1:=gY.SE hg;have hpl:vl.ownBlock≠some p:=fun e=> h.ls.oV h.row (by decide) e;have Kn:=h.row.heap (C1.block p h.row.lt hpl);have Le:∀b,v'.ownBlock=some b->vl.ownBlock=some b\/w.heap.size<=b:=fun b hb=> by
  rcases hp with hp | hp
  ·exact .inl (hp▸hb)
  ·exact .inr (hp b hb)
 have T1:Tsp B w1 p mb mt v' vb tv (l++ [t]) la tx lx xv nf\/True:=.inr trivial;have c:=fun (i:Nat)=> C1.cell (p:=⟨p,i,none⟩) h.row.lt hpl;have am1:=h.am.heap (C1.block mb h.am.lt fun e=> h.ls.Hr h.am e);have xm1:=h.xm.heap (C1.block mt h.xm.lt fun e=> h.ls.Hr h.xm e);have bs1:=h.bs.kV C1 fun b hb e=> h.bs.VL h.ls (by decide) hb e;have bt1:∀j b,tx[j]? =some b->Own .u8 5 B w1 (tv j) b.length (bf b):=fun j b hb=> (h.bt j b hb).Vn C1 fun c hcc e=> (h.bt j b hb).Sy.VL h.ls (by decide) hcc e;have C2:gY (fun b=> b=p) w1 (w1.setCell ⟨p,0,none⟩ v'):=.set _ _ ⟨p,0,none⟩ _ rfl;have s1:=C1.size;have cc:=fun (i:Nat) (hi:i≠0)=> (World.cell?_setCell_other w1 _ _ v' (fun e:(⟨p,0,none⟩:Addr)=⟨p,i,none⟩=> hi (by cases e;rfl))).trans (c i);have e0:(w1.setCell ⟨p,0,none⟩ v').cell? ⟨p,0,none⟩=some v':=World.cell?_setCell_same _ _ _ ((c 0).trans h.c0)
 refine ⟨⟨(c 0).trans h.c0,Kn.free 0⟩,⟨Kn.setCell _ rfl _,e0,(cc 1 (by decide)).trans h.c1,(cc 2 (by decide)).trans h.c2,(cc 3 (by decide)).trans h.c3,fun k hk=> (cc (4+k) (by omega)).trans (h.nx k hk),
  (FL ho hy).kV C2 fun b hb e=> (FL ho hy).oV Kn (by decide) (e▸hb),am1.heap (C2.block mb am1.lt fun e=> am1.Cq (e▸Kn)),xm1.heap (C2.block mt xm1.lt fun e=> xm1.Cq (e▸Kn)),
  bs1.kV C2 fun b hb e=> bs1.oV Kn (by decide) (e▸hb),fun j b hb=> (bt1 j b hb).Vn C2 fun c hcc e=> (bt1 j b hb).Sy.oV Kn (by decide) (e▸hcc),h.ne,h.hp,h.hb,h.hm,fun b hb=> (Le b hb).elim (h.hl b) (fun h'=> gQ hB h'),h.hv⟩,
  (C1.mono fun _ _ h=> .inr h).trans (C2.mono fun _ _ h=> .inl h) fun _ _ h=> h,Le⟩
theorem Tsp.mW {t:Tm} (h:Tsp B w p mb mt vl vb tv l la tx lx xv nf) (hla:∀t,t ∈ la->zB t) (hok:zB t) (hn:t ∉ la) (hnd:la.Nodup) (hl:la.length<=1000000):
  ∃w',(Instr.mapUpdate 160 (.map (some mb)) (JW t) (xU la.length)).run Tryz.prog w=.ok () w'/\Tsp B w' p mb mt vl vb tv l (la++ [t]) tx lx xv nf/\gY (fun b=> b=mb) w w':=by
 obtain ⟨w',h1,h2,h3⟩:=Tv.put (val':=Ee (la++ [t])) h.am hla hok hn hl (Ec (j:=la.length) (mG hnd hn) (by rw [Fx (bA _),Nat.sub_self];rfl)) (by omega) fun y hy=> by
  exact zx (mG hnd hn) (List.prefix_append _ _) hy
 have C:gY (fun b=> b=mb) w w':=gY.Hf h3 fun b hb=> by cases hb;rfl
 have hpm:p≠mb:=fun e=> h.am.Cq (e▸h.row);have c:=fun (i:Nat)=> C.cell (p:=⟨p,i,none⟩) h.row.lt hpm
 exact ⟨w',h1,⟨h.row.heap (C.block p h.row.lt hpm),(c 0).trans h.c0,(c 1).trans h.c1,(c 2).trans h.c2,(c 3).trans h.c3,fun k hk=> (c (4+k)).trans (h.nx k hk),h.ls.kV C fun b hb e=> h.ls.Hr h.am (e▸hb),h2,h.xm.heap (C.block mt h.xm.lt fun e=> h.ne e.symm),
  h.bs.kV C fun b hb e=> h.bs.Hr h.am (e▸hb),fun j b hb=> (h.bt j b hb).Vn C fun c hcc e=> (h.bt j b hb).Sy.Hr h.am (e▸hcc),h.ne,h.hp,h.hb,h.hm,h.hl,h.hv⟩,C⟩
theorem Tsp.aiF (h:Tsp B w p mb mt vl vb tv l la tx lx xv nf) (k:Nat) (hk:k<5) (x:Int) {nf':Nat->Int} (hf:∀j,j<5->nf' j=if j=k then x else nf j):
  Tsp B (w.setCell ⟨p,4+k,none⟩ (.int .i64 x)) p mb mt vl vb tv l la tx lx xv nf'/\gY (fun b=> b=p) w (w.setCell ⟨p,4+k,none⟩ (.int .i64 x)):=by
 obtain ⟨h1,h2,h3,h4,h5,h6,h7,h8⟩:=h.cellP (4+k) (.int .i64 x);refine ⟨⟨h3,(h1 0 (by omega)).trans h.c0,(h1 1 (by omega)).trans h.c1,(h1 2 (by omega)).trans h.c2,(h1 3 (by omega)).trans h.c3,fun j hj=> ?_,h4,h5,h6,h7,h8,h.ne,h.hp,h.hb,h.hm,h.hl,h.hv⟩,.set _ _ ⟨p,4+k,none⟩ _ rfl⟩;rw [hf j hj];by_cases e:j=k
 ·subst e;rw [if_pos rfl];exact h2 (by omega)
 ·rw [if_neg e];exact (h1 (4+j) (by omega)).trans (h.nx j hj)
end
end Go.Proofs.YtpcjekgfnfjbpaaGreat
namespace Go.Proofs.YtpcjekgfnfjbpaaGreat
open Go.RowKit Go.aZ Go.ChangeShapes Go.Maps
attribute [local go_sem ↓] Go.wp_at_zero Go.wp_at_succ
section
variable {B : Nat} {w w' : World} {p mb mt : Nat} {vl vb : Value} {tv : Nat -> Value} {S : TS}
theorem Dc.Zl {t:Tm} {JD:Value} (h:Dc B w p mb mt vl vb tv S) (hot:zB t) (hn:t ∉ S.l) {nf:Nat->Int} (hp:Tsp B w' p mb mt JD vb tv (S.l++ [t]) (S.l++ [t]) S.tx S.tx (txN S) nf) (hf:∀k:Nat,k<5->nf k=wY (S.l++ [t]) k):Dc B w' p mb mt JD vb tv (S.add t):=by
 have hx:∀b,b ∈ S.tx->txN (S.add t) b=txN S b:=fun b hb=> zx (mG h.nd hn) (List.prefix_append _ _) (h.all _ (zy hb))
 exact ⟨⟨hp.row,hp.c0,hp.c1,hp.c2,hp.c3,fun k hk=> (hp.nx k hk).trans (by rw [hf k hk];rfl),hp.ls,hp.am,hp.xm.congr hx,hp.bs,hp.bt,hp.ne,hp.hp,hp.hb,hp.hm,hp.hl,hp.hv⟩,mG h.nd hn,h.txn,fun j hj=> List.mem_append.2 (.inl (h.all j hj)),
  fun u hu=> (List.mem_append.1 hu).elim (h.okt u) fun e=> by rw [List.mem_singleton.1 e];exact hot,h.okx⟩
theorem FU (h:Dc B w p mb mt vl vb tv S) (hB:B<=w.heap.size) (t:Tm) (hot:zB t) (hn:t ∉ S.l) (hk:t.1=1->1<=t.2.1/\t.2.1<=4) (hl:S.l.length<=1000):
  Calls Tryz.prog 138 #[.pointer (some ⟨p,0,none⟩),JW t] w fun e w'=> e=.returned (.tuple #[xU S.l.length,.int .i64 0])/\∃JD,Dc B w' p mb mt JD vb tv (S.add t)/\gY (fun b=> b=p\/b=mb\/vl.ownBlock=some b) w w'/\∀b,JD.ownBlock=some b->vl.ownBlock=some b\/w.heap.size<=b:=by
 have H:=ak h;have Di:=ak hB;have Qu:=ak hot;have HN:=ak hn;have HK:=ak hk;have HL:=ak hl;clear h hB hot hn hk hl
 go_enter Tryz.func138,Tryz.ntmps138
 go_upto_region 1 with (fail);refine aD (fun w1=> (∀i,i<3->w1.cell? ⟨w.heap.size,i,none⟩=some (.int .i64 (tf t i)))/\w.heap.size<w1.heap.size/\Below w.heap.size w w1) ⟨fun i hi=> by rcases (by omega:i=0\/i=1\/i=2) with rfl | rfl | rfl<;> exact cell_of_row _ _ _ _ _ (0,0) (heap_alloc_new w _),by rw [World.size_alloc];omega,(bN _ _).alloc (bA _) _⟩ ?_;rintro w1 ⟨hc1,hlt1,bb1⟩;have yH:=ak hc1;have Qv:=ak hlt1;have B1:=ak bb1;have H1:=ak (H.out.below bb1);have c0:=H1.out.c0;obtain ⟨al,cl,el,_⟩:=H1.out.ls.slice;have HEL:=ak el;rw [el] at c0;have h9:¬ (65536:Int)<=(S.l.length:Int):=by have:=HL.out;omega
 clear hc1 hlt1 bb1 el;go_upto_region 4 with (fail);clear c0
 apply nI (n:=56) [.f,.e,.e,.e,.e,.e,.c,.c,.f,.f,.c] 1 (by kernel_rfl) (by kernel_rfl) (by kernel_rfl) rfl
 ·intro w5 hB5;have c0:=(H1.out.below hB5).c0;rw [HEL.out] at c0;have HC5:Hid (∀i,i<3->w5.cell? ⟨w.heap.size,0+i,none⟩=some (.int .i64 (tf t i))):=fun i hi=> by rw [pz];exact (hB5.cell (p:=⟨w.heap.size,i,none⟩) Qv.out).trans (yH.out i hi)
  simp only [fP,Cl.KX,cond_true,cond_false]
  repeat (first | (refine Ce (y:=fun i=> .int .i64 (tf t i)) rfl rfl rfl Tryz.underlying96 rfl Tryz.sizeTm HC5.out ?_) | still_step)
  exact wpStill_nil rfl
 ·intro w5;simp only [fP,Cl.isF,cond_true,cond_false]
  repeat still_step
  exact wpStill_nil rfl
 ·simp only [fP,Cl.pG,cond_true,cond_false];refine Vo ((bN _ _).drew) (fun K hK=> ?_);refine aH <| NP 159 96 1 _ rfl Tryz.underlying159 (fC 3 (fun i=> .int .i64 (tf t i))) (by kernel_rfl) (hK _ _ (((bN _ _).drew).alloc (bA _) _) (Ab ?_));clear hK K;have H2:=ak (H1.out.below ((bN w1.heap.size w1).drew));refine tL (w0:=w1.drew) rfl _ _ rfl rfl rfl (HEL.out▸H2.out.ls) (by decide) Tryz.underlying159 Tryz.infoTm rfl rfl (fun i _=> rfl) (by have:=HL.out;unfold maxLen;omega) (by have:=HL.out;omega) ?_;intro v4 w4 Zt hg4 hp4;obtain ⟨⟨e0,f0⟩,hT5,hC5,hF5⟩:=H2.out.toTsp.aeL (t:=t) (gQ Di.out B1.out.size) Zt (fun _=> rfl) (HEL.out▸hg4) (HEL.out▸hp4);rw [HEL.out] at e0;have T5:=ak hT5;have C5:Hid (gY (fun b=> b=p\/vl.ownBlock=some b) w1 _):=ak ((gY.of_below ((bN w1.heap.size w1).drew) _).trans hC5 fun _ _ h=> h);have F5:=ak hF5;obtain ⟨a4,q4,rfl,_⟩:=Zt.slice;clear Zt hg4 hp4 hT5 hC5 hF5;go_wp2;refine SC ?_;go_upto_region 5 with (fail);refine aD (fun w5=> Tsp B w5 p mb mt (.slice a4 (S.l.length+1) q4) vb tv (S.l++ [t]) S.l S.tx S.tx (txN S) (fun k=> wY S.l k)/\gY (fun b=> b=p\/vl.ownBlock=some b) w1 w5) ⟨T5.out,C5.out⟩ ?_;rintro w5 ⟨hT5,hC5⟩;have T5:=ak hT5;have HC5:Hid (∀i,i<3->w5.cell? ⟨w.heap.size,i,none⟩=some (.int .i64 (tf t i))):=fun i hi=> (hC5.cell (p:=⟨w.heap.size,i,none⟩) Qv.out (fun hF=> hF.elim (fun h=> Nat.ne_of_gt H.out.row.lt h) (fun h=> Nat.lt_irrefl _ (H.out.ls.lt _ h)))).trans (yH.out i hi);have ady:Hid (w.heap.size<w5.heap.size):=ak (pJ Qv.out hC5.size);have C5:=ak hC5;clear hT5 hC5 e0 f0;obtain ⟨w6,hrun,hT6,hC6⟩:=(T5.out.below ((bN w5.heap.size w5).drew)).mW H.out.okt Qu.out HN.out H.out.nd (by have:=HL.out;omega);have Wd:Hid ((Instr.mapUpdate 160 (.map (some mb)) (.agg (fC 3 fun i=> .int .i64 (tf t i))) (.int .i64 (S.l.length:Int))).run Tryz.prog w5.drew=.ok () w6):=ak hrun;have T6:=ak hT6;have C6:Hid (gY (fun b=> b=mb) w5 w6):=ak ((gY.of_below ((bN w5.heap.size w5).drew) _).trans hC6 fun _ _ h=> h);clear hrun hT6 hC6
  apply nI (n:=56) [.e,.e,.e,.e,.e,.e,.c] 0 (by kernel_rfl) (by kernel_rfl) (by kernel_rfl) rfl
  ·intro w7 hB7;have c1:=(T5.out.below hB7).c1;have HC7:Hid (∀i,i<3->w7.cell? ⟨w.heap.size,0+i,none⟩=some (.int .i64 (tf t i))):=fun i hi=> by rw [pz];exact (hB7.cell (p:=⟨w.heap.size,i,none⟩) ady.out).trans (HC5.out i hi)
   simp only [fP,Cl.KX,cond_true,cond_false]
   repeat (first | (refine Ce (y:=fun i=> .int .i64 (tf t i)) rfl rfl rfl Tryz.underlying96 rfl Tryz.sizeTm HC7.out ?_) | still_step)
   exact wpStill_nil rfl
  ·intro w7;simp only [fP,Cl.isF,cond_true,cond_false]
   repeat still_step
   exact wpStill_nil rfl
  ·simp only [fP,Cl.pG,cond_true,cond_false];refine Ab ?_;have hrun:=Wd.out;go_wp2;refine SC ?_;clear hrun;go_upto_region 6 with (fail);have HC6:Hid (∀i,i<3->w6.cell? ⟨w.heap.size,i,none⟩=some (.int .i64 (tf t i))):=fun i hi=> (C6.out.cell (p:=⟨w.heap.size,i,none⟩) ady.out (fun h=> Nat.ne_of_gt H.out.am.lt h)).trans (HC5.out i hi);have agX:Hid (w.heap.size<w6.heap.size):=ak (pJ ady.out C6.out.size);have CH6:Hid (gY (fun b=> b=p\/b=mb\/vl.ownBlock=some b) w w6):=ak ((((gY.of_below B1.out _).trans (C5.out.mono fun b _ h=> h.elim .inl fun h=> .inr (.inr h)) fun _ _ h=> h).trans (C6.out.mono fun b _ h=> .inr (.inl h)) fun _ _ h=> h));have FT6:Hid (∀b,(Value.slice a4 (S.l.length+1) q4).ownBlock=some b->vl.ownBlock=some b\/w.heap.size<=b):=ak fun b hb=> (F5.out b hb).imp id fun h=> gQ B1.out.size h;have e0:=HC6.out 0 (by decide);rw [show tf t 0=t.1 from rfl] at e0;by_cases hk:t.1=1
   ·have hkb:(t.1==1)=true:=by simpa using hk
    obtain ⟨hA1,hA2⟩:=HK.out hk;obtain ⟨k,hkk⟩:=Db (show 0<=t.2.1 by omega);have hk5:k<5:=by omega
    go_upto_region 7 with (fail);have hk9:(k:Int)<5:=by omega
    have hok:=Qu.out.2.2;have hmin: -9223372036854775808<=min t.2.2 4611686018427387904/\min t.2.2 4611686018427387904<=4611686018427387904:=by have:=hok.1;omega
    have hwr:IntKind.i64.wrap (min t.2.2 4611686018427387904+1)=min t.2.2 4611686018427387904+1:=jC (by omega) (by omega)
    apply nI (n:=56) [.e,.e,.e,.e,.e,.e,.e,.e,.e,.e,.e,.e,.e,.e,.e,.e,.e,.e,.c] 0 (by kernel_rfl) (by kernel_rfl) (by kernel_rfl) rfl
    ·intro w7 hB7;have z0:=((T6.out.below hB7).nx k hk5)
     have e1:=(hB7.cell (p:=⟨w.heap.size,1,none⟩) agX.out).trans (HC6.out 1 (by decide));have e2:=(hB7.cell (p:=⟨w.heap.size,2,none⟩) agX.out).trans (HC6.out 2 (by decide));rw [show tf t 1=t.2.1 from rfl,hkk] at e1;rw [show tf t 2=t.2.2 from rfl] at e2;simp only [fP,Cl.KX,cond_true,cond_false]
     repeat still_step
     exact wpStill_nil rfl
    ·intro w7;simp only [fP,Cl.isF,cond_true,cond_false]
     repeat still_step
     exact wpStill_nil rfl
    ·simp only [fP,Cl.pG,cond_true,cond_false];refine Ab ?_;have T7:=ak (T6.out.below ((bN w6.heap.size w6).drew));have z0:=T7.out.nx k hk5;have f0:=T7.out.row.free (4+k);obtain ⟨hT8,hC8⟩:=T7.out.aiF k hk5 (max (wY S.l k) (min t.2.2 4611686018427387904+1)) (nf':=fun j=> wY (S.l++ [t]) j) fun j hj=> by
      rw [zC];by_cases e:j=k
      ·subst e;rw [if_pos ⟨hk,hkk⟩,if_pos rfl]
       rfl
      ·rw [if_neg (fun h=> e (by have:=h.2;omega)),if_neg e]
     have FIN:=ak (H.out.Zl Qu.out HN.out hT8 fun k _=> rfl);have CH8:Hid (gY (fun b=> b=p\/b=mb\/vl.ownBlock=some b) w _):=ak ((CH6.out.trans (gY.of_below ((bN w6.heap.size w6).drew) (fun _=> False)) fun _ _ h=> h.elim).trans (hC8.mono fun b _ h=> .inl h) fun _ _ h=> h);clear hk hkk hT8 hC8 hmin hok hA1 hA2 hk9;go_wp2;refine SC ?_;clear z0 f0 hwr;go_wp2;go_ret2;exact ⟨rfl,_,FIN.out,CH8.out,FT6.out⟩
   ·have hkb:(t.1==1)=false:=by simpa using hk
    have FIN:=ak (H.out.Zl Qu.out HN.out T6.out fun k _=> by rw [zC,if_neg fun h=> hk h.1]);clear hk;go_wp2;go_ret2;exact ⟨rfl,_,FIN.out,CH6.out,FT6.out⟩
end
def wG (B:Nat) (w:World) (p:Nat) (F:Nat->Prop) (S:TS):Prop:=
 ∃mb mt vl vb tv,Dc B w p mb mt vl vb tv S/\S.Ok/\∀b,F b ↔ TF p mb mt vl vb S.tx.length tv b
section
variable {B : Nat} {w w' : World} {p : Nat} {F : Nat -> Prop} {S : TS}
theorem wG.below (h:wG B w p F S) (hb:Below w.heap.size w w'):wG B w' p F S:=by
 obtain ⟨mb,mt,vl,vb,tv,h1,h2,h3⟩:=h;exact ⟨mb,mt,vl,vb,tv,h1.below hb,h2,h3⟩
theorem wG.keep {G:Nat->Prop} (h:wG B w p F S) (hc:gY G w w') (hF:∀b,F b->¬ G b):wG B w' p F S:=by
 obtain ⟨mb,mt,vl,vb,tv,h1,h2,h3⟩:=h;exact ⟨mb,mt,vl,vb,tv,h1.keep hc fun b hb=> hF b ((h3 b).2 hb),h2,h3⟩
theorem wG.hi (h:wG B w p F S) {b:Nat} (hb:F b):B<=b:=by
 obtain ⟨mb,mt,vl,vb,tv,h1,h2,h3⟩:=h;exact h1.hi ((h3 b).1 hb)
theorem wG.lt (h:wG B w p F S) {b:Nat} (hb:F b):b<w.heap.size:=by
 obtain ⟨mb,mt,vl,vb,tv,h1,h2,h3⟩:=h;exact h1.lt ((h3 b).1 hb)
theorem wG.ok (h:wG B w p F S):S.Ok:=by
 obtain ⟨mb,mt,vl,vb,tv,h1,h2,h3⟩:=h;exact h2
end
section
variable {B : Nat} {w w' : World} {p mb mt : Nat} {vl vb : Value} {tv : Nat -> Value} {S : TS}
theorem TF.add {JD:Value} {n:Nat} {N:Nat} (hf:∀b,JD.ownBlock=some b->vl.ownBlock=some b\/N<=b):∀b,TF p mb mt JD vb n tv b->TF p mb mt vl vb n tv b\/N<=b:=by
 intro b hb;rcases hb with h | h | h | h | h
 ·exact .inl (.inl h)
 ·exact .inl (.inr (.inl h))
 ·exact .inl (.inr (.inr (.inl h)))
 ·exact (hf b h).imp (fun h=> .inr (.inr (.inr (.inl h)))) id
 ·exact .inl (.inr (.inr (.inr (.inr h))))
theorem FR {F:Nat->Prop} (h:wG B w p F S) (hB:B<=w.heap.size) (t:Tm) (hot:zB t) (hl:S.l.length<=1000):
  Calls Tryz.prog 82 #[.pointer (some ⟨p,0,none⟩),JW t] w fun e w'=> e=.returned (.tuple #[.int .i64 (mW S t).1,.int .i64 (mW S t).2])/\∃F',wG B w' p F' (S.put t)/\gY F w w'/\∀b,F' b->F b\/w.heap.size<=b:=by
 obtain ⟨mb,mt,vl,vb,tv,h1,h2,h3⟩:=h;have H:=ak h1;have Fj:=ak h2;have YZ:=ak h3;have Di:=ak hB;have Qu:=ak hot;have HL:=ak hl;obtain ⟨PA,Lp⟩:∃x,x=mW S t:=⟨_,rfl⟩
 obtain ⟨SP,hSP⟩:∃x,x=S.put t:=⟨_,rfl⟩
 rw [<-Lp,←hSP];have AB:=ak Lp;have YS:=ak hSP;clear h1 h2 h3 hB hot hl Lp hSP
 go_enter Tryz.func82,Tryz.ntmps82
 go_upto_region 1 with (fail);refine aD (fun w1=> (∀i,i<3->w1.cell? ⟨w.heap.size,i,none⟩=some (.int .i64 (tf t i)))/\w.heap.size<w1.heap.size/\Below w.heap.size w w1) ⟨fun i hi=> by rcases (by omega:i=0\/i=1\/i=2) with rfl | rfl | rfl<;> exact cell_of_row _ _ _ _ _ (0,0) (heap_alloc_new w _),by rw [World.size_alloc];omega,(bN _ _).alloc (bA _) _⟩ ?_;rintro w1 ⟨hc1,hlt1,bb1⟩;have yH:Hid (∀i,i<3->w1.cell? ⟨w.heap.size,0+i,none⟩=some (.int .i64 (tf t i))):=ak fun i hi=> by rw [pz];exact hc1 i hi
 have Qv:=ak hlt1;have B1:=ak bb1;have H1:=ak (H.out.below bb1);clear hc1 hlt1 bb1;go_wp2_with fail;refine (yj H1.out).mono ?_;rintro e w1' ⟨rfl,rfl⟩;go_wp2_with (refine jQ (y:=fun i=> .int .i64 (tf t i)) rfl rfl rfl Tryz.underlying96 rfl Tryz.sizeTm yH.out ?_);refine (Ro H1.out t).mono ?_;rintro e w2 ⟨rfl,b2⟩;have H2:=ak (H1.out.below b2);have B2:=ak (B1.out.trans (b2.mono B1.out.size));have Mj:Hid (∀i,i<3->w2.cell? ⟨w.heap.size,0+i,none⟩=some (.int .i64 (tf t i))):=ak fun i hi=> (b2.cell (p:=⟨w.heap.size,0+i,none⟩) Qv.out).trans (yH.out i hi);have adz:Hid (w.heap.size<w2.heap.size):=ak (pJ Qv.out b2.size);clear b2
 cases hm:lM S t with
 | false=>
  have E1:Hid (PA=(0,2)):=ak (by rw [AB.out];unfold mW;rw [if_neg (by rw [hm];decide)]);have E2:Hid (SP=S):=ak (by rw [YS.out];unfold TS.put;rw [if_neg (fun h=> by rw [hm] at h;cases h.1)]);clear hm;go_wp2;go_ret2;rw [E1.out,E2.out];exact ⟨rfl,F,⟨mb,mt,vl,vb,tv,H2.out,Fj.out,YZ.out⟩,.of_below B2.out _,fun b hb=> .inl hb⟩
 | true=>
  have c1:=H2.out.c1;by_cases hin:t ∈ S.l
  ·have E1:Hid (PA=((Ee S.l t:Int),0)):=ak (by rw [AB.out];unfold mW;rw [if_pos hm,if_pos hin]);have E2:Hid (SP=S):=ak (by rw [YS.out];unfold TS.put;rw [if_neg (fun h=> h.2 hin)]);have l1:∀n,(Instr.lookup 160 (.map (some mb)) (.agg (arr .i64 3 (tf t))) true).run Tryz.prog (w2.drewN n)=.ok (.tuple #[xU (Ee S.l t),.bool true]) (w2.drewN n):=fun n=> Tv.XT (H2.out.below (Go.aZ.below_drewN (bN _ _) n)).am hin;obtain ⟨X,hX⟩:∃X,X=Ee S.l t:=⟨_,rfl⟩
   rw [<-hX] at l1 E1;clear hm hin hX;go_upto_region 5 with (fail);refine wp_region_quiet_lit (by kernel_rfl) (by kernel_rfl) ?_
   repeat (first | (refine zq rfl rfl rfl Tryz.underlying96 rfl Tryz.sizeTm Mj.out adz.out ?_) | quiet_step (fail))
   refine wpQuiet_nil ?_;rintro _ ⟨nq,rfl⟩;go_wp2;go_ret2;rw [E1.out,E2.out];exact ⟨rfl,F,⟨mb,mt,vl,vb,tv,H2.out.below (Go.aZ.below_drewN (bN _ _) nq),Fj.out,YZ.out⟩,.of_below (Go.aZ.below_drewN B2.out nq) _,fun b hb=> .inl hb⟩
  ·have E1:Hid (PA=((S.l.length:Int),0)):=ak (by rw [AB.out];unfold mW;rw [if_pos hm,if_neg hin]);have E2:Hid (SP=S.add t):=ak (by rw [YS.out];unfold TS.put;rw [if_pos ⟨hm,hin⟩]);have OK2:=ak (Fj.out.add hin (MZ hm));have HIN:=ak hin;have KT:Hid (t.1=1->1<=t.2.1/\t.2.1<=4):=ak fun hk=> by
    obtain ⟨k,a,b⟩:=t;simp only at hk;subst hk;rw [Tf] at hm;simp only [EY,decide_eq_true_eq] at hm;exact hm.1
   have l1:∀n,(Instr.lookup 160 (.map (some mb)) (.agg (arr .i64 3 (tf t))) true).run Tryz.prog (w2.drewN n)=.ok (.tuple #[.int .i64 0,.bool false]) (w2.drewN n):=fun n=> Tv.abl (H2.out.below (Go.aZ.below_drewN (bN _ _) n)).am H.out.okt Qu.out hin;clear hm hin;go_upto_region 5 with (fail);refine wp_region_quiet_lit (by kernel_rfl) (by kernel_rfl) ?_
   repeat (first | (refine zq rfl rfl rfl Tryz.underlying96 rfl Tryz.sizeTm Mj.out adz.out ?_) | quiet_step (fail))
   refine wpQuiet_nil ?_;rintro _ ⟨nq,rfl⟩;clear l1 c1;have B3:=ak (Go.aZ.below_drewN B2.out nq);have HC3:Hid (∀i,i<3->(w2.drewN nq).cell? ⟨w.heap.size,0+i,none⟩=some (.int .i64 (tf t i))):=ak fun i hi=> ((Go.aZ.below_drewN (bN w2.heap.size w2) nq).cell (p:=⟨w.heap.size,0+i,none⟩) adz.out).trans (Mj.out i hi);have H3:=ak (H2.out.below (Go.aZ.below_drewN (bN _ _) nq));go_wp2_with (refine jQ (y:=fun i=> .int .i64 (tf t i)) rfl rfl rfl Tryz.underlying96 rfl Tryz.sizeTm HC3.out ?_);refine (FU H3.out (gQ Di.out B3.out.size) t Qu.out HIN.out KT.out HL.out).mono ?_;rintro e w4 ⟨rfl,JD,h4,hc4,hf4⟩;have S4:Hid (wG B w4 p (TF p mb mt JD vb S.tx.length tv) (S.add t)):=ak ⟨mb,mt,JD,vb,tv,h4,OK2.out,fun b=> Iff.rfl⟩;have C4:Hid (gY F w w4):=ak ((gY.of_below B3.out F).trans (hc4.mono (G:=F) fun b _ hb=> (YZ.out b).2 (by
    rcases hb with h | h | h
    ·exact .inl h
    ·exact .inr (.inl h)
    ·exact .inr (.inr (.inr (.inl h))))) fun _ _ h=> h)
   have F4:Hid (∀b,TF p mb mt JD vb S.tx.length tv b->F b\/w.heap.size<=b):=ak fun b hb=> (TF.add (N:=w.heap.size) (fun b hb=> (hf4 b hb).imp id fun h=> gQ B3.out.size h) b hb).imp (YZ.out b).2 id;clear h4 hc4 hf4;go_wp2;go_ret2;rw [E1.out,E2.out];exact ⟨rfl,_,S4.out,C4.out,F4.out⟩
end
end Go.Proofs.YtpcjekgfnfjbpaaGreat
