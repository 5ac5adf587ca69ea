/-
  Part 17 of the texts that the proof of SuiteOpens rests on, one after the other. Conditions: named in each theorem.
-/
import Derived.Test.YtpcjekgfnfjbpaaGreatPkSuiteOpens8
import Derived.Test.YtpcjekgfnfjbpaaGreatPkSuiteOpens15
import Derived.Test.YtpcjekgfnfjbpaaGreatPkSuiteOpens16
import Derived.Deep.Cut
import Derived.DeepKeys4
import Derived.Great.Walk
import Derived.MapViews
set_option linter.unusedVariables false
set_option linter.unusedSimpArgs false
set_option maxRecDepth 100000
set_option maxHeartbeats 1600000
namespace Go.aG
open Go.RowKit
open Go.Maps (Keyed)
def tf (t:Tm) (i:Nat):Int:=if i=0 then t.1 else if i=1 then t.2.1 else t.2.2
def Ao (l:List Tm):Nat→Nat→Value:=fun j i=> match l[j]? with | some t=> .int .i64 (tf t i) | none=> undef
theorem oK {l:List Tm} {j i:Nat} {t:Tm} (h:l[j]? =some t):Ao l j i=.int .i64 (tf t i):=by unfold Ao;rw [h]
abbrev sj (t:Tm):Value:=.agg #[.int .i64 t.1,.int .i64 t.2.1,.int .i64 t.2.2]
theorem zm {t u:Tm} (h:sj t=sj u):t=u:=by
 obtain ⟨a,b,c⟩:=t
 obtain ⟨d,e,f⟩:=u
 simp only [sj,Value.agg.injEq,Array.mk.injEq,List.cons.injEq,Value.int.injEq,true_and,and_true] at h
 obtain ⟨rfl,rfl,rfl⟩:=h
 rfl
theorem qz {e:TypeId} {l:List Tm} {t:Tm} {w:World} {v:Value} {y:Nat→Nat→Value} (h:cO e 3 w v (l.length+1) (jg l.length (Ao l) y)) (hy:∀i,y 0 i=.int .i64 (tf t i)):cO e 3 w v (l++ [t]).length (Ao (l++ [t])):=by
 rw [List.length_append,List.length_singleton]
 refine h.congr fun j hj i hi=> ?_
 by_cases hl:j<l.length
 ·rw [lM hl]
  unfold Ao
  rw [List.getElem?_append_left hl]
 ·obtain rfl:j=l.length:=by omega
  rw [pU,hy,oK (t:=t) (by rw [List.getElem?_append_right (Nat.le_refl _),Nat.sub_self];rfl)]
def bf (b:List Int) (i:Nat):Int:=b.getD i 0
def okB (b:List Int):Prop:=∀x,x ∈ b→0≤x∧x<256
theorem okB.at {b:List Int} (h:okB b) (i:Nat) (hi:i<b.length):0≤bf b i∧bf b i<256:=by
 unfold bf
 rw [List.getD_eq_getElem?_getD,List.getElem?_eq_getElem hi]
 exact h _ (List.getElem_mem hi)
def Bd (b:List Int):Value:=.string (strOf b.length (bf b))
theorem zi {b c:List Int} (hb:okB b) (hc:okB c) (h:Bd b=Bd c):b=c:=by
 have h1:strOf b.length (bf b)=strOf c.length (bf c):=by injection h
 have hl:b.length=c.length:=by have:=congrArg ByteArray.size h1;simpa using this
 apply List.ext_getElem? 
 intro i
 by_cases hi:i<b.length
 ·have e1:=uD (n:=b.length) (f:=bf b) hi (hb.at i hi)
  have e2:=uD (n:=c.length) (f:=bf c) (i:=i) (by omega) (hc.at i (by omega))
  rw [h1,e2] at e1
  unfold bf at e1
  rw [List.getD_eq_getElem?_getD,List.getD_eq_getElem?_getD,List.getElem?_eq_getElem hi,List.getElem?_eq_getElem (by omega)] at e1
  rw [List.getElem?_eq_getElem hi,List.getElem?_eq_getElem (by omega)]
  exact congrArg some e1.symm
 ·rw [List.getElem?_eq_none (by omega),List.getElem?_eq_none (by omega)]
structure rQ (P:Program) (kT mT iT:TypeId) {K:Type} (kv:K→Value) (ok:K→Prop):Prop where
 keyed:Keyed P kT
 under:P.underlying mT=some (.map kT iT)
 int:P.underlying iT=some (.int .i64)
 zero:∀w,(zeroValue iT).run P w=.ok (.int .i64 0) w
 key:∀x,ok x→∃kl,keyOf P kT (kv x)=some kl
 inj:∀x y,ok x→ok y→kv x=kv y→x=y
section
variable {K : Type} {P : Program} {kT mT iT : TypeId} {kv : K → Value} {ok : K → Prop} {w w' : World} {mb : Nat} {nd : List K} {val : K → Nat}
abbrev mR (P:Program) (kT iT:TypeId) (kv:K→Value) (val:K→Nat) (w:World) (mb:Nat) (nd:List K):Prop:=jL P kT iT w mb nd.length (fun i=> lv kv nd i 0) (fun i=> match nd[i]? with | some x=> jD (val x) | none=> undef)
theorem rQ.uI [DecidableEq K] (k:rQ P kT mT iT kv ok) (h:mR P kT iT kv val w mb nd) {x:K} (hx:x ∈ nd):(Instr.lookup mT (.map (some mb)) (kv x) true).run P w=.ok (.tuple #[jD (val x),.bool true]) w:=by
 have:=(h.xH k.keyed k.under (k.zero w) (plainElem_int k.int (by decide)) (nH nd x) (iZ hx)).1
 rw [show lv kv nd (nH nd x) 0=kv x from uH (jy hx)] at this
 simp only [jy hx] at this
 exact this
theorem rQ.xI (k:rQ P kT mT iT kv ok) (h:mR P kT iT kv val w mb nd) {x:K} (hnd:∀y,y ∈ nd→ok y) (hok:ok x) (hx:x ∉ nd):(Instr.lookup mT (.map (some mb)) (kv x) true).run P w=.ok (.tuple #[.int .i64 0,.bool false]) w:=by
 obtain ⟨kl,hk⟩:=k.key x hok
 refine (h.zO k.keyed k.under (k.zero w) (plainElem_int k.int (by decide)) hk fun i hi e=> hx ?_).1
 rw [uH (List.getElem?_eq_getElem hi)] at e
 have:=k.inj _ _ (hnd _ (List.getElem_mem hi)) hok e
 rw [←this]
 exact List.getElem_mem hi
theorem rQ.put (k:rQ P kT mT iT kv ok) (h:mR P kT iT kv val w mb nd) {x:K} {n:Nat} {val':K→Nat} (hnd:∀y,y ∈ nd→ok y) (hok:ok x) (hx:x ∉ nd) (hn:nd.length≤1000000) (hv:val' x=n) (hn2:n≤1000000) (hold:∀y,y ∈ nd→val' y=val y):
  ∃w',(Instr.mapUpdate mT (.map (some mb)) (kv x) (jD n)).run P w=.ok () w'∧mR P kT iT kv val' w' mb (nd++ [x])∧w.grownBy w' (some mb):=by
 obtain ⟨kl,hk⟩:=k.key x hok
 have hput:=h.put (key':=fun i=> lv kv (nd++ [x]) i 0) (val':=fun i=> match (nd++ [x])[i]? with | some x=> jD (val' x) | none=> undef) k.keyed k.under (by unfold maxLen;omega) hk (plainElem_int k.int (zI (by omega)):plainElem (H:=Unit) P iT (jD n)= _) (fun i hi e=> hx (by
  rw [uH (List.getElem?_eq_getElem hi)] at e
  have:=k.inj _ _ (hnd _ (List.getElem_mem hi)) hok e
  rw [←this]
  exact List.getElem_mem hi)) (fun i hi=> ⟨by
   show lv kv (nd++ [x]) i 0=lv kv nd i 0
   unfold lv
   rw [List.getElem?_append_left hi],by
   rw [List.getElem?_append_left hi,List.getElem?_eq_getElem hi]
   simp only [hold _ (List.getElem_mem hi)]⟩) ⟨by
   show lv kv (nd++ [x]) nd.length 0=kv x
   exact uH (by simp),by simp [hv]⟩
 obtain ⟨w',h1,h2,h3⟩:=hput
 refine ⟨w',h1,?_,h3⟩
 show jL P kT iT w' mb (nd++ [x]).length _ _
 rw [List.length_append,List.length_singleton]
 exact h2
theorem mR.congr {val':K→Nat} (h:mR P kT iT kv val w mb nd) (hv:∀y,y ∈ nd→val' y=val y):mR P kT iT kv val' w mb nd:=
 jL.congr h fun i hi=> ⟨rfl,by rw [List.getElem?_eq_getElem hi];simp only [hv _ (List.getElem_mem hi)]⟩
end
end Go.aG
namespace Go.Proofs.YtpcjekgfnfjbpaaGreat
open Go.RowKit Go.aG Go.ChangeShapes Go.Maps
theorem Tryz.infoTm:(Tryz.prog.info? 96).map (fun i=> (i.zero,i.size,i.bytes))=some (some (.agg #[.int .i64 0,.int .i64 0,.int .i64 0]),3,24):=by kernel_rfl
theorem Tryz.sizeTm:(Tryz.prog.info? 96).map (·.size)=some 3:=by kernel_rfl
theorem Tryz.infoBs:(Tryz.prog.info? 23).map (fun i=> (i.zero,i.size,i.bytes))=some (some (.slice none 0 0),1,24):=by kernel_rfl
theorem Tryz.rowTm:(96:TypeId)<Tryz.prog.types.size:=of_decide_eq_true (by kernel_rfl)
theorem Tryz.wideTm:(match Tryz.prog.underlying 96 with | some (.array _ _) | some (.struct _)=> true | _=> false)=true:=by rw [Tryz.underlying96]
theorem Tryz.deepTm:Tryz.prog.keyTypeAt (Tryz.prog.types.size+1) 96=true:=by kernel_rfl
theorem Tryz.laidTm:laidOutB Tryz.prog=true:=by kernel_rfl
theorem Tryz.lawTm:WideMaps.KeyLaw Tryz.prog 96:=deep_law_laid Tryz.laidTm (m:=2) (by omega) Tryz.rowTm (by kernel_rfl) Tryz.wideTm
theorem Tryz.cellsTm:Tryz.prog.cellsOf 96=3:=by kernel_rfl
theorem Tryz.cellsI:Tryz.prog.cellsOf 3=1:=by kernel_rfl
theorem Gm {x:Int} (h:jB x):(Lit.int .i64 x).wf=true:=by
 have h1:=h.1
 have h2:=h.2
 simp [Lit.wf,IntKind.min,IntKind.max,IntKind.signed,IntKind.bits]
 omega
theorem BL (t:Tm) (h:jT t):∃kl,keyOf Tryz.prog 96 (sj t)=some kl:=by
 have ht:DataW.Trod (H:=Unit) (fun _=> ()) Tryz.prog (default:World) 0 (fun _=> true) true 96 (sj t) _ _:=⟨_,Go.Deep.trod_struct3_mk (enc:=fun _=> ()) (w:=(default:World)) (base:=0) (spare:=fun _=> true) (held:=true) (n:=1) (cs:= [.int .i64 t.1,.int .i64 t.2.1,.int .i64 t.2.2]) Tryz.underlying96 (by rw [Tryz.cellsTm];rfl)
  (by rw [Tryz.cellsI];exact trod_int_mk 0 Tryz.underlying3 (Gm h.1)) (by rw [Tryz.cellsI];exact trod_int_mk 0 Tryz.underlying3 (Gm h.2.1)) (by rw [Tryz.cellsI];exact trod_int_mk 0 Tryz.underlying3 (Gm h.2.2))⟩
 exact ⟨_,(keyOf_asKey Tryz.deepTm Tryz.wideTm (by simp [Value.formed,Tryz.underlying96,Tryz.cellsTm]) ht).1⟩
end Go.Proofs.YtpcjekgfnfjbpaaGreat
namespace Go.aG
open Go.RowKit
theorem Own.kZ {k:IntKind} {e:TypeId} {base:Nat} {w:World} {v:Value} {n:Nat} {f:Nat→Int} (h:Own k e base w v n f):cO e 1 w v n (fun j _=> .int k (f j)):=by
 refine .uF (xs:=vals k n f) ?_ fun j hj i hi=> ?_
 ·obtain ⟨h1,h2⟩:=h
  refine ⟨h1,h2.imp id ?_⟩
  rintro ⟨g,cap,cur,r1,_,r⟩
  exact ⟨g,cap,cur,r1,Nat.zero_le _,r⟩
 ·obtain rfl:i=0:=by omega
  rw [show j * 1+0=j by omega]
  exact aK hj
theorem Own.pQ {k:IntKind} {e:TypeId} {base:Nat} {w w':World} {v:Value} {n:Nat} {f:Nat→Int} {G:Nat→Prop} (h:Own k e base w v n f) (hc:aZ G w w') (hn:∀b,v.ownBlock=some b→¬ G b):Own k e base w' v n f:=by
 obtain ⟨h1,h2⟩:=h
 refine ⟨h1,h2.imp id ?_⟩
 rintro ⟨g,cap,cur,r1,r2,r3,r⟩
 exact ⟨g,cap,cur,r1,r2,(hc.block g (Array.getElem?_eq_some_iff.1 r3).1 (hn g (by rw [r1];rfl))).trans r3,r⟩
end Go.aG
namespace Go.Proofs.YtpcjekgfnfjbpaaGreat
open Go.RowKit Go.aG Go.ChangeShapes Go.Maps
attribute [local go_sem ↓] Go.wp_at_zero Go.wp_at_succ
theorem wB (w:World):(zeroValue 3).run Tryz.prog w=.ok (.int .i64 0) w:=by
 obtain ⟨x,h1,h2⟩:=Option.map_eq_some_iff.1 Tryz.info3
 simp only [Prod.mk.injEq] at h2
 simp [zeroValue,typeInfo,h1,h2.1]
theorem xO:rQ Tryz.prog 96 160 3 sj jT:=
 ⟨Keyed.of_law Tryz.lawTm,Tryz.underlying160,Tryz.underlying3,wB,BL,fun x y _ _ h=> zm h⟩
def Da (b:List Int):Prop:=okB b∧b.length≤1048576
theorem xM:rQ Tryz.prog 9 161 3 Bd Da:=
 ⟨Go.Maps.string_keyed Tryz.underlying9,Tryz.underlying161,Tryz.underlying3,wB,fun x hx=> ⟨_,WideMaps.keyOf_string_mk Tryz.underlying9 (by rw [sG];have:=hx.2;unfold maxLen;omega)⟩,fun x y hx hy h=> zi hx.1 hy.1 h⟩
def qy (S:TS) (b:List Int):Nat:=nH S.l (9,(nH S.tx b:Int),0)
structure Tsp (B:Nat) (w:World) (p mb mt:Nat) (vl vb:Value) (tv:Nat→Value) (l la:List Tm) (tx lx:List (List Int)) (xv:List Int→Nat) (nf:Nat→Int):Prop where
 row:dY w p 164 9
 c0:w.cell? ⟨p,0,none⟩=some vl
 c1:w.cell? ⟨p,1,none⟩=some (.map (some mb))
 c2:w.cell? ⟨p,2,none⟩=some (.map (some mt))
 c3:w.cell? ⟨p,3,none⟩=some vb
 nx:∀k:Nat,k<5→w.cell? ⟨p,4+k,none⟩=some (.int .i64 (nf k))
 ls:cO 96 3 w vl l.length (Ao l)
 am:mR Tryz.prog 96 3 sj (nH la) w mb la
 xm:mR Tryz.prog 9 3 Bd xv w mt lx
 bs:cO 23 1 w vb tx.length (fun j _=> tv j)
 bt:∀j b,tx[j]? =some b→Own .u8 5 B w (tv j) b.length (bf b)
 ne:mb≠mt
 hp:B≤p
 hb:B≤mb
 hm:B≤mt
 hl:∀b,vl.ownBlock=some b→B≤b
 hv:∀b,vb.ownBlock=some b→B≤b
structure lC (B:Nat) (w:World) (p mb mt:Nat) (vl vb:Value) (tv:Nat→Value) (S:TS):Prop extends Tsp B w p mb mt vl vb tv S.l S.l S.tx S.tx (qy S) (fun k=> jJ S.l k) where
 nd:S.l.Nodup
 txn:S.tx.Nodup
 all:∀j,j<S.tx.length→((9,(j:Int),0):Tm) ∈ S.l
 CZ:∀t,t ∈ S.l→jT t
 Aq:∀b,b ∈ S.tx→Da b
def TF (p mb mt:Nat) (vl vb:Value) (n:Nat) (tv:Nat→Value) (b:Nat):Prop:=b=p∨b=mb∨b=mt∨vl.ownBlock=some b∨vb.ownBlock=some b∨∃j,j<n∧(tv j).ownBlock=some b
section
variable {B : Nat} {w w' : World} {p mb mt : Nat} {vl vb : Value} {tv : Nat → Value} {l la : List Tm} {tx lx : List (List Int)} {xv : List Int → Nat} {nf : Nat → Int}
theorem Tsp.keep {G:Nat→Prop} (h:Tsp B w p mb mt vl vb tv l la tx lx xv nf) (hc:aZ G w w') (hF:∀b,TF p mb mt vl vb tx.length tv b→¬ G b):Tsp B w' p mb mt vl vb tv l la tx lx xv nf:=by
 have hp:=hF p (.inl rfl)
 have hl:=h.row.lt
 refine ⟨h.row.heap (hc.block p hl hp),(hc.cell (p:=⟨p,0,none⟩) hl hp).trans h.c0,(hc.cell (p:=⟨p,1,none⟩) hl hp).trans h.c1,(hc.cell (p:=⟨p,2,none⟩) hl hp).trans h.c2,(hc.cell (p:=⟨p,3,none⟩) hl hp).trans h.c3,
  fun k hk=> (hc.cell (p:=⟨p,4+k,none⟩) hl hp).trans (h.nx k hk),h.ls.jh hc fun b hb=> hF b (.inr (.inr (.inr (.inl hb)))),h.am.heap (hc.block mb h.am.lt (hF mb (.inr (.inl rfl)))),h.xm.heap (hc.block mt h.xm.lt (hF mt (.inr (.inr (.inl rfl))))),
  h.bs.jh hc fun b hb=> hF b (.inr (.inr (.inr (.inr (.inl hb))))),fun j b hb=> (h.bt j b hb).pQ hc fun c hcc=> hF c (.inr (.inr (.inr (.inr (.inr ⟨j,(List.getElem?_eq_some_iff.1 hb).1,hcc⟩))))),h.ne,h.hp,h.hb,h.hm,h.hl,h.hv⟩
theorem Tsp.below (h:Tsp B w p mb mt vl vb tv l la tx lx xv nf) (hb:Below w.heap.size w w'):Tsp B w' p mb mt vl vb tv l la tx lx xv nf:=h.keep (.of_below hb fun _=> False) fun _ _=> id
theorem Tsp.lt (h:Tsp B w p mb mt vl vb tv l la tx lx xv nf) {b:Nat} (hb:TF p mb mt vl vb tx.length tv b):b<w.heap.size:=by
 rcases hb with rfl | rfl | rfl | hb | hb | ⟨j,hj,hb⟩
 ·exact h.row.lt
 ·exact h.am.lt
 ·exact h.xm.lt
 ·exact h.ls.lt b hb
 ·exact h.bs.lt b hb
 ·exact (h.bt j _ (List.getElem?_eq_getElem hj)).kZ.lt b hb
theorem Tsp.hi (h:Tsp B w p mb mt vl vb tv l la tx lx xv nf) {b:Nat} (hb:TF p mb mt vl vb tx.length tv b):B≤b:=by
 rcases hb with rfl | rfl | rfl | hb | hb | ⟨j,hj,hb⟩
 ·exact h.hp
 ·exact h.hb
 ·exact h.hm
 ·exact h.hl b hb
 ·exact h.hv b hb
 ·exact (h.bt j _ (List.getElem?_eq_getElem hj)).block b hb
theorem Tsp.cellP (h:Tsp B w p mb mt vl vb tv l la tx lx xv nf) (o:Nat) (v:Value):(∀i,i≠o→(w.setCell ⟨p,o,none⟩ v).cell? ⟨p,i,none⟩=w.cell? ⟨p,i,none⟩)∧(o<9→(w.setCell ⟨p,o,none⟩ v).cell? ⟨p,o,none⟩=some v)∧dY (w.setCell ⟨p,o,none⟩ v) p 164 9∧
  cO 96 3 (w.setCell ⟨p,o,none⟩ v) vl l.length (Ao l)∧mR Tryz.prog 96 3 sj (nH la) (w.setCell ⟨p,o,none⟩ v) mb la∧mR Tryz.prog 9 3 Bd xv (w.setCell ⟨p,o,none⟩ v) mt lx∧
  cO 23 1 (w.setCell ⟨p,o,none⟩ v) vb tx.length (fun j _=> tv j)∧∀j b,tx[j]? =some b→Own .u8 5 B (w.setCell ⟨p,o,none⟩ v) (tv j) b.length (bf b):=by
 have hc:aZ (fun b=> b=p) w (w.setCell ⟨p,o,none⟩ v):=.set _ _ ⟨p,o,none⟩ _ rfl
 refine ⟨fun i hi=> World.cell?_setCell_other _ _ _ _ (fun e=> hi (by cases e;rfl)),fun ho=> ?_,h.row.setCell _ rfl _,h.ls.jh hc fun b hb e=> h.ls.dA h.row (by decide) (e▸hb),h.am.heap (hc.block mb h.am.lt fun e=> h.am.jC (e▸h.row)),h.xm.heap (hc.block mt h.xm.lt fun e=> h.xm.jC (e▸h.row)),
  h.bs.jh hc fun b hb e=> h.bs.dA h.row (by decide) (e▸hb),fun j b hb=> (h.bt j b hb).pQ hc fun c hcc e=> (h.bt j b hb).kZ.dA h.row (by decide) (e▸hcc)⟩
 obtain ⟨x,hx⟩:=Option.isSome_iff_exists.1 (h.row.vW o ho)
 exact World.cell?_setCell_same _ _ _ hx
end
section
variable {B : Nat} {w w' : World} {p mb mt : Nat} {vl vb : Value} {tv : Nat → Value} {S : TS}
theorem lC.keep {G:Nat→Prop} (h:lC B w p mb mt vl vb tv S) (hc:aZ G w w') (hF:∀b,TF p mb mt vl vb S.tx.length tv b→¬ G b):lC B w' p mb mt vl vb tv S:=⟨h.toTsp.keep hc hF,h.nd,h.txn,h.all,h.CZ,h.Aq⟩
theorem lC.below (h:lC B w p mb mt vl vb tv S) (hb:Below w.heap.size w w'):lC B w' p mb mt vl vb tv S:=⟨h.toTsp.below hb,h.nd,h.txn,h.all,h.CZ,h.Aq⟩
theorem lC.lt (h:lC B w p mb mt vl vb tv S) {b:Nat} (hb:TF p mb mt vl vb S.tx.length tv b):b<w.heap.size:=h.toTsp.lt hb
theorem lC.hi (h:lC B w p mb mt vl vb tv S) {b:Nat} (hb:TF p mb mt vl vb S.tx.length tv b):B≤b:=h.toTsp.hi hb
theorem fU (h:lC B w p mb mt vl vb tv S):Calls Tryz.prog 116 #[.pointer (some ⟨p,0,none⟩)] w fun e w'=> e=.returned (.bool true)∧w'=w:=by
 have c1:=h.c1
 have hq:=fun w=> run_neq_map_nil (P:=Tryz.prog) w 160 96 3 (some mb) Tryz.underlying160
 clear h
 go_enter Tryz.func116,Tryz.ntmps116
 go_wp2
 go_ret
 exact ⟨rfl,rfl⟩
theorem wJ (h:lC B w p mb mt vl vb tv S):Calls Tryz.prog 115 #[.pointer (some ⟨p,0,none⟩)] w fun e w'=> e=.returned (jD S.l.length)∧w'=w:=by
 have HI:=Lib.hid (fU h)
 have c0:=h.c0
 obtain ⟨al,cl,rfl,_⟩:=h.ls.slice
 clear h
 go_enter Tryz.func115,Tryz.ntmps115
 go_wp2_with fail
 refine HI.out.mono ?_
 rintro e w' ⟨rfl,rfl⟩
 go_wp2
 go_ret
 exact ⟨rfl,rfl⟩
theorem nU (n:Int) (w:World):Calls Tryz.prog 137 #[.int .i64 n] w fun e w'=> e=.returned (.bool (isSort n))∧w'=w:=by
 obtain ⟨R,hR⟩:∃R,R=isSort n:=⟨_,rfl⟩
 have HR:=Lib.hid hR
 rw [←hR]
 clear hR
 by_cases h1:1≤n
 ·by_cases h2:n≤4
  ·go_enter Tryz.func137,Tryz.ntmps137
   go_wp2
   go_ret
   exact ⟨by rw [HR.out];simp [isSort,h1,h2],rfl⟩
  ·go_enter Tryz.func137,Tryz.ntmps137
   go_wp2
   go_ret
   exact ⟨by rw [HR.out];simp [isSort,h1,h2],rfl⟩
 ·go_enter Tryz.func137,Tryz.ntmps137
  go_wp2
  go_ret
  exact ⟨by rw [HR.out];unfold isSort;rw [decide_eq_false (by omega)];rfl,rfl⟩
theorem bn (h:lC B w p mb mt vl vb tv S) (n k:Int):Calls Tryz.prog 117 #[.pointer (some ⟨p,0,none⟩),.int .i64 n,.int .i64 k] w fun e w'=> e=.returned (.bool (aY S.l n k))∧w'=w:=by
 obtain ⟨R,hR⟩:∃R,R=aY S.l n k:=⟨_,rfl⟩
 have HR:=Lib.hid hR
 rw [←hR]
 have c0:=h.c0
 obtain ⟨al,cl,el,_⟩:=h.ls.slice
 by_cases h1:0≤n
 ·obtain ⟨a,rfl⟩:=Int.eq_ofNat_of_zero_le h1
  by_cases h2:a<S.l.length
  ·obtain ⟨g,cap,ev,_,_,_,hc⟩:=h.ls.form (by omega)
   obtain ⟨t,ht⟩:∃t,S.l[a]? =some t:=⟨_,List.getElem?_eq_getElem h2⟩
   have z0:=hc a h2 0 (by decide)
   rw [oK ht,Nat.add_zero,show tf t 0=t.1 from rfl] at z0
   rw [ev] at c0
   have h9:(a:Int)<(S.l.length:Int):=by omega
   have HK:Hid (pF S.l a k=decide (t.1=k)):=Lib.hid (by unfold pF;rw [Int.toNat_natCast,ht])
   have HRR:Hid (R=(decide (k=0) || decide (t.1=k))):=Lib.hid (by rw [hR];unfold aY;rw [HK.out,decide_eq_true h1,decide_eq_true h9];rfl)
   by_cases hk:k=0
   ·have hkb:(k==0)=true:=by simpa using hk
    have HF:Hid (R=true):=Lib.hid (by rw [HRR.out,decide_eq_true hk];rfl)
    clear h hR hc ht el ev hk h1 h2
    go_enter Tryz.func117,Tryz.ntmps117
    go_wp2
    go_ret
    rw [HF.out]
    exact ⟨rfl,rfl⟩
   ·have hkb:(k==0)=false:=by simpa using hk
    have HF:Hid (R=(t.1==k)):=Lib.hid (by rw [HRR.out,decide_eq_false hk,Bool.false_or];rfl)
    clear h hR hc ht el ev hk h1 h2
    go_enter Tryz.func117,Tryz.ntmps117
    go_wp2
    go_ret
    rw [HF.out]
    exact ⟨rfl,rfl⟩
  ·have h9:¬ (a:Int)<(S.l.length:Int):=by omega
   have HF:Hid (R=false):=Lib.hid (by rw [hR];unfold aY;rw [decide_eq_false h9,Bool.and_false,Bool.false_and])
   rw [el] at c0
   clear h hR el h2
   go_enter Tryz.func117,Tryz.ntmps117
   go_wp2
   go_ret
   rw [HF.out]
   exact ⟨rfl,rfl⟩
 ·have HF:Hid (R=false):=Lib.hid (by rw [hR];unfold aY;rw [decide_eq_false h1,Bool.false_and,Bool.false_and])
  clear h hR el
  go_enter Tryz.func117,Tryz.ntmps117
  go_wp2
  go_ret
  rw [HF.out]
  exact ⟨rfl,rfl⟩
end
end Go.Proofs.YtpcjekgfnfjbpaaGreat
namespace Go.aG
theorem xE (S:TS) (a b:Int):dK S (1,a,b)=((decide (1≤a) && decide (a≤4)) && decide (0≤b)):=rfl
theorem xD (S:TS) (a b:Int):dK S (2,a,b)=(aY S.l a 0 && decide (b=0)):=rfl
theorem xC (S:TS) (a b:Int):dK S (3,a,b)=(aY S.l a 0 && decide (b=0)):=rfl
theorem xw (S:TS) (a b:Int):dK S (6,a,b)=(aY S.l a 0 && decide (b=0)):=rfl
theorem xu (S:TS) (a b:Int):dK S (7,a,b)=(aY S.l a 0 && decide (b=0)):=rfl
theorem xB (S:TS) (a b:Int):dK S (4,a,b)=(aY S.l a 2 && aY S.l b 0):=rfl
theorem xA (S:TS) (a b:Int):dK S (5,a,b)=(aY S.l a 0 && aY S.l b 0):=rfl
theorem xq (S:TS) (a b:Int):dK S (8,a,b)=(aY S.l a 0 && aY S.l b 9):=rfl
theorem BD (S:TS) (a b:Int):dK S (9,a,b)=((decide (0≤a) && decide (a<S.tx.length)) && decide (b=0)):=rfl
theorem uG (S:TS) (a b:Int):dK S (10,a,b)=(aY S.l a 9 && decide (b=0)):=rfl
theorem zM (S:TS) (k a b:Int) (h:k≠1∧k≠2∧k≠3∧k≠4∧k≠5∧k≠6∧k≠7∧k≠8∧k≠9∧k≠10):dK S (k,a,b)=false:=by
 obtain ⟨h1,h2,h3,h4,h5,h6,h7,h8,h9,h10⟩:=h
 simp [dK,h1,h2,h3,h4,h5,h6,h7,h8,h9,h10]
end Go.aG
namespace Go.Proofs.YtpcjekgfnfjbpaaGreat
open Go.RowKit Go.aG Go.ChangeShapes Go.Maps
attribute [local go_sem ↓] Go.wp_at_zero Go.wp_at_succ
section
variable {B : Nat} {w w' : World} {p mb mt : Nat} {vl vb : Value} {tv : Nat → Value} {S : TS}
theorem wI (h:lC B w p mb mt vl vb tv S) (t:Tm):Calls Tryz.prog 140 #[.pointer (some ⟨p,0,none⟩),sj t] w fun e w'=> e=.returned (.bool (dK S t))∧Below w.heap.size w w':=by
 obtain ⟨R,hR⟩:∃R,R=dK S t:=⟨_,rfl⟩
 obtain ⟨k,a,b⟩:=t
 have HR:=Lib.hid hR
 rw [←hR]
 have H:=Lib.hid h
 clear h hR
 go_enter Tryz.func140,Tryz.ntmps140
 go_upto_region 1 with (fail)
 refine aD (fun w1=> (w1.cell? ⟨w.heap.size,0,none⟩=some (.int .i64 k)∧w1.cell? ⟨w.heap.size,1,none⟩=some (.int .i64 a)∧w1.cell? ⟨w.heap.size,2,none⟩=some (.int .i64 b))∧Below w.heap.size w w1) ⟨⟨cell_of_row _ _ 0 _ _ (0,0) (heap_alloc_new w _),cell_of_row _ _ 1 _ _ (0,0) (heap_alloc_new w _),cell_of_row _ _ 2 _ _ (0,0) (heap_alloc_new w _)⟩,(Below.refl _ _).alloc (Nat.le_refl _) _⟩ ?_
 rintro w1 ⟨⟨e0,e1,e2⟩,bb1⟩
 have B1:=Lib.hid bb1
 have H1:=Lib.hid (H.out.below bb1)
 clear bb1
 by_cases k1:k=1
 ·subst k1
  rw [xE] at HR
  go_wp2_with fail
  refine (nU a _).mono ?_
  rintro e w' ⟨rfl,rfl⟩
  unfold isSort
  cases hs:decide (1≤a) && decide (a≤4) with
  | false=>
   have HF:Hid (R=false):=Lib.hid (by rw [HR.out,hs];rfl)
   clear hs
   go_wp2
   go_ret
   rw [HF.out]
   exact ⟨rfl,B1.out⟩
  | true=>
   have HF:Hid (R=decide (0≤b)):=Lib.hid (by rw [HR.out,hs];rfl)
   clear hs
   go_wp2
   go_ret
   rw [HF.out]
   exact ⟨rfl,B1.out⟩
 by_cases k9:k=9
 ·subst k9
  rw [BD] at HR
  have c3:=H1.out.c3
  obtain ⟨ab,cb,rfl,_⟩:=H1.out.bs.slice
  by_cases h1:0≤a
  ·by_cases h2:a<(S.tx.length:Int)
   ·have HF:Hid (R=(b==0)):=Lib.hid (by rw [HR.out,decide_eq_true h1,decide_eq_true h2];rfl)
    go_wp2
    go_quiet (fail)
    go_wp2
    go_ret
    rw [HF.out]
    exact ⟨rfl,Go.aG.below_drewN B1.out _⟩
   ·have HF:Hid (R=false):=Lib.hid (by rw [HR.out,decide_eq_false h2,Bool.and_false,Bool.false_and])
    have hd1:decide (0≤a)=true:=decide_eq_true h1
    have hd2:decide (a<(S.tx.length:Int))=false:=decide_eq_false h2
    clear h1 h2
    go_wp2
    go_quiet (fail)
    go_wp2
    go_ret
    rw [HF.out]
    exact ⟨rfl,Go.aG.below_drewN B1.out _⟩
  ·have HF:Hid (R=false):=Lib.hid (by rw [HR.out,decide_eq_false h1,Bool.false_and,Bool.false_and])
   have hd1:decide (0≤a)=false:=decide_eq_false h1
   clear h1
   go_wp2
   go_quiet (fail)
   go_wp2
   go_ret
   rw [HF.out]
   exact ⟨rfl,Go.aG.below_drewN B1.out _⟩
 by_cases k2:k=2
 ·subst k2
  rw [xD] at HR
  go_wp2_with fail
  refine (bn H1.out a 0).mono ?_
  rintro e w' ⟨rfl,rfl⟩
  cases hs:aY S.l a 0 with
  | false=>
   have HF:Hid (R=false):=Lib.hid (by rw [HR.out,hs];rfl)
   clear hs
   go_wp2
   go_ret
   rw [HF.out]
   exact ⟨rfl,B1.out⟩
  | true=>
   have HF:Hid (R=(b==0)):=Lib.hid (by rw [HR.out,hs];rfl)
   clear hs
   go_wp2
   go_ret
   rw [HF.out]
   exact ⟨rfl,B1.out⟩
 by_cases k3:k=3
 ·subst k3
  rw [xC] at HR
  go_wp2_with fail
  refine (bn H1.out a 0).mono ?_
  rintro e w' ⟨rfl,rfl⟩
  cases hs:aY S.l a 0 with
  | false=>
   have HF:Hid (R=false):=Lib.hid (by rw [HR.out,hs];rfl)
   clear hs
   go_wp2
   go_ret
   rw [HF.out]
   exact ⟨rfl,B1.out⟩
  | true=>
   have HF:Hid (R=(b==0)):=Lib.hid (by rw [HR.out,hs];rfl)
   clear hs
   go_wp2
   go_ret
   rw [HF.out]
   exact ⟨rfl,B1.out⟩
 by_cases k6:k=6
 ·subst k6
  rw [xw] at HR
  go_wp2_with fail
  refine (bn H1.out a 0).mono ?_
  rintro e w' ⟨rfl,rfl⟩
  cases hs:aY S.l a 0 with
  | false=>
   have HF:Hid (R=false):=Lib.hid (by rw [HR.out,hs];rfl)
   clear hs
   go_wp2
   go_ret
   rw [HF.out]
   exact ⟨rfl,B1.out⟩
  | true=>
   have HF:Hid (R=(b==0)):=Lib.hid (by rw [HR.out,hs];rfl)
   clear hs
   go_wp2
   go_ret
   rw [HF.out]
   exact ⟨rfl,B1.out⟩
 by_cases k7:k=7
 ·subst k7
  rw [xu] at HR
  go_wp2_with fail
  refine (bn H1.out a 0).mono ?_
  rintro e w' ⟨rfl,rfl⟩
  cases hs:aY S.l a 0 with
  | false=>
   have HF:Hid (R=false):=Lib.hid (by rw [HR.out,hs];rfl)
   clear hs
   go_wp2
   go_ret
   rw [HF.out]
   exact ⟨rfl,B1.out⟩
  | true=>
   have HF:Hid (R=(b==0)):=Lib.hid (by rw [HR.out,hs];rfl)
   clear hs
   go_wp2
   go_ret
   rw [HF.out]
   exact ⟨rfl,B1.out⟩
 by_cases k4:k=4
 ·subst k4
  rw [xB] at HR
  go_wp2_with fail
  refine (bn H1.out a 2).mono ?_
  rintro e w' ⟨rfl,rfl⟩
  cases hs:aY S.l a 2 with
  | false=>
   have HF:Hid (R=false):=Lib.hid (by rw [HR.out,hs];rfl)
   clear hs
   go_wp2
   go_ret
   rw [HF.out]
   exact ⟨rfl,B1.out⟩
  | true=>
   have HF:Hid (R=aY S.l b 0):=Lib.hid (by rw [HR.out,hs];rfl)
   clear hs
   go_wp2_with fail
   refine (bn H1.out b 0).mono ?_
   rintro e w' ⟨rfl,rfl⟩
   go_wp2
   go_ret
   rw [HF.out]
   exact ⟨rfl,B1.out⟩
 by_cases k5:k=5
 ·subst k5
  rw [xA] at HR
  go_wp2_with fail
  refine (bn H1.out a 0).mono ?_
  rintro e w' ⟨rfl,rfl⟩
  cases hs:aY S.l a 0 with
  | false=>
   have HF:Hid (R=false):=Lib.hid (by rw [HR.out,hs];rfl)
   clear hs
   go_wp2
   go_ret
   rw [HF.out]
   exact ⟨rfl,B1.out⟩
  | true=>
   have HF:Hid (R=aY S.l b 0):=Lib.hid (by rw [HR.out,hs];rfl)
   clear hs
   go_wp2_with fail
   refine (bn H1.out b 0).mono ?_
   rintro e w' ⟨rfl,rfl⟩
   go_wp2
   go_ret
   rw [HF.out]
   exact ⟨rfl,B1.out⟩
 by_cases k8:k=8
 ·subst k8
  rw [xq] at HR
  go_wp2_with fail
  refine (bn H1.out a 0).mono ?_
  rintro e w' ⟨rfl,rfl⟩
  cases hs:aY S.l a 0 with
  | false=>
   have HF:Hid (R=false):=Lib.hid (by rw [HR.out,hs];rfl)
   clear hs
   go_wp2
   go_ret
   rw [HF.out]
   exact ⟨rfl,B1.out⟩
  | true=>
   have HF:Hid (R=aY S.l b 9):=Lib.hid (by rw [HR.out,hs];rfl)
   clear hs
   go_wp2_with fail
   refine (bn H1.out b 9).mono ?_
   rintro e w' ⟨rfl,rfl⟩
   go_wp2
   go_ret
   rw [HF.out]
   exact ⟨rfl,B1.out⟩
 by_cases k10:k=10
 ·subst k10
  rw [uG] at HR
  go_wp2_with fail
  refine (bn H1.out a 9).mono ?_
  rintro e w' ⟨rfl,rfl⟩
  cases hs:aY S.l a 9 with
  | false=>
   have HF:Hid (R=false):=Lib.hid (by rw [HR.out,hs];rfl)
   clear hs
   go_wp2
   go_ret
   rw [HF.out]
   exact ⟨rfl,B1.out⟩
  | true=>
   have HF:Hid (R=(b==0)):=Lib.hid (by rw [HR.out,hs];rfl)
   clear hs
   go_wp2
   go_ret
   rw [HF.out]
   exact ⟨rfl,B1.out⟩
 have HF:Hid (R=false):=Lib.hid (HR.out.trans (zM S k a b ⟨k1,k2,k3,k4,k5,k6,k7,k8,k9,k10⟩))
 have b1:(k==1)=false:=by simpa using k1
 have b2:(k==2)=false:=by simpa using k2
 have b3:(k==3)=false:=by simpa using k3
 have b4:(k==4)=false:=by simpa using k4
 have b5:(k==5)=false:=by simpa using k5
 have b6:(k==6)=false:=by simpa using k6
 have b7:(k==7)=false:=by simpa using k7
 have b8:(k==8)=false:=by simpa using k8
 have b9:(k==9)=false:=by simpa using k9
 have b10:(k==10)=false:=by simpa using k10
 clear k1 k2 k3 k4 k5 k6 k7 k8 k9 k10
 go_wp2
 go_ret
 rw [HF.out]
 exact ⟨rfl,B1.out⟩
end
end Go.Proofs.YtpcjekgfnfjbpaaGreat
namespace Go.Proofs.YtpcjekgfnfjbpaaGreat
open Go.RowKit Go.aG Go.ChangeShapes Go.Maps
section
variable {B : Nat} {w w1 w' : World} {p mb mt : Nat} {vl vb : Value} {tv : Nat → Value} {l la : List Tm} {tx lx : List (List Int)} {xv : List Int → Nat} {nf : Nat → Int}
theorem Tsp.Dy {o:Obj} {v':Value} {y:Nat→Nat→Value} {t:Tm} (h:Tsp B w p mb mt vl vb tv l la tx lx xv nf) (hB:B≤w.heap.size) (ho:cO 96 3 w1 v' (l.length+1) (jg l.length (Ao l) y)) (hy:∀i,y 0 i=.int .i64 (tf t i)) (hg:(w.alloc o).grownBy w1 vl.ownBlock) (hp:Placed w vl v'):
  (w1.cell? ⟨p,0,none⟩=some vl∧w1.frozen? ⟨p,0,none⟩=false)∧Tsp B (w1.setCell ⟨p,0,none⟩ v') p mb mt v' vb tv (l++ [t]) la tx lx xv nf∧aZ (fun b=> b=p∨vl.ownBlock=some b) w (w1.setCell ⟨p,0,none⟩ v')∧∀b,v'.ownBlock=some b→vl.ownBlock=some b∨w.heap.size≤b:=by
 have C1:aZ (fun b=> vl.ownBlock=some b) w w1:=aZ.sV hg
 have hpl:vl.ownBlock≠some p:=fun e=> h.ls.dA h.row (by decide) e
 have iX:=h.row.heap (C1.block p h.row.lt hpl)
 have nM:∀b,v'.ownBlock=some b→vl.ownBlock=some b∨w.heap.size≤b:=fun b hb=> by
  rcases hp with hp | hp
  ·exact .inl (hp▸hb)
  ·exact .inr (hp b hb)
 have T1:Tsp B w1 p mb mt v' vb tv (l++ [t]) la tx lx xv nf∨True:=.inr trivial
 have c:=fun (i:Nat)=> C1.cell (p:=⟨p,i,none⟩) h.row.lt hpl
 have Cz:=h.am.heap (C1.block mb h.am.lt fun e=> h.ls.iM h.am e)
 have AZ:=h.xm.heap (C1.block mt h.xm.lt fun e=> h.ls.iM h.xm e)
 have EG:=h.bs.jh C1 fun b hb e=> h.bs.mP h.ls (by decide) hb e
 have FM:∀j b,tx[j]? =some b→Own .u8 5 B w1 (tv j) b.length (bf b):=fun j b hb=> (h.bt j b hb).pQ C1 fun c hcc e=> (h.bt j b hb).kZ.mP h.ls (by decide) hcc e
 have C2:aZ (fun b=> b=p) w1 (w1.setCell ⟨p,0,none⟩ v'):=.set _ _ ⟨p,0,none⟩ _ rfl
 have s1:=C1.size
 have cc:=fun (i:Nat) (hi:i≠0)=> (World.cell?_setCell_other w1 _ _ v' (fun e:(⟨p,0,none⟩:Addr)=⟨p,i,none⟩=> hi (by cases e;rfl))).trans (c i)
 have e0:(w1.setCell ⟨p,0,none⟩ v').cell? ⟨p,0,none⟩=some v':=World.cell?_setCell_same _ _ _ ((c 0).trans h.c0)
 refine ⟨⟨(c 0).trans h.c0,iX.free 0⟩,⟨iX.setCell _ rfl _,e0,(cc 1 (by decide)).trans h.c1,(cc 2 (by decide)).trans h.c2,(cc 3 (by decide)).trans h.c3,fun k hk=> (cc (4+k) (by omega)).trans (h.nx k hk),
  (qz ho hy).jh C2 fun b hb e=> (qz ho hy).dA iX (by decide) (e▸hb),Cz.heap (C2.block mb Cz.lt fun e=> Cz.jC (e▸iX)),AZ.heap (C2.block mt AZ.lt fun e=> AZ.jC (e▸iX)),
  EG.jh C2 fun b hb e=> EG.dA iX (by decide) (e▸hb),fun j b hb=> (FM j b hb).pQ C2 fun c hcc e=> (FM j b hb).kZ.dA iX (by decide) (e▸hcc),h.ne,h.hp,h.hb,h.hm,fun b hb=> (nM b hb).elim (h.hl b) (fun h'=> Nat.le_trans hB h'),h.hv⟩,
  (C1.mono fun _ _ h=> .inr h).trans (C2.mono fun _ _ h=> .inl h) fun _ _ h=> h,nM⟩
theorem Tsp.dW {t:Tm} (h:Tsp B w p mb mt vl vb tv l la tx lx xv nf) (hla:∀t,t ∈ la→jT t) (hok:jT t) (hn:t ∉ la) (hnd:la.Nodup) (hl:la.length≤1000000):
  ∃w',(Instr.mapUpdate 160 (.map (some mb)) (sj t) (jD la.length)).run Tryz.prog w=.ok () w'∧Tsp B w' p mb mt vl vb tv l (la++ [t]) tx lx xv nf∧aZ (fun b=> b=mb) w w':=by
 obtain ⟨w',h1,h2,h3⟩:=xO.put (val':=nH (la++ [t])) h.am hla hok hn hl (pz (j:=la.length) (aR hnd hn) (by rw [List.getElem?_append_right (Nat.le_refl _),Nat.sub_self];rfl)) (by omega) fun y hy=> by
  exact iY (aR hnd hn) (List.prefix_append _ _) hy
 have C:aZ (fun b=> b=mb) w w':=aZ.mE h3 fun b hb=> by cases hb;rfl
 have hpm:p≠mb:=fun e=> h.am.jC (e▸h.row)
 have c:=fun (i:Nat)=> C.cell (p:=⟨p,i,none⟩) h.row.lt hpm
 exact ⟨w',h1,⟨h.row.heap (C.block p h.row.lt hpm),(c 0).trans h.c0,(c 1).trans h.c1,(c 2).trans h.c2,(c 3).trans h.c3,fun k hk=> (c (4+k)).trans (h.nx k hk),h.ls.jh C fun b hb e=> h.ls.iM h.am (e▸hb),h2,h.xm.heap (C.block mt h.xm.lt fun e=> h.ne e.symm),
  h.bs.jh C fun b hb e=> h.bs.iM h.am (e▸hb),fun j b hb=> (h.bt j b hb).pQ C fun c hcc e=> (h.bt j b hb).kZ.iM h.am (e▸hcc),h.ne,h.hp,h.hb,h.hm,h.hl,h.hv⟩,C⟩
theorem Tsp.Gq (h:Tsp B w p mb mt vl vb tv l la tx lx xv nf) (k:Nat) (hk:k<5) (x:Int) {Gu:Nat→Int} (hf:∀j,j<5→Gu j=if j=k then x else nf j):
  Tsp B (w.setCell ⟨p,4+k,none⟩ (.int .i64 x)) p mb mt vl vb tv l la tx lx xv Gu∧aZ (fun b=> b=p) w (w.setCell ⟨p,4+k,none⟩ (.int .i64 x)):=by
 obtain ⟨h1,h2,h3,h4,h5,h6,h7,h8⟩:=h.cellP (4+k) (.int .i64 x)
 refine ⟨⟨h3,(h1 0 (by omega)).trans h.c0,(h1 1 (by omega)).trans h.c1,(h1 2 (by omega)).trans h.c2,(h1 3 (by omega)).trans h.c3,fun j hj=> ?_,h4,h5,h6,h7,h8,h.ne,h.hp,h.hb,h.hm,h.hl,h.hv⟩,.set _ _ ⟨p,4+k,none⟩ _ rfl⟩
 rw [hf j hj]
 by_cases e:j=k
 ·subst e
  rw [if_pos rfl]
  exact h2 (by omega)
 ·rw [if_neg e]
  exact (h1 (4+j) (by omega)).trans (h.nx j hj)
theorem Tsp.Dx {o:Obj} {v' u:Value} {y:Nat→Nat→Value} {b0:List Int} (h:Tsp B w p mb mt vl vb tv l la tx lx xv nf) (hB:B≤w.heap.size) (ho:cO 23 1 w1 v' (tx.length+1) (jg tx.length (fun j _=> tv j) y)) (hy:y 0 0=u) (hu:Own .u8 5 B w u b0.length (bf b0)) (hg:(w.alloc o).grownBy w1 vb.ownBlock) (hp:Placed w vb v'):
  (w1.cell? ⟨p,3,none⟩=some vb∧w1.frozen? ⟨p,3,none⟩=false)∧Tsp B (w1.setCell ⟨p,3,none⟩ v') p mb mt vl v' (fun j=> if j=tx.length then u else tv j) l la (tx++ [b0]) lx xv nf∧aZ (fun b=> b=p∨vb.ownBlock=some b) w (w1.setCell ⟨p,3,none⟩ v')∧∀b,v'.ownBlock=some b→vb.ownBlock=some b∨w.heap.size≤b:=by
 have C1:aZ (fun b=> vb.ownBlock=some b) w w1:=aZ.sV hg
 have hpl:vb.ownBlock≠some p:=fun e=> h.bs.dA h.row (by decide) e
 have iX:=h.row.heap (C1.block p h.row.lt hpl)
 have nM:∀b,v'.ownBlock=some b→vb.ownBlock=some b∨w.heap.size≤b:=fun b hb=> by
  rcases hp with hp | hp
  ·exact .inl (hp▸hb)
  ·exact .inr (hp b hb)
 have c:=fun (i:Nat)=> C1.cell (p:=⟨p,i,none⟩) h.row.lt hpl
 have Cz:=h.am.heap (C1.block mb h.am.lt fun e=> h.bs.iM h.am e)
 have AZ:=h.xm.heap (C1.block mt h.xm.lt fun e=> h.bs.iM h.xm e)
 have Jq:=h.ls.jh C1 fun b hb e=> h.ls.mP h.bs (by decide) hb e
 have FM:∀j b,tx[j]? =some b→Own .u8 5 B w1 (tv j) b.length (bf b):=fun j b hb=> (h.bt j b hb).pQ C1 fun c hcc e=> (h.bt j b hb).kZ.mP h.bs (by decide) hcc e
 have u1:Own .u8 5 B w1 u b0.length (bf b0):=hu.pQ C1 fun c hcc e=> hu.kZ.mP h.bs (by decide) hcc e
 have C2:aZ (fun b=> b=p) w1 (w1.setCell ⟨p,3,none⟩ v'):=.set _ _ ⟨p,3,none⟩ _ rfl
 have s1:=C1.size
 have cc:=fun (i:Nat) (hi:i≠3)=> (World.cell?_setCell_other w1 _ _ v' (fun e:(⟨p,3,none⟩:Addr)=⟨p,i,none⟩=> hi (by cases e;rfl))).trans (c i)
 have e0:(w1.setCell ⟨p,3,none⟩ v').cell? ⟨p,3,none⟩=some v':=World.cell?_setCell_same _ _ _ ((c 3).trans h.c3)
 have EG:cO 23 1 w1 v' (tx++ [b0]).length (fun j _=> if j=tx.length then u else tv j):=by
  rw [List.length_append,List.length_singleton]
  refine ho.congr fun j hj i hi=> ?_
  obtain rfl:i=0:=by omega
  by_cases e:j=tx.length
  ·subst e;rw [pU,hy,if_pos rfl]
  ·rw [lM (by omega),if_neg e]
 have Ki:∀j b,(tx++ [b0])[j]? =some b→Own .u8 5 B w1 (if j=tx.length then u else tv j) b.length (bf b):=fun j b hb=> by
  by_cases e:j=tx.length
  ·subst e
   rw [List.getElem?_append_right (Nat.le_refl _),Nat.sub_self] at hb
   cases hb
   rw [if_pos rfl]
   exact u1
  ·have hlt:=(List.getElem?_eq_some_iff.1 hb).1
   rw [List.length_append,List.length_singleton] at hlt
   rw [List.getElem?_append_left (by omega)] at hb
   rw [if_neg e]
   exact FM j b hb
 refine ⟨⟨(c 3).trans h.c3,iX.free 3⟩,⟨iX.setCell _ rfl _,(cc 0 (by decide)).trans h.c0,(cc 1 (by decide)).trans h.c1,(cc 2 (by decide)).trans h.c2,e0,fun k hk=> (cc (4+k) (by omega)).trans (h.nx k hk),
  Jq.jh C2 fun b hb e=> Jq.dA iX (by decide) (e▸hb),Cz.heap (C2.block mb Cz.lt fun e=> Cz.jC (e▸iX)),AZ.heap (C2.block mt AZ.lt fun e=> AZ.jC (e▸iX)),
  EG.jh C2 fun b hb e=> EG.dA iX (by decide) (e▸hb),fun j b hb=> (Ki j b hb).pQ C2 fun c hcc e=> (Ki j b hb).kZ.dA iX (by decide) (e▸hcc),h.ne,h.hp,h.hb,h.hm,h.hl,fun b hb=> (nM b hb).elim (h.hv b) (fun h'=> Nat.le_trans hB h')⟩,
  (C1.mono fun _ _ h=> .inr h).trans (C2.mono fun _ _ h=> .inl h) fun _ _ h=> h,nM⟩
theorem Tsp.Gs {b0:List Int} {n:Nat} {Dq:List Int→Nat} (h:Tsp B w p mb mt vl vb tv l la tx lx xv nf) (hlx:∀b,b ∈ lx→Da b) (hok:Da b0) (hn:b0 ∉ lx) (hl:lx.length≤1000000) (hv:Dq b0=n) (hn2:n≤1000000) (hold:∀y,y ∈ lx→Dq y=xv y):
  ∃w',(Instr.mapUpdate 161 (.map (some mt)) (Bd b0) (jD n)).run Tryz.prog w=.ok () w'∧Tsp B w' p mb mt vl vb tv l la tx (lx++ [b0]) Dq nf∧aZ (fun b=> b=mt) w w':=by
 obtain ⟨w',h1,h2,h3⟩:=xM.put (val':=Dq) h.xm hlx hok hn hl hv hn2 hold
 have C:aZ (fun b=> b=mt) w w':=aZ.mE h3 fun b hb=> by cases hb;rfl
 have hpm:p≠mt:=fun e=> h.xm.jC (e▸h.row)
 have c:=fun (i:Nat)=> C.cell (p:=⟨p,i,none⟩) h.row.lt hpm
 exact ⟨w',h1,⟨h.row.heap (C.block p h.row.lt hpm),(c 0).trans h.c0,(c 1).trans h.c1,(c 2).trans h.c2,(c 3).trans h.c3,fun k hk=> (c (4+k)).trans (h.nx k hk),h.ls.jh C fun b hb e=> h.ls.iM h.xm (e▸hb),h.am.heap (C.block mb h.am.lt fun e=> h.ne e),h2,
  h.bs.jh C fun b hb e=> h.bs.iM h.xm (e▸hb),fun j b hb=> (h.bt j b hb).pQ C fun c hcc e=> (h.bt j b hb).kZ.iM h.xm (e▸hcc),h.ne,h.hp,h.hb,h.hm,h.hl,h.hv⟩,C⟩
end
end Go.Proofs.YtpcjekgfnfjbpaaGreat
namespace Go.Proofs.YtpcjekgfnfjbpaaGreat
open Go.RowKit Go.aG Go.ChangeShapes Go.Maps
attribute [local go_sem ↓] Go.wp_at_zero Go.wp_at_succ
section
variable {B : Nat} {w w' : World} {p mb mt : Nat} {vl vb : Value} {tv : Nat → Value} {S : TS}
theorem lC.Ar {t:Tm} {jM:Value} (h:lC B w p mb mt vl vb tv S) (hot:jT t) (hn:t ∉ S.l) {nf:Nat→Int} (hp:Tsp B w' p mb mt jM vb tv (S.l++ [t]) (S.l++ [t]) S.tx S.tx (qy S) nf) (hf:∀k:Nat,k<5→nf k=jJ (S.l++ [t]) k):lC B w' p mb mt jM vb tv (S.add t):=by
 have hx:∀b,b ∈ S.tx→qy (S.add t) b=qy S b:=fun b hb=> iY (aR h.nd hn) (List.prefix_append _ _) (h.all _ (iZ hb))
 exact ⟨⟨hp.row,hp.c0,hp.c1,hp.c2,hp.c3,fun k hk=> (hp.nx k hk).trans (by rw [hf k hk];rfl),hp.ls,hp.am,hp.xm.congr hx,hp.bs,hp.bt,hp.ne,hp.hp,hp.hb,hp.hm,hp.hl,hp.hv⟩,aR h.nd hn,h.txn,fun j hj=> List.mem_append.2 (.inl (h.all j hj)),
  fun u hu=> (List.mem_append.1 hu).elim (h.CZ u) fun e=> by rw [List.mem_singleton.1 e];exact hot,h.Aq⟩
theorem lN (h:lC B w p mb mt vl vb tv S) (hB:B≤w.heap.size) (t:Tm) (hot:jT t) (hn:t ∉ S.l) (hk:t.1=1→1≤t.2.1∧t.2.1≤4) (hl:S.l.length≤1000):
  Calls Tryz.prog 138 #[.pointer (some ⟨p,0,none⟩),sj t] w fun e w'=> e=.returned (.tuple #[jD S.l.length,.int .i64 0])∧∃jM,lC B w' p mb mt jM vb tv (S.add t)∧aZ (fun b=> b=p∨b=mb∨vl.ownBlock=some b) w w'∧∀b,jM.ownBlock=some b→vl.ownBlock=some b∨w.heap.size≤b:=by
 have H:=Lib.hid h
 have AX:=Lib.hid hB
 have rR:=Lib.hid hot
 have HN:=Lib.hid hn
 have HK:=Lib.hid hk
 have HL:=Lib.hid hl
 clear h hB hot hn hk hl
 go_enter Tryz.func138,Tryz.ntmps138
 go_upto_region 1 with (fail)
 refine aD (fun w1=> (∀i,i<3→w1.cell? ⟨w.heap.size,i,none⟩=some (.int .i64 (tf t i)))∧w.heap.size<w1.heap.size∧Below w.heap.size w w1) ⟨fun i hi=> by rcases (by omega:i=0∨i=1∨i=2) with rfl | rfl | rfl<;> exact cell_of_row _ _ _ _ _ (0,0) (heap_alloc_new w _),by rw [World.size_alloc];omega,(Below.refl _ _).alloc (Nat.le_refl _) _⟩ ?_
 rintro w1 ⟨hc1,hlt1,bb1⟩
 have ql:=Lib.hid hc1
 have wh:=Lib.hid hlt1
 have B1:=Lib.hid bb1
 have H1:=Lib.hid (H.out.below bb1)
 have c0:=H1.out.c0
 obtain ⟨al,cl,el,_⟩:=H1.out.ls.slice
 have Fg:=Lib.hid el
 rw [el] at c0
 have h9:¬ (65536:Int)≤(S.l.length:Int):=by have:=HL.out;omega
 clear hc1 hlt1 bb1 el
 go_upto_region 4 with (fail)
 clear c0
 apply bJ (n:=56) [.f,.e,.e,.e,.e,.e,.c,.c,.f,.f,.c] 1 (by kernel_rfl) (by kernel_rfl) (by kernel_rfl) rfl
 ·intro w5 zT
  have c0:=(H1.out.below zT).c0
  rw [Fg.out] at c0
  have Gf:Hid (∀i,i<3→w5.cell? ⟨w.heap.size,0+i,none⟩=some (.int .i64 (tf t i))):=fun i hi=> by rw [Nat.zero_add];exact (zT.cell (p:=⟨w.heap.size,i,none⟩) wh.out).trans (ql.out i hi)
  simp only [aM,Cl.qh,cond_true,cond_false]
  repeat (first | (refine nY (y:=fun i=> .int .i64 (tf t i)) rfl rfl rfl Tryz.underlying96 rfl Tryz.sizeTm Gf.out ?_) | still_step)
  exact wpStill_nil rfl
 ·intro w5
  simp only [aM,Cl.yV,cond_true,cond_false]
  repeat still_step
  exact wpStill_nil rfl
 ·simp only [aM,Cl.fH,cond_true,cond_false]
  refine fJ ((Below.refl _ _).drew) (fun K hK=> ?_)
  rw [if_pos (ah rfl)]
  refine nQ 159 96 1 _ rfl Tryz.underlying159 (cB 3 (fun i=> .int .i64 (tf t i))) (by kernel_rfl) (hK _ _ (((Below.refl _ _).drew).alloc (Nat.le_refl _) _) (fI ?_))
  clear hK K
  have H2:=Lib.hid (H1.out.below ((Below.refl w1.heap.size w1).drew))
  refine jk (w0:=w1.drew) rfl _ _ rfl rfl rfl (Fg.out▸H2.out.ls) (by decide) Tryz.underlying159 Tryz.infoTm rfl rfl (fun i _=> rfl) (by have:=HL.out;unfold maxLen;omega) (by have:=HL.out;omega) ?_
  intro v4 w4 Df hg4 JA
  obtain ⟨⟨e0,f0⟩,Ew,Cv,JX⟩:=H2.out.toTsp.Dy (t:=t) (Nat.le_trans AX.out B1.out.size) Df (fun _=> rfl) (Fg.out▸hg4) (Fg.out▸JA)
  rw [Fg.out] at e0
  have T5:=Lib.hid Ew
  have C5:Hid (aZ (fun b=> b=p∨vl.ownBlock=some b) w1 _):=Lib.hid ((aZ.of_below ((Below.refl w1.heap.size w1).drew) _).trans Cv fun _ _ h=> h)
  have F5:=Lib.hid JX
  obtain ⟨a4,q4,rfl,_⟩:=Df.slice
  clear Df hg4 JA Ew Cv JX
  go_wp2
  refine oh ?_
  go_upto_region 5 with (fail)
  refine aD (fun w5=> Tsp B w5 p mb mt (.slice a4 (S.l.length+1) q4) vb tv (S.l++ [t]) S.l S.tx S.tx (qy S) (fun k=> jJ S.l k)∧aZ (fun b=> b=p∨vl.ownBlock=some b) w1 w5) ⟨T5.out,C5.out⟩ ?_
  rintro w5 ⟨Ew,Cv⟩
  have T5:=Lib.hid Ew
  have Gf:Hid (∀i,i<3→w5.cell? ⟨w.heap.size,i,none⟩=some (.int .i64 (tf t i))):=fun i hi=> (Cv.cell (p:=⟨w.heap.size,i,none⟩) wh.out (fun hF=> hF.elim (fun h=> Nat.ne_of_gt H.out.row.lt h) (fun h=> Nat.lt_irrefl _ (H.out.ls.lt _ h)))).trans (ql.out i hi)
  have CU:Hid (w.heap.size<w5.heap.size):=Lib.hid (Nat.lt_of_lt_of_le wh.out Cv.size)
  have C5:=Lib.hid Cv
  clear Ew Cv e0 f0
  obtain ⟨w6,hrun,JN,JY⟩:=(T5.out.below ((Below.refl w5.heap.size w5).drew)).dW H.out.CZ rR.out HN.out H.out.nd (by have:=HL.out;omega)
  have tZ:Hid ((Instr.mapUpdate 160 (.map (some mb)) (.agg (cB 3 fun i=> .int .i64 (tf t i))) (.int .i64 (S.l.length:Int))).run Tryz.prog w5.drew=.ok () w6):=Lib.hid hrun
  have T6:=Lib.hid JN
  have C6:Hid (aZ (fun b=> b=mb) w5 w6):=Lib.hid ((aZ.of_below ((Below.refl w5.heap.size w5).drew) _).trans JY fun _ _ h=> h)
  clear hrun JN JY
  apply bJ (n:=56) [.e,.e,.e,.e,.e,.e,.c] 0 (by kernel_rfl) (by kernel_rfl) (by kernel_rfl) rfl
  ·intro w7 Dl
   have c1:=(T5.out.below Dl).c1
   have NH:Hid (∀i,i<3→w7.cell? ⟨w.heap.size,0+i,none⟩=some (.int .i64 (tf t i))):=fun i hi=> by rw [Nat.zero_add];exact (Dl.cell (p:=⟨w.heap.size,i,none⟩) CU.out).trans (Gf.out i hi)
   simp only [aM,Cl.qh,cond_true,cond_false]
   repeat (first | (refine nY (y:=fun i=> .int .i64 (tf t i)) rfl rfl rfl Tryz.underlying96 rfl Tryz.sizeTm NH.out ?_) | still_step)
   exact wpStill_nil rfl
  ·intro w7
   simp only [aM,Cl.yV,cond_true,cond_false]
   repeat still_step
   exact wpStill_nil rfl
  ·simp only [aM,Cl.fH,cond_true,cond_false]
   refine fI ?_
   have hrun:=tZ.out
   go_wp2
   refine oh ?_
   clear hrun
   go_upto_region 6 with (fail)
   have Fj:Hid (∀i,i<3→w6.cell? ⟨w.heap.size,i,none⟩=some (.int .i64 (tf t i))):=fun i hi=> (C6.out.cell (p:=⟨w.heap.size,i,none⟩) CU.out (fun h=> Nat.ne_of_gt H.out.am.lt h)).trans (Gf.out i hi)
   have EY:Hid (w.heap.size<w6.heap.size):=Lib.hid (Nat.lt_of_lt_of_le CU.out C6.out.size)
   have Lh:Hid (aZ (fun b=> b=p∨b=mb∨vl.ownBlock=some b) w w6):=Lib.hid ((((aZ.of_below B1.out _).trans (C5.out.mono fun b _ h=> h.elim .inl fun h=> .inr (.inr h)) fun _ _ h=> h).trans (C6.out.mono fun b _ h=> .inr (.inl h)) fun _ _ h=> h))
   have Lg:Hid (∀b,(Value.slice a4 (S.l.length+1) q4).ownBlock=some b→vl.ownBlock=some b∨w.heap.size≤b):=Lib.hid fun b hb=> (F5.out b hb).imp id fun h=> Nat.le_trans B1.out.size h
   have e0:=Fj.out 0 (by decide)
   rw [show tf t 0=t.1 from rfl] at e0
   by_cases hk:t.1=1
   ·have hkb:(t.1==1)=true:=by simpa using hk
    obtain ⟨hA1,hA2⟩:=HK.out hk
    obtain ⟨k,hkk⟩:=Int.eq_ofNat_of_zero_le (show 0≤t.2.1 by omega)
    have hk5:k<5:=by omega
    go_upto_region 7 with (fail)
    have FE:(k:Int)<5:=by omega
    have hok:=rR.out.2.2
    have hmin: -9223372036854775808≤min t.2.2 4611686018427387904∧min t.2.2 4611686018427387904≤4611686018427387904:=by have:=hok.1;omega
    have hwr:IntKind.i64.wrap (min t.2.2 4611686018427387904+1)=min t.2.2 4611686018427387904+1:=gM (by omega) (by omega)
    apply bJ (n:=56) [.e,.e,.e,.e,.e,.e,.e,.e,.e,.e,.e,.e,.e,.e,.e,.e,.e,.e,.c] 0 (by kernel_rfl) (by kernel_rfl) (by kernel_rfl) rfl
    ·intro w7 Dl
     have z0:=((T6.out.below Dl).nx k hk5)
     have e1:=(Dl.cell (p:=⟨w.heap.size,1,none⟩) EY.out).trans (Fj.out 1 (by decide))
     have e2:=(Dl.cell (p:=⟨w.heap.size,2,none⟩) EY.out).trans (Fj.out 2 (by decide))
     rw [show tf t 1=t.2.1 from rfl,hkk] at e1
     rw [show tf t 2=t.2.2 from rfl] at e2
     simp only [aM,Cl.qh,cond_true,cond_false]
     repeat still_step
     exact wpStill_nil rfl
    ·intro w7
     simp only [aM,Cl.yV,cond_true,cond_false]
     repeat still_step
     exact wpStill_nil rfl
    ·simp only [aM,Cl.fH,cond_true,cond_false]
     refine fI ?_
     have T7:=Lib.hid (T6.out.below ((Below.refl w6.heap.size w6).drew))
     have z0:=T7.out.nx k hk5
     have f0:=T7.out.row.free (4+k)
     obtain ⟨Eu,Ez⟩:=T7.out.Gq k hk5 (max (jJ S.l k) (min t.2.2 4611686018427387904+1)) (Gu:=fun j=> jJ (S.l++ [t]) j) fun j hj=> by
      rw [gZ]
      by_cases e:j=k
      ·subst e
       rw [if_pos ⟨hk,hkk⟩,if_pos rfl]
       rfl
      ·rw [if_neg (fun h=> e (by have:=h.2;omega)),if_neg e]
     have FIN:=Lib.hid (H.out.Ar rR.out HN.out Eu fun k _=> rfl)
     have NP:Hid (aZ (fun b=> b=p∨b=mb∨vl.ownBlock=some b) w _):=Lib.hid ((Lh.out.trans (aZ.of_below ((Below.refl w6.heap.size w6).drew) (fun _=> False)) fun _ _ h=> h.elim).trans (Ez.mono fun b _ h=> .inl h) fun _ _ h=> h)
     clear hk hkk Eu Ez hmin hok hA1 hA2 FE
     go_wp2
     refine oh ?_
     clear z0 f0 hwr
     go_wp2
     go_ret2
     exact ⟨rfl,_,FIN.out,NP.out,Lg.out⟩
   ·have hkb:(t.1==1)=false:=by simpa using hk
    have FIN:=Lib.hid (H.out.Ar rR.out HN.out T6.out fun k _=> by rw [gZ,if_neg fun h=> hk h.1])
    clear hk
    go_wp2
    go_ret2
    exact ⟨rfl,_,FIN.out,Lh.out,Lg.out⟩
end
end Go.Proofs.YtpcjekgfnfjbpaaGreat
namespace Go.Proofs.YtpcjekgfnfjbpaaGreat
open Go.RowKit Go.aG Go.ChangeShapes Go.Maps
attribute [local go_sem ↓] Go.wp_at_zero Go.wp_at_succ
def jK (B:Nat) (w:World) (p:Nat) (F:Nat→Prop) (S:TS):Prop:=
 ∃mb mt vl vb tv,lC B w p mb mt vl vb tv S∧S.Ok∧∀b,F b ↔ TF p mb mt vl vb S.tx.length tv b
section
variable {B : Nat} {w w' : World} {p : Nat} {F : Nat → Prop} {S : TS}
theorem jK.below (h:jK B w p F S) (hb:Below w.heap.size w w'):jK B w' p F S:=by
 obtain ⟨mb,mt,vl,vb,tv,h1,h2,h3⟩:=h
 exact ⟨mb,mt,vl,vb,tv,h1.below hb,h2,h3⟩
theorem jK.keep {G:Nat→Prop} (h:jK B w p F S) (hc:aZ G w w') (hF:∀b,F b→¬ G b):jK B w' p F S:=by
 obtain ⟨mb,mt,vl,vb,tv,h1,h2,h3⟩:=h
 exact ⟨mb,mt,vl,vb,tv,h1.keep hc fun b hb=> hF b ((h3 b).2 hb),h2,h3⟩
theorem jK.hi (h:jK B w p F S) {b:Nat} (hb:F b):B≤b:=by
 obtain ⟨mb,mt,vl,vb,tv,h1,h2,h3⟩:=h
 exact h1.hi ((h3 b).1 hb)
theorem jK.lt (h:jK B w p F S) {b:Nat} (hb:F b):b<w.heap.size:=by
 obtain ⟨mb,mt,vl,vb,tv,h1,h2,h3⟩:=h
 exact h1.lt ((h3 b).1 hb)
theorem jK.ok (h:jK B w p F S):S.Ok:=by
 obtain ⟨mb,mt,vl,vb,tv,h1,h2,h3⟩:=h
 exact h2
end
section
variable {B : Nat} {w w' : World} {p mb mt : Nat} {vl vb : Value} {tv : Nat → Value} {S : TS}
theorem TF.add {jM:Value} {n:Nat} {N:Nat} (hf:∀b,jM.ownBlock=some b→vl.ownBlock=some b∨N≤b):∀b,TF p mb mt jM vb n tv b→TF p mb mt vl vb n tv b∨N≤b:=by
 intro b hb
 rcases hb with h | h | h | h | h
 ·exact .inl (.inl h)
 ·exact .inl (.inr (.inl h))
 ·exact .inl (.inr (.inr (.inl h)))
 ·exact (hf b h).imp (fun h=> .inr (.inr (.inr (.inl h)))) id
 ·exact .inl (.inr (.inr (.inr (.inr h))))
theorem jo {F:Nat→Prop} (h:jK B w p F S) (hB:B≤w.heap.size) (t:Tm) (hot:jT t) (hl:S.l.length≤1000):
  Calls Tryz.prog 82 #[.pointer (some ⟨p,0,none⟩),sj t] w fun e w'=> e=.returned (.tuple #[.int .i64 (dW S t).1,.int .i64 (dW S t).2])∧∃F',jK B w' p F' (S.put t)∧aZ F w w'∧∀b,F' b→F b∨w.heap.size≤b:=by
 obtain ⟨mb,mt,vl,vb,tv,h1,h2,h3⟩:=h
 have H:=Lib.hid h1
 have kr:=Lib.hid h2
 have oC:=Lib.hid h3
 have AX:=Lib.hid hB
 have rR:=Lib.hid hot
 have HL:=Lib.hid hl
 obtain ⟨PA,xY⟩:∃x,x=dW S t:=⟨_,rfl⟩
 obtain ⟨SP,hSP⟩:∃x,x=S.put t:=⟨_,rfl⟩
 rw [←xY,←hSP]
 have zf:=Lib.hid xY
 have wu:=Lib.hid hSP
 clear h1 h2 h3 hB hot hl xY hSP
 go_enter Tryz.func82,Tryz.ntmps82
 go_upto_region 1 with (fail)
 refine aD (fun w1=> (∀i,i<3→w1.cell? ⟨w.heap.size,i,none⟩=some (.int .i64 (tf t i)))∧w.heap.size<w1.heap.size∧Below w.heap.size w w1) ⟨fun i hi=> by rcases (by omega:i=0∨i=1∨i=2) with rfl | rfl | rfl<;> exact cell_of_row _ _ _ _ _ (0,0) (heap_alloc_new w _),by rw [World.size_alloc];omega,(Below.refl _ _).alloc (Nat.le_refl _) _⟩ ?_
 rintro w1 ⟨hc1,hlt1,bb1⟩
 have ql:Hid (∀i,i<3→w1.cell? ⟨w.heap.size,0+i,none⟩=some (.int .i64 (tf t i))):=Lib.hid fun i hi=> by rw [Nat.zero_add];exact hc1 i hi
 have wh:=Lib.hid hlt1
 have B1:=Lib.hid bb1
 have H1:=Lib.hid (H.out.below bb1)
 clear hc1 hlt1 bb1
 go_wp2_with fail
 refine (fU H1.out).mono ?_
 rintro e w1' ⟨rfl,rfl⟩
 go_wp2_with (refine ig (y:=fun i=> .int .i64 (tf t i)) rfl rfl rfl Tryz.underlying96 rfl Tryz.sizeTm ql.out ?_)
 refine (wI H1.out t).mono ?_
 rintro e w2 ⟨rfl,b2⟩
 have H2:=Lib.hid (H1.out.below b2)
 have B2:=Lib.hid (B1.out.trans (b2.mono B1.out.size))
 have uU:Hid (∀i,i<3→w2.cell? ⟨w.heap.size,0+i,none⟩=some (.int .i64 (tf t i))):=Lib.hid fun i hi=> (b2.cell (p:=⟨w.heap.size,0+i,none⟩) wh.out).trans (ql.out i hi)
 have CV:Hid (w.heap.size<w2.heap.size):=Lib.hid (Nat.lt_of_lt_of_le wh.out b2.size)
 clear b2
 cases hm:dK S t with
 | false=>
  have E1:Hid (PA=(0,2)):=Lib.hid (by rw [zf.out];unfold dW;rw [if_neg (by rw [hm];decide)])
  have E2:Hid (SP=S):=Lib.hid (by rw [wu.out];unfold TS.put;rw [if_neg (fun h=> by rw [hm] at h;cases h.1)])
  clear hm
  go_wp2
  go_ret2
  rw [E1.out,E2.out]
  exact ⟨rfl,F,⟨mb,mt,vl,vb,tv,H2.out,kr.out,oC.out⟩,.of_below B2.out _,fun b hb=> .inl hb⟩
 | true=>
  have c1:=H2.out.c1
  by_cases hin:t ∈ S.l
  ·have E1:Hid (PA=((nH S.l t:Int),0)):=Lib.hid (by rw [zf.out];unfold dW;rw [if_pos hm,if_pos hin])
   have E2:Hid (SP=S):=Lib.hid (by rw [wu.out];unfold TS.put;rw [if_neg (fun h=> h.2 hin)])
   have l1:∀n,(Instr.lookup 160 (.map (some mb)) (.agg (arr .i64 3 (tf t))) true).run Tryz.prog (w2.drewN n)=.ok (.tuple #[jD (nH S.l t),.bool true]) (w2.drewN n):=fun n=> xO.uI (H2.out.below (Go.aG.below_drewN (Below.refl _ _) n)).am hin
   obtain ⟨X,hX⟩:∃X,X=nH S.l t:=⟨_,rfl⟩
   rw [←hX] at l1 E1
   clear hm hin hX
   go_upto_region 5 with (fail)
   refine wp_region_quiet_lit (by kernel_rfl) (by kernel_rfl) ?_
   repeat (first | (refine mh rfl rfl rfl Tryz.underlying96 rfl Tryz.sizeTm uU.out CV.out ?_) | quiet_step (fail))
   refine wpQuiet_nil ?_
   rintro _ ⟨nq,rfl⟩
   go_wp2
   go_ret2
   rw [E1.out,E2.out]
   exact ⟨rfl,F,⟨mb,mt,vl,vb,tv,H2.out.below (Go.aG.below_drewN (Below.refl _ _) nq),kr.out,oC.out⟩,.of_below (Go.aG.below_drewN B2.out nq) _,fun b hb=> .inl hb⟩
  ·have E1:Hid (PA=((S.l.length:Int),0)):=Lib.hid (by rw [zf.out];unfold dW;rw [if_pos hm,if_neg hin])
   have E2:Hid (SP=S.add t):=Lib.hid (by rw [wu.out];unfold TS.put;rw [if_pos ⟨hm,hin⟩])
   have FT:=Lib.hid (kr.out.add hin (zL hm))
   have AU:=Lib.hid hin
   have KT:Hid (t.1=1→1≤t.2.1∧t.2.1≤4):=Lib.hid fun hk=> by
    obtain ⟨k,a,b⟩:=t
    simp only at hk
    subst hk
    rw [xE] at hm
    simp only [Bool.and_eq_true,decide_eq_true_eq] at hm
    exact hm.1
   have l1:∀n,(Instr.lookup 160 (.map (some mb)) (.agg (arr .i64 3 (tf t))) true).run Tryz.prog (w2.drewN n)=.ok (.tuple #[.int .i64 0,.bool false]) (w2.drewN n):=fun n=> xO.xI (H2.out.below (Go.aG.below_drewN (Below.refl _ _) n)).am H.out.CZ rR.out hin
   clear hm hin
   go_upto_region 5 with (fail)
   refine wp_region_quiet_lit (by kernel_rfl) (by kernel_rfl) ?_
   repeat (first | (refine mh rfl rfl rfl Tryz.underlying96 rfl Tryz.sizeTm uU.out CV.out ?_) | quiet_step (fail))
   refine wpQuiet_nil ?_
   rintro _ ⟨nq,rfl⟩
   clear l1 c1
   have B3:=Lib.hid (Go.aG.below_drewN B2.out nq)
   have IL:Hid (∀i,i<3→(w2.drewN nq).cell? ⟨w.heap.size,0+i,none⟩=some (.int .i64 (tf t i))):=Lib.hid fun i hi=> ((Go.aG.below_drewN (Below.refl w2.heap.size w2) nq).cell (p:=⟨w.heap.size,0+i,none⟩) CV.out).trans (uU.out i hi)
   have H3:=Lib.hid (H2.out.below (Go.aG.below_drewN (Below.refl _ _) nq))
   go_wp2_with (refine ig (y:=fun i=> .int .i64 (tf t i)) rfl rfl rfl Tryz.underlying96 rfl Tryz.sizeTm IL.out ?_)
   refine (lN H3.out (Nat.le_trans AX.out B3.out.size) t rR.out AU.out KT.out HL.out).mono ?_
   rintro e w4 ⟨rfl,jM,h4,hc4,Az⟩
   have S4:Hid (jK B w4 p (TF p mb mt jM vb S.tx.length tv) (S.add t)):=Lib.hid ⟨mb,mt,jM,vb,tv,h4,FT.out,fun b=> Iff.rfl⟩
   have C4:Hid (aZ F w w4):=Lib.hid ((aZ.of_below B3.out F).trans (hc4.mono (G:=F) fun b _ hb=> (oC.out b).2 (by
    rcases hb with h | h | h
    ·exact .inl h
    ·exact .inr (.inl h)
    ·exact .inr (.inr (.inr (.inl h))))) fun _ _ h=> h)
   have F4:Hid (∀b,TF p mb mt jM vb S.tx.length tv b→F b∨w.heap.size≤b):=Lib.hid fun b hb=> (TF.add (N:=w.heap.size) (fun b hb=> (Az b hb).imp id fun h=> Nat.le_trans B3.out.size h) b hb).imp (oC.out b).2 id
   clear h4 hc4 Az
   go_wp2
   go_ret2
   rw [E1.out,E2.out]
   exact ⟨rfl,_,S4.out,C4.out,F4.out⟩
end
end Go.Proofs.YtpcjekgfnfjbpaaGreat
