/-
  Part 17 of the texts that the proof of EscrowWrong rests on, one after the other. Conditions: named in each theorem.
-/
import Derived.Test.YtpcjekgfnfjbpaaGreatPkEscrowWrong8
import Derived.Test.YtpcjekgfnfjbpaaGreatPkEscrowWrong15
import Derived.Test.YtpcjekgfnfjbpaaGreatPkEscrowWrong16
import Derived.Deep.Cut
import Derived.DeepKeys4
import Derived.Great.Walk
import Derived.MapViews
set_option linter.unusedVariables false
set_option linter.unusedSimpArgs false
set_option maxRecDepth 100000
set_option maxHeartbeats 1600000
namespace Go.aG
open Go.RowKit
open Go.Maps (Keyed)
def tf (t:Tm) (i:Nat):Int:=if i=0 then t.1 else if i=1 then t.2.1 else t.2.2
def yB (l:List Tm):Nat→Nat→Value:=fun j i=> match l[j]? with | some t=> .int .i64 (tf t i) | none=> undef
theorem pW {l:List Tm} {j i:Nat} {t:Tm} (h:l[j]? =some t):yB l j i=.int .i64 (tf t i):=by unfold yB;rw [h]
abbrev pX (t:Tm):Value:=.agg #[.int .i64 t.1,.int .i64 t.2.1,.int .i64 t.2.2]
theorem xq {t u:Tm} (h:pX t=pX u):t=u:=by
 obtain ⟨a,b,c⟩:=t
 obtain ⟨d,e,f⟩:=u
 simp only [pX,Value.agg.injEq,Array.mk.injEq,List.cons.injEq,Value.int.injEq,true_and,and_true] at h
 obtain ⟨rfl,rfl,rfl⟩:=h
 rfl
theorem nT {e:TypeId} {l:List Tm} {t:Tm} {w:World} {v:Value} {y:Nat→Nat→Value} (h:bP e 3 w v (l.length+1) (fD l.length (yB l) y)) (hy:∀i,y 0 i=.int .i64 (tf t i)):bP e 3 w v (l++ [t]).length (yB (l++ [t])):=by
 rw [List.length_append,List.length_singleton]
 refine h.congr fun j hj i hi=> ?_
 by_cases hl:j<l.length
 ·rw [jv hl]
  unfold yB
  rw [List.getElem?_append_left hl]
 ·obtain rfl:j=l.length:=by omega
  rw [ny,hy,pW (t:=t) (by rw [List.getElem?_append_right (Nat.le_refl _),Nat.sub_self];rfl)]
def bf (b:List Int) (i:Nat):Int:=b.getD i 0
def okB (b:List Int):Prop:=∀x,x ∈ b→0≤x∧x<256
theorem okB.at {b:List Int} (h:okB b) (i:Nat) (hi:i<b.length):0≤bf b i∧bf b i<256:=by
 unfold bf
 rw [List.getD_eq_getElem?_getD,List.getElem?_eq_getElem hi]
 exact h _ (List.getElem_mem hi)
def Ba (b:List Int):Value:=.string (strOf b.length (bf b))
theorem xk {b c:List Int} (hb:okB b) (hc:okB c) (h:Ba b=Ba c):b=c:=by
 have h1:strOf b.length (bf b)=strOf c.length (bf c):=by injection h
 have hl:b.length=c.length:=by have:=congrArg ByteArray.size h1;simpa using this
 apply List.ext_getElem? 
 intro i
 by_cases hi:i<b.length
 ·have e1:=rA (n:=b.length) (f:=bf b) hi (hb.at i hi)
  have e2:=rA (n:=c.length) (f:=bf c) (i:=i) (by omega) (hc.at i (by omega))
  rw [h1,e2] at e1
  unfold bf at e1
  rw [List.getD_eq_getElem?_getD,List.getD_eq_getElem?_getD,List.getElem?_eq_getElem hi,List.getElem?_eq_getElem (by omega)] at e1
  rw [List.getElem?_eq_getElem hi,List.getElem?_eq_getElem (by omega)]
  exact congrArg some e1.symm
 ·rw [List.getElem?_eq_none (by omega),List.getElem?_eq_none (by omega)]
structure qL (P:Program) (kT mT iT:TypeId) {K:Type} (kv:K→Value) (ok:K→Prop):Prop where
 keyed:Keyed P kT
 under:P.underlying mT=some (.map kT iT)
 int:P.underlying iT=some (.int .i64)
 zero:∀w,(zeroValue iT).run P w=.ok (.int .i64 0) w
 key:∀x,ok x→∃kl,keyOf P kT (kv x)=some kl
 inj:∀x y,ok x→ok y→kv x=kv y→x=y
section
variable {K : Type} {P : Program} {kT mT iT : TypeId} {kv : K → Value} {ok : K → Prop} {w w' : World} {mb : Nat} {nd : List K} {val : K → Nat}
abbrev kC (P:Program) (kT iT:TypeId) (kv:K→Value) (val:K→Nat) (w:World) (mb:Nat) (nd:List K):Prop:=iy P kT iT w mb nd.length (fun i=> lv kv nd i 0) (fun i=> match nd[i]? with | some x=> jd (val x) | none=> undef)
theorem qL.xL [DecidableEq K] (k:qL P kT mT iT kv ok) (h:kC P kT iT kv val w mb nd) {x:K} (hx:x ∈ nd):(Instr.lookup mT (.map (some mb)) (kv x) true).run P w=.ok (.tuple #[jd (val x),.bool true]) w:=by
 have:=(h.uW k.keyed k.under (k.zero w) (plainElem_int k.int (by decide)) (mP nd x) (jL hx)).1
 rw [show lv kv nd (mP nd x) 0=kv x from rU (gP hx)] at this
 simp only [gP hx] at this
 exact this
theorem qL.zJ (k:qL P kT mT iT kv ok) (h:kC P kT iT kv val w mb nd) {x:K} (hnd:∀y,y ∈ nd→ok y) (hok:ok x) (hx:x ∉ nd):(Instr.lookup mT (.map (some mb)) (kv x) true).run P w=.ok (.tuple #[.int .i64 0,.bool false]) w:=by
 obtain ⟨kl,hk⟩:=k.key x hok
 refine (h.xK k.keyed k.under (k.zero w) (plainElem_int k.int (by decide)) hk fun i hi e=> hx ?_).1
 rw [rU (List.getElem?_eq_getElem hi)] at e
 have:=k.inj _ _ (hnd _ (List.getElem_mem hi)) hok e
 rw [←this]
 exact List.getElem_mem hi
theorem qL.put (k:qL P kT mT iT kv ok) (h:kC P kT iT kv val w mb nd) {x:K} {n:Nat} {val':K→Nat} (hnd:∀y,y ∈ nd→ok y) (hok:ok x) (hx:x ∉ nd) (hn:nd.length≤1000000) (hv:val' x=n) (hn2:n≤1000000) (hold:∀y,y ∈ nd→val' y=val y):
  ∃w',(Instr.mapUpdate mT (.map (some mb)) (kv x) (jd n)).run P w=.ok () w'∧kC P kT iT kv val' w' mb (nd++ [x])∧w.grownBy w' (some mb):=by
 obtain ⟨kl,hk⟩:=k.key x hok
 have hput:=h.put (key':=fun i=> lv kv (nd++ [x]) i 0) (val':=fun i=> match (nd++ [x])[i]? with | some x=> jd (val' x) | none=> undef) k.keyed k.under (by unfold maxLen;omega) hk (plainElem_int k.int (xH (by omega)):plainElem (H:=Unit) P iT (jd n)= _) (fun i hi e=> hx (by
  rw [rU (List.getElem?_eq_getElem hi)] at e
  have:=k.inj _ _ (hnd _ (List.getElem_mem hi)) hok e
  rw [←this]
  exact List.getElem_mem hi)) (fun i hi=> ⟨by
   show lv kv (nd++ [x]) i 0=lv kv nd i 0
   unfold lv
   rw [List.getElem?_append_left hi],by
   rw [List.getElem?_append_left hi,List.getElem?_eq_getElem hi]
   simp only [hold _ (List.getElem_mem hi)]⟩) ⟨by
   show lv kv (nd++ [x]) nd.length 0=kv x
   exact rU (by simp),by simp [hv]⟩
 obtain ⟨w',h1,h2,h3⟩:=hput
 refine ⟨w',h1,?_,h3⟩
 show iy P kT iT w' mb (nd++ [x]).length _ _
 rw [List.length_append,List.length_singleton]
 exact h2
theorem kC.congr {val':K→Nat} (h:kC P kT iT kv val w mb nd) (hv:∀y,y ∈ nd→val' y=val y):kC P kT iT kv val' w mb nd:=
 iy.congr h fun i hi=> ⟨rfl,by rw [List.getElem?_eq_getElem hi];simp only [hv _ (List.getElem_mem hi)]⟩
end
end Go.aG
namespace Go.Proofs.YtpcjekgfnfjbpaaGreat
open Go.RowKit Go.aG Go.ChangeShapes Go.Maps
theorem Tryz.infoTm:(Tryz.prog.info? 96).map (fun i=> (i.zero,i.size,i.bytes))=some (some (.agg #[.int .i64 0,.int .i64 0,.int .i64 0]),3,24):=by kernel_rfl
theorem Tryz.sizeTm:(Tryz.prog.info? 96).map (·.size)=some 3:=by kernel_rfl
theorem Tryz.infoBs:(Tryz.prog.info? 23).map (fun i=> (i.zero,i.size,i.bytes))=some (some (.slice none 0 0),1,24):=by kernel_rfl
theorem Tryz.rowTm:(96:TypeId)<Tryz.prog.types.size:=of_decide_eq_true (by kernel_rfl)
theorem Tryz.wideTm:(match Tryz.prog.underlying 96 with | some (.array _ _) | some (.struct _)=> true | _=> false)=true:=by rw [Tryz.underlying96]
theorem Tryz.deepTm:Tryz.prog.keyTypeAt (Tryz.prog.types.size+1) 96=true:=by kernel_rfl
theorem Tryz.laidTm:laidOutB Tryz.prog=true:=by kernel_rfl
theorem Tryz.lawTm:WideMaps.KeyLaw Tryz.prog 96:=deep_law_laid Tryz.laidTm (m:=2) (by omega) Tryz.rowTm (by kernel_rfl) Tryz.wideTm
theorem Tryz.cellsTm:Tryz.prog.cellsOf 96=3:=by kernel_rfl
theorem Tryz.cellsI:Tryz.prog.cellsOf 3=1:=by kernel_rfl
theorem Er {x:Int} (h:rM x):(Lit.int .i64 x).wf=true:=by
 have h1:=h.1
 have h2:=h.2
 simp [Lit.wf,IntKind.min,IntKind.max,IntKind.signed,IntKind.bits]
 omega
theorem zK (t:Tm) (h:jN t):∃kl,keyOf Tryz.prog 96 (pX t)=some kl:=by
 have ht:DataW.Trod (H:=Unit) (fun _=> ()) Tryz.prog (default:World) 0 (fun _=> true) true 96 (pX t) _ _:=⟨_,Go.Deep.trod_struct3_mk (enc:=fun _=> ()) (w:=(default:World)) (base:=0) (spare:=fun _=> true) (held:=true) (n:=1) (cs:= [.int .i64 t.1,.int .i64 t.2.1,.int .i64 t.2.2]) Tryz.underlying96 (by rw [Tryz.cellsTm];rfl)
  (by rw [Tryz.cellsI];exact trod_int_mk 0 Tryz.underlying3 (Er h.1)) (by rw [Tryz.cellsI];exact trod_int_mk 0 Tryz.underlying3 (Er h.2.1)) (by rw [Tryz.cellsI];exact trod_int_mk 0 Tryz.underlying3 (Er h.2.2))⟩
 exact ⟨_,(keyOf_asKey Tryz.deepTm Tryz.wideTm (by simp [Value.formed,Tryz.underlying96,Tryz.cellsTm]) ht).1⟩
end Go.Proofs.YtpcjekgfnfjbpaaGreat
namespace Go.aG
open Go.RowKit
theorem Own.uI {k:IntKind} {e:TypeId} {base:Nat} {w:World} {v:Value} {n:Nat} {f:Nat→Int} (h:Own k e base w v n f):bP e 1 w v n (fun j _=> .int k (f j)):=by
 refine .rP (xs:=vals k n f) ?_ fun j hj i hi=> ?_
 ·obtain ⟨h1,h2⟩:=h
  refine ⟨h1,h2.imp id ?_⟩
  rintro ⟨g,cap,cur,r1,_,r⟩
  exact ⟨g,cap,cur,r1,Nat.zero_le _,r⟩
 ·obtain rfl:i=0:=by omega
  rw [show j * 1+0=j by omega]
  exact bG hj
theorem Own.vW {k:IntKind} {e:TypeId} {base:Nat} {w w':World} {v:Value} {n:Nat} {f:Nat→Int} {G:Nat→Prop} (h:Own k e base w v n f) (hc:bB G w w') (hn:∀b,v.ownBlock=some b→¬ G b):Own k e base w' v n f:=by
 obtain ⟨h1,h2⟩:=h
 refine ⟨h1,h2.imp id ?_⟩
 rintro ⟨g,cap,cur,r1,r2,r3,r⟩
 exact ⟨g,cap,cur,r1,r2,(hc.block g (Array.getElem?_eq_some_iff.1 r3).1 (hn g (by rw [r1];rfl))).trans r3,r⟩
end Go.aG
namespace Go.Proofs.YtpcjekgfnfjbpaaGreat
open Go.RowKit Go.aG Go.ChangeShapes Go.Maps
attribute [local go_sem ↓] Go.wp_at_zero Go.wp_at_succ
theorem yZ (w:World):(zeroValue 3).run Tryz.prog w=.ok (.int .i64 0) w:=by
 obtain ⟨x,h1,h2⟩:=Option.map_eq_some_iff.1 Tryz.info3
 simp only [Prod.mk.injEq] at h2
 simp [zeroValue,typeInfo,h1,h2.1]
theorem uX:qL Tryz.prog 96 160 3 pX jN:=
 ⟨Keyed.of_law Tryz.lawTm,Tryz.underlying160,Tryz.underlying3,yZ,zK,fun x y _ _ h=> xq h⟩
def Jd (b:List Int):Prop:=okB b∧b.length≤1048576
def Bb (S:TS) (b:List Int):Nat:=mP S.l (9,(mP S.tx b:Int),0)
structure Tsp (B:Nat) (w:World) (p mb mt:Nat) (vl vb:Value) (tv:Nat→Value) (l la:List Tm) (tx lx:List (List Int)) (xv:List Int→Nat) (nf:Nat→Int):Prop where
 row:cB w p 164 9
 c0:w.cell? ⟨p,0,none⟩=some vl
 c1:w.cell? ⟨p,1,none⟩=some (.map (some mb))
 c2:w.cell? ⟨p,2,none⟩=some (.map (some mt))
 c3:w.cell? ⟨p,3,none⟩=some vb
 nx:∀k:Nat,k<5→w.cell? ⟨p,4+k,none⟩=some (.int .i64 (nf k))
 ls:bP 96 3 w vl l.length (yB l)
 am:kC Tryz.prog 96 3 pX (mP la) w mb la
 xm:kC Tryz.prog 9 3 Ba xv w mt lx
 bs:bP 23 1 w vb tx.length (fun j _=> tv j)
 bt:∀j b,tx[j]? =some b→Own .u8 5 B w (tv j) b.length (bf b)
 ne:mb≠mt
 hp:B≤p
 hb:B≤mb
 hm:B≤mt
 hl:∀b,vl.ownBlock=some b→B≤b
 hv:∀b,vb.ownBlock=some b→B≤b
structure lY (B:Nat) (w:World) (p mb mt:Nat) (vl vb:Value) (tv:Nat→Value) (S:TS):Prop extends Tsp B w p mb mt vl vb tv S.l S.l S.tx S.tx (Bb S) (fun k=> iV S.l k) where
 nd:S.l.Nodup
 txn:S.tx.Nodup
 all:∀j,j<S.tx.length→((9,(j:Int),0):Tm) ∈ S.l
 BN:∀t,t ∈ S.l→jN t
 EF:∀b,b ∈ S.tx→Jd b
def TF (p mb mt:Nat) (vl vb:Value) (n:Nat) (tv:Nat→Value) (b:Nat):Prop:=b=p∨b=mb∨b=mt∨vl.ownBlock=some b∨vb.ownBlock=some b∨∃j,j<n∧(tv j).ownBlock=some b
section
variable {B : Nat} {w w' : World} {p mb mt : Nat} {vl vb : Value} {tv : Nat → Value} {l la : List Tm} {tx lx : List (List Int)} {xv : List Int → Nat} {nf : Nat → Int}
theorem Tsp.keep {G:Nat→Prop} (h:Tsp B w p mb mt vl vb tv l la tx lx xv nf) (hc:bB G w w') (hF:∀b,TF p mb mt vl vb tx.length tv b→¬ G b):Tsp B w' p mb mt vl vb tv l la tx lx xv nf:=by
 have hp:=hF p (.inl rfl)
 have hl:=h.row.lt
 refine ⟨h.row.heap (hc.block p hl hp),(hc.cell (p:=⟨p,0,none⟩) hl hp).trans h.c0,(hc.cell (p:=⟨p,1,none⟩) hl hp).trans h.c1,(hc.cell (p:=⟨p,2,none⟩) hl hp).trans h.c2,(hc.cell (p:=⟨p,3,none⟩) hl hp).trans h.c3,
  fun k hk=> (hc.cell (p:=⟨p,4+k,none⟩) hl hp).trans (h.nx k hk),h.ls.dz hc fun b hb=> hF b (.inr (.inr (.inr (.inl hb)))),h.am.heap (hc.block mb h.am.lt (hF mb (.inr (.inl rfl)))),h.xm.heap (hc.block mt h.xm.lt (hF mt (.inr (.inr (.inl rfl))))),
  h.bs.dz hc fun b hb=> hF b (.inr (.inr (.inr (.inr (.inl hb))))),fun j b hb=> (h.bt j b hb).vW hc fun c hcc=> hF c (.inr (.inr (.inr (.inr (.inr ⟨j,(List.getElem?_eq_some_iff.1 hb).1,hcc⟩))))),h.ne,h.hp,h.hb,h.hm,h.hl,h.hv⟩
theorem Tsp.below (h:Tsp B w p mb mt vl vb tv l la tx lx xv nf) (hb:Below w.heap.size w w'):Tsp B w' p mb mt vl vb tv l la tx lx xv nf:=h.keep (.of_below hb fun _=> False) fun _ _=> id
theorem Tsp.lt (h:Tsp B w p mb mt vl vb tv l la tx lx xv nf) {b:Nat} (hb:TF p mb mt vl vb tx.length tv b):b<w.heap.size:=by
 rcases hb with rfl | rfl | rfl | hb | hb | ⟨j,hj,hb⟩
 ·exact h.row.lt
 ·exact h.am.lt
 ·exact h.xm.lt
 ·exact h.ls.lt b hb
 ·exact h.bs.lt b hb
 ·exact (h.bt j _ (List.getElem?_eq_getElem hj)).uI.lt b hb
theorem Tsp.hi (h:Tsp B w p mb mt vl vb tv l la tx lx xv nf) {b:Nat} (hb:TF p mb mt vl vb tx.length tv b):B≤b:=by
 rcases hb with rfl | rfl | rfl | hb | hb | ⟨j,hj,hb⟩
 ·exact h.hp
 ·exact h.hb
 ·exact h.hm
 ·exact h.hl b hb
 ·exact h.hv b hb
 ·exact (h.bt j _ (List.getElem?_eq_getElem hj)).block b hb
theorem Tsp.cellP (h:Tsp B w p mb mt vl vb tv l la tx lx xv nf) (o:Nat) (v:Value):(∀i,i≠o→(w.setCell ⟨p,o,none⟩ v).cell? ⟨p,i,none⟩=w.cell? ⟨p,i,none⟩)∧(o<9→(w.setCell ⟨p,o,none⟩ v).cell? ⟨p,o,none⟩=some v)∧cB (w.setCell ⟨p,o,none⟩ v) p 164 9∧
  bP 96 3 (w.setCell ⟨p,o,none⟩ v) vl l.length (yB l)∧kC Tryz.prog 96 3 pX (mP la) (w.setCell ⟨p,o,none⟩ v) mb la∧kC Tryz.prog 9 3 Ba xv (w.setCell ⟨p,o,none⟩ v) mt lx∧
  bP 23 1 (w.setCell ⟨p,o,none⟩ v) vb tx.length (fun j _=> tv j)∧∀j b,tx[j]? =some b→Own .u8 5 B (w.setCell ⟨p,o,none⟩ v) (tv j) b.length (bf b):=by
 have hc:bB (fun b=> b=p) w (w.setCell ⟨p,o,none⟩ v):=.set _ _ ⟨p,o,none⟩ _ rfl
 refine ⟨fun i hi=> World.cell?_setCell_other _ _ _ _ (fun e=> hi (by cases e;rfl)),fun ho=> ?_,h.row.setCell _ rfl _,h.ls.dz hc fun b hb e=> h.ls.eU h.row (by decide) (e▸hb),h.am.heap (hc.block mb h.am.lt fun e=> h.am.lN (e▸h.row)),h.xm.heap (hc.block mt h.xm.lt fun e=> h.xm.lN (e▸h.row)),
  h.bs.dz hc fun b hb e=> h.bs.eU h.row (by decide) (e▸hb),fun j b hb=> (h.bt j b hb).vW hc fun c hcc e=> (h.bt j b hb).uI.eU h.row (by decide) (e▸hcc)⟩
 obtain ⟨x,hx⟩:=Option.isSome_iff_exists.1 (h.row.tu o ho)
 exact World.cell?_setCell_same _ _ _ hx
end
section
variable {B : Nat} {w w' : World} {p mb mt : Nat} {vl vb : Value} {tv : Nat → Value} {S : TS}
theorem lY.keep {G:Nat→Prop} (h:lY B w p mb mt vl vb tv S) (hc:bB G w w') (hF:∀b,TF p mb mt vl vb S.tx.length tv b→¬ G b):lY B w' p mb mt vl vb tv S:=⟨h.toTsp.keep hc hF,h.nd,h.txn,h.all,h.BN,h.EF⟩
theorem lY.below (h:lY B w p mb mt vl vb tv S) (hb:Below w.heap.size w w'):lY B w' p mb mt vl vb tv S:=⟨h.toTsp.below hb,h.nd,h.txn,h.all,h.BN,h.EF⟩
theorem lY.lt (h:lY B w p mb mt vl vb tv S) {b:Nat} (hb:TF p mb mt vl vb S.tx.length tv b):b<w.heap.size:=h.toTsp.lt hb
theorem lY.hi (h:lY B w p mb mt vl vb tv S) {b:Nat} (hb:TF p mb mt vl vb S.tx.length tv b):B≤b:=h.toTsp.hi hb
theorem jm (h:lY B w p mb mt vl vb tv S):Calls Tryz.prog 116 #[.pointer (some ⟨p,0,none⟩)] w fun e w'=> e=.returned (.bool true)∧w'=w:=by
 have c1:=h.c1
 have hq:=fun w=> run_neq_map_nil (P:=Tryz.prog) w 160 96 3 (some mb) Tryz.underlying160
 clear h
 go_enter Tryz.func116,Tryz.ntmps116
 go_wp2
 go_ret
 exact ⟨rfl,rfl⟩
theorem uw (h:lY B w p mb mt vl vb tv S):Calls Tryz.prog 115 #[.pointer (some ⟨p,0,none⟩)] w fun e w'=> e=.returned (jd S.l.length)∧w'=w:=by
 have HI:=Lib.hid (jm h)
 have c0:=h.c0
 obtain ⟨al,cl,rfl,_⟩:=h.ls.slice
 clear h
 go_enter Tryz.func115,Tryz.ntmps115
 go_wp2_with fail
 refine HI.out.mono ?_
 rintro e w' ⟨rfl,rfl⟩
 go_wp2
 go_ret
 exact ⟨rfl,rfl⟩
theorem lD (n:Int) (w:World):Calls Tryz.prog 137 #[.int .i64 n] w fun e w'=> e=.returned (.bool (isSort n))∧w'=w:=by
 obtain ⟨R,hR⟩:∃R,R=isSort n:=⟨_,rfl⟩
 have HR:=Lib.hid hR
 rw [←hR]
 clear hR
 by_cases h1:1≤n
 ·by_cases h2:n≤4
  ·go_enter Tryz.func137,Tryz.ntmps137
   go_wp2
   go_ret
   exact ⟨by rw [HR.out];simp [isSort,h1,h2],rfl⟩
  ·go_enter Tryz.func137,Tryz.ntmps137
   go_wp2
   go_ret
   exact ⟨by rw [HR.out];simp [isSort,h1,h2],rfl⟩
 ·go_enter Tryz.func137,Tryz.ntmps137
  go_wp2
  go_ret
  exact ⟨by rw [HR.out];unfold isSort;rw [decide_eq_false (by omega)];rfl,rfl⟩
theorem bF (h:lY B w p mb mt vl vb tv S) (n k:Int):Calls Tryz.prog 117 #[.pointer (some ⟨p,0,none⟩),.int .i64 n,.int .i64 k] w fun e w'=> e=.returned (.bool (bA S.l n k))∧w'=w:=by
 obtain ⟨R,hR⟩:∃R,R=bA S.l n k:=⟨_,rfl⟩
 have HR:=Lib.hid hR
 rw [←hR]
 have c0:=h.c0
 obtain ⟨al,cl,el,_⟩:=h.ls.slice
 by_cases h1:0≤n
 ·obtain ⟨a,rfl⟩:=Int.eq_ofNat_of_zero_le h1
  by_cases h2:a<S.l.length
  ·obtain ⟨g,cap,ev,_,_,_,hc⟩:=h.ls.form (by omega)
   obtain ⟨t,ht⟩:∃t,S.l[a]? =some t:=⟨_,List.getElem?_eq_getElem h2⟩
   have z0:=hc a h2 0 (by decide)
   rw [pW ht,Nat.add_zero,show tf t 0=t.1 from rfl] at z0
   rw [ev] at c0
   have h9:(a:Int)<(S.l.length:Int):=by omega
   have HK:Hid (mR S.l a k=decide (t.1=k)):=Lib.hid (by unfold mR;rw [Int.toNat_natCast,ht])
   have HRR:Hid (R=(decide (k=0) || decide (t.1=k))):=Lib.hid (by rw [hR];unfold bA;rw [HK.out,decide_eq_true h1,decide_eq_true h9];rfl)
   by_cases hk:k=0
   ·have hkb:(k==0)=true:=by simpa using hk
    have HF:Hid (R=true):=Lib.hid (by rw [HRR.out,decide_eq_true hk];rfl)
    clear h hR hc ht el ev hk h1 h2
    go_enter Tryz.func117,Tryz.ntmps117
    go_wp2
    go_ret
    rw [HF.out]
    exact ⟨rfl,rfl⟩
   ·have hkb:(k==0)=false:=by simpa using hk
    have HF:Hid (R=(t.1==k)):=Lib.hid (by rw [HRR.out,decide_eq_false hk,Bool.false_or];rfl)
    clear h hR hc ht el ev hk h1 h2
    go_enter Tryz.func117,Tryz.ntmps117
    go_wp2
    go_ret
    rw [HF.out]
    exact ⟨rfl,rfl⟩
  ·have h9:¬ (a:Int)<(S.l.length:Int):=by omega
   have HF:Hid (R=false):=Lib.hid (by rw [hR];unfold bA;rw [decide_eq_false h9,Bool.and_false,Bool.false_and])
   rw [el] at c0
   clear h hR el h2
   go_enter Tryz.func117,Tryz.ntmps117
   go_wp2
   go_ret
   rw [HF.out]
   exact ⟨rfl,rfl⟩
 ·have HF:Hid (R=false):=Lib.hid (by rw [hR];unfold bA;rw [decide_eq_false h1,Bool.false_and,Bool.false_and])
  clear h hR el
  go_enter Tryz.func117,Tryz.ntmps117
  go_wp2
  go_ret
  rw [HF.out]
  exact ⟨rfl,rfl⟩
end
end Go.Proofs.YtpcjekgfnfjbpaaGreat
namespace Go.aG
theorem uU (S:TS) (a b:Int):dF S (1,a,b)=((decide (1≤a) && decide (a≤4)) && decide (0≤b)):=rfl
theorem uT (S:TS) (a b:Int):dF S (2,a,b)=(bA S.l a 0 && decide (b=0)):=rfl
theorem uS (S:TS) (a b:Int):dF S (3,a,b)=(bA S.l a 0 && decide (b=0)):=rfl
theorem uP (S:TS) (a b:Int):dF S (6,a,b)=(bA S.l a 0 && decide (b=0)):=rfl
theorem uO (S:TS) (a b:Int):dF S (7,a,b)=(bA S.l a 0 && decide (b=0)):=rfl
theorem uR (S:TS) (a b:Int):dF S (4,a,b)=(bA S.l a 2 && bA S.l b 0):=rfl
theorem uQ (S:TS) (a b:Int):dF S (5,a,b)=(bA S.l a 0 && bA S.l b 0):=rfl
theorem zH (S:TS) (a b:Int):dF S (8,a,b)=(bA S.l a 0 && bA S.l b 9):=rfl
theorem zG (S:TS) (a b:Int):dF S (9,a,b)=((decide (0≤a) && decide (a<S.tx.length)) && decide (b=0)):=rfl
theorem xJ (S:TS) (a b:Int):dF S (10,a,b)=(bA S.l a 9 && decide (b=0)):=rfl
theorem xI (S:TS) (k a b:Int) (h:k≠1∧k≠2∧k≠3∧k≠4∧k≠5∧k≠6∧k≠7∧k≠8∧k≠9∧k≠10):dF S (k,a,b)=false:=by
 obtain ⟨h1,h2,h3,h4,h5,h6,h7,h8,h9,h10⟩:=h
 simp [dF,h1,h2,h3,h4,h5,h6,h7,h8,h9,h10]
end Go.aG
namespace Go.Proofs.YtpcjekgfnfjbpaaGreat
open Go.RowKit Go.aG Go.ChangeShapes Go.Maps
attribute [local go_sem ↓] Go.wp_at_zero Go.wp_at_succ
section
variable {B : Nat} {w w' : World} {p mb mt : Nat} {vl vb : Value} {tv : Nat → Value} {S : TS}
theorem uq (h:lY B w p mb mt vl vb tv S) (t:Tm):Calls Tryz.prog 140 #[.pointer (some ⟨p,0,none⟩),pX t] w fun e w'=> e=.returned (.bool (dF S t))∧Below w.heap.size w w':=by
 obtain ⟨R,hR⟩:∃R,R=dF S t:=⟨_,rfl⟩
 obtain ⟨k,a,b⟩:=t
 have HR:=Lib.hid hR
 rw [←hR]
 have H:=Lib.hid h
 clear h hR
 go_enter Tryz.func140,Tryz.ntmps140
 go_upto_region 1 with (fail)
 refine aI (fun w1=> (w1.cell? ⟨w.heap.size,0,none⟩=some (.int .i64 k)∧w1.cell? ⟨w.heap.size,1,none⟩=some (.int .i64 a)∧w1.cell? ⟨w.heap.size,2,none⟩=some (.int .i64 b))∧Below w.heap.size w w1) ⟨⟨cell_of_row _ _ 0 _ _ (0,0) (heap_alloc_new w _),cell_of_row _ _ 1 _ _ (0,0) (heap_alloc_new w _),cell_of_row _ _ 2 _ _ (0,0) (heap_alloc_new w _)⟩,(Below.refl _ _).alloc (Nat.le_refl _) _⟩ ?_
 rintro w1 ⟨⟨e0,e1,e2⟩,bb1⟩
 have B1:=Lib.hid bb1
 have H1:=Lib.hid (H.out.below bb1)
 clear bb1
 by_cases k1:k=1
 ·subst k1
  rw [uU] at HR
  go_wp2_with fail
  refine (lD a _).mono ?_
  rintro e w' ⟨rfl,rfl⟩
  unfold isSort
  cases hs:decide (1≤a) && decide (a≤4) with
  | false=>
   have HF:Hid (R=false):=Lib.hid (by rw [HR.out,hs];rfl)
   clear hs
   go_wp2
   go_ret
   rw [HF.out]
   exact ⟨rfl,B1.out⟩
  | true=>
   have HF:Hid (R=decide (0≤b)):=Lib.hid (by rw [HR.out,hs];rfl)
   clear hs
   go_wp2
   go_ret
   rw [HF.out]
   exact ⟨rfl,B1.out⟩
 by_cases k9:k=9
 ·subst k9
  rw [zG] at HR
  have c3:=H1.out.c3
  obtain ⟨ab,cb,rfl,_⟩:=H1.out.bs.slice
  by_cases h1:0≤a
  ·by_cases h2:a<(S.tx.length:Int)
   ·have HF:Hid (R=(b==0)):=Lib.hid (by rw [HR.out,decide_eq_true h1,decide_eq_true h2];rfl)
    go_wp2
    go_quiet (fail)
    go_wp2
    go_ret
    rw [HF.out]
    exact ⟨rfl,Go.aG.below_drewN B1.out _⟩
   ·have HF:Hid (R=false):=Lib.hid (by rw [HR.out,decide_eq_false h2,Bool.and_false,Bool.false_and])
    have hd1:decide (0≤a)=true:=decide_eq_true h1
    have hd2:decide (a<(S.tx.length:Int))=false:=decide_eq_false h2
    clear h1 h2
    go_wp2
    go_quiet (fail)
    go_wp2
    go_ret
    rw [HF.out]
    exact ⟨rfl,Go.aG.below_drewN B1.out _⟩
  ·have HF:Hid (R=false):=Lib.hid (by rw [HR.out,decide_eq_false h1,Bool.false_and,Bool.false_and])
   have hd1:decide (0≤a)=false:=decide_eq_false h1
   clear h1
   go_wp2
   go_quiet (fail)
   go_wp2
   go_ret
   rw [HF.out]
   exact ⟨rfl,Go.aG.below_drewN B1.out _⟩
 by_cases k2:k=2
 ·subst k2
  rw [uT] at HR
  go_wp2_with fail
  refine (bF H1.out a 0).mono ?_
  rintro e w' ⟨rfl,rfl⟩
  cases hs:bA S.l a 0 with
  | false=>
   have HF:Hid (R=false):=Lib.hid (by rw [HR.out,hs];rfl)
   clear hs
   go_wp2
   go_ret
   rw [HF.out]
   exact ⟨rfl,B1.out⟩
  | true=>
   have HF:Hid (R=(b==0)):=Lib.hid (by rw [HR.out,hs];rfl)
   clear hs
   go_wp2
   go_ret
   rw [HF.out]
   exact ⟨rfl,B1.out⟩
 by_cases k3:k=3
 ·subst k3
  rw [uS] at HR
  go_wp2_with fail
  refine (bF H1.out a 0).mono ?_
  rintro e w' ⟨rfl,rfl⟩
  cases hs:bA S.l a 0 with
  | false=>
   have HF:Hid (R=false):=Lib.hid (by rw [HR.out,hs];rfl)
   clear hs
   go_wp2
   go_ret
   rw [HF.out]
   exact ⟨rfl,B1.out⟩
  | true=>
   have HF:Hid (R=(b==0)):=Lib.hid (by rw [HR.out,hs];rfl)
   clear hs
   go_wp2
   go_ret
   rw [HF.out]
   exact ⟨rfl,B1.out⟩
 by_cases k6:k=6
 ·subst k6
  rw [uP] at HR
  go_wp2_with fail
  refine (bF H1.out a 0).mono ?_
  rintro e w' ⟨rfl,rfl⟩
  cases hs:bA S.l a 0 with
  | false=>
   have HF:Hid (R=false):=Lib.hid (by rw [HR.out,hs];rfl)
   clear hs
   go_wp2
   go_ret
   rw [HF.out]
   exact ⟨rfl,B1.out⟩
  | true=>
   have HF:Hid (R=(b==0)):=Lib.hid (by rw [HR.out,hs];rfl)
   clear hs
   go_wp2
   go_ret
   rw [HF.out]
   exact ⟨rfl,B1.out⟩
 by_cases k7:k=7
 ·subst k7
  rw [uO] at HR
  go_wp2_with fail
  refine (bF H1.out a 0).mono ?_
  rintro e w' ⟨rfl,rfl⟩
  cases hs:bA S.l a 0 with
  | false=>
   have HF:Hid (R=false):=Lib.hid (by rw [HR.out,hs];rfl)
   clear hs
   go_wp2
   go_ret
   rw [HF.out]
   exact ⟨rfl,B1.out⟩
  | true=>
   have HF:Hid (R=(b==0)):=Lib.hid (by rw [HR.out,hs];rfl)
   clear hs
   go_wp2
   go_ret
   rw [HF.out]
   exact ⟨rfl,B1.out⟩
 by_cases k4:k=4
 ·subst k4
  rw [uR] at HR
  go_wp2_with fail
  refine (bF H1.out a 2).mono ?_
  rintro e w' ⟨rfl,rfl⟩
  cases hs:bA S.l a 2 with
  | false=>
   have HF:Hid (R=false):=Lib.hid (by rw [HR.out,hs];rfl)
   clear hs
   go_wp2
   go_ret
   rw [HF.out]
   exact ⟨rfl,B1.out⟩
  | true=>
   have HF:Hid (R=bA S.l b 0):=Lib.hid (by rw [HR.out,hs];rfl)
   clear hs
   go_wp2_with fail
   refine (bF H1.out b 0).mono ?_
   rintro e w' ⟨rfl,rfl⟩
   go_wp2
   go_ret
   rw [HF.out]
   exact ⟨rfl,B1.out⟩
 by_cases k5:k=5
 ·subst k5
  rw [uQ] at HR
  go_wp2_with fail
  refine (bF H1.out a 0).mono ?_
  rintro e w' ⟨rfl,rfl⟩
  cases hs:bA S.l a 0 with
  | false=>
   have HF:Hid (R=false):=Lib.hid (by rw [HR.out,hs];rfl)
   clear hs
   go_wp2
   go_ret
   rw [HF.out]
   exact ⟨rfl,B1.out⟩
  | true=>
   have HF:Hid (R=bA S.l b 0):=Lib.hid (by rw [HR.out,hs];rfl)
   clear hs
   go_wp2_with fail
   refine (bF H1.out b 0).mono ?_
   rintro e w' ⟨rfl,rfl⟩
   go_wp2
   go_ret
   rw [HF.out]
   exact ⟨rfl,B1.out⟩
 by_cases k8:k=8
 ·subst k8
  rw [zH] at HR
  go_wp2_with fail
  refine (bF H1.out a 0).mono ?_
  rintro e w' ⟨rfl,rfl⟩
  cases hs:bA S.l a 0 with
  | false=>
   have HF:Hid (R=false):=Lib.hid (by rw [HR.out,hs];rfl)
   clear hs
   go_wp2
   go_ret
   rw [HF.out]
   exact ⟨rfl,B1.out⟩
  | true=>
   have HF:Hid (R=bA S.l b 9):=Lib.hid (by rw [HR.out,hs];rfl)
   clear hs
   go_wp2_with fail
   refine (bF H1.out b 9).mono ?_
   rintro e w' ⟨rfl,rfl⟩
   go_wp2
   go_ret
   rw [HF.out]
   exact ⟨rfl,B1.out⟩
 by_cases k10:k=10
 ·subst k10
  rw [xJ] at HR
  go_wp2_with fail
  refine (bF H1.out a 9).mono ?_
  rintro e w' ⟨rfl,rfl⟩
  cases hs:bA S.l a 9 with
  | false=>
   have HF:Hid (R=false):=Lib.hid (by rw [HR.out,hs];rfl)
   clear hs
   go_wp2
   go_ret
   rw [HF.out]
   exact ⟨rfl,B1.out⟩
  | true=>
   have HF:Hid (R=(b==0)):=Lib.hid (by rw [HR.out,hs];rfl)
   clear hs
   go_wp2
   go_ret
   rw [HF.out]
   exact ⟨rfl,B1.out⟩
 have HF:Hid (R=false):=Lib.hid (HR.out.trans (xI S k a b ⟨k1,k2,k3,k4,k5,k6,k7,k8,k9,k10⟩))
 have b1:(k==1)=false:=by simpa using k1
 have b2:(k==2)=false:=by simpa using k2
 have b3:(k==3)=false:=by simpa using k3
 have b4:(k==4)=false:=by simpa using k4
 have b5:(k==5)=false:=by simpa using k5
 have b6:(k==6)=false:=by simpa using k6
 have b7:(k==7)=false:=by simpa using k7
 have b8:(k==8)=false:=by simpa using k8
 have b9:(k==9)=false:=by simpa using k9
 have b10:(k==10)=false:=by simpa using k10
 clear k1 k2 k3 k4 k5 k6 k7 k8 k9 k10
 go_wp2
 go_ret
 rw [HF.out]
 exact ⟨rfl,B1.out⟩
end
end Go.Proofs.YtpcjekgfnfjbpaaGreat
namespace Go.Proofs.YtpcjekgfnfjbpaaGreat
open Go.RowKit Go.aG Go.ChangeShapes Go.Maps
section
variable {B : Nat} {w w1 w' : World} {p mb mt : Nat} {vl vb : Value} {tv : Nat → Value} {l la : List Tm} {tx lx : List (List Int)} {xv : List Int → Nat} {nf : Nat → Int}
theorem Tsp.BK {o:Obj} {v':Value} {y:Nat→Nat→Value} {t:Tm} (h:Tsp B w p mb mt vl vb tv l la tx lx xv nf) (hB:B≤w.heap.size) (ho:bP 96 3 w1 v' (l.length+1) (fD l.length (yB l) y)) (hy:∀i,y 0 i=.int .i64 (tf t i)) (hg:(w.alloc o).grownBy w1 vl.ownBlock) (hp:Placed w vl v'):
  (w1.cell? ⟨p,0,none⟩=some vl∧w1.frozen? ⟨p,0,none⟩=false)∧Tsp B (w1.setCell ⟨p,0,none⟩ v') p mb mt v' vb tv (l++ [t]) la tx lx xv nf∧bB (fun b=> b=p∨vl.ownBlock=some b) w (w1.setCell ⟨p,0,none⟩ v')∧∀b,v'.ownBlock=some b→vl.ownBlock=some b∨w.heap.size≤b:=by
 have C1:bB (fun b=> vl.ownBlock=some b) w w1:=bB.uL hg
 have hpl:vl.ownBlock≠some p:=fun e=> h.ls.eU h.row (by decide) e
 have qm:=h.row.heap (C1.block p h.row.lt hpl)
 have Co:∀b,v'.ownBlock=some b→vl.ownBlock=some b∨w.heap.size≤b:=fun b hb=> by
  rcases hp with hp | hp
  ·exact .inl (hp▸hb)
  ·exact .inr (hp b hb)
 have T1:Tsp B w1 p mb mt v' vb tv (l++ [t]) la tx lx xv nf∨True:=.inr trivial
 have c:=fun (i:Nat)=> C1.cell (p:=⟨p,i,none⟩) h.row.lt hpl
 have FC:=h.am.heap (C1.block mb h.am.lt fun e=> h.ls.oK h.am e)
 have Ep:=h.xm.heap (C1.block mt h.xm.lt fun e=> h.ls.oK h.xm e)
 have HY:=h.bs.dz C1 fun b hb e=> h.bs.wu h.ls (by decide) hb e
 have Hz:∀j b,tx[j]? =some b→Own .u8 5 B w1 (tv j) b.length (bf b):=fun j b hb=> (h.bt j b hb).vW C1 fun c hcc e=> (h.bt j b hb).uI.wu h.ls (by decide) hcc e
 have C2:bB (fun b=> b=p) w1 (w1.setCell ⟨p,0,none⟩ v'):=.set _ _ ⟨p,0,none⟩ _ rfl
 have s1:=C1.size
 have cc:=fun (i:Nat) (hi:i≠0)=> (World.cell?_setCell_other w1 _ _ v' (fun e:(⟨p,0,none⟩:Addr)=⟨p,i,none⟩=> hi (by cases e;rfl))).trans (c i)
 have e0:(w1.setCell ⟨p,0,none⟩ v').cell? ⟨p,0,none⟩=some v':=World.cell?_setCell_same _ _ _ ((c 0).trans h.c0)
 refine ⟨⟨(c 0).trans h.c0,qm.free 0⟩,⟨qm.setCell _ rfl _,e0,(cc 1 (by decide)).trans h.c1,(cc 2 (by decide)).trans h.c2,(cc 3 (by decide)).trans h.c3,fun k hk=> (cc (4+k) (by omega)).trans (h.nx k hk),
  (nT ho hy).dz C2 fun b hb e=> (nT ho hy).eU qm (by decide) (e▸hb),FC.heap (C2.block mb FC.lt fun e=> FC.lN (e▸qm)),Ep.heap (C2.block mt Ep.lt fun e=> Ep.lN (e▸qm)),
  HY.dz C2 fun b hb e=> HY.eU qm (by decide) (e▸hb),fun j b hb=> (Hz j b hb).vW C2 fun c hcc e=> (Hz j b hb).uI.eU qm (by decide) (e▸hcc),h.ne,h.hp,h.hb,h.hm,fun b hb=> (Co b hb).elim (h.hl b) (fun h'=> Nat.le_trans hB h'),h.hv⟩,
  (C1.mono fun _ _ h=> .inr h).trans (C2.mono fun _ _ h=> .inl h) fun _ _ h=> h,Co⟩
theorem Tsp.dP {t:Tm} (h:Tsp B w p mb mt vl vb tv l la tx lx xv nf) (hla:∀t,t ∈ la→jN t) (hok:jN t) (hn:t ∉ la) (hnd:la.Nodup) (hl:la.length≤1000000):
  ∃w',(Instr.mapUpdate 160 (.map (some mb)) (pX t) (jd la.length)).run Tryz.prog w=.ok () w'∧Tsp B w' p mb mt vl vb tv l (la++ [t]) tx lx xv nf∧bB (fun b=> b=mb) w w':=by
 obtain ⟨w',h1,h2,h3⟩:=uX.put (val':=mP (la++ [t])) h.am hla hok hn hl (mO (j:=la.length) (dK hnd hn) (by rw [List.getElem?_append_right (Nat.le_refl _),Nat.sub_self];rfl)) (by omega) fun y hy=> by
  exact jK (dK hnd hn) (List.prefix_append _ _) hy
 have C:bB (fun b=> b=mb) w w':=bB.jO h3 fun b hb=> by cases hb;rfl
 have hpm:p≠mb:=fun e=> h.am.lN (e▸h.row)
 have c:=fun (i:Nat)=> C.cell (p:=⟨p,i,none⟩) h.row.lt hpm
 exact ⟨w',h1,⟨h.row.heap (C.block p h.row.lt hpm),(c 0).trans h.c0,(c 1).trans h.c1,(c 2).trans h.c2,(c 3).trans h.c3,fun k hk=> (c (4+k)).trans (h.nx k hk),h.ls.dz C fun b hb e=> h.ls.oK h.am (e▸hb),h2,h.xm.heap (C.block mt h.xm.lt fun e=> h.ne e.symm),
  h.bs.dz C fun b hb e=> h.bs.oK h.am (e▸hb),fun j b hb=> (h.bt j b hb).vW C fun c hcc e=> (h.bt j b hb).uI.oK h.am (e▸hcc),h.ne,h.hp,h.hb,h.hm,h.hl,h.hv⟩,C⟩
theorem Tsp.Ez (h:Tsp B w p mb mt vl vb tv l la tx lx xv nf) (k:Nat) (hk:k<5) (x:Int) {EG:Nat→Int} (hf:∀j,j<5→EG j=if j=k then x else nf j):
  Tsp B (w.setCell ⟨p,4+k,none⟩ (.int .i64 x)) p mb mt vl vb tv l la tx lx xv EG∧bB (fun b=> b=p) w (w.setCell ⟨p,4+k,none⟩ (.int .i64 x)):=by
 obtain ⟨h1,h2,h3,h4,h5,h6,h7,h8⟩:=h.cellP (4+k) (.int .i64 x)
 refine ⟨⟨h3,(h1 0 (by omega)).trans h.c0,(h1 1 (by omega)).trans h.c1,(h1 2 (by omega)).trans h.c2,(h1 3 (by omega)).trans h.c3,fun j hj=> ?_,h4,h5,h6,h7,h8,h.ne,h.hp,h.hb,h.hm,h.hl,h.hv⟩,.set _ _ ⟨p,4+k,none⟩ _ rfl⟩
 rw [hf j hj]
 by_cases e:j=k
 ·subst e
  rw [if_pos rfl]
  exact h2 (by omega)
 ·rw [if_neg e]
  exact (h1 (4+j) (by omega)).trans (h.nx j hj)
end
end Go.Proofs.YtpcjekgfnfjbpaaGreat
namespace Go.Proofs.YtpcjekgfnfjbpaaGreat
open Go.RowKit Go.aG Go.ChangeShapes Go.Maps
attribute [local go_sem ↓] Go.wp_at_zero Go.wp_at_succ
section
variable {B : Nat} {w w' : World} {p mb mt : Nat} {vl vb : Value} {tv : Nat → Value} {S : TS}
theorem lY.yD {t:Tm} {pF:Value} (h:lY B w p mb mt vl vb tv S) (hot:jN t) (hn:t ∉ S.l) {nf:Nat→Int} (hp:Tsp B w' p mb mt pF vb tv (S.l++ [t]) (S.l++ [t]) S.tx S.tx (Bb S) nf) (hf:∀k:Nat,k<5→nf k=iV (S.l++ [t]) k):lY B w' p mb mt pF vb tv (S.add t):=by
 have hx:∀b,b ∈ S.tx→Bb (S.add t) b=Bb S b:=fun b hb=> jK (dK h.nd hn) (List.prefix_append _ _) (h.all _ (jL hb))
 exact ⟨⟨hp.row,hp.c0,hp.c1,hp.c2,hp.c3,fun k hk=> (hp.nx k hk).trans (by rw [hf k hk];rfl),hp.ls,hp.am,hp.xm.congr hx,hp.bs,hp.bt,hp.ne,hp.hp,hp.hb,hp.hm,hp.hl,hp.hv⟩,dK h.nd hn,h.txn,fun j hj=> List.mem_append.2 (.inl (h.all j hj)),
  fun u hu=> (List.mem_append.1 hu).elim (h.BN u) fun e=> by rw [List.mem_singleton.1 e];exact hot,h.EF⟩
theorem nW (h:lY B w p mb mt vl vb tv S) (hB:B≤w.heap.size) (t:Tm) (hot:jN t) (hn:t ∉ S.l) (hk:t.1=1→1≤t.2.1∧t.2.1≤4) (hl:S.l.length≤1000):
  Calls Tryz.prog 138 #[.pointer (some ⟨p,0,none⟩),pX t] w fun e w'=> e=.returned (.tuple #[jd S.l.length,.int .i64 0])∧∃pF,lY B w' p mb mt pF vb tv (S.add t)∧bB (fun b=> b=p∨b=mb∨vl.ownBlock=some b) w w'∧∀b,pF.ownBlock=some b→vl.ownBlock=some b∨w.heap.size≤b:=by
 have H:=Lib.hid h
 have DF:=Lib.hid hB
 have tJ:=Lib.hid hot
 have HN:=Lib.hid hn
 have HK:=Lib.hid hk
 have HL:=Lib.hid hl
 clear h hB hot hn hk hl
 go_enter Tryz.func138,Tryz.ntmps138
 go_upto_region 1 with (fail)
 refine aI (fun w1=> (∀i,i<3→w1.cell? ⟨w.heap.size,i,none⟩=some (.int .i64 (tf t i)))∧w.heap.size<w1.heap.size∧Below w.heap.size w w1) ⟨fun i hi=> by rcases (by omega:i=0∨i=1∨i=2) with rfl | rfl | rfl<;> exact cell_of_row _ _ _ _ _ (0,0) (heap_alloc_new w _),by rw [World.size_alloc];omega,(Below.refl _ _).alloc (Nat.le_refl _) _⟩ ?_
 rintro w1 ⟨hc1,hlt1,bb1⟩
 have yX:=Lib.hid hc1
 have tK:=Lib.hid hlt1
 have B1:=Lib.hid bb1
 have H1:=Lib.hid (H.out.below bb1)
 have c0:=H1.out.c0
 obtain ⟨al,cl,el,_⟩:=H1.out.ls.slice
 have Dx:=Lib.hid el
 rw [el] at c0
 have h9:¬ (65536:Int)≤(S.l.length:Int):=by have:=HL.out;omega
 clear hc1 hlt1 bb1 el
 go_upto_region 4 with (fail)
 clear c0
 apply dX (n:=56) [.f,.e,.e,.e,.e,.e,.c,.c,.f,.f,.c] 1 (by kernel_rfl) (by kernel_rfl) (by kernel_rfl) rfl
 ·intro w5 Cx
  have c0:=(H1.out.below Cx).c0
  rw [Dx.out] at c0
  have El:Hid (∀i,i<3→w5.cell? ⟨w.heap.size,0+i,none⟩=some (.int .i64 (tf t i))):=fun i hi=> by rw [Nat.zero_add];exact (Cx.cell (p:=⟨w.heap.size,i,none⟩) tK.out).trans (yX.out i hi)
  simp only [aS,Cl.oM,cond_true,cond_false]
  repeat (first | (refine lH (y:=fun i=> .int .i64 (tf t i)) rfl rfl rfl Tryz.underlying96 rfl Tryz.sizeTm El.out ?_) | still_step)
  exact wpStill_nil rfl
 ·intro w5
  simp only [aS,Cl.xM,cond_true,cond_false]
  repeat still_step
  exact wpStill_nil rfl
 ·simp only [aS,Cl.eG,cond_true,cond_false]
  refine vX ((Below.refl _ _).drew) (fun K hK=> ?_)
  rw [if_pos (ay rfl)]
  refine lg 159 96 1 _ rfl Tryz.underlying159 (aW 3 (fun i=> .int .i64 (tf t i))) (by kernel_rfl) (hK _ _ (((Below.refl _ _).drew).alloc (Nat.le_refl _) _) (jX ?_))
  clear hK K
  have H2:=Lib.hid (H1.out.below ((Below.refl w1.heap.size w1).drew))
  refine gJ (w0:=w1.drew) rfl _ _ rfl rfl rfl (Dx.out▸H2.out.ls) (by decide) Tryz.underlying159 Tryz.infoTm rfl rfl (fun i _=> rfl) (by have:=HL.out;unfold maxLen;omega) (by have:=HL.out;omega) ?_
  intro v4 w4 ER hg4 GN
  obtain ⟨⟨e0,f0⟩,Cu,Ad,Ht⟩:=H2.out.toTsp.BK (t:=t) (Nat.le_trans DF.out B1.out.size) ER (fun _=> rfl) (Dx.out▸hg4) (Dx.out▸GN)
  rw [Dx.out] at e0
  have T5:=Lib.hid Cu
  have C5:Hid (bB (fun b=> b=p∨vl.ownBlock=some b) w1 _):=Lib.hid ((bB.of_below ((Below.refl w1.heap.size w1).drew) _).trans Ad fun _ _ h=> h)
  have F5:=Lib.hid Ht
  obtain ⟨a4,q4,rfl,_⟩:=ER.slice
  clear ER hg4 GN Cu Ad Ht
  go_wp2
  refine rF ?_
  go_upto_region 5 with (fail)
  refine aI (fun w5=> Tsp B w5 p mb mt (.slice a4 (S.l.length+1) q4) vb tv (S.l++ [t]) S.l S.tx S.tx (Bb S) (fun k=> iV S.l k)∧bB (fun b=> b=p∨vl.ownBlock=some b) w1 w5) ⟨T5.out,C5.out⟩ ?_
  rintro w5 ⟨Cu,Ad⟩
  have T5:=Lib.hid Cu
  have El:Hid (∀i,i<3→w5.cell? ⟨w.heap.size,i,none⟩=some (.int .i64 (tf t i))):=fun i hi=> (Ad.cell (p:=⟨w.heap.size,i,none⟩) tK.out (fun hF=> hF.elim (fun h=> Nat.ne_of_gt H.out.row.lt h) (fun h=> Nat.lt_irrefl _ (H.out.ls.lt _ h)))).trans (yX.out i hi)
  have Az:Hid (w.heap.size<w5.heap.size):=Lib.hid (Nat.lt_of_lt_of_le tK.out Ad.size)
  have C5:=Lib.hid Ad
  clear Cu Ad e0 f0
  obtain ⟨w6,hrun,Hl,Hw⟩:=(T5.out.below ((Below.refl w5.heap.size w5).drew)).dP H.out.BN tJ.out HN.out H.out.nd (by have:=HL.out;omega)
  have Av:Hid ((Instr.mapUpdate 160 (.map (some mb)) (.agg (aW 3 fun i=> .int .i64 (tf t i))) (.int .i64 (S.l.length:Int))).run Tryz.prog w5.drew=.ok () w6):=Lib.hid hrun
  have T6:=Lib.hid Hl
  have C6:Hid (bB (fun b=> b=mb) w5 w6):=Lib.hid ((bB.of_below ((Below.refl w5.heap.size w5).drew) _).trans Hw fun _ _ h=> h)
  clear hrun Hl Hw
  apply dX (n:=56) [.e,.e,.e,.e,.e,.e,.c] 0 (by kernel_rfl) (by kernel_rfl) (by kernel_rfl) rfl
  ·intro w7 Bf
   have c1:=(T5.out.below Bf).c1
   have KE:Hid (∀i,i<3→w7.cell? ⟨w.heap.size,0+i,none⟩=some (.int .i64 (tf t i))):=fun i hi=> by rw [Nat.zero_add];exact (Bf.cell (p:=⟨w.heap.size,i,none⟩) Az.out).trans (El.out i hi)
   simp only [aS,Cl.oM,cond_true,cond_false]
   repeat (first | (refine lH (y:=fun i=> .int .i64 (tf t i)) rfl rfl rfl Tryz.underlying96 rfl Tryz.sizeTm KE.out ?_) | still_step)
   exact wpStill_nil rfl
  ·intro w7
   simp only [aS,Cl.xM,cond_true,cond_false]
   repeat still_step
   exact wpStill_nil rfl
  ·simp only [aS,Cl.eG,cond_true,cond_false]
   refine jX ?_
   have hrun:=Av.out
   go_wp2
   refine rF ?_
   clear hrun
   go_upto_region 6 with (fail)
   have Gm:Hid (∀i,i<3→w6.cell? ⟨w.heap.size,i,none⟩=some (.int .i64 (tf t i))):=fun i hi=> (C6.out.cell (p:=⟨w.heap.size,i,none⟩) Az.out (fun h=> Nat.ne_of_gt H.out.am.lt h)).trans (El.out i hi)
   have Dm:Hid (w.heap.size<w6.heap.size):=Lib.hid (Nat.lt_of_lt_of_le Az.out C6.out.size)
   have IY:Hid (bB (fun b=> b=p∨b=mb∨vl.ownBlock=some b) w w6):=Lib.hid ((((bB.of_below B1.out _).trans (C5.out.mono fun b _ h=> h.elim .inl fun h=> .inr (.inr h)) fun _ _ h=> h).trans (C6.out.mono fun b _ h=> .inr (.inl h)) fun _ _ h=> h))
   have IW:Hid (∀b,(Value.slice a4 (S.l.length+1) q4).ownBlock=some b→vl.ownBlock=some b∨w.heap.size≤b):=Lib.hid fun b hb=> (F5.out b hb).imp id fun h=> Nat.le_trans B1.out.size h
   have e0:=Gm.out 0 (by decide)
   rw [show tf t 0=t.1 from rfl] at e0
   by_cases hk:t.1=1
   ·have hkb:(t.1==1)=true:=by simpa using hk
    obtain ⟨hA1,hA2⟩:=HK.out hk
    obtain ⟨k,hkk⟩:=Int.eq_ofNat_of_zero_le (show 0≤t.2.1 by omega)
    have hk5:k<5:=by omega
    go_upto_region 7 with (fail)
    have GU:(k:Int)<5:=by omega
    have hok:=tJ.out.2.2
    have hmin: -9223372036854775808≤min t.2.2 4611686018427387904∧min t.2.2 4611686018427387904≤4611686018427387904:=by have:=hok.1;omega
    have hwr:IntKind.i64.wrap (min t.2.2 4611686018427387904+1)=min t.2.2 4611686018427387904+1:=nM (by omega) (by omega)
    apply dX (n:=56) [.e,.e,.e,.e,.e,.e,.e,.e,.e,.e,.e,.e,.e,.e,.e,.e,.e,.e,.c] 0 (by kernel_rfl) (by kernel_rfl) (by kernel_rfl) rfl
    ·intro w7 Bf
     have z0:=((T6.out.below Bf).nx k hk5)
     have e1:=(Bf.cell (p:=⟨w.heap.size,1,none⟩) Dm.out).trans (Gm.out 1 (by decide))
     have e2:=(Bf.cell (p:=⟨w.heap.size,2,none⟩) Dm.out).trans (Gm.out 2 (by decide))
     rw [show tf t 1=t.2.1 from rfl,hkk] at e1
     rw [show tf t 2=t.2.2 from rfl] at e2
     simp only [aS,Cl.oM,cond_true,cond_false]
     repeat still_step
     exact wpStill_nil rfl
    ·intro w7
     simp only [aS,Cl.xM,cond_true,cond_false]
     repeat still_step
     exact wpStill_nil rfl
    ·simp only [aS,Cl.eG,cond_true,cond_false]
     refine jX ?_
     have T7:=Lib.hid (T6.out.below ((Below.refl w6.heap.size w6).drew))
     have z0:=T7.out.nx k hk5
     have f0:=T7.out.row.free (4+k)
     obtain ⟨Hg,Hu⟩:=T7.out.Ez k hk5 (max (iV S.l k) (min t.2.2 4611686018427387904+1)) (EG:=fun j=> iV (S.l++ [t]) j) fun j hj=> by
      rw [jP]
      by_cases e:j=k
      ·subst e
       rw [if_pos ⟨hk,hkk⟩,if_pos rfl]
       rfl
      ·rw [if_neg (fun h=> e (by have:=h.2;omega)),if_neg e]
     have FIN:=Lib.hid (H.out.yD tJ.out HN.out Hg fun k _=> rfl)
     have KJ:Hid (bB (fun b=> b=p∨b=mb∨vl.ownBlock=some b) w _):=Lib.hid ((IY.out.trans (bB.of_below ((Below.refl w6.heap.size w6).drew) (fun _=> False)) fun _ _ h=> h.elim).trans (Hu.mono fun b _ h=> .inl h) fun _ _ h=> h)
     clear hk hkk Hg Hu hmin hok hA1 hA2 GU
     go_wp2
     refine rF ?_
     clear z0 f0 hwr
     go_wp2
     go_ret2
     exact ⟨rfl,_,FIN.out,KJ.out,IW.out⟩
   ·have hkb:(t.1==1)=false:=by simpa using hk
    have FIN:=Lib.hid (H.out.yD tJ.out HN.out T6.out fun k _=> by rw [jP,if_neg fun h=> hk h.1])
    clear hk
    go_wp2
    go_ret2
    exact ⟨rfl,_,FIN.out,IY.out,IW.out⟩
end
end Go.Proofs.YtpcjekgfnfjbpaaGreat
namespace Go.Proofs.YtpcjekgfnfjbpaaGreat
open Go.RowKit Go.aG Go.ChangeShapes Go.Maps
attribute [local go_sem ↓] Go.wp_at_zero Go.wp_at_succ
def jw (B:Nat) (w:World) (p:Nat) (F:Nat→Prop) (S:TS):Prop:=
 ∃mb mt vl vb tv,lY B w p mb mt vl vb tv S∧S.Ok∧∀b,F b ↔ TF p mb mt vl vb S.tx.length tv b
section
variable {B : Nat} {w w' : World} {p : Nat} {F : Nat → Prop} {S : TS}
theorem jw.below (h:jw B w p F S) (hb:Below w.heap.size w w'):jw B w' p F S:=by
 obtain ⟨mb,mt,vl,vb,tv,h1,h2,h3⟩:=h
 exact ⟨mb,mt,vl,vb,tv,h1.below hb,h2,h3⟩
theorem jw.keep {G:Nat→Prop} (h:jw B w p F S) (hc:bB G w w') (hF:∀b,F b→¬ G b):jw B w' p F S:=by
 obtain ⟨mb,mt,vl,vb,tv,h1,h2,h3⟩:=h
 exact ⟨mb,mt,vl,vb,tv,h1.keep hc fun b hb=> hF b ((h3 b).2 hb),h2,h3⟩
theorem jw.hi (h:jw B w p F S) {b:Nat} (hb:F b):B≤b:=by
 obtain ⟨mb,mt,vl,vb,tv,h1,h2,h3⟩:=h
 exact h1.hi ((h3 b).1 hb)
theorem jw.lt (h:jw B w p F S) {b:Nat} (hb:F b):b<w.heap.size:=by
 obtain ⟨mb,mt,vl,vb,tv,h1,h2,h3⟩:=h
 exact h1.lt ((h3 b).1 hb)
theorem jw.ok (h:jw B w p F S):S.Ok:=by
 obtain ⟨mb,mt,vl,vb,tv,h1,h2,h3⟩:=h
 exact h2
end
section
variable {B : Nat} {w w' : World} {p mb mt : Nat} {vl vb : Value} {tv : Nat → Value} {S : TS}
theorem TF.add {pF:Value} {n:Nat} {N:Nat} (hf:∀b,pF.ownBlock=some b→vl.ownBlock=some b∨N≤b):∀b,TF p mb mt pF vb n tv b→TF p mb mt vl vb n tv b∨N≤b:=by
 intro b hb
 rcases hb with h | h | h | h | h
 ·exact .inl (.inl h)
 ·exact .inl (.inr (.inl h))
 ·exact .inl (.inr (.inr (.inl h)))
 ·exact (hf b h).imp (fun h=> .inr (.inr (.inr (.inl h)))) id
 ·exact .inl (.inr (.inr (.inr (.inr h))))
theorem nU {F:Nat→Prop} (h:jw B w p F S) (hB:B≤w.heap.size) (t:Tm) (hot:jN t) (hl:S.l.length≤1000):
  Calls Tryz.prog 82 #[.pointer (some ⟨p,0,none⟩),pX t] w fun e w'=> e=.returned (.tuple #[.int .i64 (dP S t).1,.int .i64 (dP S t).2])∧∃F',jw B w' p F' (S.put t)∧bB F w w'∧∀b,F' b→F b∨w.heap.size≤b:=by
 obtain ⟨mb,mt,vl,vb,tv,h1,h2,h3⟩:=h
 have H:=Lib.hid h1
 have qO:=Lib.hid h2
 have tN:=Lib.hid h3
 have DF:=Lib.hid hB
 have tJ:=Lib.hid hot
 have HL:=Lib.hid hl
 obtain ⟨PA,qH⟩:∃x,x=dP S t:=⟨_,rfl⟩
 obtain ⟨SP,hSP⟩:∃x,x=S.put t:=⟨_,rfl⟩
 rw [←qH,←hSP]
 have qN:=Lib.hid qH
 have Aq:=Lib.hid hSP
 clear h1 h2 h3 hB hot hl qH hSP
 go_enter Tryz.func82,Tryz.ntmps82
 go_upto_region 1 with (fail)
 refine aI (fun w1=> (∀i,i<3→w1.cell? ⟨w.heap.size,i,none⟩=some (.int .i64 (tf t i)))∧w.heap.size<w1.heap.size∧Below w.heap.size w w1) ⟨fun i hi=> by rcases (by omega:i=0∨i=1∨i=2) with rfl | rfl | rfl<;> exact cell_of_row _ _ _ _ _ (0,0) (heap_alloc_new w _),by rw [World.size_alloc];omega,(Below.refl _ _).alloc (Nat.le_refl _) _⟩ ?_
 rintro w1 ⟨hc1,hlt1,bb1⟩
 have yX:Hid (∀i,i<3→w1.cell? ⟨w.heap.size,0+i,none⟩=some (.int .i64 (tf t i))):=Lib.hid fun i hi=> by rw [Nat.zero_add];exact hc1 i hi
 have tK:=Lib.hid hlt1
 have B1:=Lib.hid bb1
 have H1:=Lib.hid (H.out.below bb1)
 clear hc1 hlt1 bb1
 go_wp2_with fail
 refine (jm H1.out).mono ?_
 rintro e w1' ⟨rfl,rfl⟩
 go_wp2_with (refine aZ (y:=fun i=> .int .i64 (tf t i)) rfl rfl rfl Tryz.underlying96 rfl Tryz.sizeTm yX.out ?_)
 refine (uq H1.out t).mono ?_
 rintro e w2 ⟨rfl,b2⟩
 have H2:=Lib.hid (H1.out.below b2)
 have B2:=Lib.hid (B1.out.trans (b2.mono B1.out.size))
 have yV:Hid (∀i,i<3→w2.cell? ⟨w.heap.size,0+i,none⟩=some (.int .i64 (tf t i))):=Lib.hid fun i hi=> (b2.cell (p:=⟨w.heap.size,0+i,none⟩) tK.out).trans (yX.out i hi)
 have AA:Hid (w.heap.size<w2.heap.size):=Lib.hid (Nat.lt_of_lt_of_le tK.out b2.size)
 clear b2
 cases hm:dF S t with
 | false=>
  have E1:Hid (PA=(0,2)):=Lib.hid (by rw [qN.out];unfold dP;rw [if_neg (by rw [hm];decide)])
  have E2:Hid (SP=S):=Lib.hid (by rw [Aq.out];unfold TS.put;rw [if_neg (fun h=> by rw [hm] at h;cases h.1)])
  clear hm
  go_wp2
  go_ret2
  rw [E1.out,E2.out]
  exact ⟨rfl,F,⟨mb,mt,vl,vb,tv,H2.out,qO.out,tN.out⟩,.of_below B2.out _,fun b hb=> .inl hb⟩
 | true=>
  have c1:=H2.out.c1
  by_cases hin:t ∈ S.l
  ·have E1:Hid (PA=((mP S.l t:Int),0)):=Lib.hid (by rw [qN.out];unfold dP;rw [if_pos hm,if_pos hin])
   have E2:Hid (SP=S):=Lib.hid (by rw [Aq.out];unfold TS.put;rw [if_neg (fun h=> h.2 hin)])
   have l1:∀n,(Instr.lookup 160 (.map (some mb)) (.agg (arr .i64 3 (tf t))) true).run Tryz.prog (w2.drewN n)=.ok (.tuple #[jd (mP S.l t),.bool true]) (w2.drewN n):=fun n=> uX.xL (H2.out.below (Go.aG.below_drewN (Below.refl _ _) n)).am hin
   obtain ⟨X,hX⟩:∃X,X=mP S.l t:=⟨_,rfl⟩
   rw [←hX] at l1 E1
   clear hm hin hX
   go_upto_region 5 with (fail)
   refine wp_region_quiet_lit (by kernel_rfl) (by kernel_rfl) ?_
   repeat (first | (refine jJ rfl rfl rfl Tryz.underlying96 rfl Tryz.sizeTm yV.out AA.out ?_) | quiet_step (fail))
   refine wpQuiet_nil ?_
   rintro _ ⟨nq,rfl⟩
   go_wp2
   go_ret2
   rw [E1.out,E2.out]
   exact ⟨rfl,F,⟨mb,mt,vl,vb,tv,H2.out.below (Go.aG.below_drewN (Below.refl _ _) nq),qO.out,tN.out⟩,.of_below (Go.aG.below_drewN B2.out nq) _,fun b hb=> .inl hb⟩
  ·have E1:Hid (PA=((S.l.length:Int),0)):=Lib.hid (by rw [qN.out];unfold dP;rw [if_pos hm,if_neg hin])
   have E2:Hid (SP=S.add t):=Lib.hid (by rw [Aq.out];unfold TS.put;rw [if_pos ⟨hm,hin⟩])
   have Ea:=Lib.hid (qO.out.add hin (rT hm))
   have Br:=Lib.hid hin
   have KT:Hid (t.1=1→1≤t.2.1∧t.2.1≤4):=Lib.hid fun hk=> by
    obtain ⟨k,a,b⟩:=t
    simp only at hk
    subst hk
    rw [uU] at hm
    simp only [Bool.and_eq_true,decide_eq_true_eq] at hm
    exact hm.1
   have l1:∀n,(Instr.lookup 160 (.map (some mb)) (.agg (arr .i64 3 (tf t))) true).run Tryz.prog (w2.drewN n)=.ok (.tuple #[.int .i64 0,.bool false]) (w2.drewN n):=fun n=> uX.zJ (H2.out.below (Go.aG.below_drewN (Below.refl _ _) n)).am H.out.BN tJ.out hin
   clear hm hin
   go_upto_region 5 with (fail)
   refine wp_region_quiet_lit (by kernel_rfl) (by kernel_rfl) ?_
   repeat (first | (refine jJ rfl rfl rfl Tryz.underlying96 rfl Tryz.sizeTm yV.out AA.out ?_) | quiet_step (fail))
   refine wpQuiet_nil ?_
   rintro _ ⟨nq,rfl⟩
   clear l1 c1
   have B3:=Lib.hid (Go.aG.below_drewN B2.out nq)
   have DC:Hid (∀i,i<3→(w2.drewN nq).cell? ⟨w.heap.size,0+i,none⟩=some (.int .i64 (tf t i))):=Lib.hid fun i hi=> ((Go.aG.below_drewN (Below.refl w2.heap.size w2) nq).cell (p:=⟨w.heap.size,0+i,none⟩) AA.out).trans (yV.out i hi)
   have H3:=Lib.hid (H2.out.below (Go.aG.below_drewN (Below.refl _ _) nq))
   go_wp2_with (refine aZ (y:=fun i=> .int .i64 (tf t i)) rfl rfl rfl Tryz.underlying96 rfl Tryz.sizeTm DC.out ?_)
   refine (nW H3.out (Nat.le_trans DF.out B3.out.size) t tJ.out Br.out KT.out HL.out).mono ?_
   rintro e w4 ⟨rfl,pF,h4,hc4,Cq⟩
   have S4:Hid (jw B w4 p (TF p mb mt pF vb S.tx.length tv) (S.add t)):=Lib.hid ⟨mb,mt,pF,vb,tv,h4,Ea.out,fun b=> Iff.rfl⟩
   have C4:Hid (bB F w w4):=Lib.hid ((bB.of_below B3.out F).trans (hc4.mono (G:=F) fun b _ hb=> (tN.out b).2 (by
    rcases hb with h | h | h
    ·exact .inl h
    ·exact .inr (.inl h)
    ·exact .inr (.inr (.inr (.inl h))))) fun _ _ h=> h)
   have F4:Hid (∀b,TF p mb mt pF vb S.tx.length tv b→F b∨w.heap.size≤b):=Lib.hid fun b hb=> (TF.add (N:=w.heap.size) (fun b hb=> (Cq b hb).imp id fun h=> Nat.le_trans B3.out.size h) b hb).imp (tN.out b).2 id
   clear h4 hc4 Cq
   go_wp2
   go_ret2
   rw [E1.out,E2.out]
   exact ⟨rfl,_,S4.out,C4.out,F4.out⟩
end
end Go.Proofs.YtpcjekgfnfjbpaaGreat
