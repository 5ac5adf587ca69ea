/- Part 21 of SuiteBytes; conditions: in each theorem. -/
import Derived.Test.YtpcjekgfnfjbpaaGreatPkSuiteBytes19
import Derived.Test.YtpcjekgfnfjbpaaGreatPkSuiteBytes20
import Derived.StillTailTactics
set_option linter.unusedVariables false
set_option linter.unusedSimpArgs false
set_option maxRecDepth 100000
set_option maxHeartbeats 1600000
namespace Go.bC
open Go.RowKit
def Ik (S:TS) (n:Int):List Int × Bool:=if ig S.l n 9=true then (S.tx.getD (qD S.l n.toNat).2.1.toNat [],true) else ([],false)
def mW (n:Nat) (f:Nat->Int):List Int:=(List.range n).map f
@[simp] theorem fA (n:Nat) (f:Nat->Int):(mW n f).length=n:=by simp[mW]
theorem oo {n i:Nat} {f:Nat->Int} (h:i<n):bf (mW n f) i=f i:=by
 unfold bf mW;rw[IK,List.getElem?_map,List.getElem?_range h]
 rfl
theorem wP {n:Nat} {f:Nat->Int} (h:∀i,i<n->0<=f i/\f i<256):okB (mW n f):=by
 intro x hx;obtain⟨i,hi,rfl⟩:=List.mem_map.1 hx;exact h i (List.mem_range.1 hi)
theorem Uw (l:List Int):mW l.length (bf l)=l:=by
 apply List.ext_getElem?
 intro i;by_cases h:i<l.length
 ·unfold mW bf;rw[List.getElem?_map,List.getElem?_range h,tO h];simp[IK,tO h]
 ·rw[List.getElem?_eq_none (by simpa using h),List.getElem?_eq_none aH]
theorem QC {n:Nat} {f g:Nat->Int} (h:∀i,i<n->f i=g i):mW n f=mW n g:=List.map_congr_left fun i hi=>h i (List.mem_range.1 hi)
theorem Rd.mW {k:IntKind} {w:World} {v:Value} {n:Nat} {f:Nat->Int} (h:Rd k w v n f):Rd k w v (Go.bC.mW n f).length (bf (Go.bC.mW n f)):=by
 rw[fA];exact h.congr fun i hi=>(oo hi).symm
def wM (n:Int) (i:Nat):Int:=n / 2 ^ (8 * (8 - 1 - i)) % 256
theorem Gu (n:Int) (i:Nat):0<=wM n i/\wM n i<256:=by unfold wM;omega
def uw (n:Int):List Int:=mW 9 (fO 1 (fun _=>247) (wM n))
theorem oF (n:Int):(uw n).length=9:=fA _ _
theorem Sy (n:Int):okB (uw n):=wP (fU (n:=1) (m:=8) (fun _ _=>by decide) fun i _=>Gu n i)
def SL (l:List Int) (i:Nat):Int:=bf l (1+i)
def qO (S:TS) (l:List Int):Option Nat:=if l.length=9/\bf l 0=247/\qR (SL l) 8=0/\mV (SL l) 8<S.l.length then some (mV (SL l) 8).toNat else none
theorem Ck {f:Nat->Int}:∀k,(∀i,i<k->0<=f i)->0<=big f k
 | 0,_=>Int.le_refl _
 | k+1,h=>by have:=Ck k fun i hi=>h i aH;have:=h k aH;rw[big];omega
theorem uN {f:Nat->Int} {k:Nat} (h:∀i,i<k->0<=f i):0<=mV f k:=by
 unfold mV
 split
 ·exact Int.le_refl _
 ·exact Ck k h
theorem wQ {S:TS} {l:List Int} {n:Nat} (hb:okB l) (h:qO S l=some n):n<S.l.length:=by
 unfold qO at h
 split at h
 ·rename_i h'
  have h0:0<=mV (SL l) 8:=uN fun i hi=>(hb.at _ aH).1;obtain rfl:=iy h;have:=h'.2.2.2;omega
 ·cases h
def TS.few (S:TS):Prop:=∀s,xR S.l s<=S.l.length
theorem TS.few.nil:TS.few ⟨[], []⟩:=fun s=>Int.le_refl _
theorem TS.few.add {S:TS} (h:S.few) {t:Tm} (ht:t.1=1->t.2.2<=S.l.length):(S.add t).few:=fun s=>by
 have:=h s;rw[Zx];show xR (S.l++ [t]) s<=_;rw[sQ]
 split
 ·rename_i h'
  have:=ht h'.1;unfold oz;omega
 ·omega
theorem TS.few.put {S:TS} (h:S.few) {t:Tm} (ht:t.1≠1):(S.put t).few:=by
 unfold TS.put
 split
 ·exact h.add fun e=>absurd e ht
 ·exact h
theorem TS.few.draw {S:TS} (h:S.few) (s:Int):(S.draw s).few:=by
 unfold TS.draw
 split
 ·exact h.add fun _=>h s
 ·exact h
theorem TS.few.text {S:TS} (h:S.few) (b:List Int):(S.text b).few:=by
 unfold TS.text
 split
 ·exact h
 ·exact fun s=>by
   have:=(h.add (t:=((9,(S.tx.length:Int),0):Tm)) (fun e=>absurd e aR)) s;exact this
abbrev TA:Type:=List Int × Int × TS
def sP (k:Int) (S:TS) (l:List Int):TA:=match qO S l with
 | some n=>(uw (rQ S (k,n,0)).1,0,S.put (k,n,0))
 | none=>([],11,S)
def kdT (S:TS) (n:Nat):Int:=(qD S.l n).1
def xA (S:TS) (s:Int):TA:=if isSort s=true then (uw S.l.length,0,S.draw s) else ([],2,S)
def yT (S:TS) (a x:List Int):TA:=match qO S a with
 | some n=>(uw (rQ (S.text x) (8,n,yQ S x)).1,0,(S.text x).put (8,n,yQ S x))
 | none=>([],11,S)
structure kJ (F:Nat->Prop) (w:World) (v:Value) (l:List Int):Prop where
 ok:okB l
 rd:Rd .u8 w v l.length (bf l)
 off:0<l.length->∀b,v.ownBlock=some b->¬ F b
section
variable {F F' G : Nat -> Prop} {w w' : World} {v : Value} {l : List Int}
theorem Rd.Zr {k:IntKind} {n:Nat} {f:Nat->Int} (h:Rd k w v n f) (hn:0<n) {b:Nat} (hb:v.ownBlock=some b):b<w.heap.size:=by
 obtain⟨a,c,rfl,_,_,_,h4⟩:=h;obtain⟨g,o,rfl,hlt,_⟩:=h4 hn;obtain rfl:g=b:=by simpa [Value.ownBlock] using hb
 exact hlt
theorem kJ.below (h:kJ F w v l) (hb:Below w.heap.size w w'):kJ F w' v l:=⟨h.ok,h.rd.below hb,h.off⟩
structure Ag (p:Nat) (F:Nat->Prop) (w w':World):Prop where
 yJ:iW (fun b=>b=p\/F b) w w'
 u8:∀b,b<w.heap.size->¬ F b->∀i x,w.cell? ⟨b,i,none⟩=some (.int .u8 x)->w'.cell? ⟨b,i,none⟩=some (.int .u8 x)
theorem Ag.of_below {p:Nat} (h:Below w.heap.size w w') (F:Nat->Prop):Ag p F w w':=⟨.of_below h _,fun b hb _ i x hx=>(h.cell (p:=⟨b,i,none⟩) hb).trans hx⟩
theorem Ag.trans {p:Nat} {w'':World} (h:Ag p F w w') (h':Ag p F' w' w'') (hF:∀b,F' b->F b\/w.heap.size<=b):Ag p F w w'':=
 ⟨h.yJ.trans h'.yJ fun b hb h1=>h1.imp id fun h2=>(hF b h2).elim id fun h3=>by omega,fun b hb hn i x hx=>h'.u8 b (zO hb h.yJ.size) (fun h2=>(hF b h2).elim hn fun h3=>by omega) i x (h.u8 b hb hn i x hx)⟩
theorem Ag.Uc {p:Nat} (h:iW F w w'):Ag p F w w':=⟨h.mono fun b _ hb=>.inr hb,fun b hb hn i x hx=>(h.cell (p:=⟨b,i,none⟩) hb hn).trans hx⟩
theorem Rd.chS {p n:Nat} {f:Nat->Int} (h:Rd .u8 w v n f) (hc:Ag p F w w') (gB:0<n->∀b,v.ownBlock=some b->¬ F b):Rd .u8 w' v n f:=by
 obtain⟨a,c,rfl,h1,h2,h3,h4⟩:=h;refine⟨a,c,rfl,h1,h2,h3,fun hn=>?_⟩;obtain⟨b,o,rfl,hlt,hcell⟩:=h4 hn;have:=hc.yJ.size;exact⟨b,o,rfl,by omega,fun i hi=>hc.u8 b hlt (gB hn b rfl) _ _ (hcell i hi)⟩
theorem kJ.chS {p:Nat} (h:kJ F w v l) (hc:Ag p F w w') (hF:∀b,F' b->F b\/w.heap.size<=b):kJ F' w' v l:=by
 refine⟨h.ok,h.rd.chS hc h.off,fun hn b hb hf=>?_⟩;rcases hF b hf with h1 | h1
 ·exact h.off hn b hb h1
 ·have:=h.rd.Zr hn hb;omega
theorem kJ.nil (F:Nat->Prop) (w:World):kJ F w (.slice none 0 0) [] :=⟨(fun _ h=>by cases h),Rd.nil _ _ _,aL⟩
theorem kJ.own {e:TypeId} {N n:Nat} {f:Nat->Int} (h:Own .u8 e N w v n f) (hf:∀i,i<n->0<=f i/\f i<256) (hF:∀b,F b->b<N):kJ F w v (mW n f):=
 ⟨wP hf,h.rd.mW,fun _ b hb hFb=>by have:=h.block b hb;have:=hF b hFb;omega⟩
theorem kJ.slice (h:kJ F w v l):∃a c,v=.slice a l.length c:=by obtain⟨a,c,e,_⟩:=h.rd;exact⟨a,c,e⟩
end
end Go.bC
namespace Go.Proofs.YtpcjekgfnfjbpaaGreat
open Go.RowKit Go.bC Go.ChangeShapes Go.Maps
attribute [local go_sem ↓] Go.wp_at_zero Go.wp_at_succ
section
variable {B : Nat} {w w' : World} {p mb mt : Nat} {vl vb : Value} {tv : Nat -> Value} {S : TS}
theorem PI (h:CU B w p mb mt vl vb tv S) (n:Int) (hn:ig S.l n 9=false):Calls Tryz.prog 62 #[.pointer (some ⟨p,0,none⟩),.int .i64 n] w fun e w'=>e=.returned (.tuple #[.slice none 0 0,.bool false])/\w'=w:=by
 have H:=ak h;have HN:=ak hn;clear h hn
 go_enter Tryz.func62,Tryz.ntmps62
 go_wp2_with fail;refine(qE H.out).mono ?_;rintro e w1' ⟨rfl,rfl⟩;go_wp2_with fail;refine(iC H.out n 9).mono ?_;rintro e w2 ⟨rfl,rfl⟩;rw[HN.out];go_wp2;go_ret2;exact⟨rfl,rfl⟩
theorem LD (h:CU B w p mb mt vl vb tv S) (a j:Nat) (b:List Int) (z:Int) (ha:S.l[a]? =some (9,(j:Int),z)) (hb:S.tx[j]? =some b) (hl:S.l.length<=1000) (hx:S.tx.length<=1000):
  Calls Tryz.prog 62 #[.pointer (some ⟨p,0,none⟩),.int .i64 (a:Int)] w fun e w'=> ∃v,e=.returned (.tuple #[v,.bool true])/\Rd .u8 w' v b.length (bf b)/\Below w.heap.size w w':=by
 have H:=ak h;have HN:Hid (ig S.l (a:Int) 9=true):=ak (qj.2 ⟨a,rfl,_,ha,.inr rfl⟩);have c0:=h.c0;have c3:=h.c3;have hla:=(List.getElem?_eq_some_iff.1 ha).1;have hlb:=(List.getElem?_eq_some_iff.1 hb).1;obtain⟨g,cap,ev,_,_,_,hc⟩:=h.ls.form aH;obtain⟨g2,cap2,ev2,_,_,_,hc2⟩:=h.bs.form aH;have HO:=ak (h.bt j b hb);obtain⟨au,cu,eu,_⟩:=(h.bt j b hb).zH.slice;have c1:w.cell? ⟨g,a * 3+1,none⟩=some (.int .i64 (j:Int)):=(hc a hla 1 aN).trans (congrArg some (FU ha));have c2:w.cell? ⟨g2,j,none⟩=some (.slice au b.length cu):=by
  have:=hc2 j hlb 0 aN;rw[Nat.mul_one,Nat.add_zero,eu] at this;exact this
 rw[eu] at HO;rw[ev] at c0;rw[ev2] at c3;have h1:(a:Int)<(S.l.length:Int):=by omega
 have h2:(j:Int)<(S.tx.length:Int):=by omega
 have h3:(a:Int)<1000000:=by omega
 have h4:(j:Int)<1000000:=by omega
 have HBL:Hid (b.length<=1048576):=ak (h.okx b (List.mem_of_getElem? hb)).2;clear h ha hb hc hc2 ev ev2 eu hl hx
 go_enter Tryz.func62,Tryz.ntmps62
 go_wp2_with fail;refine(qE H.out).mono ?_;rintro e w1' ⟨rfl,rfl⟩;go_wp2_with fail;refine(iC H.out a 9).mono ?_;rintro e w2 ⟨rfl,rfl⟩;rw[HN.out];go_upto_region 3 with(fail)
 apply ji (n:=30) [.e,.e,.e,.e,.e,.e,.e,.e,.e,.e,.e,.e,.e,.e,.c,.c,.e] 2 aS aS aS rfl
 ·intro w5 QU;have d0:=(QU.cell (p:=⟨p,0,none⟩) (World.block_lt_of_cell? _ _ c0)).trans c0;have d3:=(QU.cell (p:=⟨p,3,none⟩) (World.block_lt_of_cell? _ _ c3)).trans c3;have d1:=(QU.cell (p:=⟨g,a * 3+1,none⟩) (World.block_lt_of_cell? _ _ c1)).trans c1;have d2:=(QU.cell (p:=⟨g2,j,none⟩) (World.block_lt_of_cell? _ _ c2)).trans c2;simp only[fK,Cl.II,cond_true,cond_false]
  repeat still_step
  exact wpStill_nil rfl
 ·intro w5;simp only[fK,Cl.Xu,cond_true,cond_false]
  repeat still_step
  exact wpStill_nil rfl
 ·simp only[fK,Cl.qg,cond_true,cond_false];refine qw ((bT _ _).drew) (fun K hK=>?_)
  go_simp
  refine(yI _ _ _ _ ((HO.out.below ((bT w2.heap.size w2).drew)).rd) (by have:=HBL.out;omega)).mono ?_;rintro e w5 ⟨u,rfl,hu,b5⟩;have Pd:Below w2.heap.size w2 w5:=((bT w2.heap.size w2).drew).trans b5;refine hK _ _ Pd ?_;clear hK K;have HU:=ak hu.rd;obtain⟨a5,c5,e5,_⟩:=hu.zH.slice;subst e5;refine qw Pd (fun K hK=>?_)
  go_simp
  refine hK _ _ Pd (qp ?_);clear hK K;go_wp2;refine EF ?_;go_wp2;go_ret2;exact⟨_,rfl,HU.out,Pd⟩
end
end Go.Proofs.YtpcjekgfnfjbpaaGreat
namespace Go.Proofs.YtpcjekgfnfjbpaaGreat
open Go.RowKit Go.bC
def vB (S:TS) (v x g:List Int):Int:=match qO S v,qO S g with
 | some n,some m=>if kdT S m=8/\kdT S n=3/\(qD S.l n).2.1=(qD S.l m).2.1/\Ik S (qD S.l m).2.2=(x,true) then 0 else 22
 | _,_=>11
end Go.Proofs.YtpcjekgfnfjbpaaGreat
namespace Go.Proofs.YtpcjekgfnfjbpaaGreat
open Go.RowKit Go.bC Go.ChangeShapes Go.Maps
attribute [local go_sem ↓] Go.wp_at_zero Go.wp_at_succ
theorem SQ (w:World):Calls Tryz.prog 106 #[] w fun e w'=> ∃p F,e=.returned (.pointer (some ⟨p,0,none⟩))/\zR w.heap.size w' p F ⟨[], []⟩/\Below w.heap.size w w':=by
 have HM:=ak (xU.made Tryz.prog 96 3 w (fun i=>lv LC [] i 0) (fun i=>match ([] :List Tm)[i]? with | some x=>wU (DC [] x) | none=>undef));have HM2:=ak (xU.made Tryz.prog 9 3 (w.alloc (.map #[] 0)) (fun i=>lv txV [] i 0) (fun i=>match ([] :List (List Int))[i]? with | some x=>wU (IY ⟨[], []⟩ x) | none=>undef));have hmk:∀w,(Instr.makeMap 160 none).run Tryz.prog w=.ok (.map (some w.heap.size)) (w.alloc (.map #[] 0)):=fun w=>rfl;have aqG:∀w,(Instr.makeMap 161 none).run Tryz.prog w=.ok (.map (some w.heap.size)) (w.alloc (.map #[] 0)):=fun w=>rfl
 go_enter Tryz.func106,Tryz.ntmps106
 go_wp2;go_ret;obtain⟨W2,hW2⟩:∃W2,(w.alloc (.map #[] 0)).alloc (.map #[] 0)=W2:=⟨_,rfl⟩
 have b1:Below w.heap.size w W2:=by rw[<-hW2];exact((bT _ _).alloc (bB _) _).alloc aR _
 have hs:W2.heap.size=w.heap.size+1+1:=by rw[<-hW2];simp
 have m1:=(HM.out.alloc (.map #[] 0))
 have m2:=HM2.out;rw[hW2] at m1 m2;rw[World.size_alloc] at m2;rw[hW2,←hs];obtain⟨O,hO⟩:∃O,O=Obj.cells #[.slice none 0 0,.map (some w.heap.size),.map (some (w.heap.size+1)),.slice none 0 0,.int .i64 0,.int .i64 0,.int .i64 0,.int .i64 0,.int .i64 0] 164:=⟨_,rfl⟩
 have hb:=heap_alloc_new W2 (.cells #[.slice none 0 0,.map (some w.heap.size),.map (some (w.heap.size+1)),.slice none 0 0,.int .i64 0,.int .i64 0,.int .i64 0,.int .i64 0,.int .i64 0] 164);have hc:=fun i=>cell_of_row _ _ i _ _ (0,0) hb;refine⟨W2.heap.size,_,rfl,⟨w.heap.size,w.heap.size+1,.slice none 0 0,.slice none 0 0,fun _=>.slice none 0 0,⟨⟨⟨_,hb,rfl⟩,hc 0,hc 1,hc 2,hc 3,fun k hk=>?_,kZ.nil _ _ _ _,m1.alloc _,m2.alloc _,kZ.nil _ _ _ _,fun j b hj=>(by simp at hj),by omega,by omega,bB _,by omega,fun b hb=>(by cases hb),fun b hb=>(by cases hb)⟩,List.nodup_nil,List.nodup_nil,fun j hj=>absurd hj (Nat.not_lt_zero _),fun t ht=>(by cases ht),fun b hb=>(by cases hb)⟩,TS.Ok.empty,fun b=>Iff.rfl⟩,b1.alloc b1.size _⟩;rcases(by omega:k=0\/k=1\/k=2\/k=3\/k=4) with rfl | rfl | rfl | rfl | rfl<;> exact hc _
theorem Tp {B:Nat} {w:World} {p:Nat} {F:Nat->Prop} {S:TS} (h:zR B w p F S):Calls Tryz.prog 115 #[.pointer (some ⟨p,0,none⟩)] w fun e w'=>e=.returned (wU S.l.length)/\w'=w:=by
 obtain⟨mb,mt,vl,vb,tv,h1,_,_⟩:=h;exact SV h1
theorem LZ {B:Nat} {w:World} {p:Nat} {F:Nat->Prop} {S:TS} (h:zR B w p F S) (n:Int) (hl:S.l.length<=1000) (hx:S.tx.length<=1000):Calls Tryz.prog 62 #[.pointer (some ⟨p,0,none⟩),.int .i64 n] w fun e w'=> ∃v,e=.returned (.tuple #[v,.bool (Ik S n).2])/\Rd .u8 w' v (Ik S n).1.length (bf (Ik S n).1)/\Below w.heap.size w w':=by
 obtain⟨mb,mt,vl,vb,tv,h1,h2,_⟩:=h;unfold Ik;by_cases hn:ig S.l n 9=true
 ·rw[if_pos hn];obtain⟨a,rfl,⟨k,A,z⟩,ht,hk⟩:=qj.1 hn;have hk9:k=9:=hk.elim (aL) id;subst hk9;obtain⟨j,rfl,hj⟩:∃j:Nat,A=j/\j<S.tx.length:=by
   rcases h2.ok a _ ht with⟨h1,_⟩ | ⟨h1,_⟩ | ⟨h1,_⟩ | ⟨h1,_⟩ | ⟨h1,_⟩ | ⟨_,⟨j,h1,h2⟩,_⟩ | ⟨h1,_⟩
   ·simp only at h1;omega
   ·simp only at h1;omega
   ·simp only at h1;omega
   ·simp only at h1;omega
   ·simp only at h1;omega
   ·exact⟨j,h1,h2⟩
   ·simp only at h1;omega
  have e:=LD h1 a j S.tx[j] z ht (tO hj) hl hx;rw[Ct,FV ht];show Calls _ _ _ _ fun e w'=> ∃v,e=.returned (.tuple #[v,.bool true])/\Rd .u8 w' v (S.tx.getD j []).length (bf (S.tx.getD j []))/\_;rw[IK,tO hj];exact e
 ·rw[if_neg hn];refine(PI h1 n (by simpa using hn)).mono ?_;rintro e w' ⟨rfl,rfl⟩;exact⟨_,rfl,(Go.bC.Own.nil .u8 5 0 w' (bf [])).rd,bT _ _⟩
structure lC (w:World) (p:Nat) (kd:Int) (sd:Nat->Int) (n:Int) (s:Value):Prop where
 row:nI w p 105 35
 ck:w.cell? ⟨p,0,none⟩=some (.int .i64 kd)
 cs:∀i,i<32->w.cell? ⟨p,1+i,none⟩=some (.int .u8 (sd i))
 cn:w.cell? ⟨p,33,none⟩=some (.int .i64 n)
 cp:w.cell? ⟨p,34,none⟩=some s
section
variable {B : Nat} {w w' : World} {p q : Nat} {F G G' : Nat -> Prop} {S S' : TS} {kd n : Int} {sd : Nat -> Int} {s : Value}
theorem lC.keep (h:lC w p kd sd n s) (hc:iW F w w') (hF:¬ F p):lC w' p kd sd n s:=
 have hl:=h.row.lt
 ⟨h.row.heap (hc.block p hl hF),(hc.cell (p:=⟨p,0,none⟩) hl hF).trans h.ck,fun i hi=>(hc.cell (p:=⟨p,1+i,none⟩) hl hF).trans (h.cs i hi),(hc.cell (p:=⟨p,33,none⟩) hl hF).trans h.cn,(hc.cell (p:=⟨p,34,none⟩) hl hF).trans h.cp⟩
theorem lC.below (h:lC w p kd sd n s) (hb:Below w.heap.size w w'):lC w' p kd sd n s:=h.keep (.of_below hb fun _=>False) id
theorem lC.rd (h:lC w p kd sd n s):Rd .u8 w (.slice (some ⟨p,1,none⟩) 32 32) 32 sd:=⟨_,_,rfl,bB _,by decide,(fun h=>by cases h),fun _=>⟨p,1,rfl,h.row.lt,h.cs⟩⟩
structure RB (B:Nat) (w:World) (p q:Nat) (G:Nat->Prop) (S:TS):Prop where
 r:lC w p 2 (fun _=>0) 0 (.pointer (some ⟨q,0,none⟩))
 st:zR B w q G S
 few:S.few
 hp:B<=p
 np:¬ G p
def zQ (B:Nat) (w:World) (p:Nat) (F:Nat->Prop) (S:TS):Prop:=∃q G,RB B w p q G S/\∀b,F b ↔ b=p\/G b
theorem RB.below (h:RB B w p q G S) (hb:Below w.heap.size w w'):RB B w' p q G S:=⟨h.r.below hb,h.st.below hb,h.few,h.hp,h.np⟩
theorem RB.hB (h:RB B w p q G S):B<=w.heap.size:=jS h.hp (Nat.le_of_lt h.r.row.lt)
theorem RB.lt (h:RB B w p q G S) {b:Nat} (hb:b=p\/G b):b<w.heap.size:=by
 rcases hb with rfl | hb
 ·exact h.r.row.lt
 ·exact h.st.lt hb
theorem RB.put (h:RB B w p q G S) (h1:zR B w' q G' S') (hc:iW G w w') (hf:∀b,G' b->G b\/w.heap.size<=b) (hw:S'.few):RB B w' p q G' S':=
 ⟨h.r.keep hc h.np,h1,hw,h.hp,fun hb=>(hf p hb).elim h.np fun h'=>by have:=h.r.row.lt;omega⟩
theorem zQ.below (h:zQ B w p F S) (hb:Below w.heap.size w w'):zQ B w' p F S:=by obtain⟨q,G,h,hF⟩:=h;exact⟨q,G,h.below hb,hF⟩
theorem zQ.hi (h:zQ B w p F S) {b:Nat} (hb:F b):B<=b:=by
 obtain⟨q,G,h,hF⟩:=h;rcases(hF b).1 hb with rfl | hb
 ·exact h.hp
 ·exact h.st.hi hb
theorem zQ.ok (h:zQ B w p F S):S.Ok:=by obtain⟨q,G,h,hF⟩:=h;exact h.st.ok
def Iq (B:Nat) (w:World) (p:Nat) (F:Nat->Prop) (v:Value) (r:TA) (w':World):Prop:=∃F',zQ B w' p F' r.2.2/\kJ F' w' v r.1/\iW F w w'/\∀b,F' b->F b\/w.heap.size<=b
def DF (S:TS) (l:List Int):Int × Bool:=match qO S l with | some n=>((n:Int),true) | none=>(0,false)
def Lf (S:TS) (l:List Int):Int × Tm × Int:=match qO S l with | some n=>((n:Int),qD S.l n,0) | none=>(0,(0,0,0),11)
theorem eB (h:lC w p kd sd n s):Calls Tryz.prog 63 #[.pointer (some ⟨p,0,none⟩)] w fun e w'=>e=.returned (.int .i64 kd)/\w'=w:=by
 have ck:=h.ck;clear h
 go_enter Tryz.func63,Tryz.ntmps63
 go_wp2;go_ret;exact⟨rfl,rfl⟩
theorem uS (n:Int) (h0:0<=n) (h1:n<=4611686018427387904) (w:World):Calls Tryz.prog 77 #[.int .i64 n,.int .i64 0] w fun e w'=> ∃v,e=.returned (.tuple #[v,.int .i64 0])/\Go.bC.Own .u8 5 w.heap.size w' v 9 (fO 1 (fun _=>247) (wM n))/\Below w.heap.size w w':=by
 have HP:=ak (fun w=>Mj n 8 w aN aN h0 h1 (aL));clear h0 h1
 go_enter Tryz.func77,Tryz.ntmps77
 go_wp2_with fail;refine(HP.out _).mono ?_;rintro e w1 ⟨u,rfl,hu,b1⟩;have HU:=ak (hu.rd);have B1:=ak b1;obtain⟨au,cu,rfl,_⟩:=hu.rd;clear hu b1;go_wp2_with (at_builtin;refine fH rfl _ _ 23 rfl w.heap.size 5 .u8 1 lK pI _ 1 (fO 1 (fun _=>247) (wM n)) (Go.bC.Own.new .u8 _ w1 _ 1 _ B1.out.size aN rfl (fun i hi=>jU hi (by obtain rfl:i=0:=aH;rfl))) rfl _ 8 (wM n) (HU.out.below ((bT _ _).alloc (bB _) _)) rfl (fun i _=>jQ) aN aN (by have:=B1.out.size;rw[World.size_alloc];omega) ?_;intro v5 w5 bM hgr);have HO:=ak bM;have B5:Hid (Below w.heap.size w w5):=ak (below_grown (B1.out.alloc B1.out.size _) hgr (Go.bC.Own.new .u8 5 (base:=w.heap.size) w1 #[.int .u8 247] 1 (fun _=>247) B1.out.size aN rfl (fun i hi=>jU hi rfl)) (by have:=B1.out.size;rw[World.size_alloc];omega) (bB _));go_ret2;exact⟨_,rfl,HO.out,B5.out⟩
end
section
variable {B : Nat} {w w' : World} {p q : Nat} {F G G' : Nat -> Prop} {S S' : TS} {kd n : Int} {sd : Nat -> Int} {s : Value} {v : Value} {l : List Int}
theorem FX (h:zQ B w p F S) (hb:kJ F w v l) (hl:S.l.length<=1000):Calls Tryz.prog 59 #[.pointer (some ⟨p,0,none⟩),v] w fun e w'=>e=.returned (.tuple #[.int .i64 (DF S l).1,.bool (DF S l).2])/\Below w.heap.size w w':=by
 obtain⟨q,G,hq,hF⟩:=h;have HW:=ak (eB hq.r);have HB:=ak hb.rd;have HL:=ak hl;obtain⟨N,hN⟩:∃x,x=DF S l:=⟨_,rfl⟩
 rw[<-hN];have HN:=ak hN;by_cases h9:l.length=9
 ·rw[h9] at HB;obtain⟨av,cv,rfl,hc1,hc2,_,hc⟩:=HB.out;obtain⟨b,o,rfl,hblt,hcell⟩:=hc aN;have c0:=hcell 0 aN;rw[Nat.add_zero] at c0;by_cases h0:bf l 0=247
  ·rw[h0] at c0;obtain⟨a',_,hr,hrd⟩:=Rd.cut (P:=Tryz.prog) lK pI (some ⟨b,o,none⟩) 9 cv 1 9 aN (bB _) hc1;have HT:Hid (Rd .u8 w (.slice a' 8 (cv - 1)) 8 (SL l)):=ak ((hrd w _ HB.out).2);have hr:∀w,(Instr.sliceAt 23 (.slice (some ⟨b,o,none⟩) 9 cv) (some (.int .i64 1)) none none).run Tryz.prog w=.ok (.slice a' 8 (cv - 1)) w:=hr;obtain⟨C,hC⟩:∃C,C=cv - 1:=⟨_,rfl⟩
   rw[<-hC] at HT hr;have NV:=ak hr;have ahf:Hid (∀i,i<8->0<=SL l i/\SL l i<256):=ak fun i hi=>hb.ok.at _ aH;obtain⟨E,hE⟩:∃x,x=qR (SL l) 8:=⟨_,rfl⟩
   obtain⟨X,hX⟩:∃x,x=mV (SL l) 8:=⟨_,rfl⟩
   have HG:=ak (fun w1 h=>Zf (.slice a' 8 C) 8 (SL l) w1 h ahf.out);rw[<-hE,←hX] at HG;have HST:=ak hq.st;have cp:=hq.r.cp;have HR:=ak hq.r;have gB:((247:Int) !=247)=false:=rfl;have hE0:N=if E=0/\X<S.l.length then (X,true) else (0,false):=by
    rw[hN];unfold DF qO;by_cases hc:E=0/\X<S.l.length
    ·have h0':0<=mV (SL l) 8:=uN fun i hi=>(ahf.out i hi).1;rw[if_pos ⟨h9,h0,hE▸hc.1,hX▸hc.2⟩,if_pos hc];simp only[hX];rw[Int.toNat_of_nonneg h0']
    ·rw[if_neg (fun h=>hc ⟨hE.trans h.2.2.1,by rw[hX];exact h.2.2.2⟩),if_neg hc]
   have Sl:=ak hE0;have hr:=NV.out;clear hE0 hE hX hC hrd hc hcell hN hF hq hb hl h0
   go_enter Tryz.func59,Tryz.ntmps59
   go_wp2_with fail;refine HW.out.mono ?_;rintro e w1 ⟨rfl,rfl⟩;go_wp2_with fail;refine(HG.out _ HT.out).mono ?_;rintro e w2 ⟨rfl,b2⟩;have NU:=ak (HST.out.below b2);have cp:=(HR.out.below b2).cp;have B2:=ak b2;clear b2;by_cases e0:E=0
   ·subst e0;have hz:((0:Int) !=0)=false:=rfl;go_wp2_with fail;refine(Tp NU.out).mono ?_;rintro e w3 ⟨rfl,rfl⟩;by_cases hx:X<S.l.length
    ·have hg:decide ((S.l.length:Int)<=X)=false:=decide_eq_false aH;have HE:Hid (N=(X,true)):=ak (by rw[Sl.out,if_pos ⟨by trivial,hx⟩]);clear hx;go_wp2;go_ret2;rw[HE.out];exact⟨rfl,B2.out⟩
    ·have hg:decide ((S.l.length:Int)<=X)=true:=decide_eq_true aH;have HE:Hid (N=(0,false)):=ak (by rw[Sl.out,if_neg (fun h=>hx h.2)]);clear hx;go_wp2;go_ret2;rw[HE.out];exact⟨rfl,B2.out⟩
   ·have hz:(E !=0)=true:=by simpa using e0
    have HE:Hid (N=(0,false)):=ak (by rw[Sl.out,if_neg (fun h=>e0 h.1)]);clear e0;go_wp2;go_ret2;rw[HE.out];exact⟨rfl,B2.out⟩
  ·have HE:Hid (N=(0,false)):=ak (by rw[HN.out];unfold DF qO;rw[if_neg (fun h=>h0 h.2.1)]);have gB:((bf l 0) !=247)=true:=by simpa using h0
   clear hc hcell hN hF hq hb hl h0
   go_enter Tryz.func59,Tryz.ntmps59
   go_wp2_with fail;refine HW.out.mono ?_;rintro e w1 ⟨rfl,rfl⟩;go_wp2;go_ret2;rw[HE.out];exact⟨rfl,bT _ _⟩
 ·have HE:Hid (N=(0,false)):=ak (by rw[HN.out];unfold DF qO;rw[if_neg (fun h=>h9 h.1)]);obtain⟨av,cv,rfl,hc1,hc2,_,hc⟩:=HB.out;have h9':((l.length:Int) !=9)=true:=by simp;omega
  clear hc hN hF hq hb hl h9
  go_enter Tryz.func59,Tryz.ntmps59
  go_wp2_with fail;refine HW.out.mono ?_;rintro e w1 ⟨rfl,rfl⟩;go_wp2;go_ret2;rw[HE.out];exact⟨rfl,bT _ _⟩
theorem abf {P:Program} {o:Oper} {a:Act} {w:World} {K:Act->World->Prop} {Q:Exit->Act->World->Prop} (x:Operand) (d:Nat) (hop:o.op=.assign x) (hd:o.dst=some d) (h:K (a.put (some d) (a.eval x)) w):o.wp P a w K Q:=by
 rw[<-hd] at h;unfold Oper.wp execOp;simp only[hop];exact h
theorem yV {P:Program} {fn:Func} {p q r:Tmp} {T:TypeId} (h:fn.results=#[.tmp p,.cell q T,.tmp r]) (tmps:Array Value) (w:World) (k:IntKind) (b n:Nat) (f:Nat->Int) {d:TypeDesc}
  (hp:tmps.getD q undef=.pointer (some ⟨b,0,none⟩)) (ha:aQ k w b n f) (hu:P.underlying T=some d) (hd:Cr d=true) (hi:(P.info? T).map (·.size)=some n):
  (results fn tmps).run P w=.ok (.tuple #[tmps.getD p undef,.agg (arr k n f),tmps.getD r undef]) w:=by
 obtain⟨t,ht⟩:=ha;have hp':tmps[q]?.getD undef=.pointer (some ⟨b,0,none⟩):=by simpa using hp
 simp[results,h,hp',asAddr,run_loadVar_row w b t T (arr k n f) (0,0) _ ht hu (by cases d<;> first | rfl | cases hd) (by rw[hi,gW])]
theorem Ja {l:List Tm} {n:Nat} (h:n<l.length):l[n]? =some (qD l n):=by
 unfold qD;rw[IK,tO h]
 rfl
theorem Vx {S:TS} {l:List Int} {n:Nat} (hb:okB l) (h:qO S l=some n):KC S (n:Int)=(qD S.l n,true):=KA (Ja (wQ hb h))
theorem Tryz.size96:(Tryz.prog.info? 96).map (·.size)=some 3:=Tryz.sizeTm
theorem vU (h:zQ B w p F S) (hb:kJ F w v l) (hl:S.l.length<=1000):Calls Tryz.prog 76 #[.pointer (some ⟨p,0,none⟩),v] w fun e w'=>e=.returned (.tuple #[.int .i64 (Lf S l).1,LC (Lf S l).2.1,.int .i64 (Lf S l).2.2])/\Below w.heap.size w w':=by
 have HNU:=ak (fun w1 (b1:Below w.heap.size w w1)=>FX (h.below b1) (hb.below b1) hl);have Cy:=ak hb.ok;obtain⟨q,G,hq,hF⟩:=h;have HQ:=ak hq;obtain⟨N,hN⟩:∃x,x=Lf S l:=⟨_,rfl⟩
 rw[<-hN];have HN:=ak hN;obtain⟨av,cv,rfl,_⟩:=hb.rd;clear hN hq hF hb hl
 go_enter Tryz.func76,Tryz.ntmps76
 go_upto_region 1 with(fail);refine aJ (fun w1=>aQ .i64 w1 w.heap.size 3 (fun _=>0)/\Below w.heap.size w w1) ⟨bU rfl (by rfl),(bT _ _).alloc (bB _) _⟩ ?_;rintro w1 ⟨mU,b1⟩;go_wp2_with fail;refine(HNU.out w1 b1).mono ?_;rintro e w2 ⟨rfl,b2⟩;replace mU:=mU.kept b2;replace b1:=b1.trans (b2.mono b1.size);clear b2
 cases hm:qO S l with
 | none=>
  have HE:Hid (N=(0,(0,0,0),11)):=ak (by rw[HN.out];unfold Lf;rw[hm]);rw[show DF S l=(0,false) from by unfold DF;rw[hm]];clear hm;have HA:=ak mU;have B1:=ak b1;clear mU b1;go_wp2_with (refine aM rfl 96 _ _ rfl .i64 w.heap.size 3 (fun _=>0) (tf (0,0,0)) Tryz.sizeTm rfl rfl HA.out ?_);rw[HE.out];exact bodyPost_ret (yV rfl _ _ .i64 w.heap.size 3 _ rfl (HA.out.setRow _ _) Tryz.underlying96 rfl Tryz.sizeTm) rfl ⟨rfl,aC B1.out (bB _) _⟩
 | some n=>
  have HE:Hid (N=((n:Int),qD S.l n,0)):=ak (by rw[HN.out];unfold Lf;rw[hm]);have HG:=ak (Vx Cy.out hm);rw[show DF S l=((n:Int),true) from by unfold DF;rw[hm]];clear hm;have HA:=ak mU;have B1:=ak b1;have HST:=ak (HQ.out.st.below b1);have cp:=(HQ.out.r.below b1).cp;clear mU b1;go_wp2_with fail;refine(SX HST.out n).mono ?_;rw[HG.out];rintro e w3 ⟨rfl,b3⟩;have HA:=ak (HA.out.kept b3);have B3:=ak (B1.out.trans (b3.mono B1.out.size));clear b3 cp;obtain⟨t,ht⟩:∃t,t=qD S.l n:=⟨_,rfl⟩
  rw[<-ht] at HE ⊢;clear ht;have Pm:Hid (w.heap.size<w3.heap.size):=ak HA.out.lt;go_upto_region 5 with(refine aM rfl 96 _ _ rfl .i64 w3.heap.size 3 (fun _=>0) (tf t) Tryz.sizeTm rfl rfl (bU rfl (by rfl)) ?_);refine aJ (fun w4=>aQ .i64 w4 w.heap.size 3 (fun _=>0)/\aQ .i64 w4 w3.heap.size 3 (tf t)/\Below w.heap.size w w4) ⟨(HA.out.alloc _).aG _ (Nat.ne_of_lt Pm.out) _,(show aQ .i64 (w3.alloc (.cells #[.int .i64 0,.int .i64 0,.int .i64 0] 96)) w3.heap.size 3 (fun _=>0) from bU rfl (by rfl)).setRow 3 (tf t),aC (B3.out.alloc B3.out.size _) B3.out.size _⟩ ?_;rintro w4 ⟨h4,h5,aA⟩;have hlt:=Pm.out;obtain⟨N3,hN3⟩:∃x,x=w3.heap.size:=⟨_,rfl⟩
  rw[<-hN3] at hlt h5 ⊢;clear hN3
  refine oW (n:=31) 4 rfl aN aS aS aS aS rfl
   (fun ii vv ww=>(match ii with | 0 | 2=>vv=.int .i64 ((n:Int)) | 1=>vv=.agg (arr .i64 3 (tf t)) | _=>True)/\(ii=3->aQ .i64 ww (w.heap.size) 3 (tf t))) 3
   (fun b ww=>(aQ .i64 ww (N3) 3 (tf t)/\Below w.heap.size w ww)/\(b=false->aQ .i64 ww ((w.heap.size)) 3 (fun _=>0))) ⟨⟨h5.drew,aA.drew⟩,fun _=>h4.drew⟩
   (fun i ww w'=>match i with | 3=>((aQ .i64 ww (N3) 3 (tf t)/\Below w.heap.size w ww)->(aQ .i64 w' (N3) 3 (tf t)/\Below w.heap.size w w')) | _=>Below ww.heap.size ww w') ?_ ?_ ?_ ?_ rfl ?_ ?_
  ·intro i ww;(try dsimp only);split
   ·exact id
   ·exact bT _ _
  ·intro i b ww w' hi hR hE;have hE':Below ww.heap.size ww w':=by(try dsimp only at hE);split at hE;(· exact absurd rfl hi);exact hE
   obtain⟨⟨q0,qb⟩,mQ⟩:=hR;exact⟨⟨q0.kept hE',qb.trans (hE'.mono qb.size)⟩,fun hb=>(mQ hb).kept hE'⟩
  ·intro ww w' hR hE;exact⟨hE hR.1,fun h=>by cases h⟩
  ·intro i j b v ww w' jw hjb hR hS hE;refine⟨hS.1,fun e=>?_⟩;subst e;have hE':Below ww.heap.size ww w':=by(try dsimp only at hE);split at hE;(· exact absurd rfl jw);exact hE
   exact(hS.2 rfl).kept hE'
  ·refine cB ?_;refine⟨?_,?_,?_,?_,(fun h=>absurd rfl h),trivial⟩
   ·intro _ b a w2 hcb hB0 hF hd;obtain⟨⟨h5,aA⟩,mQ⟩:=hB0;have hB:=bT w2.heap.size w2;exact aO <| aB _ (.inl rfl) aR ⟨(hF.same 7 rfl),aL⟩
   ·intro _ b a w2 hcb hB0 hF hd;obtain⟨⟨h5,aA⟩,mQ⟩:=hB0;have hB:=bT w2.heap.size w2;exact aO <| aT (aF rfl Tryz.underlying96 rfl Tryz.size96 (hF.same 9 rfl) (h5.below hB h5.lt)) ⟨rfl,aL⟩
   ·intro _ b a w2 hcb hB0 hF hd;obtain⟨⟨h5,aA⟩,mQ⟩:=hB0;have hB:=bT w2.heap.size w2;exact aO <| aB _ (.inr rfl) aR ⟨((hd 0 _ rfl (aj rfl)).1),aL⟩
   ·intro _ b a w2 hcb hB0 hF hd;obtain⟨⟨h5,aA⟩,mQ⟩:=hB0;have hB:=bT w2.heap.size w2;refine aO <| bE 96 _ _ rfl .i64 ((w.heap.size)) 3 (fun _=>0) (tf t) Tryz.size96 (hF.same 5 rfl) ((hd 1 _ rfl (aj rfl)).1) (mQ (hcb rfl)) ?_;exact⟨_,rfl,fun _=>rfl,⟨trivial,fun _=>(mQ (hcb rfl)).setRow _ _⟩,fun⟨p0,p1⟩=>⟨p0.aG _ aH _,aC p1 aH _⟩⟩
  ·intro b a w5 hB0 hF hS;have V3:=(hS 3 _ rfl aN).2 rfl;obtain⟨⟨h5,aA⟩,_⟩:=hB0;obtain⟨xl,hxl⟩:∃x,x=a.tmps.getD 6 undef:=⟨_,rfl⟩
   have ha:=aP rfl rfl hF [_,_,_,undef,xl] rfl ⟨(hS 0 _ rfl aN).1,(hS 1 _ rfl aN).1,(hS 2 _ rfl aN).1,trivial,hxl.symm,trivial⟩;simp only[puts,Act.put,dK,dL,dM] at ha;subst ha;clear hS hF hxl;refine abf (.const (.int .i64 (0))) 6 rfl rfl ?_;simp only[Act.put,dK,dL,dM];have hb:=aA;go_wp2;rw[HE.out];exact bodyPost_ret (yV rfl _ _ .i64 w.heap.size 3 _ rfl V3 Tryz.underlying96 rfl Tryz.sizeTm) rfl ⟨rfl,hb⟩
end
section
variable {B : Nat} {w w' w1 w2 w3 : World} {p q : Nat} {F G G' : Nat -> Prop} {S S' : TS} {kd n : Int} {sd : Nat -> Int} {s : Value} {v u : Value} {l : List Int}
theorem FY (h:RB B w p q G S) (hF:∀b,F b ↔ b=p\/G b) (hb:Below w.heap.size w w') (er:Int):Iq B w p F (.slice none 0 0) ([],er,S) w':=
 ⟨F,⟨q,G,h.below hb,hF⟩,kJ.nil _ _,.of_below hb _,fun b hb=>.inl hb⟩
theorem LM (h:RB B w p q G S) (hF:∀b,F b ↔ b=p\/G b) (hb:Below w.heap.size w w1) (h1:zR B w2 q G' S') (hc:iW G w1 w2) (hf:∀b,G' b->G b\/w1.heap.size<=b) (hw:S'.few)
  {e:TypeId} (ho:Go.bC.Own .u8 e w2.heap.size w3 u 9 (fO 1 (fun _=>247) (wM n))) (fP:Below w2.heap.size w2 w3) (er:Int):Iq B w p F u (uw n,er,S') w3:=by
 have hQ:=(h.below hb).put h1 hc hf hw;refine⟨fun b=>b=p\/G' b,⟨q,G',hQ.below fP,fun _=>Iff.rfl⟩,kJ.own ho (fU (n:=1) (m:=8) (fun _ _=>by decide) fun i _=>Gu n i) fun b hb=>hQ.lt hb,?_,fun b hb'=>?_⟩
 ·exact((iW.of_below hb F).trans (hc.mono (G:=F) fun b _ hg=>(hF b).2 (.inr hg)) fun _ _ h=>h).trans (iW.of_below fP F) fun _ _ h=>h
 ·rcases hb' with rfl | hb'
  ·exact .inl ((hF b).2 (.inl rfl))
  ·exact(hf b hb').imp (fun h=>(hF b).2 (.inr h)) fun h'=>jS hb.size h'
theorem Kw {S:TS} {n:Nat} (h:n<S.l.length):ig S.l (n:Int) 0=true:=qj.2 ⟨n,rfl,_,tO h,.inl rfl⟩
theorem abW {S:TS} {k:Int} (hk:k=2\/k=3\/k=6\/k=7) {n:Nat} (h:n<S.l.length):nY S (k,(n:Int),0)=true:=by
 rcases hk with rfl | rfl | rfl | rfl
 ·rw[Un,Kw h];rfl
 ·rw[Um,Kw h];rfl
 ·rw[Ul,Kw h];rfl
 ·rw[Uk,Kw h];rfl
theorem Ot {S:TS} {t:Tm} (h:nY S t=true):(rQ S t).2=0/\0<=(rQ S t).1/\(rQ S t).1<=S.l.length:=by
 unfold rQ;rw[if_pos h];refine⟨rfl,?_⟩
 split
 ·rename_i hin
  have:=uY hin;simp only;omega
 ·simp only;omega
theorem Ow {k n m:Int} (hk:0<=k/\k<=10) (hn:0<=n/\n<=1000000) (hm:0<=m/\m<=1000000):Bj (k,n,m):=⟨⟨by simp only;omega,by simp only;omega⟩,⟨by simp only;omega,by simp only;omega⟩,⟨by simp only;omega,by simp only;omega⟩⟩
theorem Ej (h:zQ B w p F S) (k:Int) (hk:k=2\/k=3\/k=6\/k=7) (hb:kJ F w v l) (hl:S.l.length<=900):Calls Tryz.prog 91 #[.pointer (some ⟨p,0,none⟩),.int .i64 k,v] w fun e w'=> ∃u,e=.returned (.tuple #[u,.int .i64 (sP k S l).2.1])/\Iq B w p F u (sP k S l) w':=by
 have HO:=ak (vU h hb aH);have Cy:=ak hb.ok;obtain⟨q,G,hq,hF⟩:=h;have HQ:=ak hq;have HF:=ak hF;have HK:=ak hk;have HL:=ak hl;obtain⟨R,hR⟩:∃x,x=sP k S l:=⟨_,rfl⟩
 rw[<-hR];have HR:=ak hR;obtain⟨av,cv,rfl,_⟩:=hb.rd;clear hR hq hF hb hl hk
 go_enter Tryz.func91,Tryz.ntmps91
 go_wp2_with fail;refine HO.out.mono ?_;rintro e w1 ⟨rfl,b1⟩;have B1:=ak b1;clear b1;obtain⟨A,hA⟩:∃x,x=Lf S l:=⟨_,rfl⟩
 rw[<-hA];have HA:=ak hA;clear hA;go_upto_region 2 with(fail);refine aJ (fun w2=>Below w.heap.size w w2) (B1.out.alloc B1.out.size _) ?_;rintro w2 b2;have B2:=ak b2;clear b2
 cases hm:qO S l with
 | none=>
  have HE:Hid (R=([],11,S)):=ak (by rw[HR.out];unfold sP;rw[hm]);obtain rfl:A=(0,(0,0,0),11):=by rw[HA.out];unfold Lf;rw[hm]
  clear hm HA;go_wp2;go_ret2;rw[HE.out];exact⟨_,rfl,FY HQ.out HF.out B2.out 11⟩
 | some m=>
  have HN:=ak (wQ Cy.out hm);have HE:Hid (R=(uw (rQ S (k,m,0)).1,0,S.put (k,m,0))):=ak (by rw[HR.out];unfold sP;rw[hm]);obtain⟨t,ht⟩:∃t,t=qD S.l m:=⟨_,rfl⟩
  obtain rfl:A=((m:Int),t,0):=by rw[HA.out,ht];unfold Lf;rw[hm]
  clear hm HA ht;have HP:=ak (Ot (abW HK.out HN.out));have Xi:Hid (Bj (k,(m:Int),0)):=ak (Ow (by have:=HK.out;omega) (by have:=HN.out;have:=HL.out;omega) aH);have cp:=(HQ.out.r.below B2.out).cp;go_wp2_with fail;refine(Jc (HQ.out.st.below B2.out) (HQ.out.below B2.out).hB _ Xi.out (by have:=HL.out;omega)).mono ?_;rintro e w3 ⟨rfl,G3,h3,c3,f3⟩;rw[HP.out.1];obtain⟨X,hX⟩:∃X,X=(rQ S (k,(m:Int),0)).1:=⟨_,rfl⟩
  rw[<-hX] at HP HE ⊢;have HX:=ak HP.out.2;have H3:=ak h3;have C3:=ak c3;have F3:=ak f3;have HW:Hid ((S.put (k,(m:Int),0)).few):=ak (HQ.out.few.put (by have:=HK.out;simp only;omega));clear hX h3 c3 f3 cp HP;go_wp2_with fail;refine(uS X HX.out.1 (by have:=HX.out.2;have:=HL.out;omega) w3).mono ?_;rintro e w4 ⟨u,rfl,hu,b4⟩;have HD:=ak (LM HQ.out HF.out B2.out H3.out C3.out F3.out HW.out hu b4 0);clear hu b4;go_wp2;go_ret2;rw[HE.out];exact⟨_,rfl,HD.out⟩
theorem agb {S:TS} {n:Nat} {k:Int} (h:n<S.l.length) (hk:kdT S n=k):ig S.l (n:Int) k=true:=qj.2 ⟨n,rfl,_,Ja h,.inr hk⟩
end
section
variable {B : Nat} {w w' w1 w2 w3 : World} {p q : Nat} {F G G' : Nat -> Prop} {S S' : TS} {kd n : Int} {sd : Nat -> Int} {s : Value} {v u v' : Value} {l l' : List Int}
theorem Eo (h:zQ B w p F S) (s:Int) (hl:S.l.length<=900):Calls Tryz.prog 26 #[.pointer (some ⟨p,0,none⟩),.int .i64 s] w fun e w'=> ∃u,e=.returned (.tuple #[u,.int .i64 (xA S s).2.1])/\Iq B w p F u (xA S s) w':=by
 obtain⟨q,G,hq,hF⟩:=h;have HQ:=ak hq;have HF:=ak hF;have HL:=ak hl;have HW:=ak (eB hq.r);obtain⟨R,hR⟩:∃x,x=xA S s:=⟨_,rfl⟩
 rw[<-hR];have HR:=ak hR;have ck:=hq.r.ck;have cp:=hq.r.cp;clear hR hq hF hl;by_cases hs:1<=s/\s<=4
 ·have HS:Hid (isSort s=true):=ak (by unfold isSort;rw[decide_eq_true hs.1,decide_eq_true hs.2];rfl);have HN:Hid (xR S.l s<=oz):=ak (by have:=HQ.out.few s;have:=HL.out;unfold oz;omega);have HE:Hid (R=(uw S.l.length,0,S.draw s)):=ak (by rw[HR.out];unfold xA;rw[if_pos HS.out]);have HA:Hid (zo S s=((S.l.length:Int),0)):=ak (by unfold zo;rw[if_pos HS.out,if_pos HN.out]);have h1:decide (s<1)=false:=decide_eq_false aH;have h2:decide (4<s)=false:=decide_eq_false aH;clear hs
  go_enter Tryz.func26,Tryz.ntmps26
  go_wp2_with fail;refine HW.out.mono ?_;rintro e w1 ⟨rfl,rfl⟩;go_wp2_with fail;refine(PG HQ.out.st HQ.out.hB s (by have:=HL.out;omega)).mono ?_;rw[HA.out];rintro e w2 ⟨rfl,G3,h3,c3,f3⟩;have H3:=ak h3;have C3:=ak c3;have F3:=ak f3;clear h3 c3 f3 ck cp;go_wp2_with fail;refine(uS (S.l.length:Int) aH (by have:=HL.out;omega) w2).mono ?_;rintro e w4 ⟨u,rfl,hu,b4⟩;have HD:=ak (LM HQ.out HF.out (bT _ _) H3.out C3.out F3.out (HQ.out.few.draw s) hu b4 0);clear hu b4;go_wp2;go_ret2;rw[HE.out];exact⟨_,rfl,HD.out⟩
 ·have HE:Hid (R=([],2,S)):=ak (by
   rw[HR.out];unfold xA;rw[if_neg];intro h;simp only[isSort,NK,decide_eq_true_eq] at h;exact hs h)
  by_cases h1:s<1
  ·have h1':decide (s<1)=true:=decide_eq_true h1;clear hs h1 cp
   go_enter Tryz.func26,Tryz.ntmps26
   go_wp2_with fail;refine HW.out.mono ?_;rintro e w1 ⟨rfl,rfl⟩;go_wp2;go_ret2;rw[HE.out];exact⟨_,rfl,FY HQ.out HF.out (bT _ _) 2⟩
  ·have h1':decide (s<1)=false:=decide_eq_false h1;have h2':decide (4<s)=true:=decide_eq_true aH;clear hs h1 cp
   go_enter Tryz.func26,Tryz.ntmps26
   go_wp2_with fail;refine HW.out.mono ?_;rintro e w1 ⟨rfl,rfl⟩;go_wp2;go_ret2;rw[HE.out];exact⟨_,rfl,FY HQ.out HF.out (bT _ _) 2⟩
theorem Jl (h:zQ B w p F S) (hb:kJ F w v l) (hl:S.l.length<=900):Calls Tryz.prog 33 #[.pointer (some ⟨p,0,none⟩),v] w fun e w'=> ∃u,e=.returned (.tuple #[u,.int .i64 (sP 2 S l).2.1])/\Iq B w p F u (sP 2 S l) w':=by
 have HC:=ak (Ej h 2 aN hb hl);have HW:Hid (Calls Tryz.prog 63 #[.pointer (some ⟨p,0,none⟩)] w fun e w'=>e=.returned (.int .i64 2)/\w'=w):=ak (by obtain⟨q,G,hq,_⟩:=h;exact eB hq.r);obtain⟨R,hR⟩:∃x,x=sP 2 S l:=⟨_,rfl⟩
 rw[<-hR] at HC ⊢;obtain⟨av,cv,rfl,_⟩:=hb.rd;clear hR h hb hl
 go_enter Tryz.func33,Tryz.ntmps33
 go_wp2_with fail;refine HW.out.mono ?_;rintro e w1 ⟨rfl,rfl⟩;go_wp2_with fail;refine HC.out.mono ?_;rintro e w2 ⟨u,rfl,hR⟩;have HR:=ak hR;clear hR;go_wp2;go_ret2;exact⟨u,rfl,HR.out⟩
theorem Df (h:zQ B w p F S) (hb:kJ F w v l) (hl:S.l.length<=900):Calls Tryz.prog 34 #[.pointer (some ⟨p,0,none⟩),v] w fun e w'=> ∃u,e=.returned (.tuple #[u,.int .i64 (sP 3 S l).2.1])/\Iq B w p F u (sP 3 S l) w':=by
 have HC:=ak (Ej h 3 aN hb hl);have HW:Hid (Calls Tryz.prog 63 #[.pointer (some ⟨p,0,none⟩)] w fun e w'=>e=.returned (.int .i64 2)/\w'=w):=ak (by obtain⟨q,G,hq,_⟩:=h;exact eB hq.r);obtain⟨R,hR⟩:∃x,x=sP 3 S l:=⟨_,rfl⟩
 rw[<-hR] at HC ⊢;obtain⟨av,cv,rfl,_⟩:=hb.rd;clear hR h hb hl
 go_enter Tryz.func34,Tryz.ntmps34
 go_wp2_with fail;refine HW.out.mono ?_;rintro e w1 ⟨rfl,rfl⟩;go_wp2_with fail;refine HC.out.mono ?_;rintro e w2 ⟨u,rfl,hR⟩;have HR:=ak hR;clear hR;go_wp2;go_ret2;exact⟨u,rfl,HR.out⟩
end
section
variable {B : Nat} {w w' w1 w2 w3 : World} {p q : Nat} {F G G' : Nat -> Prop} {S S' : TS} {kd n : Int} {sd : Nat -> Int} {s : Value} {v u v' : Value} {l l' : List Int}
theorem zQ.which (h:zQ B w p F S):Calls Tryz.prog 63 #[.pointer (some ⟨p,0,none⟩)] w fun e w'=>e=.returned (.int .i64 2)/\w'=w:=by obtain⟨q,G,hq,_⟩:=h;exact eB hq.r
theorem Bt (h:qO S l=none):Lf S l=(0,(0,0,0),11):=by unfold Lf;rw[h]
theorem Br {n:Nat} (h:qO S l=some n):Lf S l=((n:Int),qD S.l n,0):=by unfold Lf;rw[h]
end
end Go.Proofs.YtpcjekgfnfjbpaaGreat
